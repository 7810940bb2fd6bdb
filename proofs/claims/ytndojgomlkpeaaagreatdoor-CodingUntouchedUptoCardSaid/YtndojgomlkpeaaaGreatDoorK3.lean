/- The shapes of functions of the loaded program, printed by a program of mine; each is proved to be what the model asks of the function. No conditions. (19 texts made one; each says below what it is.) -/
import Derived.Test.YtndojgomlkpeaaaGreatDoorChecked
import Derived.Test.YtndojgomlkpeaaaGreatDoorK2
import Derived.KernelRfl
import Derived.Laws.Externs
import Derived.Lib.Strings
import Derived.Lib.Walk
import Derived.Lib.BufferWrite
import Derived.Lib.UnsafeStr
import Derived.Laws.MakeOwn
import Derived.WalkKit
import Derived.Lib.Slices
import Derived.Lib.Builder
import Derived.Lib.MakeNoZero
import Derived.Laws.IdiomCopy
import Derived.Laws.BitsLemmas
import Derived.Shelf.RegionOpenPlain
import Derived.Lib.IfaceEq
import Derived.Laws.StructEq
set_option linter.unusedVariables false
set_option linter.unusedSimpArgs false
set_option linter.unusedSectionVars false
namespace Go.Proofs.YtndojgomlkpeaaaGreatDoor
namespace S
open Go Sh Sl
def ms (v0 v1 v2:Value)(Kp:PK)(K:Value→WP):WP:=
 jw (fun J1=>
 opN p_ (aj (fn 157) [v0]) Kp fun x11=>
 condS x11
 (J1 x11)
 (opN p_ (ae .lss 3 v2 (.int .i64 0)) Kp fun x13=>
 condS x13
 (J1 x13)
 (opN p_ (ae .gtr 3 v2 (.int .i64 32)) Kp fun x15=>
 condS x15
 (J1 x15)
 (opN p_ (ae .lss 3 v1 (.int .i64 0)) Kp fun x17=>
 condS x17
 (J1 x17)
 (opN p_ (D_ #[3,3] 3 [v2,(.int .i64 32)]) Kp fun x20=>
 opN p_ (GF #[3,3] 3 [(.int .i64 0),x20]) Kp fun x21=>
 opN p_ (bz 3 149 x21) Kp fun x22=>
 opN p_ (ae .shl 3 (.int .i64 1) x22) Kp fun x23=>
 opN p_ (ae .geq 3 v1 x23) Kp fun x24=>
 J1 x24))))) fun _ z9=>
 condS z9
 (K (.int .i64 1))
 (opN p_ (bG v0) Kp fun x28=>
 opN p_ (bB 205 x28 1) Kp fun x29=>
 opN p_ (af 3 x29) Kp fun x30=>
 opN p_ (ae .sub 3 (.int .i64 8388608) x30) Kp fun x31=>
 opN p_ (ae .gtr 3 v2 x31) Kp fun x32=>
 condS x32
 (K (.int .i64 6))
 (opN p_ (aj (fn 204) []) Kp fun x33=>
 opN p_ (aM 266) Kp fun x7=>
 opN p_ (ak 266 x7 x33) Kp fun _=>
 bX (fun I1 m1 _ y35=>
 opN p_ (ae .lss 3 y35 v2) Kp fun x36=>
 condS x36
 (mZ (fun J2=>
 opN p_ (bG v0) Kp fun x39=>
 opN p_ (bB 205 x39 1) Kp fun x40=>
 opN p_ (af 3 x40) Kp fun x41=>
 opN p_ (ae .rem 3 x41 (.int .i64 8)) Kp fun x42=>
 opN p_ (b_ .eql 3 (.tmp 42) (.const (.int .i64 0)) x42 (.int .i64 0)) Kp fun x43=>
 condS x43
 (opN p_ (bG v0) Kp fun x46=>
 opN p_ (bB 205 x46 0) Kp fun x47=>
 opN p_ (af 23 x47) Kp fun x48=>
 opN p_ (aS 23 1 [(0,(.int .u8 0))]) Kp fun x49=>
 opN p_ (cP #[23,23] 23 [x48,x49]) Kp fun x50=>
 opN p_ (bG v0) Kp fun x51=>
 opN p_ (bB 205 x51 0) Kp fun x52=>
 opN p_ (ak 23 x52 x50) Kp fun _=>
 J2)
 (J2)) fun _=>
 mZ (fun J3=>
 opN p_ (bz 3 149 y35) Kp fun x55=>
 opN p_ (ae .shr 3 v1 x55) Kp fun x56=>
 opN p_ (ae .and 3 x56 (.int .i64 1)) Kp fun x57=>
 opN p_ (b_ .eql 3 (.tmp 57) (.const (.int .i64 1)) x57 (.int .i64 1)) Kp fun x58=>
 condS x58
 (e8 (stS p_ (bG v0) fun x60=>
 stS p_ (bB 205 x60 0) fun x61=>
 stS p_ (af 23 x61) fun x62=>
 stS p_ (bG v0) fun x64=>
 stS p_ (bB 205 x64 1) fun x65=>
 stS p_ (af 3 x65) fun x66=>
 stS p_ (ae .quo 3 x66 (.int .i64 8)) fun x67=>
 stS p_ (bR 23 x62 x67) fun x68=>
 stS p_ (af 5 x68) fun x69=>
 stS p_ (bG v0) fun x71=>
 stS p_ (bB 205 x71 1) fun x72=>
 stS p_ (af 3 x72) fun x73=>
 stS p_ (ae .rem 3 x73 (.int .i64 8)) fun x74=>
 stS p_ (bR 266 x7 x74) fun x75=>
 stS p_ (af 5 x75) fun x76=>
 stS p_ (ae .or 5 x69 x76) fun x77=>
 stS p_ (bR 23 x62 x67) fun x78=>
 opN p_ (ak 5 x78 x77) Kp fun _=>
 J3))
 (J3)) fun _=>
 opN p_ (bG v0) Kp fun x80=>
 opN p_ (bB 205 x80 1) Kp fun x81=>
 opN p_ (af 3 x81) Kp fun x82=>
 opN p_ (ae .add 3 x82 (.int .i64 1)) Kp fun x83=>
 opN p_ (bG v0) Kp fun x84=>
 opN p_ (bB 205 x84 1) Kp fun x85=>
 opN p_ (ak 3 x85 x83) Kp fun _=>
 opN p_ (ae .add 3 y35 (.int .i64 1)) Kp fun x86=>
 bI I1 m1 x86)
 (K (.int .i64 0))) (.int .i64 0)))
theorem rk {v0 v1 v2:Value}:Shp p_ 156 [v0,v1,v2] (ms v0 v1 v2):=bT Tryz.call156 Tryz.func156 (an:={cuts:=[(6,[9]),(15,[]),(17,[])],loops:=[(11,[35])],drs:=[(16,.ofL [(0,1),(1,1),(2,1),(3,1),(4,1),(5,1),(6,1),(7,1),(8,1),(9,1),(10,1),(11,1),(12,1),(13,1),(14,1),(15,1),(16,1),(17,1),(18,1),(19,1),(20,0)])]}) fun _ _=>by kernel_rfl
def lo (v0:Value)(Kp:PK)(K:Value->WP):WP:=
 opN p_ (b_ .eql 156 (.tmp 3) (.const (.pointer none)) v0 (.pointer none)) Kp fun x4=>
 gdK x4 false (fun k=>k v0) fun x6=>
 gdK x4 false (opN p_ (bG x6) Kp) fun x7=>
 gdK x4 false (opN p_ (bB 205 x7 2) Kp) fun x8=>
 gdK x4 false (opN p_ (af 4 x8) Kp) fun x9=>
 gdK x4 false (opN p_ (jZ .not x9) Kp) fun x10=>
 opN p_ (aK x4 (.bool true) x10) Kp fun x11=>
 K x11
theorem pZ {v0:Value}:Shp p_ 157 [v0] (lo v0):=bT Tryz.call157 Tryz.func157 (an:={}) fun _ _=>by kernel_rfl
def i6 (v0 v1 v2:Value)(Kp:PK)(K:Value→WP):WP:=
 opN p_ (aj (fn 40) [v0]) Kp fun x14=>
 opN p_ (aV #[9] 3 [x14]) Kp fun x16=>
 bX (fun I1 m1 _ y17=>
 opN p_ (ae .lss 3 y17 x16) Kp fun x18=>
 condS x18
 (opN p_ (iq 9 x14 y17) Kp fun x22=>
 opN p_ (aj (fn 44) [(.string ⟨#[48,49,50,51,52,53,54,55,56,57,97,98,99,100,101,102]⟩),x22]) Kp fun x23=>
 opN p_ (ae .lss 3 x23 (.int .i64 0)) Kp fun x25=>
 gdK x25 false (fun k=>k x23) fun x27=>
 gdK x25 false (fun k=>k v1) fun x28=>
 gdK x25 false (opN p_ (ae .geq 3 x27 x28) Kp) fun x29=>
 opN p_ (aK x25 (.bool true) x29) Kp fun x30=>
 condS x30
 (K (.tuple #[(.int .i64 0),(.int .i64 21)]))
 (opN p_ (ae .add 3 y17 (.int .i64 1)) Kp fun x31=>
 bI I1 m1 x31))
 (opN p_ (b_ .eql 9 (.tmp 32) (.const (.string ⟨#[]⟩)) x14 (.string ⟨#[]⟩)) Kp fun x33=>
 condS x33
 (K (.tuple #[(.int .i64 0),(.int .i64 21)]))
 (opN p_ (aj (fn 205) [x14,v1,(.int .i64 63)]) Kp fun x37=>
 opN p_ (bi x37 0) Kp fun x38=>
 opN p_ (bi x37 1) Kp fun x39=>
 opN p_ (b_ .neq 124 (.tmp 40) (.const .nilIface) x39 .nilIface) Kp fun x41=>
 gdK x41 false (fun k=>k x38) fun x43=>
 gdK x41 false (fun k=>k v2) fun x44=>
 gdK x41 false (opN p_ (bz 3 170 x44) Kp) fun x45=>
 gdK x41 false (opN p_ (ae .gtr 170 x43 x45) Kp) fun x46=>
 opN p_ (aK x41 (.bool true) x46) Kp fun x47=>
 condS x47
 (K (.tuple #[(.int .i64 0),(.int .i64 11)]))
 (opN p_ (bz 170 3 x38) Kp fun x49=>
 K (.tuple #[x49,(.int .i64 0)]))))) (.int .i64 0)
theorem mP {v0 v1 v2:Value}:Shp p_ 160 [v0,v1,v2] (i6 v0 v1 v2):=bT Tryz.call160 Tryz.func160 (an:={loops:=[(3,[17])]}) fun _ _=>by kernel_rfl
def jH (v0:Value)(Kp:PK)(K:Value->WP):WP:=
 opN p_ (ae .mul 3 v0 (.int .i64 78913)) Kp fun x4=>
 opN p_ (ae .shr 3 x4 (.int .u64 18)) Kp fun x5=>
 K x5
theorem nC {v0:Value}:Shp p_ 161 [v0] (jH v0):=bT Tryz.call161 Tryz.func161 (an:={}) fun _ _=>by kernel_rfl
def mt (v0:Value)(Kp:PK)(K:Value→WP):WP:=
 sU (fun J1=>
 opN p_ (ae .geq 170 v0 (.int .u64 4294967296)) Kp fun x4=>
 condS x4
 (opN p_ (ae .shr 170 v0 (.int .u64 32)) Kp fun x6=>
 J1 x6 (.int .i64 32))
 (J1 v0 (.int .i64 0))) fun _ z0 z2=>
 sU (fun J2=>
 opN p_ (ae .geq 170 z0 (.int .u64 65536)) Kp fun x8=>
 condS x8
 (opN p_ (ae .shr 170 z0 (.int .u64 16)) Kp fun x10=>
 opN p_ (ae .add 3 z2 (.int .i64 16)) Kp fun x12=>
 J2 x10 x12)
 (J2 z0 z2)) fun _ z0 z2=>
 sU (fun J3=>
 opN p_ (ae .geq 170 z0 (.int .u64 256)) Kp fun x14=>
 condS x14
 (opN p_ (ae .shr 170 z0 (.int .u64 8)) Kp fun x16=>
 opN p_ (ae .add 3 z2 (.int .i64 8)) Kp fun x18=>
 J3 x16 x18)
 (J3 z0 z2)) fun _ z0 z2=>
 opN p_ (bz 170 5 z0) Kp fun x21=>
 opN p_ (iq 9 (bo wh) x21) Kp fun x22=>
 opN p_ (bz 5 3 x22) Kp fun x23=>
 opN p_ (ae .add 3 z2 x23) Kp fun x24=>
 K x24
theorem rn {v0:Value}:Shp p_ 162 [v0] (mt v0):=bT Tryz.call162 Tryz.func162 (an:={cuts:=[(4,[0,2]),(7,[0,2]),(10,[0,2])]}) fun _ _=>by kernel_rfl
def jI (v0:Value)(Kp:PK)(K:Value->WP):WP:=
 condS v0
 (K (.int .i64 1))
 (K (.int .i64 0))
theorem nD {v0:Value}:Shp p_ 163 [v0] (jI v0):=bT Tryz.call163 Tryz.func163 (an:={}) fun _ _=>by kernel_rfl
def kq (v0:Value)(Kp:PK)(K:Value→WP):WP:=
 opN p_ (aj (fn 183) [v0]) Kp fun x3=>
 opN p_ (jZ .not x3) Kp fun x4=>
 condS x4
 (opN p_ (bG v0) Kp fun x7=>
 opN p_ (bB 229 x7 0) Kp fun x8=>
 opN p_ (bB 227 x8 1) Kp fun x9=>
 opN p_ (af 3 x9) Kp fun x10=>
 opN p_ (ae .add 3 x10 (.int .i64 7)) Kp fun x11=>
 opN p_ (ae .quo 3 x11 (.int .i64 8)) Kp fun x12=>
 opN p_ (ae .mul 3 x12 (.int .i64 8)) Kp fun x13=>
 opN p_ (bG v0) Kp fun x14=>
 opN p_ (bB 229 x14 0) Kp fun x15=>
 opN p_ (bB 227 x15 1) Kp fun x16=>
 opN p_ (ak 3 x16 x13) Kp fun _=>
 K (.tuple #[]))
 (K (.tuple #[]))
theorem o0 {v0:Value}:Shp p_ 171 [v0] (kq v0):=bT Tryz.call171 Tryz.func171 (an:={}) fun _ _=>by kernel_rfl
def nE (v0 v1:Value)(Kp:PK)(K:Value→WP):WP:=
 opN p_ (jZ .not v0) Kp fun x5=>
 condS x5
 (opN p_ (fB 27 v1) Kp fun x7=>
 opN p_ (gj x7) Kp fun _=>
 K (.tuple #[]))
 (K (.tuple #[]))
theorem tC {v0 v1:Value}:Shp p_ 172 [v0,v1] (nE v0 v1):=bT Tryz.call172 Tryz.func172 (an:={}) fun _ _=>by kernel_rfl
def i7 (v0 v1:Value)(Kp:PK)(K:Value->WP):WP:=
 e8 (stS p_ (bG v0) fun x6=>
 stS p_ (bB 184 x6 2) fun x7=>
 stS p_ (af 3 x7) fun x8=>
 stS p_ (bG v0) fun x10=>
 stS p_ (bB 184 x10 1) fun x11=>
 stS p_ (af 23 x11) fun x12=>
 stS p_ (aV #[23] 3 [x12]) fun x13=>
 stS p_ (ae .sub 3 x8 x13) fun x14=>
 stS p_ (ae .leq 3 v1 x14) fun x15=>
 opN p_ (aj (fn 172) [x15,(.int .i64 6)]) Kp fun x16=>
 K (.tuple #[]))
theorem mQ {v0 v1:Value}:Shp p_ 173 [v0,v1] (i7 v0 v1):=bT Tryz.call173 Tryz.func173 (an:={drs:=[(0,.ofL [(0,1),(1,1),(2,1),(3,1),(4,1),(5,1),(6,1),(7,1),(8,1),(9,1),(10,1),(11,1),(12,0)])]}) fun _ _=>by kernel_rfl
def mu (v0 v1:Value)(Kp:PK)(K:Value→WP):WP:=
 opN p_ (aj (fn 183) [v0]) Kp fun x8=>
 gdK x8 false (fun k=>k v1) fun x10=>
 gdK x8 false (opN p_ (ae .lss 3 x10 (.int .i64 0)) Kp) fun x11=>
 opN p_ (aK x8 (.bool true) x11) Kp fun x12=>
 condS x12
 (K (.tuple #[(.slice none 0 0),(.int .i64 1)]))
 (opN p_ (bG v0) Kp fun x14=>
 opN p_ (bB 229 x14 0) Kp fun x15=>
 opN p_ (bB 227 x15 1) Kp fun x16=>
 opN p_ (af 3 x16) Kp fun x17=>
 opN p_ (ae .add 3 x17 (.int .i64 7)) Kp fun x18=>
 opN p_ (ae .quo 3 x18 (.int .i64 8)) Kp fun x19=>
 opN p_ (bG v0) Kp fun x22=>
 opN p_ (bB 229 x22 0) Kp fun x23=>
 opN p_ (bB 227 x23 0) Kp fun x24=>
 opN p_ (af 23 x24) Kp fun x25=>
 opN p_ (aV #[23] 3 [x25]) Kp fun x26=>
 opN p_ (ae .sub 3 x26 x19) Kp fun x28=>
 opN p_ (ae .gtr 3 v1 x28) Kp fun x29=>
 condS x29
 (K (.tuple #[(.slice none 0 0),(.int .i64 20)]))
 (opN p_ (ae .add 3 x19 v1) Kp fun x33=>
 opN p_ (ae .mul 3 (.int .i64 8) x33) Kp fun x34=>
 opN p_ (bG v0) Kp fun x35=>
 opN p_ (bB 229 x35 0) Kp fun x36=>
 opN p_ (bB 227 x36 1) Kp fun x37=>
 opN p_ (ak 3 x37 x34) Kp fun _=>
 opN p_ (bG v0) Kp fun x39=>
 opN p_ (bB 229 x39 0) Kp fun x40=>
 opN p_ (bB 227 x40 0) Kp fun x41=>
 opN p_ (af 23 x41) Kp fun x42=>
 opN p_ (ae .add 3 x19 v1) Kp fun x46=>
 opN p_ (eo 23 x42 (some x19) (some x46) none) Kp fun x47=>
 opN p_ (cP #[23,23] 23 [(.slice none 0 0),x47]) Kp fun x48=>
 K (.tuple #[x48,(.int .i64 0)])))
theorem ro {v0 v1:Value}:Shp p_ 174 [v0,v1] (mu v0 v1):=bT Tryz.call174 Tryz.func174 (an:={}) fun _ _=>by kernel_rfl
def rp (v0:Value)(Kp:PK)(K:Value→WP):WP:=
 opN p_ (b_ .neq 27 (.tmp 2) (.const (.int .i64 0)) v0 (.int .i64 0)) Kp fun x3=>
 condS x3
 (opN p_ (fB 27 v0) Kp fun x5=>
 opN p_ (gj x5) Kp fun _=>
 K (.tuple #[]))
 (K (.tuple #[]))
theorem wC {v0:Value}:Shp p_ 175 [v0] (rp v0):=bT Tryz.call175 Tryz.func175 (an:={}) fun _ _=>by kernel_rfl
def pB (Kp:PK)(K:Value->WP):WP:=
 opN p_ (aj (fn 209) [(.slice none 0 0),(.int .i64 144),(.int .i64 8)]) Kp fun x7=>
 opN p_ (aj (fn 209) [x7,(.int .i64 112),(.int .i64 9)]) Kp fun x8=>
 opN p_ (aj (fn 209) [x8,(.int .i64 24),(.int .i64 7)]) Kp fun x9=>
 opN p_ (aj (fn 209) [x9,(.int .i64 8),(.int .i64 8)]) Kp fun x10=>
 opN p_ (aj (fn 209) [(.slice none 0 0),(.int .i64 32),(.int .i64 5)]) Kp fun x13=>
 K (.tuple #[x10,x13])
theorem vh  :Shp p_ 176 [] (pB):=bT Tryz.call176 Tryz.func176 (an:={}) fun _ _=>by kernel_rfl
def gE (v0 v1 v2:Value)(Kp:PK)(K:Value→WP):WP:=
 E_ (fun I1 m1 _  =>
 opN p_ (bG v0) Kp fun x13=>
 opN p_ (bB 184 x13 0) Kp fun x14=>
 opN p_ (af 181 x14) Kp fun x15=>
 opN p_ (aj (fn 210) [v1,x15]) Kp fun x16=>
 opN p_ (b_ .eql 3 (.tmp 18) (.const (.int .i64 256)) x16 (.int .i64 256)) Kp fun x19=>
 condS x19
 (K (.tuple #[]))
 (opN p_ (ae .lss 3 x16 (.int .i64 256)) Kp fun x22=>
 condS x22
 (opN p_ (aj (fn 173) [v0,(.int .i64 1)]) Kp fun x24=>
 opN p_ (bG v0) Kp fun x27=>
 opN p_ (bB 184 x27 1) Kp fun x28=>
 opN p_ (af 23 x28) Kp fun x29=>
 opN p_ (bz 3 5 x16) Kp fun x31=>
 opN p_ (aS 23 1 [(0,x31)]) Kp fun x32=>
 opN p_ (cP #[23,23] 23 [x29,x32]) Kp fun x33=>
 opN p_ (bG v0) Kp fun x34=>
 opN p_ (bB 184 x34 1) Kp fun x35=>
 opN p_ (ak 23 x35 x33) Kp fun _=>
 BW I1 m1)
 (opN p_ (aj (fn 211) [x16]) Kp fun x38=>
 opN p_ (bi x38 0) Kp fun x39=>
 opN p_ (bi x38 1) Kp fun x40=>
 opN p_ (ae .gtr 3 x39 (.int .i64 0)) Kp fun x42=>
 opN p_ (aj (fn 172) [x42,(.int .i64 30)]) Kp fun x43=>
 opN p_ (aj (fn 138) [v0,x40]) Kp fun x47=>
 opN p_ (ae .add 3 x39 x47) Kp fun x48=>
 opN p_ (bG v0) Kp fun x52=>
 opN p_ (bB 184 x52 0) Kp fun x53=>
 opN p_ (af 181 x53) Kp fun x54=>
 opN p_ (aj (fn 210) [v2,x54]) Kp fun x55=>
 opN p_ (aj (fn 212) [x55]) Kp fun x56=>
 opN p_ (bi x56 0) Kp fun x57=>
 opN p_ (bi x56 1) Kp fun x58=>
 opN p_ (ae .gtr 3 x57 (.int .i64 0)) Kp fun x60=>
 opN p_ (aj (fn 172) [x60,(.int .i64 30)]) Kp fun x61=>
 opN p_ (aj (fn 138) [v0,x58]) Kp fun x65=>
 opN p_ (ae .add 3 x57 x65) Kp fun x66=>
 opN p_ (bG v0) Kp fun x69=>
 opN p_ (bB 184 x69 1) Kp fun x70=>
 opN p_ (af 23 x70) Kp fun x71=>
 opN p_ (aV #[23] 3 [x71]) Kp fun x72=>
 opN p_ (ae .leq 3 x66 x72) Kp fun x73=>
 opN p_ (aj (fn 172) [x73,(.int .i64 31)]) Kp fun x74=>
 opN p_ (aj (fn 173) [v0,x48]) Kp fun x77=>
 bX (fun I2 m2 _ y79=>
 opN p_ (ae .lss 3 y79 x48) Kp fun x80=>
 condS x80
 (e8 (stD p_ (bG v0) fun D2 x83=>
 stD p_ (bB 184 x83 1) fun D3 x84=>
 stD p_ (af 23 x84) fun D4 x85=>
 stS p_ (bG v0) fun x87=>
 stS p_ (bB 184 x87 1) fun x88=>
 stS p_ (af 23 x88) fun x89=>
 stS p_ (bG v0) fun x91=>
 stS p_ (bB 184 x91 1) fun x92=>
 stS p_ (af 23 x92) fun x93=>
 stS p_ (aV #[23] 3 [x93]) fun x94=>
 stS p_ (ae .sub 3 x94 x66) fun x96=>
 stS p_ (bR 23 x89 x96) fun x97=>
 stS p_ (af 5 x97) fun x98=>
 opN p_ (aS 23 1 [(0,x98)]) Kp fun x99=>
 (fun w=>D4 w∧(fun w=>D3 w∧(fun w=>D2 w∧(opN p_ (cP #[23,23] 23 [x85,x99]) Kp fun x100=>
 stS p_ (bG v0) fun x101=>
 stS p_ (bB 184 x101 1) fun x102=>
 opN p_ (ak 23 x102 x100) Kp fun _=>
 opN p_ (ae .add 3 y79 (.int .i64 1)) Kp fun x103=>
 bI I2 m2 x103) w) w) w)))
 (BW I1 m1)) (.int .i64 0))))
theorem kJ {v0 v1 v2:Value}:Shp p_ 177 [v0,v1,v2] (gE v0 v1 v2):=bT Tryz.call177 Tryz.func177 (an:={loops:=[(0,[]),(14,[79])],drs:=[(15,.ofL [(0,2),(1,2),(2,3),(3,3),(4,3),(5,1),(6,1),(7,1),(8,1),(9,1),(10,1),(11,1),(12,1),(13,1),(14,1),(15,1),(16,1),(17,1),(18,0),(19,0),(20,1),(21,1),(22,0)])]}) fun _ _=>by kernel_rfl
def mw (v0:Value)(Kp:PK)(K:Value->WP):WP:=
 opN p_ (aj (fn 213) [v0]) Kp fun x7=>
 opN p_ (bi x7 0) Kp fun x8=>
 opN p_ (bi x7 1) Kp fun x9=>
 opN p_ (aj (fn 175) [x9]) Kp fun x11=>
 K x8
theorem rq {v0:Value}:Shp p_ 178 [v0] (mw v0):=bT Tryz.call178 Tryz.func178 (an:={}) fun _ _=>by kernel_rfl
def zk (v0:Value)(Kp:PK)(K:Value→WP):WP:=
 opN p_ (aj (fn 214) [v0]) Kp fun x10=>
 opN p_ (bi x10 0) Kp fun x11=>
 opN p_ (bi x10 1) Kp fun x12=>
 opN p_ (aM 280) Kp fun x3=>
 opN p_ (ak 280 x3 x11) Kp fun _=>
 opN p_ (eo 280 x3 (some (.int .i64 1)) none none) Kp fun x13=>
 opN p_ (aV #[197] 3 [x13]) Kp fun x14=>
 dF (fun I1 m1 _ y5 y15=>
 opN p_ (ae .lss 3 y15 x14) Kp fun x16=>
 condS x16
 (opN p_ (bR 197 x13 y15) Kp fun x17=>
 opN p_ (af 3 x17) Kp fun x18=>
 opN p_ (ae .mul 3 (.int .i64 2) y5) Kp fun x20=>
 opN p_ (ae .sub 3 x20 x18) Kp fun x22=>
 opN p_ (ae .add 3 y15 (.int .i64 1)) Kp fun x23=>
 cH I1 m1 x22 x23)
 (gdK x12 true (fun k=>k y5) fun x26=>
 gdK x12 true (opN p_ (b_ .eql 3 (.tmp 26) (.const (.int .i64 0)) x26 (.int .i64 0)) Kp) fun x27=>
 opN p_ (aK x12 x27 (.bool false)) Kp fun x28=>
 K x28)) (.int .i64 1) (.int .i64 0)
theorem Cq {v0:Value}:Shp p_ 179 [v0] (zk v0):=bT Tryz.call179 Tryz.func179 (an:={loops:=[(4,[5,15])]}) fun _ _=>by kernel_rfl
def jJ (v0 v1 v2:Value)(Kp:PK)(K:Value→WP):WP:=
 bX (fun I1 m1 _ y7=>
 opN p_ (aV #[197] 3 [y7]) Kp fun x11=>
 opN p_ (ae .lss 3 x11 v2) Kp fun x13=>
 condS x13
 (opN p_ (bG v0) Kp fun x16=>
 opN p_ (bB 184 x16 0) Kp fun x17=>
 opN p_ (af 181 x17) Kp fun x18=>
 opN p_ (aj (fn 210) [v1,x18]) Kp fun x19=>
 sU (fun J1=>
 opN p_ (b_ .eql 3 (.tmp 20) (.const (.int .i64 16)) x19 (.int .i64 16)) Kp fun x22=>
 condS x22
 (opN p_ (aj (fn 138) [v0,(.int .i64 2)]) Kp fun x24=>
 opN p_ (ae .add 3 (.int .i64 3) x24) Kp fun x25=>
 opN p_ (aV #[197] 3 [y7]) Kp fun x27=>
 opN p_ (ae .gtr 3 x27 (.int .i64 0)) Kp fun x28=>
 opN p_ (aj (fn 172) [x28,(.int .i64 30)]) Kp fun x29=>
 opN p_ (aV #[197] 3 [y7]) Kp fun x32=>
 opN p_ (ae .sub 3 x32 (.int .i64 1)) Kp fun x33=>
 opN p_ (bR 197 y7 x33) Kp fun x34=>
 opN p_ (af 3 x34) Kp fun x35=>
 J1 x35 x25)
 (opN p_ (b_ .eql 3 (.tmp 20) (.const (.int .i64 17)) x19 (.int .i64 17)) Kp fun x37=>
 condS x37
 (opN p_ (aj (fn 138) [v0,(.int .i64 3)]) Kp fun x39=>
 opN p_ (ae .add 3 (.int .i64 3) x39) Kp fun x40=>
 J1 (.int .i64 0) x40)
 (opN p_ (b_ .eql 3 (.tmp 20) (.const (.int .i64 18)) x19 (.int .i64 18)) Kp fun x42=>
 condS x42
 (opN p_ (aj (fn 138) [v0,(.int .i64 7)]) Kp fun x44=>
 opN p_ (ae .add 3 (.int .i64 11) x44) Kp fun x45=>
 J1 (.int .i64 0) x45)
 (J1 x19 (.int .i64 1))))) fun _ z8 z9=>
 opN p_ (aV #[197] 3 [y7]) Kp fun x49=>
 opN p_ (ae .sub 3 v2 x49) Kp fun x50=>
 opN p_ (ae .leq 3 z9 x50) Kp fun x51=>
 opN p_ (aj (fn 172) [x51,(.int .i64 30)]) Kp fun x52=>
 dF (fun I2 m2 _ y7_2 y54=>
 opN p_ (ae .lss 3 y54 z9) Kp fun x55=>
 condS x55
 (opN p_ (aS 197 1 [(0,z8)]) Kp fun x58=>
 opN p_ (cP #[197,197] 197 [y7_2,x58]) Kp fun x59=>
 opN p_ (ae .add 3 y54 (.int .i64 1)) Kp fun x60=>
 cH I2 m2 x59 x60)
 (bI I1 m1 y7_2)) y7 (.int .i64 0))
 (K y7)) (.slice none 0 0)
theorem nF {v0 v1 v2:Value}:Shp p_ 180 [v0,v1,v2] (jJ v0 v1 v2):=bT Tryz.call180 Tryz.func180 (an:={cuts:=[(14,[8,9])],loops:=[(2,[7]),(16,[7,54])]}) fun _ _=>by kernel_rfl
def nG (v0:Value)(Kp:PK)(K:Value→WP):WP:=
 opN p_ (aV #[197] 3 [v0]) Kp fun x8=>
 vW (fun I1 m1 _ y3 y4 y9=>
 opN p_ (ae .lss 3 y9 x8) Kp fun x10=>
 condS x10
 (opN p_ (bR 197 v0 y9) Kp fun x11=>
 opN p_ (af 3 x11) Kp fun x12=>
 opN p_ (ae .gtr 3 x12 (.int .i64 0)) Kp fun x14=>
 condS x14
 (opN p_ (ae .add 3 y3 (.int .i64 1)) Kp fun x16=>
 opN p_ (ae .add 3 y4 x12) Kp fun x19=>
 opN p_ (ae .add 3 y9 (.int .i64 1)) Kp fun x20=>
 gY I1 m1 x16 x19 x20)
 (opN p_ (ae .add 3 y9 (.int .i64 1)) Kp fun x20=>
 gY I1 m1 y3 y4 x20))
 (opN p_ (b_ .eql 3 (.tmp 21) (.const (.int .i64 0)) y3 (.int .i64 0)) Kp fun x22=>
 gdK x22 false (fun k=>k y3) fun x24=>
 gdK x22 false (opN p_ (b_ .eql 3 (.tmp 24) (.const (.int .i64 1)) x24 (.int .i64 1)) Kp) fun x25=>
 gdK x22 false (fun k=>k x25) fun x26=>
 gdK x26 true (fun k=>k y4) fun x27=>
 gdK x26 true (opN p_ (b_ .eql 3 (.tmp 27) (.const (.int .i64 1)) x27 (.int .i64 1)) Kp) fun x28=>
 gdK x22 false (opN p_ (aK x26 x28 (.bool false)) Kp) fun x29=>
 opN p_ (aK x22 (.bool true) x29) Kp fun x30=>
 gdK x30 false (fun k=>k v0) fun x32=>
 gdK x30 false (opN p_ (aj (fn 179) [x32]) Kp) fun x33=>
 opN p_ (aK x30 (.bool true) x33) Kp fun x34=>
 K x34)) (.int .i64 0) (.int .i64 0) (.int .i64 0)
theorem tD {v0:Value}:Shp p_ 181 [v0] (nG v0):=bT Tryz.call181 Tryz.func181 (an:={loops:=[(3,[3,4,9])]}) fun _ _=>by kernel_rfl
def lq (v0 v1:Value)(Kp:PK)(K:Value→WP):WP:=
 jw (fun J1=>
 opN p_ (aj (fn 183) [v0]) Kp fun x10=>
 condS x10
 (J1 x10)
 (opN p_ (ae .lss 3 v1 (.int .i64 0)) Kp fun x12=>
 condS x12
 (J1 x12)
 (opN p_ (ae .gtr 3 v1 (.int .i64 32)) Kp fun x14=>
 J1 x14))) fun _ z8=>
 condS z8
 (K (.tuple #[(.int .i64 0),(.int .i64 1)]))
 (opN p_ (bG v0) Kp fun x18=>
 opN p_ (bB 229 x18 0) Kp fun x19=>
 opN p_ (aj (fn 184) [x19]) Kp fun x20=>
 opN p_ (ae .gtr 3 v1 x20) Kp fun x21=>
 condS x21
 (K (.tuple #[(.int .i64 0),(.int .i64 20)]))
 (dF (fun I1 m1 _ y6 y23=>
 opN p_ (ae .lss 3 y23 v1) Kp fun x24=>
 condS x24
 (opN p_ (bG v0) Kp fun x28=>
 opN p_ (bB 229 x28 0) Kp fun x29=>
 opN p_ (aj (fn 215) [x29]) Kp fun x30=>
 opN p_ (bz 3 149 y23) Kp fun x32=>
 opN p_ (ae .shl 3 x30 x32) Kp fun x33=>
 opN p_ (ae .or 3 y6 x33) Kp fun x34=>
 opN p_ (ae .add 3 y23 (.int .i64 1)) Kp fun x35=>
 cH I1 m1 x34 x35)
 (K (.tuple #[y6,(.int .i64 0)]))) (.int .i64 0) (.int .i64 0)))
theorem p9 {v0 v1:Value}:Shp p_ 182 [v0,v1] (lq v0 v1):=bT Tryz.call182 Tryz.func182 (an:={cuts:=[(4,[8])],loops:=[(9,[6,23])]}) fun _ _=>by kernel_rfl
def lr (v0:Value)(Kp:PK)(K:Value->WP):WP:=
 opN p_ (b_ .eql 181 (.tmp 3) (.const (.pointer none)) v0 (.pointer none)) Kp fun x4=>
 gdK x4 false (fun k=>k v0) fun x6=>
 gdK x4 false (opN p_ (bG x6) Kp) fun x7=>
 gdK x4 false (opN p_ (bB 229 x7 1) Kp) fun x8=>
 gdK x4 false (opN p_ (af 4 x8) Kp) fun x9=>
 gdK x4 false (opN p_ (jZ .not x9) Kp) fun x10=>
 opN p_ (aK x4 (.bool true) x10) Kp fun x11=>
 K x11
theorem qd {v0:Value}:Shp p_ 183 [v0] (lr v0):=bT Tryz.call183 Tryz.func183 (an:={}) fun _ _=>by kernel_rfl
def lu (v0:Value)(Kp:PK)(K:Value->WP):WP:=
 e8 (stS p_ (bG v0) fun x4=>
 stS p_ (bB 227 x4 0) fun x5=>
 stS p_ (af 23 x5) fun x6=>
 stS p_ (aV #[23] 3 [x6]) fun x7=>
 stS p_ (ae .mul 3 (.int .i64 8) x7) fun x8=>
 stS p_ (bG v0) fun x10=>
 stS p_ (bB 227 x10 1) fun x11=>
 stS p_ (af 3 x11) fun x12=>
 stS p_ (ae .sub 3 x8 x12) fun x13=>
 K x13)
theorem qe {v0:Value}:Shp p_ 184 [v0] (lu v0):=bT Tryz.call184 Tryz.func184 (an:={drs:=[(1,.ofL [(0,1),(1,1),(2,1),(3,1),(4,1),(5,1),(6,1),(7,1),(8,1),(9,1),(10,1),(11,1)])]}) fun _ _=>by kernel_rfl
def mx (v0 v1:Value)(Kp:PK)(K:Value→WP):WP:=
 E_ (fun I1 m1 _  =>
 e8 (stS p_ (bG v0) fun x6=>
 stS p_ (bB 253 x6 2) fun x7=>
 stS p_ (af 3 x7) fun x8=>
 stS p_ (ae .lss 3 x8 v1) fun x10=>
 gdK x10 true (fun k=>k v0) fun x12=>
 gdK x10 true (stS p_ (bG x12)) fun x13=>
 gdK x10 true (stS p_ (bB 253 x13 2)) fun x14=>
 gdK x10 true (stS p_ (af 3 x14)) fun x15=>
 gdK x10 true (stS p_ (ae .add 3 x15 (.int .i64 3))) fun x16=>
 gdK x10 true (fun k=>k v0) fun x17=>
 gdK x10 true (stS p_ (bG x17)) fun x18=>
 gdK x10 true (stS p_ (bB 253 x18 0)) fun x19=>
 gdK x10 true (stS p_ (af 23 x19)) fun x20=>
 gdK x10 true (stS p_ (aV #[23] 3 [x20])) fun x21=>
 gdK x10 true (stS p_ (ae .leq 3 x16 x21)) fun x22=>
 stS p_ (aK x10 x22 (.bool false)) fun x23=>
 condS x23
 (e8 (stD p_ (bG v0) fun D1 x32=>
 stD p_ (bB 253 x32 0) fun D2 x33=>
 stD p_ (af 23 x33) fun D3 x34=>
 stD p_ (bG v0) fun D5 x36=>
 stD p_ (bB 253 x36 2) fun D6 x37=>
 stD p_ (af 3 x37) fun D7 x38=>
 stD p_ (eo 23 x34 (some x38) none none) fun D8 x39=>
 stD p_ (E9 142 x39) fun D9 x40=>
 stD p_ (af 142 x40) fun D10 x41=>
 opN p_ (aM 142) Kp fun x4=>
 (fun w=>D10 w∧(fun w=>D9 w∧(fun w=>D8 w∧(fun w=>D7 w∧(fun w=>D6 w∧(fun w=>D5 w∧(fun w=>D3 w∧(fun w=>D2 w∧(fun w=>D1 w∧(opN p_ (ak 142 x4 x41) Kp fun _=>
 e8 (stD p_ (bG v0) fun D1 x43=>
 stD p_ (bB 253 x43 1) fun D2 x44=>
 stD p_ (af 251 x44) fun D3 x45=>
 stD p_ (af 142 x4) fun D4 x46=>
 stS p_ (bG v0) fun x49=>
 stS p_ (bB 253 x49 2) fun x50=>
 stS p_ (af 3 x50) fun x51=>
 opN p_ (aS 197 1 [(0,x51)]) Kp fun x52=>
 (fun w=>D4 w∧(fun w=>D3 w∧(fun w=>D2 w∧(fun w=>D1 w∧(opN p_ (lL 251 x45 x46) Kp fun x53=>
 stS p_ (bi x53 0) fun x47=>
 stD p_ (bi x53 1) fun D13 x55=>
 opN p_ (cP #[197,197] 197 [x47,x52]) Kp fun x54=>
 (fun w=>D13 w∧(opN p_ (vU 251 x45 x55 x54) Kp fun _=>
 opN p_ (bG v0) Kp fun x25=>
 opN p_ (bB 253 x25 2) Kp fun x26=>
 opN p_ (af 3 x26) Kp fun x27=>
 opN p_ (ae .add 3 x27 (.int .i64 1)) Kp fun x28=>
 opN p_ (bG v0) Kp fun x29=>
 opN p_ (bB 253 x29 2) Kp fun x30=>
 opN p_ (ak 3 x30 x28) Kp fun _=>
 BW I1 m1) w)) w) w) w) w))) w) w) w) w) w) w) w) w) w)))
 (K (.tuple #[]))))
theorem rr {v0 v1:Value}:Shp p_ 195 [v0,v1] (mx v0 v1):=bT Tryz.call195 Tryz.func195 (an:={loops:=[(0,[])],drs:=[(0,.ofL [(0,1),(1,1),(2,1),(3,1),(4,1),(5,1),(6,1),(7,1),(8,1),(9,1),(10,1),(11,1),(12,1),(13,1),(14,1),(15,1),(16,1),(17,1),(18,1)]),(2,.ofL [(0,2),(1,3),(2,3),(3,3),(4,2),(5,3),(6,3),(7,3),(8,3),(9,3),(10,3),(11,0),(12,0)]),(3,.ofL [(0,2),(1,3),(2,3),(3,3),(4,3),(5,1),(6,1),(7,1),(8,1),(9,0),(10,0),(11,1),(13,3),(12,0),(14,0)])]}) fun _ _=>by kernel_rfl
def my (v0 v1:Value)(Kp:PK)(K:Value→WP):WP:=
 opN p_ (dn 250 v0) Kp fun x2=>
 opN p_ (dn 3 v1) Kp fun x3=>
 opN p_ (aM 209) Kp fun x4=>
 e8 (stD p_ (af 250 x2) fun D0 x8=>
 stD p_ (bG x8) fun D1 x9=>
 stD p_ (bB 253 x9 0) fun D2 x10=>
 stD p_ (af 23 x10) fun D3 x11=>
 stD p_ (af 3 x3) fun D4 x12=>
 stD p_ (bR 23 x11 x12) fun D5 x13=>
 stD p_ (af 5 x13) fun D6 x14=>
 stD p_ (az 209 [(2,x14)]) fun D7 x15=>
 opN p_ (aM 209) Kp fun x5=>
 (fun w=>D7 w∧(fun w=>D6 w∧(fun w=>D5 w∧(fun w=>D4 w∧(fun w=>D3 w∧(fun w=>D2 w∧(fun w=>D1 w∧(fun w=>D0 w∧(opN p_ (ak 209 x5 x15) Kp fun _=>
 opN p_ (af 250 x2) Kp fun x16=>
 opN p_ (af 3 x3) Kp fun x17=>
 opN p_ (aj (fn 222) [x16,x17]) Kp fun x18=>
 rfS p_ x18 1 (fun u19 B1 N1 J1r=>
 B1 (opN p_ (af 250 x2) dW fun x20=>
 opN p_ (af 3 x3) dW fun x22=>
 opN p_ (aj (fn 223) [x20,u19,x22]) dW fun x23=>
 opN p_ (bB 209 x5 0) dW fun x25=>
 opN p_ (af 3 x25) dW fun x26=>
 opN p_ (ae .gtr 3 x23 x26) dW fun x27=>
 condS x27
 (opN p_ (af 3 x3) dW fun x29=>
 opN p_ (ae .sub 3 x29 u19) dW fun x31=>
 opN p_ (az 209 [(0,x23),(1,x31)]) dW fun x32=>
 opN p_ (ak 209 x5 x32) dW fun _=>
 N1)
 (N1))) (fun d1=>
 opN p_ (af 209 x5) (e_ [d1] Kp) fun x33=>
 opN p_ (ak 209 x4 x33) (e_ [d1] Kp) fun _=>
 (tkS d1 ((stS p_ (cG 209 x4) fun r0=>K r0)))) (fun d1=>(tkS d1 ((stS p_ (cG 209 x4) fun r0=>K r0)))) (fun d1 ch=>(tkS d1 (Kp ch)))) w) w) w) w) w) w) w) w))
theorem rt {v0 v1:Value}:Shp p_ 196 [v0,v1] (my v0 v1):=Ip Tryz.call196 Tryz.func196 (an:={drs:=[(1,.ofL [(0,3),(1,3),(2,3),(3,3),(4,3),(5,3),(6,3),(7,3),(8,0),(9,0)])]}) fun _ _=>by kernel_rfl
def gF (v0:Value)(Kp:PK)(K:Value→WP):WP:=
 opN p_ (aj (fn 157) [v0]) Kp fun x3=>
 opN p_ (jZ .not x3) Kp fun x4=>
 condS x4
 (opN p_ (bG v0) Kp fun x7=>
 opN p_ (bB 205 x7 0) Kp fun x8=>
 opN p_ (af 23 x8) Kp fun x9=>
 opN p_ (aV #[23] 3 [x9]) Kp fun x10=>
 opN p_ (ae .mul 3 (.int .i64 8) x10) Kp fun x11=>
 opN p_ (bG v0) Kp fun x12=>
 opN p_ (bB 205 x12 1) Kp fun x13=>
 opN p_ (ak 3 x13 x11) Kp fun _=>
 K (.tuple #[]))
 (K (.tuple #[]))
theorem i8 {v0:Value}:Shp p_ 197 [v0] (gF v0):=bT Tryz.call197 Tryz.func197 (an:={}) fun _ _=>by kernel_rfl
def mz (v0 v1:Value)(Kp:PK)(K:Value→WP):WP:=
 opN p_ (aj (fn 157) [v0]) Kp fun x7=>
 condS x7
 (K (.int .i64 1))
 (opN p_ (aV #[23] 3 [v1]) Kp fun x10=>
 opN p_ (bG v0) Kp fun x12=>
 opN p_ (bB 205 x12 0) Kp fun x13=>
 opN p_ (af 23 x13) Kp fun x14=>
 opN p_ (aV #[23] 3 [x14]) Kp fun x15=>
 opN p_ (ae .sub 3 (.int .i64 1048576) x15) Kp fun x16=>
 opN p_ (ae .gtr 3 x10 x16) Kp fun x17=>
 condS x17
 (K (.int .i64 6))
 (opN p_ (bG v0) Kp fun x20=>
 opN p_ (bB 205 x20 0) Kp fun x21=>
 opN p_ (af 23 x21) Kp fun x22=>
 opN p_ (cP #[23,23] 23 [x22,v1]) Kp fun x24=>
 opN p_ (bG v0) Kp fun x25=>
 opN p_ (bB 205 x25 0) Kp fun x26=>
 opN p_ (ak 23 x26 x24) Kp fun _=>
 opN p_ (aj (fn 197) [v0]) Kp fun x28=>
 K (.int .i64 0)))
theorem rx {v0 v1:Value}:Shp p_ 198 [v0,v1] (mz v0 v1):=bT Tryz.call198 Tryz.func198 (an:={}) fun _ _=>by kernel_rfl
def im (v0 v1 v2 v3:Value)(Kp:PK)(K:Value→WP):WP:=
 opN p_ (dn 162 v0) Kp fun x4=>
 opN p_ (dn 258 v1) Kp fun x5=>
 opN p_ (dn 258 v2) Kp fun x6=>
 opN p_ (bB 162 x4 0) Kp fun x13=>
 opN p_ (af 160 x13) Kp fun x14=>
 opN p_ (aV #[160] 3 [x14]) Kp fun x15=>
 bX (fun I1 m1 _ y16=>
 opN p_ (ae .lss 3 y16 x15) Kp fun x17=>
 condS x17
 (opN p_ (bR 160 x14 y16) Kp fun x18=>
 opN p_ (af 209 x18) Kp fun x19=>
 opN p_ (aM 209) Kp fun x9=>
 opN p_ (ak 209 x9 x19) Kp fun _=>
 opN p_ (bB 209 x9 0) Kp fun x20=>
 opN p_ (af 3 x20) Kp fun x21=>
 opN p_ (b_ .eql 3 (.tmp 21) (.const (.int .i64 0)) x21 (.int .i64 0)) Kp fun x22=>
 condS x22
 (opN p_ (af 258 x5) Kp fun x24=>
 opN p_ (bB 209 x9 2) Kp fun x25=>
 opN p_ (af 5 x25) Kp fun x26=>
 opN p_ (bz 5 3 x26) Kp fun x27=>
 opN p_ (aj v3 [x24,x27,(.int .i64 0),(.int .i64 0)]) Kp fun x28=>
 opN p_ (ae .add 3 y16 (.int .i64 1)) Kp fun x55=>
 bI I1 m1 x55)
 (opN p_ (bB 209 x9 0) Kp fun x30=>
 opN p_ (af 3 x30) Kp fun x31=>
 opN p_ (aj (fn 224) [x31]) Kp fun x32=>
 opN p_ (bi x32 0) Kp fun x33=>
 opN p_ (bi x32 1) Kp fun x34=>
 opN p_ (bi x32 2) Kp fun x35=>
 opN p_ (af 258 x5) Kp fun x37=>
 opN p_ (aj v3 [x37,x33,x34,x35]) Kp fun x41=>
 opN p_ (bB 209 x9 1) Kp fun x43=>
 opN p_ (af 3 x43) Kp fun x44=>
 opN p_ (aj (fn 225) [x44]) Kp fun x45=>
 opN p_ (bi x45 0) Kp fun x46=>
 opN p_ (bi x45 1) Kp fun x47=>
 opN p_ (bi x45 2) Kp fun x48=>
 opN p_ (af 258 x6) Kp fun x50=>
 opN p_ (aj v3 [x50,x46,x47,x48]) Kp fun x54=>
 opN p_ (ae .add 3 y16 (.int .i64 1)) Kp fun x55=>
 bI I1 m1 x55))
 (opN p_ (af 258 x5) Kp fun x57=>
 opN p_ (aj v3 [x57,(.int .i64 256),(.int .i64 0),(.int .i64 0)]) Kp fun x58=>
 K (.tuple #[]))) (.int .i64 0)
theorem lw {v0 v1 v2 v3:Value}:Shp p_ 199 [v0,v1,v2,v3] (im v0 v1 v2 v3):=bT Tryz.call199 Tryz.func199 (an:={loops:=[(2,[16])]}) fun _ _=>by kernel_rfl
def nH (v0:Value)(Kp:PK)(K:Value->WP):WP:=
 opN p_ (aM 258) Kp fun x2=>
 opN p_ (aj (fn 226) [v0]) Kp fun x7=>
 opN p_ (bi x7 0) Kp fun x8=>
 opN p_ (bi x7 1) Kp fun x9=>
 opN p_ (az 258 [(0,v0),(1,x8)]) Kp fun x12=>
 opN p_ (ak 258 x2 x12) Kp fun _=>
 (stS p_ (cG 258 x2) fun r0=>K r0)
theorem tE {v0:Value}:Shp p_ 200 [v0] (nH v0):=bT Tryz.call200 Tryz.func200 (an:={}) fun _ _=>by kernel_rfl
def ry (v0:Value)(Kp:PK)(K:Value->WP):WP:=
 opN p_ (dn 156 v0) Kp fun x1=>
 opN p_ (lN (.func 227) [] [x1]) Kp fun x3=>
 K x3
theorem wD {v0:Value}:Shp p_ 201 [v0] (ry v0):=bT Tryz.call201 Tryz.func201 (an:={}) fun _ _=>by kernel_rfl
def kr (v0:Value)(Kp:PK)(K:Value→WP):WP:=
 opN p_ (dn 162 v0) Kp fun x1=>
 opN p_ (aM 258) Kp fun x2=>
 opN p_ (aM 258) Kp fun x3=>
 jw (fun J1=>
 e8 (qC (opN p_ (fC 197 (.int .i64 286) (.int .i64 286)) Kp fun x9=>
 qC (opN p_ (fC 197 (.int .i64 30) (.int .i64 30)) Kp fun x10=>
 stD p_ (az 299 [(0,x9),(1,x10)]) fun D2 x11=>
 opN p_ (aM 299) Kp fun x4=>
 (fun w=>D2 w∧(opN p_ (ak 299 x4 x11) Kp fun _=>
 J1 x4) w))
 (opN p_ (aM 299) Kp fun x4=>
 opN p_ (fC 197 (.int .i64 30) (.int .i64 30)) Kp fun x10=>
 stS p_ (az 299 [(0,x9),(1,x10)]) fun x11=>
 opN p_ (ak 299 x4 x11) Kp fun _=>
 J1 x4))
 (qC (opN p_ (fC 197 (.int .i64 30) (.int .i64 30)) Kp fun x10=>
 qC (opN p_ (fC 197 (.int .i64 286) (.int .i64 286)) Kp fun x9=>
 stD p_ (az 299 [(0,x9),(1,x10)]) fun D2 x11=>
 opN p_ (aM 299) Kp fun x4=>
 (fun w=>D2 w∧(opN p_ (ak 299 x4 x11) Kp fun _=>
 J1 x4) w))
 (opN p_ (aM 299) Kp fun x4=>
 opN p_ (fC 197 (.int .i64 286) (.int .i64 286)) Kp fun x9=>
 stS p_ (az 299 [(0,x9),(1,x10)]) fun x11=>
 opN p_ (ak 299 x4 x11) Kp fun _=>
 J1 x4))
 (opN p_ (aM 299) Kp fun x4=>
 qC (opN p_ (fC 197 (.int .i64 286) (.int .i64 286)) Kp fun x9=>
 opN p_ (fC 197 (.int .i64 30) (.int .i64 30)) Kp fun x10=>
 stS p_ (az 299 [(0,x9),(1,x10)]) fun x11=>
 opN p_ (ak 299 x4 x11) Kp fun _=>
 J1 x4)
 (opN p_ (fC 197 (.int .i64 30) (.int .i64 30)) Kp fun x10=>
 opN p_ (fC 197 (.int .i64 286) (.int .i64 286)) Kp fun x9=>
 stS p_ (az 299 [(0,x9),(1,x10)]) fun x11=>
 opN p_ (ak 299 x4 x11) Kp fun _=>
 J1 x4))))) fun _ z4=>
 opN p_ (af 162 x1) Kp fun x12=>
 opN p_ (bR 299 z4 (.int .i64 0)) Kp fun x13=>
 opN p_ (af 197 x13) Kp fun x14=>
 opN p_ (az 258 [(0,x14)]) Kp fun x15=>
 opN p_ (bR 299 z4 (.int .i64 1)) Kp fun x16=>
 opN p_ (af 197 x16) Kp fun x17=>
 opN p_ (az 258 [(0,x17)]) Kp fun x18=>
 opN p_ (aj (fn 199) [x12,x15,x18,(fn 229)]) Kp fun x19=>
 opN p_ (bR 299 z4 (.int .i64 0)) Kp fun x21=>
 opN p_ (af 197 x21) Kp fun x22=>
 opN p_ (aj (fn 230) [x22,(.int .i64 15)]) Kp fun x23=>
 opN p_ (bi x23 0) Kp fun x24=>
 opN p_ (bi x23 1) Kp fun x25=>
 opN p_ (bR 299 z4 (.int .i64 1)) Kp fun x27=>
 opN p_ (af 197 x27) Kp fun x28=>
 opN p_ (aj (fn 230) [x28,(.int .i64 15)]) Kp fun x29=>
 opN p_ (bi x29 0) Kp fun x30=>
 opN p_ (bi x29 1) Kp fun x31=>
 opN p_ (aj (fn 200) [x24]) Kp fun x33=>
 opN p_ (aj (fn 200) [x30]) Kp fun x35=>
 opN p_ (ak 258 x2 x33) Kp fun _=>
 opN p_ (ak 258 x3 x35) Kp fun _=>
 (stS p_ (cG 258 x2) fun r0=>(stS p_ (cG 258 x3) fun r1=>K (.tuple #[r0,r1])))
theorem o4 {v0:Value}:Shp p_ 202 [v0] (kr v0):=bT Tryz.call202 Tryz.func202 (an:={drs:=[(1,(.alt ((.op 0 0 (.alt (.ofL [(1,0),(2,3),(3,0),(4,0)]) (.ofL [(3,0),(1,0),(2,1),(4,0)])))) ((.alt ((.op 1 0 (.alt (.ofL [(0,0),(2,3),(3,0),(4,0)]) (.ofL [(3,0),(0,0),(2,1),(4,0)])))) ((.op 3 0 (.alt (.ofL [(0,0),(1,0),(2,1),(4,0)]) (.ofL [(1,0),(0,0),(2,1),(4,0)]))))))))],rcuts:=[(2,[4])]}) fun _ _=>by kernel_rfl
def rz (v0 v1 v2:Value)(Kp:PK)(K:Value→WP):WP:=
 opN p_ (dn 156 v0) Kp fun x3=>
 opN p_ (dn 258 v1) Kp fun x4=>
 opN p_ (dn 258 v2) Kp fun x5=>
 e8 (stS p_ (bB 258 x4 0) fun x23=>
 stS p_ (af 197 x23) fun x24=>
 stD p_ (bB 258 x5 0) fun D3 x26=>
 stD p_ (af 197 x26) fun D4 x27=>
 opN p_ (aj (fn 231) [x24,(.int .i64 257)]) Kp fun x25=>
 (fun w=>D4 w∧(fun w=>D3 w∧(opN p_ (aj (fn 231) [x27,(.int .i64 1)]) Kp fun x28=>
 e8 (stS p_ (bB 258 x4 0) fun x29=>
 stS p_ (af 197 x29) fun x30=>
 stS p_ (eo 197 x30 none (some x25) none) fun x32=>
 stD p_ (bB 258 x5 0) fun D5 x34=>
 stD p_ (af 197 x34) fun D6 x35=>
 stD p_ (eo 197 x35 none (some x28) none) fun D8 x37=>
 opN p_ (cP #[197,197] 197 [(.slice none 0 0),x32]) Kp fun x33=>
 (fun w=>D8 w∧(fun w=>D6 w∧(fun w=>D5 w∧(opN p_ (cP #[197,197] 197 [x33,x37]) Kp fun x38=>
 opN p_ (fC 197 (.int .i64 19) (.int .i64 19)) Kp fun x39=>
 opN p_ (aM 197) Kp fun x9=>
 opN p_ (ak 197 x9 x39) Kp fun _=>
 opN p_ (aM 3) Kp fun x10=>
 opN p_ (ak 3 x10 (.int .i64 0)) Kp fun _=>
 opN p_ (aj (fn 232) [x38]) Kp fun x41=>
 rfS p_ x41 1 (fun u42 B1 N1 J1r=>
 opN p_ (aM 306) dW fun x11=>
 opN p_ (ak 306 x11 u42) dW fun _=>
 B1 (opN p_ (af 197 x9) dW fun x43=>
 opN p_ (bB 306 x11 0) dW fun x44=>
 opN p_ (af 3 x44) dW fun x45=>
 opN p_ (bR 197 x43 x45) dW fun x46=>
 opN p_ (af 3 x46) dW fun x47=>
 opN p_ (ae .add 3 x47 (.int .i64 1)) dW fun x48=>
 opN p_ (bR 197 x43 x45) dW fun x49=>
 opN p_ (ak 3 x49 x48) dW fun _=>
 opN p_ (af 197 x9) dW fun x50=>
 opN p_ (bB 306 x11 0) dW fun x51=>
 opN p_ (af 3 x51) dW fun x52=>
 opN p_ (bR 197 x50 x52) dW fun x53=>
 opN p_ (af 3 x53) dW fun x54=>
 opN p_ (b_ .eql 3 (.tmp 54) (.const (.int .i64 1)) x54 (.int .i64 1)) dW fun x55=>
 condS x55
 (opN p_ (af 3 x10) dW fun x56=>
 opN p_ (ae .add 3 x56 (.int .i64 1)) dW fun x57=>
 opN p_ (ak 3 x10 x57) dW fun _=>
 N1)
 (N1))) (fun d1=>
 mZ (fun J1=>
 opN p_ (af 3 x10) (e_ [d1] Kp) fun x58=>
 opN p_ (b_ .eql 3 (.tmp 58) (.const (.int .i64 1)) x58 (.int .i64 1)) (e_ [d1] Kp) fun x59=>
 condS x59
 (jw (fun J2=>
 opN p_ (af 197 x9) (e_ [d1] Kp) fun x60=>
 opN p_ (bR 197 x60 (.int .i64 0)) (e_ [d1] Kp) fun x61=>
 opN p_ (af 3 x61) (e_ [d1] Kp) fun x62=>
 opN p_ (ae .gtr 3 x62 (.int .i64 0)) (e_ [d1] Kp) fun x63=>
 condS x63
 (J2 (.int .i64 1))
 (J2 (.int .i64 0))) fun _ z12=>
 opN p_ (af 197 x9) (e_ [d1] Kp) fun x64=>
 opN p_ (bR 197 x64 z12) (e_ [d1] Kp) fun x66=>
 opN p_ (af 3 x66) (e_ [d1] Kp) fun x67=>
 opN p_ (ae .add 3 x67 (.int .i64 1)) (e_ [d1] Kp) fun x68=>
 opN p_ (bR 197 x64 z12) (e_ [d1] Kp) fun x69=>
 opN p_ (ak 3 x69 x68) (e_ [d1] Kp) fun _=>
 J1)
 (J1)) fun _=>
 opN p_ (af 197 x9) (e_ [d1] Kp) fun x71=>
 opN p_ (aj (fn 230) [x71,(.int .i64 7)]) (e_ [d1] Kp) fun x72=>
 opN p_ (bi x72 0) (e_ [d1] Kp) fun x73=>
 opN p_ (bi x72 1) (e_ [d1] Kp) fun x74=>
 opN p_ (aj (fn 200) [x73]) (e_ [d1] Kp) fun x76=>
 opN p_ (aM 258) (e_ [d1] Kp) fun x15=>
 opN p_ (ak 258 x15 x76) (e_ [d1] Kp) fun _=>
 opN p_ (az 236 [(0,(.int .i64 16)),(1,(.int .i64 17)),(2,(.int .i64 18)),(3,(.int .i64 0)),(4,(.int .i64 8)),(5,(.int .i64 7)),(6,(.int .i64 9)),(7,(.int .i64 6)),(8,(.int .i64 10)),(9,(.int .i64 5)),(10,(.int .i64 11)),(11,(.int .i64 4)),(12,(.int .i64 12)),(13,(.int .i64 3)),(14,(.int .i64 13)),(15,(.int .i64 2)),(16,(.int .i64 14)),(17,(.int .i64 1)),(18,(.int .i64 15))]) (e_ [d1] Kp) fun x77=>
 dF (fun I1 m1 _ y16 y78=>
 opN p_ (ae .lss 3 y78 (.int .i64 19)) (e_ [d1] Kp) fun x79=>
 condS x79
 (opN p_ (iq 236 x77 y78) (e_ [d1] Kp) fun x80=>
 opN p_ (bR 197 x73 x80) (e_ [d1] Kp) fun x84=>
 opN p_ (af 3 x84) (e_ [d1] Kp) fun x85=>
 opN p_ (aS 197 1 [(0,x85)]) (e_ [d1] Kp) fun x86=>
 opN p_ (cP #[197,197] 197 [y16,x86]) (e_ [d1] Kp) fun x87=>
 opN p_ (ae .add 3 y78 (.int .i64 1)) (e_ [d1] Kp) fun x88=>
 cH I1 m1 x87 x88)
 (opN p_ (aj (fn 231) [y16,(.int .i64 4)]) (e_ [d1] Kp) fun x90=>
 opN p_ (af 156 x3) (e_ [d1] Kp) fun x91=>
 opN p_ (ae .sub 3 x25 (.int .i64 257)) (e_ [d1] Kp) fun x93=>
 opN p_ (aj (fn 156) [x91,x93,(.int .i64 5)]) (e_ [d1] Kp) fun x94=>
 opN p_ (af 156 x3) (e_ [d1] Kp) fun x95=>
 opN p_ (ae .sub 3 x28 (.int .i64 1)) (e_ [d1] Kp) fun x97=>
 opN p_ (aj (fn 156) [x95,x97,(.int .i64 5)]) (e_ [d1] Kp) fun x98=>
 opN p_ (af 156 x3) (e_ [d1] Kp) fun x99=>
 opN p_ (ae .sub 3 x90 (.int .i64 4)) (e_ [d1] Kp) fun x101=>
 opN p_ (aj (fn 156) [x99,x101,(.int .i64 4)]) (e_ [d1] Kp) fun x102=>
 opN p_ (eo 197 y16 none (some x90) none) (e_ [d1] Kp) fun x105=>
 opN p_ (aV #[197] 3 [x105]) (e_ [d1] Kp) fun x106=>
 bX (fun I2 m2 _ y107=>
 opN p_ (ae .lss 3 y107 x106) (e_ [d1] Kp) fun x108=>
 condS x108
 (opN p_ (bR 197 x105 y107) (e_ [d1] Kp) fun x109=>
 opN p_ (af 3 x109) (e_ [d1] Kp) fun x110=>
 opN p_ (af 156 x3) (e_ [d1] Kp) fun x111=>
 opN p_ (aj (fn 156) [x111,x110,(.int .i64 3)]) (e_ [d1] Kp) fun x113=>
 opN p_ (ae .add 3 y107 (.int .i64 1)) (e_ [d1] Kp) fun x114=>
 bI I2 m2 x114)
 (opN p_ (aj (fn 232) [x38]) (e_ [d1] Kp) fun x116=>
 rfS p_ x116 1 (fun u117 B2 N2 J2r=>
 opN p_ (aM 306) dW fun x22=>
 opN p_ (ak 306 x22 u117) dW fun _=>
 B2 (opN p_ (af 156 x3) dW fun x118=>
 opN p_ (bB 258 x15 1) dW fun x119=>
 opN p_ (af 197 x119) dW fun x120=>
 opN p_ (bB 258 x15 0) dW fun x121=>
 opN p_ (af 197 x121) dW fun x122=>
 opN p_ (bB 306 x22 0) dW fun x123=>
 opN p_ (af 3 x123) dW fun x124=>
 opN p_ (aj (fn 228) [x118,x120,x122,x124]) dW fun x125=>
 opN p_ (af 156 x3) dW fun x126=>
 opN p_ (bB 306 x22 2) dW fun x127=>
 opN p_ (af 3 x127) dW fun x128=>
 opN p_ (bB 306 x22 1) dW fun x129=>
 opN p_ (af 3 x129) dW fun x130=>
 opN p_ (aj (fn 156) [x126,x128,x130]) dW fun x131=>
 N2)) (fun d2=>
 (tkS d2 (tkS d1 (K (.tuple #[]))))) (fun d2=>(tkS d2 (tkS d1 (K (.tuple #[]))))) (fun d2 ch=>(tkS d2 (tkS d1 (Kp ch)))))) (.int .i64 0))) (.slice none 0 0) (.int .i64 0)) (fun d1=>(tkS d1 (K (.tuple #[])))) (fun d1 ch=>(tkS d1 (Kp ch)))) w) w) w))) w) w))
theorem wE {v0 v1 v2:Value}:Shp p_ 203 [v0,v1,v2] (rz v0 v1 v2):=Ip Tryz.call203 Tryz.func203 (an:={cuts:=[(14,[12]),(15,[])],loops:=[(19,[16,78]),(28,[107])],drs:=[(1,.ofL [(0,1),(1,1),(3,3),(4,3),(2,0),(5,0),(6,1),(7,1)]),(2,.ofL [(0,1),(1,1),(2,1),(3,1),(5,3),(6,3),(7,2),(8,3),(4,0),(9,0),(10,1)])]}) fun _ _=>by kernel_rfl
def wF (Kp:PK)(K:Value->WP):WP:=
 opN p_ (aM 266) Kp fun x0=>
 opN p_ (az 266 [(0,(.int .u8 1)),(1,(.int .u8 2)),(2,(.int .u8 4)),(3,(.int .u8 8)),(4,(.int .u8 16)),(5,(.int .u8 32)),(6,(.int .u8 64)),(7,(.int .u8 128))]) Kp fun x1=>
 opN p_ (ak 266 x0 x1) Kp fun _=>
 (stS p_ (cG 266 x0) fun r0=>K r0)
theorem Ax  :Shp p_ 204 [] (wF):=bT Tryz.call204 Tryz.func204 (an:={}) fun _ _=>by kernel_rfl
def ku (v0 v1 v2:Value)(Kp:PK)(K:Value→WP):WP:=
 opN p_ (aj (fn 233) [v0,v1,v2]) Kp fun x14=>
 opN p_ (bi x14 0) Kp fun x15=>
 opN p_ (bi x14 1) Kp fun x16=>
 opN p_ (b_ .neq 124 (.tmp 17) (.const .nilIface) x16 .nilIface) Kp fun x18=>
 condS x18
 (opN p_ (aj (fn 234) [(.string ⟨#[80,97,114,115,101,85,105,110,116]⟩),v0,v1,v2,x16]) Kp fun x24=>
 K (.tuple #[x15,x24]))
 (K (.tuple #[x15,.nilIface]))
theorem o5 {v0 v1 v2:Value}:Shp p_ 205 [v0,v1,v2] (ku v0 v1 v2):=bT Tryz.call205 Tryz.func205 (an:={}) fun _ _=>by kernel_rfl
def mA (v0 v1 v2:Value)(Kp:PK)(K:Value→WP):WP:=
 dF (fun I1 m1 _ y0 y8=>
 opN p_ (ae .lss 3 y8 v1) Kp fun x9=>
 condS x9
 (opN p_ (aS 197 1 [(0,v2)]) Kp fun x12=>
 opN p_ (cP #[197,197] 197 [y0,x12]) Kp fun x13=>
 opN p_ (ae .add 3 y8 (.int .i64 1)) Kp fun x14=>
 cH I1 m1 x13 x14)
 (K y0)) v0 (.int .i64 0)
theorem rA {v0 v1 v2:Value}:Shp p_ 209 [v0,v1,v2] (mA v0 v1 v2):=bT Tryz.call209 Tryz.func209 (an:={loops:=[(2,[0,8])]}) fun _ _=>by kernel_rfl
def rB (v0 v1:Value)(Kp:PK)(K:Value->WP):WP:=
 opN p_ (aj (fn 235) [v0,v1]) Kp fun x10=>
 opN p_ (bi x10 0) Kp fun x11=>
 opN p_ (bi x10 1) Kp fun x12=>
 opN p_ (aj (fn 175) [x12]) Kp fun x14=>
 K x11
theorem wG {v0 v1:Value}:Shp p_ 210 [v0,v1] (rB v0 v1):=bT Tryz.call210 Tryz.func210 (an:={}) fun _ _=>by kernel_rfl
def pC (v0:Value)(Kp:PK)(K:Value→WP):WP:=
 opN p_ (ae .sub 3 v0 (.int .i64 257)) Kp fun x6=>
 opN p_ (ae .lss 3 x6 (.int .i64 0)) Kp fun x20=>
 gdK x20 false (fun k=>k x6) fun x22=>
 gdK x20 false (opN p_ (ae .gtr 3 x22 (.int .i64 28)) Kp) fun x23=>
 opN p_ (aK x20 (.bool true) x23) Kp fun x24=>
 condS x24
 (K (.tuple #[(.int .i64 0),(.int .i64 0)]))
 (opN p_ (b_ .eql 3 (.tmp 26) (.const (.int .i64 28)) x6 (.int .i64 28)) Kp fun x27=>
 condS x27
 (K (.tuple #[(.int .i64 258),(.int .i64 0)]))
 (opN p_ (ae .lss 3 x6 (.int .i64 8)) Kp fun x30=>
 condS x30
 (opN p_ (ae .add 3 x6 (.int .i64 3)) Kp fun x32=>
 K (.tuple #[x32,(.int .i64 0)]))
 (opN p_ (ae .quo 3 x6 (.int .i64 4)) Kp fun x8=>
 opN p_ (ae .sub 3 x8 (.int .i64 1)) Kp fun x9=>
 opN p_ (ae .rem 3 x6 (.int .i64 4)) Kp fun x11=>
 opN p_ (ae .add 3 (.int .i64 4) x11) Kp fun x12=>
 opN p_ (bz 3 149 x9) Kp fun x14=>
 opN p_ (ae .shl 3 x12 x14) Kp fun x15=>
 opN p_ (ae .add 3 (.int .i64 3) x15) Kp fun x16=>
 K (.tuple #[x16,x9]))))
theorem vi {v0:Value}:Shp p_ 211 [v0] (pC v0):=bT Tryz.call211 Tryz.func211 (an:={}) fun _ _=>by kernel_rfl
def mB (v0:Value)(Kp:PK)(K:Value→WP):WP:=
 opN p_ (ae .lss 3 v0 (.int .i64 0)) Kp fun x6=>
 gdK x6 false (fun k=>k v0) fun x8=>
 gdK x6 false (opN p_ (ae .gtr 3 x8 (.int .i64 29)) Kp) fun x9=>
 opN p_ (aK x6 (.bool true) x9) Kp fun x10=>
 condS x10
 (K (.tuple #[(.int .i64 0),(.int .i64 0)]))
 (opN p_ (ae .lss 3 v0 (.int .i64 4)) Kp fun x13=>
 condS x13
 (opN p_ (ae .add 3 v0 (.int .i64 1)) Kp fun x15=>
 K (.tuple #[x15,(.int .i64 0)]))
 (opN p_ (ae .quo 3 v0 (.int .i64 2)) Kp fun x17=>
 opN p_ (ae .sub 3 x17 (.int .i64 1)) Kp fun x18=>
 opN p_ (ae .rem 3 v0 (.int .i64 2)) Kp fun x20=>
 opN p_ (ae .add 3 (.int .i64 2) x20) Kp fun x21=>
 opN p_ (bz 3 149 x18) Kp fun x23=>
 opN p_ (ae .shl 3 x21 x23) Kp fun x24=>
 opN p_ (ae .add 3 (.int .i64 1) x24) Kp fun x25=>
 K (.tuple #[x25,x18])))
theorem rF {v0:Value}:Shp p_ 212 [v0] (mB v0):=bT Tryz.call212 Tryz.func212 (an:={}) fun _ _=>by kernel_rfl
def iW (v0:Value)(Kp:PK)(K:Value→WP):WP:=
 opN p_ (aj (fn 226) [v0]) Kp fun x11=>
 opN p_ (bi x11 0) Kp fun x12=>
 opN p_ (bi x11 1) Kp fun x13=>
 opN p_ (b_ .neq 27 (.tmp 14) (.const (.int .i64 0)) x13 (.int .i64 0)) Kp fun x15=>
 condS x15
 (K (.tuple #[(.pointer none),x13]))
 (opN p_ (pP 311 none) Kp fun x17=>
 opN p_ (az 313 [(0,x17)]) Kp fun x18=>
 opN p_ (dn 313 x18) Kp fun x19=>
 opN p_ (aV #[197] 3 [v0]) Kp fun x21=>
 bX (fun I1 m1 _ y22=>
 opN p_ (ae .lss 3 y22 x21) Kp fun x23=>
 condS x23
 (opN p_ (bR 197 v0 y22) Kp fun x25=>
 opN p_ (af 3 x25) Kp fun x26=>
 opN p_ (ae .gtr 3 x26 (.int .i64 0)) Kp fun x28=>
 condS x28
 (e8 (stS p_ (bG x19) fun x30=>
 stS p_ (bB 313 x30 0) fun x31=>
 stS p_ (af 311 x31) fun x32=>
 stS p_ (bR 197 x12 y22) fun x36=>
 stS p_ (af 3 x36) fun x37=>
 stS p_ (az 315 [(0,x26),(1,x37)]) fun x38=>
 opN p_ (j9 311 x32 x38 y22) Kp fun _=>
 opN p_ (ae .add 3 y22 (.int .i64 1)) Kp fun x40=>
 bI I1 m1 x40))
 (opN p_ (ae .add 3 y22 (.int .i64 1)) Kp fun x40=>
 bI I1 m1 x40))
 (K (.tuple #[x19,(.int .i64 0)]))) (.int .i64 0))
theorem kw {v0:Value}:Shp p_ 213 [v0] (iW v0):=bT Tryz.call213 Tryz.func213 (an:={loops:=[(6,[22])],drs:=[(9,.ofL [(0,1),(1,1),(2,1),(3,1),(4,1),(5,1),(6,1),(7,1),(8,1),(9,1),(10,1),(11,0)])]}) fun _ _=>by kernel_rfl
def uK (v0:Value)(Kp:PK)(K:Value→WP):WP:=
 opN p_ (aM 280) Kp fun x2=>
 opN p_ (aV #[197] 3 [v0]) Kp fun x10=>
 opN p_ (ae .gtr 3 x10 (.int .i64 320)) Kp fun x11=>
 condS x11
 (opN p_ (af 280 x2) Kp fun x12=>
 opN p_ (ak 280 x2 x12) Kp fun _=>
 (stS p_ (cG 280 x2) fun r0=>K (.tuple #[r0,(.bool false)])))
 (opN p_ (aV #[197] 3 [v0]) Kp fun x14=>
 bX (fun I1 m1 _ y15=>
 opN p_ (ae .lss 3 y15 x14) Kp fun x16=>
 condS x16
 (opN p_ (bR 197 v0 y15) Kp fun x17=>
 opN p_ (af 3 x17) Kp fun x18=>
 opN p_ (ae .lss 3 x18 (.int .i64 0)) Kp fun x20=>
 gdK x20 false (fun k=>k x18) fun x22=>
 gdK x20 false (opN p_ (ae .gtr 3 x22 (.int .i64 15)) Kp) fun x23=>
 opN p_ (aK x20 (.bool true) x23) Kp fun x24=>
 condS x24
 (opN p_ (af 280 x2) Kp fun x25=>
 opN p_ (ak 280 x2 x25) Kp fun _=>
 (stS p_ (cG 280 x2) fun r0=>K (.tuple #[r0,(.bool false)])))
 (opN p_ (bR 280 x2 x18) Kp fun x27=>
 opN p_ (af 3 x27) Kp fun x28=>
 opN p_ (ae .add 3 x28 (.int .i64 1)) Kp fun x29=>
 opN p_ (bR 280 x2 x18) Kp fun x30=>
 opN p_ (ak 3 x30 x29) Kp fun _=>
 opN p_ (ae .add 3 y15 (.int .i64 1)) Kp fun x31=>
 bI I1 m1 x31))
 (opN p_ (eo 280 x2 (some (.int .i64 1)) none none) Kp fun x32=>
 opN p_ (aV #[197] 3 [x32]) Kp fun x33=>
 dF (fun I2 m2 _ y6 y34=>
 opN p_ (ae .lss 3 y34 x33) Kp fun x35=>
 condS x35
 (opN p_ (bR 197 x32 y34) Kp fun x36=>
 opN p_ (af 3 x36) Kp fun x37=>
 opN p_ (ae .mul 3 (.int .i64 2) y6) Kp fun x39=>
 opN p_ (ae .sub 3 x39 x37) Kp fun x41=>
 opN p_ (ae .lss 3 x41 (.int .i64 0)) Kp fun x43=>
 condS x43
 (opN p_ (af 280 x2) Kp fun x44=>
 opN p_ (ak 280 x2 x44) Kp fun _=>
 (stS p_ (cG 280 x2) fun r0=>K (.tuple #[r0,(.bool false)])))
 (opN p_ (ae .add 3 y34 (.int .i64 1)) Kp fun x45=>
 cH I2 m2 x41 x45))
 (opN p_ (af 280 x2) Kp fun x46=>
 opN p_ (ak 280 x2 x46) Kp fun _=>
 (stS p_ (cG 280 x2) fun r0=>K (.tuple #[r0,(.bool true)])))) (.int .i64 1) (.int .i64 0))) (.int .i64 0))
theorem yJ {v0:Value}:Shp p_ 214 [v0] (uK v0):=bT Tryz.call214 Tryz.func214 (an:={loops:=[(4,[15]),(12,[6,34])]}) fun _ _=>by kernel_rfl
def mC (v0:Value)(Kp:PK)(K:Value->WP):WP:=
 e8 (stS p_ (bG v0) fun x5=>
 stS p_ (bB 227 x5 0) fun x6=>
 stS p_ (af 23 x6) fun x7=>
 stS p_ (bG v0) fun x9=>
 stS p_ (bB 227 x9 1) fun x10=>
 stS p_ (af 3 x10) fun x11=>
 stS p_ (ae .quo 3 x11 (.int .i64 8)) fun x12=>
 stS p_ (bR 23 x7 x12) fun x13=>
 stS p_ (af 5 x13) fun x14=>
 stS p_ (bG v0) fun x16=>
 stS p_ (bB 227 x16 1) fun x17=>
 stS p_ (af 3 x17) fun x18=>
 stS p_ (ae .rem 3 x18 (.int .i64 8)) fun x19=>
 stS p_ (bz 3 149 x19) fun x20=>
 stS p_ (ae .shr 5 x14 x20) fun x21=>
 stS p_ (ae .and 5 x21 (.int .u8 1)) fun x22=>
 stS p_ (bz 5 3 x22) fun x23=>
 opN p_ (bG v0) Kp fun x25=>
 opN p_ (bB 227 x25 1) Kp fun x26=>
 opN p_ (af 3 x26) Kp fun x27=>
 opN p_ (ae .add 3 x27 (.int .i64 1)) Kp fun x28=>
 opN p_ (bG v0) Kp fun x29=>
 opN p_ (bB 227 x29 1) Kp fun x30=>
 opN p_ (ak 3 x30 x28) Kp fun _=>
 K x23)
theorem rG {v0:Value}:Shp p_ 215 [v0] (mC v0):=bT Tryz.call215 Tryz.func215 (an:={drs:=[(1,.ofL [(0,1),(1,1),(2,1),(3,1),(4,1),(5,1),(6,1),(7,1),(8,1),(9,1),(10,1),(11,1),(12,1),(13,1),(14,1),(15,1),(16,1),(17,1),(18,1),(19,1),(20,1)])]}) fun _ _=>by kernel_rfl
def iL (v0 v1:Value)(Kp:PK)(K:Value->WP):WP:=
 opN p_ (dn 250 v0) Kp fun x2=>
 opN p_ (dn 3 v1) Kp fun x3=>
 opN p_ (lN (.func 236) [] [x3,x2]) Kp fun x5=>
 K x5
theorem lW {v0 v1:Value}:Shp p_ 222 [v0,v1] (iL v0 v1):=bT Tryz.call222 Tryz.func222 (an:={}) fun _ _=>by kernel_rfl
def lx (v0 v1 v2:Value)(Kp:PK)(K:Value→WP):WP:=
 bX (fun I1 m1 _ y7=>
 e8 (stS p_ (ae .lss 3 y7 (.int .i64 258)) fun x9=>
 gdK x9 true (fun k=>k v2) fun x11=>
 gdK x9 true (fun k=>k y7) fun x12=>
 gdK x9 true (stS p_ (ae .add 3 x11 x12)) fun x13=>
 gdK x9 true (fun k=>k v0) fun x14=>
 gdK x9 true (stS p_ (bG x14)) fun x15=>
 gdK x9 true (stS p_ (bB 253 x15 0)) fun x16=>
 gdK x9 true (stS p_ (af 23 x16)) fun x17=>
 gdK x9 true (stS p_ (aV #[23] 3 [x17])) fun x18=>
 gdK x9 true (stS p_ (ae .lss 3 x13 x18)) fun x19=>
 stS p_ (aK x9 x19 (.bool false)) fun x20=>
 gdK x20 true (fun k=>k v0) fun x22=>
 gdK x20 true (stS p_ (bG x22)) fun x23=>
 gdK x20 true (stS p_ (bB 253 x23 0)) fun x24=>
 gdK x20 true (stS p_ (af 23 x24)) fun x25=>
 gdK x20 true (fun k=>k v1) fun x26=>
 gdK x20 true (fun k=>k y7) fun x27=>
 gdK x20 true (stS p_ (ae .add 3 x26 x27)) fun x28=>
 gdK x20 true (stS p_ (bR 23 x25 x28)) fun x29=>
 gdK x20 true (stS p_ (af 5 x29)) fun x30=>
 gdK x20 true (fun k=>k v0) fun x31=>
 gdK x20 true (stS p_ (bG x31)) fun x32=>
 gdK x20 true (stS p_ (bB 253 x32 0)) fun x33=>
 gdK x20 true (stS p_ (af 23 x33)) fun x34=>
 gdK x20 true (fun k=>k v2) fun x35=>
 gdK x20 true (fun k=>k y7) fun x36=>
 gdK x20 true (stS p_ (ae .add 3 x35 x36)) fun x37=>
 gdK x20 true (stS p_ (bR 23 x34 x37)) fun x38=>
 gdK x20 true (stS p_ (af 5 x38)) fun x39=>
 gdK x20 true (stS p_ (b_ .eql 5 (.tmp 30) (.tmp 39) x30 x39)) fun x40=>
 stS p_ (aK x20 x40 (.bool false)) fun x41=>
 condS x41
 (opN p_ (ae .add 3 y7 (.int .i64 1)) Kp fun x43=>
 bI I1 m1 x43)
 (K y7))) (.int .i64 0)
theorem qh {v0 v1 v2:Value}:Shp p_ 223 [v0,v1,v2] (lx v0 v1 v2):=bT Tryz.call223 Tryz.func223 (an:={loops:=[(2,[7])],drs:=[(2,.ofL [(0,1),(1,1),(2,1),(3,1),(4,1),(5,1),(6,1),(7,1),(8,1),(9,1),(10,1),(11,1),(12,1),(13,1),(14,1),(15,1),(16,1),(17,1),(18,1),(19,1),(20,1),(21,1),(22,1),(23,1),(24,1),(25,1),(26,1),(27,1),(28,1),(29,1),(30,1),(31,1),(32,1),(33,1)])]}) fun _ _=>by kernel_rfl
def zl (v0:Value)(Kp:PK)(K:Value→WP):WP:=
 opN p_ (ae .gtr 3 v0 (.int .i64 258)) Kp fun x6=>
 condS x6
 (K (.tuple #[(.int .i64 (-1)),(.int .i64 0),(.int .i64 0)]))
 (opN p_ (aj (fn 237) [v0,(.int .i64 257),(.int .i64 285),(fn 211)]) Kp fun x8=>
 opN p_ (bi x8 0) Kp fun x9=>
 opN p_ (bi x8 1) Kp fun x10=>
 opN p_ (bi x8 2) Kp fun x11=>
 K (.tuple #[x9,x10,x11]))
theorem Cr {v0:Value}:Shp p_ 224 [v0] (zl v0):=bT Tryz.call224 Tryz.func224 (an:={}) fun _ _=>by kernel_rfl
def uL (v0:Value)(Kp:PK)(K:Value→WP):WP:=
 opN p_ (ae .gtr 3 v0 (.int .i64 32768)) Kp fun x6=>
 condS x6
 (K (.tuple #[(.int .i64 (-1)),(.int .i64 0),(.int .i64 0)]))
 (opN p_ (aj (fn 237) [v0,(.int .i64 0),(.int .i64 29),(fn 212)]) Kp fun x8=>
 opN p_ (bi x8 0) Kp fun x9=>
 opN p_ (bi x8 1) Kp fun x10=>
 opN p_ (bi x8 2) Kp fun x11=>
 K (.tuple #[x9,x10,x11]))
theorem yK {v0:Value}:Shp p_ 225 [v0] (uL v0):=bT Tryz.call225 Tryz.func225 (an:={}) fun _ _=>by kernel_rfl
def wH (v0:Value)(Kp:PK)(K:Value→WP):WP:=
 opN p_ (aj (fn 214) [v0]) Kp fun x13=>
 opN p_ (bi x13 0) Kp fun x14=>
 opN p_ (bi x13 1) Kp fun x15=>
 opN p_ (aM 280) Kp fun x4=>
 opN p_ (ak 280 x4 x14) Kp fun _=>
 opN p_ (jZ .not x15) Kp fun x17=>
 condS x17
 (K (.tuple #[(.slice none 0 0),(.int .i64 30)]))
 (opN p_ (bR 280 x4 (.int .i64 0)) Kp fun x18=>
 opN p_ (ak 3 x18 (.int .i64 0)) Kp fun _=>
 opN p_ (aM 280) Kp fun x6=>
 bX (fun I1 m1 _ y7=>
 opN p_ (ae .leq 3 y7 (.int .i64 15)) Kp fun x20=>
 condS x20
 (e8 (stS p_ (ae .sub 3 y7 (.int .i64 1)) fun x25=>
 stS p_ (bR 280 x6 x25) fun x26=>
 stS p_ (af 3 x26) fun x27=>
 stS p_ (ae .sub 3 y7 (.int .i64 1)) fun x29=>
 stS p_ (bR 280 x4 x29) fun x30=>
 stS p_ (af 3 x30) fun x31=>
 stS p_ (ae .add 3 x27 x31) fun x32=>
 stS p_ (ae .shl 3 x32 (.int .u64 1)) fun x33=>
 stS p_ (bR 280 x6 y7) fun x34=>
 opN p_ (ak 3 x34 x33) Kp fun _=>
 opN p_ (ae .add 3 y7 (.int .i64 1)) Kp fun x22=>
 bI I1 m1 x22))
 (opN p_ (aV #[197] 3 [v0]) Kp fun x36=>
 opN p_ (fC 197 x36 x36) Kp fun x37=>
 opN p_ (aV #[197] 3 [v0]) Kp fun x39=>
 bX (fun I2 m2 _ y40=>
 opN p_ (ae .lss 3 y40 x39) Kp fun x41=>
 condS x41
 (opN p_ (bR 197 v0 y40) Kp fun x43=>
 opN p_ (af 3 x43) Kp fun x44=>
 opN p_ (ae .gtr 3 x44 (.int .i64 0)) Kp fun x46=>
 condS x46
 (opN p_ (bR 280 x6 x44) Kp fun x50=>
 opN p_ (af 3 x50) Kp fun x51=>
 opN p_ (bR 197 x37 y40) Kp fun x52=>
 opN p_ (ak 3 x52 x51) Kp fun _=>
 opN p_ (bR 280 x6 x44) Kp fun x54=>
 opN p_ (af 3 x54) Kp fun x55=>
 opN p_ (ae .add 3 x55 (.int .i64 1)) Kp fun x56=>
 opN p_ (bR 280 x6 x44) Kp fun x57=>
 opN p_ (ak 3 x57 x56) Kp fun _=>
 opN p_ (ae .add 3 y40 (.int .i64 1)) Kp fun x58=>
 bI I2 m2 x58)
 (opN p_ (ae .add 3 y40 (.int .i64 1)) Kp fun x58=>
 bI I2 m2 x58))
 (K (.tuple #[x37,(.int .i64 0)]))) (.int .i64 0))) (.int .i64 1))
theorem Ay {v0:Value}:Shp p_ 226 [v0] (wH v0):=bT Tryz.call226 Tryz.func226 (an:={loops:=[(7,[7]),(12,[40])],drs:=[(9,.ofL [(0,1),(1,1),(2,1),(3,1),(4,1),(5,1),(6,1),(7,1),(8,1),(9,1),(10,1),(11,1),(12,0)])]}) fun _ _=>by kernel_rfl
def nI (v0 v1 v2 v3 v4:Value)(Kp:PK)(K:Value->WP):WP:=
 opN p_ (dn 258 v0) Kp fun x5=>
 opN p_ (af 156 v4) Kp fun x9=>
 opN p_ (bB 258 x5 1) Kp fun x10=>
 opN p_ (af 197 x10) Kp fun x11=>
 opN p_ (bB 258 x5 0) Kp fun x12=>
 opN p_ (af 197 x12) Kp fun x13=>
 opN p_ (aj (fn 228) [x9,x11,x13,v1]) Kp fun x15=>
 opN p_ (af 156 v4) Kp fun x16=>
 opN p_ (aj (fn 156) [x16,v3,v2]) Kp fun x19=>
 K (.tuple #[])
theorem tF {v0 v1 v2 v3 v4:Value}:Shp p_ 227 [v0,v1,v2,v3,v4] (nI v0 v1 v2 v3 v4):=bT Tryz.call227 Tryz.func227 (an:={}) fun _ _=>by kernel_rfl
def Cs (v0 v1 v2 v3:Value)(Kp:PK)(K:Value→WP):WP:=
 opN p_ (ae .lss 3 v3 (.int .i64 0)) Kp fun x12=>
 gdK x12 false (fun k=>k v3) fun x14=>
 gdK x12 false (fun k=>k v1) fun x15=>
 gdK x12 false (opN p_ (aV #[197] 3 [x15]) Kp) fun x16=>
 gdK x12 false (fun k=>k v2) fun x17=>
 gdK x12 false (opN p_ (aV #[197] 3 [x17]) Kp) fun x18=>
 gdK x12 false (opN p_ (D_ #[3,3] 3 [x16,x18]) Kp) fun x19=>
 gdK x12 false (opN p_ (ae .geq 3 x14 x19) Kp) fun x20=>
 opN p_ (aK x12 (.bool true) x20) Kp fun x21=>
 condS x21
 (K (.int .i64 1))
 (e8 (stS p_ (bR 197 v1 v3) fun x24=>
 stS p_ (af 3 x24) fun x25=>
 stS p_ (bR 197 v2 v3) fun x28=>
 stS p_ (af 3 x28) fun x29=>
 opN p_ (ae .lss 3 x29 (.int .i64 1)) Kp fun x31=>
 gdK x31 false (fun k=>k x29) fun x33=>
 gdK x31 false (opN p_ (ae .gtr 3 x33 (.int .i64 15)) Kp) fun x34=>
 opN p_ (aK x31 (.bool true) x34) Kp fun x35=>
 gdK x35 false (fun k=>k x25) fun x37=>
 gdK x35 false (opN p_ (ae .lss 3 x37 (.int .i64 0)) Kp) fun x38=>
 opN p_ (aK x35 (.bool true) x38) Kp fun x39=>
 gdK x39 false (fun k=>k x25) fun x41=>
 gdK x39 false (fun k=>k x29) fun x42=>
 gdK x39 false (opN p_ (bz 3 149 x42) Kp) fun x43=>
 gdK x39 false (opN p_ (ae .shl 3 (.int .i64 1) x43) Kp) fun x44=>
 gdK x39 false (opN p_ (ae .geq 3 x41 x44) Kp) fun x45=>
 opN p_ (aK x39 (.bool true) x45) Kp fun x46=>
 condS x46
 (K (.int .i64 1))
 (opN p_ (aj (fn 238) [x25,x29]) Kp fun x50=>
 opN p_ (aj (fn 156) [v0,x50,x29]) Kp fun x52=>
 K x52)))
theorem Ek {v0 v1 v2 v3:Value}:Shp p_ 228 [v0,v1,v2,v3] (Cs v0 v1 v2 v3):=bT Tryz.call228 Tryz.func228 (an:={drs:=[(3,.ofL [(0,1),(1,1),(2,1),(3,1),(4,1),(5,1),(6,1),(7,1),(8,1),(9,1)])]}) fun _ _=>by kernel_rfl
def fw (v0 v1 v2 v3:Value)(Kp:PK)(K:Value->WP):WP:=
 opN p_ (dn 258 v0) Kp fun x4=>
 opN p_ (bB 258 x4 0) Kp fun x8=>
 opN p_ (af 197 x8) Kp fun x9=>
 opN p_ (bR 197 x9 v1) Kp fun x11=>
 opN p_ (af 3 x11) Kp fun x12=>
 opN p_ (ae .add 3 x12 (.int .i64 1)) Kp fun x13=>
 opN p_ (bR 197 x9 v1) Kp fun x14=>
 opN p_ (ak 3 x14 x13) Kp fun _=>
 K (.tuple #[])
theorem io {v0 v1 v2 v3:Value}:Shp p_ 229 [v0,v1,v2,v3] (fw v0 v1 v2 v3):=bT Tryz.call229 Tryz.func229 (an:={}) fun _ _=>by kernel_rfl
def rH (v0 v1:Value)(Kp:PK)(K:Value→WP):WP:=
 opN p_ (aV #[197] 3 [v0]) Kp fun x18=>
 opN p_ (ae .gtr 3 x18 (.int .i64 320)) Kp fun x19=>
 gdK x19 false (fun k=>k v1) fun x21=>
 gdK x19 false (opN p_ (ae .lss 3 x21 (.int .i64 1)) Kp) fun x22=>
 opN p_ (aK x19 (.bool true) x22) Kp fun x23=>
 gdK x23 false (fun k=>k v1) fun x25=>
 gdK x23 false (opN p_ (ae .gtr 3 x25 (.int .i64 15)) Kp) fun x26=>
 opN p_ (aK x23 (.bool true) x26) Kp fun x27=>
 condS x27
 (K (.tuple #[(.slice none 0 0),(.int .i64 1)]))
 (opN p_ (aV #[197] 3 [v0]) Kp fun x29=>
 dF (fun I1 m1 _ y6 y30=>
 opN p_ (ae .lss 3 y30 x29) Kp fun x31=>
 condS x31
 (opN p_ (bR 197 v0 y30) Kp fun x33=>
 opN p_ (af 3 x33) Kp fun x34=>
 opN p_ (ae .lss 3 x34 (.int .i64 0)) Kp fun x36=>
 gdK x36 false (fun k=>k x34) fun x38=>
 gdK x36 false (opN p_ (ae .gtr 3 x38 (.int .i64 1099511627776)) Kp) fun x39=>
 opN p_ (aK x36 (.bool true) x39) Kp fun x40=>
 condS x40
 (K (.tuple #[(.slice none 0 0),(.int .i64 1)]))
 (opN p_ (ae .gtr 3 x34 (.int .i64 0)) Kp fun x42=>
 condS x42
 (opN p_ (aS 197 1 [(0,y30)]) Kp fun x46=>
 opN p_ (az 319 [(0,x34),(1,x46)]) Kp fun x47=>
 opN p_ (aS 317 1 [(0,x47)]) Kp fun x48=>
 opN p_ (cP #[317,317] 317 [y6,x48]) Kp fun x49=>
 opN p_ (ae .add 3 y30 (.int .i64 1)) Kp fun x50=>
 cH I1 m1 x49 x50)
 (opN p_ (ae .add 3 y30 (.int .i64 1)) Kp fun x50=>
 cH I1 m1 y6 x50)))
 (opN p_ (aV #[317] 3 [y6]) Kp fun x52=>
 opN p_ (bz 3 149 v1) Kp fun x55=>
 opN p_ (ae .shl 3 (.int .i64 1) x55) Kp fun x56=>
 opN p_ (ae .gtr 3 x52 x56) Kp fun x57=>
 condS x57
 (K (.tuple #[(.slice none 0 0),(.int .i64 1)]))
 (opN p_ (aV #[197] 3 [v0]) Kp fun x59=>
 opN p_ (fC 197 x59 x59) Kp fun x60=>
 opN p_ (b_ .eql 3 (.tmp 61) (.const (.int .i64 1)) x52 (.int .i64 1)) Kp fun x62=>
 condS x62
 (opN p_ (bR 317 y6 (.int .i64 0)) Kp fun x65=>
 opN p_ (bB 319 x65 1) Kp fun x66=>
 opN p_ (af 197 x66) Kp fun x67=>
 opN p_ (bR 197 x67 (.int .i64 0)) Kp fun x68=>
 opN p_ (af 3 x68) Kp fun x69=>
 opN p_ (bR 197 x60 x69) Kp fun x70=>
 opN p_ (ak 3 x70 (.int .i64 1)) Kp fun _=>
 K (.tuple #[x60,(.int .i64 0)]))
 (opN p_ (aj (fn 239) [y6,(fn 240)]) Kp fun x73=>
 opN p_ (ae .sub 3 v1 (.int .i64 1)) Kp fun x76=>
 dF (fun I2 m2 _ y11 y77=>
 opN p_ (ae .lss 3 y77 x76) Kp fun x78=>
 condS x78
 (dF (fun I3 m3 _ y12 y13=>
 opN p_ (ae .add 3 y13 (.int .i64 1)) Kp fun x80=>
 opN p_ (aV #[317] 3 [y11]) Kp fun x82=>
 opN p_ (ae .lss 3 x80 x82) Kp fun x83=>
 condS x83
 (e8 (stD p_ (bR 317 y11 y13) fun D3 x89=>
 stD p_ (bB 319 x89 0) fun D4 x90=>
 stD p_ (af 3 x90) fun D5 x91=>
 stD p_ (ae .add 3 y13 (.int .i64 1)) fun D8 x94=>
 stD p_ (bR 317 y11 x94) fun D9 x95=>
 stD p_ (bB 319 x95 0) fun D10 x96=>
 stD p_ (af 3 x96) fun D11 x97=>
 stD p_ (ae .add 3 x91 x97) fun D12 x98=>
 stS p_ (bR 317 y11 y13) fun x101=>
 stS p_ (bB 319 x101 1) fun x102=>
 stS p_ (af 197 x102) fun x103=>
 stS p_ (ae .add 3 y13 (.int .i64 1)) fun x106=>
 stS p_ (bR 317 y11 x106) fun x107=>
 stS p_ (bB 319 x107 1) fun x108=>
 stS p_ (af 197 x108) fun x109=>
 opN p_ (aS 331 2 [(0,x103),(1,x109)]) Kp fun x110=>
 (fun w=>D12 w∧(fun w=>D11 w∧(fun w=>D10 w∧(fun w=>D9 w∧(fun w=>D8 w∧(fun w=>D5 w∧(fun w=>D4 w∧(fun w=>D3 w∧(opN p_ (aj (fn 242) [x110]) Kp fun x111=>
 (fun w=>D12 w∧(fun w=>D11 w∧(fun w=>D10 w∧(fun w=>D9 w∧(fun w=>D8 w∧(fun w=>D5 w∧(fun w=>D4 w∧(fun w=>D3 w∧(stS p_ (az 319 [(0,x98),(1,x111)]) fun x112=>
 opN p_ (aS 317 1 [(0,x112)]) Kp fun x113=>
 opN p_ (cP #[317,317] 317 [y12,x113]) Kp fun x114=>
 opN p_ (ae .add 3 y13 (.int .i64 2)) Kp fun x85=>
 cH I3 m3 x114 x85) w) w) w) w) w) w) w) w)) w) w) w) w) w) w) w) w)))
 (opN p_ (aj (fn 243) [y6,y12]) Kp fun x117=>
 opN p_ (ae .add 3 y77 (.int .i64 1)) Kp fun x118=>
 cH I2 m2 x117 x118)) (.slice none 0 0) (.int .i64 0))
 (bX (fun I4 m4 _ y14=>
 opN p_ (ae .mul 3 (.int .i64 2) x52) Kp fun x121=>
 opN p_ (ae .sub 3 x121 (.int .i64 2)) Kp fun x122=>
 opN p_ (ae .lss 3 y14 x122) Kp fun x123=>
 condS x123
 (opN p_ (bR 317 y11 y14) Kp fun x128=>
 opN p_ (bB 319 x128 1) Kp fun x129=>
 opN p_ (af 197 x129) Kp fun x130=>
 opN p_ (aV #[197] 3 [x130]) Kp fun x131=>
 bX (fun I5 m5 _ y132=>
 opN p_ (ae .lss 3 y132 x131) Kp fun x133=>
 condS x133
 (opN p_ (bR 197 x130 y132) Kp fun x134=>
 opN p_ (af 3 x134) Kp fun x135=>
 opN p_ (bR 197 x60 x135) Kp fun x138=>
 opN p_ (af 3 x138) Kp fun x139=>
 opN p_ (ae .add 3 x139 (.int .i64 1)) Kp fun x140=>
 opN p_ (bR 197 x60 x135) Kp fun x141=>
 opN p_ (ak 3 x141 x140) Kp fun _=>
 opN p_ (ae .add 3 y132 (.int .i64 1)) Kp fun x142=>
 bI I5 m5 x142)
 (opN p_ (ae .add 3 y14 (.int .i64 1)) Kp fun x125=>
 bI I4 m4 x125)) (.int .i64 0))
 (K (.tuple #[x60,(.int .i64 0)]))) (.int .i64 0))) y6 (.int .i64 0))))) (.slice none 0 0) (.int .i64 0))
theorem wI {v0 v1:Value}:Shp p_ 230 [v0,v1] (rH v0 v1):=bT Tryz.call230 Tryz.func230 (an:={loops:=[(5,[6,30]),(22,[11,77]),(25,[12,13]),(31,[14]),(34,[132])],drs:=[(27,.ofL [(0,2),(1,2),(2,2),(3,3),(4,3),(5,3),(6,2),(7,2),(8,3),(9,3),(10,3),(11,3),(12,3),(13,1),(14,1),(15,1),(16,1),(17,1),(18,1),(19,1),(20,1),(21,1),(22,1),(23,1),(24,0),(25,0),(26,1),(27,0),(28,0),(29,1)])]}) fun _ _=>by kernel_rfl
def rI (v0 v1:Value)(Kp:PK)(K:Value→WP):WP:=
 opN p_ (aV #[197] 3 [v0]) Kp fun x7=>
 bX (fun I1 m1 _ y5=>
 opN p_ (ae .gtr 3 y5 v1) Kp fun x10=>
 gdK x10 true (fun k=>k v0) fun x12=>
 gdK x10 true (fun k=>k y5) fun x13=>
 gdK x10 true (opN p_ (ae .sub 3 x13 (.int .i64 1)) Kp) fun x14=>
 gdK x10 true (opN p_ (bR 197 x12 x14) Kp) fun x15=>
 gdK x10 true (opN p_ (af 3 x15) Kp) fun x16=>
 gdK x10 true (opN p_ (b_ .eql 3 (.tmp 16) (.const (.int .i64 0)) x16 (.int .i64 0)) Kp) fun x17=>
 opN p_ (aK x10 x17 (.bool false)) Kp fun x18=>
 condS x18
 (opN p_ (ae .sub 3 y5 (.int .i64 1)) Kp fun x20=>
 bI I1 m1 x20)
 (K y5)) x7
theorem wJ {v0 v1:Value}:Shp p_ 231 [v0,v1] (rI v0 v1):=bT Tryz.call231 Tryz.func231 (an:={loops:=[(2,[5])]}) fun _ _=>by kernel_rfl
def rJ (v0:Value)(Kp:PK)(K:Value->WP):WP:=
 opN p_ (dn 197 v0) Kp fun x1=>
 opN p_ (lN (.func 244) [] [x1]) Kp fun x3=>
 K x3
theorem wK {v0:Value}:Shp p_ 232 [v0] (rJ v0):=bT Tryz.call232 Tryz.func232 (an:={}) fun _ _=>by kernel_rfl
def jK (v0 v1 v2:Value)(Kp:PK)(K:Value→WP):WP:=
 opN p_ (b_ .eql 9 (.tmp 18) (.const (.string ⟨#[]⟩)) v0 (.string ⟨#[]⟩)) Kp fun x19=>
 condS x19
 (opN p_ (fB 325 (.int .i64 2)) Kp fun x20=>
 K (.tuple #[(.int .u64 0),x20]))
 (opN p_ (b_ .eql 3 (.tmp 21) (.const (.int .i64 0)) v1 (.int .i64 0)) Kp fun x22=>
 sU (fun J1=>
 opN p_ (ae .leq 3 (.int .i64 2) v1) Kp fun x27=>
 gdK x27 true (fun k=>k v1) fun x29=>
 gdK x27 true (opN p_ (ae .leq 3 x29 (.int .i64 36)) Kp) fun x30=>
 opN p_ (aK x27 x30 (.bool false)) Kp fun x31=>
 condS x31
 (J1 v0 v1)
 (opN p_ (b_ .eql 3 (.tmp 33) (.const (.int .i64 0)) v1 (.int .i64 0)) Kp fun x34=>
 condS x34
 (opN p_ (iq 9 v0 (.int .i64 0)) Kp fun x36=>
 opN p_ (b_ .eql 5 (.tmp 36) (.const (.int .u8 48)) x36 (.int .u8 48)) Kp fun x37=>
 condS x37
 (opN p_ (aV #[9] 3 [v0]) Kp fun x42=>
 opN p_ (ae .geq 3 x42 (.int .i64 3)) Kp fun x43=>
 gdK x43 true (fun k=>k v0) fun x45=>
 gdK x43 true (opN p_ (iq 9 x45 (.int .i64 1)) Kp) fun x46=>
 gdK x43 true (opN p_ (aj (fn 245) [x46]) Kp) fun x47=>
 gdK x43 true (opN p_ (b_ .eql 5 (.tmp 47) (.const (.int .u8 98)) x47 (.int .u8 98)) Kp) fun x48=>
 opN p_ (aK x43 x48 (.bool false)) Kp fun x49=>
 condS x49
 (opN p_ (eo 9 v0 (some (.int .i64 2)) none none) Kp fun x51=>
 J1 x51 (.int .i64 2))
 (opN p_ (aV #[9] 3 [v0]) Kp fun x54=>
 opN p_ (ae .geq 3 x54 (.int .i64 3)) Kp fun x55=>
 gdK x55 true (fun k=>k v0) fun x57=>
 gdK x55 true (opN p_ (iq 9 x57 (.int .i64 1)) Kp) fun x58=>
 gdK x55 true (opN p_ (aj (fn 245) [x58]) Kp) fun x59=>
 gdK x55 true (opN p_ (b_ .eql 5 (.tmp 59) (.const (.int .u8 111)) x59 (.int .u8 111)) Kp) fun x60=>
 opN p_ (aK x55 x60 (.bool false)) Kp fun x61=>
 condS x61
 (opN p_ (eo 9 v0 (some (.int .i64 2)) none none) Kp fun x63=>
 J1 x63 (.int .i64 8))
 (opN p_ (aV #[9] 3 [v0]) Kp fun x66=>
 opN p_ (ae .geq 3 x66 (.int .i64 3)) Kp fun x67=>
 gdK x67 true (fun k=>k v0) fun x69=>
 gdK x67 true (opN p_ (iq 9 x69 (.int .i64 1)) Kp) fun x70=>
 gdK x67 true (opN p_ (aj (fn 245) [x70]) Kp) fun x71=>
 gdK x67 true (opN p_ (b_ .eql 5 (.tmp 71) (.const (.int .u8 120)) x71 (.int .u8 120)) Kp) fun x72=>
 opN p_ (aK x67 x72 (.bool false)) Kp fun x73=>
 condS x73
 (opN p_ (eo 9 v0 (some (.int .i64 2)) none none) Kp fun x75=>
 J1 x75 (.int .i64 16))
 (opN p_ (eo 9 v0 (some (.int .i64 1)) none none) Kp fun x39=>
 J1 x39 (.int .i64 8)))))
 (J1 v0 (.int .i64 10)))
 (opN p_ (fB 325 (.int .i64 3)) Kp fun x24=>
 K (.tuple #[(.int .u64 0),x24])))) fun _ z0 z1=>
 jw (fun J2=>
 opN p_ (b_ .eql 3 (.tmp 76) (.const (.int .i64 0)) v2 (.int .i64 0)) Kp fun x77=>
 condS x77
 (J2 (.int .i64 64))
 (opN p_ (ae .lss 3 v2 (.int .i64 0)) Kp fun x79=>
 gdK x79 false (fun k=>k v2) fun x81=>
 gdK x79 false (opN p_ (ae .gtr 3 x81 (.int .i64 64)) Kp) fun x82=>
 opN p_ (aK x79 (.bool true) x82) Kp fun x83=>
 condS x83
 (opN p_ (fB 325 (.int .i64 4)) Kp fun x84=>
 K (.tuple #[(.int .u64 0),x84]))
 (J2 v2))) fun _ z2=>
 jw (fun J3=>
 opN p_ (b_ .eql 3 (.tmp 85) (.const (.int .i64 10)) z1 (.int .i64 10)) Kp fun x91=>
 condS x91
 (J3 (.int .u64 1844674407370955162))
 (opN p_ (b_ .eql 3 (.tmp 85) (.const (.int .i64 16)) z1 (.int .i64 16)) Kp fun x93=>
 condS x93
 (J3 (.int .u64 1152921504606846976))
 (opN p_ (bz 3 170 z1) Kp fun x87=>
 opN p_ (ae .quo 170 (.int .u64 18446744073709551615) x87) Kp fun x88=>
 opN p_ (ae .add 170 x88 (.int .u64 1)) Kp fun x89=>
 J3 x89))) fun _ z10=>
 opN p_ (bz 3 149 z2) Kp fun x95=>
 opN p_ (ae .shl 170 (.int .u64 1) x95) Kp fun x96=>
 opN p_ (ae .sub 170 x96 (.int .u64 1)) Kp fun x97=>
 opN p_ (bz 9 23 z0) Kp fun x99=>
 opN p_ (aV #[23] 3 [x99]) Kp fun x100=>
 vW (fun I1 m1 _ y12 y13 y101=>
 opN p_ (ae .lss 3 y101 x100) Kp fun x102=>
 condS x102
 (opN p_ (bR 23 x99 y101) Kp fun x103=>
 opN p_ (af 5 x103) Kp fun x104=>
 sU (fun J4=>
 opN p_ (b_ .eql 5 (.tmp 107) (.const (.int .u8 95)) x104 (.int .u8 95)) Kp fun x108=>
 gdK x108 true (fun k=>k x22) fun x110=>
 opN p_ (aK x108 x110 (.bool false)) Kp fun x111=>
 condS x111
 (opN p_ (ae .add 3 y101 (.int .i64 1)) Kp fun x163=>
 gY I1 m1 (.bool true) y13 x163)
 (opN p_ (ae .leq 5 (.int .u8 48) x104) Kp fun x114=>
 gdK x114 true (fun k=>k x104) fun x116=>
 gdK x114 true (opN p_ (ae .leq 5 x116 (.int .u8 57)) Kp) fun x117=>
 opN p_ (aK x114 x117 (.bool false)) Kp fun x118=>
 condS x118
 (opN p_ (ae .sub 5 x104 (.int .u8 48)) Kp fun x120=>
 J4 y12 x120)
 (opN p_ (aj (fn 245) [x104]) Kp fun x123=>
 opN p_ (ae .leq 5 (.int .u8 97) x123) Kp fun x124=>
 gdK x124 true (fun k=>k x104) fun x126=>
 gdK x124 true (opN p_ (aj (fn 245) [x126]) Kp) fun x127=>
 gdK x124 true (opN p_ (ae .leq 5 x127 (.int .u8 122)) Kp) fun x128=>
 opN p_ (aK x124 x128 (.bool false)) Kp fun x129=>
 condS x129
 (opN p_ (aj (fn 245) [x104]) Kp fun x131=>
 opN p_ (ae .sub 5 x131 (.int .u8 97)) Kp fun x132=>
 opN p_ (ae .add 5 x132 (.int .u8 10)) Kp fun x133=>
 J4 y12 x133)
 (opN p_ (fB 325 (.int .i64 2)) Kp fun x105=>
 K (.tuple #[(.int .u64 0),x105]))))) fun _ z12 R7=>
 opN p_ (bz 3 5 z1) Kp fun x136=>
 opN p_ (ae .geq 5 R7 x136) Kp fun x137=>
 condS x137
 (opN p_ (fB 325 (.int .i64 2)) Kp fun x138=>
 K (.tuple #[(.int .u64 0),x138]))
 (opN p_ (ae .geq 170 y13 z10) Kp fun x141=>
 condS x141
 (opN p_ (fB 325 (.int .i64 1)) Kp fun x143=>
 K (.tuple #[x97,x143]))
 (opN p_ (bz 3 170 z1) Kp fun x146=>
 opN p_ (ae .mul 170 y13 x146) Kp fun x147=>
 opN p_ (bz 5 170 R7) Kp fun x150=>
 opN p_ (ae .add 170 x147 x150) Kp fun x151=>
 opN p_ (ae .lss 170 x151 x147) Kp fun x154=>
 gdK x154 false (fun k=>k x151) fun x156=>
 gdK x154 false (fun k=>k x97) fun x157=>
 gdK x154 false (opN p_ (ae .gtr 170 x156 x157) Kp) fun x158=>
 opN p_ (aK x154 (.bool true) x158) Kp fun x159=>
 condS x159
 (opN p_ (fB 325 (.int .i64 1)) Kp fun x161=>
 K (.tuple #[x97,x161]))
 (opN p_ (ae .add 3 y101 (.int .i64 1)) Kp fun x163=>
 gY I1 m1 z12 x151 x163))))
 (gdK y12 true (fun k=>k v0) fun x166=>
 gdK y12 true (opN p_ (aj (fn 246) [x166]) Kp) fun x167=>
 gdK y12 true (opN p_ (jZ .not x167) Kp) fun x168=>
 opN p_ (aK y12 x168 (.bool false)) Kp fun x169=>
 condS x169
 (opN p_ (fB 325 (.int .i64 2)) Kp fun x170=>
 K (.tuple #[(.int .u64 0),x170]))
 (K (.tuple #[y13,.nilIface])))) (.bool false) (.int .u64 0) (.int .i64 0))
theorem nJ {v0 v1 v2:Value}:Shp p_ 233 [v0,v1,v2] (jK v0 v1 v2):=bT Tryz.call233 Tryz.func233 (an:={cuts:=[(21,[0,1]),(25,[2]),(32,[10]),(46,[12,16])],loops:=[(36,[12,13,101])]}) fun _ _=>by kernel_rfl
def mD (v0 v1 v2 v3 v4:Value)(Kp:PK)(K:Value→WP):WP:=
 opN p_ (fB 325 (.int .i64 2)) Kp fun x13=>
 opN p_ (b_ .eql 124 (.tmp 11) (.tmp 13) v4 x13) Kp fun x14=>
 condS x14
 (opN p_ (aj (fn 247) [v0,v1]) Kp fun x17=>
 opN p_ (fB 327 x17) Kp fun x18=>
 K x18)
 (opN p_ (fB 325 (.int .i64 1)) Kp fun x20=>
 opN p_ (b_ .eql 124 (.tmp 11) (.tmp 20) v4 x20) Kp fun x21=>
 condS x21
 (opN p_ (aj (fn 248) [v0,v1]) Kp fun x24=>
 opN p_ (fB 327 x24) Kp fun x25=>
 K x25)
 (opN p_ (fB 325 (.int .i64 3)) Kp fun x27=>
 opN p_ (b_ .eql 124 (.tmp 11) (.tmp 27) v4 x27) Kp fun x28=>
 condS x28
 (opN p_ (aj (fn 249) [v0,v1,v2]) Kp fun x32=>
 opN p_ (fB 327 x32) Kp fun x33=>
 K x33)
 (opN p_ (fB 325 (.int .i64 4)) Kp fun x35=>
 opN p_ (b_ .eql 124 (.tmp 11) (.tmp 35) v4 x35) Kp fun x36=>
 condS x36
 (opN p_ (aj (fn 250) [v0,v1,v3]) Kp fun x40=>
 opN p_ (fB 327 x40) Kp fun x41=>
 K x41)
 (K v4))))
theorem rK {v0 v1 v2 v3 v4:Value}:Shp p_ 234 [v0,v1,v2,v3,v4] (mD v0 v1 v2 v3 v4):=bT Tryz.call234 Tryz.func234 (an:={}) fun _ _=>by kernel_rfl
def kx (v0 v1:Value)(Kp:PK)(K:Value→WP):WP:=
 opN p_ (b_ .eql 234 (.tmp 13) (.const (.pointer none)) v0 (.pointer none)) Kp fun x14=>
 gdK x14 false (fun k=>k v0) fun x16=>
 gdK x14 false (opN p_ (bG x16) Kp) fun x17=>
 gdK x14 false (opN p_ (bB 313 x17 0) Kp) fun x18=>
 gdK x14 false (opN p_ (af 311 x18) Kp) fun x19=>
 gdK x14 false (opN p_ (b_ .eql 311 (.tmp 19) (.const (.map none)) x19 (.map none)) Kp) fun x20=>
 opN p_ (aK x14 (.bool true) x20) Kp fun x21=>
 condS x21
 (K (.tuple #[(.int .i64 0),(.int .i64 1)]))
 (opN p_ (aj (fn 182) [v1,(.int .i64 0)]) Kp fun x24=>
 opN p_ (bi x24 0) Kp fun x25=>
 opN p_ (bi x24 1) Kp fun x26=>
 opN p_ (b_ .neq 27 (.tmp 27) (.const (.int .i64 0)) x26 (.int .i64 0)) Kp fun x28=>
 condS x28
 (K (.tuple #[(.int .i64 0),x26]))
 (opN p_ (bG v0) Kp fun x31=>
 opN p_ (bB 313 x31 0) Kp fun x32=>
 opN p_ (af 311 x32) Kp fun x33=>
 opN p_ (aV #[311] 3 [x33]) Kp fun x34=>
 opN p_ (b_ .eql 3 (.tmp 34) (.const (.int .i64 0)) x34 (.int .i64 0)) Kp fun x35=>
 condS x35
 (K (.tuple #[(.int .i64 0),(.int .i64 30)]))
 (opN p_ (az 315 []) Kp fun x36=>
 opN p_ (aM 315) Kp fun x8=>
 opN p_ (ak 315 x8 x36) Kp fun _=>
 bX (fun I1 m1 _ y37=>
 opN p_ (ae .lss 3 y37 (.int .i64 15)) Kp fun x38=>
 condS x38
 (opN p_ (aj (fn 182) [v1,(.int .i64 1)]) Kp fun x41=>
 opN p_ (bi x41 0) Kp fun x42=>
 opN p_ (bi x41 1) Kp fun x43=>
 opN p_ (b_ .neq 27 (.tmp 44) (.const (.int .i64 0)) x43 (.int .i64 0)) Kp fun x45=>
 condS x45
 (K (.tuple #[(.int .i64 0),x43]))
 (opN p_ (bB 315 x8 0) Kp fun x47=>
 opN p_ (af 3 x47) Kp fun x48=>
 opN p_ (ae .add 3 x48 (.int .i64 1)) Kp fun x49=>
 opN p_ (bB 315 x8 0) Kp fun x50=>
 opN p_ (ak 3 x50 x49) Kp fun _=>
 opN p_ (bB 315 x8 1) Kp fun x51=>
 opN p_ (af 3 x51) Kp fun x52=>
 opN p_ (ae .shl 3 x52 (.int .u64 1)) Kp fun x53=>
 opN p_ (ae .or 3 x53 x42) Kp fun x55=>
 opN p_ (bB 315 x8 1) Kp fun x56=>
 opN p_ (ak 3 x56 x55) Kp fun _=>
 e8 (stS p_ (bG v0) fun x59=>
 stS p_ (bB 313 x59 0) fun x60=>
 stS p_ (af 311 x60) fun x61=>
 stS p_ (af 315 x8) fun x62=>
 stS p_ (mY 311 x61 x62 true) fun x63=>
 stS p_ (bi x63 0) fun x64=>
 stS p_ (bi x63 1) fun x65=>
 condS x65
 (K (.tuple #[x64,(.int .i64 0)]))
 (opN p_ (ae .add 3 y37 (.int .i64 1)) Kp fun x68=>
 bI I1 m1 x68))))
 (K (.tuple #[(.int .i64 0),(.int .i64 30)]))) (.int .i64 0))))
theorem o6 {v0 v1:Value}:Shp p_ 235 [v0,v1] (kx v0 v1):=bT Tryz.call235 Tryz.func235 (an:={loops:=[(10,[37])],drs:=[(16,.ofL [(0,1),(1,1),(2,1),(3,1),(4,1),(5,1),(6,1),(7,1),(8,1),(9,1),(10,1)])]}) fun _ _=>by kernel_rfl
def gG (v0 v1 v2:Value)(Kp:PK)(K:Value→WP):WP:=
 e8 (stS p_ (af 3 v1) fun x7=>
 stS p_ (ae .add 3 x7 (.int .i64 3)) fun x8=>
 stS p_ (af 250 v2) fun x9=>
 stS p_ (bG x9) fun x10=>
 stS p_ (bB 253 x10 0) fun x11=>
 stS p_ (af 23 x11) fun x12=>
 stS p_ (aV #[23] 3 [x12]) fun x13=>
 stS p_ (ae .gtr 3 x8 x13) fun x14=>
 condS x14
 (K (.tuple #[]))
 (e8 (stS p_ (af 250 v2) fun x15=>
 stS p_ (bG x15) fun x16=>
 stS p_ (bB 253 x16 1) fun x17=>
 stS p_ (af 251 x17) fun x18=>
 stS p_ (af 250 v2) fun x19=>
 stS p_ (bG x19) fun x20=>
 stS p_ (bB 253 x20 0) fun x21=>
 stS p_ (af 23 x21) fun x22=>
 stS p_ (af 3 v1) fun x23=>
 stS p_ (eo 23 x22 (some x23) none none) fun x24=>
 stS p_ (E9 142 x24) fun x25=>
 stS p_ (af 142 x25) fun x26=>
 stS p_ (mY 251 x18 x26 false) fun x27=>
 opN p_ (aV #[197] 3 [x27]) Kp fun x29=>
 opN p_ (ae .sub 3 x29 (.int .i64 1)) Kp fun x30=>
 dF (fun I1 m1 _ y5 y6=>
 opN p_ (ae .geq 3 y5 (.int .i64 0)) Kp fun x32=>
 gdK x32 true (fun k=>k y6) fun x34=>
 gdK x32 true (opN p_ (af 250 v2) Kp) fun x35=>
 gdK x32 true (opN p_ (bG x35) Kp) fun x36=>
 gdK x32 true (opN p_ (bB 253 x36 4) Kp) fun x37=>
 gdK x32 true (opN p_ (af 3 x37) Kp) fun x38=>
 gdK x32 true (opN p_ (ae .lss 3 x34 x38) Kp) fun x39=>
 opN p_ (aK x32 x39 (.bool false)) Kp fun x40=>
 condS x40
 (e8 (stS p_ (af 3 v1) fun x45=>
 stS p_ (bR 197 x27 y5) fun x48=>
 stS p_ (af 3 x48) fun x49=>
 stS p_ (ae .sub 3 x45 x49) fun x50=>
 stS p_ (af 250 v2) fun x51=>
 stS p_ (bG x51) fun x52=>
 stS p_ (bB 253 x52 3) fun x53=>
 stS p_ (af 3 x53) fun x54=>
 stS p_ (ae .gtr 3 x50 x54) fun x55=>
 gdK x55 false (fun k=>k v0) fun x57=>
 gdK x55 false (fun k=>k x27) fun x58=>
 gdK x55 false (fun k=>k y5) fun x59=>
 gdK x55 false (stS p_ (bR 197 x58 x59)) fun x60=>
 gdK x55 false (stS p_ (af 3 x60)) fun x61=>
 gdK x55 false (opN p_ (aj x57 [x61]) Kp) fun x62=>
 gdK x55 false (stS p_ (jZ .not x62)) fun x63=>
 stS p_ (aK x55 (.bool true) x63) fun x64=>
 condS x64
 (K (.tuple #[]))
 (opN p_ (ae .sub 3 y5 (.int .i64 1)) Kp fun x42=>
 opN p_ (ae .add 3 y6 (.int .i64 1)) Kp fun x44=>
 cH I1 m1 x42 x44)))
 (K (.tuple #[]))) x30 (.int .i64 0))))
theorem kK {v0 v1 v2:Value}:Shp p_ 236 [v0,v1,v2] (gG v0 v1 v2):=bT Tryz.call236 Tryz.func236 (an:={loops:=[(3,[5,6])],drs:=[(0,.ofL [(0,1),(1,1),(2,1),(3,1),(4,1),(5,1),(6,1),(7,1)]),(1,.ofL [(0,1),(1,1),(2,1),(3,1),(4,1),(5,1),(6,1),(7,1),(8,1),(9,1),(10,1),(11,1),(12,1),(13,1)]),(5,.ofL [(0,1),(1,1),(2,1),(3,1),(4,1),(5,1),(6,1),(7,1),(8,1),(9,1),(10,1),(11,1),(12,1),(13,1),(14,1),(15,1),(16,1),(17,0),(18,1),(19,1)])]}) fun _ _=>by kernel_rfl
def Fo (v0 v1 v2 v3:Value)(Kp:PK)(K:Value→WP):WP:=
 bX (fun I1 m1 _ y11=>
 opN p_ (ae .geq 3 y11 v1) Kp fun x17=>
 condS x17
 (opN p_ (aj v3 [y11]) Kp fun x23=>
 opN p_ (bi x23 0) Kp fun x24=>
 opN p_ (bi x23 1) Kp fun x25=>
 opN p_ (ae .leq 3 x24 v0) Kp fun x28=>
 condS x28
 (opN p_ (ae .sub 3 v0 x24) Kp fun x33=>
 K (.tuple #[y11,x25,x33]))
 (opN p_ (ae .sub 3 y11 (.int .i64 1)) Kp fun x19=>
 bI I1 m1 x19))
 (K (.tuple #[(.int .i64 (-1)),(.int .i64 0),(.int .i64 0)]))) v2
theorem GK {v0 v1 v2 v3:Value}:Shp p_ 237 [v0,v1,v2,v3] (Fo v0 v1 v2 v3):=bT Tryz.call237 Tryz.func237 (an:={loops:=[(2,[11])]}) fun _ _=>by kernel_rfl
def rL (v0 v1:Value)(Kp:PK)(K:Value→WP):WP:=
 opN p_ (D_ #[3,3] 3 [v1,(.int .i64 32)]) Kp fun x8=>
 opN p_ (GF #[3,3] 3 [(.int .i64 0),x8]) Kp fun x9=>
 dF (fun I1 m1 _ y5 y10=>
 opN p_ (ae .lss 3 y10 x9) Kp fun x11=>
 condS x11
 (opN p_ (ae .shl 3 y5 (.int .u64 1)) Kp fun x14=>
 opN p_ (bz 3 149 y10) Kp fun x17=>
 opN p_ (ae .shr 3 v0 x17) Kp fun x18=>
 opN p_ (ae .and 3 x18 (.int .i64 1)) Kp fun x19=>
 opN p_ (ae .or 3 x14 x19) Kp fun x20=>
 opN p_ (ae .add 3 y10 (.int .i64 1)) Kp fun x21=>
 cH I1 m1 x20 x21)
 (K y5)) (.int .i64 0) (.int .i64 0)
theorem wL {v0 v1:Value}:Shp p_ 238 [v0,v1] (rL v0 v1):=bT Tryz.call238 Tryz.func238 (an:={loops:=[(3,[5,10])]}) fun _ _=>by kernel_rfl
def bE (v0 v1:Value)(Kp:PK)(K:Value->WP):WP:=
 opN p_ (aV #[317] 3 [v0]) Kp fun x6=>
 opN p_ (aj (fn 251) [v0,x6,v1]) Kp fun x8=>
 K (.tuple #[])
theorem bZ {v0 v1:Value}:Shp p_ 239 [v0,v1] (bE v0 v1):=bT Tryz.call239 Tryz.func239 (an:={}) fun _ _=>by kernel_rfl
def nK (v0 v1:Value)(Kp:PK)(K:Value->WP):WP:=
 opN p_ (dn 319 v0) Kp fun x2=>
 opN p_ (dn 319 v1) Kp fun x3=>
 opN p_ (bB 319 x2 0) Kp fun x5=>
 opN p_ (af 3 x5) Kp fun x6=>
 opN p_ (bB 319 x3 0) Kp fun x7=>
 opN p_ (af 3 x7) Kp fun x8=>
 opN p_ (aj (fn 241) [x6,x8]) Kp fun x9=>
 K x9
theorem tG {v0 v1:Value}:Shp p_ 240 [v0,v1] (nK v0 v1):=bT Tryz.call240 Tryz.func240 (an:={}) fun _ _=>by kernel_rfl
def mE (v0 v1:Value)(Kp:PK)(K:Value→WP):WP:=
 opN p_ (aj (fn 252) [v0]) Kp fun x8=>
 opN p_ (aj (fn 252) [v1]) Kp fun x10=>
 condS x8
 (condS x10
 (K (.int .i64 0))
 (K (.int .i64 (-1))))
 (condS x10
 (K (.int .i64 1))
 (opN p_ (ae .lss 3 v0 v1) Kp fun x16=>
 condS x16
 (K (.int .i64 (-1)))
 (opN p_ (ae .gtr 3 v0 v1) Kp fun x19=>
 condS x19
 (K (.int .i64 1))
 (K (.int .i64 0)))))
theorem rM {v0 v1:Value}:Shp p_ 241 [v0,v1] (mE v0 v1):=bT Tryz.call241 Tryz.func241 (an:={}) fun _ _=>by kernel_rfl
def ip (v0:Value)(Kp:PK)(K:Value→WP):WP:=
 opN p_ (aV #[331] 3 [v0]) Kp fun x10=>
 dF (fun I1 m1 _ y3 y11=>
 opN p_ (ae .lss 3 y11 x10) Kp fun x12=>
 condS x12
 (opN p_ (bR 331 v0 y11) Kp fun x13=>
 opN p_ (af 197 x13) Kp fun x14=>
 opN p_ (aV #[197] 3 [x14]) Kp fun x17=>
 opN p_ (ae .add 3 y3 x17) Kp fun x18=>
 opN p_ (ae .lss 3 x18 (.int .i64 0)) Kp fun x20=>
 condS x20
 (opN p_ (fB 9 (.string ⟨#[108,101,110,32,111,117,116,32,111,102,32,114,97,110,103,101]⟩)) Kp fun x21=>
 opN p_ (gj x21) Kp fun _=>
 opN p_ (ae .add 3 y11 (.int .i64 1)) Kp fun x22=>
 cH I1 m1 x18 x22)
 (opN p_ (ae .add 3 y11 (.int .i64 1)) Kp fun x22=>
 cH I1 m1 x18 x22))
 (opN p_ (aj (fn 253) [(.slice none 0 0),y3]) Kp fun x24=>
 opN p_ (aV #[331] 3 [v0]) Kp fun x26=>
 dF (fun I2 m2 _ y6 y27=>
 opN p_ (ae .lss 3 y27 x26) Kp fun x28=>
 condS x28
 (opN p_ (bR 331 v0 y27) Kp fun x29=>
 opN p_ (af 197 x29) Kp fun x30=>
 opN p_ (cP #[197,197] 197 [y6,x30]) Kp fun x33=>
 opN p_ (ae .add 3 y27 (.int .i64 1)) Kp fun x34=>
 cH I2 m2 x33 x34)
 (K y6)) x24 (.int .i64 0))) (.int .i64 0) (.int .i64 0)
theorem ly {v0:Value}:Shp p_ 242 [v0] (ip v0):=bT Tryz.call242 Tryz.func242 (an:={loops:=[(3,[3,11]),(11,[6,27])]}) fun _ _=>by kernel_rfl
def nL (v0 v1:Value)(Kp:PK)(K:Value→WP):WP:=
 opN p_ (aV #[317] 3 [v0]) Kp fun x7=>
 opN p_ (aV #[317] 3 [v1]) Kp fun x9=>
 opN p_ (ae .add 3 x7 x9) Kp fun x10=>
 opN p_ (fC 317 (.int .i64 0) x10) Kp fun x11=>
 vW (fun I1 m1 _ y0 y1 y5=>
 opN p_ (aV #[317] 3 [y0]) Kp fun x22=>
 opN p_ (b_ .eql 3 (.tmp 22) (.const (.int .i64 0)) x22 (.int .i64 0)) Kp fun x23=>
 condS x23
 (opN p_ (cP #[317,317] 317 [y5,y1]) Kp fun x26=>
 K x26)
 (e8 (stS p_ (aV #[317] 3 [y1]) fun x29=>
 stS p_ (ae .gtr 3 x29 (.int .i64 0)) fun x30=>
 gdK x30 true (fun k=>k y1) fun x32=>
 gdK x30 true (stS p_ (bR 317 x32 (.int .i64 0))) fun x33=>
 gdK x30 true (stS p_ (bB 319 x33 0)) fun x34=>
 gdK x30 true (stS p_ (af 3 x34)) fun x35=>
 gdK x30 true (fun k=>k y0) fun x36=>
 gdK x30 true (stS p_ (bR 317 x36 (.int .i64 0))) fun x37=>
 gdK x30 true (stS p_ (bB 319 x37 0)) fun x38=>
 gdK x30 true (stS p_ (af 3 x38)) fun x39=>
 gdK x30 true (stS p_ (ae .lss 3 x35 x39)) fun x40=>
 stS p_ (aK x30 x40 (.bool false)) fun x41=>
 condS x41
 (e8 (stS p_ (bR 317 y1 (.int .i64 0)) fun x44=>
 stS p_ (af 319 x44) fun x45=>
 stD p_ (eo 317 y1 (some (.int .i64 1)) none none) fun D7 x49=>
 opN p_ (aS 317 1 [(0,x45)]) Kp fun x46=>
 (fun w=>D7 w∧(opN p_ (cP #[317,317] 317 [y5,x46]) Kp fun x47=>
 (fun w=>D7 w∧(gY I1 m1 y0 x49 x47) w)) w)))
 (e8 (stS p_ (bR 317 y0 (.int .i64 0)) fun x14=>
 stS p_ (af 319 x14) fun x15=>
 stD p_ (eo 317 y0 (some (.int .i64 1)) none none) fun D7 x19=>
 opN p_ (aS 317 1 [(0,x15)]) Kp fun x16=>
 (fun w=>D7 w∧(opN p_ (cP #[317,317] 317 [y5,x16]) Kp fun x17=>
 (fun w=>D7 w∧(gY I1 m1 x19 y1 x17) w)) w)))))) v0 v1 x11
theorem tH {v0 v1:Value}:Shp p_ 243 [v0,v1] (nL v0 v1):=bT Tryz.call243 Tryz.func243 (an:={loops:=[(3,[0,1,5])],drs:=[(2,.ofL [(0,2),(1,1),(2,1),(3,1),(6,2),(7,3),(4,0),(5,0),(8,1),(9,1)]),(5,.ofL [(0,1),(1,1),(2,1),(3,1),(4,1),(5,1),(6,1),(7,1),(8,1),(9,1),(10,1),(11,1),(12,1),(13,1),(14,1)]),(6,.ofL [(0,2),(1,1),(2,1),(3,1),(6,2),(7,3),(4,0),(5,0),(8,1),(9,1)])]}) fun _ _=>by kernel_rfl
def nM (v0 v1:Value)(Kp:PK)(K:Value→WP):WP:=
 bX (fun I1 m1 _ y3=>
 opN p_ (af 197 v1) Kp fun x8=>
 opN p_ (aV #[197] 3 [x8]) Kp fun x9=>
 opN p_ (ae .lss 3 y3 x9) Kp fun x10=>
 condS x10
 (opN p_ (af 197 v1) Kp fun x11=>
 opN p_ (bR 197 x11 y3) Kp fun x13=>
 opN p_ (af 3 x13) Kp fun x14=>
 bX (fun I2 m2 _ y5=>
 opN p_ (ae .add 3 y3 y5) Kp fun x17=>
 opN p_ (af 197 v1) Kp fun x18=>
 opN p_ (aV #[197] 3 [x18]) Kp fun x19=>
 opN p_ (ae .lss 3 x17 x19) Kp fun x20=>
 gdK x20 true (opN p_ (af 197 v1) Kp) fun x22=>
 gdK x20 true (fun k=>k y3) fun x23=>
 gdK x20 true (fun k=>k y5) fun x24=>
 gdK x20 true (opN p_ (ae .add 3 x23 x24) Kp) fun x25=>
 gdK x20 true (opN p_ (bR 197 x22 x25) Kp) fun x26=>
 gdK x20 true (opN p_ (af 3 x26) Kp) fun x27=>
 gdK x20 true (fun k=>k x14) fun x28=>
 gdK x20 true (opN p_ (b_ .eql 3 (.tmp 27) (.tmp 28) x27 x28) Kp) fun x29=>
 opN p_ (aK x20 x29 (.bool false)) Kp fun x30=>
 condS x30
 (opN p_ (ae .add 3 y5 (.int .i64 1)) Kp fun x32=>
 bI I2 m2 x32)
 (opN p_ (az 306 [(0,x14)]) Kp fun x34=>
 opN p_ (aM 306) Kp fun x6=>
 opN p_ (ak 306 x6 x34) Kp fun _=>
 jw (fun J1=>
 opN p_ (b_ .eql 3 (.tmp 36) (.const (.int .i64 0)) x14 (.int .i64 0)) Kp fun x37=>
 gdK x37 true (fun k=>k y5) fun x39=>
 gdK x37 true (opN p_ (ae .geq 3 x39 (.int .i64 11)) Kp) fun x40=>
 opN p_ (aK x37 x40 (.bool false)) Kp fun x41=>
 condS x41
 (opN p_ (D_ #[3,3] 3 [y5,(.int .i64 138)]) Kp fun x43=>
 opN p_ (ae .sub 3 x43 (.int .i64 11)) Kp fun x45=>
 opN p_ (az 306 [(0,(.int .i64 18)),(1,(.int .i64 7)),(2,x45)]) Kp fun x46=>
 opN p_ (ak 306 x6 x46) Kp fun _=>
 J1 x43)
 (opN p_ (b_ .eql 3 (.tmp 48) (.const (.int .i64 0)) x14 (.int .i64 0)) Kp fun x49=>
 gdK x49 true (fun k=>k y5) fun x51=>
 gdK x49 true (opN p_ (ae .geq 3 x51 (.int .i64 3)) Kp) fun x52=>
 opN p_ (aK x49 x52 (.bool false)) Kp fun x53=>
 condS x53
 (opN p_ (ae .sub 3 y5 (.int .i64 3)) Kp fun x55=>
 opN p_ (az 306 [(0,(.int .i64 17)),(1,(.int .i64 3)),(2,x55)]) Kp fun x56=>
 opN p_ (ak 306 x6 x56) Kp fun _=>
 J1 y5)
 (opN p_ (b_ .neq 3 (.tmp 58) (.const (.int .i64 0)) x14 (.int .i64 0)) Kp fun x59=>
 gdK x59 true (fun k=>k y5) fun x61=>
 gdK x59 true (opN p_ (ae .geq 3 x61 (.int .i64 3)) Kp) fun x62=>
 opN p_ (aK x59 x62 (.bool false)) Kp fun x63=>
 gdK x63 true (fun k=>k y3) fun x65=>
 gdK x63 true (opN p_ (ae .gtr 3 x65 (.int .i64 0)) Kp) fun x66=>
 opN p_ (aK x63 x66 (.bool false)) Kp fun x67=>
 gdK x67 true (opN p_ (af 197 v1) Kp) fun x69=>
 gdK x67 true (fun k=>k y3) fun x70=>
 gdK x67 true (opN p_ (ae .sub 3 x70 (.int .i64 1)) Kp) fun x71=>
 gdK x67 true (opN p_ (bR 197 x69 x71) Kp) fun x72=>
 gdK x67 true (opN p_ (af 3 x72) Kp) fun x73=>
 gdK x67 true (fun k=>k x14) fun x74=>
 gdK x67 true (opN p_ (b_ .eql 3 (.tmp 73) (.tmp 74) x73 x74) Kp) fun x75=>
 opN p_ (aK x67 x75 (.bool false)) Kp fun x76=>
 condS x76
 (opN p_ (D_ #[3,3] 3 [y5,(.int .i64 6)]) Kp fun x78=>
 opN p_ (ae .sub 3 x78 (.int .i64 3)) Kp fun x80=>
 opN p_ (az 306 [(0,(.int .i64 16)),(1,(.int .i64 2)),(2,x80)]) Kp fun x81=>
 opN p_ (ak 306 x6 x81) Kp fun _=>
 J1 x78)
 (J1 (.int .i64 1))))) fun _ z5=>
 opN p_ (af 306 x6) Kp fun x83=>
 opN p_ (aj v0 [x83]) Kp fun x84=>
 opN p_ (jZ .not x84) Kp fun x85=>
 condS x85
 (K (.tuple #[]))
 (opN p_ (ae .add 3 y3 z5) Kp fun x88=>
 bI I1 m1 x88))) (.int .i64 1))
 (K (.tuple #[]))) (.int .i64 0)
theorem tI {v0 v1:Value}:Shp p_ 244 [v0,v1] (nM v0 v1):=bT Tryz.call244 Tryz.func244 (an:={cuts:=[(15,[5])],loops:=[(1,[3]),(3,[5])]}) fun _ _=>by kernel_rfl
def jL (v0 v1:Value)(Kp:PK)(K:Value->WP):WP:=
 e8 (stD p_ (af 124 (.pointer (some ⟨7,0,none⟩))) fun D3 x8=>
 opN p_ (aj (fn 254) [v1]) Kp fun x7=>
 (fun w=>D3 w/\(stS p_ (az 334 [(0,v0),(1,x7),(2,x8)]) fun x9=>
 opN p_ (dn 334 x9) Kp fun x10=>
 K x10) w))
theorem nN {v0 v1:Value}:Shp p_ 248 [v0,v1] (jL v0 v1):=bT Tryz.call248 Tryz.func248 (an:={drs:=[(1,.ofL [(0,2),(1,1),(3,3),(2,0),(4,1),(5,0),(6,1)])]}) fun _ _=>by kernel_rfl
def cy (v0 v1 v2:Value)(Kp:PK)(K:Value→WP):WP:=
 dF (fun I1 m1 _ y7 y8=>
 opN p_ (ae .leq 3 y8 v1) Kp fun x13=>
 condS x13
 (opN p_ (aj (fn 256) [v0,y7,y8,v2]) Kp fun x18=>
 opN p_ (ae .add 3 y8 (.int .i64 20)) Kp fun x22=>
 cH I1 m1 y8 x22)
 (opN p_ (aj (fn 256) [v0,y7,v1,v2]) Kp fun x27=>
 bX (fun I2 m2 _ y6=>
 opN p_ (ae .lss 3 y6 v1) Kp fun x30=>
 condS x30
 (opN p_ (ae .mul 3 (.int .i64 2) y6) Kp fun x32=>
 dF (fun I3 m3 _ y7_2 y8_2=>
 opN p_ (ae .leq 3 y8_2 v1) Kp fun x35=>
 condS x35
 (opN p_ (ae .add 3 y7_2 y6) Kp fun x40=>
 opN p_ (aj (fn 257) [v0,y7_2,x40,y8_2,v2]) Kp fun x43=>
 opN p_ (ae .mul 3 (.int .i64 2) y6) Kp fun x47=>
 opN p_ (ae .add 3 y8_2 x47) Kp fun x48=>
 cH I3 m3 y8_2 x48)
 (opN p_ (ae .add 3 y7_2 y6) Kp fun x51=>
 opN p_ (ae .lss 3 x51 v1) Kp fun x54=>
 condS x54
 (opN p_ (aj (fn 257) [v0,y7_2,x51,v1,v2]) Kp fun x60=>
 opN p_ (ae .mul 3 y6 (.int .i64 2)) Kp fun x62=>
 bI I2 m2 x62)
 (opN p_ (ae .mul 3 y6 (.int .i64 2)) Kp fun x62=>
 bI I2 m2 x62))) (.int .i64 0) x32)
 (K (.tuple #[]))) (.int .i64 20))) (.int .i64 0) (.int .i64 20)
theorem dl {v0 v1 v2:Value}:Shp p_ 251 [v0,v1,v2] (cy v0 v1 v2):=bT Tryz.call251 Tryz.func251 (an:={loops:=[(2,[7,8]),(7,[6]),(9,[7,8])]}) fun _ _=>by kernel_rfl
def pD (v0:Value)(Kp:PK)(K:Value->WP):WP:=
 opN p_ (b_ .neq 3 (.tmp 3) (.tmp 4) v0 v0) Kp fun x5=>
 K x5
theorem vj {v0:Value}:Shp p_ 252 [v0] (pD v0):=bT Tryz.call252 Tryz.func252 (an:={}) fun _ _=>by kernel_rfl
def i9 (v0 v1:Value)(Kp:PK)(K:Value→WP):WP:=
 mZ (fun J1=>
 opN p_ (ae .lss 3 v1 (.int .i64 0)) Kp fun x6=>
 condS x6
 (opN p_ (fB 9 (.string ⟨#[99,97,110,110,111,116,32,98,101,32,110,101,103,97,116,105,118,101]⟩)) Kp fun x7=>
 opN p_ (gj x7) Kp fun _=>
 J1)
 (J1)) fun _=>
 opN p_ (vV #[197] 3 [v0]) Kp fun x10=>
 opN p_ (aV #[197] 3 [v0]) Kp fun x12=>
 opN p_ (ae .sub 3 x10 x12) Kp fun x13=>
 opN p_ (ae .sub 3 v1 x13) Kp fun x14=>
 opN p_ (ae .gtr 3 x14 (.int .i64 0)) Kp fun x16=>
 condS x16
 (opN p_ (vV #[197] 3 [v0]) Kp fun x19=>
 opN p_ (eo 197 v0 none (some x19) none) Kp fun x20=>
 opN p_ (cP #[197,3] 197 [x20,x14]) Kp fun x22=>
 opN p_ (aV #[197] 3 [v0]) Kp fun x24=>
 opN p_ (eo 197 x22 none (some x24) none) Kp fun x25=>
 K x25)
 (K v0)
theorem mR {v0 v1:Value}:Shp p_ 253 [v0,v1] (i9 v0 v1):=bT Tryz.call253 Tryz.func253 (an:={cuts:=[(3,[])]}) fun _ _=>by kernel_rfl
def bU (v0 v1 v2 v3:Value)(Kp:PK)(K:Value→WP):WP:=
 opN p_ (ae .add 3 v1 (.int .i64 1)) Kp fun x11=>
 bX (fun I1 m1 _ y8=>
 opN p_ (ae .lss 3 y8 v2) Kp fun x14=>
 condS x14
 (bX (fun I2 m2 _ y9=>
 e8 (stS p_ (ae .gtr 3 y9 v1) fun x20=>
 gdK x20 true (fun k=>k v3) fun x22=>
 gdK x20 true (fun k=>k v0) fun x23=>
 gdK x20 true (fun k=>k y9) fun x24=>
 gdK x20 true (stS p_ (bR 317 x23 x24)) fun x25=>
 gdK x20 true (stS p_ (af 319 x25)) fun x26=>
 gdK x20 true (fun k=>k v0) fun x27=>
 gdK x20 true (fun k=>k y9) fun x28=>
 gdK x20 true (stS p_ (ae .sub 3 x28 (.int .i64 1))) fun x29=>
 gdK x20 true (stS p_ (bR 317 x27 x29)) fun x30=>
 gdK x20 true (stS p_ (af 319 x30)) fun x31=>
 gdK x20 true (opN p_ (aj x22 [x26,x31]) Kp) fun x32=>
 gdK x20 true (stS p_ (ae .lss 3 x32 (.int .i64 0))) fun x33=>
 stS p_ (aK x20 x33 (.bool false)) fun x34=>
 condS x34
 (e8 (stD p_ (ae .sub 3 y9 (.int .i64 1)) fun D4 x41=>
 stS p_ (ae .sub 3 y9 (.int .i64 1)) fun x44=>
 stS p_ (bR 317 v0 x44) fun x45=>
 stS p_ (af 319 x45) fun x46=>
 stS p_ (bR 317 v0 y9) fun x49=>
 stS p_ (af 319 x49) fun x50=>
 stS p_ (bR 317 v0 y9) fun x51=>
 opN p_ (ak 319 x51 x46) Kp fun _=>
 (fun w=>D4 w∧(stS p_ (bR 317 v0 x41) fun x52=>
 opN p_ (ak 319 x52 x50) Kp fun _=>
 opN p_ (ae .sub 3 y9 (.int .i64 1)) Kp fun x36=>
 bI I2 m2 x36) w)))
 (opN p_ (ae .add 3 y8 (.int .i64 1)) Kp fun x16=>
 bI I1 m1 x16))) y8)
 (K (.tuple #[]))) x11
theorem cK {v0 v1 v2 v3:Value}:Shp p_ 256 [v0,v1,v2,v3] (bU v0 v1 v2 v3):=bT Tryz.call256 Tryz.func256 (an:={loops:=[(1,[8]),(4,[9])],drs:=[(4,.ofL [(0,1),(1,1),(2,1),(3,1),(4,1),(5,1),(6,1),(7,1),(8,1),(9,1),(10,1),(11,1),(12,1),(13,1),(14,0),(15,1),(16,1)]),(6,.ofL [(0,1),(1,1),(2,2),(3,2),(4,3),(5,1),(6,1),(7,1),(8,1),(9,1),(10,1),(11,1),(12,1),(13,1),(14,1),(15,0),(16,1),(17,0)])]}) fun _ _=>by kernel_rfl
def dm (v0 v1 v2 v3 v4:Value)(Kp:PK)(K:Value→WP):WP:=
 opN p_ (ae .sub 3 v2 v1) Kp fun x27=>
 opN p_ (b_ .eql 3 (.tmp 27) (.const (.int .i64 1)) x27 (.int .i64 1)) Kp fun x28=>
 condS x28
 (dF (fun I1 m1 _ y10 y11=>
 opN p_ (ae .lss 3 y10 y11) Kp fun x33=>
 condS x33
 (opN p_ (ae .add 3 y10 y11) Kp fun x36=>
 opN p_ (bz 3 149 x36) Kp fun x37=>
 opN p_ (ae .shr 149 x37 (.int .u64 1)) Kp fun x38=>
 opN p_ (bz 149 3 x38) Kp fun x39=>
 e8 (stS p_ (bR 317 v0 x39) fun x43=>
 stS p_ (af 319 x43) fun x44=>
 stS p_ (bR 317 v0 v1) fun x47=>
 stS p_ (af 319 x47) fun x48=>
 opN p_ (aj v4 [x44,x48]) Kp fun x49=>
 stS p_ (ae .lss 3 x49 (.int .i64 0)) fun x50=>
 condS x50
 (opN p_ (ae .add 3 x39 (.int .i64 1)) Kp fun x52=>
 cH I1 m1 x52 y11)
 (cH I1 m1 y10 x39)))
 (bX (fun I2 m2 _ y13=>
 opN p_ (ae .sub 3 y10 (.int .i64 1)) Kp fun x57=>
 opN p_ (ae .lss 3 y13 x57) Kp fun x58=>
 condS x58
 (e8 (stD p_ (ae .add 3 y13 (.int .i64 1)) fun D4 x65=>
 stS p_ (ae .add 3 y13 (.int .i64 1)) fun x68=>
 stS p_ (bR 317 v0 x68) fun x69=>
 stS p_ (af 319 x69) fun x70=>
 stS p_ (bR 317 v0 y13) fun x73=>
 stS p_ (af 319 x73) fun x74=>
 stS p_ (bR 317 v0 y13) fun x75=>
 opN p_ (ak 319 x75 x70) Kp fun _=>
 (fun w=>D4 w∧(stS p_ (bR 317 v0 x65) fun x76=>
 opN p_ (ak 319 x76 x74) Kp fun _=>
 opN p_ (ae .add 3 y13 (.int .i64 1)) Kp fun x60=>
 bI I2 m2 x60) w)))
 (K (.tuple #[]))) v1)) v2 v3)
 (opN p_ (ae .sub 3 v3 v2) Kp fun x79=>
 opN p_ (b_ .eql 3 (.tmp 79) (.const (.int .i64 1)) x79 (.int .i64 1)) Kp fun x80=>
 condS x80
 (dF (fun I3 m3 _ y14 y15=>
 opN p_ (ae .lss 3 y14 y15) Kp fun x85=>
 condS x85
 (opN p_ (ae .add 3 y14 y15) Kp fun x88=>
 opN p_ (bz 3 149 x88) Kp fun x89=>
 opN p_ (ae .shr 149 x89 (.int .u64 1)) Kp fun x90=>
 opN p_ (bz 149 3 x90) Kp fun x91=>
 e8 (stS p_ (bR 317 v0 v2) fun x95=>
 stS p_ (af 319 x95) fun x96=>
 stS p_ (bR 317 v0 x91) fun x99=>
 stS p_ (af 319 x99) fun x100=>
 opN p_ (aj v4 [x96,x100]) Kp fun x101=>
 stS p_ (ae .lss 3 x101 (.int .i64 0)) fun x102=>
 stS p_ (jZ .not x102) fun x103=>
 condS x103
 (opN p_ (ae .add 3 x91 (.int .i64 1)) Kp fun x105=>
 cH I3 m3 x105 y15)
 (cH I3 m3 y14 x91)))
 (bX (fun I4 m4 _ y17=>
 opN p_ (ae .gtr 3 y17 y14) Kp fun x110=>
 condS x110
 (e8 (stD p_ (ae .sub 3 y17 (.int .i64 1)) fun D4 x117=>
 stS p_ (ae .sub 3 y17 (.int .i64 1)) fun x120=>
 stS p_ (bR 317 v0 x120) fun x121=>
 stS p_ (af 319 x121) fun x122=>
 stS p_ (bR 317 v0 y17) fun x125=>
 stS p_ (af 319 x125) fun x126=>
 stS p_ (bR 317 v0 y17) fun x127=>
 opN p_ (ak 319 x127 x122) Kp fun _=>
 (fun w=>D4 w∧(stS p_ (bR 317 v0 x117) fun x128=>
 opN p_ (ak 319 x128 x126) Kp fun _=>
 opN p_ (ae .sub 3 y17 (.int .i64 1)) Kp fun x112=>
 bI I4 m4 x112) w)))
 (K (.tuple #[]))) v2)) v1 v2)
 (opN p_ (ae .add 3 v1 v3) Kp fun x131=>
 opN p_ (bz 3 149 x131) Kp fun x132=>
 opN p_ (ae .shr 149 x132 (.int .u64 1)) Kp fun x133=>
 opN p_ (bz 149 3 x133) Kp fun x134=>
 opN p_ (ae .add 3 x134 v2) Kp fun x137=>
 sU (fun J1=>
 opN p_ (ae .gtr 3 v2 x134) Kp fun x140=>
 condS x140
 (opN p_ (ae .sub 3 x137 v3) Kp fun x143=>
 J1 x143 x134)
 (J1 v1 v2)) fun _ z20 z21=>
 opN p_ (ae .sub 3 x137 (.int .i64 1)) Kp fun x148=>
 dF (fun I5 m5 _ y20 y21=>
 opN p_ (ae .lss 3 y20 y21) Kp fun x151=>
 condS x151
 (opN p_ (ae .add 3 y20 y21) Kp fun x154=>
 opN p_ (bz 3 149 x154) Kp fun x155=>
 opN p_ (ae .shr 149 x155 (.int .u64 1)) Kp fun x156=>
 opN p_ (bz 149 3 x156) Kp fun x157=>
 e8 (stS p_ (ae .sub 3 x148 x157) fun x162=>
 stS p_ (bR 317 v0 x162) fun x163=>
 stS p_ (af 319 x163) fun x164=>
 stS p_ (bR 317 v0 x157) fun x167=>
 stS p_ (af 319 x167) fun x168=>
 opN p_ (aj v4 [x164,x168]) Kp fun x169=>
 stS p_ (ae .lss 3 x169 (.int .i64 0)) fun x170=>
 stS p_ (jZ .not x170) fun x171=>
 condS x171
 (opN p_ (ae .add 3 x157 (.int .i64 1)) Kp fun x173=>
 cH I5 m5 x173 y21)
 (cH I5 m5 y20 x157)))
 (opN p_ (ae .sub 3 x137 y20) Kp fun x177=>
 mZ (fun J2=>
 opN p_ (ae .lss 3 y20 v2) Kp fun x180=>
 gdK x180 true (fun k=>k v2) fun x182=>
 gdK x180 true (fun k=>k x177) fun x183=>
 gdK x180 true (opN p_ (ae .lss 3 x182 x183) Kp) fun x184=>
 opN p_ (aK x180 x184 (.bool false)) Kp fun x185=>
 condS x185
 (opN p_ (aj (fn 258) [v0,y20,v2,x177,v4]) Kp fun x191=>
 J2)
 (J2)) fun _=>
 mZ (fun J3=>
 opN p_ (ae .lss 3 v1 y20) Kp fun x194=>
 gdK x194 true (fun k=>k y20) fun x196=>
 gdK x194 true (fun k=>k x134) fun x197=>
 gdK x194 true (opN p_ (ae .lss 3 x196 x197) Kp) fun x198=>
 opN p_ (aK x194 x198 (.bool false)) Kp fun x199=>
 condS x199
 (opN p_ (aj (fn 257) [v0,v1,y20,x134,v4]) Kp fun x205=>
 J3)
 (J3)) fun _=>
 opN p_ (ae .lss 3 x134 x177) Kp fun x208=>
 gdK x208 true (fun k=>k x177) fun x210=>
 gdK x208 true (fun k=>k v3) fun x211=>
 gdK x208 true (opN p_ (ae .lss 3 x210 x211) Kp) fun x212=>
 opN p_ (aK x208 x212 (.bool false)) Kp fun x213=>
 condS x213
 (opN p_ (aj (fn 257) [v0,x134,x177,v3,v4]) Kp fun x219=>
 K (.tuple #[]))
 (K (.tuple #[])))) z20 z21))
theorem ew {v0 v1 v2 v3 v4:Value}:Shp p_ 257 [v0,v1,v2,v3,v4] (dm v0 v1 v2 v3 v4):=bT Tryz.call257 Tryz.func257 (an:={cuts:=[(32,[20,21]),(41,[]),(43,[])],loops:=[(3,[10,11]),(9,[13]),(15,[14,15]),(21,[17]),(33,[20,21])],drs:=[(5,.ofL [(0,1),(1,1),(2,1),(3,1),(4,1),(5,1),(6,1),(7,1),(8,1),(9,0),(10,1)]),(11,.ofL [(0,1),(1,1),(2,2),(3,2),(4,3),(5,1),(6,1),(7,1),(8,1),(9,1),(10,1),(11,1),(12,1),(13,1),(14,1),(15,0),(16,1),(17,0)]),(17,.ofL [(0,1),(1,1),(2,1),(3,1),(4,1),(5,1),(6,1),(7,1),(8,1),(9,0),(10,1),(11,1)]),(23,.ofL [(0,1),(1,1),(2,2),(3,2),(4,3),(5,1),(6,1),(7,1),(8,1),(9,1),(10,1),(11,1),(12,1),(13,1),(14,1),(15,0),(16,1),(17,0)]),(35,.ofL [(0,1),(1,1),(2,1),(3,1),(4,1),(5,1),(6,1),(7,1),(8,1),(9,1),(10,1),(11,0),(12,1),(13,1)])]}) fun _ _=>by kernel_rfl
def dz (v0 v1 v2 v3 v4:Value)(Kp:PK)(K:Value→WP):WP:=
 opN p_ (ae .sub 3 v2 v1) Kp fun x14=>
 opN p_ (ae .sub 3 v3 v2) Kp fun x17=>
 dF (fun I1 m1 _ y10 y11=>
 opN p_ (b_ .neq 3 (.tmp 18) (.tmp 19) y10 y11) Kp fun x20=>
 condS x20
 (opN p_ (ae .gtr 3 y10 y11) Kp fun x23=>
 condS x23
 (opN p_ (ae .sub 3 v2 y10) Kp fun x27=>
 opN p_ (aj (fn 259) [v0,x27,v2,y11,v4]) Kp fun x31=>
 opN p_ (ae .sub 3 y10 y11) Kp fun x34=>
 cH I1 m1 x34 y11)
 (opN p_ (ae .sub 3 v2 y10) Kp fun x38=>
 opN p_ (ae .add 3 v2 y11) Kp fun x41=>
 opN p_ (ae .sub 3 x41 y10) Kp fun x43=>
 opN p_ (aj (fn 259) [v0,x38,x43,y10,v4]) Kp fun x46=>
 opN p_ (ae .sub 3 y11 y10) Kp fun x49=>
 cH I1 m1 y10 x49))
 (opN p_ (ae .sub 3 v2 y10) Kp fun x53=>
 opN p_ (aj (fn 259) [v0,x53,v2,y10,v4]) Kp fun x57=>
 K (.tuple #[]))) x14 x17
theorem eQ {v0 v1 v2 v3 v4:Value}:Shp p_ 258 [v0,v1,v2,v3,v4] (dz v0 v1 v2 v3 v4):=bT Tryz.call258 Tryz.func258 (an:={loops:=[(2,[10,11])]}) fun _ _=>by kernel_rfl
def de (v0 v1 v2 v3 v4:Value)(Kp:PK)(K:Value->WP):WP:=
 bX (fun I1 m1 _ y10=>
 opN p_ (ae .lss 3 y10 v3) Kp fun x13=>
 condS x13
 (e8 (stS p_ (ae .add 3 v1 y10) fun x19=>
 stD p_ (ae .add 3 v2 y10) fun D7 x23=>
 stS p_ (ae .add 3 v2 y10) fun x27=>
 stS p_ (bR 317 v0 x27) fun x28=>
 stS p_ (af 319 x28) fun x29=>
 stS p_ (ae .add 3 v1 y10) fun x33=>
 stS p_ (bR 317 v0 x33) fun x34=>
 stS p_ (af 319 x34) fun x35=>
 stS p_ (bR 317 v0 x19) fun x36=>
 opN p_ (ak 319 x36 x29) Kp fun _=>
 (fun w=>D7 w/\(stS p_ (bR 317 v0 x23) fun x37=>
 opN p_ (ak 319 x37 x35) Kp fun _=>
 opN p_ (ae .add 3 y10 (.int .i64 1)) Kp fun x15=>
 bI I1 m1 x15) w)))
 (K (.tuple #[]))) (.int .i64 0)
theorem eh {v0 v1 v2 v3 v4:Value}:Shp p_ 259 [v0,v1,v2,v3,v4] (de v0 v1 v2 v3 v4):=bT Tryz.call259 Tryz.func259 (an:={loops:=[(1,[10])],drs:=[(3,.ofL [(0,1),(1,1),(2,1),(3,1),(4,2),(5,2),(6,2),(7,3),(8,1),(9,1),(10,1),(11,1),(12,1),(13,1),(14,1),(15,1),(16,1),(17,1),(18,1),(19,1),(20,1),(21,0),(22,1),(23,0)])]}) fun _ _=>by kernel_rfl
end S
namespace FD
open Go Go.Proofs Go.RowKit Sh Sl T
section
variable {P:Program} {W:World} {L L':List HP} {Kp:PK} {k:Value->WP}
theorem wM {a b:Bool}{y:Value}{s:Value->Sem Next}(h2:a=true->bb P W [] (s y) (.bool b))(h:be W L (k (.bool (a&&b)))):
  be W L (gdK (.bool a) true (fun k=>k y) fun x=>gdK (.bool a) true (opN P (s x) Kp) fun x2=>opN P (aK (.bool a) x2 (.bool false)) Kp k):=by
 cases a with
 |true=>
  refine ag (ag (o_ (h2 rfl) ?_))
  refine o_ aq ?_
  simpa using h
 |false=>
  refine ah (ah (o_ ap ?_))
  simpa using h
theorem Az {a b c:Bool}{y:Value}{s1 s2:Value->Sem Next}(h1:a=false->bb P W [] (s1 y) (.bool b))(h2:a=false->b=true->bb P W [] (s2 y) (.bool c))(h:be W L (k (.bool (a||(b&&c))))):
  be W L (gdK (.bool a) false (fun k=>k y) fun x14=>gdK (.bool a) false (opN P (s1 x14) Kp) fun x15=>gdK (.bool a) false (fun k=>k x15) fun x16=>gdK x16 true (fun k=>k y) fun x17=>gdK x16 true (opN P (s2 x17) Kp) fun x18=>
   gdK (.bool a) false (opN P (aK x16 x18 (.bool false)) Kp) fun x19=>opN P (aK (.bool a) (.bool true) x19) Kp k):=by
 cases a with
 |true=>
  refine aA (aA (aA (fD (fD (aA (o_ aq ?_))))))
  simpa using h
 |false=>
  refine ag (ag (o_ (h1 rfl) ?_))
  refine ag ?_
  cases b with
  |true=>
   refine ag (ag (o_ (h2 rfl rfl) ?_))
   refine ag (o_ aq (o_ ap ?_))
   simpa using h
  |false=>
   refine ah (ah (ag (o_ ap (o_ ap ?_))))
   simpa using h
theorem RD {t:TypeId} {g o:Nat} {cs:Array Value} {T:TypeId} {fz:Nat × Nat} {v:Value} [ht:OneT P t] [hv:OC v] (p:Pick L (pt g (.cells cs T fz)) L') (ho:o<cs.size) (hfz:¬(fz.1<=o/\o<fz.2))
  (h:be W (pt g (.cells (cs.setIfInBounds o v) T fz)::L') (k undef)):be W L (opN P (ak t (.pointer (some ⟨g,o,none⟩)) v) Kp k):=fun w hw=>by
 have hw':=hw.pick p
 have hc:w.cell? ⟨g,o,none⟩=some cs[o]:=by rw[hw'.cell,Array.getElem?_eq_getElem ho]
 have hf:w.frozen? ⟨g,o,none⟩=false:=by
  simp only[World.frozen?,hw'.pt_.1]
  simp
  intro h1
  by_cases c:o<fz.2
  ·exact absurd ⟨h1,c⟩ hfz
  ·omega
 have hcells:v.cells= #[v]:=by exact ao hv.one
 refine⟨?_⟩
 have hr:(ak t (.pointer (some ⟨g,o,none⟩)) v).run P w= .ok .skip (w.setCell ⟨g,o,none⟩ v):=by
  simp[ak,Instr.storeAt,Instr.sureAddr,storeVar,ht.size,hcells,storeCells,Addr.add,run_store,hv.one,hc,hf]
 rw[hr]
 exact h _ (hw'.setCell v)
theorem tJ {s t e:TypeId} {l:List UInt8} [hs:StrT P s] (ht:P.underlying t=some (.slice e)) (he:P.underlying e=some (.int .u8))
  (h:∀g c (rest:List Value),be W (pt g (.cells (l.map B++rest).toArray e (l.length+rest.length,l.length+rest.length+1))::L) (k (.slice (some ⟨g,0,none⟩) l.length c))):be W L (opN P (bz s t (bo l)) Kp k):=fun w hw=>by
 refine⟨?_⟩
 have hr:=run_bytes_of_string (P:=P) w s t e ⟨l.toArray⟩ hs.ut ht he
 have hb:bytesRow ⟨l.toArray⟩ (grownCap w l.length 0 e)=(l.map B++(Array.replicate (grownCap w l.length 0 e-l.length) (Value.int .u8 0)).toList).toArray:=by
  apply Array.ext'
  simp[bytesRow,B,ByteArray.size]
 have:(bz s t (bo l)).run P w= .ok (.value (.slice (some ⟨w.heap.size,0,none⟩) l.length (grownCap w l.length 0 e))) (w.drew.alloc (.cells (bytesRow ⟨l.toArray⟩ (grownCap w l.length 0 e)) e ((bytesRow ⟨l.toArray⟩ (grownCap w l.length 0 e)).size,(bytesRow ⟨l.toArray⟩ (grownCap w l.length 0 e)).size+1))):=by
  simp[bz,bo,hr,ByteArray.size]
 rw[this]
 have h2:=(hw.drew).alloc (.cells (bytesRow ⟨l.toArray⟩ (grownCap w l.length 0 e)) e ((bytesRow ⟨l.toArray⟩ (grownCap w l.length 0 e)).size,(bytesRow ⟨l.toArray⟩ (grownCap w l.length 0 e)).size+1))
 rw[hb]at h2 ⊢
 have hz:((l.map B++(Array.replicate (grownCap w l.length 0 e-l.length) (Value.int .u8 0)).toList).toArray).size=l.length+((Array.replicate (grownCap w l.length 0 e-l.length) (Value.int .u8 0)).toList).length:=by simp
 rw[hz]at h2 ⊢
 exact h _ _ _ _ h2
end
def BN (l:List UInt8)(c:UInt8):Int:=if c∈l then((l.findIdx (· ==c):Nat):Int)else-1
theorem Ct {l:List UInt8}{c:UInt8}:firstIdx ⟨l.toArray⟩ c=BN l c:=by
 have e:∀i,i<l.length->((⟨l.toArray⟩:ByteArray)[i]! ==c)=(l.getD i 0==c):=fun i hi=>by
  have h2:i<(⟨l.toArray⟩:ByteArray).size:=hi
  rw[getElem!_pos _ i h2]
  simp[ByteArray.getElem_eq_getElem_data,List.getD_eq_getElem?_getD,hi]
 unfold BN
 by_cases h:c∈l
 ·rw[if_pos h]
  have hlt:l.findIdx (· ==c)<l.length:=List.findIdx_lt_length_of_exists ⟨c,h,by simp⟩
  have hf:(List.range (⟨l.toArray⟩:ByteArray).size).find? (fun i=>(⟨l.toArray⟩:ByteArray)[i]! ==c)=some (l.findIdx (· ==c)):=by
   rw[List.find?_eq_some_iff_getElem]
   refine⟨?_,l.findIdx (· ==c),by simpa [ByteArray.size]using hlt,by simp,fun j hj=>?_⟩
   ·rw[e _ hlt]
    have:=List.findIdx_getElem (w:=hlt)
    simpa [List.getD_eq_getElem?_getD,hlt]using this
   ·have hjl:j<l.length:=by omega
    simp only[List.getElem_range]
    rw[e _ hjl]
    have:=List.not_of_lt_findIdx hj
    simpa [List.getD_eq_getElem?_getD,hjl]using this
  unfold firstIdx
  rw[hf]
 ·rw[if_neg h]
  have hf:(List.range (⟨l.toArray⟩:ByteArray).size).find? (fun i=>(⟨l.toArray⟩:ByteArray)[i]! ==c)=none:=by
   rw[List.find?_eq_none]
   intro i hi
   have hil:i<l.length:=by simpa [ByteArray.size]using hi
   rw[e i hil]
   simp[List.getD_eq_getElem?_getD,hil]
   rintro rfl
   exact h (List.getElem_mem hil)
  unfold firstIdx
  rw[hf]
theorem tK {l:List UInt8}{c:UInt8}:(0<=BN l c)↔c∈l:=by
 unfold BN
 by_cases h:c∈l
 ·rw[if_pos h];simp[h]
 ·rw[if_neg h];simp[h]
theorem wN {W:World}{l:List UInt8}{c:UInt8}:Cn p_ 63 [bo l,Sl.B c] W [] (fun _:Unit=> .int .i64 (BN l c)) (fun _=>[]):=by
 have ext:bb p_ W [] (aj (fn 98) [bo l,Sl.B c]) (.int .i64 (BN l c)):=fun w _=>by
  have hr:(callFunc 98 #[bo l,Sl.B c]).run p_ w= .ok (.value (.int .i64 (BN l c))) w:=by
   rw[run_callFunc_extern Tryz.func98 (by kernel_rfl) (by kernel_rfl) (by kernel_rfl) (e:=Extern.BytealgIndexByte.indexByte) (by kernel_rfl)]
   have:=run_indexByte_string (P:=p_) ⟨l.toArray⟩ (c.toNat:Int) w
   unfold bo Sl.B
   rw[this]
   simp only[Result.andThen_ok]
   rw[show(↑c.toNat:Int).toNat.toUInt8=c by simp,Ct]
  simp[aj,Deferred.ofValue,invoke,fn,hr]
 (refine S.kZ.cn fun F=>?_;unfold S.ib;simp only[ca_,na_])
 refine o_ ext ?_
 refine bC () ?_
 exact aC
theorem indexByte {W:World}{l:List UInt8}{c:UInt8}:Cn p_ 44 [bo l,Sl.B c] W [] (fun _:Unit=> .int .i64 (BN l c)) (fun _=>[]):=by
 (refine S.oV.cn fun F=>?_;unfold S.kj;simp only[ca_,na_])
 refine c_ wN fun _=>?_
 refine bC () ?_
 exact aC
end FD
namespace FD
open Go Go.Proofs Go.RowKit Sh Sl T
theorem RE:(p_.info? 5).map (fun i=>(i.zero,i.size,i.bytes))=some (some (.int .u8 0),1,1):=by kernel_rfl
set_option maxHeartbeats 4000000 in
set_option maxRecDepth 100000 in
theorem Oo (s:ByteArray)(w:World)(hlim:s.size<=281474976710656):
  Calls p_ 254 #[.string s] w fun e w'=>e= .returned (.string s)/\Below w.heap.size w w':=by
 by_cases h0:s.size=0
 ·have hs:s=⟨#[]⟩:=by
   apply ByteArray.ext
   exact Array.eq_empty_of_size_eq_zero h0
  subst hs
  go_enter Tryz.func254,Tryz.ntmps254
  go_wp2
  go_ret
  exact⟨rfl,Below.refl _ _⟩
 ·obtain⟨i0,hi,hz0,hz1,hz2⟩:=info_parts RE
  have hinfo:(p_.info? 5).map (·.size)=some 1:=by rw[hi];simp[hz1]
  have hco:p_.cellsOf 5=1:=by simp[Program.cellsOf,hi,hz1]
  obtain⟨M,hM⟩:∃M,M=madeCells (Value.int .u8 0).cells (((s.size:Nat):Int).toNat * i0.size):=⟨_,rfl⟩
  have hMs:M.size=s.size:=by rw[hM,size_madeCells,hz1];simp
  have hmk:∀W:World,(Instr.makeSlice 23 (.int .i64 (s.size:Int)) (.int .i64 (s.size:Int))).run p_ W= .ok (.slice (some ⟨W.heap.size,0,none⟩) s.size s.size) (W.alloc (.cells M 5)):=fun W=>by
   have h:=run_make (P:=p_) W 23 5 i0 (.int .u8 0) Tryz.underlying23 hi hz0 .i64 .i64 (s.size:Int) (s.size:Int) (by omega) (by omega) (by rw[hz2];omega) (by omega)
   rw[<- hM]at h
   simpa using h
  clear hM
  have hcp:=Lib.run_copy_row_string (P:=p_) (w.alloc (.cells M 5)) 23 9 3 5 w.heap.size 0 s.size s.size s M 5 Tryz.underlying23 hinfo (heap_alloc_new w _) (Nat.le_refl _) (by omega)
  obtain⟨Y,hY⟩:∃Y,Y=(M.toList.take 0++Lib.byteCells s.data.toList++M.toList.drop (0+s.size)).toArray:=⟨_,rfl⟩
  rw[<- hY]at hcp
  have hYl:Y.toList=Lib.byteCells s.data.toList:=by
   rw[hY,List.toList_toArray,List.take_zero,List.nil_append,List.drop_of_length_le (by rw[Array.length_toList];omega),List.append_nil]
  have hYs:Y.size=s.size:=by rw[<- Array.length_toList,hYl,Lib.byteCells_length,<- Lib.size_eq]
  have hgY:((w.alloc (.cells M 5)).setRow w.heap.size Y).heap[w.heap.size]? =some (.cells Y 5 (0,0)):=setRow_heap _ _ M _ 5 (0,0) (heap_alloc_new w _)
  have hne:s.data.toList≠[]:=fun e=>h0 (by rw[Lib.size_eq,e];rfl)
  have hUS:=Lib.run_unsafeString_row (P:=p_) ((w.alloc (.cells M 5)).setRow w.heap.size Y) 165 3 9 5 Tryz.underlying165 hco w.heap.size Y.size (by unfold World.shape?;rw[hgY]) s.data.toList hne (by rw[<- Lib.size_eq];omega) (by rw[<- Lib.size_eq];omega)
   (fun j x hx=>Lib.cells_of_row hgY Y.size j _ (by rw[List.take_of_length_le (by rw[Array.length_toList];exact Nat.le_refl _),hYl];simp[Lib.byteCells,hx]))
  rw[<- Lib.size_eq]at hUS
  clear hY
  go_enter Tryz.func254,Tryz.ntmps254
  go_wp2
  go_ret
  have hb1:Below w.heap.size w (w.alloc (.cells M 5)):=(Below.refl _ w).alloc (Nat.le_refl _) _
  have hb2:Below w.heap.size (w.alloc (.cells M 5)) ((w.alloc (.cells M 5)).setRow w.heap.size Y):=⟨rfl,rfl,rfl,by simp,fun k hk=>setRow_other _ _ _ _ (by omega)⟩
  exact⟨rfl,Lib.below_freeze (hb1.trans hb2) (p:=⟨w.heap.size,0,none⟩) (Nat.le_refl _) _⟩
theorem GL {W w w':World}{L:List HP}(H:sat W L w)(hb:Below w.heap.size w w'):sat W L w':=by
 obtain⟨h,hl,hh⟩:=H.heap
 refine⟨⟨hb.os.trans H.base.os,hb.tape.trans H.base.tape,hb.output.trans H.base.output,Nat.le_trans H.base.size hb.size,fun k hk=>(hb.block k (Nat.lt_of_lt_of_le hk H.base.size)).trans (H.base.block k hk)⟩,h,hl,fun i o c=>?_⟩
 obtain⟨h1,h2⟩:=hh i o c
 have hlt:i<w.heap.size:=(Array.getElem?_eq_some_iff.1 h2).1
 exact⟨h1,by rw[hb.block i hlt,h2]⟩
theorem RF {W:World}{l:List UInt8}(hl:l.length<=281474976710656):Cn p_ 254 [bo l] W [] (fun _:Unit=>bo l) (fun _=>[]):=
 ⟨Tryz.call254,fun F w hw=>(Oo ⟨l.toArray⟩ w hl).mono fun e w' ⟨he,hb⟩=>⟨(),he,GL hw hb⟩⟩
instance AA:ZeroT p_ 97 (.agg (An 256 fun _=>0)):=⟨fun w=>(Tryz.zeroValue97 w).trans (by
 have:Tryz.zeroCells97=An 256 fun _=>0:=by kernel_rfl
 rw[this])⟩
def u8 (i:Nat):UInt8:=UInt8.ofNat i
theorem El {i:Nat}(h:i<256):(u8 i).toNat=i:=by
 unfold u8
 rw[UInt8.toNat_ofNat']
 omega
def Fp (i:Nat):Int:=if B7 (u8 i)then 1 else 0
def GM (i:Nat):Int:=Fp i+(if i=9\/(32<=i/\i≠127)then 2 else 0)
def DK (i:Nat):Int:=GM i+(if 65<=i/\i<=90 then 4 else 0)
theorem RG {i:Nat}(h:i<256):((decide ((97:Int)<=(i:Int))&&decide ((i:Int)<=122))||(decide ((65:Int)<=(i:Int))&&decide ((i:Int)<=90))||(decide ((48:Int)<=(i:Int))&&decide ((i:Int)<=57)))=Ij (u8 i):=by
 unfold Ij
 have e:=El h
 simp only[UInt8.le_iff_toNat_le,e]
 rw[<- Bool.decide_and,<- Bool.decide_and,<- Bool.decide_and,<- Bool.decide_or,<- Bool.decide_or,decide_eq_decide]
 simp only[show(97:UInt8).toNat=97 from rfl,show(122:UInt8).toNat=122 from rfl,show(65:UInt8).toNat=65 from rfl,show(90:UInt8).toNat=90 from rfl,show(48:UInt8).toNat=48 from rfl,show(57:UInt8).toNat=57 from rfl]
 omega
theorem Oq (c:UInt8):Ee.contains c=true->32<c.toNat/\c.toNat<127:=by
 refine Ik (p:=fun c=>Ee.contains c=true->32<c.toNat/\c.toNat<127) ?_ c
 decide+kernel
def vx (i:Nat)(x:Int):Nat->Int:=fun j=>if j<i then DK j else if j=i then x else 0
theorem AC {i:Nat}{x y:Int}:(An 256 (vx i x)).setIfInBounds i (.int .i64 y)=An 256 (vx i y):=by
 refine we.trans (eW fun j _=>?_)
 unfold vx
 by_cases h:j=i
 ·subst h;simp
 ·simp[h]
theorem En {i:Nat}{x:Int}(h:i<256):(An 256 (vx i x))[i]? =some (.int .i64 x):=by
 rw[jC h];simp[vx,I]
theorem Iq {i:Nat}:An 256 (vx i (DK i))=An 256 (vx (i+1) 0):=eW fun j _=>by
 unfold vx
 by_cases h:j<i
 ·rw[if_pos h,if_pos (by omega)]
 ·by_cases h2:j=i
  ·subst h2;simp
  ·rw[if_neg h,if_neg h2,if_neg (by omega)];simp
theorem Eo {n:Nat}{f:Nat->Int}:∀u∈(An n f).toList,u.oneCell'=true:=by
 intro u hu
 simp only[An]at hu
 obtain⟨j,_,rfl⟩:=List.mem_map.1 hu
 rfl
theorem Vq:cZ .or .i64 0 1=1:=by rfl
theorem Vr {x:Int}(h:x=0\/x=1):cZ .or .i64 x 2=x+2:=by rcases h with rfl|rfl <;> rfl
theorem Vs {x:Int}(h:x=0\/x=1\/x=2\/x=3):cZ .or .i64 x 4=x+4:=by rcases h with rfl|rfl|rfl|rfl <;> rfl
theorem Ny (i:Nat):Fp i=0\/Fp i=1:=by unfold Fp;split <;> simp
theorem RH (i:Nat):GM i=0\/GM i=1\/GM i=2\/GM i=3:=by
 have:=Ny i
 unfold GM
 split <;> omega
theorem Fq {W : World} : Cn p_ 58 [] W [] (fun _ : Unit => .agg (An 256 DK)) (fun _ => []) := by
 (refine S.vd.cn fun F => ?_; unfold S.px; simp only [ca_, na_])
 refine bm fun b0 => ?_
 refine bm fun b1 => ?_
 refine bj (fun m y => [ex fun i : Nat => all [pu (m + i = 256 ∧ y = .int .i64 (i : Int)), pt b1 (.cells (An 256 (vx i 0)) 97 (0, 0)), pt b0 (.cells (An 256 fun _ => 0) 97 (0, 0))]] ++ F) 256 ?_ ?_
 ·refine Imp.ex 0 (.all ?_)
  refine ay ?_
  have e : An 256 (vx 0 0) = An 256 fun _ => 0 := eW fun j _ => by unfold vx; simp
  rw [e]
  exact .pu ⟨by omega, rfl⟩ .refl
 intro m ds y
 refine ay ?_
 refine aX Pick.here fun i => aB Pick.here ?_
 refine ay ?_
 refine aT Pick.here fun hi => ?_
 obtain ⟨hmi, rfl⟩ := hi
 refine aF aI .nil (fun h => ?_) (fun h => ?_)
 ·have hil : i < 256 := by omega
  refine ab (o_ dg (wM (fun _ => dX) ?_))
  refine Az (fun _ => dg) (fun _ _ => dX) ?_
  refine Az (fun _ => dg) (fun _ _ => dX) ?_
  rw [RG hil]
  refine jx (pt b1 (.cells (An 256 (vx i (Fp i))) 97 (0, 0)) :: pt b0 (.cells (An 256 fun _ => 0) 97 (0, 0)) :: F) ?_ ?_
  ·intro ds1
   refine jx (pt b1 (.cells (An 256 (vx i (GM i))) 97 (0, 0)) :: pt b0 (.cells (An 256 fun _ => 0) 97 (0, 0)) :: F) ?_ ?_
   ·intro ds2
    have fin : ∀ x, x = DK i → be W (pt b1 (.cells (An 256 (vx i x)) 97 (0, 0)) :: pt b0 (.cells (An 256 fun _ => 0) 97 (0, 0)) :: F) (bI (fun m y w => sat W ([ex fun i : Nat => all [pu (m + i = 256 ∧ y = .int .i64 (i : Int)), pt b1 (.cells (An 256 (vx i 0)) 97 (0, 0)), pt b0 (.cells (An 256 fun _ => 0) 97 (0, 0))]] ++ F) w) m (.int .i64 ((i : Int) + 1))) := by
     intro x hx
     subst hx
     rw [Iq]
     refine aP (m - 1) (by omega) (.ex (i + 1) (.all ?_))
     refine ay ?_
     exact .pu ⟨by omega, rfl⟩ .refl
    refine o_ dg (wM (fun _ => dX) ?_)
    rw [← Bool.decide_and]
    by_cases h4 : (65 : Int) ≤ (i : Int) ∧ (i : Int) ≤ 90
    ·rw [dT_ h4]
     refine ab (o_ (dL i rfl hil) ?_)
     rw [Nat.zero_add, Nat.mul_one]
     refine am (iA (En hil)) (.pick .here .nil) ?_
     refine o_ BY (o_ (dL i rfl hil) ?_)
     rw [Nat.zero_add, Nat.mul_one]
     refine pQ .here (by rw [cM]; exact hil) ?_
     rw [AC, Vs (RH i)]
     refine bW ?_
     exact fin _ (by unfold DK; rw [if_pos (by omega)])
    ·rw [dF_ h4]
     refine aa (bW ?_)
     exact fin _ (by unfold DK; rw [if_neg (by omega), Int.add_zero])
   ·have fin : ∀ b : Bool, b = decide (i = 9 ∨ (32 ≤ i ∧ i ≠ 127)) → be W (pt b1 (.cells (An 256 (vx i (Fp i))) 97 (0, 0)) :: pt b0 (.cells (An 256 fun _ => 0) 97 (0, 0)) :: F) (condS (.bool b)
      (opN p_ (bR 97 (.pointer (some ⟨b1, 0, none⟩)) (.int .i64 (i : Int))) jY fun x60 =>
       opN p_ (af 3 x60) jY fun x61 =>
       opN p_ (ae .or 3 x61 (.int .i64 2)) jY fun x62 =>
       opN p_ (bR 97 (.pointer (some ⟨b1, 0, none⟩)) (.int .i64 (i : Int))) jY fun x63 =>
       opN p_ (ak 3 x63 x62) jY fun _ => fun w => sat W (pt b1 (.cells (An 256 (vx i (GM i))) 97 (0, 0)) :: pt b0 (.cells (An 256 fun _ => 0) 97 (0, 0)) :: F) w)
      (fun w => sat W (pt b1 (.cells (An 256 (vx i (GM i))) 97 (0, 0)) :: pt b0 (.cells (An 256 fun _ => 0) 97 (0, 0)) :: F) w)) := by
     intro b hb
     by_cases h2 : i = 9 ∨ (32 ≤ i ∧ i ≠ 127)
     ·rw [hb, dT_ h2]
      refine ab (o_ (dL i rfl hil) ?_)
      rw [Nat.zero_add, Nat.mul_one]
      refine am (iA (En hil)) (.pick .here .nil) ?_
      refine o_ BY (o_ (dL i rfl hil) ?_)
      rw [Nat.zero_add, Nat.mul_one]
      refine pQ .here (by rw [cM]; exact hil) ?_
      rw [AC, Vr (Ny i), show Fp i + 2 = GM i by unfold GM; rw [if_pos h2]]
      exact a_ .refl
     ·rw [hb, dF_ h2]
      refine aa ?_
      rw [show Fp i = GM i by unfold GM; rw [if_neg h2, Int.add_zero]]
      exact a_ .refl
    refine o_ bF (Az (fun _ => dg) (fun _ _ => eS) ?_)
    refine fin _ ?_
    rw [← Bool.decide_and, ← Bool.decide_or, decide_eq_decide]
    omega
  ·have finT : B7 (u8 i) = true → be W (pt b1 (.cells (An 256 (vx i 0)) 97 (0, 0)) :: pt b0 (.cells (An 256 fun _ => 0) 97 (0, 0)) :: F)
      (opN p_ (bR 97 (.pointer (some ⟨b1, 0, none⟩)) (.int .i64 (i : Int))) jY fun x60 =>
       opN p_ (af 3 x60) jY fun x61 =>
       opN p_ (ae .or 3 x61 (.int .i64 1)) jY fun x62 =>
       opN p_ (bR 97 (.pointer (some ⟨b1, 0, none⟩)) (.int .i64 (i : Int))) jY fun x63 =>
       opN p_ (ak 3 x63 x62) jY fun _ => fun w => sat W (pt b1 (.cells (An 256 (vx i (Fp i))) 97 (0, 0)) :: pt b0 (.cells (An 256 fun _ => 0) 97 (0, 0)) :: F) w) := by
    intro hb
    refine o_ (dL i rfl hil) ?_
    rw [Nat.zero_add, Nat.mul_one]
    refine am (iA (En hil)) (.pick .here .nil) ?_
    refine o_ BY (o_ (dL i rfl hil) ?_)
    rw [Nat.zero_add, Nat.mul_one]
    refine pQ .here (by rw [cM]; exact hil) ?_
    rw [AC, Vq, show (1 : Int) = Fp i by unfold Fp; rw [hb]; rfl]
    exact a_ .refl
   have finF : B7 (u8 i) = false → be W (pt b1 (.cells (An 256 (vx i 0)) 97 (0, 0)) :: pt b0 (.cells (An 256 fun _ => 0) 97 (0, 0)) :: F)
      (fun w => sat W (pt b1 (.cells (An 256 (vx i (Fp i))) 97 (0, 0)) :: pt b0 (.cells (An 256 fun _ => 0) 97 (0, 0)) :: F) w) := by
    intro hb
    rw [show Fp i = 0 by unfold Fp; rw [hb]; rfl]
    exact a_ .refl
   have htk : B7 (u8 i) = (Ij (u8 i) || Ee.contains (u8 i)) := rfl
   cases ha : Ij (u8 i) with
   | true =>
    rw [ha] at htk
    exact aA (aA (aA (fD (fD (aA (aA (fD (fD (fD (fD (aA (o_ aq (ab (finT (by rw [htk]; rfl)))))))))))))))
   | false =>
    rw [ha, Bool.false_or] at htk
    have hcb := Oq (u8 i)
    rw [El hil] at hcb
    refine ag (ag (aF bq .nil (fun h => ?_) (fun h => ?_)))
    ·(refine ag ?_); refine ag ?_; refine ag ?_
     refine aF aI .nil (fun h => ?_) (fun h => ?_)
     ·(refine ag ?_); refine o_ aq ?_; refine ag ?_; refine ag ?_; refine ag ?_
      refine o_ bO ?_
      rw [show (IntKind.u8.wrap (i : Int)) = ((u8 i).toNat : Int) by rw [El hil]; simp [IntKind.wrap, IntKind.signed, IntKind.bits]; omega]
      refine ag (aH (indexByte (l := Ee) (c := u8 i)) .nil fun _ => ?_)
      refine ay ?_
      refine ag (aF dg .nil (fun h => ?_) (fun h => ?_))
      ·(refine ag ?_); refine o_ aq ?_; refine o_ ap ?_; refine ab ?_
       exact finT (by rw [htk]; simpa using tK.1 h)
      ·(refine ag ?_); refine o_ aq ?_; refine o_ ap ?_; refine aa ?_
       exact finF (by rw [htk]; simpa using fun c => h (tK.2 c))
     ·(refine ag ?_); refine o_ aq ?_; refine ag ?_; refine ah ?_; refine ah ?_; refine ah ?_; refine ah ?_; refine ag ?_; refine o_ ap ?_; refine o_ ap ?_; refine aa ?_
      exact finF (by rw [htk]; cases hx : Ee.contains (u8 i) with
       | true => have := hcb hx; omega
       | false => rfl)
    ·(refine ag ?_); refine ah ?_; refine ah ?_; refine ag ?_; refine o_ ap ?_; refine ag ?_; refine ah ?_; refine ah ?_; refine ah ?_; refine ah ?_; refine ag ?_; refine o_ ap ?_; refine o_ ap ?_; refine aa ?_
     exact finF (by rw [htk]; cases hx : Ee.contains (u8 i) with
      | true => have := hcb hx; omega
      | false => rfl)
 ·have h256 : i = 256 := by omega
  subst h256
  refine aa ?_
  have e : An 256 (vx 256 0) = An 256 DK := eW fun j hj => by unfold vx; rw [if_pos hj]
  rw [e]
  refine am (bP (cM 256 DK)) (.pick .here .nil) ?_
  refine bY (.there .here) (cM 256 _) (cM 256 _) Eo ?_
  refine aQ (cN (cM 256 DK)) (.pick .here .nil) ?_
  refine bC () ?_
  exact aC
theorem Ot (c:UInt8):cZ .and .i64 (DK c.toNat) 1=0↔B7 c=false:=by
 refine Ik (p:=fun c=>cZ .and .i64 (DK c.toNat) 1=0↔B7 c=false) ?_ c
 decide+kernel
theorem RI (c:UInt8):cZ .and .i64 (DK c.toNat) 4≠0↔(65<=c/\c<=90):=by
 refine Ik (p:=fun c=>cZ .and .i64 (DK c.toNat) 4≠0↔(65<=c/\c<=90)) ?_ c
 decide+kernel
theorem Ou {W:World}{l:List UInt8}{bit:Int}{p:UInt8->Bool}(hb:∀c:UInt8,cZ .and .i64 (DK c.toNat) bit=0↔p c=false)(hl:l.length<=4611686018427387904):
  Cn p_ 117 [bo l,.int .i64 bit] W [] (fun _:Unit=> .bool (l.all p)) (fun _=>[]):=by
 (refine S.Co.cn fun F=>?_;unfold S.zi;simp only[ca_,na_])
 refine c_ Fq fun _=>?_
 refine bm fun b1=>?_
 refine bY .here (cM 256 _) (cM 256 _) Eo ?_
 refine o_ cp (bj (fun m y=>[ex fun i:Nat=>all [pu (m+i=l.length/\y= .int .i64 (i:Int)/\l.all p=(l.drop i).all p),pt b1 (.cells (An 256 DK) 97 (0,0))]]++F) l.length ?_ ?_)
 ·refine Imp.ex 0 (.all ?_)
  refine ay ?_
  exact .pu ⟨by omega,rfl,rfl⟩ .refl
 intro m ds y
 refine ay ?_
 refine aX Pick.here fun i=>aB Pick.here ?_
 refine ay ?_
 refine aT Pick.here fun hi=>?_
 obtain⟨hmi,rfl,hall⟩:=hi
 refine aF aI .nil (fun h=>?_) (fun h=>?_)
 ·have hil:i<l.length:=by omega
  refine ab (o_ (iY i rfl hil) ?_)
  have hc:=(l[i]).toNat_lt
  refine o_ (dL (l[i]).toNat rfl hc) ?_
  rw[Nat.zero_add,Nat.mul_one]
  refine am (iA (jC hc)) (.pick .here .nil) ?_
  refine o_ ur ?_
  rw[dr hil,List.all_cons]at hall
  refine aF bF .nil (fun h=>?_) (fun h=>?_)
  ·refine ab ?_
   rw[(hb _).1 h,Bool.false_and]at hall
   rw[hall]
   refine bC () ?_
   exact aC
  ·refine aa ?_
   have hp:p l[i]=true:=by
    cases hx:p l[i]with
    |true=>rfl
    |false=>exact absurd ((hb _).2 hx) h
   rw[hp,Bool.true_and]at hall
   refine bW ?_
   refine aP (m-1) (by omega) (.ex (i+1) (.all ?_))
   refine ay ?_
   exact .pu ⟨by omega,rfl,hall⟩ .refl
 ·refine aa ?_
  rw[List.drop_of_length_le (by omega),List.all_nil]at hall
  rw[hall]
  refine bC () ?_
  exact aC
theorem Ir {W:World}{l:List UInt8}(hl:l.length<=4611686018427387904):Cn p_ 85 [bo l] W [] (fun _:Unit=> .bool (qM l)) (fun _=>[]):=by
 (refine S.yH.cn fun F=>?_;unfold S.uI;simp only[ca_,na_])
 have e0:(Value.string ⟨#[]⟩)=bo []:=rfl
 rw[e0]
 refine aF kb .nil (fun h=>?_) (fun h=>?_)
 ·refine ag (ag (c_ (Ou Ot hl) fun _=>?_))
  refine o_ aq ?_
  have:qM l=l.all B7:=by unfold qM;cases l with
   |nil=>exact absurd rfl h
   |cons _ _=>rfl
  rw[this]
  refine bC () ?_
  exact aC
 ·have h:l=[]:=Decidable.not_not.1 h
  subst h
  refine ah (ah (o_ ap (bC () ?_)))
  exact aC
theorem rP {W:World}{l:List UInt8}(hl:l.length<=4611686018427387904):Cn p_ 40 [bo l] W [] (fun _:Unit=>bo (dt l)) (fun _=>[]):=by
 (refine S.yD.cn fun F=>?_;unfold S.uE;simp only[ca_,na_])
 refine c_ Fq fun _=>?_
 refine bm fun b1=>?_
 refine bY .here (cM 256 _) (cM 256 _) Eo ?_
 refine tJ Tryz.underlying23 Tryz.underlying5 fun g c rest=>?_
 refine o_ aN (bj (fun m y=>[ex fun i:Nat=>all [pu (m+i=l.length/\y= .int .i64 (i:Int)),pt g (.cells (((l.take i).map j6++l.drop i).map B++rest).toArray 5 (l.length+rest.length,l.length+rest.length+1)),pt b1 (.cells (An 256 DK) 97 (0,0))]]++F) l.length ?_ ?_)
 ·refine Imp.ex 0 (.all ?_)
  refine ay ?_
  rw[List.take_zero,List.drop_zero,List.map_nil,List.nil_append]
  exact .pu ⟨by omega,rfl⟩ .refl
 intro m ds y
 refine ay ?_
 refine aX Pick.here fun i=>aB Pick.here ?_
 refine ay ?_
 refine aT Pick.here fun hi=>?_
 obtain⟨hmi,rfl⟩:=hi
 refine aF aI .nil (fun h=>?_) (fun h=>?_)
 ·have hil:i<l.length:=by omega
  refine ab ?_
  have hcl:((l.take i).map j6++l.drop i).length=l.length:=by simp;omega
  have hget:((((l.take i).map j6++l.drop i).map B++rest).toArray)[i]? =some (B l[i]):=by
   simp[List.getElem?_append,hil,Nat.min_eq_left (Nat.le_of_lt hil)]
   intro h0;omega
  refine o_ (bA i rfl hil) ?_
  rw[Nat.zero_add]
  refine am (iA hget) (.pick .here .nil) ?_
  have hc:=(l[i]).toNat_lt
  refine o_ (dL (l[i]).toNat rfl hc) ?_
  rw[Nat.zero_add,Nat.mul_one]
  refine am (iA (jC hc)) (.pick (.there .here) .nil) ?_
  refine o_ ur ?_
  have step:∀x,x=j6 l[i]->(((l.take i).map j6++l.drop i).map B++rest).toArray.setIfInBounds i (B x)=(((l.take (i+1)).map j6++l.drop (i+1)).map B++rest).toArray:=by
   intro x hx
   subst hx
   rw[List.setIfInBounds_toArray]
   congr 1
   rw[dr hil,List.take_succ_eq_append_getElem hil]
   rw[List.map_append,List.map_append,List.map_append,List.map_append]
   have hk:(List.map B (List.map j6 (List.take i l))).length=i:=by simp;omega
   rw[List.append_assoc,List.append_assoc,List.append_assoc,List.set_append,if_neg (by rw[hk];omega),hk,Nat.sub_self]
   rfl
  refine aF eS .nil (fun h=>?_) (fun h=>?_)
  ·have h65:=(RI l[i]).1 h
   have hlo:j6 l[i]=l[i]+32:=if_pos h65
   have hn:(j6 l[i]).toNat=(l[i]).toNat+32:=by
    rw[hlo,UInt8.toNat_add]
    have:=UInt8.le_iff_toNat_le.1 h65.2
    simp only[show(90:UInt8).toNat=90 from rfl]at this
    simp only[show(32:UInt8).toNat=32 from rfl]
    omega
   refine ab (o_ Eb ?_)
   rw[show IntKind.u8.wrap ((l[i].toNat:Int)+32)=((j6 l[i]).toNat:Int) by
    rw[hn]
    have:=UInt8.le_iff_toNat_le.1 h65.2
    simp only[show(90:UInt8).toNat=90 from rfl]at this
    simp[IntKind.wrap,IntKind.signed,IntKind.bits];omega]
   refine o_ (bA i rfl hil) ?_
   rw[Nat.zero_add]
   refine RD (v:=B (j6 l[i])) .here (by simp;omega) (by simp;omega) ?_
   rw[step _ rfl]
   refine bW ?_
   refine aP (m-1) (by omega) (.ex (i+1) (.all ?_))
   refine ay ?_
   exact .pu ⟨by omega,rfl⟩ .refl
  ·have hlo:j6 l[i]=l[i]:=if_neg (fun c=>h ((RI l[i]).2 c))
   refine aa ?_
   have e2:(((l.take i).map j6++l.drop i).map B++rest).toArray=(((l.take (i+1)).map j6++l.drop (i+1)).map B++rest).toArray:=by
    rw[<- step _ hlo.symm]
    refine Array.ext_getElem? fun j=>?_
    rw[Array.getElem?_setIfInBounds]
    by_cases hj:i=j
    ·subst hj
     rw[if_pos rfl,hget,if_pos (by simp;omega)]
    ·rw[if_neg hj]
   rw[e2]
   refine bW ?_
   refine aP (m-1) (by omega) (.ex (i+1) (.all ?_))
   refine ay ?_
   exact .pu ⟨by omega,rfl⟩ .refl
 ·have hie:i=l.length:=by omega
  subst hie
  refine aa ?_
  rw[List.take_length,List.drop_length,List.append_nil]
  have hrd:=Og (W:=W) (g:=g) (e:=5) (fz:=(l.length+rest.length,l.length+rest.length+1)) (cs:=(dt l).map B) (rest:=rest)
  have e1:((dt l).map B).length=l.length:=by simp[dt]
  rw[e1]at hrd
  refine am (ph (l:=dt l) hrd (by intro h;cases h)) (.pick .here .nil) ?_
  refine bC () ?_
  exact aC
def Bn (n:Nat)(f:Nat->Bool):Array Value:=((List.range n).map fun j=>Value.bool (f j)).toArray
theorem gH (n:Nat)(f:Nat->Bool):(Bn n f).size=n:=by simp[Bn]
theorem AE {n j:Nat}{f:Nat->Bool}(h:j<n):(Bn n f)[j]? =some (.bool (f j)):=by simp[Bn,h]
theorem wO {n:Nat}{f g:Nat->Bool}(h:∀j,j<n->f j=g j):Bn n f=Bn n g:=by
 unfold Bn
 congr 1
 exact List.map_congr_left fun j hj=>by rw[h j (List.mem_range.1 hj)]
theorem Ov {n j:Nat}{f:Nat->Bool}{v:Bool}:(Bn n f).setIfInBounds j (.bool v)=Bn n fun i=>if i=j then v else f i:=by
 apply Array.ext_getElem?
 intro i
 rw[Array.getElem?_setIfInBounds,gH]
 by_cases c:j=i
 ·subst c
  rw[if_pos rfl]
  by_cases h:j<n
  ·rw[if_pos h,AE h];simp
  ·rw[if_neg h,Array.getElem?_eq_none (by rw[gH];omega)]
 ·rw[if_neg c]
  by_cases h:i<n
  ·rw[AE h,AE h,if_neg (fun e=>c e.symm)]
  ·rw[Array.getElem?_eq_none (by rw[gH];omega),Array.getElem?_eq_none (by rw[gH];omega)]
theorem Is {n:Nat}{f:Nat->Bool}:∀u∈(Bn n f).toList,u.oneCell'=true:=by
 intro u hu
 simp only[Bn]at hu
 obtain⟨j,_,rfl⟩:=List.mem_map.1 hu
 rfl
instance TU:ZeroT p_ 135 (.agg (Bn 256 fun _=>false)):=⟨fun w=>(Tryz.zeroValue135 w).trans (by
 have:Tryz.zeroCells135=Bn 256 fun _=>false:=by kernel_rfl
 rw[this])⟩
def GN (j:Nat):Bool:=decide (j=32\/j=9)
theorem RJ (c:UInt8):GN c.toNat=m7 c:=by
 refine Ik (p:=fun c=>GN c.toNat=m7 c) ?_ c
 decide+kernel
theorem Lq {W:World}:Cn p_ 91 [bo [32,9]] W [] (fun _:Unit=> .tuple #[.agg (Bn 256 GN),.bool true]) (fun _=>[]):=by
 (refine S.lS.cn fun F=>?_;unfold S.iH;simp only[ca_,na_])
 refine bm fun b=>?_
 refine bj (fun m y=>[ex fun i:Nat=>all [pu (m+i=2/\y= .int .i64 (i:Int)),pt b (.cells (Bn 256 fun j=>decide ((j=32/\0<i)\/(j=9/\1<i))) 135 (0,0))]]++F) 2 ?_ ?_
 ·refine Imp.ex 0 (.all ?_)
  refine ay ?_
  refine .pu ⟨by omega,rfl⟩ ?_
  have e:(Bn 256 fun j=>decide ((j=32/\0<0)\/(j=9/\1<0)))=Bn 256 fun _=>false:=wO fun j _=>by simp
  rw[e]
  exact .refl
 intro m ds y
 refine ay ?_
 refine aX Pick.here fun i=>aB Pick.here ?_
 refine ay ?_
 refine aT Pick.here fun hi=>?_
 obtain⟨hmi,rfl⟩:=hi
 refine o_ cp (aF aI .nil (fun h=>?_) (fun h=>?_))
 ·have hil:i<([32,9]:List UInt8).length:=Int.ofNat_lt.1 h
  have hi2:i<2:=hil
  refine ab ?_
  have step:∀(c:UInt8),([32,9]:List UInt8)[i]? =some c->c.toNat<128->(Bn 256 fun j=>if j=c.toNat then true else decide ((j=32/\0<i)\/(j=9/\1<i)))=(Bn 256 fun j=>decide ((j=32/\0<i+1)\/(j=9/\1<i+1))):=by
   intro c hc _
   refine wO fun j _=>?_
   have:i=0\/i=1:=by omega
   rcases this with rfl|rfl
   ·have:c=32:=by simpa using hc.symm
    subst this
    by_cases h1:j=32 <;> simp[h1]
   ·have:c=9:=by simpa using hc.symm
    subst this
    by_cases h1:j=9 <;> simp[h1]
  have hc:([32,9]:List UInt8)[i].toNat<128:=by
   have:i=0\/i=1:=by omega
   rcases this with rfl|rfl
   ·show(32:UInt8).toNat<128
    decide
   ·show(9:UInt8).toNat<128
    decide
  refine o_ (iY (l:=[32,9]) i rfl hil) ?_
  have hstep:=step _ (List.getElem?_eq_getElem hil) hc
  obtain⟨c,hce⟩:∃c,c=([32,9]:List UInt8)[i]:=⟨_,rfl⟩
  rw[<- hce]at hstep hc ⊢
  refine o_ (dg (q:= .u8) (a:=(c.toNat:Int)) (b:=128)) ?_
  rw[dF_ (by omega)]
  refine aa (o_ (dL c.toNat rfl (by omega)) ?_)
  rw[Nat.zero_add,Nat.mul_one]
  refine pQ .here (by rw[gH];omega) ?_
  rw[Ov,hstep]
  refine bW ?_
  refine aP (m-1) (by omega) (.ex (i+1) (.all ?_))
  refine ay ?_
  exact .pu ⟨by omega,rfl⟩ .refl
 ·have hi2:i=2:=by simp at h;omega
  subst hi2
  refine aa ?_
  have e:(Bn 256 fun j=>decide ((j=32/\0<2)\/(j=9/\1<2)))=Bn 256 GN:=wO fun j _=>by simp[GN]
  rw[e]
  refine am (bP (gH 256 _)) (.pick .here .nil) ?_
  refine bY .here (gH 256 _) (gH 256 _) Is ?_
  refine aQ (cN (gH 256 _)) (.pick .here .nil) ?_
  refine bC () ?_
  exact aC
theorem contains {W:World}{g:Nat}{c:UInt8}:Cn p_ 126 [.pointer (some ⟨g,0,none⟩),Sl.B c] W [pt g (.cells (Bn 256 GN) 135 (0,0))] (fun _:Unit=> .bool (m7 c)) (fun _=>[pt g (.cells (Bn 256 GN) 135 (0,0))]):=by
 (refine S.jd.cn fun F=>?_;unfold S.fh;simp only[ca_,na_])
 refine o_ aW ?_
 have hc:=c.toNat_lt
 refine o_ (dL c.toNat rfl hc) ?_
 rw[Nat.zero_add,Nat.mul_one]
 refine am (iA (AE hc)) (.pick .here .nil) ?_
 rw[RJ]
 refine bC () ?_
 exact aC
theorem Iu {W:World}{g:Nat}{l:List UInt8}(hl:l.length<=4611686018427387904):Cn p_ 92 [bo l,.pointer (some ⟨g,0,none⟩)] W [pt g (.cells (Bn 256 GN) 135 (0,0))] (fun _:Unit=>bo (pm l)) (fun _=>[pt g (.cells (Bn 256 GN) 135 (0,0))]):=by
 (refine S.k8.cn fun F=>?_;unfold S.ie;simp only[ca_,na_])
 refine bj (fun m y=>[ex fun u:List UInt8=>all [pu (m=u.length/\y=bo u/\pm u=pm l/\u.length<=l.length),pt g (.cells (Bn 256 GN) 135 (0,0))]]++F) l.length ?_ ?_
 ·refine Imp.ex l (.all ?_)
  refine ay ?_
  exact .pu ⟨rfl,rfl,rfl,Nat.le_refl _⟩ .refl
 intro m ds y
 refine ay ?_
 refine aX Pick.here fun u=>aB Pick.here ?_
 refine ay ?_
 refine aT Pick.here fun hi=>?_
 obtain⟨hmi,rfl,htr,hul⟩:=hi
 refine o_ cp (aF bq .nil (fun h=>?_) (fun h=>?_))
 ·have h0:0<u.length:=by omega
  refine ab (o_ (iY 0 rfl h0) ?_)
  refine c_ contains fun _=>?_
  refine o_ g_ ?_
  cases hb:m7 u[0]with
  |true=>
   refine aa (o_ (v_ 1 rfl (by omega)) ?_)
   refine aP (m-1) (by omega) (.ex (u.drop 1) (.all ?_))
   refine ay ?_
   refine .pu ⟨by rw[List.length_drop];omega,rfl,(Ll h0 hb).symm.trans htr,by rw[List.length_drop];omega⟩ ?_
   exact aC
  |false=>
   refine ab ?_
   rw[<- htr,Lm h0 hb]
   refine bC () ?_
   exact aC
 ·have h0:u=[]:=List.eq_nil_of_length_eq_zero (by omega)
  subst h0
  refine aa ?_
  rw[<- htr]
  refine bC () ?_
  exact aC
theorem GO {W:World}{g:Nat}{l:List UInt8}(hl:l.length<=4611686018427387904):Cn p_ 93 [bo l,.pointer (some ⟨g,0,none⟩)] W [pt g (.cells (Bn 256 GN) 135 (0,0))] (fun _:Unit=>bo (kc l)) (fun _=>[pt g (.cells (Bn 256 GN) 135 (0,0))]):=by
 (refine S.kH.cn fun F=>?_;unfold S.gC;simp only[ca_,na_])
 refine bj (fun m y=>[ex fun u:List UInt8=>all [pu (m=u.length/\y=bo u/\kc u=kc l/\u.length<=l.length),pt g (.cells (Bn 256 GN) 135 (0,0))]]++F) l.length ?_ ?_
 ·refine Imp.ex l (.all ?_)
  refine ay ?_
  exact .pu ⟨rfl,rfl,rfl,Nat.le_refl _⟩ .refl
 intro m ds y
 refine ay ?_
 refine aX Pick.here fun u=>aB Pick.here ?_
 refine ay ?_
 refine aT Pick.here fun hi=>?_
 obtain⟨hmi,rfl,htr,hul⟩:=hi
 refine o_ cp (aF bq .nil (fun h=>?_) (fun h=>?_))
 ·obtain⟨n,hn⟩:∃n,u.length=n+1:=⟨u.length-1,by omega⟩
  refine ab (o_ cp (fI ?_))
  refine o_ (iY n (by omega) (by omega)) ?_
  refine c_ contains fun _=>?_
  refine o_ g_ ?_
  cases hb:m7 (u[n]'(by omega))with
  |true=>
   refine aa (o_ cp (fI ?_))
   refine o_ (v9 n (by omega) (by omega)) ?_
   refine aP (m-1) (by omega) (.ex (u.take n) (.all ?_))
   refine ay ?_
   refine .pu ⟨by rw[List.length_take];omega,rfl,(Lj hn hb).symm.trans htr,by rw[List.length_take];omega⟩ ?_
   exact aC
  |false=>
   refine ab ?_
   rw[<- htr,Lk hn hb]
   refine bC () ?_
   exact aC
 ·have h0:u=[]:=List.eq_nil_of_length_eq_zero (by omega)
  subst h0
  refine aa ?_
  rw[<- htr]
  refine bC () ?_
  exact aC
theorem GP (l:List UInt8):(kc l).length<=l.length:=by
 have h2:=(List.dropWhile_sublist (p:=m7) (l:=l.reverse)).length_le
 unfold kc
 rw[List.length_reverse]at h2 ⊢
 exact h2
theorem RK {W:World}{l:List UInt8}(hl:l.length<=4611686018427387904):Cn p_ 59 [bo l,bo [32,9]] W [] (fun _:Unit=>bo (cf l)) (fun _=>[]):=by
 (refine S.wA.cn fun F=>?_;unfold S.rg;simp only[ca_,na_])
 have e0:(Value.string ⟨#[]⟩)=bo []:=rfl
 rw[e0]
 refine aF dE .nil (fun h=>?_) (fun h=>?_)
 ·subst h
  refine aA (aA (o_ aq (ab (bC () ?_))))
  exact aC
 ·(refine ag ?_);refine ag ?_
  refine o_ dE ?_
  rw[dF_ (by decide)]
  refine o_ ap (aa (o_ cp (o_ bF ?_)))
  rw[dF_ (by decide)]
  refine ah (ah (ah (o_ ap (aa (c_ Lq fun _=>?_)))))
  refine o_ (bJ (vs:=[_,_]) .here) ?_
  refine o_ (bJ (vs:=[_,_]) (.there .here)) ?_
  refine bm fun b=>?_
  refine bY .here (gH 256 _) (gH 256 _) Is ?_
  refine ab (c_ (GO hl) fun _=>?_)
  refine c_ (Iu (Nat.le_trans (GP l) hl)) fun _=>?_
  refine bC () ?_
  exact aC
theorem Cu {W:World}{l:List UInt8}(hl:l.length<=4611686018427387904):Cn p_ 41 [bo l] W [] (fun _:Unit=>bo (cf l)) (fun _=>[]):=by
 (refine S.Au.cn fun F=>?_;unfold S.ww;simp only[ca_,na_])
 have e0:(Value.string ⟨#[32,9]⟩)=bo [32,9]:=rfl
 rw[e0]
 refine c_ (RK hl) fun _=>?_
 refine bC () ?_
 exact aC
theorem Ep {c:UInt8}:∀ {l:List UInt8},(c∈l->sX c l=true/\l.take (l.findIdx (· ==c))=cC c l/\l.drop (l.findIdx (· ==c)+1)=cL c l)/\(c∉l->sX c l=false/\cC c l=l/\cL c l=[])
 |[]=>⟨fun h=>(by cases h),fun _=>⟨rfl,rfl,rfl⟩⟩
 |x::r=>by
  have ih:=Ep (c:=c) (l:=r)
  by_cases hx:x=c
  ·subst hx
   refine⟨fun _=>?_,fun h=>absurd (List.mem_cons_self) h⟩
   simp[sX,cC,cL,List.findIdx_cons]
  ·have hb:(x==c)=false:=by simpa using hx
   refine⟨fun h=>?_,fun h=>?_⟩
   ·have hr:c∈r:=by
     rcases List.mem_cons.1 h with h|h
     ·exact absurd h.symm hx
     ·exact h
    obtain⟨i1,i2,i3⟩:=ih.1 hr
    simp[sX,cC,cL,List.findIdx_cons,hx,hb,i1,i2,i3]
   ·obtain⟨i1,i2,i3⟩:=ih.2 (fun c=>h (List.mem_cons_of_mem _ c))
    simp[sX,cC,cL,hx,i1,i2,i3]
theorem Ow {W:World}{l:List UInt8}{c:UInt8}(hl:l.length<=4611686018427387904):Cn p_ 88 [bo l,bo [c]] W [] (fun _:Unit=> .int .i64 (BN l c)) (fun _=>[]):=by
 (refine S.oX.cn fun F=>?_;unfold S.km;simp only[ca_,na_])
 refine o_ cp (o_ bF ?_)
 rw[dF_ (by simp)]
 refine ag (ag (ag (aF dE .nil (fun h=>?_) (fun h=>?_))))
 ·subst h
  refine o_ ap (ab ?_)
  have:BN [c] c=0:=by simp[BN]
  rw[this]
  refine bC () ?_
  exact aC
 ·(refine o_ ap ?_);refine aa ?_
  refine o_ bF ?_
  rw[dT_ (by simp)]
  refine ab (o_ (iY (l:=[c]) 0 rfl (by simp)) ?_)
  rw[show([c]:List UInt8)[0]'(by simp)=c from rfl]
  refine c_ wN fun _=>?_
  refine bC () ?_
  exact aC
theorem RL {W:World}{l:List UInt8}{c:UInt8}(hl:l.length<=4611686018427387904):Cn p_ 57 [bo l,bo [c]] W [] (fun _:Unit=> .tuple #[bo (cC c l),bo (cL c l),.bool (sX c l)]) (fun _=>[]):=by
 (refine S.rf.cn fun F=>?_;unfold S.mj;simp only[ca_,na_])
 refine c_ (Ow hl) fun _=>?_
 have hcx:=Ep (c:=c) (l:=l)
 refine aF dg .nil (fun h=>?_) (fun h=>?_)
 ·have hm:=tK.1 h
  obtain⟨h1,h2,h3⟩:=hcx.1 hm
  have hlt:l.findIdx (· ==c)<l.length:=List.findIdx_lt_length_of_exists ⟨c,hm,by simp⟩
  rw[show BN l c=((l.findIdx (· ==c):Nat):Int)from if_pos hm]
  refine ab (bM (t_ (v9 (l.findIdx (· ==c)) rfl (by omega)) ?_))
  refine t_ cp (t_ (ct (by simp;omega) (by simp;omega)) ?_)
  refine t_ (v_ (l.findIdx (· ==c)+1) (by simp) (by omega)) ?_
  rw[h2,h3,h1]
  refine bC () ?_
  exact aC
 ·obtain⟨h1,h2,h3⟩:=hcx.2 (fun c=>h (tK.2 c))
  refine aa ?_
  rw[h1,h2,h3]
  have e0:(Value.string ⟨#[]⟩)=bo []:=rfl
  rw[e0]
  refine bC () ?_
  exact aC
theorem Lr {W:World}{l:List UInt8}{c:UInt8}(hl:l.length<=4611686018427387904):Cn p_ 39 [bo l,bo [c]] W [] (fun _:Unit=> .tuple #[bo (cC c l),bo (cL c l),.bool (sX c l)]) (fun _=>[]):=by
 (refine S.yC.cn fun F=>?_;unfold S.uD;simp only[ca_,na_])
 refine c_ (RL hl) fun _=>?_
 refine iC ?_;refine iC ?_;refine iC ?_
 refine bC () ?_
 exact aC
def d8 (a b:List UInt8):Bool:=decide (a.length=b.length)&&decide (dt a=dt b)
theorem equal {W:World}{a b:List UInt8}(ha:a.length<=4611686018427387904)(hb:b.length<=4611686018427387904):Cn p_ 20 [bo a,bo b] W [] (fun _:Unit=> .bool (d8 a b)) (fun _=>[]):=by
 (refine S.yx.cn fun F=>?_;unfold S.uy;simp only[ca_,na_])
 refine o_ cp (o_ cp (aF bF .nil (fun h=>?_) (fun h=>?_)))
 ·have e:d8 a b=decide (dt a=dt b):=by unfold d8;rw[dT_ (by omega)];rfl
  rw[e]
  refine ag (ag (c_ (rP ha) fun _=>?_))
  refine ag (ag (c_ (rP hb) fun _=>?_))
  refine ag (o_ dE (o_ aq (bC () ?_)))
  exact aC
 ·have e:d8 a b=false:=by unfold d8;rw[dF_ (by omega)];rfl
  rw[e]
  refine ah (ah (ah (ah (ah (o_ ap (bC () ?_))))))
  exact aC
theorem Ox {W:World}{l:List UInt8}(hl:l.length<=4611686018427387904):Cn p_ 60 [bo l,bo [87,47]] W [] (fun _:Unit=> .bool (mf l)) (fun _=>[]):=by
 (refine S.fU.cn fun F=>?_;unfold S.eF;simp only[ca_,na_])
 refine o_ cp (o_ cp (aF dg .nil (fun h=>?_) (fun h=>?_)))
 ·have h2:2<=l.length:=Int.ofNat_le.1 h
  refine ag (ag (ag (o_ cp (ag (o_ (v9 2 rfl h2) ?_)))))
  refine ag (ag (o_ dE ?_))
  have e:decide (l.take 2=[87,47])=mf l:=by
   unfold mf
   rw[Bool.eq_iff_iff];simp
  rw[e]
  refine o_ aq (bC () ?_)
  exact aC
 ·have h2:l.length<2:=by simp at h;omega
  refine ah (ah (ah (ah (ah (ah (o_ ap ?_))))))
  have e:mf l=false:=by
   unfold mf
   cases hx:(l.take 2==[87,47])with
   |false=>rfl
   |true=>
    have:=congrArg List.length (by simpa using hx:l.take 2=[87,47])
    simp at this;omega
  rw[e]
  refine bC () ?_
  exact aC
theorem Ls {W:World}{l:List UInt8}(hl:l.length<=4611686018427387904):Cn p_ 99 [bo l,bo [87,47]] W [] (fun _:Unit=> .tuple #[bo (pR l),.bool (mf l)]) (fun _=>[]):=by
 (refine S.k9.cn fun F=>?_;unfold S.ig;simp only[ca_,na_])
 refine c_ (Ox hl) fun _=>?_
 refine o_ g_ ?_
 cases h:mf l with
 |true=>
  have h2:2<=l.length:=by
   unfold mf at h
   have:=congrArg List.length (by simpa using h:l.take 2=[87,47])
   simp at this;omega
  refine aa (o_ cp (o_ (v_ 2 rfl h2) ?_))
  rw[show pR l=l.drop 2 by unfold pR;rw[if_pos h]]
  refine bC () ?_
  exact aC
 |false=>
  refine ab ?_
  rw[show pR l=l by unfold pR;rw[h];rfl]
  refine bC () ?_
  exact aC
theorem Oy {W:World}{l:List UInt8}(hl:l.length<=4611686018427387904):Cn p_ 64 [bo l,bo [87,47]] W [] (fun _:Unit=> .tuple #[bo (pR l),.bool (mf l)]) (fun _=>[]):=by
 (refine S.oW.cn fun F=>?_;unfold S.kl;simp only[ca_,na_])
 refine c_ (Ls hl) fun _=>?_
 refine iC ?_;refine iC ?_
 refine bC () ?_
 exact aC
section
variable {P:Program} {W:World} {L L':List HP} {Kp:PK} {k:Value->WP}
theorem AF {a b:Bool}(h:be W L (k (.bool (a&&b)))):be W L (gdK (.bool a) true (fun k=>k (.bool b)) fun x2=>opN P (aK (.bool a) x2 (.bool false)) Kp k):=by
 cases a with
 |true=>
  refine ag (o_ aq ?_)
  simpa using h
 |false=>
  refine ah (o_ ap ?_)
  simpa using h
theorem AG {a b:Bool}{A:List HP}{s1:Sem Next}{v1:Value}{s2:Value->Sem Next}(h1:bb P W [] s1 v1)(h2:bb P W A (s2 v1) (.bool b))(i:Imp W L A)(h:be W L (k (.bool (a&&b)))):
  be W L (gdK (.bool a) true (opN P s1 Kp) fun x=>gdK (.bool a) true (opN P (s2 x) Kp) fun x2=>opN P (aK (.bool a) x2 (.bool false)) Kp k):=by
 cases a with
 |true=>
  refine ag (o_ h1 ?_)
  refine ag (am h2 i ?_)
  refine o_ aq ?_
  simpa using h
 |false=>
  refine ah (ah (o_ ap ?_))
  simpa using h
theorem qi {φ:Prop}[Decidable φ]{b:Bool}{X Y:WP}(hb:b=decide φ)(ht:φ->be W L X)(hf:¬φ->be W L Y):be W L (condS (.bool b) X Y):=by
 subst hb
 by_cases h:φ
 ·rw[dT_ h];exact ab (ht h)
 ·rw[dF_ h];exact aa (hf h)
theorem Eq {t:TypeId}{l:List UInt8}{q r:IntKind}{i j:Int}(a b:Nat)[ht:StrT P t](hi:i=(a:Int))(hj:j=(b:Int))(hab:a<=b)(hb:b<=l.length):bb P W [] (eo t (bo l) (some (.int q i)) (some (.int r j)) none) (bo (sub l a b)):=fun w _=>by
 have e:(⟨l.toArray⟩:ByteArray).size=l.length:=rfl
 have e2:(⟨l.toArray⟩:ByteArray).extract a b=⟨(sub l a b).toArray⟩:=by
  apply ByteArray.ext
  rw[ByteArray.data_extract]
  simp[sub]
 simp[eo,Instr.sliceAt,Instr.slice,Instr.sliceBounds,run_underlying ht.ut,bo,e,sW b hj hb,sW a hi hab,e2]
theorem wP {t:TypeId}{ox oy:Operand}{c:UInt8}{n:Int}(d:UInt8)(hn:n=(d.toNat:Int)):bb P W [] (b_ .eql t ox oy (Sl.B c) (.int .u8 n)) (.bool (decide (c=d))):=by
 have e:decide (c=d)=decide ((c.toNat:Int)=n):=by
  rw[decide_eq_decide,hn]
  constructor
  ·rintro rfl;rfl
  ·intro h
   exact UInt8.toNat_inj.1 (by omega)
 rw[e]
 exact bF
theorem Lt {t:TypeId}{ox oy:Operand}{c:UInt8}{n:Int}(d:UInt8)(hn:n=(d.toNat:Int)):bb P W [] (b_ .neq t ox oy (Sl.B c) (.int .u8 n)) (.bool (decide (c≠d))):=by
 have e:decide (c≠d)=decide ((c.toNat:Int)≠n):=by
  rw[decide_eq_decide,hn]
  constructor
  ·intro h1 h2
   exact h1 (UInt8.toNat_inj.1 (by omega))
  ·rintro h rfl
   exact h rfl
 rw[e]
 exact eS
end
theorem rQ (q e:Bool):∀(n:Nat) (l:List UInt8),l.length<=n->∀(inn:Bool) (gJ p:List UInt8),p∈DJ q e inn gJ l->p.length<=gJ.length+l.length
 |_,[],_,inn,gJ,p,h=>by
  have:p=gJ:=by simpa [DJ]using h
  subst this;simp
 |n+1,c::r,hn,inn,gJ,p,h=>by
  have hr:r.length<=n:=by simpa using hn
  rw[kW]at h
  split at h
  ·cases r with
   |nil=>
    have:p=gJ++[c]:=by simpa using h
    subst this;simp
   |cons d r'=>
    have:=rQ q e n r' (by simp at hr;omega) _ _ _ h
    simp at this ⊢;omega
  ·split at h
   ·have:=rQ q e n r hr _ _ _ h
    simp at this ⊢;omega
   ·split at h
    ·rcases List.mem_cons.1 h with h|h
     ·subst h;simp
     ·have:=rQ q e n r hr _ _ _ h
      simp at this ⊢;omega
    ·have:=rQ q e n r hr _ _ _ h
     simp at this ⊢;omega
theorem zm {q e:Bool}{l w:List UInt8}(h:w∈bp q e l):w.length<=l.length:=by
 obtain⟨_,v,hv,rfl⟩:=Ii h
 have:=rQ q e _ _ (Nat.le_refl _) _ _ _ hv
 have h2:=m9 v
 simp[sub]at this
 omega
theorem rS (q e:Bool):∀(n:Nat) (l:List UInt8),l.length<=n->∀(inn:Bool) (gJ:List UInt8),(DJ q e inn gJ l).length<=l.length+1
 |_,[],_,inn,gJ=>by simp[DJ]
 |n+1,c::r,hn,inn,gJ=>by
  have hr:r.length<=n:=by simpa using hn
  rw[kW]
  split
  ·cases r with
   |nil=>simp
   |cons d r'=>
    have:=rS q e n r' (by simp at hr;omega) inn (gJ++[c,d])
    simp;omega
  ·split
   ·have:=rS q e n r hr (!inn) (gJ++[c])
    simp;omega
   ·split
    ·have:=rS q e n r hr false []
     simp;omega
    ·have:=rS q e n r hr inn (gJ++[c])
     simp;omega
theorem oH {q e:Bool}{l:List UInt8}:(bp q e l).length<=l.length+1:=by
 have h1:=Ih (Ao l q e false 0 0)
 have h2:=rS q e _ (l.drop 0) (Nat.le_refl _) false (sub l 0 0)
 rw[List.length_drop]at h2
 unfold bp
 unfold Ao at h1 ⊢
 omega
theorem vy {α:Type}{xs r:List α}{k:Nat}{x:α}(h:xs.drop k=x::r):xs[k]? =some x/\xs.drop (k+1)=r/\k<xs.length:=by
 have hk:k<xs.length:=by
  rcases Nat.lt_or_ge k xs.length with c|c
  ·exact c
  ·rw[List.drop_of_length_le c]at h;cases h
 rw[List.drop_eq_getElem_cons hk]at h
 injection h with h1 h2
 exact⟨by rw[List.getElem?_eq_getElem hk,h1],h2,hk⟩
def KX (q e:Bool)(l:List UInt8):List (List Value):=(bp q e l).map fun w=>[bo w]
theorem tL {q e:Bool}{l w:List UInt8}{k:Nat}(h:(bp q e l)[k]? =some w):(KX q e l)[k]? =some [bo w]:=by simp[KX,h]
theorem oI {q e:Bool}{l:List UInt8}:(KX q e l).length=(bp q e l).length:=by simp[KX]
end FD
namespace FD
open Go Go.Proofs Go.RowKit Sh Sl T
theorem Iv:(p_.info? 121).map (·.size)=some 2:=by kernel_rfl
theorem Oz:liesAt p_ p_.depth 121 (2 / p_.cellsOf 121) 0 121 1=true:=by kernel_rfl
set_option maxHeartbeats 1000000 in
set_option maxRecDepth 100000 in
theorem Lu (b:Nat)(w:World)(h0:w.cell? ⟨b,0,none⟩=some (.pointer (some ⟨b,0,none⟩))):
  Calls p_ 114 #[.pointer (some ⟨b,0,none⟩)] w fun e w'=>e= .returned (.tuple #[])/\w'=w:=by
 obtain⟨j,hj,_⟩:=Option.map_eq_some_iff.1 Iv
 go_enter Tryz.func114,Tryz.ntmps114
 go_wp2
 rw[Lib.run_neq_ptr_same w _ Tryz.underlying119 hj]
 go_wp2
 go_end0
 exact⟨rfl,rfl⟩
set_option maxHeartbeats 1000000 in
set_option maxRecDepth 100000 in
theorem Iw (b:Nat)(w:World)(h0:w.cell? ⟨b,0,none⟩=some (.pointer none))(hsh:w.shape? b=some (121,2))(hfz:w.frozen? ⟨b,0,none⟩=false):
  Calls p_ 114 #[.pointer (some ⟨b,0,none⟩)] w fun e w'=>e= .returned (.tuple #[])/\w'=w.setCell ⟨b,0,none⟩ (.pointer (some ⟨b,0,none⟩)):=by
 obtain⟨j,hj,hjs⟩:=Option.map_eq_some_iff.1 Iv
 go_enter Tryz.func114,Tryz.ntmps114
 go_wp2
 rw[Lib.run_to_unsafe w ⟨b,0,none⟩ Tryz.underlying119 Tryz.underlying216 hj (by rw[hjs];decide) hsh (Nat.zero_lt_succ 1)]
 simp only[Result.andThen]
 rw[Oper.upon_value]
 go_wp2
 rw[run_callFunc_extern Tryz.func158 (by kernel_rfl) (by kernel_rfl) (by kernel_rfl) (e:=Extern.AbiNoEscape.same) (by kernel_rfl)]
 rw[Lib.run_noEscape]
 simp only[Result.andThen]
 rw[Oper.upon_value]
 go_wp2
 rw[Lib.run_from_unsafe w ⟨b,0,none⟩ Tryz.underlying216 Tryz.underlying119 hj hsh Oz]
 simp only[Result.andThen]
 rw[Oper.upon_value]
 go_wp2
 go_end0
 exact⟨rfl,rfl⟩
def bd (b:Nat)(r:Option Addr × Nat)(l:List UInt8):HP:=all [pt b (.cells #[.pointer (some ⟨b,0,none⟩),.slice r.1 l.length r.2] 121 (0,0)),Sl 1 5 r.1 r.2 l.length (l.map B)]
theorem OA {W : World} {b : Nat} {v : Value} : Cn p_ 114 [.pointer (some ⟨b, 0, none⟩)] W [pt b (.cells #[.pointer none, v] 121 (0, 0))] (fun _ : Unit => .tuple #[]) (fun _ => [pt b (.cells #[.pointer (some ⟨b, 0, none⟩), v] 121 (0, 0))]) :=
 ⟨Tryz.call114, fun F w hw => (Iw b w (by rw [(show sat W (pt b _ :: F) w from hw).cell]; rfl) (by rw [World.shape?, (show sat W (pt b _ :: F) w from hw).pt_.1]; rfl) (show sat W (pt b _ :: F) w from hw).free).mono fun e w' ⟨he, hb⟩ => ⟨(), he, by
  rw [hb]
  exact (show sat W (pt b _ :: F) w from hw).setCell (o := 0) (.pointer (some ⟨b, 0, none⟩))⟩⟩
theorem OB {W:World}{b:Nat}{v:Value}:Cn p_ 114 [.pointer (some ⟨b,0,none⟩)] W [pt b (.cells #[.pointer (some ⟨b,0,none⟩),v] 121 (0,0))] (fun _:Unit=> .tuple #[]) (fun _=>[pt b (.cells #[.pointer (some ⟨b,0,none⟩),v] 121 (0,0))]):=
 ⟨Tryz.call114,fun F w hw=>(Lu b w (by rw[(show sat W (pt b _::F) w from hw).cell];rfl)).mono fun e w' ⟨he,hb⟩=>⟨(),he,by rw[hb];exact hw⟩⟩
set_option maxHeartbeats 2000000 in
set_option maxRecDepth 100000 in
theorem Lv (b g cap:Nat) (gJ:Array Value) (l:List UInt8) (w:World) (hb:w.cell? ⟨b,1,none⟩=some (.slice (some ⟨g,0,none⟩) l.length cap)) (hg:w.heap[g]? =some (.cells gJ 5 (0,0))) (h0:l≠[]) (hc:l.length<=cap) (hcs:cap<=gJ.size) (hcm:cap<=maxLen)
  (hcell:∀j x,l[j]? =some x->w.cell? ⟨g,j,none⟩=some (B x)):
  Calls p_ 83 #[.pointer (some ⟨b,0,none⟩)] w fun e w'=>e= .returned (.string ⟨l.toArray⟩)/\w'=w.drew.freeze ⟨g,0,none⟩ l.length:=by
 have hl0:l.length≠0:=by simpa using h0
 have c1:w.drew.cell? ⟨b,1,none⟩=some (.slice (some ⟨g,0,none⟩) l.length cap):=hb
 have hSD:(Builtin.unsafeSliceData_ #[23] 165 #[.slice (some ⟨g,0,none⟩) l.length cap]).run p_ w.drew= .ok (.pointer (some ⟨g,0,none⟩)) w.drew:=
  Lib.run_unsafeSliceData_row _ _ _ _ _ _ (by omega)
 have hUS:(Builtin.unsafeString_ #[165,3] 9 #[.pointer (some ⟨g,0,none⟩),.int .i64 l.length]).run p_ w.drew= .ok (.string ⟨l.toArray⟩) (w.drew.freeze ⟨g,0,none⟩ l.length):=by
  refine Lib.run_unsafeString_row w.drew 165 3 9 5 Tryz.underlying165 (by kernel_rfl) g gJ.size (by have hg':w.drew.heap[g]? =some (.cells gJ 5 (0,0)):=hg;simp[World.shape?,hg']) l h0 (by omega) (by unfold maxLen at hcm;omega) ?_
  intro j x hx
  rw[db,Nat.zero_add]
  exact hcell j x hx
 have mixed:=S.wide
 go_enter Tryz.func83,Tryz.ntmps83
 go_wp2
 go_region_o
 all_goals (go_wp2;go_ret;exact⟨rfl,rfl⟩)
theorem Iy {W : World} {b : Nat} {r : Option Addr × Nat} {l : List UInt8} (h0 : l ≠ []) : Cn p_ 83 [.pointer (some ⟨b, 0, none⟩)] W [bd b r l] (fun _ : Unit => bo l) (fun _ => []) :=
 ⟨Tryz.call83, fun F w hw => by
  have hl0 : 0 < l.length := List.length_pos_iff.2 h0
  obtain ⟨ra, rc⟩ := r
  have h1 : sat W ([pt b (.cells #[.pointer (some ⟨b, 0, none⟩), .slice ra l.length rc] 121 (0, 0)), Sl 1 5 ra rc l.length (l.map B)] ++ F) w :=
   sat.map (L := all [pt b (.cells #[.pointer (some ⟨b, 0, none⟩), .slice ra l.length rc] 121 (0, 0)), Sl 1 5 ra rc l.length (l.map B)] :: F) (fun _ H => cE H) hw
  simp only [ca_, na_] at h1
  have h2 := h1.pick (.there .here)
  obtain ⟨g, hg⟩ : ∃ g, ra = some ⟨g, 0, none⟩ := by
   obtain ⟨f, ⟨l1, l2, l3, hd⟩, _⟩ := h2.fst
   rcases hd with ⟨_, hc0⟩ | ⟨g, rest, hr, _, _⟩
   ·omega
   ·exact ⟨g, hr⟩
  subst hg
  obtain ⟨rest, r1, r2, r3, r4, hp⟩ := kE h2
  have hcur : (l.map B ++ rest).length = rc := by rw [List.length_append, r1]; simp; omega
  refine (Lv b g rc (l.map B ++ rest).toArray l w (by rw [h1.cell]; rfl) hp.pt_.1 h0 r3 (by simpa using Nat.le_of_eq hcur.symm) r4 (fun j x hx => ?_)).mono fun e w' ⟨he, hb⟩ => ⟨(), he, ?_⟩
  ·rw [hp.cell]
   have hj : j < l.length := by
    rcases Nat.lt_or_ge j l.length with c | c
    ·exact c
    ·rw [List.getElem?_eq_none c] at hx; cases hx
   rw [List.getElem?_toArray, List.getElem?_append_left (by simpa using hj), List.getElem?_map, hx]; rfl
  ·subst hb
   have h3 := hp.drew
   have h4 : sat W (pt g (.cells (l.map B ++ rest).toArray 5 (0, l.length)) :: _) (w.drew.freeze ⟨g, 0, none⟩ l.length) := h3.turn (by simp [World.freeze]; split <;> rfl) (by simp [World.freeze]; split <;> rfl) (by simp [World.freeze]; split <;> rfl) (by simp [World.freeze]; split <;> simp) (by
    rw [World.freeze, if_neg (by omega)]
    simp only [Array.getElem?_modify, if_pos, h3.pt_.1]
    simp) (fun i hi => by
    rw [World.freeze, if_neg (by omega)]
    simp only [Array.getElem?_modify]
    rw [if_neg (fun c => hi c.symm)])
   exact h4.drop.drop⟩
end FD
namespace Sl
open Go Sh
variable {P:Program} {W:World}
instance {f:FuncId}:OC (fn f):=⟨rfl⟩
theorem AH {t u:TypeId}{ox oy:Operand}{x:Value}(h:P.underlying t=some (.interface (P.methodsAt t))):bb P W [] (b_ .neq t ox oy (.iface u x) .nilIface) (.bool true):=fun w _=>by
 simp[b_,sv,eqGuard,run_neq_held_nil w t u x h]
theorem vz {t:TypeId}{ox:Operand}{c:Value}(h:P.underlying t=some (.interface (P.methodsAt t))):bb P W [] (b_ .neq t ox (.const c) .nilIface .nilIface) (.bool false):=fun w _=>by
 simp[b_,sv,eqGuard,run_neq_nil_nil w t h]
theorem RM {t a:TypeId}{k:IntKind}{v:Value}(h:P.underlying a=some (.int k)):bb P W [] (SM (.iface a v) t a false) v:=fun w _=>by
 simp[SM,Instr.typeAssert,run_underlying h]
end Sl
namespace FD
open Go Go.Proofs Go.RowKit Sh Sl T
class Gl (W:World):Prop where
 lt:7<W.heap.size
 rd:∃t v,W.cell? ⟨7,0,none⟩=some (.iface t v)
theorem TV:p_.underlying 124=some (.interface (p_.methodsAt 124)):=by kernel_rfl
theorem RN {W:World}{t u:TypeId}{a:Option Addr}(h:p_.underlying t=some (.pointer u)):bb p_ W [] (fB t (.pointer a)) (.iface t (.pointer a)):=fun w _=>by
 simp[fB,Instr.makeInterface,run_underlying h]
theorem Fr {W:World}{ox oy:Operand}{a b:Int}:bb p_ W [] (b_ .eql 124 ox oy (.iface 325 (.int .i64 a)) (.iface 325 (.int .i64 b))) (.bool (a==b)):=fun w _=>by
 have:=Lib.run_eql_iface_int (P:=p_) w (t:=124) (tx:=325) (k:= .i64) (q:= .i64) a b Tryz.underlying124 (by kernel_rfl) Tryz.underlying325
 simp[b_,sv,eqGuard,this]
theorem Es {W:World}[hG:Gl W]{a l:List UInt8}(hl:l.length<=281474976710656):Cn p_ 248 [bo a,bo l] W [] (fun g:Nat=> .pointer (some ⟨g,0,none⟩)) (fun _=>[]):=by
 obtain⟨t,v,hv⟩:=hG.rd
 (refine S.nN.cn fun F=>?_;unfold S.jL;simp only[ca_,na_])
 refine bM (aZ (Fm hG.lt hv) .nil ?_)
 refine c_ (RF hl) fun _=>?_
 refine cB .nil ?_
 refine t_ cu ?_
 refine cv fun b=>?_
 refine bC b ?_
 exact aC
theorem Lw {W:World}[hG:Gl W]{a l:List UInt8}{x y:Int}(hl:l.length<=281474976710656):Cn p_ 234 [bo a,bo l,.int .i64 x,.int .i64 y,.iface 325 (.int .i64 1)] W [] (fun g:Nat=> .iface 327 (.pointer (some ⟨g,0,none⟩))) (fun _=>[]):=by
 (refine S.rK.cn fun F=>?_;unfold S.mD;simp only[ca_,na_])
 refine o_ uu (o_ Fr ?_)
 rw[show((1:Int)==2)=false from rfl]
 refine aa (o_ uu (o_ Fr ?_))
 rw[show((1:Int)==1)=true from rfl]
 refine ab (aH (Es hl) .nil fun g=>?_)
 refine ay ?_
 refine o_ (RN Tryz.underlying327) ?_
 refine bC g ?_
 exact aC
theorem zn (l:List UInt8)(c:UInt8):fo (l++[c])=fo l * 10+(c.toNat-48):=by simp[fo]
theorem GQ (l r:List UInt8):fo l<=fo (l++r):=by
 induction r generalizing l with
 |nil=>simp
 |cons c r ih=>
  have h1:=ih (l++[c])
  rw[zn]at h1
  have e:l++c::r=l++[c]++r:=by simp
  rw[e];omega
theorem GR {l:List UInt8}{i:Nat}(h:i<l.length):fo (l.take (i+1))=fo (l.take i) * 10+(l[i].toNat-48):=by
 rw[List.take_succ_eq_append_getElem h,zn]
theorem Lx {l:List UInt8}(i:Nat):fo (l.take i)<=fo l:=by
 have:=GQ (l.take i) (l.drop i)
 rwa [List.take_append_drop]at this
def RO (l:List UInt8):Value:=if fo l<=9223372036854775807 then .tuple #[.int .u64 (fo l:Int),.nilIface]else .tuple #[.int .u64 9223372036854775807,.iface 325 (.int .i64 1)]
theorem OD {W:World}{l:List UInt8}(hn:l≠[])(hd:l.all sY=true)(hl:l.length<=4611686018427387904):Cn p_ 233 [bo l,.int .i64 10,.int .i64 63] W [] (fun _:Unit=>RO l) (fun _=>[]):=by
 (refine S.nJ.cn fun F=>?_;unfold S.jK;simp only[ca_,na_])
 have e0:(Value.string ⟨#[]⟩)=bo []:=rfl
 rw[e0]
 refine o_ dE ?_
 rw[dF_ hn]
 refine aa (o_ bF ?_)
 rw[dF_ (by decide)]
 refine Fb ?_
 refine o_ dX ?_
 rw[dT_ (by decide)]
 refine ag (ag (o_ dX ?_))
 rw[dT_ (by decide)]
 refine o_ aq (ab (gp fun ds1=>?_))
 refine vv ?_
 refine o_ bF ?_
 rw[dF_ (by decide)]
 refine aa (o_ aI ?_)
 rw[dF_ (by decide)]
 refine ag (ag (o_ bq ?_))
 rw[dF_ (by decide)]
 refine o_ ap (aa (gp fun ds2=>?_))
 refine vv ?_
 refine o_ bF ?_
 rw[dT_ (by decide)]
 refine ab (gp fun ds3=>?_)
 refine o_ bO (o_ (me (by decide)) ?_)
 refine o_ HX ?_
 rw[show IntKind.u64.wrap (IntKind.u64.wrap (1 * 2^(min (IntKind.u64.wrap 63).toNat IntKind.u64.bits))-1)=9223372036854775807 by rfl]
 refine tJ Tryz.underlying23 Tryz.underlying5 fun g c rest=>?_
 refine o_ aN (oD (fun m x y z=>[ex fun i:Nat=>all [pu (m+i=l.length/\x= .bool false/\y= .int .u64 (fo (l.take i):Int)/\z= .int .i64 (i:Int)/\fo (l.take i)<=9223372036854775807),pt g (.cells (l.map B++rest).toArray 5 (l.length+rest.length,l.length+rest.length+1))]]++F) l.length ?_ ?_)
 ·refine Imp.ex 0 (.all ?_)
  refine ay ?_
  exact .pu ⟨by omega,rfl,rfl,rfl,by simp[fo]⟩ .refl
 intro m ds x y z
 refine ay ?_
 refine aX Pick.here fun i=>aB Pick.here ?_
 refine ay ?_
 refine aT Pick.here fun hi=>?_
 obtain⟨hmi,rfl,rfl,rfl,hv⟩:=hi
 refine aF aI .nil (fun h=>?_) (fun h=>?_)
 ·have hil:i<l.length:=by omega
  have hdi:=QZ (List.all_eq_true.1 hd _ (List.getElem_mem hil))
  have hvt:=GR hil
  have hvl:=Lx (l:=l) (i+1)
  refine ab (o_ (bA i rfl hil) ?_)
  rw[Nat.zero_add]
  refine am (iA (v:=B l[i]) (by simp[List.getElem?_append,hil])) (.pick .here .nil) ?_
  obtain⟨d,hde⟩:∃d,d=l[i].toNat:=⟨_,rfl⟩
  have eB:B l[i]= .int .u8 (d:Int):=by rw[hde];rfl
  rw[eB]
  rw[<- hde]at hdi hvt
  refine Fb ?_
  refine o_ bF ?_
  rw[dF_ (by omega)]
  refine ah (o_ ap (aa (o_ dX ?_)))
  rw[dT_ (by omega)]
  refine ag (ag (o_ dX ?_))
  rw[dT_ (by omega)]
  refine o_ aq (ab (o_ HX ?_))
  refine gp fun ds4=>?_
  rw[show IntKind.u8.wrap ((d:Int)-48)=(d:Int)-48 by simp[IntKind.wrap,IntKind.signed,IntKind.bits];omega]
  refine o_ bO (o_ dg ?_)
  rw[show IntKind.u8.wrap 10=10 by rfl,dF_ (by omega)]
  refine aa ?_
  have big:9223372036854775807<fo l->be W (pt g (.cells (l.map B++rest).toArray 5 (l.length+rest.length,l.length+rest.length+1))::F) (opN p_ (fB 325 (.int .i64 1)) jY fun x143=>fun w=>∃x:Unit,(.tuple #[.int .u64 9223372036854775807,x143]:Value)=RO l/\sat W ([]++F) w):=by
   intro hb
   refine o_ uu (bf () (by unfold RO;rw[if_neg (by omega)]) ?_)
   exact aC
  refine aF dg .nil (fun h1=>?_) (fun h1=>?_)
  ·exact ab (big (by omega))
  ·refine aa (o_ bO (o_ HY ?_))
   rw[show IntKind.u64.wrap 10=10 by rfl,show IntKind.u64.wrap ((fo (l.take i):Int) * 10)=(fo (l.take i):Int) * 10 by simp[IntKind.wrap,IntKind.signed,IntKind.bits];omega]
   refine o_ bO ?_
   rw[show IntKind.u64.wrap ((d:Int)-48)=(d:Int)-48 by simp[IntKind.wrap,IntKind.signed,IntKind.bits];omega]
   refine o_ Eb ?_
   by_cases h2:(fo (l.take i):Int) * 10+((d:Int)-48)<18446744073709551616
   ·rw[show IntKind.u64.wrap ((fo (l.take i):Int) * 10+((d:Int)-48))=(fo (l.take i):Int) * 10+((d:Int)-48) by simp[IntKind.wrap,IntKind.signed,IntKind.bits];omega]
    refine o_ aI ?_
    rw[dF_ (by omega)]
    refine ag (ag (ag (aF bq .nil (fun h3=>?_) (fun h3=>?_))))
    ·(refine o_ ap ?_);refine ab ?_
     exact big (by omega)
    ·(refine o_ ap ?_);refine aa ?_;refine bW ?_
     have he:((fo (l.take i):Int) * 10+((d:Int)-48))=(fo (l.take (i+1)):Int):=by omega
     rw[he]
     refine dD (m-1) (by omega) (.ex (i+1) (.all ?_))
     refine ay ?_
     exact .pu ⟨by omega,rfl,rfl,rfl,by omega⟩ .refl
   ·rw[show IntKind.u64.wrap ((fo (l.take i):Int) * 10+((d:Int)-48))=(fo (l.take i):Int) * 10+((d:Int)-48)-18446744073709551616 by simp[IntKind.wrap,IntKind.signed,IntKind.bits];omega]
    refine o_ aI ?_
    rw[dT_ (by omega)]
    exact aA (aA (aA (o_ aq (ab (big (by omega))))))
 ·have hie:i=l.length:=by omega
  subst hie
  rw[List.take_length]at hv ⊢
  refine aa (ah (ah (ah (o_ ap (aa (bf () (by unfold RO;rw[if_pos hv]) ?_))))))
  exact aC
def TW (l:List UInt8)(g:Nat):Value:=if fo l<=9223372036854775807 then .tuple #[.int .u64 (fo l:Int),.nilIface]else .tuple #[.int .u64 9223372036854775807,.iface 327 (.pointer (some ⟨g,0,none⟩))]
theorem OE {W:World}[hG:Gl W]{l:List UInt8}(hn:l≠[])(hd:l.all sY=true)(hl:l.length<=281474976710656):Cn p_ 205 [bo l,.int .i64 10,.int .i64 63] W [] (fun g:Nat=>TW l g) (fun _=>[]):=by
 (refine S.o5.cn fun F=>?_;unfold S.ku;simp only[ca_,na_])
 refine c_ (OD hn hd (by omega)) fun _=>?_
 unfold RO
 by_cases h:fo l<=9223372036854775807
 ·rw[if_pos h]
  refine iC ?_;refine iC ?_
  refine o_ (vz TV) ?_
  refine aa (bf 0 (by unfold TW;rw[if_pos h]) ?_)
  exact aC
 ·rw[if_neg h]
  refine iC ?_;refine iC ?_
  refine o_ (AH TV) ?_
  refine ab (aH (Lw (a:=[80,97,114,115,101,85,105,110,116]) hl) .nil fun g=>?_)
  refine ay ?_
  refine bf g (by unfold TW;rw[if_neg h]) ?_
  exact aC
def RP:List UInt8:=[48,49,50,51,52,53,54,55,56,57,97,98,99,100,101,102]
theorem RQ (c:UInt8):(BN RP (j6 c)<0\/10<=BN RP (j6 c))↔sY c=false:=by
 refine Ik (p:=fun c=>(BN RP (j6 c)<0\/10<=BN RP (j6 c))↔sY c=false) ?_ c
 decide+kernel
theorem OF {l:List UInt8}(h:l.all sY=true):dt l=l:=by
 unfold dt
 conv=>rhs;rw[<- List.map_id l]
 refine List.map_congr_left fun c hc=>?_
 have:=QZ (List.all_eq_true.1 h c hc)
 unfold j6
 rw[if_neg]
 ·rfl
 ·rintro⟨h1,_⟩
  have:=UInt8.le_iff_toNat_le.1 h1
  simp only[show(65:UInt8).toNat=65 from rfl]at this
  omega
theorem OG {W:World}[hG:Gl W]{l:List UInt8}(hl:l.length<=281474976710656):Cn p_ 160 [bo l,.int .i64 10,.int .i64 1000000000000000000] W [] (fun _:Unit=> .tuple #[.int .i64 (mM l).1,.int .i64 (mM l).2]) (fun _=>[]):=by
 (refine S.mP.cn fun F=>?_;unfold S.i6;simp only[ca_,na_])
 refine c_ (rP (l:=l) (by omega)) fun _=>?_
 have hlen:(dt l).length=l.length:=by simp[dt]
 refine o_ cp ?_
 rw[hlen]
 refine bj (fun m y=>(ex fun i:Nat=>pu (m+i=l.length/\y= .int .i64 (i:Int)/\l.all sY=(l.drop i).all sY))::F) l.length ?_ ?_
 ·refine .ex 0 (.pu ⟨by omega,rfl,rfl⟩ ?_)
  exact aC
 intro m ds y
 refine ay ?_
 refine aX Pick.here fun i=>aT Pick.here fun hi=>?_
 obtain⟨hmi,rfl,hall⟩:=hi
 refine aF aI .nil (fun h=>?_) (fun h=>?_)
 ·have hil:i<l.length:=by omega
  refine ab (o_ (iY i rfl (by rw[hlen];exact hil)) ?_)
  have hg:(dt l)[i]'(by rw[hlen];exact hil)=j6 l[i]:=by simp[dt]
  rw[hg]
  refine aH (indexByte (l:=RP) (c:=j6 l[i])) .nil fun _=>?_
  refine ay ?_
  have hdx:=RQ l[i]
  rw[dr hil,List.all_cons]at hall
  have bad:sY l[i]=false->mM l=(0,21):=fun h=>by
   rw[h,Bool.false_and]at hall
   unfold mM
   rw[hall,Bool.and_false];rfl
  refine aF aI .nil (fun h1=>?_) (fun h1=>?_)
  ·(refine aA ?_);refine aA ?_;refine aA ?_;refine o_ aq ?_;refine ab ?_
   rw[bad (hdx.1 (.inl h1))]
   refine bC () ?_
   exact aC
  ·(refine ag ?_);refine ag ?_;refine ag ?_
   refine aF dg .nil (fun h2=>?_) (fun h2=>?_)
   ·(refine o_ ap ?_);refine ab ?_
    rw[bad (hdx.1 (.inr h2))]
    refine bC () ?_
    exact aC
   ·(refine o_ ap ?_);refine aa ?_;refine bW ?_
    have hg:sY l[i]=true:=by
     cases hx:sY l[i]with
     |true=>rfl
     |false=>have:=hdx.2 hx;omega
    rw[hg,Bool.true_and]at hall
    refine aP (m-1) (by omega) (.ex (i+1) (.pu ⟨by omega,rfl,hall⟩ ?_))
    exact aC
 ·rw[List.drop_of_length_le (by omega),List.all_nil]at hall
  refine aa ?_
  have e0:(Value.string ⟨#[]⟩)=bo []:=rfl
  rw[e0,OF hall]
  refine aF dE .nil (fun h1=>?_) (fun h1=>?_)
  ·subst h1
   refine ab (bC () ?_)
   exact aC
  ·refine aa ?_
   have hnb:nb l=true:=by cases l with
    |nil=>exact absurd rfl h1
    |cons _ _=>rfl
   refine aH (OE h1 hall hl) .nil fun g=>?_
   refine ay ?_
   unfold TW
   by_cases h:fo l<=9223372036854775807
   ·rw[if_pos h]
    refine iC ?_;refine iC ?_
    refine o_ (vz TV) ?_
    refine ag (ag (ag (o_ bO ?_)))
    rw[show IntKind.u64.wrap 1000000000000000000=1000000000000000000 by rfl]
    refine ag (aF bq .nil (fun h2=>?_) (fun h2=>?_))
    ·(refine o_ ap ?_);refine ab ?_
     have:mM l=(0,11):=by
      unfold mM
      rw[hnb,hall,if_pos (by rfl),if_neg (by omega)]
     rw[this]
     refine bC () ?_
     exact aC
    ·(refine o_ ap ?_);refine aa ?_
     refine o_ bO ?_
     have:mM l=((fo l:Int),0):=by
      unfold mM
      rw[hnb,hall,if_pos (by rfl),if_pos (by omega)]
     rw[this,show IntKind.i64.wrap (fo l:Int)=(fo l:Int) by simp[IntKind.wrap,IntKind.signed,IntKind.bits];omega]
     refine bC () ?_
     exact aC
   ·rw[if_neg h]
    refine iC ?_;refine iC ?_
    refine o_ (AH TV) ?_
    refine aA (aA (aA (aA (o_ aq (ab ?_)))))
    have:mM l=(0,11):=by
     unfold mM
     rw[hnb,hall,if_pos (by rfl),if_neg (by omega)]
    rw[this]
    refine bC () ?_
    exact aC
theorem Ly {W:World}[hG:Gl W]{l:List UInt8}(hl:l.length<=281474976710656):Cn p_ 118 [bo l] W [] (fun _:Unit=> .tuple #[.int .i64 (mM l).1,.int .i64 (mM l).2]) (fun _=>[]):=by
 (refine S.vg.cn fun F=>?_;unfold S.pA;simp only[ca_,na_])
 refine c_ (OG hl) fun _=>?_
 refine iC ?_;refine iC ?_
 refine bC () ?_
 exact aC
theorem Et {W:World}{l:List UInt8}{q e:Bool}{fv:Value}:Cn p_ 84 [.agg #[.bool q,.bool e,fv],bo l] W [] (fun c:Nat × Nat=> .func (.func 116) #[] [.pointer (some ⟨c.1,0,none⟩),.pointer (some ⟨c.2,0,none⟩)].toArray) (fun c=>[pt c.1 (.cells #[bo l] 9 (0,0)),pt c.2 (.cells #[.bool q,.bool e,fv] 96 (0,0))]):=by
 (refine S.fq.cn fun F=>?_;unfold S.dN;simp only[ca_,na_])
 refine cv fun gk=>?_
 refine fK fun gs=>?_
 refine o_ iB (bC ((gs,gk)) ?_)
 exact .refl
theorem Cv {W:World} {l:List UInt8} {q e:Bool} {fv:Value} {gs gk lp:Nat} {G:Nat->HP} {Gx T T':HP} (hl:l.length<=4611686018427387904)
  (hy:m0 p_ lp (KX q e l) (fun k=>all [T,all [pt gs (.cells #[bo l] 9 (0,0)),pt gk (.cells #[.bool q,.bool e,fv] 96 (0,0)),G k]]) (all [T',Gx]) W):
  Cn p_ 116 [yv lp,.pointer (some ⟨gs,0,none⟩),.pointer (some ⟨gk,0,none⟩)] W [all [T,all [pt gs (.cells #[bo l] 9 (0,0)),pt gk (.cells #[.bool q,.bool e,fv] 96 (0,0)),G 0]]] (fun _:Bool=> .tuple #[]) (fun b=>[if b then all [T,all [pt gs (.cells #[bo l] 9 (0,0)),pt gk (.cells #[.bool q,.bool e,fv] 96 (0,0)),G (bp q e l).length]]else all [T',Gx]]):=by
 (refine S.eX.cn fun F=>?_;unfold S.dB;simp only[ca_,na_])
 refine aB .here ?_
 refine ay ?_
 refine aB (.there .here) ?_
 refine ay ?_
 refine oD (fun m x y z=>[ex fun st:Bool × Nat × Nat × Nat=>all [pu (m+st.2.2.1=l.length+1/\x= .bool st.1/\y= .int .i64 (st.2.1:Int)/\z= .int .i64 (st.2.2.1:Int)/\st.2.1<=st.2.2.1/\st.2.1<=l.length/\(bp q e l).drop st.2.2.2=u0 (Ao l q e st.1 st.2.1 st.2.2.1)/\st.2.2.2<=(bp q e l).length),
   T,pt gs (.cells #[bo l] 9 (0,0)),pt gk (.cells #[.bool q,.bool e,fv] 96 (0,0)),G st.2.2.2]]++F) (l.length+1) ?_ ?_
 ·refine Imp.ex (false,0,0,0) (.all ?_)
  refine ay ?_
  refine .pu ⟨by simp,rfl,rfl,rfl,Nat.le_refl _,Nat.zero_le _,rfl,Nat.zero_le _⟩ ?_
  exact aC
 intro m ds x y z
 refine ay ?_
 refine aX Pick.here fun st=>aB Pick.here ?_
 obtain⟨inn,a,i,k⟩:=st
 refine ay ?_
 refine aT Pick.here fun hi=>?_
 (try dsimp only at hi)
 obtain⟨hmi,rfl,rfl,rfl,hai,hal,hdr,hkl⟩:=hi
 refine cm (br .here) ?_
 refine o_ cp (aF aI .nil (fun h=>?_) (fun h=>?_))
 ·have hil:i<l.length:=by omega
  refine ab (cm (br .here) ?_)
  refine o_ (iY i rfl hil) ?_
  refine o_ (wP 92 rfl) ?_
  refine AF ?_
  refine AG aw (br (.there .here)) (.pick (by repeat constructor) .nil) ?_
  refine qi (φ:=l[i]=92/\inn=true/\e=true) (by cases inn <;> cases e <;> simp) (fun h1=>?_) (fun h1=>?_)
  ·refine bW ?_
   refine bW ?_
   rw[Fk hil hai h1.1 h1.2.1 h1.2.2]at hdr
   refine dD (m-2) (by omega) (.ex (inn,a,i+2,k) (.all ?_))
   refine ay ?_
   refine .pu ⟨by(try dsimp only);omega,rfl,rfl,by(try dsimp only);rw[Int.add_assoc];rfl,by(try dsimp only);omega,hal,hdr,hkl⟩ ?_
   exact aC
  ·refine o_ (wP 34 rfl) ?_
   refine AG aw (br .here) (.pick (by repeat constructor) .nil) ?_
   refine qi (φ:=l[i]=34/\q=true) (by cases q <;> simp) (fun h2=>?_) (fun h2=>?_)
   ·refine o_ g_ (bW ?_)
    rw[Nl hil hai h1 h2.1 h2.2]at hdr
    refine dD (m-1) (by omega) (.ex (!inn,a,i+1,k) (.all ?_))
    refine ay ?_
    refine .pu ⟨by(try dsimp only);omega,rfl,rfl,rfl,by(try dsimp only);omega,hal,hdr,hkl⟩ ?_
    exact aC
   ·refine o_ (wP 44 rfl) ?_
    refine wM (fun _=>g_) ?_
    refine qi (φ:=l[i]=44/\inn=false) (by cases inn <;> simp) (fun h3=>?_) (fun h3=>?_)
    ·refine cm (br .here) ?_
     refine o_ (Eq a i rfl rfl hai (by omega)) ?_
     refine aH (Cu (by simp[sub];omega)) .nil fun _=>?_
     refine ay ?_
     have e0:(Value.string ⟨#[]⟩)=bo []:=rfl
     rw[Nm hil hai h3.1 h3.2,oF]at hdr
     rw[e0]
     refine o_ kb ?_
     by_cases h4:cf (sub l a i)=[]
     ·rw[if_pos h4]at hdr
      rw[dF_ (fun c=>c h4)]
      refine ah (ah (ah (ah (o_ ap (aa (bW ?_))))));refine bW ?_
      refine dD (m-1) (by omega) (.ex (inn,i+1,i+1,k) (.all ?_))
      refine ay ?_
      refine .pu ⟨by(try dsimp only);omega,rfl,rfl,rfl,Nat.le_refl _,by(try dsimp only);omega,by rw[h3.2];exact hdr,hkl⟩ ?_
      exact aC
     ·rw[if_neg h4]at hdr
      obtain⟨hg,hd2,hk2⟩:=vy hdr
      rw[dT_ h4]
      refine ag (ag (ag (cr (M:=all [T,all [pt gs (.cells #[bo l] 9 (0,0)),pt gk (.cells #[.bool q,.bool e,fv] 96 (0,0)),G k]]::F) ?_ ?_)))
      ·refine .all ?_
       refine ay ?_
       refine .pick (by repeat constructor) (.all ?_)
       refine ay ?_
       exact aC
      refine ka hy k (tL hg) .here ?_ ?_
      ·(refine ag ?_);refine o_ eT ?_;refine o_ aq ?_;refine aa ?_;refine bW ?_;refine bW ?_
       refine aB .here ?_
       refine ay ?_
       refine aB (.there .here) ?_
       refine ay ?_
       refine dD (m-1) (by omega) (.ex (inn,i+1,i+1,k+1) (.all ?_))
       refine ay ?_
       refine .pu ⟨by(try dsimp only);omega,rfl,rfl,rfl,Nat.le_refl _,by(try dsimp only);omega,by rw[h3.2];exact hd2,by(try dsimp only);omega⟩ ?_
       exact aC
      ·(refine ag ?_);refine o_ ee ?_;refine o_ aq ?_;refine ab ?_
       refine bC false ?_
       exact .refl
    ·refine bW ?_
     rw[Nn hil hai h1 h2 h3]at hdr
     refine dD (m-1) (by omega) (.ex (inn,a,i+1,k) (.all ?_))
     refine ay ?_
     refine .pu ⟨by(try dsimp only);omega,rfl,rfl,rfl,by(try dsimp only);omega,hal,hdr,hkl⟩ ?_
     exact aC
 ·refine aa (cm (br .here) ?_)
  refine o_ (v_ a rfl hal) ?_
  refine aH (Cu (by simp;omega)) .nil fun _=>?_
  refine ay ?_
  have e0:(Value.string ⟨#[]⟩)=bo []:=rfl
  rw[e0]
  rw[Fj (by omega),oF,B6]at hdr
  refine o_ kb ?_
  by_cases h4:cf (l.drop a)=[]
  ·rw[if_pos h4]at hdr
   rw[dF_ (fun c=>c h4)]
   have hkn:k=(bp q e l).length:=by
    have:=congrArg List.length hdr
    rw[List.length_drop,List.length_nil]at this;omega
   subst hkn
   refine aa (bC true ?_)
   refine .all ?_
   refine ay ?_
   refine .pick (by repeat constructor) (.all ?_)
   refine ay ?_
   exact aC
  ·rw[if_neg h4]at hdr
   obtain⟨hg,hd2,hk2⟩:=vy hdr
   rw[dT_ h4]
   refine ab (cr (M:=all [T,all [pt gs (.cells #[bo l] 9 (0,0)),pt gk (.cells #[.bool q,.bool e,fv] 96 (0,0)),G k]]::F) ?_ ?_)
   ·refine .all ?_
    refine ay ?_
    refine .pick (by repeat constructor) (.all ?_)
    refine ay ?_
    exact aC
   have hkn:k+1=(bp q e l).length:=by
    have:=congrArg List.length hd2
    rw[List.length_drop,List.length_nil]at this;omega
   refine ka hy k (tL hg) .here ?_ ?_
   ·rw[hkn]
    refine bC true ?_
    exact .refl
   ·refine bC false ?_
    exact .refl
theorem Lz {W:World}{l:List UInt8}{q e:Bool}{fv:Value}:Cn p_ 96 [.agg #[.bool q,.bool e,fv],bo l] W [] (fun c:Nat × Nat=> .func (.func 130) #[] [.pointer (some ⟨c.1,0,none⟩),.pointer (some ⟨c.2,0,none⟩)].toArray) (fun c=>[pt c.1 (.cells #[bo l] 9 (0,0)),pt c.2 (.cells #[.bool q,.bool e,fv] 103 (0,0))]):=by
 (refine S.eP.cn fun F=>?_;unfold S.dy;simp only[ca_,na_])
 refine cv fun gk=>?_
 refine fK fun gs=>?_
 refine o_ iB (bC ((gs,gk)) ?_)
 exact .refl
theorem Iz {W:World} {l:List UInt8} {q e:Bool} {fv:Value} {gs gk lp:Nat} {G:Nat->HP} {Gx T T':HP} (hl:l.length<=4611686018427387904)
  (hy:m0 p_ lp (KX q e l) (fun k=>all [T,all [pt gs (.cells #[bo l] 9 (0,0)),pt gk (.cells #[.bool q,.bool e,fv] 103 (0,0)),G k]]) (all [T',Gx]) W):
  Cn p_ 130 [yv lp,.pointer (some ⟨gs,0,none⟩),.pointer (some ⟨gk,0,none⟩)] W [all [T,all [pt gs (.cells #[bo l] 9 (0,0)),pt gk (.cells #[.bool q,.bool e,fv] 103 (0,0)),G 0]]] (fun _:Bool=> .tuple #[]) (fun b=>[if b then all [T,all [pt gs (.cells #[bo l] 9 (0,0)),pt gk (.cells #[.bool q,.bool e,fv] 103 (0,0)),G (bp q e l).length]]else all [T',Gx]]):=by
 (refine S.eu.cn fun F=>?_;unfold S.di;simp only[ca_,na_])
 refine aB .here ?_
 refine ay ?_
 refine aB (.there .here) ?_
 refine ay ?_
 refine oD (fun m x y z=>[ex fun st:Bool × Nat × Nat × Nat=>all [pu (m+st.2.2.1=l.length+1/\x= .bool st.1/\y= .int .i64 (st.2.1:Int)/\z= .int .i64 (st.2.2.1:Int)/\st.2.1<=st.2.2.1/\st.2.1<=l.length/\(bp q e l).drop st.2.2.2=u0 (Ao l q e st.1 st.2.1 st.2.2.1)/\st.2.2.2<=(bp q e l).length),
   T,pt gs (.cells #[bo l] 9 (0,0)),pt gk (.cells #[.bool q,.bool e,fv] 103 (0,0)),G st.2.2.2]]++F) (l.length+1) ?_ ?_
 ·refine Imp.ex (false,0,0,0) (.all ?_)
  refine ay ?_
  refine .pu ⟨by simp,rfl,rfl,rfl,Nat.le_refl _,Nat.zero_le _,rfl,Nat.zero_le _⟩ ?_
  exact aC
 intro m ds x y z
 refine ay ?_
 refine aX Pick.here fun st=>aB Pick.here ?_
 obtain⟨inn,a,i,k⟩:=st
 refine ay ?_
 refine aT Pick.here fun hi=>?_
 (try dsimp only at hi)
 obtain⟨hmi,rfl,rfl,rfl,hai,hal,hdr,hkl⟩:=hi
 refine cm (br .here) ?_
 refine o_ cp (aF aI .nil (fun h=>?_) (fun h=>?_))
 ·have hil:i<l.length:=by omega
  refine ab (cm (br .here) ?_)
  refine o_ (iY i rfl hil) ?_
  refine o_ (wP 92 rfl) ?_
  refine AF ?_
  refine AG aw (br (.there .here)) (.pick (by repeat constructor) .nil) ?_
  refine qi (φ:=l[i]=92/\inn=true/\e=true) (by cases inn <;> cases e <;> simp) (fun h1=>?_) (fun h1=>?_)
  ·refine bW ?_
   refine bW ?_
   rw[Fk hil hai h1.1 h1.2.1 h1.2.2]at hdr
   refine dD (m-2) (by omega) (.ex (inn,a,i+2,k) (.all ?_))
   refine ay ?_
   refine .pu ⟨by(try dsimp only);omega,rfl,rfl,by(try dsimp only);rw[Int.add_assoc];rfl,by(try dsimp only);omega,hal,hdr,hkl⟩ ?_
   exact aC
  ·refine o_ (wP 34 rfl) ?_
   refine AG aw (br .here) (.pick (by repeat constructor) .nil) ?_
   refine qi (φ:=l[i]=34/\q=true) (by cases q <;> simp) (fun h2=>?_) (fun h2=>?_)
   ·refine o_ g_ (bW ?_)
    rw[Nl hil hai h1 h2.1 h2.2]at hdr
    refine dD (m-1) (by omega) (.ex (!inn,a,i+1,k) (.all ?_))
    refine ay ?_
    refine .pu ⟨by(try dsimp only);omega,rfl,rfl,rfl,by(try dsimp only);omega,hal,hdr,hkl⟩ ?_
    exact aC
   ·refine o_ (wP 44 rfl) ?_
    refine wM (fun _=>g_) ?_
    refine qi (φ:=l[i]=44/\inn=false) (by cases inn <;> simp) (fun h3=>?_) (fun h3=>?_)
    ·refine cm (br .here) ?_
     refine o_ (Eq a i rfl rfl hai (by omega)) ?_
     refine aH (Cu (by simp[sub];omega)) .nil fun _=>?_
     refine ay ?_
     have e0:(Value.string ⟨#[]⟩)=bo []:=rfl
     rw[Nm hil hai h3.1 h3.2,oF]at hdr
     rw[e0]
     refine o_ kb ?_
     by_cases h4:cf (sub l a i)=[]
     ·rw[if_pos h4]at hdr
      rw[dF_ (fun c=>c h4)]
      refine ah (ah (ah (ah (o_ ap (aa (bW ?_))))));refine bW ?_
      refine dD (m-1) (by omega) (.ex (inn,i+1,i+1,k) (.all ?_))
      refine ay ?_
      refine .pu ⟨by(try dsimp only);omega,rfl,rfl,rfl,Nat.le_refl _,by(try dsimp only);omega,by rw[h3.2];exact hdr,hkl⟩ ?_
      exact aC
     ·rw[if_neg h4]at hdr
      obtain⟨hg,hd2,hk2⟩:=vy hdr
      rw[dT_ h4]
      refine ag (ag (ag (cr (M:=all [T,all [pt gs (.cells #[bo l] 9 (0,0)),pt gk (.cells #[.bool q,.bool e,fv] 103 (0,0)),G k]]::F) ?_ ?_)))
      ·refine .all ?_
       refine ay ?_
       refine .pick (by repeat constructor) (.all ?_)
       refine ay ?_
       exact aC
      refine ka hy k (tL hg) .here ?_ ?_
      ·(refine ag ?_);refine o_ eT ?_;refine o_ aq ?_;refine aa ?_;refine bW ?_;refine bW ?_
       refine aB .here ?_
       refine ay ?_
       refine aB (.there .here) ?_
       refine ay ?_
       refine dD (m-1) (by omega) (.ex (inn,i+1,i+1,k+1) (.all ?_))
       refine ay ?_
       refine .pu ⟨by(try dsimp only);omega,rfl,rfl,rfl,Nat.le_refl _,by(try dsimp only);omega,by rw[h3.2];exact hd2,by(try dsimp only);omega⟩ ?_
       exact aC
      ·(refine ag ?_);refine o_ ee ?_;refine o_ aq ?_;refine ab ?_
       refine bC false ?_
       exact .refl
    ·refine bW ?_
     rw[Nn hil hai h1 h2 h3]at hdr
     refine dD (m-1) (by omega) (.ex (inn,a,i+1,k) (.all ?_))
     refine ay ?_
     refine .pu ⟨by(try dsimp only);omega,rfl,rfl,rfl,by(try dsimp only);omega,hal,hdr,hkl⟩ ?_
     exact aC
 ·refine aa (cm (br .here) ?_)
  refine o_ (v_ a rfl hal) ?_
  refine aH (Cu (by simp;omega)) .nil fun _=>?_
  refine ay ?_
  have e0:(Value.string ⟨#[]⟩)=bo []:=rfl
  rw[e0]
  rw[Fj (by omega),oF,B6]at hdr
  refine o_ kb ?_
  by_cases h4:cf (l.drop a)=[]
  ·rw[if_pos h4]at hdr
   rw[dF_ (fun c=>c h4)]
   have hkn:k=(bp q e l).length:=by
    have:=congrArg List.length hdr
    rw[List.length_drop,List.length_nil]at this;omega
   subst hkn
   refine aa (bC true ?_)
   refine .all ?_
   refine ay ?_
   refine .pick (by repeat constructor) (.all ?_)
   refine ay ?_
   exact aC
  ·rw[if_neg h4]at hdr
   obtain⟨hg,hd2,hk2⟩:=vy hdr
   rw[dT_ h4]
   refine ab (cr (M:=all [T,all [pt gs (.cells #[bo l] 9 (0,0)),pt gk (.cells #[.bool q,.bool e,fv] 103 (0,0)),G k]]::F) ?_ ?_)
   ·refine .all ?_
    refine ay ?_
    refine .pick (by repeat constructor) (.all ?_)
    refine ay ?_
    exact aC
   have hkn:k+1=(bp q e l).length:=by
    have:=congrArg List.length hd2
    rw[List.length_drop,List.length_nil]at this;omega
   refine ka hy k (tL hg) .here ?_ ?_
   ·rw[hkn]
    refine bC true ?_
    exact .refl
   ·refine bC false ?_
    exact .refl
def lX (x:List UInt8 × Int):Value:= .agg #[bo x.1,.int .i64 x.2]
def ei (x:List UInt8 × Int):List Value:=[bo x.1,.int .i64 x.2]
theorem Cw {W : World} {l : List UInt8} {q e : Bool} {f : FuncId} {one : List UInt8 → (List UInt8 × Int) × Bool} (hl : l.length ≤ 2097152)
  (hone : ∀ w : List UInt8, w.length ≤ l.length → Cn p_ f [bo w] W [] (fun _ : Unit => .tuple #[lX (one w).1, .bool (one w).2]) (fun _ => [])) :
  Cn p_ 54 [bo l, .agg #[.bool q, .bool e, fn f]] W [] (fun r : Option Addr × Nat => .tuple #[.slice r.1 (sQ (fT one (bp q e l))).1.length r.2, .int .i64 (sQ (fT one (bp q e l))).2])
   (fun r => [Sl 2 67 r.1 r.2 (sQ (fT one (bp q e l))).1.length ((sQ (fT one (bp q e l))).1.flatMap ei)]) := by
 have hnum := oH (q := q) (e := e) (l := l)
 (refine S.jc.cn fun F => ?_; unfold S.fg; simp only [ca_, na_])
 refine cv fun b3 => ?_
 refine dQ fun b4 => ?_
 refine dQ fun b5 => ?_
 refine dQ fun b6 => ?_
 refine cm (bP (cs := #[.bool q, .bool e, fn f]) rfl) ?_
 refine aH Et .nil fun c => ?_
 obtain ⟨gs, gk⟩ := c
 refine ay ?_
 refine GG (f := 116) (cap := [.pointer (some ⟨gs, 0, none⟩), .pointer (some ⟨gk, 0, none⟩)]) (KX q e l)
  (fun k => all [pt gs (.cells #[bo l] 9 (0, 0)), pt gk (.cells #[.bool q, .bool e, fn f] 96 (0, 0)), all [pu (((bp q e l).take k).all (fun w => (one w).2) = true ∧ k ≤ (bp q e l).length), pt b3 (.cells #[.bool q, .bool e, fn f] 96 (0, 0)), pt b4 (.cells #[.slice none 0 0] 62 (0, 0)), pt b5 (.cells #[.int .i64 0] 27 (0, 0)),
   ex fun r : Option Addr × Nat => all [pt b6 (.cells #[.slice r.1 k r.2] 62 (0, 0)), Sl 2 67 r.1 r.2 k (((bp q e l).take k).flatMap fun w => ei (one w).1)], all F]])
  (all [pu ((bp q e l).all (fun w => (one w).2) = false), pt b4 (.cells #[.slice none 0 0] 62 (0, 0)), pt b5 (.cells #[.int .i64 42] 27 (0, 0)), all F]) rfl ?_ ?_ ?_ ?_ ?_ ?_
 ·intro x hx
  obtain ⟨w, _, rfl⟩ := List.mem_map.1 hx
  rfl
 ·refine .all ?_
  refine ay ?_
  refine .pick (by repeat constructor) (.pick (by repeat constructor) (.all ?_))
  refine ay ?_
  refine .pu ⟨rfl, Nat.zero_le _⟩ ?_
  refine .pick (by repeat constructor) (.pick (by repeat constructor) (.pick (by repeat constructor) (.ex (none, 0) (.all ?_))))
  refine ay ?_
  refine .pick (by repeat constructor) (cQ (.all ?_))
  rw [List.append_nil]
  exact .refl
 ·intro lp T T' hy
  rw [oI]
  exact Cv (by omega) hy
 ·intro k hk F2 T0 T1 B N J hB hN hJ
  rw [oI] at hk
  obtain ⟨w, hwe⟩ : ∃ w, w = (bp q e l)[k] := ⟨_, rfl⟩
  have hwl : w.length ≤ l.length := zm (by rw [hwe]; exact List.getElem_mem hk)
  have hat : (bp q e l)[k]? = some w := by rw [hwe, List.getElem?_eq_getElem hk]
  have e0 : ∀ h, (KX q e l)[k]'h = [bo w] := fun h => by
   have := tL hat
   rw [List.getElem?_eq_getElem h] at this
   exact Option.some.inj this
  rw [e0]
  simp only [kU, List.headD_cons, List.tail_cons]
  refine aB (.there .here) ?_
  refine ay ?_
  refine aB (.there (.there .here)) ?_
  refine ay ?_
  refine aT .here fun hp => ?_
  obtain ⟨hp, hkn⟩ := hp
  have htk : (bp q e l).take (k + 1) = (bp q e l).take k ++ [w] := by rw [List.take_succ_eq_append_getElem hk, hwe]
  refine hB _ _ _ (by repeat constructor) ?_
  refine aX (A := fun r : Option Addr × Nat => all [pt b6 (.cells #[.slice r.1 k r.2] 62 (0, 0)), Sl 2 67 r.1 r.2 k (((bp q e l).take k).flatMap fun w => ei (one w).1)]) (by repeat constructor) fun r => aB Pick.here ?_
  obtain ⟨a, c⟩ := r
  refine ay ?_
  refine o_ aw (cm (br (.there (.there .here))) ?_)
  refine aH (hone w hwl) .nil fun _ => ?_
  refine ay ?_
  unfold lX
  refine o_ (bJ (vs := [_, _]) .here) ?_
  refine o_ (bJ (vs := [_, _]) (.there .here)) ?_
  refine bm fun b8 => ?_
  refine bY .here (by rfl) (by rfl) (by intro u hu; simp [lX] at hu; rcases hu with rfl | rfl <;> rfl) ?_
  refine o_ g_ ?_
  cases hok : (one w).2 with
  | false =>
   refine ab (fS (by repeat constructor) .here ?_)
   refine fS (by repeat constructor) .here ?_
   refine hJ _ ?_
   refine .pick (by repeat constructor) (.all ?_)
   refine ay ?_
   refine .pu ?_ ?_
   ·rw [Bool.eq_false_iff]
    intro hall
    have := List.all_eq_true.1 hall w (by rw [hwe]; exact List.getElem_mem hk)
    rw [hok] at this; cases this
   refine .pick (by repeat constructor) (.pick (by repeat constructor) ?_)
   exact aC
  | true =>
   refine aa (cm (br .here) ?_)
   refine cm (bP (cs := #[bo (one w).1.1, .int .i64 (one w).1.2]) rfl) ?_
   refine fp (n := 1) (vs := [lX (one w).1]) rfl (by omega) rfl (by intro v hv; rw [List.mem_singleton.1 hv]; rfl) (by omega) fun gb => ?_
   refine co (m := 1) (news := ei (one w).1) (by repeat constructor) (dq (s := 2) (e' := 67) (by kernel_rfl) .here (by rfl) (by intro u hu; simp [ei] at hu; rcases hu with rfl | rfl <;> rfl)) (by omega) (by omega) fun a' c' => ?_
   refine fS (by repeat constructor) .here ?_
   refine hN _ ?_
   refine .pick (by repeat constructor) (.all ?_)
   refine ay ?_
   refine .pick (by repeat constructor) (.pick (by repeat constructor) (.all ?_))
   refine ay ?_
   refine .pu ⟨?_, by omega⟩ ?_
   ·rw [htk, List.all_append, hp]
    simp [hok]
   refine .pick (by repeat constructor) (.pick (by repeat constructor) (.pick (by repeat constructor) (.ex (a', c') (.all ?_))))
   refine ay ?_
   rw [htk, List.flatMap_append, List.flatMap_singleton]
   refine .pick (by repeat constructor) (.pick (by repeat constructor) ?_)
   exact aC
 ·intro d
  rw [oI]
  refine aB (.there .here) ?_
  refine ay ?_
  refine aB (.there (.there .here)) ?_
  refine ay ?_
  refine aT .here fun hp => ?_
  obtain ⟨hp, _⟩ := hp
  rw [List.take_length] at hp ⊢
  refine aX (A := fun r : Option Addr × Nat => all [pt b6 (.cells #[.slice r.1 (bp q e l).length r.2] 62 (0, 0)), Sl 2 67 r.1 r.2 (bp q e l).length ((bp q e l).flatMap fun w => ei (one w).1)]) (by repeat constructor) fun r => aB Pick.here ?_
  obtain ⟨a, c⟩ := r
  refine ay ?_
  refine cm (br .here) ?_
  refine fS (by repeat constructor) .here ?_
  refine fS (by repeat constructor) .here ?_
  refine Ai (by repeat constructor) ?_
  refine jB (cJ .here) ?_
  refine jB (cJ .here) ?_
  have e1 : sQ (fT one (bp q e l)) = ((bp q e l).map fun w => (one w).1, 0) := by
   unfold fT
   rw [if_pos hp]; rfl
  rw [e1]
  refine m6 (M := [Sl 2 67 a c (bp q e l).length ((bp q e l).flatMap fun w => ei (one w).1)]) (F := F) aC ?_
  refine ay ?_
  refine bf (a, c) (by simp) ?_
  simp only [List.length_map, List.flatMap_map]
  exact .refl
 ·intro d
  refine aB (.there .here) ?_
  refine ay ?_
  refine aT .here fun hp => ?_
  refine Ai (by repeat constructor) ?_
  refine jB (cJ .here) ?_
  refine jB (cJ .here) ?_
  have e1 : sQ (fT one (bp q e l)) = ([], 42) := by
   unfold fT
   rw [if_neg (by rw [hp]; simp)]; rfl
  rw [e1]
  refine m6 (M := []) (F := F) aC ?_
  refine ay ?_
  refine bf (none, 0) rfl ?_
  exact cQ .refl
def Eu (x:Dir):Value:= .agg #[bo x.name,bo x.value,.bool x.has]
def rT (x:Dir):List Value:=[bo x.name,bo x.value,.bool x.has]
theorem IA {W : World} {l : List UInt8} {q e : Bool} {f : FuncId} {one : List UInt8 → (Dir) × Bool} (hl : l.length ≤ 2097152)
  (hone : ∀ w : List UInt8, w.length ≤ l.length → Cn p_ f [bo w] W [] (fun _ : Unit => .tuple #[Eu (one w).1, .bool (one w).2]) (fun _ => [])) :
  Cn p_ 61 [bo l, .agg #[.bool q, .bool e, fn f]] W [] (fun r : Option Addr × Nat => .tuple #[.slice r.1 (sQ (fT one (bp q e l))).1.length r.2, .int .i64 (sQ (fT one (bp q e l))).2])
   (fun r => [Sl 3 78 r.1 r.2 (sQ (fT one (bp q e l))).1.length ((sQ (fT one (bp q e l))).1.flatMap rT)]) := by
 have hnum := oH (q := q) (e := e) (l := l)
 (refine S.it.cn fun F => ?_; unfold S.et; simp only [ca_, na_])
 refine cv fun b3 => ?_
 refine dQ fun b4 => ?_
 refine dQ fun b5 => ?_
 refine dQ fun b6 => ?_
 refine cm (bP (cs := #[.bool q, .bool e, fn f]) rfl) ?_
 refine aH Lz .nil fun c => ?_
 obtain ⟨gs, gk⟩ := c
 refine ay ?_
 refine GG (f := 130) (cap := [.pointer (some ⟨gs, 0, none⟩), .pointer (some ⟨gk, 0, none⟩)]) (KX q e l)
  (fun k => all [pt gs (.cells #[bo l] 9 (0, 0)), pt gk (.cells #[.bool q, .bool e, fn f] 103 (0, 0)), all [pu (((bp q e l).take k).all (fun w => (one w).2) = true ∧ k ≤ (bp q e l).length), pt b3 (.cells #[.bool q, .bool e, fn f] 103 (0, 0)), pt b4 (.cells #[.slice none 0 0] 74 (0, 0)), pt b5 (.cells #[.int .i64 0] 27 (0, 0)),
   ex fun r : Option Addr × Nat => all [pt b6 (.cells #[.slice r.1 k r.2] 74 (0, 0)), Sl 3 78 r.1 r.2 k (((bp q e l).take k).flatMap fun w => rT (one w).1)], all F]])
  (all [pu ((bp q e l).all (fun w => (one w).2) = false), pt b4 (.cells #[.slice none 0 0] 74 (0, 0)), pt b5 (.cells #[.int .i64 42] 27 (0, 0)), all F]) rfl ?_ ?_ ?_ ?_ ?_ ?_
 ·intro x hx
  obtain ⟨w, _, rfl⟩ := List.mem_map.1 hx
  rfl
 ·refine .all ?_
  refine ay ?_
  refine .pick (by repeat constructor) (.pick (by repeat constructor) (.all ?_))
  refine ay ?_
  refine .pu ⟨rfl, Nat.zero_le _⟩ ?_
  refine .pick (by repeat constructor) (.pick (by repeat constructor) (.pick (by repeat constructor) (.ex (none, 0) (.all ?_))))
  refine ay ?_
  refine .pick (by repeat constructor) (cQ (.all ?_))
  rw [List.append_nil]
  exact .refl
 ·intro lp T T' hy
  rw [oI]
  exact Iz (by omega) hy
 ·intro k hk F2 T0 T1 B N J hB hN hJ
  rw [oI] at hk
  obtain ⟨w, hwe⟩ : ∃ w, w = (bp q e l)[k] := ⟨_, rfl⟩
  have hwl : w.length ≤ l.length := zm (by rw [hwe]; exact List.getElem_mem hk)
  have hat : (bp q e l)[k]? = some w := by rw [hwe, List.getElem?_eq_getElem hk]
  have e0 : ∀ h, (KX q e l)[k]'h = [bo w] := fun h => by
   have := tL hat
   rw [List.getElem?_eq_getElem h] at this
   exact Option.some.inj this
  rw [e0]
  simp only [kU, List.headD_cons, List.tail_cons]
  refine aB (.there .here) ?_
  refine ay ?_
  refine aB (.there (.there .here)) ?_
  refine ay ?_
  refine aT .here fun hp => ?_
  obtain ⟨hp, hkn⟩ := hp
  have htk : (bp q e l).take (k + 1) = (bp q e l).take k ++ [w] := by rw [List.take_succ_eq_append_getElem hk, hwe]
  refine hB _ _ _ (by repeat constructor) ?_
  refine aX (A := fun r : Option Addr × Nat => all [pt b6 (.cells #[.slice r.1 k r.2] 74 (0, 0)), Sl 3 78 r.1 r.2 k (((bp q e l).take k).flatMap fun w => rT (one w).1)]) (by repeat constructor) fun r => aB Pick.here ?_
  obtain ⟨a, c⟩ := r
  refine ay ?_
  refine o_ aw (cm (br (.there (.there .here))) ?_)
  refine aH (hone w hwl) .nil fun _ => ?_
  refine ay ?_
  unfold Eu
  refine o_ (bJ (vs := [_, _]) .here) ?_
  refine o_ (bJ (vs := [_, _]) (.there .here)) ?_
  refine bm fun b8 => ?_
  refine bY .here (by rfl) (by rfl) (by intro u hu; simp [Eu] at hu; rcases hu with rfl | rfl | rfl <;> rfl) ?_
  refine o_ g_ ?_
  cases hok : (one w).2 with
  | false =>
   refine ab (fS (by repeat constructor) .here ?_)
   refine fS (by repeat constructor) .here ?_
   refine hJ _ ?_
   refine .pick (by repeat constructor) (.all ?_)
   refine ay ?_
   refine .pu ?_ ?_
   ·rw [Bool.eq_false_iff]
    intro hall
    have := List.all_eq_true.1 hall w (by rw [hwe]; exact List.getElem_mem hk)
    rw [hok] at this; cases this
   refine .pick (by repeat constructor) (.pick (by repeat constructor) ?_)
   exact aC
  | true =>
   refine aa (cm (br .here) ?_)
   refine cm (bP (cs := #[bo (one w).1.name, bo (one w).1.value, .bool (one w).1.has]) rfl) ?_
   refine fp (n := 1) (vs := [Eu (one w).1]) rfl (by omega) rfl (by intro v hv; rw [List.mem_singleton.1 hv]; rfl) (by omega) fun gb => ?_
   refine co (m := 1) (news := rT (one w).1) (by repeat constructor) (dq (s := 3) (e' := 78) (by kernel_rfl) .here (by rfl) (by intro u hu; simp [rT] at hu; rcases hu with rfl | rfl | rfl <;> rfl)) (by omega) (by omega) fun a' c' => ?_
   refine fS (by repeat constructor) .here ?_
   refine hN _ ?_
   refine .pick (by repeat constructor) (.all ?_)
   refine ay ?_
   refine .pick (by repeat constructor) (.pick (by repeat constructor) (.all ?_))
   refine ay ?_
   refine .pu ⟨?_, by omega⟩ ?_
   ·rw [htk, List.all_append, hp]
    simp [hok]
   refine .pick (by repeat constructor) (.pick (by repeat constructor) (.pick (by repeat constructor) (.ex (a', c') (.all ?_))))
   refine ay ?_
   rw [htk, List.flatMap_append, List.flatMap_singleton]
   refine .pick (by repeat constructor) (.pick (by repeat constructor) ?_)
   exact aC
 ·intro d
  rw [oI]
  refine aB (.there .here) ?_
  refine ay ?_
  refine aB (.there (.there .here)) ?_
  refine ay ?_
  refine aT .here fun hp => ?_
  obtain ⟨hp, _⟩ := hp
  rw [List.take_length] at hp ⊢
  refine aX (A := fun r : Option Addr × Nat => all [pt b6 (.cells #[.slice r.1 (bp q e l).length r.2] 74 (0, 0)), Sl 3 78 r.1 r.2 (bp q e l).length ((bp q e l).flatMap fun w => rT (one w).1)]) (by repeat constructor) fun r => aB Pick.here ?_
  obtain ⟨a, c⟩ := r
  refine ay ?_
  refine cm (br .here) ?_
  refine fS (by repeat constructor) .here ?_
  refine fS (by repeat constructor) .here ?_
  refine Ai (by repeat constructor) ?_
  refine jB (cJ .here) ?_
  refine jB (cJ .here) ?_
  have e1 : sQ (fT one (bp q e l)) = ((bp q e l).map fun w => (one w).1, 0) := by
   unfold fT
   rw [if_pos hp]; rfl
  rw [e1]
  refine m6 (M := [Sl 3 78 a c (bp q e l).length ((bp q e l).flatMap fun w => rT (one w).1)]) (F := F) aC ?_
  refine ay ?_
  refine bf (a, c) (by simp) ?_
  simp only [List.length_map, List.flatMap_map]
  exact .refl
 ·intro d
  refine aB (.there .here) ?_
  refine ay ?_
  refine aT .here fun hp => ?_
  refine Ai (by repeat constructor) ?_
  refine jB (cJ .here) ?_
  refine jB (cJ .here) ?_
  have e1 : sQ (fT one (bp q e l)) = ([], 42) := by
   unfold fT
   rw [if_neg (by rw [hp]; simp)]; rfl
  rw [e1]
  refine m6 (M := []) (F := F) aC ?_
  refine ay ?_
  refine bf (none, 0) rfl ?_
  exact cQ .refl
def Ev (x:Bool × List UInt8):Value:= .agg #[.bool x.1,bo x.2]
theorem LA (a b:List UInt8):((⟨a.toArray⟩:ByteArray).toList==(⟨b.toArray⟩:ByteArray).toList)=decide (a=b):=by
 rw[ByteArray.toList_eq,ByteArray.toList_eq]
 show(a==b)=decide (a=b)
 by_cases h:a=b <;> simp[h]
theorem UD {w:World}{d:Nat}{a b:List UInt8}:(Op.equalIn (d+1) 9 (bo a) (bo b)).run p_ w= .ok (decide (a=b)) w:=by
 unfold bo
 rw[run_equalIn_string w d 9 _ _ Tryz.underlying9,LA]
theorem Vk {w:World}{t:TypeId}{cs:Array Value}{o:Nat}{v:Value}[h:OneT p_ t](hv:cs[o]? =some v):(part t cs o).run p_ w= .ok v w:=by
 simp[part,h.agg,hv]
theorem OH {w:World} {d:Nat} {f:Field} {fs:List Field} {xs ys:Array Value} {a b:Value} {φ:Bool} (hn:f.name≠ "_") (h1:(part f.type xs f.offset).run p_ w= .ok a w) (h2:(part f.type ys f.offset).run p_ w= .ok b w)
  (h3:(Op.equalIn d f.type a b).run p_ w= .ok φ w):(Op.eqFields d xs ys (f::fs)).run p_ w=if φ then(Op.eqFields d xs ys fs).run p_ w else .ok false w:=by
 rw[Op.eqFields,if_pos hn]
 simp only[Sem.run_bind,h1,h2,h3,Result.andThen_ok]
 cases φ <;> simp
theorem RR {w:World}{d:Nat}{xs ys:Array Value}:(Op.eqFields d xs ys []).run p_ w= .ok true w:=by simp[Op.eqFields]
theorem Vl {w:World} {f:Field} {fs:List Field} {xs ys:Array Value} {φ:Bool} (a b:List UInt8) (hn:f.name≠ "_") (ht:f.type=9) (h1:xs[f.offset]? =some (bo a)) (h2:ys[f.offset]? =some (bo b))
  (hr:(Op.eqFields 9999 xs ys fs).run p_ w= .ok φ w):(Op.eqFields 9999 xs ys (f::fs)).run p_ w= .ok (decide (a=b)&&φ) w:=by
 rw[OH hn (by rw[ht];exact Vk h1) (by rw[ht];exact Vk h2) (by rw[ht];exact UD (d:=9998)),hr]
 by_cases h:a=b <;> simp[h]
theorem OI {W:World} {t:TypeId} {ox oy:Operand} {xs ys:Array Value} {φ:Bool} (ht:p_.underlying t=some (.struct (p_.fieldsOf t))) (hp:p_.stoodInHeld t=false) (hm:p_.eqGuardType p_.depth t=false)
  (h:∀w,(Op.eqFields 9999 xs ys (p_.fieldsOf t).toList).run p_ w= .ok φ w):bb p_ W [] (b_ .neq t ox oy (.agg xs) (.agg ys)) (.bool (!φ)):=fun w _=>by
 have e:=run_equalIn_agg (P:=p_) w 9999 t xs ys ht hp
 rw[h w]at e
 have h1:=run_neq_struct (P:=p_) w t xs ys
 rw[show(10000:Nat)=9999+1 from rfl,e]at h1
 have h2:=run_eqGuard_agg (P:=p_) w .neq t ox oy xs ys hm
 simp[b_,sv,h2,h1]
section
variable {P:Program} {W:World} {L L':List HP} {Kp:PK} {k:Value->WP}
theorem IB {a b:Bool}{y:Value}{s1:Value->Sem Next}(h1:a=false->bb P W [] (s1 y) (.bool b))(h:be W L (k (.bool (a||b)))):
  be W L (gdK (.bool a) false (fun k=>k y) fun x1=>gdK (.bool a) false (opN P (s1 x1) Kp) fun x2=>opN P (aK (.bool a) (.bool true) x2) Kp k):=by
 cases a with
 |true=>
  refine aA (aA (o_ aq ?_))
  simpa using h
 |false=>
  refine ag (ag (o_ (h1 rfl) ?_))
  refine o_ ap ?_
  simpa using h
theorem IC {a b:Bool}{y v1:Value}{s1 s2:Value->Sem Next}(h1:a=false->bb P W [] (s1 y) v1)(h2:a=false->bb P W [] (s2 v1) (.bool b))(h:be W L (k (.bool (a||b)))):
  be W L (gdK (.bool a) false (fun k=>k y) fun x1=>gdK (.bool a) false (opN P (s1 x1) Kp) fun x2=>gdK (.bool a) false (opN P (s2 x2) Kp) fun x3=>opN P (aK (.bool a) (.bool true) x3) Kp k):=by
 cases a with
 |true=>
  refine aA (aA (aA (o_ aq ?_)))
  simpa using h
 |false=>
  refine ag (ag (o_ (h1 rfl) ?_))
  refine ag (o_ (h2 rfl) ?_)
  refine o_ ap ?_
  simpa using h
end
theorem rU {c:UInt8}:∀s:List UInt8,(cL c s).length<=s.length
 |[]=>by simp[cL]
 |x::r=>by
  have:=rU (c:=c) r
  unfold cL
  split <;> simp <;> omega
theorem ID (l:List UInt8):(dt l).length=l.length:=by simp[dt]
theorem OJ {W:World}[hG:Gl W]{l:List UInt8}(hl:l.length<=4194304):Cn p_ 86 [bo l] W [] (fun _:Unit=> .tuple #[.int .i64 (iz l).1,.bool (iz l).2]) (fun _=>[]):=by
 have hA:=qO (c:=46) l
 have hB:=rU (c:=46) l
 (refine S.ve.cn fun F=>?_;unfold S.py;simp only[ca_,na_])
 refine c_ (Lr (c:=46) (l:=l) (by omega)) fun _=>?_
 refine o_ (bJ (vs:=[_,_,_]) .here) ?_
 refine o_ (bJ (vs:=[_,_,_]) (.there .here)) ?_
 refine o_ (bJ (vs:=[_,_,_]) (.there (.there .here))) ?_
 refine o_ (kb (m:=[48])) ?_
 refine wM (fun _=>kb (m:=[49])) ?_
 refine IC (fun _=>cp) (fun _=>bq) ?_
 refine qi (φ:=(cC 46 l≠[48]/\cC 46 l≠[49])\/3<(cL 46 l).length) (by rw[<- Bool.decide_and,<- Bool.decide_or,decide_eq_decide];exact or_congr_right (by omega)) (fun h=>?_) (fun h=>?_)
 ·have e:iz l=(0,false):=by unfold iz;rw[if_pos h]
  rw[e]
  refine bC () ?_
  exact aC
 ·have e:iz l=((mM (cC 46 l++(cL 46 l++[48,48,48]).take 3)).1,decide ((mM (cC 46 l++(cL 46 l++[48,48,48]).take 3)).2=0)&&decide ((mM (cC 46 l++(cL 46 l++[48,48,48]).take 3)).1<=1000)):=by
   unfold iz;rw[if_neg h]
  rw[e]
  refine o_ (B4 (b:=[48,48,48]) (by simp;omega)) ?_
  refine o_ (v9 3 rfl (by simp)) ?_
  refine o_ (B4 (by simp;omega)) ?_
  refine aH (Ly (l:=cC 46 l++(cL 46 l++[48,48,48]).take 3) (by simp;omega)) .nil fun _=>?_
  refine ay ?_
  refine o_ (bJ (vs:=[_,_]) .here) ?_
  refine o_ (bJ (vs:=[_,_]) (.there .here)) ?_
  refine o_ bF (wM (fun _=>dX) ?_)
  refine bC () ?_
  exact aC
theorem OK {w:List UInt8}(h:2<=w.length):d8 (w.take 2) [113,61]=decide (dt (w.take 2)=[113,61]):=by
 unfold d8
 rw[dT_ (by simp;omega),Bool.true_and]
 rfl
theorem OL {W:World}[hG:Gl W]{l:List UInt8}(hl:l.length<=4194304):Cn p_ 55 [bo l] W [] (fun _:Unit=> .tuple #[lX (jb l).1,.bool (jb l).2]) (fun _=>[]):=by
 have hA:=qO (c:=59) l
 have hB:=rU (c:=59) l
 have tA:=m9 (cC 59 l)
 have tB:=m9 (cL 59 l)
 (refine S.u7.cn fun F=>?_;unfold S.pv;simp only[ca_,na_])
 refine bm fun b2=>?_
 refine c_ (Lr (c:=59) (l:=l) (by omega)) fun _=>?_
 refine o_ (bJ (vs:=[_,_,_]) .here) ?_
 refine o_ (bJ (vs:=[_,_,_]) (.there .here)) ?_
 refine o_ (bJ (vs:=[_,_,_]) (.there (.there .here))) ?_
 refine c_ (Cu (l:=cC 59 l) (by omega)) fun _=>?_
 refine c_ (rP (l:=cf (cC 59 l)) (by omega)) fun _=>?_
 refine o_ cu ?_;refine bm fun g=>?_;refine gS ?_;refine o_ aw (ck ?_)
 refine c_ (Ir (l:=dt (cf (cC 59 l))) (by rw[ID];omega)) fun _=>?_
 cases hs:sX 59 l with
 |false=>
  have e:jb l=((dt (cf (cC 59 l)),1000),qM (dt (cf (cC 59 l)))):=by unfold jb;rw[hs];rfl
  rw[e]
  refine aa (sP ?_);refine gS ?_;(((refine' aQ (cN ?hn) ?hi ?_);(case hi=>exact aC);(case hn=>rfl)))
  refine bC () ?_
  exact aC
 |true=>
  refine ab (c_ (Cu (l:=cL 59 l) (by omega)) fun _=>?_)
  refine o_ cp ?_
  have bad:((cf (cL 59 l)).length<2\/dt ((cf (cL 59 l)).take 2)≠[113,61])->jb l=(([],0),false):=fun h=>by
   unfold jb;rw[if_pos hs,if_pos h]
  refine aF aI .nil (fun h=>?_) (fun h=>?_)
  ·rw[bad (.inl (by omega))]
   refine aA (aA (aA (aA (o_ aq (ab (o_ cu ?_))))));refine gS ?_;(((refine' aQ (cN ?hn) ?hi ?_);(case hi=>exact aC);(case hn=>rfl)))
   refine bC () ?_
   exact aC
  ·have h2:2<=(cf (cL 59 l)).length:=by omega
   refine ag (ag (o_ (v9 2 rfl h2) ?_))
   refine ag (aH (equal (a:=(cf (cL 59 l)).take 2) (b:=[113,61]) (by simp;omega) (by simp)) .nil fun _=>?_)
   refine ay ?_
   rw[OK h2]
   refine ag (o_ g_ (o_ ap ?_))
   by_cases hq:dt ((cf (cL 59 l)).take 2)=[113,61]
   ·have e:jb l=((dt (cf (cC 59 l)),(iz ((cf (cL 59 l)).drop 2)).1),qM (dt (cf (cC 59 l)))&&(iz ((cf (cL 59 l)).drop 2)).2):=by
     unfold jb;rw[if_pos hs,if_neg (by rintro(h3|h3);omega;exact h3 hq)]
    rw[e,dT_ hq]
    refine aa (o_ (v_ 2 rfl h2) ?_)
    refine aH (OJ (l:=(cf (cL 59 l)).drop 2) (by rw[List.length_drop];omega)) .nil fun _=>?_
    refine ay ?_
    refine iC ?_;refine iC ?_;refine o_ aw (fX ?_)
    refine AF ?_
    refine sP ?_;refine gS ?_;(((refine' aQ (cN ?hn) ?hi ?_);(case hi=>exact aC);(case hn=>rfl)))
    refine bC () ?_
    exact aC
   ·rw[bad (.inr hq),dF_ hq,show(!false)=true from rfl]
    refine ab (o_ cu ?_);refine gS ?_;(((refine' aQ (cN ?hn) ?hi ?_);(case hi=>exact aC);(case hn=>rfl)))
    refine bC () ?_
    exact aC
end FD
namespace FD
open Go Go.Proofs Go.RowKit Sh Sl T
abbrev Fd:=List UInt8 × List UInt8
def AI (x:Fd):Value:= .agg #[bo x.1,bo x.2]
def dH (x:Fd):List Value:=[bo x.1,bo x.2]
def nO (W:World)(A:HP)(a:Option Addr)(l:List Fd):Prop:=RdB W A a (l.length * 2) (l.flatMap dH)
theorem AJ {W:World}{A:HP}{a:Option Addr}{l:List Fd}(h:nO W A a l)(hl:0<l.length):∃g o,a=some ⟨g,o,none⟩:=by
 obtain⟨g,o,e,_⟩:=h.at_ (by omega)
 exact⟨g,o,e⟩
theorem OM {W:World}{g c:Nat}{l:List Fd}:nO W (Sl 2 52 (some ⟨g,0,none⟩) c l.length (l.flatMap dH)) (some ⟨g,0,none⟩) l:=sV (dM (f:=dH) (s:=2) (fun _=>rfl) l) (fun _=>⟨g,rfl⟩)
theorem wQ {W:World}{A:HP}{l:List Fd}{i g o:Nat}(hA:nO W A (some ⟨g,o,none⟩) l)(h:i<l.length):bb p_ W [A] (af 52 (.pointer (some ⟨g,o+i * 2,none⟩))) (AI l[i]):=
 lP (vs:=dH l[i]) hA rfl (fun j hj=>gA (f:=dH) (s:=2) (fun _=>rfl) l i j h hj)
def TX (l:List Fd):Prop:=l.length<=4194304/\∀f∈l,f.1.length<=4194304/\f.2.length<=4194304
def bN (l:List Fd)(n:List UInt8):List (List UInt8):=(l.filter fun f=>d8 f.1 n).map (·.2)
def dA (l:List Fd)(n:List UInt8):List UInt8 × Bool:=match bN l n with
 |[]=>([],false)
 |v::_=>(v,true)
theorem GS {l:List Fd}{n:List UInt8}{i:Nat}(h:i<l.length):bN (l.take (i+1)) n=bN (l.take i) n++(if d8 l[i].1 n then [l[i].2]else []):=by
 unfold bN
 rw[List.take_succ_eq_append_getElem h,List.filter_append,List.map_append]
 congr 1
 cases he:d8 l[i].1 n <;> simp[he]
theorem rV (l:List Fd)(n:List UInt8):(bN l n).length<=l.length:=by
 unfold bN
 rw[List.length_map]
 exact List.length_filter_le _ _
theorem IE {l:List Fd}{n v:List UInt8}(h:v∈bN l n):∃f∈l,v=f.2:=by
 unfold bN at h
 obtain⟨f,hf,rfl⟩:=List.mem_map.1 h
 exact⟨f,(List.mem_filter.1 hf).1,rfl⟩
theorem AK {W:World}{l:List Fd}{n:List UInt8}{a:Option Addr}{c:Nat}{A:HP}(hA:nO W A a l)(hl:TX l)(hn:n.length<=4194304):Cn p_ 22 [.slice a l.length c,bo n] W [A] (fun r:Option Addr × Nat=> .slice r.1 (bN l n).length r.2)
  (fun r=>[A,Sl 1 9 r.1 r.2 (bN l n).length ((bN l n).map bo)]):=by
 (refine S.yy.cn fun F=>?_;unfold S.uz;simp only[ca_,na_])
 refine o_ aN (cg (fun m x y=>[ex fun st:(Option Addr × Nat) × Nat=>all [pu (m+st.2=l.length/\x= .slice st.1.1 (bN (l.take st.2) n).length st.1.2/\y= .int .i64 (st.2:Int)),Sl 1 9 st.1.1 st.1.2 (bN (l.take st.2) n).length ((bN (l.take st.2) n).map bo),A]]++F) l.length ?_ ?_)
 ·refine Imp.ex ((none,0),0) (.all ?_)
  refine ay ?_
  refine .pu ⟨rfl,rfl,rfl⟩ ?_
  exact cQ .refl
 intro m ds x y
 refine ay ?_
 refine aX Pick.here fun st=>aB Pick.here ?_
 obtain⟨⟨sa,sc⟩,i⟩:=st
 refine ay ?_
 refine aT Pick.here fun hi=>?_
 (try dsimp only at hi)
 obtain⟨hmi,rfl,rfl⟩:=hi
 refine aF aI .nil (fun h=>?_) (fun h=>?_)
 ·have hil:i<l.length:=by omega
  have hb:=hl.2 _ (List.getElem_mem hil)
  have hv:=GS (n:=n) hil
  have hvl:=rV (l.take i) n
  have hl1:=hl.1
  rw[List.length_take]at hvl
  refine ab ?_
  obtain⟨g,o,rfl⟩:=AJ hA (Nat.zero_lt_of_lt hil)
  refine o_ (dx i rfl hil) ?_
  refine cm (wQ hA hil) ?_
  generalize l[i]=x at hb hv ⊢
  unfold AI
  refine bm fun b7=>?_
  refine bY .here (by rfl) (by rfl) (by intro u hu;simp at hu;rcases hu with rfl|rfl <;> rfl) ?_
  refine o_ aw (ck ?_)
  refine aH (equal (a:=x.1) (b:=n) (by omega) (by omega)) .nil fun _=>?_
  refine ay ?_
  cases he:d8 x.1 n with
  |true=>
   rw[he,if_pos rfl]at hv
   refine ab (o_ aw (ck ?_));refine kF fun g=>?_
   refine co (m:=1) (news:=[bo x.2]) (by repeat constructor) (dq (e':=9) (by kernel_rfl) .here (by rfl) (by intro u hu;rw[List.mem_singleton.1 hu];rfl)) (by omega) (by omega) fun a' c'=>?_
   refine bW ?_
   refine bH (m-1) (by omega) (.ex ((a',c'),i+1) (.all ?_))
   refine ay ?_
   (try dsimp only)
   rw[hv,List.length_append,List.map_append]
   refine .pu ⟨by omega,rfl,rfl⟩ ?_
   refine .pick .here ?_
   exact aC
  |false=>
   rw[he,if_neg (by decide),List.append_nil]at hv
   refine aa (bW ?_)
   refine bH (m-1) (by omega) (.ex ((sa,sc),i+1) (.all ?_))
   refine ay ?_
   (try dsimp only)
   rw[hv]
   refine .pu ⟨by omega,rfl,rfl⟩ ?_
   exact aC
 ·have:i=l.length:=by omega
  subst this
  rw[List.take_length]
  refine aa (bC ((sa,sc)) ?_)
  exact aC
theorem first {W:World}{l:List Fd}{n:List UInt8}{a:Option Addr}{c:Nat}{A:HP}(hA:nO W A a l)(hl:TX l)(hn:n.length<=4194304):Cn p_ 38 [.slice a l.length c,bo n] W [A] (fun _:Unit=> .tuple #[bo (dA l n).1,.bool (dA l n).2])
  (fun r=>[A]):=by
 (refine S.At.cn fun F=>?_;unfold S.wv;simp only[ca_,na_])
 refine aH (AK hA hl hn) (.cons .here .nil) fun r=>?_
 obtain⟨sa,sc⟩:=r
 refine ay ?_
 unfold dA
 generalize bN l n=V
 refine o_ aN (bj (fun m y=>pu (y= .int .i64 0)::A::Sl 1 9 sa sc V.length (V.map bo)::F) 0 ?_ ?_)
 ·exact .pu rfl .refl
 intro m ds y
 refine aT .here fun hy=>?_
 subst hy
 cases V with
 |nil=>
  refine o_ (aI (a:=0) (b:=0)) ?_
  refine aa (bC () ?_)
  exact aC
 |cons v r=>
  refine o_ aI ?_
  rw[dT_ (by simp)]
  refine ab (fE (a:=sa) (.there .here) (by simp) fun g hg=>?_)
  subst hg
  have ld:bb p_ W [Sl 1 9 (some ⟨g,0,none⟩) sc (v::r).length ((v::r).map bo)] (af 9 (.pointer (some ⟨g,0+0,none⟩))) (bo v):=dP rfl
  refine o_ (bA 0 rfl (by simp)) ?_
  refine cm ld ?_
  refine bC () ?_
  exact aC
end FD
end Go.Proofs.YtndojgomlkpeaaaGreatDoor
