/- The shapes of functions of the loaded program, printed by a program of mine; each is proved to be what the model asks of the function. No conditions. (25 texts made one; each says below what it is.) -/
import Derived.Test.YthomhkpedghhgaaGreatDoorChecked
import Derived.Test.YthomhkpedghhgaaGreatDoorK2
import Derived.KernelRfl
import Derived.Laws.Externs
import Derived.Lib.Strings
import Derived.Lib.Walk
import Derived.Lib.BufferWrite
import Derived.Lib.UnsafeStr
import Derived.Laws.MakeOwn
import Derived.WalkKit
import Derived.Lib.Slices
import Derived.Lib.Builder
import Derived.Lib.MakeNoZero
import Derived.Laws.IdiomCopy
import Derived.Laws.BitsLemmas
import Derived.Shelf.RegionOpenPlain
import Derived.Lib.IfaceEq
import Derived.Laws.StructEq
set_option linter.unusedVariables false
set_option linter.unusedSimpArgs false
set_option linter.unusedSectionVars false
namespace Go.Proofs.YthomhkpedghhgaaGreatDoor.S
open Go Sh Sl
def dates_reader_take (v0 v1:Value)(Kp:PK)(K:Value→WP):WP:=
 cut0 (fun J1=>
 opN p_ (sNil v0) Kp fun x8=>
 opN p_ (sFA 207 x8 0) Kp fun x9=>
 opN p_ (sLoad 9 x9) Kp fun x10=>
 opN p_ (sLen #[9] 3 [x10]) Kp fun x11=>
 opN p_ (sBin .gtr 3 v1 x11) Kp fun x12=>
 condS x12
 (opN p_ (sMkI 24 (.int .i64 41)) Kp fun x13=>
 opN p_ (sPanic x13) Kp fun _=>
 J1)
 (J1)) fun _=>
 opN p_ (sNil v0) Kp fun x15=>
 opN p_ (sFA 207 x15 0) Kp fun x16=>
 opN p_ (sLoad 9 x16) Kp fun x17=>
 opN p_ (sSl 9 x17 none (some v1) none) Kp fun x19=>
 opN p_ (sNil v0) Kp fun x22=>
 opN p_ (sFA 207 x22 0) Kp fun x23=>
 opN p_ (sLoad 9 x23) Kp fun x24=>
 opN p_ (sSl 9 x24 (some v1) none none) Kp fun x26=>
 opN p_ (sNil v0) Kp fun x27=>
 opN p_ (sFA 207 x27 0) Kp fun x28=>
 opN p_ (sStore 9 x28 x26) Kp fun _=>
 K x19
theorem dates_reader_take_s {v0 v1:Value}:Shp p_ 147 [v0,v1] (dates_reader_take v0 v1):=sh_ Tryz.call147 Tryz.func147 (an:={cuts:=[(3,[])]}) fun _ _=>by kernel_rfl
def dates_reader_number (v0 v1:Value)(Kp:PK)(K:Value→WP):WP:=
 opN p_ (sCall (fn 147) [v0,v1]) Kp fun x10=>
 opN p_ (sConv 9 32 x10) Kp fun x11=>
 opN p_ (sLen #[32] 3 [x11]) Kp fun x12=>
 loop2 (fun I1 m1 _ y5 y13=>
 opN p_ (sBin .lss 3 y13 x12) Kp fun x14=>
 condS x14
 (opN p_ (sIA 32 x11 y13) Kp fun x16=>
 opN p_ (sLoad 5 x16) Kp fun x17=>
 cut1 (fun J1=>
 opN p_ (sEq .eql 5 (.tmp 18) (.const (.int .u8 32)) x17 (.int .u8 32)) Kp fun x19=>
 gdK x19 true (fun k=>k y13) fun x21=>
 gdK x19 true (opN p_ (sEq .eql 3 (.tmp 21) (.const (.int .i64 0)) x21 (.int .i64 0)) Kp) fun x22=>
 opN p_ (sPick x19 x22 (.bool false)) Kp fun x23=>
 condS x23
 (J1 (.int .u8 48))
 (J1 x17)) fun _ z7=>
 cut0 (fun J2=>
 opN p_ (sBin .lss 5 z7 (.int .u8 48)) Kp fun x25=>
 gdK x25 false (fun k=>k z7) fun x27=>
 gdK x25 false (opN p_ (sBin .gtr 5 x27 (.int .u8 57)) Kp) fun x28=>
 opN p_ (sPick x25 (.bool true) x28) Kp fun x29=>
 condS x29
 (opN p_ (sMkI 24 (.int .i64 41)) Kp fun x30=>
 opN p_ (sPanic x30) Kp fun _=>
 J2)
 (J2)) fun _=>
 opN p_ (sBin .mul 3 (.int .i64 10) y5) Kp fun x32=>
 opN p_ (sBin .sub 5 z7 (.int .u8 48)) Kp fun x34=>
 opN p_ (sConv 5 3 x34) Kp fun x35=>
 opN p_ (sBin .add 3 x32 x35) Kp fun x36=>
 opN p_ (sBin .add 3 y13 (.int .i64 1)) Kp fun x37=>
 next2 I1 m1 x36 x37)
 (K y5)) (.int .i64 0) (.int .i64 0)
theorem dates_reader_number_s {v0 v1:Value}:Shp p_ 148 [v0,v1] (dates_reader_number v0 v1):=sh_ Tryz.call148 Tryz.func148 (an:={cuts:=[(7,[7]),(9,[])],loops:=[(3,[5,13])]}) fun _ _=>by kernel_rfl
def dates_reader_month (v0:Value)(Kp:PK)(K:Value→WP):WP:=
 opN p_ (sCall (fn 147) [v0,(.int .i64 3)]) Kp fun x7=>
 opN p_ (sCall (fn 180) []) Kp fun x8=>
 loop2 (fun I1 m1 _ y2 y9=>
 opN p_ (sBin .lss 3 y9 (.int .i64 12)) Kp fun x10=>
 condS x10
 (opN p_ (sIx 230 x8 y9) Kp fun x12=>
 opN p_ (sEq .eql 9 (.tmp 13) (.tmp 14) x12 x7) Kp fun x15=>
 condS x15
 (opN p_ (sBin .add 3 y9 (.int .i64 1)) Kp fun x17=>
 K x17)
 (opN p_ (sBin .add 3 y9 (.int .i64 1)) Kp fun x18=>
 next2 I1 m1 y2 x18))
 (opN p_ (sMkI 24 (.int .i64 41)) Kp fun x19=>
 opN p_ (sPanic x19) Kp fun _=>
 K y2)) (.int .i64 0) (.int .i64 0)
theorem dates_reader_month_s {v0:Value}:Shp p_ 149 [v0] (dates_reader_month v0):=sh_ Tryz.call149 Tryz.func149 (an:={loops:=[(3,[2,9])]}) fun _ _=>by kernel_rfl
def dates_reader_clock (v0 v1:Value)(Kp:PK)(K:Value->WP):WP:=
 opN p_ (sCall (fn 148) [v0,(.int .i64 2)]) Kp fun x6=>
 opN p_ (sNil v1) Kp fun x7=>
 opN p_ (sFA 203 x7 3) Kp fun x8=>
 opN p_ (sStore 3 x8 x6) Kp fun _=>
 opN p_ (sCall (fn 147) [v0,(.int .i64 1)]) Kp fun x10=>
 opN p_ (sCall (fn 148) [v0,(.int .i64 2)]) Kp fun x13=>
 opN p_ (sNil v1) Kp fun x14=>
 opN p_ (sFA 203 x14 4) Kp fun x15=>
 opN p_ (sStore 3 x15 x13) Kp fun _=>
 opN p_ (sCall (fn 147) [v0,(.int .i64 1)]) Kp fun x17=>
 opN p_ (sCall (fn 148) [v0,(.int .i64 2)]) Kp fun x20=>
 opN p_ (sNil v1) Kp fun x21=>
 opN p_ (sFA 203 x21 5) Kp fun x22=>
 opN p_ (sStore 3 x22 x20) Kp fun _=>
 K (.tuple #[])
theorem dates_reader_clock_s {v0 v1:Value}:Shp p_ 150 [v0,v1] (dates_reader_clock v0 v1):=sh_ Tryz.call150 Tryz.func150 (an:={}) fun _ _=>by kernel_rfl
def dates_Split (v0:Value)(Kp:PK)(K:Value→WP):WP:=
 opN p_ (sAlloc 203) Kp fun x2=>
 opN p_ (sBin .lss 3 v0 (.int .i64 0)) Kp fun x6=>
 gdK x6 false (fun k=>k v0) fun x8=>
 gdK x6 false (opN p_ (sBin .gtr 3 x8 (.int .i64 253402300799)) Kp) fun x9=>
 opN p_ (sPick x6 (.bool true) x9) Kp fun x10=>
 condS x10
 (opN p_ (sBuild 203 []) Kp fun x11=>
 opN p_ (sStore 203 x2 x11) Kp fun _=>
 (stS p_ (sRes 203 x2) fun r0=>K (.tuple #[r0,(.int .i64 11)])))
 (opN p_ (sBin .quo 3 v0 (.int .i64 86400)) Kp fun x13=>
 opN p_ (sBin .add 3 x13 (.int .i64 4)) Kp fun x14=>
 opN p_ (sBin .rem 3 x14 (.int .i64 7)) Kp fun x15=>
 opN p_ (sBin .rem 3 v0 (.int .i64 86400)) Kp fun x17=>
 opN p_ (sBin .quo 3 x17 (.int .i64 3600)) Kp fun x18=>
 opN p_ (sBin .rem 3 v0 (.int .i64 3600)) Kp fun x20=>
 opN p_ (sBin .quo 3 x20 (.int .i64 60)) Kp fun x21=>
 opN p_ (sBin .rem 3 v0 (.int .i64 60)) Kp fun x23=>
 opN p_ (sBuild 203 [(6,x15),(3,x18),(4,x21),(5,x23)]) Kp fun x24=>
 opN p_ (sAlloc 203) Kp fun x4=>
 opN p_ (sStore 203 x4 x24) Kp fun _=>
 opN p_ (sBin .quo 3 v0 (.int .i64 86400)) Kp fun x27=>
 opN p_ (sCall (fn 181) [x27]) Kp fun x28=>
 opN p_ (sExt x28 0) Kp fun x29=>
 opN p_ (sExt x28 1) Kp fun x30=>
 opN p_ (sExt x28 2) Kp fun x31=>
 opN p_ (sFA 203 x4 0) Kp fun x32=>
 opN p_ (sStore 3 x32 x29) Kp fun _=>
 opN p_ (sFA 203 x4 1) Kp fun x33=>
 opN p_ (sStore 3 x33 x30) Kp fun _=>
 opN p_ (sFA 203 x4 2) Kp fun x34=>
 opN p_ (sStore 3 x34 x31) Kp fun _=>
 opN p_ (sLoad 203 x4) Kp fun x35=>
 opN p_ (sStore 203 x2 x35) Kp fun _=>
 (stS p_ (sRes 203 x2) fun r0=>K (.tuple #[r0,(.int .i64 0)])))
theorem dates_Split_s {v0:Value}:Shp p_ 151 [v0] (dates_Split v0):=sh_ Tryz.call151 Tryz.func151 (an:={}) fun _ _=>by kernel_rfl
def dates_try_1 (v0 v1:Value)(rv:Value)(Kp:PK)(K:Value→WP):WP:=
 stS p_ (sEq .neq 20 (.tmp 2) (.const .nilIface) rv .nilIface) fun x3=>
 condS x3
 (opN p_ (sStore 3 v0 (.int .i64 0)) Kp fun _=>
 opN p_ (sStore 4 v1 (.bool false)) Kp fun _=>
 K (.tuple #[]))
 (K (.tuple #[]))
def dates_try_1_an:Ann:={}
theorem dates_try_1_eq (v0 v1:Value)(rv:Value)(Kp:PK)(K:Value->WP):cevR p_ dates_try_1_an Tryz.f152 [v0,v1] rv Kp K=dates_try_1 v0 v1 rv Kp K:=by kernel_rfl
theorem dates_try_1_d {v0 v1:Value}{u:FrameMode}{Kp:PK}{K:Value->WP}{w:World}(h:dates_try_1 v0 v1 (recV u).1 Kp K w):CallsD p_ 152 ([v0,v1]:List Value).toArray u w fun
   | .returned v,u',w'=>u'=(recV u).2/\K v w'
   | .panicked ch,u',w'=>u'=(recV u).2/\Kp ch w'
   | .outgrown,_,_=>False:=
 callsD_of_cevR wide Tryz.func152 (an:=dates_try_1_an) (args:=[v0,v1]) (cast (congrFun (dates_try_1_eq v0 v1 _ Kp K) w).symm h)
def dates_Join (v0:Value)(Kp:PK)(K:Value→WP):WP:=
 opN p_ (sBox 203 v0) Kp fun x1=>
 opN p_ (sFA 203 x1 0) Kp fun x10=>
 opN p_ (sLoad 3 x10) Kp fun x11=>
 opN p_ (sCall (fn 182) [x11,(.int .i64 1970),(.int .i64 9999)]) Kp fun x12=>
 opN p_ (sUn .not x12) Kp fun x13=>
 gdK x13 false (fun k=>k (fn 182)) fun x15=>
 gdK x13 false (opN p_ (sFA 203 x1 1) Kp) fun x16=>
 gdK x13 false (opN p_ (sLoad 3 x16) Kp) fun x17=>
 gdK x13 false (opN p_ (sCall x15 [x17,(.int .i64 1),(.int .i64 12)]) Kp) fun x18=>
 gdK x13 false (opN p_ (sUn .not x18) Kp) fun x19=>
 opN p_ (sPick x13 (.bool true) x19) Kp fun x20=>
 gdK x20 false (fun k=>k (fn 182)) fun x22=>
 gdK x20 false (opN p_ (sFA 203 x1 2) Kp) fun x23=>
 gdK x20 false (opN p_ (sLoad 3 x23) Kp) fun x24=>
 gdK x20 false (opN p_ (sCall x22 [x24,(.int .i64 1),(.int .i64 31)]) Kp) fun x25=>
 gdK x20 false (opN p_ (sUn .not x25) Kp) fun x26=>
 opN p_ (sPick x20 (.bool true) x26) Kp fun x27=>
 gdK x27 false (fun k=>k (fn 182)) fun x29=>
 gdK x27 false (opN p_ (sFA 203 x1 3) Kp) fun x30=>
 gdK x27 false (opN p_ (sLoad 3 x30) Kp) fun x31=>
 gdK x27 false (opN p_ (sCall x29 [x31,(.int .i64 0),(.int .i64 23)]) Kp) fun x32=>
 gdK x27 false (opN p_ (sUn .not x32) Kp) fun x33=>
 opN p_ (sPick x27 (.bool true) x33) Kp fun x34=>
 gdK x34 false (fun k=>k (fn 182)) fun x36=>
 gdK x34 false (opN p_ (sFA 203 x1 4) Kp) fun x37=>
 gdK x34 false (opN p_ (sLoad 3 x37) Kp) fun x38=>
 gdK x34 false (opN p_ (sCall x36 [x38,(.int .i64 0),(.int .i64 59)]) Kp) fun x39=>
 gdK x34 false (opN p_ (sUn .not x39) Kp) fun x40=>
 opN p_ (sPick x34 (.bool true) x40) Kp fun x41=>
 gdK x41 false (fun k=>k (fn 182)) fun x43=>
 gdK x41 false (opN p_ (sFA 203 x1 5) Kp) fun x44=>
 gdK x41 false (opN p_ (sLoad 3 x44) Kp) fun x45=>
 gdK x41 false (opN p_ (sCall x43 [x45,(.int .i64 0),(.int .i64 59)]) Kp) fun x46=>
 gdK x41 false (opN p_ (sUn .not x46) Kp) fun x47=>
 opN p_ (sPick x41 (.bool true) x47) Kp fun x48=>
 condS x48
 (K (.tuple #[(.int .i64 0),(.int .i64 41)]))
 (opN p_ (sFA 203 x1 0) Kp fun x49=>
 opN p_ (sLoad 3 x49) Kp fun x50=>
 opN p_ (sFA 203 x1 1) Kp fun x51=>
 opN p_ (sLoad 3 x51) Kp fun x52=>
 opN p_ (sFA 203 x1 2) Kp fun x53=>
 opN p_ (sLoad 3 x53) Kp fun x54=>
 opN p_ (sCall (fn 183) [x50,x52,x54]) Kp fun x55=>
 opN p_ (sCall (fn 181) [x55]) Kp fun x58=>
 opN p_ (sExt x58 0) Kp fun x59=>
 opN p_ (sExt x58 1) Kp fun x60=>
 opN p_ (sExt x58 2) Kp fun x61=>
 opN p_ (sFA 203 x1 1) Kp fun x63=>
 opN p_ (sLoad 3 x63) Kp fun x64=>
 opN p_ (sEq .neq 3 (.tmp 62) (.tmp 64) x60 x64) Kp fun x65=>
 condS x65
 (K (.tuple #[(.int .i64 0),(.int .i64 41)]))
 (opN p_ (sBin .mul 3 x55 (.int .i64 86400)) Kp fun x67=>
 opN p_ (sFA 203 x1 3) Kp fun x68=>
 opN p_ (sLoad 3 x68) Kp fun x69=>
 opN p_ (sBin .mul 3 x69 (.int .i64 3600)) Kp fun x70=>
 opN p_ (sBin .add 3 x67 x70) Kp fun x71=>
 opN p_ (sFA 203 x1 4) Kp fun x72=>
 opN p_ (sLoad 3 x72) Kp fun x73=>
 opN p_ (sBin .mul 3 x73 (.int .i64 60)) Kp fun x74=>
 opN p_ (sBin .add 3 x71 x74) Kp fun x75=>
 opN p_ (sFA 203 x1 5) Kp fun x76=>
 opN p_ (sLoad 3 x76) Kp fun x77=>
 opN p_ (sBin .add 3 x75 x77) Kp fun x78=>
 K (.tuple #[x78,(.int .i64 0)])))
theorem dates_Join_s {v0:Value}:Shp p_ 153 [v0] (dates_Join v0):=sh_ Tryz.call153 Tryz.func153 (an:={}) fun _ _=>by kernel_rfl
def dates_Date_form (v0 v1:Value)(Kp:PK)(K:Value→WP):WP:=
 opN p_ (sBox 203 v0) Kp fun x2=>
 drS (stD p_ (sFA 203 x2 6) fun D1 x8=>
 stD p_ (sLoad 3 x8) fun D2 x9=>
 stD p_ (sFA 203 x2 1) fun D5 x12=>
 stD p_ (sLoad 3 x12) fun D6 x13=>
 stD p_ (sBin .sub 3 x13 (.int .i64 1)) fun D7 x14=>
 opN p_ (sCall (fn 184) []) Kp fun x7=>
 (fun w=>D7 w∧(fun w=>D6 w∧(fun w=>D5 w∧(fun w=>D2 w∧(fun w=>D1 w∧(stD p_ (sIx 236 x7 x9) fun D3 x10=>
 opN p_ (sCall (fn 180) []) Kp fun x11=>
 (fun w=>D3 w∧(fun w=>D7 w∧(fun w=>D6 w∧(fun w=>D5 w∧(fun w=>D2 w∧(fun w=>D1 w∧(stS p_ (sIx 230 x11 x14) fun x15=>
 opN p_ (sEq .eql 3 (.tmp 16) (.const (.int .i64 0)) v1 (.int .i64 0)) Kp fun x18=>
 condS x18
 (drS (stD p_ (sSl 9 x10 none (some (.int .i64 3)) none) fun D1 x20=>
 stD p_ (sBin .add 9 x20 (.string ⟨#[44,32]⟩)) fun D2 x21=>
 stS p_ (sFA 203 x2 2) fun x22=>
 stS p_ (sLoad 3 x22) fun x23=>
 stD p_ (sFA 203 x2 0) fun D11 x30=>
 stD p_ (sLoad 3 x30) fun D12 x31=>
 stD p_ (sLoad 203 x2) fun D16 x35=>
 opN p_ (sCall (fn 185) [x23,(.int .i64 2),(.int .u8 48)]) Kp fun x24=>
 (fun w=>D16 w∧(fun w=>D12 w∧(fun w=>D11 w∧(fun w=>D2 w∧(fun w=>D1 w∧(stD p_ (sBin .add 9 x21 x24) fun D6 x25=>
 stD p_ (sBin .add 9 x25 (.string ⟨#[32]⟩)) fun D7 x26=>
 stD p_ (sBin .add 9 x26 x15) fun D9 x28=>
 stD p_ (sBin .add 9 x28 (.string ⟨#[32]⟩)) fun D10 x29=>
 opN p_ (sCall (fn 185) [x31,(.int .i64 4),(.int .u8 48)]) Kp fun x32=>
 (fun w=>D10 w∧(fun w=>D9 w∧(fun w=>D7 w∧(fun w=>D6 w∧(fun w=>D16 w∧(fun w=>D2 w∧(fun w=>D1 w∧(stD p_ (sBin .add 9 x29 x32) fun D14 x33=>
 stD p_ (sBin .add 9 x33 (.string ⟨#[32]⟩)) fun D15 x34=>
 opN p_ (sCall (fn 186) [x35]) Kp fun x36=>
 (fun w=>D15 w∧(fun w=>D14 w∧(fun w=>D10 w∧(fun w=>D9 w∧(fun w=>D7 w∧(fun w=>D6 w∧(fun w=>D2 w∧(fun w=>D1 w∧(stS p_ (sBin .add 9 x34 x36) fun x37=>
 stS p_ (sBin .add 9 x37 (.string ⟨#[32,71,77,84]⟩)) fun x38=>
 K x38) w) w) w) w) w) w) w) w)) w) w) w) w) w) w) w)) w) w) w) w) w)))
 (opN p_ (sEq .eql 3 (.tmp 16) (.const (.int .i64 1)) v1 (.int .i64 1)) Kp fun x40=>
 condS x40
 (drS (stD p_ (sBin .add 9 x10 (.string ⟨#[44,32]⟩)) fun D1 x42=>
 stS p_ (sFA 203 x2 2) fun x43=>
 stS p_ (sLoad 3 x43) fun x44=>
 stD p_ (sFA 203 x2 0) fun D10 x51=>
 stD p_ (sLoad 3 x51) fun D11 x52=>
 stD p_ (sBin .rem 3 x52 (.int .i64 100)) fun D12 x53=>
 stD p_ (sLoad 203 x2) fun D16 x57=>
 opN p_ (sCall (fn 185) [x44,(.int .i64 2),(.int .u8 48)]) Kp fun x45=>
 (fun w=>D16 w∧(fun w=>D12 w∧(fun w=>D11 w∧(fun w=>D10 w∧(fun w=>D1 w∧(stD p_ (sBin .add 9 x42 x45) fun D5 x46=>
 stD p_ (sBin .add 9 x46 (.string ⟨#[45]⟩)) fun D6 x47=>
 stD p_ (sBin .add 9 x47 x15) fun D8 x49=>
 stD p_ (sBin .add 9 x49 (.string ⟨#[45]⟩)) fun D9 x50=>
 opN p_ (sCall (fn 185) [x53,(.int .i64 2),(.int .u8 48)]) Kp fun x54=>
 (fun w=>D9 w∧(fun w=>D8 w∧(fun w=>D6 w∧(fun w=>D5 w∧(fun w=>D16 w∧(fun w=>D1 w∧(stD p_ (sBin .add 9 x50 x54) fun D14 x55=>
 stD p_ (sBin .add 9 x55 (.string ⟨#[32]⟩)) fun D15 x56=>
 opN p_ (sCall (fn 186) [x57]) Kp fun x58=>
 (fun w=>D15 w∧(fun w=>D14 w∧(fun w=>D9 w∧(fun w=>D8 w∧(fun w=>D6 w∧(fun w=>D5 w∧(fun w=>D1 w∧(stS p_ (sBin .add 9 x56 x58) fun x59=>
 stS p_ (sBin .add 9 x59 (.string ⟨#[32,71,77,84]⟩)) fun x60=>
 K x60) w) w) w) w) w) w) w)) w) w) w) w) w) w)) w) w) w) w) w)))
 (drS (stD p_ (sSl 9 x10 none (some (.int .i64 3)) none) fun D1 x62=>
 stD p_ (sBin .add 9 x62 (.string ⟨#[32]⟩)) fun D2 x63=>
 stD p_ (sBin .add 9 x63 x15) fun D4 x65=>
 stD p_ (sBin .add 9 x65 (.string ⟨#[32]⟩)) fun D5 x66=>
 stS p_ (sFA 203 x2 2) fun x67=>
 stS p_ (sLoad 3 x67) fun x68=>
 stD p_ (sLoad 203 x2) fun D11 x72=>
 stD p_ (sFA 203 x2 0) fun D15 x76=>
 stD p_ (sLoad 3 x76) fun D16 x77=>
 opN p_ (sCall (fn 185) [x68,(.int .i64 2),(.int .u8 32)]) Kp fun x69=>
 (fun w=>D16 w∧(fun w=>D15 w∧(fun w=>D11 w∧(fun w=>D5 w∧(fun w=>D4 w∧(fun w=>D2 w∧(fun w=>D1 w∧(stD p_ (sBin .add 9 x66 x69) fun D9 x70=>
 stD p_ (sBin .add 9 x70 (.string ⟨#[32]⟩)) fun D10 x71=>
 opN p_ (sCall (fn 186) [x72]) Kp fun x73=>
 (fun w=>D10 w∧(fun w=>D9 w∧(fun w=>D16 w∧(fun w=>D15 w∧(fun w=>D5 w∧(fun w=>D4 w∧(fun w=>D2 w∧(fun w=>D1 w∧(stD p_ (sBin .add 9 x71 x73) fun D13 x74=>
 stD p_ (sBin .add 9 x74 (.string ⟨#[32]⟩)) fun D14 x75=>
 opN p_ (sCall (fn 185) [x77,(.int .i64 4),(.int .u8 48)]) Kp fun x78=>
 (fun w=>D14 w∧(fun w=>D13 w∧(fun w=>D10 w∧(fun w=>D9 w∧(fun w=>D5 w∧(fun w=>D4 w∧(fun w=>D2 w∧(fun w=>D1 w∧(stS p_ (sBin .add 9 x75 x78) fun x79=>
 K x79) w) w) w) w) w) w) w) w)) w) w) w) w) w) w) w) w)) w) w) w) w) w) w) w))))) w) w) w) w) w) w)) w) w) w) w) w))
theorem dates_Date_form_s {v0 v1:Value}:Shp p_ 154 [v0,v1] (dates_Date_form v0 v1):=sh_ Tryz.call154 Tryz.func154 (an:={drs:=[(1,.ofL [(1,3),(2,3),(5,3),(6,3),(7,3),(0,0),(3,3),(4,0),(8,1),(9,1),(10,1)]),(4,.ofL [(0,2),(1,3),(2,3),(3,1),(4,1),(8,2),(11,3),(12,3),(16,3),(5,0),(6,3),(7,3),(9,3),(10,3),(13,0),(14,3),(15,3),(17,0),(18,1),(19,1),(20,1)]),(6,.ofL [(0,2),(1,3),(2,1),(3,1),(7,2),(10,3),(11,3),(12,3),(16,3),(4,0),(5,3),(6,3),(8,3),(9,3),(13,0),(14,3),(15,3),(17,0),(18,1),(19,1),(20,1)]),(7,.ofL [(0,2),(1,3),(2,3),(3,2),(4,3),(5,3),(6,1),(7,1),(11,3),(15,3),(16,3),(8,0),(9,3),(10,3),(12,0),(13,3),(14,3),(17,0),(18,1),(19,1)])]}) fun _ _=>by kernel_rfl
def istrconv_ParseUint (v0 v1 v2:Value)(Kp:PK)(K:Value→WP):WP:=
 opN p_ (sEq .eql 9 (.tmp 18) (.const (.string ⟨#[]⟩)) v0 (.string ⟨#[]⟩)) Kp fun x19=>
 condS x19
 (opN p_ (sMkI 239 (.int .i64 2)) Kp fun x20=>
 K (.tuple #[(.int .u64 0),x20]))
 (opN p_ (sEq .eql 3 (.tmp 21) (.const (.int .i64 0)) v1 (.int .i64 0)) Kp fun x22=>
 cut2 (fun J1=>
 opN p_ (sBin .leq 3 (.int .i64 2) v1) Kp fun x27=>
 gdK x27 true (fun k=>k v1) fun x29=>
 gdK x27 true (opN p_ (sBin .leq 3 x29 (.int .i64 36)) Kp) fun x30=>
 opN p_ (sPick x27 x30 (.bool false)) Kp fun x31=>
 condS x31
 (J1 v0 v1)
 (opN p_ (sEq .eql 3 (.tmp 33) (.const (.int .i64 0)) v1 (.int .i64 0)) Kp fun x34=>
 condS x34
 (opN p_ (sIx 9 v0 (.int .i64 0)) Kp fun x36=>
 opN p_ (sEq .eql 5 (.tmp 36) (.const (.int .u8 48)) x36 (.int .u8 48)) Kp fun x37=>
 condS x37
 (opN p_ (sLen #[9] 3 [v0]) Kp fun x42=>
 opN p_ (sBin .geq 3 x42 (.int .i64 3)) Kp fun x43=>
 gdK x43 true (fun k=>k v0) fun x45=>
 gdK x43 true (opN p_ (sIx 9 x45 (.int .i64 1)) Kp) fun x46=>
 gdK x43 true (opN p_ (sCall (fn 187) [x46]) Kp) fun x47=>
 gdK x43 true (opN p_ (sEq .eql 5 (.tmp 47) (.const (.int .u8 98)) x47 (.int .u8 98)) Kp) fun x48=>
 opN p_ (sPick x43 x48 (.bool false)) Kp fun x49=>
 condS x49
 (opN p_ (sSl 9 v0 (some (.int .i64 2)) none none) Kp fun x51=>
 J1 x51 (.int .i64 2))
 (opN p_ (sLen #[9] 3 [v0]) Kp fun x54=>
 opN p_ (sBin .geq 3 x54 (.int .i64 3)) Kp fun x55=>
 gdK x55 true (fun k=>k v0) fun x57=>
 gdK x55 true (opN p_ (sIx 9 x57 (.int .i64 1)) Kp) fun x58=>
 gdK x55 true (opN p_ (sCall (fn 187) [x58]) Kp) fun x59=>
 gdK x55 true (opN p_ (sEq .eql 5 (.tmp 59) (.const (.int .u8 111)) x59 (.int .u8 111)) Kp) fun x60=>
 opN p_ (sPick x55 x60 (.bool false)) Kp fun x61=>
 condS x61
 (opN p_ (sSl 9 v0 (some (.int .i64 2)) none none) Kp fun x63=>
 J1 x63 (.int .i64 8))
 (opN p_ (sLen #[9] 3 [v0]) Kp fun x66=>
 opN p_ (sBin .geq 3 x66 (.int .i64 3)) Kp fun x67=>
 gdK x67 true (fun k=>k v0) fun x69=>
 gdK x67 true (opN p_ (sIx 9 x69 (.int .i64 1)) Kp) fun x70=>
 gdK x67 true (opN p_ (sCall (fn 187) [x70]) Kp) fun x71=>
 gdK x67 true (opN p_ (sEq .eql 5 (.tmp 71) (.const (.int .u8 120)) x71 (.int .u8 120)) Kp) fun x72=>
 opN p_ (sPick x67 x72 (.bool false)) Kp fun x73=>
 condS x73
 (opN p_ (sSl 9 v0 (some (.int .i64 2)) none none) Kp fun x75=>
 J1 x75 (.int .i64 16))
 (opN p_ (sSl 9 v0 (some (.int .i64 1)) none none) Kp fun x39=>
 J1 x39 (.int .i64 8)))))
 (J1 v0 (.int .i64 10)))
 (opN p_ (sMkI 239 (.int .i64 3)) Kp fun x24=>
 K (.tuple #[(.int .u64 0),x24])))) fun _ z0 z1=>
 cut1 (fun J2=>
 opN p_ (sEq .eql 3 (.tmp 76) (.const (.int .i64 0)) v2 (.int .i64 0)) Kp fun x77=>
 condS x77
 (J2 (.int .i64 64))
 (opN p_ (sBin .lss 3 v2 (.int .i64 0)) Kp fun x79=>
 gdK x79 false (fun k=>k v2) fun x81=>
 gdK x79 false (opN p_ (sBin .gtr 3 x81 (.int .i64 64)) Kp) fun x82=>
 opN p_ (sPick x79 (.bool true) x82) Kp fun x83=>
 condS x83
 (opN p_ (sMkI 239 (.int .i64 4)) Kp fun x84=>
 K (.tuple #[(.int .u64 0),x84]))
 (J2 v2))) fun _ z2=>
 cut1 (fun J3=>
 opN p_ (sEq .eql 3 (.tmp 85) (.const (.int .i64 10)) z1 (.int .i64 10)) Kp fun x91=>
 condS x91
 (J3 (.int .u64 1844674407370955162))
 (opN p_ (sEq .eql 3 (.tmp 85) (.const (.int .i64 16)) z1 (.int .i64 16)) Kp fun x93=>
 condS x93
 (J3 (.int .u64 1152921504606846976))
 (opN p_ (sConv 3 186 z1) Kp fun x87=>
 opN p_ (sBin .quo 186 (.int .u64 18446744073709551615) x87) Kp fun x88=>
 opN p_ (sBin .add 186 x88 (.int .u64 1)) Kp fun x89=>
 J3 x89))) fun _ z10=>
 opN p_ (sConv 3 241 z2) Kp fun x95=>
 opN p_ (sBin .shl 186 (.int .u64 1) x95) Kp fun x96=>
 opN p_ (sBin .sub 186 x96 (.int .u64 1)) Kp fun x97=>
 opN p_ (sConv 9 32 z0) Kp fun x99=>
 opN p_ (sLen #[32] 3 [x99]) Kp fun x100=>
 loop3 (fun I1 m1 _ y12 y13 y101=>
 opN p_ (sBin .lss 3 y101 x100) Kp fun x102=>
 condS x102
 (opN p_ (sIA 32 x99 y101) Kp fun x103=>
 opN p_ (sLoad 5 x103) Kp fun x104=>
 cut2 (fun J4=>
 opN p_ (sEq .eql 5 (.tmp 107) (.const (.int .u8 95)) x104 (.int .u8 95)) Kp fun x108=>
 gdK x108 true (fun k=>k x22) fun x110=>
 opN p_ (sPick x108 x110 (.bool false)) Kp fun x111=>
 condS x111
 (opN p_ (sBin .add 3 y101 (.int .i64 1)) Kp fun x163=>
 next3 I1 m1 (.bool true) y13 x163)
 (opN p_ (sBin .leq 5 (.int .u8 48) x104) Kp fun x114=>
 gdK x114 true (fun k=>k x104) fun x116=>
 gdK x114 true (opN p_ (sBin .leq 5 x116 (.int .u8 57)) Kp) fun x117=>
 opN p_ (sPick x114 x117 (.bool false)) Kp fun x118=>
 condS x118
 (opN p_ (sBin .sub 5 x104 (.int .u8 48)) Kp fun x120=>
 J4 y12 x120)
 (opN p_ (sCall (fn 187) [x104]) Kp fun x123=>
 opN p_ (sBin .leq 5 (.int .u8 97) x123) Kp fun x124=>
 gdK x124 true (fun k=>k x104) fun x126=>
 gdK x124 true (opN p_ (sCall (fn 187) [x126]) Kp) fun x127=>
 gdK x124 true (opN p_ (sBin .leq 5 x127 (.int .u8 122)) Kp) fun x128=>
 opN p_ (sPick x124 x128 (.bool false)) Kp fun x129=>
 condS x129
 (opN p_ (sCall (fn 187) [x104]) Kp fun x131=>
 opN p_ (sBin .sub 5 x131 (.int .u8 97)) Kp fun x132=>
 opN p_ (sBin .add 5 x132 (.int .u8 10)) Kp fun x133=>
 J4 y12 x133)
 (opN p_ (sMkI 239 (.int .i64 2)) Kp fun x105=>
 K (.tuple #[(.int .u64 0),x105]))))) fun _ z12 z16=>
 opN p_ (sConv 3 5 z1) Kp fun x136=>
 opN p_ (sBin .geq 5 z16 x136) Kp fun x137=>
 condS x137
 (opN p_ (sMkI 239 (.int .i64 2)) Kp fun x138=>
 K (.tuple #[(.int .u64 0),x138]))
 (opN p_ (sBin .geq 186 y13 z10) Kp fun x141=>
 condS x141
 (opN p_ (sMkI 239 (.int .i64 1)) Kp fun x143=>
 K (.tuple #[x97,x143]))
 (opN p_ (sConv 3 186 z1) Kp fun x146=>
 opN p_ (sBin .mul 186 y13 x146) Kp fun x147=>
 opN p_ (sConv 5 186 z16) Kp fun x150=>
 opN p_ (sBin .add 186 x147 x150) Kp fun x151=>
 opN p_ (sBin .lss 186 x151 x147) Kp fun x154=>
 gdK x154 false (fun k=>k x151) fun x156=>
 gdK x154 false (fun k=>k x97) fun x157=>
 gdK x154 false (opN p_ (sBin .gtr 186 x156 x157) Kp) fun x158=>
 opN p_ (sPick x154 (.bool true) x158) Kp fun x159=>
 condS x159
 (opN p_ (sMkI 239 (.int .i64 1)) Kp fun x161=>
 K (.tuple #[x97,x161]))
 (opN p_ (sBin .add 3 y101 (.int .i64 1)) Kp fun x163=>
 next3 I1 m1 z12 x151 x163))))
 (gdK y12 true (fun k=>k v0) fun x166=>
 gdK y12 true (opN p_ (sCall (fn 188) [x166]) Kp) fun x167=>
 gdK y12 true (opN p_ (sUn .not x167) Kp) fun x168=>
 opN p_ (sPick y12 x168 (.bool false)) Kp fun x169=>
 condS x169
 (opN p_ (sMkI 239 (.int .i64 2)) Kp fun x170=>
 K (.tuple #[(.int .u64 0),x170]))
 (K (.tuple #[y13,.nilIface])))) (.bool false) (.int .u64 0) (.int .i64 0))
theorem istrconv_ParseUint_s {v0 v1 v2:Value}:Shp p_ 155 [v0,v1,v2] (istrconv_ParseUint v0 v1 v2):=sh_ Tryz.call155 Tryz.func155 (an:={cuts:=[(21,[0,1]),(25,[2]),(32,[10]),(46,[12,16])],loops:=[(36,[12,13,101])]}) fun _ _=>by kernel_rfl
def strconv_toError (v0 v1 v2 v3 v4:Value)(Kp:PK)(K:Value→WP):WP:=
 opN p_ (sMkI 239 (.int .i64 2)) Kp fun x13=>
 opN p_ (sEq .eql 165 (.tmp 11) (.tmp 13) v4 x13) Kp fun x14=>
 condS x14
 (opN p_ (sCall (fn 189) [v0,v1]) Kp fun x17=>
 opN p_ (sMkI 242 x17) Kp fun x18=>
 K x18)
 (opN p_ (sMkI 239 (.int .i64 1)) Kp fun x20=>
 opN p_ (sEq .eql 165 (.tmp 11) (.tmp 20) v4 x20) Kp fun x21=>
 condS x21
 (opN p_ (sCall (fn 190) [v0,v1]) Kp fun x24=>
 opN p_ (sMkI 242 x24) Kp fun x25=>
 K x25)
 (opN p_ (sMkI 239 (.int .i64 3)) Kp fun x27=>
 opN p_ (sEq .eql 165 (.tmp 11) (.tmp 27) v4 x27) Kp fun x28=>
 condS x28
 (opN p_ (sCall (fn 191) [v0,v1,v2]) Kp fun x32=>
 opN p_ (sMkI 242 x32) Kp fun x33=>
 K x33)
 (opN p_ (sMkI 239 (.int .i64 4)) Kp fun x35=>
 opN p_ (sEq .eql 165 (.tmp 11) (.tmp 35) v4 x35) Kp fun x36=>
 condS x36
 (opN p_ (sCall (fn 192) [v0,v1,v3]) Kp fun x40=>
 opN p_ (sMkI 242 x40) Kp fun x41=>
 K x41)
 (K v4))))
theorem strconv_toError_s {v0 v1 v2 v3 v4:Value}:Shp p_ 156 [v0,v1,v2,v3,v4] (strconv_toError v0 v1 v2 v3 v4):=sh_ Tryz.call156 Tryz.func156 (an:={}) fun _ _=>by kernel_rfl
def fields_kind_fields_Directive_elements_1 (v0 v1 v2:Value)(Kp:PK)(K:Value→WP):WP:=
 loop3 (fun I1 m1 _ y4 y5 y6=>
 opN p_ (sLoad 9 v1) Kp fun x11=>
 opN p_ (sLen #[9] 3 [x11]) Kp fun x12=>
 opN p_ (sBin .lss 3 y6 x12) Kp fun x13=>
 condS x13
 (opN p_ (sLoad 9 v1) Kp fun x16=>
 opN p_ (sIx 9 x16 y6) Kp fun x18=>
 opN p_ (sEq .eql 5 (.tmp 20) (.const (.int .u8 92)) x18 (.int .u8 92)) Kp fun x21=>
 gdK x21 true (fun k=>k y4) fun x23=>
 opN p_ (sPick x21 x23 (.bool false)) Kp fun x24=>
 gdK x24 true (opN p_ (sFA 155 v2 1) Kp) fun x26=>
 gdK x24 true (opN p_ (sLoad 4 x26) Kp) fun x27=>
 opN p_ (sPick x24 x27 (.bool false)) Kp fun x28=>
 condS x28
 (opN p_ (sBin .add 3 y6 (.int .i64 1)) Kp fun x30=>
 opN p_ (sBin .add 3 x30 (.int .i64 1)) Kp fun x15=>
 next3 I1 m1 y4 y5 x15)
 (opN p_ (sEq .eql 5 (.tmp 32) (.const (.int .u8 34)) x18 (.int .u8 34)) Kp fun x33=>
 gdK x33 true (opN p_ (sFA 155 v2 0) Kp) fun x35=>
 gdK x33 true (opN p_ (sLoad 4 x35) Kp) fun x36=>
 opN p_ (sPick x33 x36 (.bool false)) Kp fun x37=>
 condS x37
 (opN p_ (sUn .not y4) Kp fun x39=>
 opN p_ (sBin .add 3 y6 (.int .i64 1)) Kp fun x15=>
 next3 I1 m1 x39 y5 x15)
 (opN p_ (sEq .eql 5 (.tmp 41) (.const (.int .u8 44)) x18 (.int .u8 44)) Kp fun x42=>
 gdK x42 true (fun k=>k y4) fun x44=>
 gdK x42 true (opN p_ (sUn .not x44) Kp) fun x45=>
 opN p_ (sPick x42 x45 (.bool false)) Kp fun x46=>
 condS x46
 (opN p_ (sLoad 9 v1) Kp fun x47=>
 opN p_ (sSl 9 x47 (some y5) (some y6) none) Kp fun x50=>
 opN p_ (sCall (fn 124) [x50]) Kp fun x51=>
 opN p_ (sEq .neq 9 (.tmp 52) (.const (.string ⟨#[]⟩)) x51 (.string ⟨#[]⟩)) Kp fun x53=>
 gdK x53 true (fun k=>k v0) fun x55=>
 gdK x53 true (fun k=>k x51) fun x56=>
 gdK x53 true (opN p_ (sCall x55 [x56]) Kp) fun x57=>
 gdK x53 true (opN p_ (sUn .not x57) Kp) fun x58=>
 opN p_ (sPick x53 x58 (.bool false)) Kp fun x59=>
 condS x59
 (K (.tuple #[]))
 (opN p_ (sBin .add 3 y6 (.int .i64 1)) Kp fun x61=>
 opN p_ (sBin .add 3 y6 (.int .i64 1)) Kp fun x15=>
 next3 I1 m1 y4 x61 x15))
 (opN p_ (sBin .add 3 y6 (.int .i64 1)) Kp fun x15=>
 next3 I1 m1 y4 y5 x15))))
 (opN p_ (sLoad 9 v1) Kp fun x62=>
 opN p_ (sSl 9 x62 (some y5) none none) Kp fun x64=>
 opN p_ (sCall (fn 124) [x64]) Kp fun x65=>
 opN p_ (sEq .neq 9 (.tmp 66) (.const (.string ⟨#[]⟩)) x65 (.string ⟨#[]⟩)) Kp fun x67=>
 condS x67
 (opN p_ (sCall v0 [x65]) Kp fun x70=>
 K (.tuple #[]))
 (K (.tuple #[])))) (.bool false) (.int .i64 0) (.int .i64 0)
theorem fields_kind_fields_Directive_elements_1_s {v0 v1 v2:Value}:Shp p_ 158 [v0,v1,v2] (fields_kind_fields_Directive_elements_1 v0 v1 v2):=sh_ Tryz.call158 Tryz.func158 (an:={loops:=[(2,[4,5,6])]}) fun _ _=>by kernel_rfl
def stringslite_Cut (v0 v1:Value)(Kp:PK)(K:Value→WP):WP:=
 opN p_ (sCall (fn 194) [v0,v1]) Kp fun x10=>
 opN p_ (sBin .geq 3 x10 (.int .i64 0)) Kp fun x12=>
 condS x12
 (drS (stS p_ (sSl 9 v0 none (some x10) none) fun x15=>
 stS p_ (sLen #[9] 3 [v1]) fun x19=>
 stS p_ (sBin .add 3 x10 x19) fun x20=>
 stS p_ (sSl 9 v0 (some x20) none none) fun x21=>
 K (.tuple #[x15,x21,(.bool true)])))
 (K (.tuple #[v0,(.string ⟨#[]⟩),(.bool false)]))
theorem stringslite_Cut_s {v0 v1:Value}:Shp p_ 159 [v0,v1] (stringslite_Cut v0 v1):=sh_ Tryz.call159 Tryz.func159 (an:={drs:=[(3,.ofL [(0,1),(1,1),(2,1),(3,1),(4,1),(5,1),(6,1),(7,1),(8,1),(9,1),(10,1),(11,1)])]}) fun _ _=>by kernel_rfl
def istrconv_small (v0:Value)(Kp:PK)(K:Value→WP):WP:=
 opN p_ (sBin .lss 3 v0 (.int .i64 10)) Kp fun x4=>
 condS x4
 (opN p_ (sBin .add 3 v0 (.int .i64 1)) Kp fun x7=>
 opN p_ (sSl 9 (.string ⟨#[48,49,50,51,52,53,54,55,56,57,97,98,99,100,101,102,103,104,105,106,107,108,109,110,111,112,113,114,115,116,117,118,119,120,121,122]⟩) (some v0) (some x7) none) Kp fun x8=>
 K x8)
 (opN p_ (sBin .mul 3 v0 (.int .i64 2)) Kp fun x10=>
 opN p_ (sBin .mul 3 v0 (.int .i64 2)) Kp fun x12=>
 opN p_ (sBin .add 3 x12 (.int .i64 2)) Kp fun x13=>
 opN p_ (sSl 9 (txt lit0) (some x10) (some x13) none) Kp fun x14=>
 K x14)
theorem istrconv_small_s {v0:Value}:Shp p_ 162 [v0] (istrconv_small v0):=sh_ Tryz.call162 Tryz.func162 (an:={}) fun _ _=>by kernel_rfl
def istrconv_numDigits (v0:Value)(Kp:PK)(K:Value->WP):WP:=
 opN p_ (sCall (fn 196) [v0]) Kp fun x5=>
 opN p_ (sCall (fn 195) [x5]) Kp fun x6=>
 opN p_ (sIA 247 (.pointer (some ⟨1,0,none⟩)) x6) Kp fun x10=>
 opN p_ (sLoad 186 x10) Kp fun x11=>
 opN p_ (sBin .geq 186 v0 x11) Kp fun x12=>
 opN p_ (sCall (fn 197) [x12]) Kp fun x13=>
 opN p_ (sBin .add 3 x6 x13) Kp fun x14=>
 K x14
theorem istrconv_numDigits_s {v0:Value}:Shp p_ 163 [v0] (istrconv_numDigits v0):=sh_ Tryz.call163 Tryz.func163 (an:={}) fun _ _=>by kernel_rfl
def istrconv_formatBase10 (v0 v1:Value)(Kp:PK)(K:Value→WP):WP:=
 opN p_ (sLen #[32] 3 [v0]) Kp fun x18=>
 loop2 (fun I1 m1 _ y1 y4=>
 opN p_ (sBin .geq 3 y4 (.int .i64 8)) Kp fun x20=>
 condS x20
 (opN p_ (sBin .rem 186 y1 (.int .u64 100000000)) Kp fun x22=>
 opN p_ (sConv 186 248 x22) Kp fun x23=>
 opN p_ (sBin .quo 186 y1 (.int .u64 100000000)) Kp fun x25=>
 opN p_ (sBin .quo 248 x23 (.int .u32 10000)) Kp fun x27=>
 opN p_ (sBin .rem 248 x23 (.int .u32 10000)) Kp fun x29=>
 opN p_ (sBin .quo 248 x29 (.int .u32 100)) Kp fun x31=>
 opN p_ (sBin .mul 248 x31 (.int .u32 2)) Kp fun x32=>
 opN p_ (sBin .rem 248 x29 (.int .u32 100)) Kp fun x34=>
 opN p_ (sBin .mul 248 x34 (.int .u32 2)) Kp fun x35=>
 opN p_ (sBin .quo 248 x27 (.int .u32 100)) Kp fun x37=>
 opN p_ (sBin .mul 248 x37 (.int .u32 2)) Kp fun x38=>
 opN p_ (sBin .rem 248 x27 (.int .u32 100)) Kp fun x40=>
 opN p_ (sBin .mul 248 x40 (.int .u32 2)) Kp fun x41=>
 drS (stS p_ (sBin .sub 3 y4 (.int .i64 1)) fun x44=>
 stD p_ (sBin .sub 3 y4 (.int .i64 2)) fun D5 x47=>
 stS p_ (sBin .add 248 x35 (.int .u32 1)) fun x49=>
 stS p_ (sIx 9 (txt lit0) x49) fun x50=>
 stD p_ (sIx 9 (txt lit0) x35) fun D10 x52=>
 stS p_ (sIA 32 v0 x44) fun x53=>
 opN p_ (sStore 5 x53 x50) Kp fun _=>
 (fun w=>D10 w∧(fun w=>D5 w∧(stS p_ (sIA 32 v0 x47) fun x54=>
 opN p_ (sStore 5 x54 x52) Kp fun _=>
 drS (stS p_ (sBin .sub 3 y4 (.int .i64 3)) fun x57=>
 stD p_ (sBin .sub 3 y4 (.int .i64 4)) fun D5 x60=>
 stS p_ (sBin .add 248 x32 (.int .u32 1)) fun x62=>
 stS p_ (sIx 9 (txt lit0) x62) fun x63=>
 stD p_ (sIx 9 (txt lit0) x32) fun D10 x65=>
 stS p_ (sIA 32 v0 x57) fun x66=>
 opN p_ (sStore 5 x66 x63) Kp fun _=>
 (fun w=>D10 w∧(fun w=>D5 w∧(stS p_ (sIA 32 v0 x60) fun x67=>
 opN p_ (sStore 5 x67 x65) Kp fun _=>
 drS (stS p_ (sBin .sub 3 y4 (.int .i64 5)) fun x70=>
 stD p_ (sBin .sub 3 y4 (.int .i64 6)) fun D5 x73=>
 stS p_ (sBin .add 248 x41 (.int .u32 1)) fun x75=>
 stS p_ (sIx 9 (txt lit0) x75) fun x76=>
 stD p_ (sIx 9 (txt lit0) x41) fun D10 x78=>
 stS p_ (sIA 32 v0 x70) fun x79=>
 opN p_ (sStore 5 x79 x76) Kp fun _=>
 (fun w=>D10 w∧(fun w=>D5 w∧(stS p_ (sIA 32 v0 x73) fun x80=>
 opN p_ (sStore 5 x80 x78) Kp fun _=>
 drS (stS p_ (sBin .sub 3 y4 (.int .i64 7)) fun x83=>
 stD p_ (sBin .sub 3 y4 (.int .i64 8)) fun D5 x86=>
 stS p_ (sBin .add 248 x38 (.int .u32 1)) fun x88=>
 stS p_ (sIx 9 (txt lit0) x88) fun x89=>
 stD p_ (sIx 9 (txt lit0) x38) fun D10 x91=>
 stS p_ (sIA 32 v0 x83) fun x92=>
 opN p_ (sStore 5 x92 x89) Kp fun _=>
 (fun w=>D10 w∧(fun w=>D5 w∧(stS p_ (sIA 32 v0 x86) fun x93=>
 opN p_ (sStore 5 x93 x91) Kp fun _=>
 opN p_ (sBin .sub 3 y4 (.int .i64 8)) Kp fun x95=>
 next2 I1 m1 x25 x95) w) w))) w) w))) w) w))) w) w)))
 (opN p_ (sConv 186 248 y1) Kp fun x97=>
 cut2 (fun J1=>
 opN p_ (sBin .geq 3 y4 (.int .i64 4)) Kp fun x99=>
 condS x99
 (opN p_ (sBin .rem 248 x97 (.int .u32 10000)) Kp fun x101=>
 opN p_ (sBin .quo 248 x97 (.int .u32 10000)) Kp fun x103=>
 opN p_ (sBin .quo 248 x101 (.int .u32 100)) Kp fun x105=>
 opN p_ (sBin .mul 248 x105 (.int .u32 2)) Kp fun x106=>
 opN p_ (sBin .rem 248 x101 (.int .u32 100)) Kp fun x108=>
 opN p_ (sBin .mul 248 x108 (.int .u32 2)) Kp fun x109=>
 drS (stS p_ (sBin .sub 3 y4 (.int .i64 1)) fun x112=>
 stD p_ (sBin .sub 3 y4 (.int .i64 2)) fun D5 x115=>
 stS p_ (sBin .add 248 x109 (.int .u32 1)) fun x117=>
 stS p_ (sIx 9 (txt lit0) x117) fun x118=>
 stD p_ (sIx 9 (txt lit0) x109) fun D10 x120=>
 stS p_ (sIA 32 v0 x112) fun x121=>
 opN p_ (sStore 5 x121 x118) Kp fun _=>
 (fun w=>D10 w∧(fun w=>D5 w∧(stS p_ (sIA 32 v0 x115) fun x122=>
 opN p_ (sStore 5 x122 x120) Kp fun _=>
 drS (stS p_ (sBin .sub 3 y4 (.int .i64 3)) fun x125=>
 stD p_ (sBin .sub 3 y4 (.int .i64 4)) fun D5 x128=>
 stS p_ (sBin .add 248 x106 (.int .u32 1)) fun x130=>
 stS p_ (sIx 9 (txt lit0) x130) fun x131=>
 stD p_ (sIx 9 (txt lit0) x106) fun D10 x133=>
 stS p_ (sIA 32 v0 x125) fun x134=>
 opN p_ (sStore 5 x134 x131) Kp fun _=>
 (fun w=>D10 w∧(fun w=>D5 w∧(stS p_ (sIA 32 v0 x128) fun x135=>
 opN p_ (sStore 5 x135 x133) Kp fun _=>
 opN p_ (sBin .sub 3 y4 (.int .i64 4)) Kp fun x137=>
 J1 x137 x103) w) w))) w) w)))
 (J1 y4 x97)) fun _ z4 z12=>
 cut2 (fun J2=>
 opN p_ (sBin .geq 3 z4 (.int .i64 2)) Kp fun x139=>
 condS x139
 (opN p_ (sBin .rem 248 z12 (.int .u32 100)) Kp fun x141=>
 opN p_ (sBin .mul 248 x141 (.int .u32 2)) Kp fun x142=>
 opN p_ (sBin .quo 248 z12 (.int .u32 100)) Kp fun x144=>
 drS (stS p_ (sBin .sub 3 z4 (.int .i64 1)) fun x147=>
 stD p_ (sBin .sub 3 z4 (.int .i64 2)) fun D5 x150=>
 stS p_ (sBin .add 248 x142 (.int .u32 1)) fun x152=>
 stS p_ (sIx 9 (txt lit0) x152) fun x153=>
 stD p_ (sIx 9 (txt lit0) x142) fun D10 x155=>
 stS p_ (sIA 32 v0 x147) fun x156=>
 opN p_ (sStore 5 x156 x153) Kp fun _=>
 (fun w=>D10 w∧(fun w=>D5 w∧(stS p_ (sIA 32 v0 x150) fun x157=>
 opN p_ (sStore 5 x157 x155) Kp fun _=>
 opN p_ (sBin .sub 3 z4 (.int .i64 2)) Kp fun x159=>
 J2 x159 x144) w) w)))
 (J2 z4 z12)) fun _ z4 z12=>
 opN p_ (sBin .gtr 3 z4 (.int .i64 0)) Kp fun x161=>
 condS x161
 (opN p_ (sBin .add 248 (.int .u32 48) z12) Kp fun x164=>
 opN p_ (sConv 248 5 x164) Kp fun x165=>
 opN p_ (sIA 32 v0 (.int .i64 0)) Kp fun x166=>
 opN p_ (sStore 5 x166 x165) Kp fun _=>
 K (.tuple #[]))
 (K (.tuple #[])))) v1 x18
theorem istrconv_formatBase10_s {v0 v1:Value}:Shp p_ 164 [v0,v1] (istrconv_formatBase10 v0 v1):=sh_ Tryz.call164 Tryz.func164 (an:={cuts:=[(20,[4,12]),(25,[4,12])],loops:=[(1,[1,4])],drs:=[(7,.ofL [(0,1),(1,1),(2,1),(3,2),(4,2),(5,3),(6,1),(7,1),(8,1),(9,2),(10,3),(11,1),(12,0),(13,1),(14,0)]),(8,.ofL [(0,1),(1,1),(2,1),(3,2),(4,2),(5,3),(6,1),(7,1),(8,1),(9,2),(10,3),(11,1),(12,0),(13,1),(14,0)]),(9,.ofL [(0,1),(1,1),(2,1),(3,2),(4,2),(5,3),(6,1),(7,1),(8,1),(9,2),(10,3),(11,1),(12,0),(13,1),(14,0)]),(10,.ofL [(0,1),(1,1),(2,1),(3,2),(4,2),(5,3),(6,1),(7,1),(8,1),(9,2),(10,3),(11,1),(12,0),(13,1),(14,0)]),(17,.ofL [(0,1),(1,1),(2,1),(3,2),(4,2),(5,3),(6,1),(7,1),(8,1),(9,2),(10,3),(11,1),(12,0),(13,1),(14,0)]),(18,.ofL [(0,1),(1,1),(2,1),(3,2),(4,2),(5,3),(6,1),(7,1),(8,1),(9,2),(10,3),(11,1),(12,0),(13,1),(14,0)]),(23,.ofL [(0,1),(1,1),(2,1),(3,2),(4,2),(5,3),(6,1),(7,1),(8,1),(9,2),(10,3),(11,1),(12,0),(13,1),(14,0)])]}) fun _ _=>by kernel_rfl
def ref01_letter (v0:Value)(Kp:PK)(K:Value->WP):WP:=
 opN p_ (sBin .geq 5 v0 (.int .u8 97)) Kp fun x4=>
 gdK x4 true (fun k=>k v0) fun x6=>
 gdK x4 true (opN p_ (sBin .leq 5 x6 (.int .u8 122)) Kp) fun x7=>
 opN p_ (sPick x4 x7 (.bool false)) Kp fun x8=>
 gdK x8 false (fun k=>k v0) fun x10=>
 gdK x8 false (opN p_ (sBin .geq 5 x10 (.int .u8 65)) Kp) fun x11=>
 gdK x8 false (fun k=>k x11) fun x12=>
 gdK x12 true (fun k=>k v0) fun x13=>
 gdK x12 true (opN p_ (sBin .leq 5 x13 (.int .u8 90)) Kp) fun x14=>
 gdK x8 false (opN p_ (sPick x12 x14 (.bool false)) Kp) fun x15=>
 opN p_ (sPick x8 (.bool true) x15) Kp fun x16=>
 gdK x16 false (fun k=>k v0) fun x18=>
 gdK x16 false (opN p_ (sBin .geq 5 x18 (.int .u8 48)) Kp) fun x19=>
 gdK x16 false (fun k=>k x19) fun x20=>
 gdK x20 true (fun k=>k v0) fun x21=>
 gdK x20 true (opN p_ (sBin .leq 5 x21 (.int .u8 57)) Kp) fun x22=>
 gdK x16 false (opN p_ (sPick x20 x22 (.bool false)) Kp) fun x23=>
 opN p_ (sPick x16 (.bool true) x23) Kp fun x24=>
 K x24
theorem ref01_letter_s {v0:Value}:Shp p_ 166 [v0] (ref01_letter v0):=sh_ Tryz.call166 Tryz.func166 (an:={}) fun _ _=>by kernel_rfl
def ref09_days (v0 v1:Value)(Kp:PK)(K:Value→WP):WP:=
 opN p_ (sEq .eql 3 (.tmp 5) (.const (.int .i64 2)) v1 (.int .i64 2)) Kp fun x7=>
 condS x7
 (opN p_ (sCall (fn 200) [v0]) Kp fun x9=>
 condS x9
 (K (.int .i64 29))
 (K (.int .i64 28)))
 (opN p_ (sEq .eql 3 (.tmp 5) (.const (.int .i64 4)) v1 (.int .i64 4)) Kp fun x11=>
 condS x11
 (condS x11
 (K (.int .i64 30))
 (K (.int .i64 31)))
 (opN p_ (sEq .eql 3 (.tmp 5) (.const (.int .i64 6)) v1 (.int .i64 6)) Kp fun x12=>
 condS x12
 (condS x12
 (K (.int .i64 30))
 (K (.int .i64 31)))
 (opN p_ (sEq .eql 3 (.tmp 5) (.const (.int .i64 9)) v1 (.int .i64 9)) Kp fun x13=>
 condS x13
 (condS x13
 (K (.int .i64 30))
 (K (.int .i64 31)))
 (opN p_ (sEq .eql 3 (.tmp 5) (.const (.int .i64 11)) v1 (.int .i64 11)) Kp fun x14=>
 condS x14
 (K (.int .i64 30))
 (K (.int .i64 31))))))
theorem ref09_days_s {v0 v1:Value}:Shp p_ 167 [v0,v1] (ref09_days v0 v1):=sh_ Tryz.call167 Tryz.func167 (an:={}) fun _ _=>by kernel_rfl
def ref09_year (v0:Value)(Kp:PK)(K:Value->WP):WP:=
 opN p_ (sCall (fn 200) [v0]) Kp fun x4=>
 condS x4
 (K (.int .i64 366))
 (K (.int .i64 365))
theorem ref09_year_s {v0:Value}:Shp p_ 168 [v0] (ref09_year v0):=sh_ Tryz.call168 Tryz.func168 (an:={}) fun _ _=>by kernel_rfl
def ref09_names (Kp:PK)(K:Value→WP):WP:=
 opN p_ (sBuildSl 46 7 [(0,(.string ⟨#[83,117,110,100,97,121]⟩)),(1,(.string ⟨#[77,111,110,100,97,121]⟩)),(2,(.string ⟨#[84,117,101,115,100,97,121]⟩)),(3,(.string ⟨#[87,101,100,110,101,115,100,97,121]⟩)),(4,(.string ⟨#[84,104,117,114,115,100,97,121]⟩)),(5,(.string ⟨#[70,114,105,100,97,121]⟩)),(6,(.string ⟨#[83,97,116,117,114,100,97,121]⟩))]) Kp fun x6=>
 loop2 (fun I1 m1 _ y4 y5=>
 opN p_ (sBin .lss 3 y5 (.int .i64 7)) Kp fun x8=>
 condS x8
 (opN p_ (sIA 46 x6 y5) Kp fun x14=>
 opN p_ (sLoad 9 x14) Kp fun x15=>
 opN p_ (sSl 9 x15 none (some (.int .i64 3)) none) Kp fun x16=>
 opN p_ (sBuildSl 46 1 [(0,x16)]) Kp fun x17=>
 opN p_ (sApp #[46,46] 46 [y4,x17]) Kp fun x18=>
 opN p_ (sBin .add 3 y5 (.int .i64 1)) Kp fun x10=>
 next2 I1 m1 x18 x10)
 (opN p_ (sBuildSl 46 12 [(0,(.string ⟨#[74,97,110]⟩)),(1,(.string ⟨#[70,101,98]⟩)),(2,(.string ⟨#[77,97,114]⟩)),(3,(.string ⟨#[65,112,114]⟩)),(4,(.string ⟨#[77,97,121]⟩)),(5,(.string ⟨#[74,117,110]⟩)),(6,(.string ⟨#[74,117,108]⟩)),(7,(.string ⟨#[65,117,103]⟩)),(8,(.string ⟨#[83,101,112]⟩)),(9,(.string ⟨#[79,99,116]⟩)),(10,(.string ⟨#[78,111,118]⟩)),(11,(.string ⟨#[68,101,99]⟩))]) Kp fun x21=>
 K (.tuple #[y4,x6,x21]))) (.slice none 0 0) (.int .i64 0)
theorem ref09_names_s  :Shp p_ 169 [] (ref09_names):=sh_ Tryz.call169 Tryz.func169 (an:={loops:=[(4,[4,5])]}) fun _ _=>by kernel_rfl
def ref09_two (v0:Value)(Kp:PK)(K:Value->WP):WP:=
 opN p_ (sBin .quo 3 v0 (.int .i64 10)) Kp fun x4=>
 opN p_ (sBin .rem 3 x4 (.int .i64 10)) Kp fun x5=>
 opN p_ (sBin .add 3 (.int .i64 48) x5) Kp fun x6=>
 opN p_ (sConv 3 5 x6) Kp fun x7=>
 opN p_ (sBin .rem 3 v0 (.int .i64 10)) Kp fun x9=>
 opN p_ (sBin .add 3 (.int .i64 48) x9) Kp fun x10=>
 opN p_ (sConv 3 5 x10) Kp fun x11=>
 opN p_ (sBuildSl 32 2 [(0,x7),(1,x11)]) Kp fun x12=>
 opN p_ (sConv 32 9 x12) Kp fun x13=>
 K x13
theorem ref09_two_s {v0:Value}:Shp p_ 170 [v0] (ref09_two v0):=sh_ Tryz.call170 Tryz.func170 (an:={}) fun _ _=>by kernel_rfl
def ref09_clock (v0:Value)(Kp:PK)(K:Value->WP):WP:=
 opN p_ (sBox 175 v0) Kp fun x1=>
 drS (stS p_ (sFA 175 x1 3) fun x3=>
 stS p_ (sLoad 3 x3) fun x4=>
 stD p_ (sFA 175 x1 4) fun D4 x7=>
 stD p_ (sLoad 3 x7) fun D5 x8=>
 stD p_ (sFA 175 x1 5) fun D9 x12=>
 stD p_ (sLoad 3 x12) fun D10 x13=>
 opN p_ (sCall (fn 170) [x4]) Kp fun x5=>
 (fun w=>D10 w/\(fun w=>D9 w/\(fun w=>D5 w/\(fun w=>D4 w/\(stD p_ (sBin .add 9 x5 (.string ⟨#[58]⟩)) fun D3 x6=>
 opN p_ (sCall (fn 170) [x8]) Kp fun x9=>
 (fun w=>D3 w/\(fun w=>D10 w/\(fun w=>D9 w/\(stD p_ (sBin .add 9 x6 x9) fun D7 x10=>
 stD p_ (sBin .add 9 x10 (.string ⟨#[58]⟩)) fun D8 x11=>
 opN p_ (sCall (fn 170) [x13]) Kp fun x14=>
 (fun w=>D8 w/\(fun w=>D7 w/\(fun w=>D3 w/\(stS p_ (sBin .add 9 x11 x14) fun x15=>
 K x15) w) w) w)) w) w) w)) w) w) w) w))
theorem ref09_clock_s {v0:Value}:Shp p_ 171 [v0] (ref09_clock v0):=sh_ Tryz.call171 Tryz.func171 (an:={drs:=[(1,.ofL [(0,1),(1,1),(4,3),(5,3),(9,3),(10,3),(2,0),(3,3),(6,0),(7,3),(8,3),(11,0),(12,1),(13,1)])]}) fun _ _=>by kernel_rfl
def strings_makeASCIISet (v0:Value)(Kp:PK)(K:Value→WP):WP:=
 opN p_ (sAlloc 225) Kp fun x2=>
 loop1 (fun I1 m1 _ y4=>
 opN p_ (sLen #[9] 3 [v0]) Kp fun x8=>
 opN p_ (sBin .lss 3 y4 x8) Kp fun x9=>
 condS x9
 (opN p_ (sIx 9 v0 y4) Kp fun x14=>
 opN p_ (sBin .geq 5 x14 (.int .u8 128)) Kp fun x16=>
 condS x16
 (opN p_ (sLoad 225 x2) Kp fun x17=>
 opN p_ (sStore 225 x2 x17) Kp fun _=>
 (stS p_ (sRes 225 x2) fun r0=>K (.tuple #[r0,(.bool false)])))
 (opN p_ (sIA 225 x2 x14) Kp fun x19=>
 opN p_ (sStore 4 x19 (.bool true)) Kp fun _=>
 opN p_ (sBin .add 3 y4 (.int .i64 1)) Kp fun x11=>
 next1 I1 m1 x11))
 (opN p_ (sLoad 225 x2) Kp fun x20=>
 opN p_ (sStore 225 x2 x20) Kp fun _=>
 (stS p_ (sRes 225 x2) fun r0=>K (.tuple #[r0,(.bool true)])))) (.int .i64 0)
theorem strings_makeASCIISet_s {v0:Value}:Shp p_ 175 [v0] (strings_makeASCIISet v0):=sh_ Tryz.call175 Tryz.func175 (an:={loops:=[(2,[4])]}) fun _ _=>by kernel_rfl
def strings_trimLeftASCII (v0 v1:Value)(Kp:PK)(K:Value→WP):WP:=
 loop1 (fun I1 m1 _ y0=>
 opN p_ (sLen #[9] 3 [y0]) Kp fun x6=>
 opN p_ (sBin .gtr 3 x6 (.int .i64 0)) Kp fun x7=>
 condS x7
 (opN p_ (sIx 9 y0 (.int .i64 0)) Kp fun x10=>
 opN p_ (sCall (fn 201) [v1,x10]) Kp fun x11=>
 opN p_ (sUn .not x11) Kp fun x12=>
 condS x12
 (K y0)
 (opN p_ (sSl 9 y0 (some (.int .i64 1)) none none) Kp fun x14=>
 next1 I1 m1 x14))
 (K y0)) v0
theorem strings_trimLeftASCII_s {v0 v1:Value}:Shp p_ 176 [v0,v1] (strings_trimLeftASCII v0 v1):=sh_ Tryz.call176 Tryz.func176 (an:={loops:=[(1,[0])]}) fun _ _=>by kernel_rfl
def strings_trimRightASCII (v0 v1:Value)(Kp:PK)(K:Value→WP):WP:=
 loop1 (fun I1 m1 _ y0=>
 opN p_ (sLen #[9] 3 [y0]) Kp fun x6=>
 opN p_ (sBin .gtr 3 x6 (.int .i64 0)) Kp fun x7=>
 condS x7
 (opN p_ (sLen #[9] 3 [y0]) Kp fun x11=>
 opN p_ (sBin .sub 3 x11 (.int .i64 1)) Kp fun x12=>
 opN p_ (sIx 9 y0 x12) Kp fun x13=>
 opN p_ (sCall (fn 201) [v1,x13]) Kp fun x14=>
 opN p_ (sUn .not x14) Kp fun x15=>
 condS x15
 (K y0)
 (opN p_ (sLen #[9] 3 [y0]) Kp fun x18=>
 opN p_ (sBin .sub 3 x18 (.int .i64 1)) Kp fun x19=>
 opN p_ (sSl 9 y0 none (some x19) none) Kp fun x20=>
 next1 I1 m1 x20))
 (K y0)) v0
theorem strings_trimRightASCII_s {v0 v1:Value}:Shp p_ 177 [v0,v1] (strings_trimRightASCII v0 v1):=sh_ Tryz.call177 Tryz.func177 (an:={loops:=[(1,[0])]}) fun _ _=>by kernel_rfl
def dates_months (Kp:PK)(K:Value->WP):WP:=
 opN p_ (sAlloc 230) Kp fun x0=>
 opN p_ (sBuild 230 [(0,(.string ⟨#[74,97,110]⟩)),(1,(.string ⟨#[70,101,98]⟩)),(2,(.string ⟨#[77,97,114]⟩)),(3,(.string ⟨#[65,112,114]⟩)),(4,(.string ⟨#[77,97,121]⟩)),(5,(.string ⟨#[74,117,110]⟩)),(6,(.string ⟨#[74,117,108]⟩)),(7,(.string ⟨#[65,117,103]⟩)),(8,(.string ⟨#[83,101,112]⟩)),(9,(.string ⟨#[79,99,116]⟩)),(10,(.string ⟨#[78,111,118]⟩)),(11,(.string ⟨#[68,101,99]⟩))]) Kp fun x1=>
 opN p_ (sStore 230 x0 x1) Kp fun _=>
 (stS p_ (sRes 230 x0) fun r0=>K r0)
theorem dates_months_s  :Shp p_ 180 [] (dates_months):=sh_ Tryz.call180 Tryz.func180 (an:={}) fun _ _=>by kernel_rfl
def dates_civil (v0:Value)(Kp:PK)(K:Value→WP):WP:=
 opN p_ (sBin .add 3 v0 (.int .i64 719468)) Kp fun x11=>
 opN p_ (sBin .quo 3 x11 (.int .i64 146097)) Kp fun x13=>
 opN p_ (sBin .rem 3 x11 (.int .i64 146097)) Kp fun x15=>
 opN p_ (sBin .quo 3 x15 (.int .i64 1460)) Kp fun x18=>
 opN p_ (sBin .sub 3 x15 x18) Kp fun x19=>
 opN p_ (sBin .quo 3 x15 (.int .i64 36524)) Kp fun x21=>
 opN p_ (sBin .add 3 x19 x21) Kp fun x22=>
 opN p_ (sBin .quo 3 x15 (.int .i64 146096)) Kp fun x24=>
 opN p_ (sBin .sub 3 x22 x24) Kp fun x25=>
 opN p_ (sBin .quo 3 x25 (.int .i64 365)) Kp fun x26=>
 opN p_ (sBin .mul 3 (.int .i64 365) x26) Kp fun x29=>
 opN p_ (sBin .quo 3 x26 (.int .i64 4)) Kp fun x31=>
 opN p_ (sBin .add 3 x29 x31) Kp fun x32=>
 opN p_ (sBin .quo 3 x26 (.int .i64 100)) Kp fun x34=>
 opN p_ (sBin .sub 3 x32 x34) Kp fun x35=>
 opN p_ (sBin .sub 3 x15 x35) Kp fun x36=>
 opN p_ (sBin .mul 3 (.int .i64 5) x36) Kp fun x38=>
 opN p_ (sBin .add 3 x38 (.int .i64 2)) Kp fun x39=>
 opN p_ (sBin .quo 3 x39 (.int .i64 153)) Kp fun x40=>
 opN p_ (sBin .mul 3 x13 (.int .i64 400)) Kp fun x42=>
 opN p_ (sBin .add 3 x42 x26) Kp fun x44=>
 opN p_ (sBin .add 3 x40 (.int .i64 2)) Kp fun x46=>
 opN p_ (sBin .rem 3 x46 (.int .i64 12)) Kp fun x47=>
 opN p_ (sBin .add 3 x47 (.int .i64 1)) Kp fun x48=>
 opN p_ (sBin .mul 3 (.int .i64 153) x40) Kp fun x51=>
 opN p_ (sBin .add 3 x51 (.int .i64 2)) Kp fun x52=>
 opN p_ (sBin .quo 3 x52 (.int .i64 5)) Kp fun x53=>
 opN p_ (sBin .sub 3 x36 x53) Kp fun x54=>
 opN p_ (sBin .add 3 x54 (.int .i64 1)) Kp fun x55=>
 cut1 (fun J1=>
 opN p_ (sBin .leq 3 x48 (.int .i64 2)) Kp fun x57=>
 condS x57
 (opN p_ (sBin .add 3 x44 (.int .i64 1)) Kp fun x59=>
 J1 x59)
 (J1 x44)) fun _ z2=>
 K (.tuple #[z2,x48,x55])
theorem dates_civil_s {v0:Value}:Shp p_ 181 [v0] (dates_civil v0):=sh_ Tryz.call181 Tryz.func181 (an:={cuts:=[(9,[2])]}) fun _ _=>by kernel_rfl
def dates_Join_1 (v0 v1 v2:Value)(Kp:PK)(K:Value->WP):WP:=
 opN p_ (sBin .geq 3 v0 v1) Kp fun x9=>
 gdK x9 true (fun k=>k v0) fun x11=>
 gdK x9 true (fun k=>k v2) fun x12=>
 gdK x9 true (opN p_ (sBin .leq 3 x11 x12) Kp) fun x13=>
 opN p_ (sPick x9 x13 (.bool false)) Kp fun x14=>
 K x14
theorem dates_Join_1_s {v0 v1 v2:Value}:Shp p_ 182 [v0,v1,v2] (dates_Join_1 v0 v1 v2):=sh_ Tryz.call182 Tryz.func182 (an:={}) fun _ _=>by kernel_rfl
def dates_days (v0 v1 v2:Value)(Kp:PK)(K:Value→WP):WP:=
 cut1 (fun J1=>
 opN p_ (sBin .leq 3 v1 (.int .i64 2)) Kp fun x11=>
 condS x11
 (opN p_ (sBin .sub 3 v0 (.int .i64 1)) Kp fun x13=>
 J1 x13)
 (J1 v0)) fun _ z0=>
 opN p_ (sBin .quo 3 z0 (.int .i64 400)) Kp fun x15=>
 opN p_ (sBin .rem 3 z0 (.int .i64 400)) Kp fun x17=>
 opN p_ (sBin .add 3 v1 (.int .i64 9)) Kp fun x19=>
 opN p_ (sBin .rem 3 x19 (.int .i64 12)) Kp fun x20=>
 opN p_ (sBin .mul 3 (.int .i64 153) x20) Kp fun x21=>
 opN p_ (sBin .add 3 x21 (.int .i64 2)) Kp fun x22=>
 opN p_ (sBin .quo 3 x22 (.int .i64 5)) Kp fun x23=>
 opN p_ (sBin .add 3 x23 v2) Kp fun x25=>
 opN p_ (sBin .sub 3 x25 (.int .i64 1)) Kp fun x26=>
 opN p_ (sBin .mul 3 x15 (.int .i64 146097)) Kp fun x28=>
 opN p_ (sBin .mul 3 x17 (.int .i64 365)) Kp fun x30=>
 opN p_ (sBin .add 3 x28 x30) Kp fun x31=>
 opN p_ (sBin .quo 3 x17 (.int .i64 4)) Kp fun x33=>
 opN p_ (sBin .add 3 x31 x33) Kp fun x34=>
 opN p_ (sBin .quo 3 x17 (.int .i64 100)) Kp fun x36=>
 opN p_ (sBin .sub 3 x34 x36) Kp fun x37=>
 opN p_ (sBin .add 3 x37 x26) Kp fun x39=>
 opN p_ (sBin .sub 3 x39 (.int .i64 719468)) Kp fun x40=>
 K x40
theorem dates_days_s {v0 v1 v2:Value}:Shp p_ 183 [v0,v1,v2] (dates_days v0 v1 v2):=sh_ Tryz.call183 Tryz.func183 (an:={cuts:=[(3,[0])]}) fun _ _=>by kernel_rfl
def dates_weekdays (Kp:PK)(K:Value->WP):WP:=
 opN p_ (sAlloc 236) Kp fun x0=>
 opN p_ (sBuild 236 [(0,(.string ⟨#[83,117,110,100,97,121]⟩)),(1,(.string ⟨#[77,111,110,100,97,121]⟩)),(2,(.string ⟨#[84,117,101,115,100,97,121]⟩)),(3,(.string ⟨#[87,101,100,110,101,115,100,97,121]⟩)),(4,(.string ⟨#[84,104,117,114,115,100,97,121]⟩)),(5,(.string ⟨#[70,114,105,100,97,121]⟩)),(6,(.string ⟨#[83,97,116,117,114,100,97,121]⟩))]) Kp fun x1=>
 opN p_ (sStore 236 x0 x1) Kp fun _=>
 (stS p_ (sRes 236 x0) fun r0=>K r0)
theorem dates_weekdays_s  :Shp p_ 184 [] (dates_weekdays):=sh_ Tryz.call184 Tryz.func184 (an:={}) fun _ _=>by kernel_rfl
def dates_digits (v0 v1 v2:Value)(Kp:PK)(K:Value→WP):WP:=
 opN p_ (sMkSl 32 v1 v1) Kp fun x10=>
 opN p_ (sBin .sub 3 v1 (.int .i64 1)) Kp fun x12=>
 loop2 (fun I1 m1 _ y0 y8=>
 opN p_ (sBin .geq 3 y8 (.int .i64 0)) Kp fun x14=>
 condS x14
 (opN p_ (sBin .rem 3 y0 (.int .i64 10)) Kp fun x20=>
 opN p_ (sBin .add 3 (.int .i64 48) x20) Kp fun x21=>
 opN p_ (sConv 3 5 x21) Kp fun x22=>
 opN p_ (sIA 32 x10 y8) Kp fun x23=>
 opN p_ (sStore 5 x23 x22) Kp fun _=>
 cut0 (fun J1=>
 opN p_ (sEq .eql 3 (.tmp 24) (.const (.int .i64 0)) y0 (.int .i64 0)) Kp fun x25=>
 gdK x25 true (fun k=>k y8) fun x27=>
 gdK x25 true (fun k=>k v1) fun x28=>
 gdK x25 true (opN p_ (sBin .sub 3 x28 (.int .i64 1)) Kp) fun x29=>
 gdK x25 true (opN p_ (sBin .lss 3 x27 x29) Kp) fun x30=>
 opN p_ (sPick x25 x30 (.bool false)) Kp fun x31=>
 condS x31
 (opN p_ (sIA 32 x10 y8) Kp fun x35=>
 opN p_ (sStore 5 x35 v2) Kp fun _=>
 J1)
 (J1)) fun _=>
 opN p_ (sBin .quo 3 y0 (.int .i64 10)) Kp fun x37=>
 opN p_ (sBin .sub 3 y8 (.int .i64 1)) Kp fun x16=>
 next2 I1 m1 x37 x16)
 (opN p_ (sConv 32 9 x10) Kp fun x39=>
 K x39)) v0 x12
theorem dates_digits_s {v0 v1 v2:Value}:Shp p_ 185 [v0,v1,v2] (dates_digits v0 v1 v2):=sh_ Tryz.call185 Tryz.func185 (an:={cuts:=[(8,[])],loops:=[(3,[0,8])]}) fun _ _=>by kernel_rfl
def dates_Date_clock (v0:Value)(Kp:PK)(K:Value->WP):WP:=
 opN p_ (sBox 203 v0) Kp fun x1=>
 drS (stS p_ (sFA 203 x1 3) fun x3=>
 stS p_ (sLoad 3 x3) fun x4=>
 stD p_ (sFA 203 x1 4) fun D4 x7=>
 stD p_ (sLoad 3 x7) fun D5 x8=>
 stD p_ (sFA 203 x1 5) fun D9 x12=>
 stD p_ (sLoad 3 x12) fun D10 x13=>
 opN p_ (sCall (fn 185) [x4,(.int .i64 2),(.int .u8 48)]) Kp fun x5=>
 (fun w=>D10 w/\(fun w=>D9 w/\(fun w=>D5 w/\(fun w=>D4 w/\(stD p_ (sBin .add 9 x5 (.string ⟨#[58]⟩)) fun D3 x6=>
 opN p_ (sCall (fn 185) [x8,(.int .i64 2),(.int .u8 48)]) Kp fun x9=>
 (fun w=>D3 w/\(fun w=>D10 w/\(fun w=>D9 w/\(stD p_ (sBin .add 9 x6 x9) fun D7 x10=>
 stD p_ (sBin .add 9 x10 (.string ⟨#[58]⟩)) fun D8 x11=>
 opN p_ (sCall (fn 185) [x13,(.int .i64 2),(.int .u8 48)]) Kp fun x14=>
 (fun w=>D8 w/\(fun w=>D7 w/\(fun w=>D3 w/\(stS p_ (sBin .add 9 x11 x14) fun x15=>
 K x15) w) w) w)) w) w) w)) w) w) w) w))
theorem dates_Date_clock_s {v0:Value}:Shp p_ 186 [v0] (dates_Date_clock v0):=sh_ Tryz.call186 Tryz.func186 (an:={drs:=[(1,.ofL [(0,1),(1,1),(4,3),(5,3),(9,3),(10,3),(2,0),(3,3),(6,0),(7,3),(8,3),(11,0),(12,1),(13,1)])]}) fun _ _=>by kernel_rfl
def strconv_rangeError (v0 v1:Value)(Kp:PK)(K:Value->WP):WP:=
 drS (stD p_ (sLoad 165 (.pointer (some ⟨3,0,none⟩))) fun D3 x8=>
 opN p_ (sCall (fn 205) [v1]) Kp fun x7=>
 (fun w=>D3 w/\(stS p_ (sBuild 256 [(0,v0),(1,x7),(2,x8)]) fun x9=>
 opN p_ (sBox 256 x9) Kp fun x10=>
 K x10) w))
theorem strconv_rangeError_s {v0 v1:Value}:Shp p_ 190 [v0,v1] (strconv_rangeError v0 v1):=sh_ Tryz.call190 Tryz.func190 (an:={drs:=[(1,.ofL [(0,2),(1,1),(3,3),(2,0),(4,1),(5,0),(6,1)])]}) fun _ _=>by kernel_rfl
def stringslite_Index (v0 v1:Value)(Kp:PK)(K:Value→WP):WP:=
 opN p_ (sLen #[9] 3 [v1]) Kp fun x15=>
 opN p_ (sEq .eql 3 (.tmp 17) (.const (.int .i64 0)) x15 (.int .i64 0)) Kp fun x18=>
 gdK x18 false (fun k=>k v1) fun x20=>
 gdK x18 false (fun k=>k v0) fun x21=>
 gdK x18 false (opN p_ (sEq .eql 9 (.tmp 20) (.tmp 21) x20 x21) Kp) fun x22=>
 opN p_ (sPick x18 (.bool true) x22) Kp fun x23=>
 condS x23
 (K (.int .i64 0))
 (opN p_ (sEq .eql 3 (.tmp 25) (.const (.int .i64 1)) x15 (.int .i64 1)) Kp fun x26=>
 condS x26
 (opN p_ (sIx 9 v1 (.int .i64 0)) Kp fun x29=>
 opN p_ (sCall (fn 145) [v0,x29]) Kp fun x30=>
 K x30)
 (opN p_ (sLen #[9] 3 [v0]) Kp fun x34=>
 opN p_ (sBin .geq 3 x15 x34) Kp fun x35=>
 condS x35
 (K (.int .i64 (-1)))
 (opN p_ (sLoad 3 (.pointer (some ⟨0,0,none⟩))) Kp fun x38=>
 opN p_ (sBin .leq 3 x15 x38) Kp fun x39=>
 gdK x39 true (fun k=>k v0) fun x41=>
 gdK x39 true (opN p_ (sLen #[9] 3 [x41]) Kp) fun x42=>
 gdK x39 true (opN p_ (sBin .leq 3 x42 (.int .i64 64)) Kp) fun x43=>
 opN p_ (sPick x39 x43 (.bool false)) Kp fun x44=>
 condS x44
 (opN p_ (sCall (fn 207) [v0,v1]) Kp fun x47=>
 K x47)
 (opN p_ (sIx 9 v1 (.int .i64 0)) Kp fun x49=>
 opN p_ (sIx 9 v1 (.int .i64 1)) Kp fun x51=>
 opN p_ (sLen #[9] 3 [v0]) Kp fun x53=>
 opN p_ (sBin .sub 3 x53 x15) Kp fun x55=>
 opN p_ (sBin .add 3 x55 (.int .i64 1)) Kp fun x56=>
 loop2 (fun I1 m1 _ y8 y10=>
 opN p_ (sBin .lss 3 y8 x56) Kp fun x59=>
 condS x59
 (cut1 (fun J1=>
 opN p_ (sIx 9 v0 y8) Kp fun x62=>
 opN p_ (sEq .neq 5 (.tmp 62) (.tmp 63) x62 x49) Kp fun x64=>
 condS x64
 (opN p_ (sBin .add 3 y8 (.int .i64 1)) Kp fun x67=>
 opN p_ (sSl 9 v0 (some x67) (some x56) none) Kp fun x69=>
 opN p_ (sCall (fn 145) [x69,x49]) Kp fun x71=>
 opN p_ (sBin .lss 3 x71 (.int .i64 0)) Kp fun x73=>
 condS x73
 (K (.int .i64 (-1)))
 (opN p_ (sBin .add 3 x71 (.int .i64 1)) Kp fun x76=>
 opN p_ (sBin .add 3 y8 x76) Kp fun x77=>
 J1 x77))
 (J1 y8)) fun _ z8=>
 opN p_ (sBin .add 3 z8 (.int .i64 1)) Kp fun x80=>
 opN p_ (sIx 9 v0 x80) Kp fun x81=>
 opN p_ (sEq .eql 5 (.tmp 81) (.tmp 82) x81 x51) Kp fun x83=>
 gdK x83 true (fun k=>k v0) fun x85=>
 gdK x83 true (fun k=>k z8) fun x86=>
 gdK x83 true (fun k=>k z8) fun x87=>
 gdK x83 true (fun k=>k x15) fun x88=>
 gdK x83 true (opN p_ (sBin .add 3 x87 x88) Kp) fun x89=>
 gdK x83 true (opN p_ (sSl 9 x85 (some x86) (some x89) none) Kp) fun x90=>
 gdK x83 true (fun k=>k v1) fun x91=>
 gdK x83 true (opN p_ (sEq .eql 9 (.tmp 90) (.tmp 91) x90 x91) Kp) fun x92=>
 opN p_ (sPick x83 x92 (.bool false)) Kp fun x93=>
 condS x93
 (K z8)
 (opN p_ (sBin .add 3 z8 (.int .i64 1)) Kp fun x96=>
 opN p_ (sBin .add 3 y10 (.int .i64 1)) Kp fun x98=>
 opN p_ (sLoad 3 (.pointer (some ⟨0,0,none⟩))) Kp fun x100=>
 opN p_ (sBin .leq 3 x15 x100) Kp fun x101=>
 gdK x101 true (fun k=>k x98) fun x103=>
 gdK x101 true (fun k=>k x96) fun x104=>
 gdK x101 true (opN p_ (sCall (fn 208) [x104]) Kp) fun x105=>
 gdK x101 true (opN p_ (sBin .gtr 3 x103 x105) Kp) fun x106=>
 opN p_ (sPick x101 x106 (.bool false)) Kp fun x107=>
 condS x107
 (opN p_ (sSl 9 v0 (some x96) none none) Kp fun x110=>
 opN p_ (sCall (fn 207) [x110,v1]) Kp fun x112=>
 opN p_ (sBin .geq 3 x112 (.int .i64 0)) Kp fun x114=>
 condS x114
 (opN p_ (sBin .add 3 x112 x96) Kp fun x117=>
 K x117)
 (K (.int .i64 (-1))))
 (opN p_ (sLoad 3 (.pointer (some ⟨0,0,none⟩))) Kp fun x119=>
 opN p_ (sBin .gtr 3 x15 x119) Kp fun x120=>
 gdK x120 true (fun k=>k x98) fun x122=>
 gdK x120 true (fun k=>k x96) fun x123=>
 gdK x120 true (opN p_ (sBin .shr 3 x123 (.int .u64 4)) Kp) fun x124=>
 gdK x120 true (opN p_ (sBin .add 3 (.int .i64 4) x124) Kp) fun x125=>
 gdK x120 true (opN p_ (sBin .geq 3 x122 x125) Kp) fun x126=>
 opN p_ (sPick x120 x126 (.bool false)) Kp fun x127=>
 gdK x127 true (fun k=>k x96) fun x129=>
 gdK x127 true (fun k=>k x56) fun x130=>
 gdK x127 true (opN p_ (sBin .lss 3 x129 x130) Kp) fun x131=>
 opN p_ (sPick x127 x131 (.bool false)) Kp fun x132=>
 condS x132
 (opN p_ (sSl 9 v0 (some x96) none none) Kp fun x135=>
 opN p_ (sCall (fn 209) [x135,v1]) Kp fun x137=>
 opN p_ (sBin .lss 3 x137 (.int .i64 0)) Kp fun x139=>
 condS x139
 (K (.int .i64 (-1)))
 (opN p_ (sBin .add 3 x96 x137) Kp fun x142=>
 K x142))
 (next2 I1 m1 x96 x98))))
 (K (.int .i64 (-1)))) (.int .i64 0) (.int .i64 0)))))
theorem stringslite_Index_s {v0 v1:Value}:Shp p_ 194 [v0,v1] (stringslite_Index v0 v1):=sh_ Tryz.call194 Tryz.func194 (an:={cuts:=[(21,[8])],loops:=[(15,[8,10])]}) fun _ _=>by kernel_rfl
def istrconv_log10Pow2 (v0:Value)(Kp:PK)(K:Value->WP):WP:=
 opN p_ (sBin .mul 3 v0 (.int .i64 78913)) Kp fun x4=>
 opN p_ (sBin .shr 3 x4 (.int .u64 18)) Kp fun x5=>
 K x5
theorem istrconv_log10Pow2_s {v0:Value}:Shp p_ 195 [v0] (istrconv_log10Pow2 v0):=sh_ Tryz.call195 Tryz.func195 (an:={}) fun _ _=>by kernel_rfl
def math_bits_Len64 (v0:Value)(Kp:PK)(K:Value→WP):WP:=
 cut2 (fun J1=>
 opN p_ (sBin .geq 186 v0 (.int .u64 4294967296)) Kp fun x4=>
 condS x4
 (opN p_ (sBin .shr 186 v0 (.int .u64 32)) Kp fun x6=>
 J1 x6 (.int .i64 32))
 (J1 v0 (.int .i64 0))) fun _ z0 z2=>
 cut2 (fun J2=>
 opN p_ (sBin .geq 186 z0 (.int .u64 65536)) Kp fun x8=>
 condS x8
 (opN p_ (sBin .shr 186 z0 (.int .u64 16)) Kp fun x10=>
 opN p_ (sBin .add 3 z2 (.int .i64 16)) Kp fun x12=>
 J2 x10 x12)
 (J2 z0 z2)) fun _ z0 z2=>
 cut2 (fun J3=>
 opN p_ (sBin .geq 186 z0 (.int .u64 256)) Kp fun x14=>
 condS x14
 (opN p_ (sBin .shr 186 z0 (.int .u64 8)) Kp fun x16=>
 opN p_ (sBin .add 3 z2 (.int .i64 8)) Kp fun x18=>
 J3 x16 x18)
 (J3 z0 z2)) fun _ z0 z2=>
 opN p_ (sConv 186 5 z0) Kp fun x21=>
 opN p_ (sIx 9 (txt lit1) x21) Kp fun x22=>
 opN p_ (sConv 5 3 x22) Kp fun x23=>
 opN p_ (sBin .add 3 z2 x23) Kp fun x24=>
 K x24
theorem math_bits_Len64_s {v0:Value}:Shp p_ 196 [v0] (math_bits_Len64 v0):=sh_ Tryz.call196 Tryz.func196 (an:={cuts:=[(4,[0,2]),(7,[0,2]),(10,[0,2])]}) fun _ _=>by kernel_rfl
def istrconv_bool2_int (v0:Value)(Kp:PK)(K:Value->WP):WP:=
 condS v0
 (K (.int .i64 1))
 (K (.int .i64 0))
theorem istrconv_bool2_int_s {v0:Value}:Shp p_ 197 [v0] (istrconv_bool2_int v0):=sh_ Tryz.call197 Tryz.func197 (an:={}) fun _ _=>by kernel_rfl
def ref09_leap (v0:Value)(Kp:PK)(K:Value->WP):WP:=
 opN p_ (sBin .rem 3 v0 (.int .i64 4)) Kp fun x4=>
 opN p_ (sEq .eql 3 (.tmp 4) (.const (.int .i64 0)) x4 (.int .i64 0)) Kp fun x5=>
 gdK x5 true (fun k=>k v0) fun x7=>
 gdK x5 true (opN p_ (sBin .rem 3 x7 (.int .i64 100)) Kp) fun x8=>
 gdK x5 true (opN p_ (sEq .neq 3 (.tmp 8) (.const (.int .i64 0)) x8 (.int .i64 0)) Kp) fun x9=>
 opN p_ (sPick x5 x9 (.bool false)) Kp fun x10=>
 gdK x10 false (fun k=>k v0) fun x12=>
 gdK x10 false (opN p_ (sBin .rem 3 x12 (.int .i64 400)) Kp) fun x13=>
 gdK x10 false (opN p_ (sEq .eql 3 (.tmp 13) (.const (.int .i64 0)) x13 (.int .i64 0)) Kp) fun x14=>
 opN p_ (sPick x10 (.bool true) x14) Kp fun x15=>
 K x15
theorem ref09_leap_s {v0:Value}:Shp p_ 200 [v0] (ref09_leap v0):=sh_ Tryz.call200 Tryz.func200 (an:={}) fun _ _=>by kernel_rfl
def strings_asciiSet_contains (v0 v1:Value)(Kp:PK)(K:Value->WP):WP:=
 opN p_ (sNil v0) Kp fun x7=>
 opN p_ (sIA 225 x7 v1) Kp fun x8=>
 opN p_ (sLoad 4 x8) Kp fun x9=>
 K x9
theorem strings_asciiSet_contains_s {v0 v1:Value}:Shp p_ 201 [v0,v1] (strings_asciiSet_contains v0 v1):=sh_ Tryz.call201 Tryz.func201 (an:={}) fun _ _=>by kernel_rfl
end Go.Proofs.YthomhkpedghhgaaGreatDoor.S
namespace Go.Proofs.YthomhkpedghhgaaGreatDoor.FD
open Go Go.Proofs Go.RowKit Sh Sl T
section
variable {P:Program} {W:World} {L L':List HP} {Kp:PK} {k:Value->WP}
theorem e_and {a b:Bool}{y:Value}{s:Value->Sem Next}(h2:a=true->RunV P W [] (s y) (.bool b))(h:Ent W L (k (.bool (a&&b)))):
  Ent W L (gdK (.bool a) true (fun k=>k y) fun x=>gdK (.bool a) true (opN P (s x) Kp) fun x2=>opN P (sPick (.bool a) x2 (.bool false)) Kp k):=by
 cases a with
 |true=>
  refine e_gdT (e_gdT (o_ (h2 rfl) ?_))
  refine o_ v_pickT ?_
  simpa using h
 |false=>
  refine e_gdF2 (e_gdF2 (o_ v_pickF ?_))
  simpa using h
theorem e_orand {a b c:Bool}{y:Value}{s1 s2:Value->Sem Next}(h1:a=false->RunV P W [] (s1 y) (.bool b))(h2:a=false->b=true->RunV P W [] (s2 y) (.bool c))(h:Ent W L (k (.bool (a||(b&&c))))):
  Ent W L (gdK (.bool a) false (fun k=>k y) fun x14=>gdK (.bool a) false (opN P (s1 x14) Kp) fun x15=>gdK (.bool a) false (fun k=>k x15) fun x16=>gdK x16 true (fun k=>k y) fun x17=>gdK x16 true (opN P (s2 x17) Kp) fun x18=>
   gdK (.bool a) false (opN P (sPick x16 x18 (.bool false)) Kp) fun x19=>opN P (sPick (.bool a) (.bool true) x19) Kp k):=by
 cases a with
 |true=>
  refine e_gdF1 (e_gdF1 (e_gdF1 (e_gdU (e_gdU (e_gdF1 (o_ v_pickT ?_))))))
  simpa using h
 |false=>
  refine e_gdT (e_gdT (o_ (h1 rfl) ?_))
  refine e_gdT ?_
  cases b with
  |true=>
   refine e_gdT (e_gdT (o_ (h2 rfl rfl) ?_))
   refine e_gdT (o_ v_pickT (o_ v_pickF ?_))
   simpa using h
  |false=>
   refine e_gdF2 (e_gdF2 (e_gdT (o_ v_pickF (o_ v_pickF ?_))))
   simpa using h
theorem e_stF {t:TypeId} {g o:Nat} {cs:Array Value} {T:TypeId} {fz:Nat × Nat} {v:Value} [ht:OneT P t] [hv:OC v] (p:Pick L (pt g (.cells cs T fz)) L') (ho:o<cs.size) (hfz:¬(fz.1<=o/\o<fz.2))
  (h:Ent W (pt g (.cells (cs.setIfInBounds o v) T fz)::L') (k undef)):Ent W L (opN P (sStore t (.pointer (some ⟨g,o,none⟩)) v) Kp k):=fun w hw=>by
 have hw':=hw.pick p
 have hc:w.cell? ⟨g,o,none⟩=some cs[o]:=by rw[hw'.cell,Array.getElem?_eq_getElem ho]
 have hf:w.frozen? ⟨g,o,none⟩=false:=by
  simp only[World.frozen?,hw'.pt_.1]
  simp
  intro h1
  by_cases c:o<fz.2
  ·exact absurd ⟨h1,c⟩ hfz
  ·omega
 have hcells:v.cells= #[v]:=by exact cells_one hv.one
 refine⟨?_⟩
 have hr:(sStore t (.pointer (some ⟨g,o,none⟩)) v).run P w= .ok .skip (w.setCell ⟨g,o,none⟩ v):=by
  simp[sStore,Instr.storeAt,Instr.sureAddr,storeVar,ht.size,hcells,storeCells,Addr.add,run_store,hv.one,hc,hf]
 rw[hr]
 exact h _ (hw'.setCell v)
theorem e_sbytesF {s t e:TypeId} {l:List UInt8} [hs:StrT P s] (ht:P.underlying t=some (.slice e)) (he:P.underlying e=some (.int .u8))
  (h:∀g c (rest:List Value),Ent W (pt g (.cells (l.map B++rest).toArray e (l.length+rest.length,l.length+rest.length+1))::L) (k (.slice (some ⟨g,0,none⟩) l.length c))):Ent W L (opN P (sConv s t (txt l)) Kp k):=fun w hw=>by
 refine⟨?_⟩
 have hr:=run_bytes_of_string (P:=P) w s t e ⟨l.toArray⟩ hs.ut ht he
 have hb:bytesRow ⟨l.toArray⟩ (grownCap w l.length 0 e)=(l.map B++(Array.replicate (grownCap w l.length 0 e-l.length) (Value.int .u8 0)).toList).toArray:=by
  apply Array.ext'
  simp[bytesRow,B,ByteArray.size]
 have:(sConv s t (txt l)).run P w= .ok (.value (.slice (some ⟨w.heap.size,0,none⟩) l.length (grownCap w l.length 0 e))) (w.drew.alloc (.cells (bytesRow ⟨l.toArray⟩ (grownCap w l.length 0 e)) e ((bytesRow ⟨l.toArray⟩ (grownCap w l.length 0 e)).size,(bytesRow ⟨l.toArray⟩ (grownCap w l.length 0 e)).size+1))):=by
  simp[sConv,txt,hr,ByteArray.size]
 rw[this]
 have h2:=(hw.drew).alloc (.cells (bytesRow ⟨l.toArray⟩ (grownCap w l.length 0 e)) e ((bytesRow ⟨l.toArray⟩ (grownCap w l.length 0 e)).size,(bytesRow ⟨l.toArray⟩ (grownCap w l.length 0 e)).size+1))
 rw[hb]at h2 ⊢
 have hz:((l.map B++(Array.replicate (grownCap w l.length 0 e-l.length) (Value.int .u8 0)).toList).toArray).size=l.length+((Array.replicate (grownCap w l.length 0 e-l.length) (Value.int .u8 0)).toList).length:=by simp
 rw[hz]at h2 ⊢
 exact h _ _ _ _ h2
end
def ixF (l:List UInt8)(c:UInt8):Int:=if c∈l then((l.findIdx (· ==c):Nat):Int)else-1
theorem firstIdx_eq {l:List UInt8}{c:UInt8}:firstIdx ⟨l.toArray⟩ c=ixF l c:=by
 have e:∀i,i<l.length->((⟨l.toArray⟩:ByteArray)[i]! ==c)=(l.getD i 0==c):=fun i hi=>by
  have h2:i<(⟨l.toArray⟩:ByteArray).size:=hi
  rw[getElem!_pos _ i h2]
  simp[ByteArray.getElem_eq_getElem_data,List.getD_eq_getElem?_getD,hi]
 unfold ixF
 by_cases h:c∈l
 ·rw[if_pos h]
  have hlt:l.findIdx (· ==c)<l.length:=List.findIdx_lt_length_of_exists ⟨c,h,by simp⟩
  have hf:(List.range (⟨l.toArray⟩:ByteArray).size).find? (fun i=>(⟨l.toArray⟩:ByteArray)[i]! ==c)=some (l.findIdx (· ==c)):=by
   rw[List.find?_eq_some_iff_getElem]
   refine⟨?_,l.findIdx (· ==c),by simpa [ByteArray.size]using hlt,by simp,fun j hj=>?_⟩
   ·rw[e _ hlt]
    have:=List.findIdx_getElem (w:=hlt)
    simpa [List.getD_eq_getElem?_getD,hlt]using this
   ·have hjl:j<l.length:=by omega
    simp only[List.getElem_range]
    rw[e _ hjl]
    have:=List.not_of_lt_findIdx hj
    simpa [List.getD_eq_getElem?_getD,hjl]using this
  unfold firstIdx
  rw[hf]
 ·rw[if_neg h]
  have hf:(List.range (⟨l.toArray⟩:ByteArray).size).find? (fun i=>(⟨l.toArray⟩:ByteArray)[i]! ==c)=none:=by
   rw[List.find?_eq_none]
   intro i hi
   have hil:i<l.length:=by simpa [ByteArray.size]using hi
   rw[e i hil]
   simp[List.getD_eq_getElem?_getD,hil]
   rintro rfl
   exact h (List.getElem_mem hil)
  unfold firstIdx
  rw[hf]
theorem ixF_nn {l:List UInt8}{c:UInt8}:(0<=ixF l c)↔c∈l:=by
 unfold ixF
 by_cases h:c∈l
 ·rw[if_pos h];simp[h]
 ·rw[if_neg h];simp[h]
theorem indexByte0 {W:World}{l:List UInt8}{c:UInt8}:Cn p_ 145 [txt l,Sl.B c] W [] (fun _:Unit=> .int .i64 (ixF l c)) (fun _=>[]):=by
 have ext:RunV p_ W [] (sCall (fn 172) [txt l,Sl.B c]) (.int .i64 (ixF l c)):=fun w _=>by
  have hr:(callFunc 172 #[txt l,Sl.B c]).run p_ w= .ok (.value (.int .i64 (ixF l c))) w:=by
   rw[run_callFunc_extern Tryz.func172 (by kernel_rfl) (by kernel_rfl) (by kernel_rfl) (e:=Extern.BytealgIndexByte.indexByte) (by kernel_rfl)]
   have:=run_indexByte_string (P:=p_) ⟨l.toArray⟩ (c.toNat:Int) w
   unfold txt Sl.B
   rw[this]
   simp only[Result.andThen_ok]
   rw[show(↑c.toNat:Int).toNat.toUInt8=c by simp,firstIdx_eq]
  simp[sCall,Deferred.ofValue,invoke,fn,hr]
 (refine S.stringslite_IndexByte_s.cn fun F=>?_;unfold S.stringslite_IndexByte;simp only[ca_,na_])
 refine o_ ext ?_
 refine rt_ () ?_
 exact im_
theorem indexByte {W:World}{l:List UInt8}{c:UInt8}:Cn p_ 123 [txt l,Sl.B c] W [] (fun _:Unit=> .int .i64 (ixF l c)) (fun _=>[]):=by
 (refine S.strings_IndexByte_s.cn fun F=>?_;unfold S.strings_IndexByte;simp only[ca_,na_])
 refine c_ indexByte0 fun _=>?_
 refine rt_ () ?_
 exact im_
end Go.Proofs.YthomhkpedghhgaaGreatDoor.FD
namespace Go.Proofs.YthomhkpedghhgaaGreatDoor.FD
open Go Go.Proofs Go.RowKit Sh Sl T
theorem info8:(p_.info? 5).map (fun i=>(i.zero,i.size,i.bytes))=some (some (.int .u8 0),1,1):=by kernel_rfl
set_option maxHeartbeats 4000000 in
set_option maxRecDepth 100000 in
theorem clone0 (s:ByteArray)(w:World)(hlim:s.size<=281474976710656):
  Calls p_ 205 #[.string s] w fun e w'=>e= .returned (.string s)/\Below w.heap.size w w':=by
 by_cases h0:s.size=0
 ·have hs:s=⟨#[]⟩:=by
   apply ByteArray.ext
   exact Array.eq_empty_of_size_eq_zero h0
  subst hs
  go_enter Tryz.func205,Tryz.ntmps205
  go_wp2
  go_ret
  exact⟨rfl,Below.refl _ _⟩
 ·obtain⟨i0,hi,hz0,hz1,hz2⟩:=info_parts info8
  have hinfo:(p_.info? 5).map (·.size)=some 1:=by rw[hi];simp[hz1]
  have hco:p_.cellsOf 5=1:=by simp[Program.cellsOf,hi,hz1]
  obtain⟨M,hM⟩:∃M,M=madeCells (Value.int .u8 0).cells (((s.size:Nat):Int).toNat * i0.size):=⟨_,rfl⟩
  have hMs:M.size=s.size:=by rw[hM,size_madeCells,hz1];simp
  have hmk:∀W:World,(Instr.makeSlice 32 (.int .i64 (s.size:Int)) (.int .i64 (s.size:Int))).run p_ W= .ok (.slice (some ⟨W.heap.size,0,none⟩) s.size s.size) (W.alloc (.cells M 5)):=fun W=>by
   have h:=run_make (P:=p_) W 32 5 i0 (.int .u8 0) Tryz.underlying32 hi hz0 .i64 .i64 (s.size:Int) (s.size:Int) (by omega) (by omega) (by rw[hz2];omega) (by omega)
   rw[<- hM]at h
   simpa using h
  clear hM
  have hcp:=Lib.run_copy_row_string (P:=p_) (w.alloc (.cells M 5)) 32 9 3 5 w.heap.size 0 s.size s.size s M 5 Tryz.underlying32 hinfo (heap_alloc_new w _) (Nat.le_refl _) (by omega)
  obtain⟨Y,hY⟩:∃Y,Y=(M.toList.take 0++Lib.byteCells s.data.toList++M.toList.drop (0+s.size)).toArray:=⟨_,rfl⟩
  rw[<- hY]at hcp
  have hYl:Y.toList=Lib.byteCells s.data.toList:=by
   rw[hY,List.toList_toArray,List.take_zero,List.nil_append,List.drop_of_length_le (by rw[Array.length_toList];omega),List.append_nil]
  have hYs:Y.size=s.size:=by rw[<- Array.length_toList,hYl,Lib.byteCells_length,<- Lib.size_eq]
  have hgY:((w.alloc (.cells M 5)).setRow w.heap.size Y).heap[w.heap.size]? =some (.cells Y 5 (0,0)):=setRow_heap _ _ M _ 5 (0,0) (heap_alloc_new w _)
  have hne:s.data.toList≠[]:=fun e=>h0 (by rw[Lib.size_eq,e];rfl)
  have hUS:=Lib.run_unsafeString_row (P:=p_) ((w.alloc (.cells M 5)).setRow w.heap.size Y) 193 3 9 5 Tryz.underlying193 hco w.heap.size Y.size (by unfold World.shape?;rw[hgY]) s.data.toList hne (by rw[<- Lib.size_eq];omega) (by rw[<- Lib.size_eq];omega)
   (fun j x hx=>Lib.cells_of_row hgY Y.size j _ (by rw[List.take_of_length_le (by rw[Array.length_toList];exact Nat.le_refl _),hYl];simp[Lib.byteCells,hx]))
  rw[<- Lib.size_eq]at hUS
  clear hY
  go_enter Tryz.func205,Tryz.ntmps205
  go_wp2
  go_ret
  have hb1:Below w.heap.size w (w.alloc (.cells M 5)):=(Below.refl _ w).alloc (Nat.le_refl _) _
  have hb2:Below w.heap.size (w.alloc (.cells M 5)) ((w.alloc (.cells M 5)).setRow w.heap.size Y):=⟨rfl,rfl,rfl,by simp,fun k hk=>setRow_other _ _ _ _ (by omega)⟩
  exact⟨rfl,Lib.below_freeze (hb1.trans hb2) (p:=⟨w.heap.size,0,none⟩) (Nat.le_refl _) _⟩
theorem sat_below {W w w':World}{L:List HP}(H:sat W L w)(hb:Below w.heap.size w w'):sat W L w':=by
 obtain⟨h,hl,hh⟩:=H.heap
 refine⟨⟨hb.os.trans H.base.os,hb.tape.trans H.base.tape,hb.output.trans H.base.output,Nat.le_trans H.base.size hb.size,fun k hk=>(hb.block k (Nat.lt_of_lt_of_le hk H.base.size)).trans (H.base.block k hk)⟩,h,hl,fun i o c=>?_⟩
 obtain⟨h1,h2⟩:=hh i o c
 have hlt:i<w.heap.size:=(Array.getElem?_eq_some_iff.1 h2).1
 exact⟨h1,by rw[hb.block i hlt,h2]⟩
theorem clone {W:World}{l:List UInt8}(hl:l.length<=281474976710656):Cn p_ 205 [txt l] W [] (fun _:Unit=>txt l) (fun _=>[]):=
 ⟨Tryz.call205,fun F w hw=>(clone0 ⟨l.toArray⟩ w hl).mono fun e w' ⟨he,hb⟩=>⟨(),he,sat_below hw hb⟩⟩
instance zero256:ZeroT p_ 147 (.agg (An 256 fun _=>0)):=⟨fun w=>(Tryz.zeroValue147 w).trans (by
 have:Tryz.zeroCells147=An 256 fun _=>0:=by kernel_rfl
 rw[this])⟩
def u8 (i:Nat):UInt8:=UInt8.ofNat i
theorem u8_nat {i:Nat}(h:i<256):(u8 i).toNat=i:=by
 unfold u8
 rw[UInt8.toNat_ofNat']
 omega
def clT (i:Nat):Int:=if tokB (u8 i)then 1 else 0
def clV (i:Nat):Int:=clT i+(if i=9\/(32<=i/\i≠127)then 2 else 0)
def cls (i:Nat):Int:=clV i+(if 65<=i/\i<=90 then 4 else 0)
theorem aln_i {i:Nat}(h:i<256):((decide ((97:Int)<=(i:Int))&&decide ((i:Int)<=122))||(decide ((65:Int)<=(i:Int))&&decide ((i:Int)<=90))||(decide ((48:Int)<=(i:Int))&&decide ((i:Int)<=57)))=alnB (u8 i):=by
 unfold alnB
 have e:=u8_nat h
 simp only[UInt8.le_iff_toNat_le,e]
 rw[<- Bool.decide_and,<- Bool.decide_and,<- Bool.decide_and,<- Bool.decide_or,<- Bool.decide_or,decide_eq_decide]
 simp only[show(97:UInt8).toNat=97 from rfl,show(122:UInt8).toNat=122 from rfl,show(65:UInt8).toNat=65 from rfl,show(90:UInt8).toNat=90 from rfl,show(48:UInt8).toNat=48 from rfl,show(57:UInt8).toNat=57 from rfl]
 omega
theorem tokC_b (c:UInt8):tokC.contains c=true->32<c.toNat/\c.toNat<127:=by
 refine all8 (p:=fun c=>tokC.contains c=true->32<c.toNat/\c.toNat<127) ?_ c
 decide+kernel
def clA (i:Nat)(x:Int):Nat->Int:=fun j=>if j<i then cls j else if j=i then x else 0
theorem clA_set {i:Nat}{x y:Int}:(An 256 (clA i x)).setIfInBounds i (.int .i64 y)=An 256 (clA i y):=by
 refine An_set.trans (An_congr fun j _=>?_)
 unfold clA
 by_cases h:j=i
 ·subst h;simp
 ·simp[h]
theorem clA_at {i:Nat}{x:Int}(h:i<256):(An 256 (clA i x))[i]? =some (.int .i64 x):=by
 rw[An_get h];simp[clA,I]
theorem clA_next {i:Nat}:An 256 (clA i (cls i))=An 256 (clA (i+1) 0):=An_congr fun j _=>by
 unfold clA
 by_cases h:j<i
 ·rw[if_pos h,if_pos (by omega)]
 ·by_cases h2:j=i
  ·subst h2;simp
  ·rw[if_neg h,if_neg h2,if_neg (by omega)];simp
theorem an_one {n:Nat}{f:Nat->Int}:∀u∈(An n f).toList,u.oneCell'=true:=by
 intro u hu
 simp only[An]at hu
 obtain⟨j,_,rfl⟩:=List.mem_map.1 hu
 rfl
theorem or1:bitOp .or .i64 0 1=1:=by rfl
theorem or2 {x:Int}(h:x=0\/x=1):bitOp .or .i64 x 2=x+2:=by rcases h with rfl|rfl <;> rfl
theorem or4 {x:Int}(h:x=0\/x=1\/x=2\/x=3):bitOp .or .i64 x 4=x+4:=by rcases h with rfl|rfl|rfl|rfl <;> rfl
theorem clT_v (i:Nat):clT i=0\/clT i=1:=by unfold clT;split <;> simp
theorem clV_v (i:Nat):clV i=0\/clV i=1\/clV i=2\/clV i=3:=by
 have:=clT_v i
 unfold clV
 split <;> omega
theorem classes {W : World} : Cn p_ 101 [] W [] (fun _ : Unit => .agg (An 256 cls)) (fun _ => []) := by
 (refine S.ascii_classes_s.cn fun F => ?_; unfold S.ascii_classes; simp only [ca_, na_])
 refine e_newA fun b0 => ?_
 refine e_newA fun b1 => ?_
 refine e_loop1 (fun m y => [ex fun i : Nat => all [pu (m + i = 256 ∧ y = .int .i64 (i : Int)), pt b1 (.cells (An 256 (clA i 0)) 147 (0, 0)), pt b0 (.cells (An 256 fun _ => 0) 147 (0, 0))]] ++ F) 256 ?_ ?_
 ·refine Imp.ex 0 (.all ?_)
  refine nr_ ?_
  have e : An 256 (clA 0 0) = An 256 fun _ => 0 := An_congr fun j _ => by unfold clA; simp
  rw [e]
  exact .pu ⟨by omega, rfl⟩ .refl
 intro m ds y
 refine nr_ ?_
 refine e_ex Pick.here fun i => e_all Pick.here ?_
 refine nr_ ?_
 refine e_pu Pick.here fun hi => ?_
 obtain ⟨hmi, rfl⟩ := hi
 refine e_ask v_lss .nil (fun h => ?_) (fun h => ?_)
 ·have hil : i < 256 := by omega
  refine e_condT (o_ v_geq (e_and (fun _ => v_leq) ?_))
  refine e_orand (fun _ => v_geq) (fun _ _ => v_leq) ?_
  refine e_orand (fun _ => v_geq) (fun _ _ => v_leq) ?_
  rw [aln_i hil]
  refine e_cut0 (pt b1 (.cells (An 256 (clA i (clT i))) 147 (0, 0)) :: pt b0 (.cells (An 256 fun _ => 0) 147 (0, 0)) :: F) ?_ ?_
  ·intro ds1
   refine e_cut0 (pt b1 (.cells (An 256 (clA i (clV i))) 147 (0, 0)) :: pt b0 (.cells (An 256 fun _ => 0) 147 (0, 0)) :: F) ?_ ?_
   ·intro ds2
    have fin : ∀ x, x = cls i → Ent W (pt b1 (.cells (An 256 (clA i x)) 147 (0, 0)) :: pt b0 (.cells (An 256 fun _ => 0) 147 (0, 0)) :: F) (next1 (fun m y w => sat W ([ex fun i : Nat => all [pu (m + i = 256 ∧ y = .int .i64 (i : Int)), pt b1 (.cells (An 256 (clA i 0)) 147 (0, 0)), pt b0 (.cells (An 256 fun _ => 0) 147 (0, 0))]] ++ F) w) m (.int .i64 ((i : Int) + 1))) := by
     intro x hx
     subst hx
     rw [clA_next]
     refine e_next1 (m - 1) (by omega) (.ex (i + 1) (.all ?_))
     refine nr_ ?_
     exact .pu ⟨by omega, rfl⟩ .refl
    refine o_ v_geq (e_and (fun _ => v_leq) ?_)
    rw [← Bool.decide_and]
    by_cases h4 : (65 : Int) ≤ (i : Int) ∧ (i : Int) ≤ 90
    ·rw [dT_ h4]
     refine e_condT (o_ (v_iaA i rfl hil) ?_)
     rw [Nat.zero_add, Nat.mul_one]
     refine e_opN (v_ld (clA_at hil)) (.pick .here .nil) ?_
     refine o_ v_or (o_ (v_iaA i rfl hil) ?_)
     rw [Nat.zero_add, Nat.mul_one]
     refine e_st .here (by rw [An_size]; exact hil) ?_
     rw [clA_set, or4 (clV_v i)]
     refine ad_ ?_
     exact fin _ (by unfold cls; rw [if_pos (by omega)])
    ·rw [dF_ h4]
     refine e_condF (ad_ ?_)
     exact fin _ (by unfold cls; rw [if_neg (by omega), Int.add_zero])
   ·have fin : ∀ b : Bool, b = decide (i = 9 ∨ (32 ≤ i ∧ i ≠ 127)) → Ent W (pt b1 (.cells (An 256 (clA i (clT i))) 147 (0, 0)) :: pt b0 (.cells (An 256 fun _ => 0) 147 (0, 0)) :: F) (condS (.bool b)
      (opN p_ (sIA 147 (.pointer (some ⟨b1, 0, none⟩)) (.int .i64 (i : Int))) noP fun x60 =>
       opN p_ (sLoad 3 x60) noP fun x61 =>
       opN p_ (sBin .or 3 x61 (.int .i64 2)) noP fun x62 =>
       opN p_ (sIA 147 (.pointer (some ⟨b1, 0, none⟩)) (.int .i64 (i : Int))) noP fun x63 =>
       opN p_ (sStore 3 x63 x62) noP fun _ => fun w => sat W (pt b1 (.cells (An 256 (clA i (clV i))) 147 (0, 0)) :: pt b0 (.cells (An 256 fun _ => 0) 147 (0, 0)) :: F) w)
      (fun w => sat W (pt b1 (.cells (An 256 (clA i (clV i))) 147 (0, 0)) :: pt b0 (.cells (An 256 fun _ => 0) 147 (0, 0)) :: F) w)) := by
     intro b hb
     by_cases h2 : i = 9 ∨ (32 ≤ i ∧ i ≠ 127)
     ·rw [hb, dT_ h2]
      refine e_condT (o_ (v_iaA i rfl hil) ?_)
      rw [Nat.zero_add, Nat.mul_one]
      refine e_opN (v_ld (clA_at hil)) (.pick .here .nil) ?_
      refine o_ v_or (o_ (v_iaA i rfl hil) ?_)
      rw [Nat.zero_add, Nat.mul_one]
      refine e_st .here (by rw [An_size]; exact hil) ?_
      rw [clA_set, or2 (clT_v i), show clT i + 2 = clV i by unfold clV; rw [if_pos h2]]
      exact e_sat .refl
     ·rw [hb, dF_ h2]
      refine e_condF ?_
      rw [show clT i = clV i by unfold clV; rw [if_neg h2, Int.add_zero]]
      exact e_sat .refl
    refine o_ v_eql (e_orand (fun _ => v_geq) (fun _ _ => v_neq) ?_)
    refine fin _ ?_
    rw [← Bool.decide_and, ← Bool.decide_or, decide_eq_decide]
    omega
  ·have finT : tokB (u8 i) = true → Ent W (pt b1 (.cells (An 256 (clA i 0)) 147 (0, 0)) :: pt b0 (.cells (An 256 fun _ => 0) 147 (0, 0)) :: F)
      (opN p_ (sIA 147 (.pointer (some ⟨b1, 0, none⟩)) (.int .i64 (i : Int))) noP fun x60 =>
       opN p_ (sLoad 3 x60) noP fun x61 =>
       opN p_ (sBin .or 3 x61 (.int .i64 1)) noP fun x62 =>
       opN p_ (sIA 147 (.pointer (some ⟨b1, 0, none⟩)) (.int .i64 (i : Int))) noP fun x63 =>
       opN p_ (sStore 3 x63 x62) noP fun _ => fun w => sat W (pt b1 (.cells (An 256 (clA i (clT i))) 147 (0, 0)) :: pt b0 (.cells (An 256 fun _ => 0) 147 (0, 0)) :: F) w) := by
    intro hb
    refine o_ (v_iaA i rfl hil) ?_
    rw [Nat.zero_add, Nat.mul_one]
    refine e_opN (v_ld (clA_at hil)) (.pick .here .nil) ?_
    refine o_ v_or (o_ (v_iaA i rfl hil) ?_)
    rw [Nat.zero_add, Nat.mul_one]
    refine e_st .here (by rw [An_size]; exact hil) ?_
    rw [clA_set, or1, show (1 : Int) = clT i by unfold clT; rw [hb]; rfl]
    exact e_sat .refl
   have finF : tokB (u8 i) = false → Ent W (pt b1 (.cells (An 256 (clA i 0)) 147 (0, 0)) :: pt b0 (.cells (An 256 fun _ => 0) 147 (0, 0)) :: F)
      (fun w => sat W (pt b1 (.cells (An 256 (clA i (clT i))) 147 (0, 0)) :: pt b0 (.cells (An 256 fun _ => 0) 147 (0, 0)) :: F) w) := by
    intro hb
    rw [show clT i = 0 by unfold clT; rw [hb]; rfl]
    exact e_sat .refl
   have htk : tokB (u8 i) = (alnB (u8 i) || tokC.contains (u8 i)) := rfl
   cases ha : alnB (u8 i) with
   | true =>
    rw [ha] at htk
    exact e_gdF1 (e_gdF1 (e_gdF1 (e_gdU (e_gdU (e_gdF1 (e_gdF1 (e_gdU (e_gdU (e_gdU (e_gdU (e_gdF1 (o_ v_pickT (e_condT (finT (by rw [htk]; rfl)))))))))))))))
   | false =>
    rw [ha, Bool.false_or] at htk
    have hcb := tokC_b (u8 i)
    rw [u8_nat hil] at hcb
    refine e_gdT (e_gdT (e_ask v_gtr .nil (fun h => ?_) (fun h => ?_)))
    ·(refine e_gdT ?_); refine e_gdT ?_; refine e_gdT ?_
     refine e_ask v_lss .nil (fun h => ?_) (fun h => ?_)
     ·(refine e_gdT ?_); refine o_ v_pickT ?_; refine e_gdT ?_; refine e_gdT ?_; refine e_gdT ?_
      refine o_ v_conv ?_
      rw [show (IntKind.u8.wrap (i : Int)) = ((u8 i).toNat : Int) by rw [u8_nat hil]; simp [IntKind.wrap, IntKind.signed, IntKind.bits]; omega]
      refine e_gdT (e_call (indexByte (l := tokC) (c := u8 i)) .nil fun _ => ?_)
      refine nr_ ?_
      refine e_gdT (e_ask v_geq .nil (fun h => ?_) (fun h => ?_))
      ·(refine e_gdT ?_); refine o_ v_pickT ?_; refine o_ v_pickF ?_; refine e_condT ?_
       exact finT (by rw [htk]; simpa using ixF_nn.1 h)
      ·(refine e_gdT ?_); refine o_ v_pickT ?_; refine o_ v_pickF ?_; refine e_condF ?_
       exact finF (by rw [htk]; simpa using fun c => h (ixF_nn.2 c))
     ·(refine e_gdT ?_); refine o_ v_pickT ?_; refine e_gdT ?_; refine e_gdF2 ?_; refine e_gdF2 ?_; refine e_gdF2 ?_; refine e_gdF2 ?_; refine e_gdT ?_; refine o_ v_pickF ?_; refine o_ v_pickF ?_; refine e_condF ?_
      exact finF (by rw [htk]; cases hx : tokC.contains (u8 i) with
       | true => have := hcb hx; omega
       | false => rfl)
    ·(refine e_gdT ?_); refine e_gdF2 ?_; refine e_gdF2 ?_; refine e_gdT ?_; refine o_ v_pickF ?_; refine e_gdT ?_; refine e_gdF2 ?_; refine e_gdF2 ?_; refine e_gdF2 ?_; refine e_gdF2 ?_; refine e_gdT ?_; refine o_ v_pickF ?_; refine o_ v_pickF ?_; refine e_condF ?_
     exact finF (by rw [htk]; cases hx : tokC.contains (u8 i) with
      | true => have := hcb hx; omega
      | false => rfl)
 ·have h256 : i = 256 := by omega
  subst h256
  refine e_condF ?_
  have e : An 256 (clA 256 0) = An 256 cls := An_congr fun j hj => by unfold clA; rw [if_pos hj]
  rw [e]
  refine e_opN (v_ldAgg (An_size 256 cls)) (.pick .here .nil) ?_
  refine e_stAgg (.there .here) (An_size 256 _) (An_size 256 _) an_one ?_
  refine e_stS (v_resA (An_size 256 cls)) (.pick .here .nil) ?_
  refine rt_ () ?_
  exact im_
theorem u8_id (c:UInt8):u8 c.toNat=c:=by simp[u8]
theorem and1 (c:UInt8):bitOp .and .i64 (cls c.toNat) 1=0↔tokB c=false:=by
 refine all8 (p:=fun c=>bitOp .and .i64 (cls c.toNat) 1=0↔tokB c=false) ?_ c
 decide+kernel
theorem and4 (c:UInt8):bitOp .and .i64 (cls c.toNat) 4≠0↔(65<=c/\c<=90):=by
 refine all8 (p:=fun c=>bitOp .and .i64 (cls c.toNat) 4≠0↔(65<=c/\c<=90)) ?_ c
 decide+kernel
theorem all_ {W:World}{l:List UInt8}{bit:Int}{p:UInt8->Bool}(hb:∀c:UInt8,bitOp .and .i64 (cls c.toNat) bit=0↔p c=false)(hl:l.length<=4611686018427387904):
  Cn p_ 109 [txt l,.int .i64 bit] W [] (fun _:Unit=> .bool (l.all p)) (fun _=>[]):=by
 (refine S.ascii_all_s.cn fun F=>?_;unfold S.ascii_all;simp only[ca_,na_])
 refine c_ classes fun _=>?_
 refine e_newA fun b1=>?_
 refine e_stAgg .here (An_size 256 _) (An_size 256 _) an_one ?_
 refine o_ v_lent (e_loop1 (fun m y=>[ex fun i:Nat=>all [pu (m+i=l.length/\y= .int .i64 (i:Int)/\l.all p=(l.drop i).all p),pt b1 (.cells (An 256 cls) 147 (0,0))]]++F) l.length ?_ ?_)
 ·refine Imp.ex 0 (.all ?_)
  refine nr_ ?_
  exact .pu ⟨by omega,rfl,rfl⟩ .refl
 intro m ds y
 refine nr_ ?_
 refine e_ex Pick.here fun i=>e_all Pick.here ?_
 refine nr_ ?_
 refine e_pu Pick.here fun hi=>?_
 obtain⟨hmi,rfl,hall⟩:=hi
 refine e_ask v_lss .nil (fun h=>?_) (fun h=>?_)
 ·have hil:i<l.length:=by omega
  refine e_condT (o_ (v_ixS i rfl hil) ?_)
  have hc:=(l[i]).toNat_lt
  refine o_ (v_iaA (l[i]).toNat rfl hc) ?_
  rw[Nat.zero_add,Nat.mul_one]
  refine e_opN (v_ld (An_get hc)) (.pick .here .nil) ?_
  refine o_ v_and ?_
  rw[dr hil,List.all_cons]at hall
  refine e_ask v_eql .nil (fun h=>?_) (fun h=>?_)
  ·refine e_condT ?_
   rw[(hb _).1 h,Bool.false_and]at hall
   rw[hall]
   refine rt_ () ?_
   exact im_
  ·refine e_condF ?_
   have hp:p l[i]=true:=by
    cases hx:p l[i]with
    |true=>rfl
    |false=>exact absurd ((hb _).2 hx) h
   rw[hp,Bool.true_and]at hall
   refine ad_ ?_
   refine e_next1 (m-1) (by omega) (.ex (i+1) (.all ?_))
   refine nr_ ?_
   exact .pu ⟨by omega,rfl,hall⟩ .refl
 ·refine e_condF ?_
  rw[List.drop_of_length_le (by omega),List.all_nil]at hall
  rw[hall]
  refine rt_ () ?_
  exact im_
theorem token {W:World}{l:List UInt8}(hl:l.length<=4611686018427387904):Cn p_ 84 [txt l] W [] (fun _:Unit=> .bool (tokF l)) (fun _=>[]):=by
 (refine S.ascii_Token_s.cn fun F=>?_;unfold S.ascii_Token;simp only[ca_,na_])
 have e0:(Value.string ⟨#[]⟩)=txt []:=rfl
 rw[e0]
 refine e_ask v_strne .nil (fun h=>?_) (fun h=>?_)
 ·refine e_gdT (e_gdT (c_ (all_ and1 hl) fun _=>?_))
  refine o_ v_pickT ?_
  have:tokF l=l.all tokB:=by unfold tokF;cases l with
   |nil=>exact absurd rfl h
   |cons _ _=>rfl
  rw[this]
  refine rt_ () ?_
  exact im_
 ·have h:l=[]:=Decidable.not_not.1 h
  subst h
  refine e_gdF2 (e_gdF2 (o_ v_pickF (rt_ () ?_)))
  exact im_
theorem lower {W:World}{l:List UInt8}(hl:l.length<=4611686018427387904):Cn p_ 67 [txt l] W [] (fun _:Unit=>txt (lowF l)) (fun _=>[]):=by
 (refine S.ascii_Lower_s.cn fun F=>?_;unfold S.ascii_Lower;simp only[ca_,na_])
 refine c_ classes fun _=>?_
 refine e_newA fun b1=>?_
 refine e_stAgg .here (An_size 256 _) (An_size 256 _) an_one ?_
 refine e_sbytesF Tryz.underlying32 Tryz.underlying5 fun g c rest=>?_
 refine o_ v_len (e_loop1 (fun m y=>[ex fun i:Nat=>all [pu (m+i=l.length/\y= .int .i64 (i:Int)),pt g (.cells (((l.take i).map lowB++l.drop i).map B++rest).toArray 5 (l.length+rest.length,l.length+rest.length+1)),pt b1 (.cells (An 256 cls) 147 (0,0))]]++F) l.length ?_ ?_)
 ·refine Imp.ex 0 (.all ?_)
  refine nr_ ?_
  rw[List.take_zero,List.drop_zero,List.map_nil,List.nil_append]
  exact .pu ⟨by omega,rfl⟩ .refl
 intro m ds y
 refine nr_ ?_
 refine e_ex Pick.here fun i=>e_all Pick.here ?_
 refine nr_ ?_
 refine e_pu Pick.here fun hi=>?_
 obtain⟨hmi,rfl⟩:=hi
 refine e_ask v_lss .nil (fun h=>?_) (fun h=>?_)
 ·have hil:i<l.length:=by omega
  refine e_condT ?_
  have hcl:((l.take i).map lowB++l.drop i).length=l.length:=by simp;omega
  have hget:((((l.take i).map lowB++l.drop i).map B++rest).toArray)[i]? =some (B l[i]):=by
   simp[List.getElem?_append,hil,Nat.min_eq_left (Nat.le_of_lt hil)]
   intro h0;omega
  refine o_ (v_ia1 i rfl hil) ?_
  rw[Nat.zero_add]
  refine e_opN (v_ld hget) (.pick .here .nil) ?_
  have hc:=(l[i]).toNat_lt
  refine o_ (v_iaA (l[i]).toNat rfl hc) ?_
  rw[Nat.zero_add,Nat.mul_one]
  refine e_opN (v_ld (An_get hc)) (.pick (.there .here) .nil) ?_
  refine o_ v_and ?_
  have step:∀x,x=lowB l[i]->(((l.take i).map lowB++l.drop i).map B++rest).toArray.setIfInBounds i (B x)=(((l.take (i+1)).map lowB++l.drop (i+1)).map B++rest).toArray:=by
   intro x hx
   subst hx
   rw[List.setIfInBounds_toArray]
   congr 1
   rw[dr hil,List.take_succ_eq_append_getElem hil]
   rw[List.map_append,List.map_append,List.map_append,List.map_append]
   have hk:(List.map B (List.map lowB (List.take i l))).length=i:=by simp;omega
   rw[List.append_assoc,List.append_assoc,List.append_assoc,List.set_append,if_neg (by rw[hk];omega),hk,Nat.sub_self]
   rfl
  refine e_ask v_neq .nil (fun h=>?_) (fun h=>?_)
  ·have h65:=(and4 l[i]).1 h
   have hlo:lowB l[i]=l[i]+32:=if_pos h65
   have hn:(lowB l[i]).toNat=(l[i]).toNat+32:=by
    rw[hlo,UInt8.toNat_add]
    have:=UInt8.le_iff_toNat_le.1 h65.2
    simp only[show(90:UInt8).toNat=90 from rfl]at this
    simp only[show(32:UInt8).toNat=32 from rfl]
    omega
   refine e_condT (o_ v_addw ?_)
   rw[show IntKind.u8.wrap ((l[i].toNat:Int)+32)=((lowB l[i]).toNat:Int) by
    rw[hn]
    have:=UInt8.le_iff_toNat_le.1 h65.2
    simp only[show(90:UInt8).toNat=90 from rfl]at this
    simp[IntKind.wrap,IntKind.signed,IntKind.bits];omega]
   refine o_ (v_ia1 i rfl hil) ?_
   rw[Nat.zero_add]
   refine e_stF (v:=B (lowB l[i])) .here (by simp;omega) (by simp;omega) ?_
   rw[step _ rfl]
   refine ad_ ?_
   refine e_next1 (m-1) (by omega) (.ex (i+1) (.all ?_))
   refine nr_ ?_
   exact .pu ⟨by omega,rfl⟩ .refl
  ·have hlo:lowB l[i]=l[i]:=if_neg (fun c=>h ((and4 l[i]).2 c))
   refine e_condF ?_
   have e2:(((l.take i).map lowB++l.drop i).map B++rest).toArray=(((l.take (i+1)).map lowB++l.drop (i+1)).map B++rest).toArray:=by
    rw[<- step _ hlo.symm]
    refine Array.ext_getElem? fun j=>?_
    rw[Array.getElem?_setIfInBounds]
    by_cases hj:i=j
    ·subst hj
     rw[if_pos rfl,hget,if_pos (by simp;omega)]
    ·rw[if_neg hj]
   rw[e2]
   refine ad_ ?_
   refine e_next1 (m-1) (by omega) (.ex (i+1) (.all ?_))
   refine nr_ ?_
   exact .pu ⟨by omega,rfl⟩ .refl
 ·have hie:i=l.length:=by omega
  subst hie
  refine e_condF ?_
  rw[List.take_length,List.drop_length,List.append_nil]
  have hrd:=rd_row (W:=W) (g:=g) (e:=5) (fz:=(l.length+rest.length,l.length+rest.length+1)) (cs:=(lowF l).map B) (rest:=rest)
  have e1:((lowF l).map B).length=l.length:=by simp[lowF]
  rw[e1]at hrd
  refine e_opN (v_str (l:=lowF l) hrd (by intro h;cases h)) (.pick .here .nil) ?_
  refine rt_ () ?_
  exact im_
def Bn (n:Nat)(f:Nat->Bool):Array Value:=((List.range n).map fun j=>Value.bool (f j)).toArray
theorem Bn_size (n:Nat)(f:Nat->Bool):(Bn n f).size=n:=by simp[Bn]
theorem Bn_get {n j:Nat}{f:Nat->Bool}(h:j<n):(Bn n f)[j]? =some (.bool (f j)):=by simp[Bn,h]
theorem Bn_congr {n:Nat}{f g:Nat->Bool}(h:∀j,j<n->f j=g j):Bn n f=Bn n g:=by
 unfold Bn
 congr 1
 exact List.map_congr_left fun j hj=>by rw[h j (List.mem_range.1 hj)]
theorem Bn_set {n j:Nat}{f:Nat->Bool}{v:Bool}:(Bn n f).setIfInBounds j (.bool v)=Bn n fun i=>if i=j then v else f i:=by
 apply Array.ext_getElem?
 intro i
 rw[Array.getElem?_setIfInBounds,Bn_size]
 by_cases c:j=i
 ·subst c
  rw[if_pos rfl]
  by_cases h:j<n
  ·rw[if_pos h,Bn_get h];simp
  ·rw[if_neg h,Array.getElem?_eq_none (by rw[Bn_size];omega)]
 ·rw[if_neg c]
  by_cases h:i<n
  ·rw[Bn_get h,Bn_get h,if_neg (fun e=>c e.symm)]
  ·rw[Array.getElem?_eq_none (by rw[Bn_size];omega),Array.getElem?_eq_none (by rw[Bn_size];omega)]
theorem bn_one {n:Nat}{f:Nat->Bool}:∀u∈(Bn n f).toList,u.oneCell'=true:=by
 intro u hu
 simp only[Bn]at hu
 obtain⟨j,_,rfl⟩:=List.mem_map.1 hu
 rfl
instance zeroSet:ZeroT p_ 225 (.agg (Bn 256 fun _=>false)):=⟨fun w=>(Tryz.zeroValue225 w).trans (by
 have:Tryz.zeroCells225=Bn 256 fun _=>false:=by kernel_rfl
 rw[this])⟩
def blN (j:Nat):Bool:=decide (j=32\/j=9)
theorem blN_c (c:UInt8):blN c.toNat=isBl c:=by
 refine all8 (p:=fun c=>blN c.toNat=isBl c) ?_ c
 decide+kernel
theorem makeSet {W:World}:Cn p_ 175 [txt [32,9]] W [] (fun _:Unit=> .tuple #[.agg (Bn 256 blN),.bool true]) (fun _=>[]):=by
 (refine S.strings_makeASCIISet_s.cn fun F=>?_;unfold S.strings_makeASCIISet;simp only[ca_,na_])
 refine e_newA fun b=>?_
 refine e_loop1 (fun m y=>[ex fun i:Nat=>all [pu (m+i=2/\y= .int .i64 (i:Int)),pt b (.cells (Bn 256 fun j=>decide ((j=32/\0<i)\/(j=9/\1<i))) 225 (0,0))]]++F) 2 ?_ ?_
 ·refine Imp.ex 0 (.all ?_)
  refine nr_ ?_
  refine .pu ⟨by omega,rfl⟩ ?_
  have e:(Bn 256 fun j=>decide ((j=32/\0<0)\/(j=9/\1<0)))=Bn 256 fun _=>false:=Bn_congr fun j _=>by simp
  rw[e]
  exact .refl
 intro m ds y
 refine nr_ ?_
 refine e_ex Pick.here fun i=>e_all Pick.here ?_
 refine nr_ ?_
 refine e_pu Pick.here fun hi=>?_
 obtain⟨hmi,rfl⟩:=hi
 refine o_ v_lent (e_ask v_lss .nil (fun h=>?_) (fun h=>?_))
 ·have hil:i<([32,9]:List UInt8).length:=Int.ofNat_lt.1 h
  have hi2:i<2:=hil
  refine e_condT ?_
  have step:∀(c:UInt8),([32,9]:List UInt8)[i]? =some c->c.toNat<128->(Bn 256 fun j=>if j=c.toNat then true else decide ((j=32/\0<i)\/(j=9/\1<i)))=(Bn 256 fun j=>decide ((j=32/\0<i+1)\/(j=9/\1<i+1))):=by
   intro c hc _
   refine Bn_congr fun j _=>?_
   have:i=0\/i=1:=by omega
   rcases this with rfl|rfl
   ·have:c=32:=by simpa using hc.symm
    subst this
    by_cases h1:j=32 <;> simp[h1]
   ·have:c=9:=by simpa using hc.symm
    subst this
    by_cases h1:j=9 <;> simp[h1]
  have hc:([32,9]:List UInt8)[i].toNat<128:=by
   have:i=0\/i=1:=by omega
   rcases this with rfl|rfl
   ·show(32:UInt8).toNat<128
    decide
   ·show(9:UInt8).toNat<128
    decide
  refine o_ (v_ixS (l:=[32,9]) i rfl hil) ?_
  have hstep:=step _ (List.getElem?_eq_getElem hil) hc
  obtain⟨c,hce⟩:∃c,c=([32,9]:List UInt8)[i]:=⟨_,rfl⟩
  rw[<- hce]at hstep hc ⊢
  refine o_ (v_geq (q:= .u8) (a:=(c.toNat:Int)) (b:=128)) ?_
  rw[dF_ (by omega)]
  refine e_condF (o_ (v_iaA c.toNat rfl (by omega)) ?_)
  rw[Nat.zero_add,Nat.mul_one]
  refine e_st .here (by rw[Bn_size];omega) ?_
  rw[Bn_set,hstep]
  refine ad_ ?_
  refine e_next1 (m-1) (by omega) (.ex (i+1) (.all ?_))
  refine nr_ ?_
  exact .pu ⟨by omega,rfl⟩ .refl
 ·have hi2:i=2:=by simp at h;omega
  subst hi2
  refine e_condF ?_
  have e:(Bn 256 fun j=>decide ((j=32/\0<2)\/(j=9/\1<2)))=Bn 256 blN:=Bn_congr fun j _=>by simp[blN]
  rw[e]
  refine e_opN (v_ldAgg (Bn_size 256 _)) (.pick .here .nil) ?_
  refine e_stAgg .here (Bn_size 256 _) (Bn_size 256 _) bn_one ?_
  refine e_stS (v_resA (Bn_size 256 _)) (.pick .here .nil) ?_
  refine rt_ () ?_
  exact im_
theorem contains {W:World}{g:Nat}{c:UInt8}:Cn p_ 201 [.pointer (some ⟨g,0,none⟩),Sl.B c] W [pt g (.cells (Bn 256 blN) 225 (0,0))] (fun _:Unit=> .bool (isBl c)) (fun _=>[pt g (.cells (Bn 256 blN) 225 (0,0))]):=by
 (refine S.strings_asciiSet_contains_s.cn fun F=>?_;unfold S.strings_asciiSet_contains;simp only[ca_,na_])
 refine o_ v_nil ?_
 have hc:=c.toNat_lt
 refine o_ (v_iaA c.toNat rfl hc) ?_
 rw[Nat.zero_add,Nat.mul_one]
 refine e_opN (v_ld (Bn_get hc)) (.pick .here .nil) ?_
 rw[blN_c]
 refine rt_ () ?_
 exact im_
theorem trimLeft {W:World}{g:Nat}{l:List UInt8}(hl:l.length<=4611686018427387904):Cn p_ 176 [txt l,.pointer (some ⟨g,0,none⟩)] W [pt g (.cells (Bn 256 blN) 225 (0,0))] (fun _:Unit=>txt (trimL l)) (fun _=>[pt g (.cells (Bn 256 blN) 225 (0,0))]):=by
 (refine S.strings_trimLeftASCII_s.cn fun F=>?_;unfold S.strings_trimLeftASCII;simp only[ca_,na_])
 refine e_loop1 (fun m y=>[ex fun u:List UInt8=>all [pu (m=u.length/\y=txt u/\trimL u=trimL l/\u.length<=l.length),pt g (.cells (Bn 256 blN) 225 (0,0))]]++F) l.length ?_ ?_
 ·refine Imp.ex l (.all ?_)
  refine nr_ ?_
  exact .pu ⟨rfl,rfl,rfl,Nat.le_refl _⟩ .refl
 intro m ds y
 refine nr_ ?_
 refine e_ex Pick.here fun u=>e_all Pick.here ?_
 refine nr_ ?_
 refine e_pu Pick.here fun hi=>?_
 obtain⟨hmi,rfl,htr,hul⟩:=hi
 refine o_ v_lent (e_ask v_gtr .nil (fun h=>?_) (fun h=>?_))
 ·have h0:0<u.length:=by omega
  refine e_condT (o_ (v_ixS 0 rfl h0) ?_)
  refine c_ contains fun _=>?_
  refine o_ v_not ?_
  cases hb:isBl u[0]with
  |true=>
   refine e_condF (o_ (v_ssl 1 rfl (by omega)) ?_)
   refine e_next1 (m-1) (by omega) (.ex (u.drop 1) (.all ?_))
   refine nr_ ?_
   refine .pu ⟨by rw[List.length_drop];omega,rfl,(trimL_t h0 hb).symm.trans htr,by rw[List.length_drop];omega⟩ ?_
   exact im_
  |false=>
   refine e_condT ?_
   rw[<- htr,trimL_f h0 hb]
   refine rt_ () ?_
   exact im_
 ·have h0:u=[]:=List.eq_nil_of_length_eq_zero (by omega)
  subst h0
  refine e_condF ?_
  rw[<- htr]
  refine rt_ () ?_
  exact im_
theorem trimRight {W:World}{g:Nat}{l:List UInt8}(hl:l.length<=4611686018427387904):Cn p_ 177 [txt l,.pointer (some ⟨g,0,none⟩)] W [pt g (.cells (Bn 256 blN) 225 (0,0))] (fun _:Unit=>txt (trimR l)) (fun _=>[pt g (.cells (Bn 256 blN) 225 (0,0))]):=by
 (refine S.strings_trimRightASCII_s.cn fun F=>?_;unfold S.strings_trimRightASCII;simp only[ca_,na_])
 refine e_loop1 (fun m y=>[ex fun u:List UInt8=>all [pu (m=u.length/\y=txt u/\trimR u=trimR l/\u.length<=l.length),pt g (.cells (Bn 256 blN) 225 (0,0))]]++F) l.length ?_ ?_
 ·refine Imp.ex l (.all ?_)
  refine nr_ ?_
  exact .pu ⟨rfl,rfl,rfl,Nat.le_refl _⟩ .refl
 intro m ds y
 refine nr_ ?_
 refine e_ex Pick.here fun u=>e_all Pick.here ?_
 refine nr_ ?_
 refine e_pu Pick.here fun hi=>?_
 obtain⟨hmi,rfl,htr,hul⟩:=hi
 refine o_ v_lent (e_ask v_gtr .nil (fun h=>?_) (fun h=>?_))
 ·obtain⟨n,hn⟩:∃n,u.length=n+1:=⟨u.length-1,by omega⟩
  refine e_condT (o_ v_lent (sb_ ?_))
  refine o_ (v_ixS n (by omega) (by omega)) ?_
  refine c_ contains fun _=>?_
  refine o_ v_not ?_
  cases hb:isBl (u[n]'(by omega))with
  |true=>
   refine e_condF (o_ v_lent (sb_ ?_))
   refine o_ (v_ssh n (by omega) (by omega)) ?_
   refine e_next1 (m-1) (by omega) (.ex (u.take n) (.all ?_))
   refine nr_ ?_
   refine .pu ⟨by rw[List.length_take];omega,rfl,(trimR_t hn hb).symm.trans htr,by rw[List.length_take];omega⟩ ?_
   exact im_
  |false=>
   refine e_condT ?_
   rw[<- htr,trimR_f hn hb]
   refine rt_ () ?_
   exact im_
 ·have h0:u=[]:=List.eq_nil_of_length_eq_zero (by omega)
  subst h0
  refine e_condF ?_
  rw[<- htr]
  refine rt_ () ?_
  exact im_
theorem trimR_len (l:List UInt8):(trimR l).length<=l.length:=by
 have h2:=(List.dropWhile_sublist (p:=isBl) (l:=l.reverse)).length_le
 unfold trimR
 rw[List.length_reverse]at h2 ⊢
 exact h2
theorem trimS {W:World}{l:List UInt8}(hl:l.length<=4611686018427387904):Cn p_ 146 [txt l,txt [32,9]] W [] (fun _:Unit=>txt (trimB l)) (fun _=>[]):=by
 (refine S.strings_Trim_s.cn fun F=>?_;unfold S.strings_Trim;simp only[ca_,na_])
 have e0:(Value.string ⟨#[]⟩)=txt []:=rfl
 rw[e0]
 refine e_ask v_streq .nil (fun h=>?_) (fun h=>?_)
 ·subst h
  refine e_gdF1 (e_gdF1 (o_ v_pickT (e_condT (rt_ () ?_))))
  exact im_
 ·(refine e_gdT ?_);refine e_gdT ?_
  refine o_ v_streq ?_
  rw[dF_ (by decide)]
  refine o_ v_pickF (e_condF (o_ v_lent (o_ v_eql ?_)))
  rw[dF_ (by decide)]
  refine e_gdF2 (e_gdF2 (e_gdF2 (o_ v_pickF (e_condF (c_ makeSet fun _=>?_)))))
  refine o_ (v_extN (vs:=[_,_]) .here) ?_
  refine o_ (v_extN (vs:=[_,_]) (.there .here)) ?_
  refine e_newA fun b=>?_
  refine e_stAgg .here (Bn_size 256 _) (Bn_size 256 _) bn_one ?_
  refine e_condT (c_ (trimRight hl) fun _=>?_)
  refine c_ (trimLeft (Nat.le_trans (trimR_len l) hl)) fun _=>?_
  refine rt_ () ?_
  exact im_
theorem trim {W:World}{l:List UInt8}(hl:l.length<=4611686018427387904):Cn p_ 124 [txt l] W [] (fun _:Unit=>txt (trimB l)) (fun _=>[]):=by
 (refine S.ascii_Trim_s.cn fun F=>?_;unfold S.ascii_Trim;simp only[ca_,na_])
 have e0:(Value.string ⟨#[32,9]⟩)=txt [32,9]:=rfl
 rw[e0]
 refine c_ (trimS hl) fun _=>?_
 refine rt_ () ?_
 exact im_
theorem cut_ix {c:UInt8}:∀ {l:List UInt8},(c∈l->cutS c l=true/\l.take (l.findIdx (· ==c))=cutA c l/\l.drop (l.findIdx (· ==c)+1)=cutB c l)/\(c∉l->cutS c l=false/\cutA c l=l/\cutB c l=[])
 |[]=>⟨fun h=>(by cases h),fun _=>⟨rfl,rfl,rfl⟩⟩
 |x::r=>by
  have ih:=cut_ix (c:=c) (l:=r)
  by_cases hx:x=c
  ·subst hx
   refine⟨fun _=>?_,fun h=>absurd (List.mem_cons_self) h⟩
   simp[cutS,cutA,cutB,List.findIdx_cons]
  ·have hb:(x==c)=false:=by simpa using hx
   refine⟨fun h=>?_,fun h=>?_⟩
   ·have hr:c∈r:=by
     rcases List.mem_cons.1 h with h|h
     ·exact absurd h.symm hx
     ·exact h
    obtain⟨i1,i2,i3⟩:=ih.1 hr
    simp[cutS,cutA,cutB,List.findIdx_cons,hx,hb,i1,i2,i3]
   ·obtain⟨i1,i2,i3⟩:=ih.2 (fun c=>h (List.mem_cons_of_mem _ c))
    simp[cutS,cutA,cutB,hx,i1,i2,i3]
theorem index1 {W:World}{l:List UInt8}{c:UInt8}(hl:l.length<=4611686018427387904):Cn p_ 194 [txt l,txt [c]] W [] (fun _:Unit=> .int .i64 (ixF l c)) (fun _=>[]):=by
 (refine S.stringslite_Index_s.cn fun F=>?_;unfold S.stringslite_Index;simp only[ca_,na_])
 refine o_ v_lent (o_ v_eql ?_)
 rw[dF_ (by simp)]
 refine e_gdT (e_gdT (e_gdT (e_ask v_streq .nil (fun h=>?_) (fun h=>?_))))
 ·subst h
  refine o_ v_pickF (e_condT ?_)
  have:ixF [c] c=0:=by simp[ixF]
  rw[this]
  refine rt_ () ?_
  exact im_
 ·(refine o_ v_pickF ?_);refine e_condF ?_
  refine o_ v_eql ?_
  rw[dT_ (by simp)]
  refine e_condT (o_ (v_ixS (l:=[c]) 0 rfl (by simp)) ?_)
  rw[show([c]:List UInt8)[0]'(by simp)=c from rfl]
  refine c_ indexByte0 fun _=>?_
  refine rt_ () ?_
  exact im_
theorem cut0_ {W:World}{l:List UInt8}{c:UInt8}(hl:l.length<=4611686018427387904):Cn p_ 159 [txt l,txt [c]] W [] (fun _:Unit=> .tuple #[txt (cutA c l),txt (cutB c l),.bool (cutS c l)]) (fun _=>[]):=by
 (refine S.stringslite_Cut_s.cn fun F=>?_;unfold S.stringslite_Cut;simp only[ca_,na_])
 refine c_ (index1 hl) fun _=>?_
 have hcx:=cut_ix (c:=c) (l:=l)
 refine e_ask v_geq .nil (fun h=>?_) (fun h=>?_)
 ·have hm:=ixF_nn.1 h
  obtain⟨h1,h2,h3⟩:=hcx.1 hm
  have hlt:l.findIdx (· ==c)<l.length:=List.findIdx_lt_length_of_exists ⟨c,hm,by simp⟩
  rw[show ixF l c=((l.findIdx (· ==c):Nat):Int)from if_pos hm]
  refine e_condT (e_drS (t_ (v_ssh (l.findIdx (· ==c)) rfl (by omega)) ?_))
  refine t_ v_lent (t_ (v_add (by simp;omega) (by simp;omega)) ?_)
  refine t_ (v_ssl (l.findIdx (· ==c)+1) (by simp) (by omega)) ?_
  rw[h2,h3,h1]
  refine rt_ () ?_
  exact im_
 ·obtain⟨h1,h2,h3⟩:=hcx.2 (fun c=>h (ixF_nn.2 c))
  refine e_condF ?_
  rw[h1,h2,h3]
  have e0:(Value.string ⟨#[]⟩)=txt []:=rfl
  rw[e0]
  refine rt_ () ?_
  exact im_
theorem cut_ {W:World}{l:List UInt8}{c:UInt8}(hl:l.length<=4611686018427387904):Cn p_ 132 [txt l,txt [c]] W [] (fun _:Unit=> .tuple #[txt (cutA c l),txt (cutB c l),.bool (cutS c l)]) (fun _=>[]):=by
 (refine S.strings_Cut_s.cn fun F=>?_;unfold S.strings_Cut;simp only[ca_,na_])
 refine c_ (cut0_ hl) fun _=>?_
 refine xt_ ?_;refine xt_ ?_;refine xt_ ?_
 refine rt_ () ?_
 exact im_
def eqlF (a b:List UInt8):Bool:=decide (a.length=b.length)&&decide (lowF a=lowF b)
theorem equal {W:World}{a b:List UInt8}(ha:a.length<=4611686018427387904)(hb:b.length<=4611686018427387904):Cn p_ 74 [txt a,txt b] W [] (fun _:Unit=> .bool (eqlF a b)) (fun _=>[]):=by
 (refine S.ascii_Equal_s.cn fun F=>?_;unfold S.ascii_Equal;simp only[ca_,na_])
 refine o_ v_lent (o_ v_lent (e_ask v_eql .nil (fun h=>?_) (fun h=>?_)))
 ·have e:eqlF a b=decide (lowF a=lowF b):=by unfold eqlF;rw[dT_ (by omega)];rfl
  rw[e]
  refine e_gdT (e_gdT (c_ (lower ha) fun _=>?_))
  refine e_gdT (e_gdT (c_ (lower hb) fun _=>?_))
  refine e_gdT (o_ v_streq (o_ v_pickT (rt_ () ?_)))
  exact im_
 ·have e:eqlF a b=false:=by unfold eqlF;rw[dF_ (by omega)];rfl
  rw[e]
  refine e_gdF2 (e_gdF2 (e_gdF2 (e_gdF2 (e_gdF2 (o_ v_pickF (rt_ () ?_))))))
  exact im_
section
variable {P:Program} {W:World} {L L':List HP} {Kp:PK} {k:Value->WP}
theorem e_and0 {a b:Bool}(h:Ent W L (k (.bool (a&&b)))):Ent W L (gdK (.bool a) true (fun k=>k (.bool b)) fun x2=>opN P (sPick (.bool a) x2 (.bool false)) Kp k):=by
 cases a with
 |true=>
  refine e_gdT (o_ v_pickT ?_)
  simpa using h
 |false=>
  refine e_gdF2 (o_ v_pickF ?_)
  simpa using h
theorem e_and2 {a b:Bool}{A:List HP}{s1:Sem Next}{v1:Value}{s2:Value->Sem Next}(h1:RunV P W [] s1 v1)(h2:RunV P W A (s2 v1) (.bool b))(i:Imp W L A)(h:Ent W L (k (.bool (a&&b)))):
  Ent W L (gdK (.bool a) true (opN P s1 Kp) fun x=>gdK (.bool a) true (opN P (s2 x) Kp) fun x2=>opN P (sPick (.bool a) x2 (.bool false)) Kp k):=by
 cases a with
 |true=>
  refine e_gdT (o_ h1 ?_)
  refine e_gdT (e_opN h2 i ?_)
  refine o_ v_pickT ?_
  simpa using h
 |false=>
  refine e_gdF2 (e_gdF2 (o_ v_pickF ?_))
  simpa using h
theorem e_cond {φ:Prop}[Decidable φ]{b:Bool}{X Y:WP}(hb:b=decide φ)(ht:φ->Ent W L X)(hf:¬φ->Ent W L Y):Ent W L (condS (.bool b) X Y):=by
 subst hb
 by_cases h:φ
 ·rw[dT_ h];exact e_condT (ht h)
 ·rw[dF_ h];exact e_condF (hf h)
theorem v_sslh {t:TypeId}{l:List UInt8}{q r:IntKind}{i j:Int}(a b:Nat)[ht:StrT P t](hi:i=(a:Int))(hj:j=(b:Int))(hab:a<=b)(hb:b<=l.length):RunV P W [] (sSl t (txt l) (some (.int q i)) (some (.int r j)) none) (txt (sub l a b)):=fun w _=>by
 have e:(⟨l.toArray⟩:ByteArray).size=l.length:=rfl
 have e2:(⟨l.toArray⟩:ByteArray).extract a b=⟨(sub l a b).toArray⟩:=by
  apply ByteArray.ext
  rw[ByteArray.data_extract]
  simp[sub]
 simp[sSl,Instr.sliceAt,Instr.slice,Instr.sliceBounds,run_underlying ht.ut,txt,e,run_sb b hj hb,run_sb a hi hab,e2]
theorem B_eq {t:TypeId}{ox oy:Operand}{c:UInt8}{n:Int}(d:UInt8)(hn:n=(d.toNat:Int)):RunV P W [] (sEq .eql t ox oy (Sl.B c) (.int .u8 n)) (.bool (decide (c=d))):=by
 have e:decide (c=d)=decide ((c.toNat:Int)=n):=by
  rw[decide_eq_decide,hn]
  constructor
  ·rintro rfl;rfl
  ·intro h
   exact UInt8.toNat_inj.1 (by omega)
 rw[e]
 exact v_eql
theorem B_ne {t:TypeId}{ox oy:Operand}{c:UInt8}{n:Int}(d:UInt8)(hn:n=(d.toNat:Int)):RunV P W [] (sEq .neq t ox oy (Sl.B c) (.int .u8 n)) (.bool (decide (c≠d))):=by
 have e:decide (c≠d)=decide ((c.toNat:Int)≠n):=by
  rw[decide_eq_decide,hn]
  constructor
  ·intro h1 h2
   exact h1 (UInt8.toNat_inj.1 (by omega))
  ·rintro h rfl
   exact h rfl
 rw[e]
 exact v_neq
end
theorem els_len (q e:Bool):∀(n:Nat) (l:List UInt8),l.length<=n->∀(inn:Bool) (cur p:List UInt8),p∈els q e inn cur l->p.length<=cur.length+l.length
 |_,[],_,inn,cur,p,h=>by
  have:p=cur:=by simpa [els]using h
  subst this;simp
 |n+1,c::r,hn,inn,cur,p,h=>by
  have hr:r.length<=n:=by simpa using hn
  rw[els_cons]at h
  split at h
  ·cases r with
   |nil=>
    have:p=cur++[c]:=by simpa using h
    subst this;simp
   |cons d r'=>
    have:=els_len q e n r' (by simp at hr;omega) _ _ _ h
    simp at this ⊢;omega
  ·split at h
   ·have:=els_len q e n r hr _ _ _ h
    simp at this ⊢;omega
   ·split at h
    ·rcases List.mem_cons.1 h with h|h
     ·subst h;simp
     ·have:=els_len q e n r hr _ _ _ h
      simp at this ⊢;omega
    ·have:=els_len q e n r hr _ _ _ h
     simp at this ⊢;omega
theorem elems_len {q e:Bool}{l w:List UInt8}(h:w∈elemsF q e l):w.length<=l.length:=by
 obtain⟨_,v,hv,rfl⟩:=tidy_mem h
 have:=els_len q e _ _ (Nat.le_refl _) _ _ _ hv
 have h2:=trim_len v
 simp[sub]at this
 omega
theorem els_num (q e:Bool):∀(n:Nat) (l:List UInt8),l.length<=n->∀(inn:Bool) (cur:List UInt8),(els q e inn cur l).length<=l.length+1
 |_,[],_,inn,cur=>by simp[els]
 |n+1,c::r,hn,inn,cur=>by
  have hr:r.length<=n:=by simpa using hn
  rw[els_cons]
  split
  ·cases r with
   |nil=>simp
   |cons d r'=>
    have:=els_num q e n r' (by simp at hr;omega) inn (cur++[c,d])
    simp;omega
  ·split
   ·have:=els_num q e n r hr (!inn) (cur++[c])
    simp;omega
   ·split
    ·have:=els_num q e n r hr false []
     simp;omega
    ·have:=els_num q e n r hr inn (cur++[c])
     simp;omega
theorem elems_num {q e:Bool}{l:List UInt8}:(elemsF q e l).length<=l.length+1:=by
 have h1:=tidy_len (stE l q e false 0 0)
 have h2:=els_num q e _ (l.drop 0) (Nat.le_refl _) false (sub l 0 0)
 rw[List.length_drop]at h2
 unfold elemsF
 unfold stE at h1 ⊢
 omega
theorem at_drop {α:Type}{xs r:List α}{k:Nat}{x:α}(h:xs.drop k=x::r):xs[k]? =some x/\xs.drop (k+1)=r/\k<xs.length:=by
 have hk:k<xs.length:=by
  rcases Nat.lt_or_ge k xs.length with c|c
  ·exact c
  ·rw[List.drop_of_length_le c]at h;cases h
 rw[List.drop_eq_getElem_cons hk]at h
 injection h with h1 h2
 exact⟨by rw[List.getElem?_eq_getElem hk,h1],h2,hk⟩
def ewv (q e:Bool)(l:List UInt8):List (List Value):=(elemsF q e l).map fun w=>[txt w]
theorem ewv_at {q e:Bool}{l w:List UInt8}{k:Nat}(h:(elemsF q e l)[k]? =some w):(ewv q e l)[k]? =some [txt w]:=by simp[ewv,h]
theorem ewv_len {q e:Bool}{l:List UInt8}:(ewv q e l).length=(elemsF q e l).length:=by simp[ewv]
end Go.Proofs.YthomhkpedghhgaaGreatDoor.FD
namespace Go.Proofs.YthomhkpedghhgaaGreatDoor.FD
open Go Go.Proofs Go.RowKit Sh Sl T
theorem infoBd:(p_.info? 162).map (·.size)=some 2:=by kernel_rfl
theorem liesBd:liesAt p_ p_.depth 162 (2 / p_.cellsOf 162) 0 162 1=true:=by kernel_rfl
set_option maxHeartbeats 1000000 in
set_option maxRecDepth 100000 in
theorem cc_used (b:Nat)(w:World)(h0:w.cell? ⟨b,0,none⟩=some (.pointer (some ⟨b,0,none⟩))):
  Calls p_ 135 #[.pointer (some ⟨b,0,none⟩)] w fun e w'=>e= .returned (.tuple #[])/\w'=w:=by
 obtain⟨j,hj,_⟩:=Option.map_eq_some_iff.1 infoBd
 go_enter Tryz.func135,Tryz.ntmps135
 go_wp2
 rw[Lib.run_neq_ptr_same w _ Tryz.underlying160 hj]
 go_wp2
 go_end0
 exact⟨rfl,rfl⟩
set_option maxHeartbeats 1000000 in
set_option maxRecDepth 100000 in
theorem cc_fresh (b:Nat)(w:World)(h0:w.cell? ⟨b,0,none⟩=some (.pointer none))(hsh:w.shape? b=some (162,2))(hfz:w.frozen? ⟨b,0,none⟩=false):
  Calls p_ 135 #[.pointer (some ⟨b,0,none⟩)] w fun e w'=>e= .returned (.tuple #[])/\w'=w.setCell ⟨b,0,none⟩ (.pointer (some ⟨b,0,none⟩)):=by
 obtain⟨j,hj,hjs⟩:=Option.map_eq_some_iff.1 infoBd
 go_enter Tryz.func135,Tryz.ntmps135
 go_wp2
 rw[Lib.run_to_unsafe w ⟨b,0,none⟩ Tryz.underlying160 Tryz.underlying212 hj (by rw[hjs];decide) hsh (Nat.zero_lt_succ 1)]
 simp only[Result.andThen]
 rw[Oper.upon_value]
 go_wp2
 rw[run_callFunc_extern Tryz.func160 (by kernel_rfl) (by kernel_rfl) (by kernel_rfl) (e:=Extern.AbiNoEscape.same) (by kernel_rfl)]
 rw[Lib.run_noEscape]
 simp only[Result.andThen]
 rw[Oper.upon_value]
 go_wp2
 rw[Lib.run_from_unsafe w ⟨b,0,none⟩ Tryz.underlying212 Tryz.underlying160 hj hsh liesBd]
 simp only[Result.andThen]
 rw[Oper.upon_value]
 go_wp2
 go_end0
 exact⟨rfl,rfl⟩
def bd (b:Nat)(r:Option Addr × Nat)(l:List UInt8):HP:=all [pt b (.cells #[.pointer (some ⟨b,0,none⟩),.slice r.1 l.length r.2] 162 (0,0)),Sl 1 5 r.1 r.2 l.length (l.map B)]
theorem check0 {W : World} {b : Nat} {v : Value} : Cn p_ 135 [.pointer (some ⟨b, 0, none⟩)] W [pt b (.cells #[.pointer none, v] 162 (0, 0))] (fun _ : Unit => .tuple #[]) (fun _ => [pt b (.cells #[.pointer (some ⟨b, 0, none⟩), v] 162 (0, 0))]) :=
 ⟨Tryz.call135, fun F w hw => (cc_fresh b w (by rw [(show sat W (pt b _ :: F) w from hw).cell]; rfl) (by rw [World.shape?, (show sat W (pt b _ :: F) w from hw).pt_.1]; rfl) (show sat W (pt b _ :: F) w from hw).free).mono fun e w' ⟨he, hb⟩ => ⟨(), he, by
  rw [hb]
  exact (show sat W (pt b _ :: F) w from hw).setCell (o := 0) (.pointer (some ⟨b, 0, none⟩))⟩⟩
theorem check1 {W:World}{b:Nat}{v:Value}:Cn p_ 135 [.pointer (some ⟨b,0,none⟩)] W [pt b (.cells #[.pointer (some ⟨b,0,none⟩),v] 162 (0,0))] (fun _:Unit=> .tuple #[]) (fun _=>[pt b (.cells #[.pointer (some ⟨b,0,none⟩),v] 162 (0,0))]):=
 ⟨Tryz.call135,fun F w hw=>(cc_used b w (by rw[(show sat W (pt b _::F) w from hw).cell];rfl)).mono fun e w' ⟨he,hb⟩=>⟨(),he,by rw[hb];exact hw⟩⟩
set_option maxHeartbeats 2000000 in
set_option maxRecDepth 100000 in
theorem str_run (b g cap:Nat) (cur:Array Value) (l:List UInt8) (w:World) (hb:w.cell? ⟨b,1,none⟩=some (.slice (some ⟨g,0,none⟩) l.length cap)) (hg:w.heap[g]? =some (.cells cur 5 (0,0))) (h0:l≠[]) (hc:l.length<=cap) (hcs:cap<=cur.size) (hcm:cap<=maxLen)
  (hcell:∀j x,l[j]? =some x->w.cell? ⟨g,j,none⟩=some (B x)):
  Calls p_ 112 #[.pointer (some ⟨b,0,none⟩)] w fun e w'=>e= .returned (.string ⟨l.toArray⟩)/\w'=w.drew.freeze ⟨g,0,none⟩ l.length:=by
 have hl0:l.length≠0:=by simpa using h0
 have c1:w.drew.cell? ⟨b,1,none⟩=some (.slice (some ⟨g,0,none⟩) l.length cap):=hb
 have hSD:(Builtin.unsafeSliceData_ #[32] 193 #[.slice (some ⟨g,0,none⟩) l.length cap]).run p_ w.drew= .ok (.pointer (some ⟨g,0,none⟩)) w.drew:=
  Lib.run_unsafeSliceData_row _ _ _ _ _ _ (by omega)
 have hUS:(Builtin.unsafeString_ #[193,3] 9 #[.pointer (some ⟨g,0,none⟩),.int .i64 l.length]).run p_ w.drew= .ok (.string ⟨l.toArray⟩) (w.drew.freeze ⟨g,0,none⟩ l.length):=by
  refine Lib.run_unsafeString_row w.drew 193 3 9 5 Tryz.underlying193 (by kernel_rfl) g cur.size (by have hg':w.drew.heap[g]? =some (.cells cur 5 (0,0)):=hg;simp[World.shape?,hg']) l h0 (by omega) (by unfold maxLen at hcm;omega) ?_
  intro j x hx
  rw[addr_add,Nat.zero_add]
  exact hcell j x hx
 have mixed:=S.wide
 go_enter Tryz.func112,Tryz.ntmps112
 go_wp2
 go_region_o
 all_goals (go_wp2;go_ret;exact⟨rfl,rfl⟩)
theorem bdString {W : World} {b : Nat} {r : Option Addr × Nat} {l : List UInt8} (h0 : l ≠ []) : Cn p_ 112 [.pointer (some ⟨b, 0, none⟩)] W [bd b r l] (fun _ : Unit => txt l) (fun _ => []) :=
 ⟨Tryz.call112, fun F w hw => by
  have hl0 : 0 < l.length := List.length_pos_iff.2 h0
  obtain ⟨ra, rc⟩ := r
  have h1 : sat W ([pt b (.cells #[.pointer (some ⟨b, 0, none⟩), .slice ra l.length rc] 162 (0, 0)), Sl 1 5 ra rc l.length (l.map B)] ++ F) w :=
   sat.map (L := all [pt b (.cells #[.pointer (some ⟨b, 0, none⟩), .slice ra l.length rc] 162 (0, 0)), Sl 1 5 ra rc l.length (l.map B)] :: F) (fun _ H => all_append' H) hw
  simp only [ca_, na_] at h1
  have h2 := h1.pick (.there .here)
  obtain ⟨g, hg⟩ : ∃ g, ra = some ⟨g, 0, none⟩ := by
   obtain ⟨f, ⟨l1, l2, l3, hd⟩, _⟩ := h2.fst
   rcases hd with ⟨_, hc0⟩ | ⟨g, rest, hr, _, _⟩
   ·omega
   ·exact ⟨g, hr⟩
  subst hg
  obtain ⟨rest, r1, r2, r3, r4, hp⟩ := sl_row h2
  have hcur : (l.map B ++ rest).length = rc := by rw [List.length_append, r1]; simp; omega
  refine (str_run b g rc (l.map B ++ rest).toArray l w (by rw [h1.cell]; rfl) hp.pt_.1 h0 r3 (by simpa using Nat.le_of_eq hcur.symm) r4 (fun j x hx => ?_)).mono fun e w' ⟨he, hb⟩ => ⟨(), he, ?_⟩
  ·rw [hp.cell]
   have hj : j < l.length := by
    rcases Nat.lt_or_ge j l.length with c | c
    ·exact c
    ·rw [List.getElem?_eq_none c] at hx; cases hx
   rw [List.getElem?_toArray, List.getElem?_append_left (by simpa using hj), List.getElem?_map, hx]; rfl
  ·subst hb
   have h3 := hp.drew
   have h4 : sat W (pt g (.cells (l.map B ++ rest).toArray 5 (0, l.length)) :: _) (w.drew.freeze ⟨g, 0, none⟩ l.length) := h3.turn (by simp [World.freeze]; split <;> rfl) (by simp [World.freeze]; split <;> rfl) (by simp [World.freeze]; split <;> rfl) (by simp [World.freeze]; split <;> simp) (by
    rw [World.freeze, if_neg (by omega)]
    simp only [Array.getElem?_modify, if_pos, h3.pt_.1]
    simp) (fun i hi => by
    rw [World.freeze, if_neg (by omega)]
    simp only [Array.getElem?_modify]
    rw [if_neg (fun c => hi c.symm)])
   exact h4.drop.drop⟩
end Go.Proofs.YthomhkpedghhgaaGreatDoor.FD
namespace Go.Proofs.YthomhkpedghhgaaGreatDoor.Sl
open Go Sh
variable {P:Program} {W:World}
instance {f:FuncId}:OC (fn f):=⟨rfl⟩
theorem v_neIf {t u:TypeId}{ox oy:Operand}{x:Value}(h:P.underlying t=some (.interface (P.methodsAt t))):RunV P W [] (sEq .neq t ox oy (.iface u x) .nilIface) (.bool true):=fun w _=>by
 simp[sEq,sv,eqGuard,run_neq_held_nil w t u x h]
theorem v_neIf0 {t:TypeId}{ox:Operand}{c:Value}(h:P.underlying t=some (.interface (P.methodsAt t))):RunV P W [] (sEq .neq t ox (.const c) .nilIface .nilIface) (.bool false):=fun w _=>by
 simp[sEq,sv,eqGuard,run_neq_nil_nil w t h]
end Go.Proofs.YthomhkpedghhgaaGreatDoor.Sl
namespace Go.Proofs.YthomhkpedghhgaaGreatDoor.FD
open Go Go.Proofs Go.RowKit Sh Sl T
class Gl (W:World):Prop where
 lt:3<W.heap.size
 rd:∃t v,W.cell? ⟨3,0,none⟩=some (.iface t v)
theorem ifT:p_.underlying 165=some (.interface (p_.methodsAt 165)):=by kernel_rfl
theorem v_mkP {W:World}{t u:TypeId}{a:Option Addr}(h:p_.underlying t=some (.pointer u)):RunV p_ W [] (sMkI t (.pointer a)) (.iface t (.pointer a)):=fun w _=>by
 simp[sMkI,Instr.makeInterface,run_underlying h]
theorem v_ifInt {W:World}{ox oy:Operand}{a b:Int}:RunV p_ W [] (sEq .eql 165 ox oy (.iface 239 (.int .i64 a)) (.iface 239 (.int .i64 b))) (.bool (a==b)):=fun w _=>by
 have:=Lib.run_eql_iface_int (P:=p_) w (t:=165) (tx:=239) (k:= .i64) (q:= .i64) a b Tryz.underlying165 (by kernel_rfl) Tryz.underlying239
 simp[sEq,sv,eqGuard,this]
theorem rangeError {W:World}[hG:Gl W]{a l:List UInt8}(hl:l.length<=281474976710656):Cn p_ 190 [txt a,txt l] W [] (fun g:Nat=> .pointer (some ⟨g,0,none⟩)) (fun _=>[]):=by
 obtain⟨t,v,hv⟩:=hG.rd
 (refine S.strconv_rangeError_s.cn fun F=>?_;unfold S.strconv_rangeError;simp only[ca_,na_])
 refine e_drS (e_stD (v_ldOld hG.lt hv) .nil ?_)
 refine c_ (clone hl) fun _=>?_
 refine e_obl .nil ?_
 refine t_ v_rv ?_
 refine e_boxA fun b=>?_
 refine rt_ b ?_
 exact im_
theorem toError {W:World}[hG:Gl W]{a l:List UInt8}{x y:Int}(hl:l.length<=281474976710656):Cn p_ 156 [txt a,txt l,.int .i64 x,.int .i64 y,.iface 239 (.int .i64 1)] W [] (fun g:Nat=> .iface 242 (.pointer (some ⟨g,0,none⟩))) (fun _=>[]):=by
 (refine S.strconv_toError_s.cn fun F=>?_;unfold S.strconv_toError;simp only[ca_,na_])
 refine o_ v_mkI (o_ v_ifInt ?_)
 rw[show((1:Int)==2)=false from rfl]
 refine e_condF (o_ v_mkI (o_ v_ifInt ?_))
 rw[show((1:Int)==1)=true from rfl]
 refine e_condT (e_call (rangeError hl) .nil fun g=>?_)
 refine nr_ ?_
 refine o_ (v_mkP Tryz.underlying242) ?_
 refine rt_ g ?_
 exact im_
theorem valF_snoc (l:List UInt8)(c:UInt8):valF (l++[c])=valF l * 10+(c.toNat-48):=by simp[valF]
theorem valF_mono (l r:List UInt8):valF l<=valF (l++r):=by
 induction r generalizing l with
 |nil=>simp
 |cons c r ih=>
  have h1:=ih (l++[c])
  rw[valF_snoc]at h1
  have e:l++c::r=l++[c]++r:=by simp
  rw[e];omega
theorem valF_take {l:List UInt8}{i:Nat}(h:i<l.length):valF (l.take (i+1))=valF (l.take i) * 10+(l[i].toNat-48):=by
 rw[List.take_succ_eq_append_getElem h,valF_snoc]
theorem valF_le {l:List UInt8}(i:Nat):valF (l.take i)<=valF l:=by
 have:=valF_mono (l.take i) (l.drop i)
 rwa [List.take_append_drop]at this
def puR (l:List UInt8):Value:=if valF l<=9223372036854775807 then .tuple #[.int .u64 (valF l:Int),.nilIface]else .tuple #[.int .u64 9223372036854775807,.iface 239 (.int .i64 1)]
theorem parse0 {W:World}{l:List UInt8}(hn:l≠[])(hd:l.all digB=true)(hl:l.length<=4611686018427387904):Cn p_ 155 [txt l,.int .i64 10,.int .i64 63] W [] (fun _:Unit=>puR l) (fun _=>[]):=by
 (refine S.istrconv_ParseUint_s.cn fun F=>?_;unfold S.istrconv_ParseUint;simp only[ca_,na_])
 have e0:(Value.string ⟨#[]⟩)=txt []:=rfl
 rw[e0]
 refine o_ v_streq ?_
 rw[dF_ hn]
 refine e_condF (o_ v_eql ?_)
 rw[dF_ (by decide)]
 refine e_cut2d ?_
 refine o_ v_leq ?_
 rw[dT_ (by decide)]
 refine e_gdT (e_gdT (o_ v_leq ?_))
 rw[dT_ (by decide)]
 refine o_ v_pickT (e_condT (e_allds fun ds1=>?_))
 refine e_cut1d ?_
 refine o_ v_eql ?_
 rw[dF_ (by decide)]
 refine e_condF (o_ v_lss ?_)
 rw[dF_ (by decide)]
 refine e_gdT (e_gdT (o_ v_gtr ?_))
 rw[dF_ (by decide)]
 refine o_ v_pickF (e_condF (e_allds fun ds2=>?_))
 refine e_cut1d ?_
 refine o_ v_eql ?_
 rw[dT_ (by decide)]
 refine e_condT (e_allds fun ds3=>?_)
 refine o_ v_conv (o_ (v_shl (by decide)) ?_)
 refine o_ v_subw ?_
 rw[show IntKind.u64.wrap (IntKind.u64.wrap (1 * 2^(min (IntKind.u64.wrap 63).toNat IntKind.u64.bits))-1)=9223372036854775807 by rfl]
 refine e_sbytesF Tryz.underlying32 Tryz.underlying5 fun g c rest=>?_
 refine o_ v_len (e_loop3 (fun m x y z=>[ex fun i:Nat=>all [pu (m+i=l.length/\x= .bool false/\y= .int .u64 (valF (l.take i):Int)/\z= .int .i64 (i:Int)/\valF (l.take i)<=9223372036854775807),pt g (.cells (l.map B++rest).toArray 5 (l.length+rest.length,l.length+rest.length+1))]]++F) l.length ?_ ?_)
 ·refine Imp.ex 0 (.all ?_)
  refine nr_ ?_
  exact .pu ⟨by omega,rfl,rfl,rfl,by simp[valF]⟩ .refl
 intro m ds x y z
 refine nr_ ?_
 refine e_ex Pick.here fun i=>e_all Pick.here ?_
 refine nr_ ?_
 refine e_pu Pick.here fun hi=>?_
 obtain⟨hmi,rfl,rfl,rfl,hv⟩:=hi
 refine e_ask v_lss .nil (fun h=>?_) (fun h=>?_)
 ·have hil:i<l.length:=by omega
  have hdi:=dg_b (List.all_eq_true.1 hd _ (List.getElem_mem hil))
  have hvt:=valF_take hil
  have hvl:=valF_le (l:=l) (i+1)
  refine e_condT (o_ (v_ia1 i rfl hil) ?_)
  rw[Nat.zero_add]
  refine e_opN (v_ld (v:=B l[i]) (by simp[List.getElem?_append,hil])) (.pick .here .nil) ?_
  obtain⟨d,hde⟩:∃d,d=l[i].toNat:=⟨_,rfl⟩
  have eB:B l[i]= .int .u8 (d:Int):=by rw[hde];rfl
  rw[eB]
  rw[<- hde]at hdi hvt
  refine e_cut2d ?_
  refine o_ v_eql ?_
  rw[dF_ (by omega)]
  refine e_gdF2 (o_ v_pickF (e_condF (o_ v_leq ?_)))
  rw[dT_ (by omega)]
  refine e_gdT (e_gdT (o_ v_leq ?_))
  rw[dT_ (by omega)]
  refine o_ v_pickT (e_condT (o_ v_subw ?_))
  refine e_allds fun ds4=>?_
  rw[show IntKind.u8.wrap ((d:Int)-48)=(d:Int)-48 by simp[IntKind.wrap,IntKind.signed,IntKind.bits];omega]
  refine o_ v_conv (o_ v_geq ?_)
  rw[show IntKind.u8.wrap 10=10 by rfl,dF_ (by omega)]
  refine e_condF ?_
  have big:9223372036854775807<valF l->Ent W (pt g (.cells (l.map B++rest).toArray 5 (l.length+rest.length,l.length+rest.length+1))::F) (opN p_ (sMkI 239 (.int .i64 1)) noP fun x143=>fun w=>∃x:Unit,(.tuple #[.int .u64 9223372036854775807,x143]:Value)=puR l/\sat W ([]++F) w):=by
   intro hb
   refine o_ v_mkI (e_ret () (by unfold puR;rw[if_neg (by omega)]) ?_)
   exact im_
  refine e_ask v_geq .nil (fun h1=>?_) (fun h1=>?_)
  ·exact e_condT (big (by omega))
  ·refine e_condF (o_ v_conv (o_ v_mulw ?_))
   rw[show IntKind.u64.wrap 10=10 by rfl,show IntKind.u64.wrap ((valF (l.take i):Int) * 10)=(valF (l.take i):Int) * 10 by simp[IntKind.wrap,IntKind.signed,IntKind.bits];omega]
   refine o_ v_conv ?_
   rw[show IntKind.u64.wrap ((d:Int)-48)=(d:Int)-48 by simp[IntKind.wrap,IntKind.signed,IntKind.bits];omega]
   refine o_ v_addw ?_
   by_cases h2:(valF (l.take i):Int) * 10+((d:Int)-48)<18446744073709551616
   ·rw[show IntKind.u64.wrap ((valF (l.take i):Int) * 10+((d:Int)-48))=(valF (l.take i):Int) * 10+((d:Int)-48) by simp[IntKind.wrap,IntKind.signed,IntKind.bits];omega]
    refine o_ v_lss ?_
    rw[dF_ (by omega)]
    refine e_gdT (e_gdT (e_gdT (e_ask v_gtr .nil (fun h3=>?_) (fun h3=>?_))))
    ·(refine o_ v_pickF ?_);refine e_condT ?_
     exact big (by omega)
    ·(refine o_ v_pickF ?_);refine e_condF ?_;refine ad_ ?_
     have he:((valF (l.take i):Int) * 10+((d:Int)-48))=(valF (l.take (i+1)):Int):=by omega
     rw[he]
     refine e_next3 (m-1) (by omega) (.ex (i+1) (.all ?_))
     refine nr_ ?_
     exact .pu ⟨by omega,rfl,rfl,rfl,by omega⟩ .refl
   ·rw[show IntKind.u64.wrap ((valF (l.take i):Int) * 10+((d:Int)-48))=(valF (l.take i):Int) * 10+((d:Int)-48)-18446744073709551616 by simp[IntKind.wrap,IntKind.signed,IntKind.bits];omega]
    refine o_ v_lss ?_
    rw[dT_ (by omega)]
    exact e_gdF1 (e_gdF1 (e_gdF1 (o_ v_pickT (e_condT (big (by omega))))))
 ·have hie:i=l.length:=by omega
  subst hie
  rw[List.take_length]at hv ⊢
  refine e_condF (e_gdF2 (e_gdF2 (e_gdF2 (o_ v_pickF (e_condF (e_ret () (by unfold puR;rw[if_pos hv]) ?_))))))
  exact im_
def puP (l:List UInt8)(g:Nat):Value:=if valF l<=9223372036854775807 then .tuple #[.int .u64 (valF l:Int),.nilIface]else .tuple #[.int .u64 9223372036854775807,.iface 242 (.pointer (some ⟨g,0,none⟩))]
theorem parse1 {W:World}[hG:Gl W]{l:List UInt8}(hn:l≠[])(hd:l.all digB=true)(hl:l.length<=281474976710656):Cn p_ 129 [txt l,.int .i64 10,.int .i64 63] W [] (fun g:Nat=>puP l g) (fun _=>[]):=by
 (refine S.strconv_ParseUint_s.cn fun F=>?_;unfold S.strconv_ParseUint;simp only[ca_,na_])
 refine c_ (parse0 hn hd (by omega)) fun _=>?_
 unfold puR
 by_cases h:valF l<=9223372036854775807
 ·rw[if_pos h]
  refine xt_ ?_;refine xt_ ?_
  refine o_ (v_neIf0 ifT) ?_
  refine e_condF (e_ret 0 (by unfold puP;rw[if_pos h]) ?_)
  exact im_
 ·rw[if_neg h]
  refine xt_ ?_;refine xt_ ?_
  refine o_ (v_neIf ifT) ?_
  refine e_condT (e_call (toError (a:=[80,97,114,115,101,85,105,110,116]) hl) .nil fun g=>?_)
  refine nr_ ?_
  refine e_ret g (by unfold puP;rw[if_neg h]) ?_
  exact im_
def dgC:List UInt8:=[48,49,50,51,52,53,54,55,56,57,97,98,99,100,101,102]
theorem dg_ix (c:UInt8):(ixF dgC (lowB c)<0\/10<=ixF dgC (lowB c))↔digB c=false:=by
 refine all8 (p:=fun c=>(ixF dgC (lowB c)<0\/10<=ixF dgC (lowB c))↔digB c=false) ?_ c
 decide+kernel
theorem dg_low {l:List UInt8}(h:l.all digB=true):lowF l=l:=by
 unfold lowF
 conv=>rhs;rw[<- List.map_id l]
 refine List.map_congr_left fun c hc=>?_
 have:=dg_b (List.all_eq_true.1 h c hc)
 unfold lowB
 rw[if_neg]
 ·rfl
 ·rintro⟨h1,_⟩
  have:=UInt8.le_iff_toNat_le.1 h1
  simp only[show(65:UInt8).toNat=65 from rfl]at this
  omega
theorem number {W:World}[hG:Gl W]{l:List UInt8}(hl:l.length<=281474976710656):Cn p_ 100 [txt l,.int .i64 10,.int .i64 1000000000000000000] W [] (fun _:Unit=> .tuple #[.int .i64 (decF l).1,.int .i64 (decF l).2]) (fun _=>[]):=by
 (refine S.ascii_number_string_s.cn fun F=>?_;unfold S.ascii_number_string;simp only[ca_,na_])
 refine c_ (lower (l:=l) (by omega)) fun _=>?_
 have hlen:(lowF l).length=l.length:=by simp[lowF]
 refine o_ v_lent ?_
 rw[hlen]
 refine e_loop1 (fun m y=>(ex fun i:Nat=>pu (m+i=l.length/\y= .int .i64 (i:Int)/\l.all digB=(l.drop i).all digB))::F) l.length ?_ ?_
 ·refine .ex 0 (.pu ⟨by omega,rfl,rfl⟩ ?_)
  exact im_
 intro m ds y
 refine nr_ ?_
 refine e_ex Pick.here fun i=>e_pu Pick.here fun hi=>?_
 obtain⟨hmi,rfl,hall⟩:=hi
 refine e_ask v_lss .nil (fun h=>?_) (fun h=>?_)
 ·have hil:i<l.length:=by omega
  refine e_condT (o_ (v_ixS i rfl (by rw[hlen];exact hil)) ?_)
  have hg:(lowF l)[i]'(by rw[hlen];exact hil)=lowB l[i]:=by simp[lowF]
  rw[hg]
  refine e_call (indexByte (l:=dgC) (c:=lowB l[i])) .nil fun _=>?_
  refine nr_ ?_
  have hdx:=dg_ix l[i]
  rw[dr hil,List.all_cons]at hall
  have bad:digB l[i]=false->decF l=(0,21):=fun h=>by
   rw[h,Bool.false_and]at hall
   unfold decF
   rw[hall,Bool.and_false];rfl
  refine e_ask v_lss .nil (fun h1=>?_) (fun h1=>?_)
  ·(refine e_gdF1 ?_);refine e_gdF1 ?_;refine e_gdF1 ?_;refine o_ v_pickT ?_;refine e_condT ?_
   rw[bad (hdx.1 (.inl h1))]
   refine rt_ () ?_
   exact im_
  ·(refine e_gdT ?_);refine e_gdT ?_;refine e_gdT ?_
   refine e_ask v_geq .nil (fun h2=>?_) (fun h2=>?_)
   ·(refine o_ v_pickF ?_);refine e_condT ?_
    rw[bad (hdx.1 (.inr h2))]
    refine rt_ () ?_
    exact im_
   ·(refine o_ v_pickF ?_);refine e_condF ?_;refine ad_ ?_
    have hg:digB l[i]=true:=by
     cases hx:digB l[i]with
     |true=>rfl
     |false=>have:=hdx.2 hx;omega
    rw[hg,Bool.true_and]at hall
    refine e_next1 (m-1) (by omega) (.ex (i+1) (.pu ⟨by omega,rfl,hall⟩ ?_))
    exact im_
 ·rw[List.drop_of_length_le (by omega),List.all_nil]at hall
  refine e_condF ?_
  have e0:(Value.string ⟨#[]⟩)=txt []:=rfl
  rw[e0,dg_low hall]
  refine e_ask v_streq .nil (fun h1=>?_) (fun h1=>?_)
  ·subst h1
   refine e_condT (rt_ () ?_)
   exact im_
  ·refine e_condF ?_
   have hnb:nb l=true:=by cases l with
    |nil=>exact absurd rfl h1
    |cons _ _=>rfl
   refine e_call (parse1 h1 hall hl) .nil fun g=>?_
   refine nr_ ?_
   unfold puP
   by_cases h:valF l<=9223372036854775807
   ·rw[if_pos h]
    refine xt_ ?_;refine xt_ ?_
    refine o_ (v_neIf0 ifT) ?_
    refine e_gdT (e_gdT (e_gdT (o_ v_conv ?_)))
    rw[show IntKind.u64.wrap 1000000000000000000=1000000000000000000 by rfl]
    refine e_gdT (e_ask v_gtr .nil (fun h2=>?_) (fun h2=>?_))
    ·(refine o_ v_pickF ?_);refine e_condT ?_
     have:decF l=(0,11):=by
      unfold decF
      rw[hnb,hall,if_pos (by rfl),if_neg (by omega)]
     rw[this]
     refine rt_ () ?_
     exact im_
    ·(refine o_ v_pickF ?_);refine e_condF ?_
     refine o_ v_conv ?_
     have:decF l=((valF l:Int),0):=by
      unfold decF
      rw[hnb,hall,if_pos (by rfl),if_pos (by omega)]
     rw[this,show IntKind.i64.wrap (valF l:Int)=(valF l:Int) by simp[IntKind.wrap,IntKind.signed,IntKind.bits];omega]
     refine rt_ () ?_
     exact im_
   ·rw[if_neg h]
    refine xt_ ?_;refine xt_ ?_
    refine o_ (v_neIf ifT) ?_
    refine e_gdF1 (e_gdF1 (e_gdF1 (e_gdF1 (o_ v_pickT (e_condT ?_)))))
    have:decF l=(0,11):=by
     unfold decF
     rw[hnb,hall,if_pos (by rfl),if_neg (by omega)]
    rw[this]
    refine rt_ () ?_
    exact im_
theorem decimal {W:World}[hG:Gl W]{l:List UInt8}(hl:l.length<=281474976710656):Cn p_ 66 [txt l] W [] (fun _:Unit=> .tuple #[.int .i64 (decF l).1,.int .i64 (decF l).2]) (fun _=>[]):=by
 (refine S.ascii_Decimal_s.cn fun F=>?_;unfold S.ascii_Decimal;simp only[ca_,na_])
 refine c_ (number hl) fun _=>?_
 refine xt_ ?_;refine xt_ ?_
 refine rt_ () ?_
 exact im_
theorem els_string {W:World}{l:List UInt8}{q e:Bool}{fv:Value}:Cn p_ 108 [.agg #[.bool q,.bool e,fv],txt l] W [] (fun c:Nat × Nat=> .func (.func 134) #[] [.pointer (some ⟨c.1,0,none⟩),.pointer (some ⟨c.2,0,none⟩)].toArray) (fun c=>[pt c.1 (.cells #[txt l] 9 (0,0)),pt c.2 (.cells #[.bool q,.bool e,fv] 132 (0,0))]):=by
 (refine S.fields_kind_string_elements_s.cn fun F=>?_;unfold S.fields_kind_string_elements;simp only[ca_,na_])
 refine e_boxA fun gk=>?_
 refine e_box1 fun gs=>?_
 refine o_ v_mkF (rt_ ((gs,gk)) ?_)
 exact .refl
theorem els1_string {W:World} {l:List UInt8} {q e:Bool} {fv:Value} {gs gk lp:Nat} {G:Nat->HP} {Gx T T':HP} (hl:l.length<=4611686018427387904)
  (hy:YieldC p_ lp (ewv q e l) (fun k=>all [T,all [pt gs (.cells #[txt l] 9 (0,0)),pt gk (.cells #[.bool q,.bool e,fv] 132 (0,0)),G k]]) (all [T',Gx]) W):
  Cn p_ 134 [yv lp,.pointer (some ⟨gs,0,none⟩),.pointer (some ⟨gk,0,none⟩)] W [all [T,all [pt gs (.cells #[txt l] 9 (0,0)),pt gk (.cells #[.bool q,.bool e,fv] 132 (0,0)),G 0]]] (fun _:Bool=> .tuple #[]) (fun b=>[if b then all [T,all [pt gs (.cells #[txt l] 9 (0,0)),pt gk (.cells #[.bool q,.bool e,fv] 132 (0,0)),G (elemsF q e l).length]]else all [T',Gx]]):=by
 (refine S.fields_kind_string_elements_1_s.cn fun F=>?_;unfold S.fields_kind_string_elements_1;simp only[ca_,na_])
 refine e_all .here ?_
 refine nr_ ?_
 refine e_all (.there .here) ?_
 refine nr_ ?_
 refine e_loop3 (fun m x y z=>[ex fun st:Bool × Nat × Nat × Nat=>all [pu (m+st.2.2.1=l.length+1/\x= .bool st.1/\y= .int .i64 (st.2.1:Int)/\z= .int .i64 (st.2.2.1:Int)/\st.2.1<=st.2.2.1/\st.2.1<=l.length/\(elemsF q e l).drop st.2.2.2=tidy (stE l q e st.1 st.2.1 st.2.2.1)/\st.2.2.2<=(elemsF q e l).length),
   T,pt gs (.cells #[txt l] 9 (0,0)),pt gk (.cells #[.bool q,.bool e,fv] 132 (0,0)),G st.2.2.2]]++F) (l.length+1) ?_ ?_
 ·refine Imp.ex (false,0,0,0) (.all ?_)
  refine nr_ ?_
  refine .pu ⟨by simp,rfl,rfl,rfl,Nat.le_refl _,Nat.zero_le _,rfl,Nat.zero_le _⟩ ?_
  exact im_
 intro m ds x y z
 refine nr_ ?_
 refine e_ex Pick.here fun st=>e_all Pick.here ?_
 obtain⟨inn,a,i,k⟩:=st
 refine nr_ ?_
 refine e_pu Pick.here fun hi=>?_
 (try dsimp only at hi)
 obtain⟨hmi,rfl,rfl,rfl,hai,hal,hdr,hkl⟩:=hi
 refine p_op (v_ldN .here) ?_
 refine o_ v_lent (e_ask v_lss .nil (fun h=>?_) (fun h=>?_))
 ·have hil:i<l.length:=by omega
  refine e_condT (p_op (v_ldN .here) ?_)
  refine o_ (v_ixS i rfl hil) ?_
  refine o_ (B_eq 92 rfl) ?_
  refine e_and0 ?_
  refine e_and2 v_fa0 (v_ldN (.there .here)) (.pick (by repeat constructor) .nil) ?_
  refine e_cond (φ:=l[i]=92/\inn=true/\e=true) (by cases inn <;> cases e <;> simp) (fun h1=>?_) (fun h1=>?_)
  ·refine ad_ ?_
   refine ad_ ?_
   rw[stE_esc hil hai h1.1 h1.2.1 h1.2.2]at hdr
   refine e_next3 (m-2) (by omega) (.ex (inn,a,i+2,k) (.all ?_))
   refine nr_ ?_
   refine .pu ⟨by(try dsimp only);omega,rfl,rfl,by(try dsimp only);rw[Int.add_assoc];rfl,by(try dsimp only);omega,hal,hdr,hkl⟩ ?_
   exact im_
  ·refine o_ (B_eq 34 rfl) ?_
   refine e_and2 v_fa0 (v_ldN .here) (.pick (by repeat constructor) .nil) ?_
   refine e_cond (φ:=l[i]=34/\q=true) (by cases q <;> simp) (fun h2=>?_) (fun h2=>?_)
   ·refine o_ v_not (ad_ ?_)
    rw[stE_q hil hai h1 h2.1 h2.2]at hdr
    refine e_next3 (m-1) (by omega) (.ex (!inn,a,i+1,k) (.all ?_))
    refine nr_ ?_
    refine .pu ⟨by(try dsimp only);omega,rfl,rfl,rfl,by(try dsimp only);omega,hal,hdr,hkl⟩ ?_
    exact im_
   ·refine o_ (B_eq 44 rfl) ?_
    refine e_and (fun _=>v_not) ?_
    refine e_cond (φ:=l[i]=44/\inn=false) (by cases inn <;> simp) (fun h3=>?_) (fun h3=>?_)
    ·refine p_op (v_ldN .here) ?_
     refine o_ (v_sslh a i rfl rfl hai (by omega)) ?_
     refine e_call (trim (by simp[sub];omega)) .nil fun _=>?_
     refine nr_ ?_
     have e0:(Value.string ⟨#[]⟩)=txt []:=rfl
     rw[stE_c hil hai h3.1 h3.2,tidy_cons]at hdr
     rw[e0]
     refine o_ v_strne ?_
     by_cases h4:trimB (sub l a i)=[]
     ·rw[if_pos h4]at hdr
      rw[dF_ (fun c=>c h4)]
      refine e_gdF2 (e_gdF2 (e_gdF2 (e_gdF2 (o_ v_pickF (e_condF (ad_ ?_))))));refine ad_ ?_
      refine e_next3 (m-1) (by omega) (.ex (inn,i+1,i+1,k) (.all ?_))
      refine nr_ ?_
      refine .pu ⟨by(try dsimp only);omega,rfl,rfl,rfl,Nat.le_refl _,by(try dsimp only);omega,by rw[h3.2];exact hdr,hkl⟩ ?_
      exact im_
     ·rw[if_neg h4]at hdr
      obtain⟨hg,hd2,hk2⟩:=at_drop hdr
      rw[dT_ h4]
      refine e_gdT (e_gdT (e_gdT (e_imp (M:=all [T,all [pt gs (.cells #[txt l] 9 (0,0)),pt gk (.cells #[.bool q,.bool e,fv] 132 (0,0)),G k]]::F) ?_ ?_)))
      ·refine .all ?_
       refine nr_ ?_
       refine .pick (by repeat constructor) (.all ?_)
       refine nr_ ?_
       exact im_
      refine e_yield hy k (ewv_at hg) .here ?_ ?_
      ·(refine e_gdT ?_);refine o_ v_notT ?_;refine o_ v_pickT ?_;refine e_condF ?_;refine ad_ ?_;refine ad_ ?_
       refine e_all .here ?_
       refine nr_ ?_
       refine e_all (.there .here) ?_
       refine nr_ ?_
       refine e_next3 (m-1) (by omega) (.ex (inn,i+1,i+1,k+1) (.all ?_))
       refine nr_ ?_
       refine .pu ⟨by(try dsimp only);omega,rfl,rfl,rfl,Nat.le_refl _,by(try dsimp only);omega,by rw[h3.2];exact hd2,by(try dsimp only);omega⟩ ?_
       exact im_
      ·(refine e_gdT ?_);refine o_ v_notF ?_;refine o_ v_pickT ?_;refine e_condT ?_
       refine rt_ false ?_
       exact .refl
    ·refine ad_ ?_
     rw[stE_o hil hai h1 h2 h3]at hdr
     refine e_next3 (m-1) (by omega) (.ex (inn,a,i+1,k) (.all ?_))
     refine nr_ ?_
     refine .pu ⟨by(try dsimp only);omega,rfl,rfl,rfl,by(try dsimp only);omega,hal,hdr,hkl⟩ ?_
     exact im_
 ·refine e_condF (p_op (v_ldN .here) ?_)
  refine o_ (v_ssl a rfl hal) ?_
  refine e_call (trim (by simp;omega)) .nil fun _=>?_
  refine nr_ ?_
  have e0:(Value.string ⟨#[]⟩)=txt []:=rfl
  rw[e0]
  rw[stE_end (by omega),tidy_cons,tidy_nil]at hdr
  refine o_ v_strne ?_
  by_cases h4:trimB (l.drop a)=[]
  ·rw[if_pos h4]at hdr
   rw[dF_ (fun c=>c h4)]
   have hkn:k=(elemsF q e l).length:=by
    have:=congrArg List.length hdr
    rw[List.length_drop,List.length_nil]at this;omega
   subst hkn
   refine e_condF (rt_ true ?_)
   refine .all ?_
   refine nr_ ?_
   refine .pick (by repeat constructor) (.all ?_)
   refine nr_ ?_
   exact im_
  ·rw[if_neg h4]at hdr
   obtain⟨hg,hd2,hk2⟩:=at_drop hdr
   rw[dT_ h4]
   refine e_condT (e_imp (M:=all [T,all [pt gs (.cells #[txt l] 9 (0,0)),pt gk (.cells #[.bool q,.bool e,fv] 132 (0,0)),G k]]::F) ?_ ?_)
   ·refine .all ?_
    refine nr_ ?_
    refine .pick (by repeat constructor) (.all ?_)
    refine nr_ ?_
    exact im_
   have hkn:k+1=(elemsF q e l).length:=by
    have:=congrArg List.length hd2
    rw[List.length_drop,List.length_nil]at this;omega
   refine e_yield hy k (ewv_at hg) .here ?_ ?_
   ·rw[hkn]
    refine rt_ true ?_
    exact .refl
   ·refine rt_ false ?_
    exact .refl
theorem els_Dir {W:World}{l:List UInt8}{q e:Bool}{fv:Value}:Cn p_ 131 [.agg #[.bool q,.bool e,fv],txt l] W [] (fun c:Nat × Nat=> .func (.func 158) #[] [.pointer (some ⟨c.1,0,none⟩),.pointer (some ⟨c.2,0,none⟩)].toArray) (fun c=>[pt c.1 (.cells #[txt l] 9 (0,0)),pt c.2 (.cells #[.bool q,.bool e,fv] 155 (0,0))]):=by
 (refine S.fields_kind_fields_Directive_elements_s.cn fun F=>?_;unfold S.fields_kind_fields_Directive_elements;simp only[ca_,na_])
 refine e_boxA fun gk=>?_
 refine e_box1 fun gs=>?_
 refine o_ v_mkF (rt_ ((gs,gk)) ?_)
 exact .refl
theorem els1_Dir {W:World} {l:List UInt8} {q e:Bool} {fv:Value} {gs gk lp:Nat} {G:Nat->HP} {Gx T T':HP} (hl:l.length<=4611686018427387904)
  (hy:YieldC p_ lp (ewv q e l) (fun k=>all [T,all [pt gs (.cells #[txt l] 9 (0,0)),pt gk (.cells #[.bool q,.bool e,fv] 155 (0,0)),G k]]) (all [T',Gx]) W):
  Cn p_ 158 [yv lp,.pointer (some ⟨gs,0,none⟩),.pointer (some ⟨gk,0,none⟩)] W [all [T,all [pt gs (.cells #[txt l] 9 (0,0)),pt gk (.cells #[.bool q,.bool e,fv] 155 (0,0)),G 0]]] (fun _:Bool=> .tuple #[]) (fun b=>[if b then all [T,all [pt gs (.cells #[txt l] 9 (0,0)),pt gk (.cells #[.bool q,.bool e,fv] 155 (0,0)),G (elemsF q e l).length]]else all [T',Gx]]):=by
 (refine S.fields_kind_fields_Directive_elements_1_s.cn fun F=>?_;unfold S.fields_kind_fields_Directive_elements_1;simp only[ca_,na_])
 refine e_all .here ?_
 refine nr_ ?_
 refine e_all (.there .here) ?_
 refine nr_ ?_
 refine e_loop3 (fun m x y z=>[ex fun st:Bool × Nat × Nat × Nat=>all [pu (m+st.2.2.1=l.length+1/\x= .bool st.1/\y= .int .i64 (st.2.1:Int)/\z= .int .i64 (st.2.2.1:Int)/\st.2.1<=st.2.2.1/\st.2.1<=l.length/\(elemsF q e l).drop st.2.2.2=tidy (stE l q e st.1 st.2.1 st.2.2.1)/\st.2.2.2<=(elemsF q e l).length),
   T,pt gs (.cells #[txt l] 9 (0,0)),pt gk (.cells #[.bool q,.bool e,fv] 155 (0,0)),G st.2.2.2]]++F) (l.length+1) ?_ ?_
 ·refine Imp.ex (false,0,0,0) (.all ?_)
  refine nr_ ?_
  refine .pu ⟨by simp,rfl,rfl,rfl,Nat.le_refl _,Nat.zero_le _,rfl,Nat.zero_le _⟩ ?_
  exact im_
 intro m ds x y z
 refine nr_ ?_
 refine e_ex Pick.here fun st=>e_all Pick.here ?_
 obtain⟨inn,a,i,k⟩:=st
 refine nr_ ?_
 refine e_pu Pick.here fun hi=>?_
 (try dsimp only at hi)
 obtain⟨hmi,rfl,rfl,rfl,hai,hal,hdr,hkl⟩:=hi
 refine p_op (v_ldN .here) ?_
 refine o_ v_lent (e_ask v_lss .nil (fun h=>?_) (fun h=>?_))
 ·have hil:i<l.length:=by omega
  refine e_condT (p_op (v_ldN .here) ?_)
  refine o_ (v_ixS i rfl hil) ?_
  refine o_ (B_eq 92 rfl) ?_
  refine e_and0 ?_
  refine e_and2 v_fa0 (v_ldN (.there .here)) (.pick (by repeat constructor) .nil) ?_
  refine e_cond (φ:=l[i]=92/\inn=true/\e=true) (by cases inn <;> cases e <;> simp) (fun h1=>?_) (fun h1=>?_)
  ·refine ad_ ?_
   refine ad_ ?_
   rw[stE_esc hil hai h1.1 h1.2.1 h1.2.2]at hdr
   refine e_next3 (m-2) (by omega) (.ex (inn,a,i+2,k) (.all ?_))
   refine nr_ ?_
   refine .pu ⟨by(try dsimp only);omega,rfl,rfl,by(try dsimp only);rw[Int.add_assoc];rfl,by(try dsimp only);omega,hal,hdr,hkl⟩ ?_
   exact im_
  ·refine o_ (B_eq 34 rfl) ?_
   refine e_and2 v_fa0 (v_ldN .here) (.pick (by repeat constructor) .nil) ?_
   refine e_cond (φ:=l[i]=34/\q=true) (by cases q <;> simp) (fun h2=>?_) (fun h2=>?_)
   ·refine o_ v_not (ad_ ?_)
    rw[stE_q hil hai h1 h2.1 h2.2]at hdr
    refine e_next3 (m-1) (by omega) (.ex (!inn,a,i+1,k) (.all ?_))
    refine nr_ ?_
    refine .pu ⟨by(try dsimp only);omega,rfl,rfl,rfl,by(try dsimp only);omega,hal,hdr,hkl⟩ ?_
    exact im_
   ·refine o_ (B_eq 44 rfl) ?_
    refine e_and (fun _=>v_not) ?_
    refine e_cond (φ:=l[i]=44/\inn=false) (by cases inn <;> simp) (fun h3=>?_) (fun h3=>?_)
    ·refine p_op (v_ldN .here) ?_
     refine o_ (v_sslh a i rfl rfl hai (by omega)) ?_
     refine e_call (trim (by simp[sub];omega)) .nil fun _=>?_
     refine nr_ ?_
     have e0:(Value.string ⟨#[]⟩)=txt []:=rfl
     rw[stE_c hil hai h3.1 h3.2,tidy_cons]at hdr
     rw[e0]
     refine o_ v_strne ?_
     by_cases h4:trimB (sub l a i)=[]
     ·rw[if_pos h4]at hdr
      rw[dF_ (fun c=>c h4)]
      refine e_gdF2 (e_gdF2 (e_gdF2 (e_gdF2 (o_ v_pickF (e_condF (ad_ ?_))))));refine ad_ ?_
      refine e_next3 (m-1) (by omega) (.ex (inn,i+1,i+1,k) (.all ?_))
      refine nr_ ?_
      refine .pu ⟨by(try dsimp only);omega,rfl,rfl,rfl,Nat.le_refl _,by(try dsimp only);omega,by rw[h3.2];exact hdr,hkl⟩ ?_
      exact im_
     ·rw[if_neg h4]at hdr
      obtain⟨hg,hd2,hk2⟩:=at_drop hdr
      rw[dT_ h4]
      refine e_gdT (e_gdT (e_gdT (e_imp (M:=all [T,all [pt gs (.cells #[txt l] 9 (0,0)),pt gk (.cells #[.bool q,.bool e,fv] 155 (0,0)),G k]]::F) ?_ ?_)))
      ·refine .all ?_
       refine nr_ ?_
       refine .pick (by repeat constructor) (.all ?_)
       refine nr_ ?_
       exact im_
      refine e_yield hy k (ewv_at hg) .here ?_ ?_
      ·(refine e_gdT ?_);refine o_ v_notT ?_;refine o_ v_pickT ?_;refine e_condF ?_;refine ad_ ?_;refine ad_ ?_
       refine e_all .here ?_
       refine nr_ ?_
       refine e_all (.there .here) ?_
       refine nr_ ?_
       refine e_next3 (m-1) (by omega) (.ex (inn,i+1,i+1,k+1) (.all ?_))
       refine nr_ ?_
       refine .pu ⟨by(try dsimp only);omega,rfl,rfl,rfl,Nat.le_refl _,by(try dsimp only);omega,by rw[h3.2];exact hd2,by(try dsimp only);omega⟩ ?_
       exact im_
      ·(refine e_gdT ?_);refine o_ v_notF ?_;refine o_ v_pickT ?_;refine e_condT ?_
       refine rt_ false ?_
       exact .refl
    ·refine ad_ ?_
     rw[stE_o hil hai h1 h2 h3]at hdr
     refine e_next3 (m-1) (by omega) (.ex (inn,a,i+1,k) (.all ?_))
     refine nr_ ?_
     refine .pu ⟨by(try dsimp only);omega,rfl,rfl,rfl,by(try dsimp only);omega,hal,hdr,hkl⟩ ?_
     exact im_
 ·refine e_condF (p_op (v_ldN .here) ?_)
  refine o_ (v_ssl a rfl hal) ?_
  refine e_call (trim (by simp;omega)) .nil fun _=>?_
  refine nr_ ?_
  have e0:(Value.string ⟨#[]⟩)=txt []:=rfl
  rw[e0]
  rw[stE_end (by omega),tidy_cons,tidy_nil]at hdr
  refine o_ v_strne ?_
  by_cases h4:trimB (l.drop a)=[]
  ·rw[if_pos h4]at hdr
   rw[dF_ (fun c=>c h4)]
   have hkn:k=(elemsF q e l).length:=by
    have:=congrArg List.length hdr
    rw[List.length_drop,List.length_nil]at this;omega
   subst hkn
   refine e_condF (rt_ true ?_)
   refine .all ?_
   refine nr_ ?_
   refine .pick (by repeat constructor) (.all ?_)
   refine nr_ ?_
   exact im_
  ·rw[if_neg h4]at hdr
   obtain⟨hg,hd2,hk2⟩:=at_drop hdr
   rw[dT_ h4]
   refine e_condT (e_imp (M:=all [T,all [pt gs (.cells #[txt l] 9 (0,0)),pt gk (.cells #[.bool q,.bool e,fv] 155 (0,0)),G k]]::F) ?_ ?_)
   ·refine .all ?_
    refine nr_ ?_
    refine .pick (by repeat constructor) (.all ?_)
    refine nr_ ?_
    exact im_
   have hkn:k+1=(elemsF q e l).length:=by
    have:=congrArg List.length hd2
    rw[List.length_drop,List.length_nil]at this;omega
   refine e_yield hy k (ewv_at hg) .here ?_ ?_
   ·rw[hkn]
    refine rt_ true ?_
    exact .refl
   ·refine rt_ false ?_
    exact .refl
def vstring (x:List UInt8):Value:=txt x
def pstring (x:List UInt8):List Value:=[txt x]
theorem list_string {W : World} {l : List UInt8} {q e : Bool} {f : FuncId} {one : List UInt8 → (List UInt8) × Bool} (hl : l.length ≤ 2097152)
  (hone : ∀ w : List UInt8, w.length ≤ l.length → Cn p_ f [txt w] W [] (fun _ : Unit => .tuple #[vstring (one w).1, .bool (one w).2]) (fun _ => [])) :
  Cn p_ 82 [txt l, .agg #[.bool q, .bool e, fn f]] W [] (fun r : Option Addr × Nat => .tuple #[.slice r.1 (lsF (listF one (elemsF q e l))).1.length r.2, .int .i64 (lsF (listF one (elemsF q e l))).2])
   (fun r => [Sl 1 9 r.1 r.2 (lsF (listF one (elemsF q e l))).1.length ((lsF (listF one (elemsF q e l))).1.flatMap pstring)]) := by
 have hnum := elems_num (q := q) (e := e) (l := l)
 (refine S.fields_list_string_s.cn fun F => ?_; unfold S.fields_list_string; simp only [ca_, na_])
 refine e_boxA fun b3 => ?_
 refine e_new1 fun b4 => ?_
 refine e_new1 fun b5 => ?_
 refine e_new1 fun b6 => ?_
 refine p_op (v_ldAgg (cs := #[.bool q, .bool e, fn f]) rfl) ?_
 refine e_call els_string .nil fun c => ?_
 obtain ⟨gs, gk⟩ := c
 refine nr_ ?_
 refine e_rf (f := 134) (cap := [.pointer (some ⟨gs, 0, none⟩), .pointer (some ⟨gk, 0, none⟩)]) (ewv q e l)
  (fun k => all [pt gs (.cells #[txt l] 9 (0, 0)), pt gk (.cells #[.bool q, .bool e, fn f] 132 (0, 0)), all [pu (((elemsF q e l).take k).all (fun w => (one w).2) = true ∧ k ≤ (elemsF q e l).length), pt b3 (.cells #[.bool q, .bool e, fn f] 132 (0, 0)), pt b4 (.cells #[.slice none 0 0] 46 (0, 0)), pt b5 (.cells #[.int .i64 0] 24 (0, 0)),
   ex fun r : Option Addr × Nat => all [pt b6 (.cells #[.slice r.1 k r.2] 46 (0, 0)), Sl 1 9 r.1 r.2 k (((elemsF q e l).take k).flatMap fun w => pstring (one w).1)], all F]])
  (all [pu ((elemsF q e l).all (fun w => (one w).2) = false), pt b4 (.cells #[.slice none 0 0] 46 (0, 0)), pt b5 (.cells #[.int .i64 42] 24 (0, 0)), all F]) rfl ?_ ?_ ?_ ?_ ?_ ?_
 ·intro x hx
  obtain ⟨w, _, rfl⟩ := List.mem_map.1 hx
  rfl
 ·refine .all ?_
  refine nr_ ?_
  refine .pick (by repeat constructor) (.pick (by repeat constructor) (.all ?_))
  refine nr_ ?_
  refine .pu ⟨rfl, Nat.zero_le _⟩ ?_
  refine .pick (by repeat constructor) (.pick (by repeat constructor) (.pick (by repeat constructor) (.ex (none, 0) (.all ?_))))
  refine nr_ ?_
  refine .pick (by repeat constructor) (imp_nil (.all ?_))
  rw [List.append_nil]
  exact .refl
 ·intro lp T T' hy
  rw [ewv_len]
  exact els1_string (by omega) hy
 ·intro k hk F2 T0 T1 B N J hB hN hJ
  rw [ewv_len] at hk
  obtain ⟨w, hwe⟩ : ∃ w, w = (elemsF q e l)[k] := ⟨_, rfl⟩
  have hwl : w.length ≤ l.length := elems_len (by rw [hwe]; exact List.getElem_mem hk)
  have hat : (elemsF q e l)[k]? = some w := by rw [hwe, List.getElem?_eq_getElem hk]
  have e0 : ∀ h, (ewv q e l)[k]'h = [txt w] := fun h => by
   have := ewv_at hat
   rw [List.getElem?_eq_getElem h] at this
   exact Option.some.inj this
  rw [e0]
  simp only [vapp, List.headD_cons, List.tail_cons]
  refine e_all (.there .here) ?_
  refine nr_ ?_
  refine e_all (.there (.there .here)) ?_
  refine nr_ ?_
  refine e_pu .here fun hp => ?_
  obtain ⟨hp, hkn⟩ := hp
  have htk : (elemsF q e l).take (k + 1) = (elemsF q e l).take k ++ [w] := by rw [List.take_succ_eq_append_getElem hk, hwe]
  refine hB _ _ _ (by repeat constructor) ?_
  refine e_ex (A := fun r : Option Addr × Nat => all [pt b6 (.cells #[.slice r.1 k r.2] 46 (0, 0)), Sl 1 9 r.1 r.2 k (((elemsF q e l).take k).flatMap fun w => pstring (one w).1)]) (by repeat constructor) fun r => e_all Pick.here ?_
  obtain ⟨a, c⟩ := r
  refine nr_ ?_
  refine o_ v_fa0 (p_op (v_ldN (.there (.there .here))) ?_)
  refine e_call (hone w hwl) .nil fun _ => ?_
  refine nr_ ?_
  unfold vstring
  refine o_ (v_extN (vs := [_, _]) .here) ?_
  refine o_ (v_extN (vs := [_, _]) (.there .here)) ?_
  refine o_ v_not ?_
  cases hok : (one w).2 with
  | false =>
   refine e_condT (e_stN (by repeat constructor) .here ?_)
   refine e_stN (by repeat constructor) .here ?_
   refine hJ _ ?_
   refine .pick (by repeat constructor) (.all ?_)
   refine nr_ ?_
   refine .pu ?_ ?_
   ·rw [Bool.eq_false_iff]
    intro hall
    have := List.all_eq_true.1 hall w (by rw [hwe]; exact List.getElem_mem hk)
    rw [hok] at this; cases this
   refine .pick (by repeat constructor) (.pick (by repeat constructor) ?_)
   exact im_
  | true =>
   refine e_condF (p_op (v_ldN .here) ?_)
   refine e_bsl1 fun gb => ?_
   refine e_app (m := 1) (news := [txt (one w).1]) (by repeat constructor) (src_pt (e' := 9) (by kernel_rfl) .here (by rfl) (by intro u hu; rw [List.mem_singleton.1 hu]; rfl)) (by omega) (by omega) fun a' c' => ?_
   refine e_stN (by repeat constructor) .here ?_
   refine hN _ ?_
   refine .pick (by repeat constructor) (.all ?_)
   refine nr_ ?_
   refine .pick (by repeat constructor) (.pick (by repeat constructor) (.all ?_))
   refine nr_ ?_
   refine .pu ⟨?_, by omega⟩ ?_
   ·rw [htk, List.all_append, hp]
    simp [hok]
   refine .pick (by repeat constructor) (.pick (by repeat constructor) (.pick (by repeat constructor) (.ex (a', c') (.all ?_))))
   refine nr_ ?_
   rw [htk, List.flatMap_append, List.flatMap_singleton]
   refine .pick (by repeat constructor) (.pick (by repeat constructor) ?_)
   exact im_
 ·intro d
  rw [ewv_len]
  refine e_all (.there .here) ?_
  refine nr_ ?_
  refine e_all (.there (.there .here)) ?_
  refine nr_ ?_
  refine e_pu .here fun hp => ?_
  obtain ⟨hp, _⟩ := hp
  rw [List.take_length] at hp ⊢
  refine e_ex (A := fun r : Option Addr × Nat => all [pt b6 (.cells #[.slice r.1 (elemsF q e l).length r.2] 46 (0, 0)), Sl 1 9 r.1 r.2 (elemsF q e l).length ((elemsF q e l).flatMap fun w => pstring (one w).1)]) (by repeat constructor) fun r => e_all Pick.here ?_
  obtain ⟨a, c⟩ := r
  refine nr_ ?_
  refine p_op (v_ldN .here) ?_
  refine e_stN (by repeat constructor) .here ?_
  refine e_stN (by repeat constructor) .here ?_
  refine e_tk (by repeat constructor) ?_
  refine p_st (v_res1 .here) ?_
  refine p_st (v_res1 .here) ?_
  have e1 : lsF (listF one (elemsF q e l)) = ((elemsF q e l).map fun w => (one w).1, 0) := by
   unfold listF
   rw [if_pos hp]; rfl
  rw [e1]
  refine e_rest (M := [Sl 1 9 a c (elemsF q e l).length ((elemsF q e l).flatMap fun w => pstring (one w).1)]) (F := F) im_ ?_
  refine nr_ ?_
  refine e_ret (a, c) (by simp) ?_
  simp only [List.length_map, List.flatMap_map]
  exact .refl
 ·intro d
  refine e_all (.there .here) ?_
  refine nr_ ?_
  refine e_pu .here fun hp => ?_
  refine e_tk (by repeat constructor) ?_
  refine p_st (v_res1 .here) ?_
  refine p_st (v_res1 .here) ?_
  have e1 : lsF (listF one (elemsF q e l)) = ([], 42) := by
   unfold listF
   rw [if_neg (by rw [hp]; simp)]; rfl
  rw [e1]
  refine e_rest (M := []) (F := F) im_ ?_
  refine nr_ ?_
  refine e_ret (none, 0) rfl ?_
  exact imp_nil .refl
def vDir (x:Dir):Value:= .agg #[txt x.name,txt x.value,.bool x.has]
def pDir (x:Dir):List Value:=[txt x.name,txt x.value,.bool x.has]
theorem list_Dir {W : World} {l : List UInt8} {q e : Bool} {f : FuncId} {one : List UInt8 → (Dir) × Bool} (hl : l.length ≤ 2097152)
  (hone : ∀ w : List UInt8, w.length ≤ l.length → Cn p_ f [txt w] W [] (fun _ : Unit => .tuple #[vDir (one w).1, .bool (one w).2]) (fun _ => [])) :
  Cn p_ 106 [txt l, .agg #[.bool q, .bool e, fn f]] W [] (fun r : Option Addr × Nat => .tuple #[.slice r.1 (lsF (listF one (elemsF q e l))).1.length r.2, .int .i64 (lsF (listF one (elemsF q e l))).2])
   (fun r => [Sl 3 128 r.1 r.2 (lsF (listF one (elemsF q e l))).1.length ((lsF (listF one (elemsF q e l))).1.flatMap pDir)]) := by
 have hnum := elems_num (q := q) (e := e) (l := l)
 (refine S.fields_list_fields_Directive_s.cn fun F => ?_; unfold S.fields_list_fields_Directive; simp only [ca_, na_])
 refine e_boxA fun b3 => ?_
 refine e_new1 fun b4 => ?_
 refine e_new1 fun b5 => ?_
 refine e_new1 fun b6 => ?_
 refine p_op (v_ldAgg (cs := #[.bool q, .bool e, fn f]) rfl) ?_
 refine e_call els_Dir .nil fun c => ?_
 obtain ⟨gs, gk⟩ := c
 refine nr_ ?_
 refine e_rf (f := 158) (cap := [.pointer (some ⟨gs, 0, none⟩), .pointer (some ⟨gk, 0, none⟩)]) (ewv q e l)
  (fun k => all [pt gs (.cells #[txt l] 9 (0, 0)), pt gk (.cells #[.bool q, .bool e, fn f] 155 (0, 0)), all [pu (((elemsF q e l).take k).all (fun w => (one w).2) = true ∧ k ≤ (elemsF q e l).length), pt b3 (.cells #[.bool q, .bool e, fn f] 155 (0, 0)), pt b4 (.cells #[.slice none 0 0] 79 (0, 0)), pt b5 (.cells #[.int .i64 0] 24 (0, 0)),
   ex fun r : Option Addr × Nat => all [pt b6 (.cells #[.slice r.1 k r.2] 79 (0, 0)), Sl 3 128 r.1 r.2 k (((elemsF q e l).take k).flatMap fun w => pDir (one w).1)], all F]])
  (all [pu ((elemsF q e l).all (fun w => (one w).2) = false), pt b4 (.cells #[.slice none 0 0] 79 (0, 0)), pt b5 (.cells #[.int .i64 42] 24 (0, 0)), all F]) rfl ?_ ?_ ?_ ?_ ?_ ?_
 ·intro x hx
  obtain ⟨w, _, rfl⟩ := List.mem_map.1 hx
  rfl
 ·refine .all ?_
  refine nr_ ?_
  refine .pick (by repeat constructor) (.pick (by repeat constructor) (.all ?_))
  refine nr_ ?_
  refine .pu ⟨rfl, Nat.zero_le _⟩ ?_
  refine .pick (by repeat constructor) (.pick (by repeat constructor) (.pick (by repeat constructor) (.ex (none, 0) (.all ?_))))
  refine nr_ ?_
  refine .pick (by repeat constructor) (imp_nil (.all ?_))
  rw [List.append_nil]
  exact .refl
 ·intro lp T T' hy
  rw [ewv_len]
  exact els1_Dir (by omega) hy
 ·intro k hk F2 T0 T1 B N J hB hN hJ
  rw [ewv_len] at hk
  obtain ⟨w, hwe⟩ : ∃ w, w = (elemsF q e l)[k] := ⟨_, rfl⟩
  have hwl : w.length ≤ l.length := elems_len (by rw [hwe]; exact List.getElem_mem hk)
  have hat : (elemsF q e l)[k]? = some w := by rw [hwe, List.getElem?_eq_getElem hk]
  have e0 : ∀ h, (ewv q e l)[k]'h = [txt w] := fun h => by
   have := ewv_at hat
   rw [List.getElem?_eq_getElem h] at this
   exact Option.some.inj this
  rw [e0]
  simp only [vapp, List.headD_cons, List.tail_cons]
  refine e_all (.there .here) ?_
  refine nr_ ?_
  refine e_all (.there (.there .here)) ?_
  refine nr_ ?_
  refine e_pu .here fun hp => ?_
  obtain ⟨hp, hkn⟩ := hp
  have htk : (elemsF q e l).take (k + 1) = (elemsF q e l).take k ++ [w] := by rw [List.take_succ_eq_append_getElem hk, hwe]
  refine hB _ _ _ (by repeat constructor) ?_
  refine e_ex (A := fun r : Option Addr × Nat => all [pt b6 (.cells #[.slice r.1 k r.2] 79 (0, 0)), Sl 3 128 r.1 r.2 k (((elemsF q e l).take k).flatMap fun w => pDir (one w).1)]) (by repeat constructor) fun r => e_all Pick.here ?_
  obtain ⟨a, c⟩ := r
  refine nr_ ?_
  refine o_ v_fa0 (p_op (v_ldN (.there (.there .here))) ?_)
  refine e_call (hone w hwl) .nil fun _ => ?_
  refine nr_ ?_
  unfold vDir
  refine o_ (v_extN (vs := [_, _]) .here) ?_
  refine o_ (v_extN (vs := [_, _]) (.there .here)) ?_
  refine e_newA fun b8 => ?_
  refine e_stAgg .here (by rfl) (by rfl) (by intro u hu; simp [vDir] at hu; rcases hu with rfl | rfl | rfl <;> rfl) ?_
  refine o_ v_not ?_
  cases hok : (one w).2 with
  | false =>
   refine e_condT (e_stN (by repeat constructor) .here ?_)
   refine e_stN (by repeat constructor) .here ?_
   refine hJ _ ?_
   refine .pick (by repeat constructor) (.all ?_)
   refine nr_ ?_
   refine .pu ?_ ?_
   ·rw [Bool.eq_false_iff]
    intro hall
    have := List.all_eq_true.1 hall w (by rw [hwe]; exact List.getElem_mem hk)
    rw [hok] at this; cases this
   refine .pick (by repeat constructor) (.pick (by repeat constructor) ?_)
   exact im_
  | true =>
   refine e_condF (p_op (v_ldN .here) ?_)
   refine p_op (v_ldAgg (cs := #[txt (one w).1.name, txt (one w).1.value, .bool (one w).1.has]) rfl) ?_
   refine e_bslS (n := 1) (vs := [vDir (one w).1]) rfl (by omega) rfl (by intro v hv; rw [List.mem_singleton.1 hv]; rfl) (by omega) fun gb => ?_
   refine e_app (m := 1) (news := pDir (one w).1) (by repeat constructor) (src_pt (s := 3) (e' := 128) (by kernel_rfl) .here (by rfl) (by intro u hu; simp [pDir] at hu; rcases hu with rfl | rfl | rfl <;> rfl)) (by omega) (by omega) fun a' c' => ?_
   refine e_stN (by repeat constructor) .here ?_
   refine hN _ ?_
   refine .pick (by repeat constructor) (.all ?_)
   refine nr_ ?_
   refine .pick (by repeat constructor) (.pick (by repeat constructor) (.all ?_))
   refine nr_ ?_
   refine .pu ⟨?_, by omega⟩ ?_
   ·rw [htk, List.all_append, hp]
    simp [hok]
   refine .pick (by repeat constructor) (.pick (by repeat constructor) (.pick (by repeat constructor) (.ex (a', c') (.all ?_))))
   refine nr_ ?_
   rw [htk, List.flatMap_append, List.flatMap_singleton]
   refine .pick (by repeat constructor) (.pick (by repeat constructor) ?_)
   exact im_
 ·intro d
  rw [ewv_len]
  refine e_all (.there .here) ?_
  refine nr_ ?_
  refine e_all (.there (.there .here)) ?_
  refine nr_ ?_
  refine e_pu .here fun hp => ?_
  obtain ⟨hp, _⟩ := hp
  rw [List.take_length] at hp ⊢
  refine e_ex (A := fun r : Option Addr × Nat => all [pt b6 (.cells #[.slice r.1 (elemsF q e l).length r.2] 79 (0, 0)), Sl 3 128 r.1 r.2 (elemsF q e l).length ((elemsF q e l).flatMap fun w => pDir (one w).1)]) (by repeat constructor) fun r => e_all Pick.here ?_
  obtain ⟨a, c⟩ := r
  refine nr_ ?_
  refine p_op (v_ldN .here) ?_
  refine e_stN (by repeat constructor) .here ?_
  refine e_stN (by repeat constructor) .here ?_
  refine e_tk (by repeat constructor) ?_
  refine p_st (v_res1 .here) ?_
  refine p_st (v_res1 .here) ?_
  have e1 : lsF (listF one (elemsF q e l)) = ((elemsF q e l).map fun w => (one w).1, 0) := by
   unfold listF
   rw [if_pos hp]; rfl
  rw [e1]
  refine e_rest (M := [Sl 3 128 a c (elemsF q e l).length ((elemsF q e l).flatMap fun w => pDir (one w).1)]) (F := F) im_ ?_
  refine nr_ ?_
  refine e_ret (a, c) (by simp) ?_
  simp only [List.length_map, List.flatMap_map]
  exact .refl
 ·intro d
  refine e_all (.there .here) ?_
  refine nr_ ?_
  refine e_pu .here fun hp => ?_
  refine e_tk (by repeat constructor) ?_
  refine p_st (v_res1 .here) ?_
  refine p_st (v_res1 .here) ?_
  have e1 : lsF (listF one (elemsF q e l)) = ([], 42) := by
   unfold listF
   rw [if_neg (by rw [hp]; simp)]; rfl
  rw [e1]
  refine e_rest (M := []) (F := F) im_ ?_
  refine nr_ ?_
  refine e_ret (none, 0) rfl ?_
  exact imp_nil .refl
theorem txt_beq (a b:List UInt8):((⟨a.toArray⟩:ByteArray).toList==(⟨b.toArray⟩:ByteArray).toList)=decide (a=b):=by
 rw[ByteArray.toList_eq,ByteArray.toList_eq]
 show(a==b)=decide (a=b)
 by_cases h:a=b <;> simp[h]
theorem eq_s {w:World}{d:Nat}{a b:List UInt8}:(Op.equalIn (d+1) 9 (txt a) (txt b)).run p_ w= .ok (decide (a=b)) w:=by
 unfold txt
 rw[run_equalIn_string w d 9 _ _ Tryz.underlying9,txt_beq]
theorem pt1 {w:World}{t:TypeId}{cs:Array Value}{o:Nat}{v:Value}[h:OneT p_ t](hv:cs[o]? =some v):(part t cs o).run p_ w= .ok v w:=by
 simp[part,h.agg,hv]
theorem eqStep {w:World} {d:Nat} {f:Field} {fs:List Field} {xs ys:Array Value} {a b:Value} {φ:Bool} (hn:f.name≠ "_") (h1:(part f.type xs f.offset).run p_ w= .ok a w) (h2:(part f.type ys f.offset).run p_ w= .ok b w)
  (h3:(Op.equalIn d f.type a b).run p_ w= .ok φ w):(Op.eqFields d xs ys (f::fs)).run p_ w=if φ then(Op.eqFields d xs ys fs).run p_ w else .ok false w:=by
 rw[Op.eqFields,if_pos hn]
 simp only[Sem.run_bind,h1,h2,h3,Result.andThen_ok]
 cases φ <;> simp
theorem eqEnd {w:World}{d:Nat}{xs ys:Array Value}:(Op.eqFields d xs ys []).run p_ w= .ok true w:=by simp[Op.eqFields]
theorem eqS {w:World} {f:Field} {fs:List Field} {xs ys:Array Value} {φ:Bool} (a b:List UInt8) (hn:f.name≠ "_") (ht:f.type=9) (h1:xs[f.offset]? =some (txt a)) (h2:ys[f.offset]? =some (txt b))
  (hr:(Op.eqFields 9999 xs ys fs).run p_ w= .ok φ w):(Op.eqFields 9999 xs ys (f::fs)).run p_ w= .ok (decide (a=b)&&φ) w:=by
 rw[eqStep hn (by rw[ht];exact pt1 h1) (by rw[ht];exact pt1 h2) (by rw[ht];exact eq_s (d:=9998)),hr]
 by_cases h:a=b <;> simp[h]
theorem v_agNe {W:World} {t:TypeId} {ox oy:Operand} {xs ys:Array Value} {φ:Bool} (ht:p_.underlying t=some (.struct (p_.fieldsOf t))) (hp:p_.stoodInHeld t=false) (hm:p_.eqGuardType p_.depth t=false)
  (h:∀w,(Op.eqFields 9999 xs ys (p_.fieldsOf t).toList).run p_ w= .ok φ w):RunV p_ W [] (sEq .neq t ox oy (.agg xs) (.agg ys)) (.bool (!φ)):=fun w _=>by
 have e:=run_equalIn_agg (P:=p_) w 9999 t xs ys ht hp
 rw[h w]at e
 have h1:=run_neq_struct (P:=p_) w t xs ys
 rw[show(10000:Nat)=9999+1 from rfl,e]at h1
 have h2:=run_eqGuard_agg (P:=p_) w .neq t ox oy xs ys hm
 simp[sEq,sv,h2,h1]
section
variable {P:Program} {W:World} {L L':List HP} {Kp:PK} {k:Value->WP}
theorem e_or1 {a b:Bool}{y:Value}{s1:Value->Sem Next}(h1:a=false->RunV P W [] (s1 y) (.bool b))(h:Ent W L (k (.bool (a||b)))):
  Ent W L (gdK (.bool a) false (fun k=>k y) fun x1=>gdK (.bool a) false (opN P (s1 x1) Kp) fun x2=>opN P (sPick (.bool a) (.bool true) x2) Kp k):=by
 cases a with
 |true=>
  refine e_gdF1 (e_gdF1 (o_ v_pickT ?_))
  simpa using h
 |false=>
  refine e_gdT (e_gdT (o_ (h1 rfl) ?_))
  refine o_ v_pickF ?_
  simpa using h
theorem e_or2 {a b:Bool}{y v1:Value}{s1 s2:Value->Sem Next}(h1:a=false->RunV P W [] (s1 y) v1)(h2:a=false->RunV P W [] (s2 v1) (.bool b))(h:Ent W L (k (.bool (a||b)))):
  Ent W L (gdK (.bool a) false (fun k=>k y) fun x1=>gdK (.bool a) false (opN P (s1 x1) Kp) fun x2=>gdK (.bool a) false (opN P (s2 x2) Kp) fun x3=>opN P (sPick (.bool a) (.bool true) x3) Kp k):=by
 cases a with
 |true=>
  refine e_gdF1 (e_gdF1 (e_gdF1 (o_ v_pickT ?_)))
  simpa using h
 |false=>
  refine e_gdT (e_gdT (o_ (h1 rfl) ?_))
  refine e_gdT (o_ (h2 rfl) ?_)
  refine o_ v_pickF ?_
  simpa using h
end
theorem cutB_len {c:UInt8}:∀s:List UInt8,(cutB c s).length<=s.length
 |[]=>by simp[cutB]
 |x::r=>by
  have:=cutB_len (c:=c) r
  unfold cutB
  split <;> simp <;> omega
theorem lowF_len (l:List UInt8):(lowF l).length=l.length:=by simp[lowF]
theorem token1 {W:World}{l:List UInt8}(hl:l.length<=4611686018427387904):Cn p_ 83 [txt l] W [] (fun _:Unit=> .tuple #[vstring (tokenF l).1,.bool (tokenF l).2]) (fun _=>[]):=by
 (refine S.fields_Tokens_1_s.cn fun F=>?_;unfold S.fields_Tokens_1;simp only[ca_,na_])
 refine c_ (lower hl) fun _=>?_
 refine c_ (token hl) fun _=>?_
 refine rt_ () ?_
 exact im_
end Go.Proofs.YthomhkpedghhgaaGreatDoor.FD
namespace Go.Proofs.YthomhkpedghhgaaGreatDoor.FD
open Go Go.Proofs Go.RowKit Sh Sl T
theorem rblank {W:World}{c:UInt8}:Cn p_ 140 [Sl.B c] W [] (fun _:Unit=> .bool (isBl c)) (fun _=>[]):=by
 (refine S.ref01_blank_s.cn fun F=>?_;unfold S.ref01_blank;simp only[ca_,na_])
 refine o_ (B_eq 9 rfl) ?_
 refine e_or1 (fun _=>B_eq 32 rfl) ?_
 refine e_ret () (by unfold isBl;rw[Bool.or_comm];rfl) ?_
 exact im_
theorem trimL_len (l:List UInt8):(trimL l).length<=l.length:=(List.dropWhile_sublist (p:=isBl) (l:=l)).length_le
theorem rtrim {W : World} {l : List UInt8} (hl : l.length ≤ 4611686018427387904) : Cn p_ 117 [txt l] W [] (fun _ : Unit => txt (trimB l)) (fun _ => []) := by
  have hlr : trimB l = trimR (trimL l) := trimLR l
  have hll := trimL_len l
  (refine S.ref01_Trim_s.cn fun F => ?_; unfold S.ref01_Trim; simp only [ca_, na_])
  rw [hlr]
  refine e_loop1 (fun m y => (ex fun u : List UInt8 => pu (m = u.length ∧ y = txt u ∧ trimL u = trimL l ∧ u.length ≤ l.length)) :: F) l.length ?_ ?_
  · refine .ex l (.pu ⟨rfl, rfl, rfl, Nat.le_refl _⟩ ?_)
    exact im_
  intro m ds y
  refine nr_ ?_
  refine e_ex Pick.here fun u => e_pu Pick.here fun hi => ?_
  obtain ⟨hmi, rfl, htr, hul⟩ := hi
  have tail : u = trimL l → Ent W F (loop1 (fun I2 m2 _ y0_2 =>
     opN p_ (sLen #[9] 3 [y0_2]) noP fun x14 =>
     opN p_ (sBin .gtr 3 x14 (.int .i64 0)) noP fun x15 =>
     gdK x15 true (fun k => k y0_2) fun x17 =>
     gdK x15 true (fun k => k y0_2) fun x18 =>
     gdK x15 true (opN p_ (sLen #[9] 3 [x18]) noP) fun x19 =>
     gdK x15 true (opN p_ (sBin .sub 3 x19 (.int .i64 1)) noP) fun x20 =>
     gdK x15 true (opN p_ (sIx 9 x17 x20) noP) fun x21 =>
     gdK x15 true (opN p_ (sCall (fn 140) [x21]) noP) fun x22 =>
     opN p_ (sPick x15 x22 (.bool false)) noP fun x23 =>
     condS x23
     (opN p_ (sLen #[9] 3 [y0_2]) noP fun x26 =>
      opN p_ (sBin .sub 3 x26 (.int .i64 1)) noP fun x27 =>
      opN p_ (sSl 9 y0_2 none (some x27) none) noP fun x28 =>
      next1 I2 m2 x28)
     (fun w => ∃ x : Unit, y0_2 = txt (trimR (trimL l)) ∧ sat W ([] ++ F) w)) (txt u)) := by
    intro hu
    refine e_loop1 (fun m y => (ex fun v : List UInt8 => pu (m = v.length ∧ y = txt v ∧ trimR v = trimR (trimL l) ∧ v.length ≤ l.length)) :: F) u.length ?_ ?_
    · refine .ex u (.pu ⟨rfl, rfl, by rw [hu], hul⟩ ?_)
      exact im_
    intro m2 ds2 y2
    refine nr_ ?_
    refine e_ex Pick.here fun v => e_pu Pick.here fun hi => ?_
    obtain ⟨hm2, rfl, htv, hvl⟩ := hi
    refine o_ v_lent (e_ask v_gtr .nil (fun h => ?_) (fun h => ?_))
    · obtain ⟨n, hn⟩ : ∃ n, v.length = n + 1 := ⟨v.length - 1, by omega⟩
      refine e_gdT (e_gdT (e_gdT (o_ v_lent (e_gdT (sb_ ?_))))); refine e_gdT (o_ (v_ixS n (by omega) (by omega)) ?_)
      refine e_gdT (e_call rblank .nil fun _ => ?_)
      refine nr_ ?_
      refine o_ v_pickT ?_
      cases hb : isBl (v[n]'(by omega)) with
      | true =>
        refine e_condT (o_ v_lent (sb_ ?_))
        refine o_ (v_ssh n (by omega) (by omega)) ?_
        refine e_next1 (m2 - 1) (by omega) (.ex (v.take n) (.pu ⟨by rw [List.length_take]; omega, rfl, (trimR_t hn hb).symm.trans htv, by rw [List.length_take]; omega⟩ ?_))
        exact im_
      | false =>
        refine e_condF ?_
        rw [← htv, trimR_f hn hb]
        refine rt_ () ?_
        exact im_
    · have h0 : v = [] := List.eq_nil_of_length_eq_zero (by omega)
      subst h0
      refine e_gdF2 (e_gdF2 (e_gdF2 (e_gdF2 (e_gdF2 (e_gdF2 (o_ v_pickF (e_condF ?_)))))))
      rw [← htv]
      refine rt_ () ?_
      exact im_
  refine o_ v_lent (e_ask v_gtr .nil (fun h => ?_) (fun h => ?_))
  · have h0 : 0 < u.length := by omega
    refine e_gdT (e_gdT (o_ (v_ixS 0 rfl h0) ?_))
    refine e_gdT (e_call rblank .nil fun _ => ?_)
    refine nr_ ?_
    refine o_ v_pickT ?_
    cases hb : isBl u[0] with
    | true =>
      refine e_condT (o_ (v_ssl 1 rfl (by omega)) ?_)
      refine e_next1 (m - 1) (by omega) (.ex (u.drop 1) (.pu ⟨by rw [List.length_drop]; omega, rfl, (trimL_t h0 hb).symm.trans htr, by rw [List.length_drop]; omega⟩ ?_))
      exact im_
    | false =>
      exact e_condF (tail (by rw [← htr, trimL_f h0 hb]))
  · have h0 : u = [] := List.eq_nil_of_length_eq_zero (by omega)
    exact e_gdF2 (e_gdF2 (e_gdF2 (o_ v_pickF (e_condF (tail (by rw [← htr, h0]; rfl))))))
theorem rlower {W:World}{l:List UInt8}(hl:l.length<=4611686018427387904):Cn p_ 68 [txt l] W [] (fun _:Unit=>txt (lowF l)) (fun _=>[]):=by
 (refine S.ref01_Lower_s.cn fun F=>?_;unfold S.ref01_Lower;simp only[ca_,na_])
 refine e_sbytesF Tryz.underlying32 Tryz.underlying5 fun g c rest=>?_
 refine e_loop1 (fun m y=>[ex fun i:Nat=>all [pu (m+i=l.length/\y= .int .i64 (i:Int)),pt g (.cells (((l.take i).map lowB++l.drop i).map B++rest).toArray 5 (l.length+rest.length,l.length+rest.length+1))]]++F) l.length ?_ ?_
 ·refine Imp.ex 0 (.all ?_)
  refine nr_ ?_
  rw[List.take_zero,List.drop_zero,List.map_nil,List.nil_append]
  exact .pu ⟨by omega,rfl⟩ .refl
 intro m ds y
 refine nr_ ?_
 refine e_ex Pick.here fun i=>e_all Pick.here ?_
 refine nr_ ?_
 refine e_pu Pick.here fun hi=>?_
 obtain⟨hmi,rfl⟩:=hi
 refine o_ v_len (e_ask v_lss .nil (fun h=>?_) (fun h=>?_))
 ·have hil:i<l.length:=by omega
  refine e_condT ?_
  have hcl:((l.take i).map lowB++l.drop i).length=l.length:=by simp;omega
  have hget:((((l.take i).map lowB++l.drop i).map B++rest).toArray)[i]? =some (B l[i]):=by
   simp[List.getElem?_append,hil,Nat.min_eq_left (Nat.le_of_lt hil)]
   intro h0;omega
  have ld:RunV p_ W [pt g (.cells (((l.take i).map lowB++l.drop i).map B++rest).toArray 5 (l.length+rest.length,l.length+rest.length+1))] (sLoad 5 (.pointer (some ⟨g,i,none⟩))) (B l[i]):=v_ld hget
  refine o_ (v_ia1 i rfl hil) ?_
  rw[Nat.zero_add]
  refine e_opN ld (.pick .here .nil) ?_
  have step:∀x,x=lowB l[i]->(((l.take i).map lowB++l.drop i).map B++rest).toArray.setIfInBounds i (B x)=(((l.take (i+1)).map lowB++l.drop (i+1)).map B++rest).toArray:=by
   intro x hx
   subst hx
   rw[List.setIfInBounds_toArray]
   congr 1
   rw[dr hil,List.take_succ_eq_append_getElem hil]
   rw[List.map_append,List.map_append,List.map_append,List.map_append]
   have hk:(List.map B (List.map lowB (List.take i l))).length=i:=by simp;omega
   rw[List.append_assoc,List.append_assoc,List.append_assoc,List.set_append,if_neg (by rw[hk];omega),hk,Nat.sub_self]
   rfl
  have h65:((65:Int)<=(l[i].toNat:Int)/\(l[i].toNat:Int)<=90)↔(65<=l[i]/\l[i]<=90):=by
   rw[UInt8.le_iff_toNat_le,UInt8.le_iff_toNat_le]
   simp only[show(65:UInt8).toNat=65 from rfl,show(90:UInt8).toNat=90 from rfl]
   omega
  have no:¬(65<=l[i]/\l[i]<=90)->Ent W (pt g (.cells (((l.take i).map lowB++l.drop i).map B++rest).toArray 5 (l.length+rest.length,l.length+rest.length+1))::F) (opN p_ (sBin .add 3 (.int .i64 (i:Int)) (.int .i64 1)) noP fun x12=>next1 (fun m y w=>sat W ([ex fun i:Nat=>all [pu (m+i=l.length/\y= .int .i64 (i:Int)),pt g (.cells (((l.take i).map lowB++l.drop i).map B++rest).toArray 5 (l.length+rest.length,l.length+rest.length+1))]]++F) w) m x12):=by
   intro hno
   have hlo:lowB l[i]=l[i]:=if_neg hno
   have e2:(((l.take i).map lowB++l.drop i).map B++rest).toArray=(((l.take (i+1)).map lowB++l.drop (i+1)).map B++rest).toArray:=by
    rw[<- step _ hlo.symm]
    refine Array.ext_getElem? fun j=>?_
    rw[Array.getElem?_setIfInBounds]
    by_cases hj:i=j
    ·subst hj
     rw[if_pos rfl,hget,if_pos (by simp;omega)]
    ·rw[if_neg hj]
   rw[e2]
   refine ad_ ?_
   refine e_next1 (m-1) (by omega) (.ex (i+1) (.all ?_))
   refine nr_ ?_
   exact .pu ⟨by omega,rfl⟩ .refl
  refine o_ (v_geq (q:= .u8) (a:=(l[i].toNat:Int)) (b:=65)) ?_
  by_cases h1:(65:Int)<=(l[i].toNat:Int)
  ·rw[dT_ h1]
   refine e_gdT (e_gdT (e_gdT (o_ (v_ia1 i rfl hil) ?_)))
   rw[Nat.zero_add]
   refine e_gdT (e_opN ld (.pick .here .nil) ?_)
   refine e_gdT (o_ (v_leq (q:= .u8) (a:=(l[i].toNat:Int)) (b:=90)) ?_)
   refine o_ v_pickT ?_
   by_cases h2:(l[i].toNat:Int)<=90
   ·rw[dT_ h2]
    refine e_condT ?_
    have hlo:lowB l[i]=l[i]+32:=if_pos (h65.1 ⟨h1,h2⟩)
    have hn:(lowB l[i]).toNat=(l[i]).toNat+32:=by
     rw[hlo,UInt8.toNat_add]
     simp only[show(32:UInt8).toNat=32 from rfl]
     omega
    refine o_ (v_ia1 i rfl hil) ?_
    rw[Nat.zero_add]
    refine e_opN ld (.pick .here .nil) ?_
    refine o_ (v_addw (q:= .u8) (a:=(l[i].toNat:Int)) (b:=32)) ?_
    rw[show IntKind.u8.wrap ((l[i].toNat:Int)+32)=((lowB l[i]).toNat:Int) by
     rw[hn]
     simp[IntKind.wrap,IntKind.signed,IntKind.bits];omega]
    refine o_ (v_ia1 i rfl hil) ?_
    rw[Nat.zero_add]
    refine e_stF (v:=B (lowB l[i])) .here (by simp;omega) (by simp;omega) ?_
    rw[step _ rfl]
    refine ad_ ?_
    refine e_next1 (m-1) (by omega) (.ex (i+1) (.all ?_))
    refine nr_ ?_
    exact .pu ⟨by omega,rfl⟩ .refl
   ·rw[dF_ h2]
    exact e_condF (no (fun c=>h2 (h65.2 c).2))
  ·rw[dF_ h1]
   exact e_gdF2 (e_gdF2 (e_gdF2 (e_gdF2 (e_gdF2 (o_ v_pickF (e_condF (no (fun c=>h1 (h65.2 c).1))))))))
 ·have hie:i=l.length:=by omega
  subst hie
  refine e_condF ?_
  rw[List.take_length,List.drop_length,List.append_nil]
  have hrd:=rd_row (W:=W) (g:=g) (e:=5) (fz:=(l.length+rest.length,l.length+rest.length+1)) (cs:=(lowF l).map B) (rest:=rest)
  have e1:((lowF l).map B).length=l.length:=by simp[lowF]
  rw[e1]at hrd
  refine e_opN (v_str (l:=lowF l) hrd (by intro h;cases h)) (.pick .here .nil) ?_
  refine rt_ () ?_
  exact im_
theorem rletter {W:World}{c:UInt8}:Cn p_ 166 [Sl.B c] W [] (fun _:Unit=> .bool (alnB c)) (fun _=>[]):=by
 have ha:=aln_i c.toNat_lt
 rw[u8_id]at ha
 (refine S.ref01_letter_s.cn fun F=>?_;unfold S.ref01_letter;simp only[ca_,na_])
 refine o_ (v_geq (q:= .u8) (a:=(c.toNat:Int)) (b:=97)) ?_
 refine e_and (fun _=>v_leq (q:= .u8) (a:=(c.toNat:Int)) (b:=122)) ?_
 refine e_orand (fun _=>v_geq (q:= .u8) (a:=(c.toNat:Int)) (b:=65)) (fun _ _=>v_leq (q:= .u8) (a:=(c.toNat:Int)) (b:=90)) ?_
 refine e_orand (fun _=>v_geq (q:= .u8) (a:=(c.toNat:Int)) (b:=48)) (fun _ _=>v_leq (q:= .u8) (a:=(c.toNat:Int)) (b:=57)) ?_
 rw[ha]
 refine rt_ () ?_
 exact im_
theorem rtoken {W:World}{l:List UInt8}(hl:l.length<=4611686018427387904):Cn p_ 138 [txt l] W [] (fun _:Unit=> .bool (tokF l)) (fun _=>[]):=by
 (refine S.ref01_Token_s.cn fun F=>?_;unfold S.ref01_Token;simp only[ca_,na_])
 refine e_loop1 (fun m y=>(ex fun i:Nat=>pu (m+i=l.length/\y= .int .i64 (i:Int)/\l.all tokB=(l.drop i).all tokB))::F) l.length ?_ ?_
 ·refine .ex 0 (.pu ⟨by omega,rfl,rfl⟩ ?_)
  exact im_
 intro m ds y
 refine nr_ ?_
 refine e_ex Pick.here fun i=>e_pu Pick.here fun hi=>?_
 obtain⟨hmi,rfl,hall⟩:=hi
 refine o_ v_lent (e_ask v_lss .nil (fun h=>?_) (fun h=>?_))
 ·have hil:i<l.length:=by omega
  have hnb:nb l=true:=by cases l with
   |nil=>simp at hil
   |cons _ _=>rfl
  refine e_condT (o_ (v_ixS i rfl hil) ?_)
  rw[dr hil,List.all_cons]at hall
  refine e_cut1 (fun z=>pu (z= .bool (tokC.contains l[i]))::F) ?_ ?_
  ·intro ds2 z
   refine e_pu .here fun hz=>?_
   subst hz
   have htk:tokB l[i]=(alnB l[i]||tokC.contains l[i]):=rfl
   have go:tokB l[i]=true->Ent W F (opN p_ (sBin .add 3 (.int .i64 (i:Int)) (.int .i64 1)) noP fun x9=>next1 (fun m y w=>sat W ((ex fun i:Nat=>pu (m+i=l.length/\y= .int .i64 (i:Int)/\l.all tokB=(l.drop i).all tokB))::F) w) m x9):=by
    intro ht
    rw[ht,Bool.true_and]at hall
    refine ad_ ?_
    refine e_next1 (m-1) (by omega) (.ex (i+1) (.pu ⟨by omega,rfl,hall⟩ ?_))
    exact im_
   cases hc:tokC.contains l[i]with
   |true=>
    exact e_condT (go (by rw[htk,hc,Bool.or_true]))
   |false=>
    rw[hc,Bool.or_false]at htk
    refine e_condF (o_ (v_ixS i rfl hil) ?_)
    refine e_call rletter .nil fun _=>?_
    refine nr_ ?_
    refine o_ v_not ?_
    cases ha:alnB l[i]with
    |true=>
     exact e_condF (go (by rw[htk,ha]))
    |false=>
     refine e_condT ?_
     have:tokF l=false:=by
      unfold tokF
      rw[hall,htk,ha];simp
     rw[this]
     refine rt_ () ?_
     exact im_
  ·skip
   refine o_ (B_eq 33 rfl) ?_
   refine e_cond (φ:=l[i]=33) rfl (fun h=>e_sat (.pu (by rw[h];rfl) .refl)) (fun h33=>?_)
   refine o_ (B_eq 35 rfl) ?_
   refine e_cond (φ:=l[i]=35) rfl (fun h=>e_sat (.pu (by rw[h];rfl) .refl)) (fun h35=>?_)
   refine o_ (B_eq 36 rfl) ?_
   refine e_cond (φ:=l[i]=36) rfl (fun h=>e_sat (.pu (by rw[h];rfl) .refl)) (fun h36=>?_)
   refine o_ (B_eq 37 rfl) ?_
   refine e_cond (φ:=l[i]=37) rfl (fun h=>e_sat (.pu (by rw[h];rfl) .refl)) (fun h37=>?_)
   refine o_ (B_eq 38 rfl) ?_
   refine e_cond (φ:=l[i]=38) rfl (fun h=>e_sat (.pu (by rw[h];rfl) .refl)) (fun h38=>?_)
   refine o_ (B_eq 39 rfl) ?_
   refine e_cond (φ:=l[i]=39) rfl (fun h=>e_sat (.pu (by rw[h];rfl) .refl)) (fun h39=>?_)
   refine o_ (B_eq 42 rfl) ?_
   refine e_cond (φ:=l[i]=42) rfl (fun h=>e_sat (.pu (by rw[h];rfl) .refl)) (fun h42=>?_)
   refine o_ (B_eq 43 rfl) ?_
   refine e_cond (φ:=l[i]=43) rfl (fun h=>e_sat (.pu (by rw[h];rfl) .refl)) (fun h43=>?_)
   refine o_ (B_eq 45 rfl) ?_
   refine e_cond (φ:=l[i]=45) rfl (fun h=>e_sat (.pu (by rw[h];rfl) .refl)) (fun h45=>?_)
   refine o_ (B_eq 46 rfl) ?_
   refine e_cond (φ:=l[i]=46) rfl (fun h=>e_sat (.pu (by rw[h];rfl) .refl)) (fun h46=>?_)
   refine o_ (B_eq 94 rfl) ?_
   refine e_cond (φ:=l[i]=94) rfl (fun h=>e_sat (.pu (by rw[h];rfl) .refl)) (fun h94=>?_)
   refine o_ (B_eq 95 rfl) ?_
   refine e_cond (φ:=l[i]=95) rfl (fun h=>e_sat (.pu (by rw[h];rfl) .refl)) (fun h95=>?_)
   refine o_ (B_eq 96 rfl) ?_
   refine e_cond (φ:=l[i]=96) rfl (fun h=>e_sat (.pu (by rw[h];rfl) .refl)) (fun h96=>?_)
   refine o_ (B_eq 124 rfl) ?_
   refine e_cond (φ:=l[i]=124) rfl (fun h=>e_sat (.pu (by rw[h];rfl) .refl)) (fun h124=>?_)
   refine o_ (B_eq 126 rfl) ?_
   refine e_sat (.pu ?_ .refl)
   rw[show tokC.contains l[i]=decide (l[i]=126) by simp[tokC,h33,h35,h36,h37,h38,h39,h42,h43,h45,h46,h94,h95,h96,h124]]
 ·rw[List.drop_of_length_le (by omega),List.all_nil]at hall
  refine e_condF (o_ v_lent (o_ v_gtr ?_))
  have:tokF l=decide ((0:Int)<(l.length:Int)):=by
   unfold tokF
   rw[hall,Bool.and_true]
   cases l <;> simp[nb]
  rw[this]
  refine rt_ () ?_
  exact im_
def worF (c:UInt8):Int:=if digB c then(c.toNat:Int)-48 else-1
theorem rworth {W:World}{c:UInt8}:Cn p_ 122 [Sl.B c,.int .i64 10] W [] (fun _:Unit=> .int .i64 (worF c)) (fun _=>[]):=by
 have hlt:=c.toNat_lt
 have hd:digB c=true↔(48<=c.toNat/\c.toNat<=57):=by
  unfold digB
  rw[decide_eq_true_iff,UInt8.le_iff_toNat_le,UInt8.le_iff_toNat_le]
  exact Iff.rfl
 (refine S.ref01_worth_s.cn fun F=>?_;unfold S.ref01_worth;simp only[ca_,na_])
 have eB:B c= .int .u8 (c.toNat:Int):=rfl
 rw[eB]
 refine e_cut1 (fun z=>(ex fun n:Int=>pu (z= .int .i64 n/\worF c=if 10<=n then-1 else n))::F) ?_ ?_
 ·intro ds z
  refine e_ex .here fun n=>e_pu .here fun hz=>?_
  obtain⟨rfl,hz⟩:=hz
  refine e_ask v_geq .nil (fun h=>?_) (fun h=>?_)
  ·refine e_condT ?_
   rw[hz,if_pos h]
   refine rt_ () ?_
   exact im_
  ·refine e_condF ?_
   rw[hz,if_neg h]
   refine rt_ () ?_
   exact im_
 ·have wrap:∀n:Int,0<=n->n<256->IntKind.u8.wrap n=n:=fun n h1 h2=>by simp[IntKind.wrap,IntKind.signed,IntKind.bits];omega
  have wrap2:∀n:Int,0<=n->n<256->IntKind.i64.wrap n=n:=fun n h1 h2=>by simp[IntKind.wrap,IntKind.signed,IntKind.bits];omega
  refine o_ v_geq (e_and (fun _=>v_leq) ?_)
  refine e_cond (φ:=(48:Int)<=(c.toNat:Int)/\(c.toNat:Int)<=57) (by rw[<- Bool.decide_and]) (fun h=>?_) (fun h=>?_)
  ·refine o_ v_subw ?_
   refine o_ v_conv ?_
   rw[wrap _ (by omega) (by omega),wrap2 _ (by omega) (by omega)]
   refine e_sat (.ex _ (.pu ⟨rfl,?_⟩ .refl))
   unfold worF
   rw[if_pos (hd.2 (by omega)),if_neg (by omega)]
  ·have hw:worF c= -1:=by unfold worF;rw[if_neg (fun x=>h (by have:=hd.1 x;omega))]
   rw[hw]
   refine o_ v_geq (e_and (fun _=>v_leq) ?_)
   refine e_cond (φ:=(97:Int)<=(c.toNat:Int)/\(c.toNat:Int)<=102) (by rw[<- Bool.decide_and]) (fun h=>?_) (fun h=>?_)
   ·refine o_ v_subw ?_
    refine o_ v_conv ?_
    rw[wrap _ (by omega) (by omega),wrap2 _ (by omega) (by omega)]
    refine ad_ ?_
    refine e_sat (.ex _ (.pu ⟨rfl,?_⟩ .refl))
    rw[if_pos (by omega)]
   ·refine o_ v_geq (e_and (fun _=>v_leq) ?_)
    refine e_cond (φ:=(65:Int)<=(c.toNat:Int)/\(c.toNat:Int)<=70) (by rw[<- Bool.decide_and]) (fun h=>?_) (fun h=>?_)
    ·refine o_ v_subw ?_
     refine o_ v_conv ?_
     rw[wrap _ (by omega) (by omega),wrap2 _ (by omega) (by omega)]
     refine ad_ ?_
     refine e_sat (.ex _ (.pu ⟨rfl,?_⟩ .refl))
     rw[if_pos (by omega)]
    ·refine e_sat (.ex _ (.pu ⟨rfl,?_⟩ .refl))
     rw[if_neg (by omega)]
theorem rnumber {W:World}{l:List UInt8}(hl:l.length<=4611686018427387904):Cn p_ 96 [txt l,.int .i64 10,.int .i64 1000000000000000000] W [] (fun _:Unit=> .tuple #[.int .i64 (decF l).1,.int .i64 (decF l).2]) (fun _=>[]):=by
 (refine S.ref01_number_s.cn fun F=>?_;unfold S.ref01_number;simp only[ca_,na_])
 refine o_ v_lent (e_ask v_eql .nil (fun h=>?_) (fun h=>?_))
 ·have h0:l=[]:=List.eq_nil_of_length_eq_zero (by omega)
  subst h0
  refine e_condT (rt_ () ?_)
  exact im_
 have hnb:nb l=true:=by cases l with
  |nil=>exact absurd rfl h
  |cons _ _=>rfl
 refine e_condF (e_loop1 (fun m y=>(ex fun i:Nat=>pu (m+i=l.length/\y= .int .i64 (i:Int)/\l.all digB=(l.drop i).all digB))::F) l.length ?_ ?_)
 ·refine .ex 0 (.pu ⟨by omega,rfl,rfl⟩ ?_)
  exact im_
 intro m ds y
 refine nr_ ?_
 refine e_ex Pick.here fun i=>e_pu Pick.here fun hi=>?_
 obtain⟨hmi,rfl,hall⟩:=hi
 refine o_ v_lent (e_ask v_lss .nil (fun h=>?_) (fun h=>?_))
 ·have hil:i<l.length:=by omega
  refine e_condT (o_ (v_ixS i rfl hil) ?_)
  refine e_call rworth .nil fun _=>?_
  refine nr_ ?_
  rw[dr hil,List.all_cons]at hall
  refine e_ask v_lss .nil (fun h1=>?_) (fun h1=>?_)
  ·refine e_condT ?_
   have hf:digB l[i]=false:=by
    cases hx:digB l[i]with
    |false=>rfl
    |true=>have:=dg_b hx;unfold worF at h1;rw[if_pos hx]at h1;omega
   have:decF l=(0,21):=by
    unfold decF
    rw[hall,hf,Bool.false_and,Bool.and_false];rfl
   rw[this]
   refine rt_ () ?_
   exact im_
  ·refine e_condF ?_
   have hf:digB l[i]=true:=by
    cases hx:digB l[i]with
    |true=>rfl
    |false=>unfold worF at h1;rw[hx]at h1;simp at h1
   rw[hf,Bool.true_and]at hall
   refine ad_ ?_
   refine e_next1 (m-1) (by omega) (.ex (i+1) (.pu ⟨by omega,rfl,hall⟩ ?_))
   exact im_
 ·rw[List.drop_of_length_le (by omega),List.all_nil]at hall
  refine e_condF (e_loop2 (fun m x y=>(ex fun i:Nat=>pu (m+i=l.length/\x= .int .i64 (valF (l.take i):Int)/\y= .int .i64 (i:Int)/\valF (l.take i)<=1000000000000000000))::F) l.length ?_ ?_)
  ·refine .ex 0 (.pu ⟨by omega,rfl,rfl,by simp[valF]⟩ ?_)
   exact im_
  intro m2 ds2 x2 y2
  refine nr_ ?_
  refine e_ex Pick.here fun j=>e_pu Pick.here fun hi=>?_
  obtain⟨hmj,rfl,rfl,hv⟩:=hi
  refine o_ v_lent (e_ask v_lss .nil (fun h=>?_) (fun h=>?_))
  ·have hjl:j<l.length:=by omega
   have hx:=List.all_eq_true.1 hall _ (List.getElem_mem hjl)
   have hd:=dg_b hx
   have hvt:=valF_take hjl
   have hvl:=valF_le (l:=l) (j+1)
   refine e_condT (o_ (v_ixS j rfl hjl) ?_)
   refine e_call rworth .nil fun _=>?_
   refine nr_ ?_
   rw[show worF l[j]=(l[j].toNat:Int)-48 by unfold worF;rw[if_pos hx]]
   refine sb_ ?_
   refine o_ (v_quo (by omega) (by omega) (by omega)) ?_
   refine e_ask v_gtr .nil (fun h1=>?_) (fun h1=>?_)
   ·refine e_condT ?_
    have:decF l=(0,11):=by
     unfold decF
     rw[hnb,hall,if_pos (by rfl),if_neg (by omega)]
    rw[this]
    refine rt_ () ?_
    exact im_
   ·refine e_condF (o_ (v_mul (by omega) (by omega)) ?_)
    refine ad_ ?_
    refine ad_ ?_
    rw[show(valF (l.take j):Int) * 10+((l[j].toNat:Int)-48)=(valF (l.take (j+1)):Int) by omega]
    refine e_next2 (m2-1) (by omega) (.ex (j+1) (.pu ⟨by omega,rfl,rfl,by omega⟩ ?_))
    exact im_
  ·have hje:j=l.length:=by omega
   subst hje
   rw[List.take_length]at hv ⊢
   refine e_condF ?_
   have:decF l=((valF l:Int),0):=by
    unfold decF
    rw[hnb,hall,if_pos (by rfl),if_pos hv]
   rw[this]
   refine rt_ () ?_
   exact im_
theorem rdecimal {W:World}{l:List UInt8}(hl:l.length<=4611686018427387904):Cn p_ 61 [txt l] W [] (fun _:Unit=> .tuple #[.int .i64 (decF l).1,.int .i64 (decF l).2]) (fun _=>[]):=by
 (refine S.ref01_Decimal_s.cn fun F=>?_;unfold S.ref01_Decimal;simp only[ca_,na_])
 refine c_ (rnumber hl) fun _=>?_
 refine o_ (v_extN (vs:=[_,_]) .here) ?_
 refine o_ (v_extN (vs:=[_,_]) (.there .here)) ?_
 refine rt_ () ?_
 exact im_
abbrev Fd:=List UInt8 × List UInt8
def vFd (x:Fd):Value:= .agg #[txt x.1,txt x.2]
def pFd (x:Fd):List Value:=[txt x.1,txt x.2]
theorem pFd_len (x:Fd):(pFd x).length=2:=rfl
theorem fd_at {xs:List Fd}{i:Nat}(h:i<xs.length):(xs.flatMap pFd)[i * 2+0]? =some (txt xs[i].1)/\(xs.flatMap pFd)[i * 2+1]? =some (txt xs[i].2):=
 ⟨flat_get (f:=pFd) (s:=2) pFd_len xs i 0 h (by omega),flat_get (f:=pFd) (s:=2) pFd_len xs i 1 h (by omega)⟩
def RdF (W:World)(A:HP)(a:Option Addr)(l:List Fd):Prop:=RdB W A a (l.length * 2) (l.flatMap pFd)
theorem rdF_at {W:World}{A:HP}{a:Option Addr}{l:List Fd}(h:RdF W A a l)(hl:0<l.length):∃g o,a=some ⟨g,o,none⟩:=by
 obtain⟨g,o,e,_⟩:=h.at_ (by omega)
 exact⟨g,o,e⟩
theorem ld_fdA {W:World}{A:HP}{l:List Fd}{i g o:Nat}(hA:RdF W A (some ⟨g,o,none⟩) l)(h:i<l.length):RunV p_ W [A] (sLoad 68 (.pointer (some ⟨g,o+i * 2,none⟩))) (vFd l[i]):=
 v_ldRdG (vs:=pFd l[i]) hA rfl (fun j hj=>flat_get (f:=pFd) (s:=2) (fun _=>rfl) l i j h hj)
def hOK (l:List Fd):Prop:=l.length<=4194304/\∀f∈l,f.1.length<=4194304/\f.2.length<=4194304
def valsF (l:List Fd)(n:List UInt8):List (List UInt8):=(l.filter fun f=>eqlF f.1 n).map (·.2)
def firstF (l:List Fd)(n:List UInt8):List UInt8 × Bool:=match valsF l n with
 |[]=>([],false)
 |v::_=>(v,true)
theorem vals_take {l:List Fd}{n:List UInt8}{i:Nat}(h:i<l.length):valsF (l.take (i+1)) n=valsF (l.take i) n++(if eqlF l[i].1 n then [l[i].2]else []):=by
 unfold valsF
 rw[List.take_succ_eq_append_getElem h,List.filter_append,List.map_append]
 congr 1
 cases he:eqlF l[i].1 n <;> simp[he]
theorem vals_len (l:List Fd)(n:List UInt8):(valsF l n).length<=l.length:=by
 unfold valsF
 rw[List.length_map]
 exact List.length_filter_le _ _
theorem vals_mem {l:List Fd}{n v:List UInt8}(h:v∈valsF l n):∃f∈l,v=f.2:=by
 unfold valsF at h
 obtain⟨f,hf,rfl⟩:=List.mem_map.1 h
 exact⟨f,(List.mem_filter.1 hf).1,rfl⟩
theorem values {W:World}{l:List Fd}{n:List UInt8}{a:Option Addr}{c:Nat}{A:HP}(hA:RdF W A a l)(hl:hOK l)(hn:n.length<=4194304):Cn p_ 77 [.slice a l.length c,txt n] W [A] (fun r:Option Addr × Nat=> .slice r.1 (valsF l n).length r.2)
  (fun r=>[A,Sl 1 9 r.1 r.2 (valsF l n).length ((valsF l n).map txt)]):=by
 (refine S.head_Values_s.cn fun F=>?_;unfold S.head_Values;simp only[ca_,na_])
 refine o_ v_len (e_loop2 (fun m x y=>[ex fun st:(Option Addr × Nat) × Nat=>all [pu (m+st.2=l.length/\x= .slice st.1.1 (valsF (l.take st.2) n).length st.1.2/\y= .int .i64 (st.2:Int)),Sl 1 9 st.1.1 st.1.2 (valsF (l.take st.2) n).length ((valsF (l.take st.2) n).map txt),A]]++F) l.length ?_ ?_)
 ·refine Imp.ex ((none,0),0) (.all ?_)
  refine nr_ ?_
  refine .pu ⟨rfl,rfl,rfl⟩ ?_
  exact imp_nil .refl
 intro m ds x y
 refine nr_ ?_
 refine e_ex Pick.here fun st=>e_all Pick.here ?_
 obtain⟨⟨sa,sc⟩,i⟩:=st
 refine nr_ ?_
 refine e_pu Pick.here fun hi=>?_
 (try dsimp only at hi)
 obtain⟨hmi,rfl,rfl⟩:=hi
 refine e_ask v_lss .nil (fun h=>?_) (fun h=>?_)
 ·have hil:i<l.length:=by omega
  have hb:=hl.2 _ (List.getElem_mem hil)
  have hv:=vals_take (n:=n) hil
  have hvl:=vals_len (l.take i) n
  have hl1:=hl.1
  rw[List.length_take]at hvl
  refine e_condT ?_
  obtain⟨g,o,rfl⟩:=rdF_at hA (Nat.zero_lt_of_lt hil)
  refine o_ (v_ia i rfl hil) ?_
  refine p_op (ld_fdA hA hil) ?_
  generalize l[i]=x at hb hv ⊢
  unfold vFd
  refine e_newA fun b7=>?_
  refine e_stAgg .here (by rfl) (by rfl) (by intro u hu;simp at hu;rcases hu with rfl|rfl <;> rfl) ?_
  refine o_ v_fa0 (ln_ ?_)
  refine e_call (equal (a:=x.1) (b:=n) (by omega) (by omega)) .nil fun _=>?_
  refine nr_ ?_
  cases he:eqlF x.1 n with
  |true=>
   rw[he,if_pos rfl]at hv
   refine e_condT (o_ v_fa0 (ln_ ?_));refine e_bsl1 fun g=>?_
   refine e_app (m:=1) (news:=[txt x.2]) (by repeat constructor) (src_pt (e':=9) (by kernel_rfl) .here (by rfl) (by intro u hu;rw[List.mem_singleton.1 hu];rfl)) (by omega) (by omega) fun a' c'=>?_
   refine ad_ ?_
   refine e_next2 (m-1) (by omega) (.ex ((a',c'),i+1) (.all ?_))
   refine nr_ ?_
   (try dsimp only)
   rw[hv,List.length_append,List.map_append]
   refine .pu ⟨by omega,rfl,rfl⟩ ?_
   refine .pick .here ?_
   exact im_
  |false=>
   rw[he,if_neg (by decide),List.append_nil]at hv
   refine e_condF (ad_ ?_)
   refine e_next2 (m-1) (by omega) (.ex ((sa,sc),i+1) (.all ?_))
   refine nr_ ?_
   (try dsimp only)
   rw[hv]
   refine .pu ⟨by omega,rfl,rfl⟩ ?_
   exact im_
 ·have:i=l.length:=by omega
  subst this
  rw[List.take_length]
  refine e_condF (rt_ ((sa,sc)) ?_)
  exact im_
theorem requal {W:World}{a b:List UInt8}(ha:a.length<=4611686018427387904)(hb:b.length<=4611686018427387904):Cn p_ 56 [txt a,txt b] W [] (fun _:Unit=> .bool (eqlF a b)) (fun _=>[]):=by
 (refine S.ref01_Equal_s.cn fun F=>?_;unfold S.ref01_Equal;simp only[ca_,na_])
 refine e_call (rlower (l:=a) ha) .nil fun _=>?_
 refine nr_ ?_
 refine e_call (rlower (l:=b) hb) .nil fun _=>?_
 refine nr_ ?_
 refine o_ v_streq ?_
 have e:decide (lowF a=lowF b)=eqlF a b:=by
  unfold eqlF
  by_cases h:lowF a=lowF b
  ·have hl:a.length=b.length:=by have:=congrArg List.length h;simpa [lowF]using this
   simp[h,hl]
  ·simp[h]
 rw[e]
 refine rt_ () ?_
 exact im_
theorem rvalues {W:World}{l:List Fd}{n:List UInt8}{a:Option Addr}{c:Nat}{A:HP}(hA:RdF W A a l)(hl:hOK l)(hn:n.length<=4194304):Cn p_ 55 [.slice a l.length c,txt n] W [A] (fun r:Option Addr × Nat=> .slice r.1 (valsF l n).length r.2)
  (fun r=>[A,Sl 1 9 r.1 r.2 (valsF l n).length ((valsF l n).map txt)]):=by
 (refine S.ref11_Values_s.cn fun F=>?_;unfold S.ref11_Values;simp only[ca_,na_])
 refine e_loop2 (fun m x y=>[ex fun st:(Option Addr × Nat) × Nat=>all [pu (m+st.2=l.length/\x= .slice st.1.1 (valsF (l.take st.2) n).length st.1.2/\y= .int .i64 (st.2:Int)),Sl 1 9 st.1.1 st.1.2 (valsF (l.take st.2) n).length ((valsF (l.take st.2) n).map txt),A]]++F) l.length ?_ ?_
 ·refine Imp.ex ((none,0),0) (.all ?_)
  refine nr_ ?_
  refine .pu ⟨rfl,rfl,rfl⟩ ?_
  exact imp_nil .refl
 intro m ds x y
 refine nr_ ?_
 refine e_ex Pick.here fun st=>e_all Pick.here ?_
 obtain⟨⟨sa,sc⟩,i⟩:=st
 refine nr_ ?_
 refine e_pu Pick.here fun hi=>?_
 (try dsimp only at hi)
 obtain⟨hmi,rfl,rfl⟩:=hi
 refine o_ v_len (e_ask v_lss .nil (fun h=>?_) (fun h=>?_))
 ·have hil:i<l.length:=by omega
  have hb:=hl.2 _ (List.getElem_mem hil)
  have hat:=fd_at hil
  have hv:=vals_take (n:=n) hil
  have hvl:=vals_len (l.take i) n
  have hl1:=hl.1
  rw[List.length_take]at hvl
  refine e_condT ?_
  obtain⟨g,o,rfl⟩:=rdF_at hA (Nat.zero_lt_of_lt hil)
  generalize l[i]=x at hb hv hat ⊢
  have l0:RunV p_ W [A] (sLoad 9 (.pointer (some ⟨g,o+i * 2+0,none⟩))) (txt x.1):=v_ldRd2 hA hat.1
  have l1:RunV p_ W [A] (sLoad 9 (.pointer (some ⟨g,o+i * 2+1,none⟩))) (txt x.2):=v_ldRd2 hA hat.2
  refine o_ (v_ia i rfl hil) ?_
  refine o_ v_fa (p_op l0 ?_)
  refine e_call (requal (a:=x.1) (b:=n) (by omega) (by omega)) .nil fun _=>?_
  refine nr_ ?_
  cases he:eqlF x.1 n with
  |true=>
   rw[he,if_pos rfl]at hv
   refine e_condT (o_ (v_ia i rfl hil) ?_)
   refine o_ v_fa (p_op l1 ?_)
   refine e_bsl1 fun gb=>?_
   refine e_app (m:=1) (news:=[txt x.2]) (by repeat constructor) (src_pt (e':=9) (by kernel_rfl) .here (by rfl) (by intro u hu;rw[List.mem_singleton.1 hu];rfl)) (by omega) (by omega) fun a' c'=>?_
   refine ad_ ?_
   refine e_next2 (m-1) (by omega) (.ex ((a',c'),i+1) (.all ?_))
   refine nr_ ?_
   (try dsimp only)
   rw[hv,List.length_append,List.map_append]
   refine .pu ⟨by omega,rfl,rfl⟩ ?_
   refine .pick .here ?_
   exact im_
  |false=>
   rw[he,if_neg (by decide),List.append_nil]at hv
   refine e_condF (ad_ ?_)
   refine e_next2 (m-1) (by omega) (.ex ((sa,sc),i+1) (.all ?_))
   refine nr_ ?_
   (try dsimp only)
   rw[hv]
   refine .pu ⟨by omega,rfl,rfl⟩ ?_
   exact im_
 ·have:i=l.length:=by omega
  subst this
  rw[List.take_length]
  refine e_condF (rt_ ((sa,sc)) ?_)
  exact im_
theorem first {W:World}{l:List Fd}{n:List UInt8}{a:Option Addr}{c:Nat}{A:HP}(hA:RdF W A a l)(hl:hOK l)(hn:n.length<=4194304):Cn p_ 65 [.slice a l.length c,txt n] W [A] (fun _:Unit=> .tuple #[txt (firstF l n).1,.bool (firstF l n).2])
  (fun r=>[A]):=by
 (refine S.head_First_s.cn fun F=>?_;unfold S.head_First;simp only[ca_,na_])
 refine e_call (values hA hl hn) (.cons .here .nil) fun r=>?_
 obtain⟨sa,sc⟩:=r
 refine nr_ ?_
 unfold firstF
 generalize valsF l n=V
 refine o_ v_len (e_loop1 (fun m y=>pu (y= .int .i64 0)::A::Sl 1 9 sa sc V.length (V.map txt)::F) 0 ?_ ?_)
 ·exact .pu rfl .refl
 intro m ds y
 refine e_pu .here fun hy=>?_
 subst hy
 cases V with
 |nil=>
  refine o_ (v_lss (a:=0) (b:=0)) ?_
  refine e_condF (rt_ () ?_)
  exact im_
 |cons v r=>
  refine o_ v_lss ?_
  rw[dT_ (by simp)]
  refine e_condT (e_slsome (a:=sa) (.there .here) (by simp) fun g hg=>?_)
  subst hg
  have ld:RunV p_ W [Sl 1 9 (some ⟨g,0,none⟩) sc (v::r).length ((v::r).map txt)] (sLoad 9 (.pointer (some ⟨g,0+0,none⟩))) (txt v):=v_ldSl rfl
  refine o_ (v_ia1 0 rfl (by simp)) ?_
  refine p_op ld ?_
  refine rt_ () ?_
  exact im_
section
variable {P:Program} {W:World} {L L':List HP} {Kp:PK} {k:Value->WP}
theorem e_own0 {s:Nat}{e:TypeId}{g:Nat}{cs:List Value}{n:Nat}{S:WP}(p:Pick L (pt g (.cells cs.toArray e (0,0))) L')(hn:cs.length=n * s)(hm:n<=maxLen)(h:Ent W (Sl s e (some ⟨g,0,none⟩) n 0 []::L') S):Ent W L S:=
 e_conv p (fun h hh=>⟨by simp,Nat.zero_le _,hm,.inr ⟨g,cs,rfl,by simpa using hn,hh⟩⟩) h
theorem v_copy0 {dT sT ty e:TypeId}{b:Nat}{d a:Option Addr}{dLen dCap sLen sCap:Nat}[ht:SlT P dT e 1 b](hn:Nat.min sLen dLen=0):RunV P W [] (sCopy #[dT,sT] ty [.slice d dLen dCap,.slice a sLen sCap]) (.int .i64 0):=fun w _=>by
 obtain⟨i,z,hi,hz,hsz,hb,hzs⟩:=ht.info
 have hr:=run_copy_none (P:=P) w dT sT ty e d a dLen dCap sLen sCap ht.ut (by rw[hi];simp[hsz]) hn
 simp[sCopy,hr,goInt]
theorem src_str {tx:TypeId}{l:List UInt8}(hk:P.underlying tx=some .string):∀w,sat W L w->Src P 1 tx (txt l) l.length (l.map B) w:=fun w _=>Src.ofString w hk ⟨l.toArray⟩
end
theorem e_mnz {W:World}{L:List HP}{Kp:PK}{k:Value->WP}{n:Nat}(hn:n<=281474976710656)(h:∀g (cs:List Value),n<=cs.length->cs.length<=maxLen->Ent W (pt g (.cells cs.toArray 5 (0,0))::L) (k (.slice (some ⟨g,0,none⟩) n cs.length))):
  Ent W L (opN p_ (sCall (fn 161) [.int .i64 (n:Int)]) Kp k):=fun w hw=>by
 obtain⟨cs,hrun,hle,hmx⟩:=Lib.run_makeNoZero (P:=p_) w #[3] 32 5 Tryz.underlying32 n hn
 have hr:(callFunc 161 #[.int .i64 (n:Int)]).run p_ w= .ok (.value (.slice (some ⟨w.heap.size,0,none⟩) n cs.size)) (w.drew.drew.alloc (.cells cs 5)):=by
  rw[run_callFunc_extern Tryz.func161 (by kernel_rfl) (by kernel_rfl) (by kernel_rfl) (e:=Extern.BytealgMakeNoZero.makeNoZero #[3] #[32]) (by kernel_rfl),hrun]
  rfl
 refine⟨?_⟩
 rw[show(sCall (fn 161) [.int .i64 (n:Int)]).run p_ w= .ok (.value (.slice (some ⟨w.heap.size,0,none⟩) n cs.size)) (w.drew.drew.alloc (.cells cs 5)) by simp[sCall,Deferred.ofValue,invoke,fn,hr]]
 have:=h w.heap.size cs.toList (by simpa using hle) (by simpa using hmx (by unfold maxLen;omega))
 simp only[Array.toArray_toList,Array.length_toList]at this
 exact this _ ((hw.drew.drew).alloc (.cells cs 5))
theorem grow0 {W:World}{b n:Nat}{p:Value}(hn:n<=4194304):Cn p_ 136 [.pointer (some ⟨b,0,none⟩),.int .i64 (n:Int)] W [pt b (.cells #[p,.slice none 0 0] 162 (0,0))] (fun _:Nat × Nat=> .tuple #[])
  (fun r=>[pt b (.cells #[p,.slice (some ⟨r.1,0,none⟩) 0 r.2] 162 (0,0)),Sl 1 5 (some ⟨r.1,0,none⟩) r.2 0 []]):=by
 (refine S.strings_Builder_grow_s.cn fun F=>?_;unfold S.strings_Builder_grow;simp only[ca_,na_])
 refine e_drS (t_ v_nil (t_ v_fa0 (e_stS (v_ldN (.there .here)) (.pick .here .nil) ?_)))
 refine t_ v_capG ?_
 refine t_ (v_mul (by decide) (by decide)) ?_
 refine t_ (v_add (by omega) (by omega)) ?_
 refine e_stD v_nil .nil ?_
 refine e_stD v_fa0 .nil ?_
 refine e_stD (v_ldN (.there .here)) (.pick .here .nil) ?_
 refine e_stD v_len .nil ?_
 rw[show(2 * ((0:Nat):Int)+(n:Int))=((n:Nat):Int) by omega]
 refine e_mnz (by omega) fun g cs h1 h2=>?_
 refine e_obl im_ ?_
 refine e_obl im_ ?_
 refine e_obl im_ ?_
 refine e_obl im_ ?_
 refine t_ (v_slh0 0 rfl (Nat.zero_le _)) ?_
 refine o_ v_nil (o_ v_fa0 (p_op (v_ldN (.there .here)) ?_))
 refine o_ (v_copy0 rfl) ?_
 refine o_ v_nil (o_ v_fa0 (e_stN (.there .here) (.there .here) ?_))
 refine e_own0 (s:=1) (n:=cs.length) (.there .here) (by omega) h2 ?_
 refine rt_ ((g,cs.length)) ?_
 refine .pick (by repeat constructor) ?_
 exact im_
theorem grow1 {W:World}{b n:Nat}(hn:0<n)(hm:n<=4194304):Cn p_ 110 [.pointer (some ⟨b,0,none⟩),.int .i64 (n:Int)] W [pt b (.cells #[.pointer none,.slice none 0 0] 162 (0,0))] (fun _:Nat × Nat=> .tuple #[])
  (fun r=>[bd b (some ⟨r.1,0,none⟩,r.2) []]):=by
 (refine S.strings_Builder_Grow_s.cn fun F=>?_;unfold S.strings_Builder_Grow;simp only[ca_,na_])
 refine e_call check0 (.cons .here .nil) fun _=>?_
 refine nr_ ?_
 refine e_cut0d ?_
 refine o_ v_lss ?_
 rw[dF_ (by omega)]
 refine e_condF (e_allds fun ds=>?_)
 refine e_drS (t_ v_nil (t_ v_fa0 (e_stS (v_ldN (.there .here)) (.pick .here .nil) ?_)))
 refine t_ v_capG ?_
 refine t_ v_nil (t_ v_fa0 (e_stS (v_ldN (.there .here)) (.pick .here .nil) ?_))
 refine t_ v_len (t_ (v_sub (by decide) (by decide)) ?_)
 refine t_ v_lss ?_
 rw[dT_ (by omega)]
 refine e_condT (e_call (grow0 hm) (.cons .here .nil) fun r=>?_)
 refine nr_ ?_
 refine e_retT r ?_
 unfold bd
 refine .all ?_
 refine nr_ ?_
 exact .refl
theorem writeStr {W:World}{b:Nat}{r:Option Addr × Nat}{l m:List UInt8}(hl:l.length+m.length<=16777216):Cn p_ 111 [.pointer (some ⟨b,0,none⟩),txt m] W [bd b r l] (fun _:Option Addr × Nat=> .tuple #[.int .i64 (m.length:Int),.nilIface]) (fun r'=>[bd b r' (l++m)]):=by
 (refine S.strings_Builder_WriteString_s.cn fun F=>?_;unfold S.strings_Builder_WriteString;simp only[ca_,na_])
 unfold bd
 refine e_all .here ?_
 refine nr_ ?_
 refine e_call check1 (.cons .here .nil) fun _=>?_
 refine nr_ ?_
 refine o_ v_nil (o_ v_fa0 (e_opN (v_ldN (.there .here)) (.pick .here .nil) ?_))
 refine e_app (m:=m.length) (news:=m.map B) (by repeat constructor) (src_str (by kernel_rfl)) (by omega) (by omega) fun a' c'=>?_
 refine o_ v_nil (o_ v_fa0 (e_stN (.there .here) (.there .here) ?_))
 refine o_ v_lent (rt_ ((a',c')) ?_)
 refine .all ?_
 refine nr_ ?_
 rw[List.length_append,List.map_append]
 refine .pick (by repeat constructor) ?_
 exact im_
end Go.Proofs.YthomhkpedghhgaaGreatDoor.FD
namespace Go.Proofs.YthomhkpedghhgaaGreatDoor.FD
open Go Go.Proofs Go.RowKit Sh Sl T
def joinF (sep:List UInt8):List (List UInt8)->List UInt8
 |[]=>[]
 |v::r=>v++r.flatMap (fun w=>sep++w)
def sumL:List (List UInt8)->Nat
 |[]=>0
 |v::r=>v.length+sumL r
theorem sum_app (a b:List (List UInt8)):sumL (a++b)=sumL a+sumL b:=by
 induction a with
 |nil=>simp[sumL]
 |cons v r ih=>simp[sumL,ih];omega
theorem flat_sum (sep:List UInt8)(r:List (List UInt8)):(r.flatMap (fun w=>sep++w)).length=sumL r+sep.length * r.length:=by
 induction r with
 |nil=>simp[sumL]
 |cons v r ih=>
  rw[List.flatMap_cons,List.length_append,ih,sumL,List.length_append,List.length_cons,Nat.mul_add,Nat.mul_one]
  omega
theorem sum_take {V:List (List UInt8)}{i:Nat}(h:i<V.length):sumL (V.take (i+1))=sumL (V.take i)+V[i].length:=by
 rw[List.take_succ_eq_append_getElem h,sum_app]
 simp[sumL]
theorem sum_take_le (V:List (List UInt8))(i:Nat):sumL (V.take i)<=sumL V:=by
 have:=sum_app (V.take i) (V.drop i)
 rw[List.take_append_drop]at this;omega
theorem quo_big {k:Nat}(h1:1<=k)(h2:k<=4194304):16<9223372036854775807 / k:=by
 have:=Nat.div_le_div_left (a:=9223372036854775807) h2 (by omega)
 have e:9223372036854775807 / 4194304=2199023255551:=rfl
 omega
theorem join {W:World}{sep:List UInt8}{V:List (List UInt8)}{a:Option Addr}{c:Nat}(hs:0<sep.length)(hs2:sep.length<=16)(hV:(joinF sep V).length<=4194304)(hn:V.length<=4194304):
  Cn p_ 85 [.slice a V.length c,txt sep] W [Sl 1 9 a c V.length (V.map txt)] (fun _:Unit=>txt (joinF sep V)) (fun _=>[]):=by
 (refine S.strings_Join_s.cn fun F=>?_;unfold S.strings_Join;simp only[ca_,na_])
 match V,hV,hn with
 |[],_,_=>
  refine o_ v_len (o_ v_eql ?_)
  rw[dT_ (by rfl)]
  refine e_condT (rt_ () ?_)
  exact im_
 |[v],_,_=>
  refine o_ v_len (o_ v_eql ?_)
  rw[dF_ (by simp)]
  refine e_condF (o_ v_eql ?_)
  rw[dT_ (by rfl)]
  refine e_condT (e_slsome (a:=a) .here (by simp) fun g hg=>?_)
  subst hg
  have ld:RunV p_ W [Sl 1 9 (some ⟨g,0,none⟩) c [v].length ([v].map txt)] (sLoad 9 (.pointer (some ⟨g,0+0,none⟩))) (txt v):=v_ldSl rfl
  refine o_ (v_ia1 0 rfl (by simp)) ?_
  refine p_op ld ?_
  refine e_ret () (by simp[joinF]) ?_
  exact im_
 |v::u::r,hV,hn=>
  have hjl:(joinF sep (v::u::r)).length=sumL (v::u::r)+sep.length * ((v::u::r).length-1):=by
   unfold joinF
   rw[List.length_append,flat_sum]
   simp only[sumL,List.length_cons,Nat.add_sub_cancel]
   omega
  obtain⟨V,hVe⟩:∃V,V=v::u::r:=⟨_,rfl⟩
  have h2:2<=V.length:=by rw[hVe];simp
  have hv0:V[0]? =some v:=by rw[hVe];rfl
  have hj0:joinF sep V=v++(V.drop 1).flatMap (fun w=>sep++w):=by rw[hVe];rfl
  rw[<- hVe]at hV hn hjl ⊢
  clear hVe
  have hq:=quo_big (k:=V.length-1) (by omega) (by omega)
  refine o_ v_len (o_ v_eql ?_)
  rw[dF_ (by omega)]
  refine e_condF (o_ v_eql ?_)
  rw[dF_ (by omega)]
  refine e_condF (e_slsome (a:=a) .here (by omega) fun g hg=>?_)
  subst hg
  refine e_slfacts .here fun f1 f2 f3 f4=>?_
  have ld:∀i (h:i<V.length),RunV p_ W [Sl 1 9 (some ⟨g,0,none⟩) c V.length (V.map txt)] (sLoad 9 (.pointer (some ⟨g,i,none⟩))) (txt V[i]):=fun i h=>v_ldSl (by rw[List.getElem?_map,List.getElem?_eq_getElem h];rfl)
  have hml:sep.length * (V.length-1)<=4194304:=by omega
  refine e_cut1 (fun z=>pu (z= .int .i64 ((sep.length * (V.length-1):Nat):Int))::Sl 1 9 (some ⟨g,0,none⟩) c V.length (V.map txt)::F) ?_ ?_
  rotate_left
  ·refine o_ v_lent (o_ v_gtr ?_)
   rw[dT_ (by omega)]
   refine e_condT (e_cut0d ?_)
   refine o_ v_lent (o_ v_len (sb_ ?_))
   rw[show((V.length:Nat):Int)-1=((V.length-1:Nat):Int) by omega]
   refine o_ (v_quo (by omega) (by omega) (by omega)) ?_
   refine o_ v_geq ?_
   rw[dF_ (by
    have e:(9223372036854775807:Int) / ((V.length-1:Nat):Int)=((9223372036854775807 / (V.length-1):Nat):Int):=rfl
    rw[e]
    omega)]
   refine e_condF (e_allds fun ds=>?_)
   refine o_ v_lent (o_ v_len (sb_ ?_))
   rw[show((V.length:Nat):Int)-1=((V.length-1:Nat):Int) by omega]
   have hm:((sep.length:Nat):Int) * ((V.length-1:Nat):Int)=((sep.length * (V.length-1):Nat):Int):=by push_cast;rfl
   refine o_ (v_mul (by rw[hm];omega) (by rw[hm];omega)) ?_
   rw[hm]
   refine ad_ ?_
   refine e_sat (.pu (by congr 1;push_cast;omega) ?_)
   exact .refl
  ·intro ds z
   refine e_pu .here fun hz=>?_
   subst hz
   refine o_ v_len ?_
   have hsum:sumL V+sep.length * (V.length-1)<=4194304:=by omega
   generalize hM:sep.length * (V.length-1)=M at hml hsum hjl ⊢
   have hMp:0<M:=by
    rw[<- hM]
    exact Nat.mul_pos hs (by omega)
   refine e_loop2 (fun m x y=>(ex fun i:Nat=>pu (m+i=V.length/\x= .int .i64 ((M+sumL (V.take i):Nat):Int)/\y= .int .i64 (i:Int)))::Sl 1 9 (some ⟨g,0,none⟩) c V.length (V.map txt)::F) V.length ?_ ?_
   ·exact .ex 0 (.pu ⟨rfl,rfl,rfl⟩ .refl)
   intro m ds2 x y
   refine e_ex .here fun i=>e_pu .here fun hi=>?_
   obtain⟨hmi,rfl,rfl⟩:=hi
   have hst:=sum_take_le V i
   refine e_ask v_lss .nil (fun h=>?_) (fun h=>?_)
   ·have hil:i<V.length:=by omega
    have hsu:=sum_take hil
    have hst2:=sum_take_le V (i+1)
    refine e_condT (o_ (v_ia1 i rfl hil) ?_)
    rw[Nat.zero_add]
    refine e_opN (ld i hil) (.pick .here .nil) ?_
    refine e_cut0d ?_
    refine o_ v_lent (sb_ ?_)
    refine o_ v_gtr ?_
    rw[dF_ (by omega)]
    refine e_condF (e_allds fun ds3=>?_)
    refine o_ v_lent (ad_ ?_)
    refine ad_ ?_
    exact e_next2 (m-1) (by omega) (.ex (i+1) (.pu ⟨by omega,by rw[hsu];congr 1;omega,rfl⟩ .refl))
   ·have hie:i=V.length:=by omega
    subst hie
    rw[List.take_length]
    refine e_condF (e_newA fun b=>?_)
    refine e_call (grow1 (n:=M+sumL V) (by omega) (by omega)) (.cons .here .nil) fun r=>?_
    refine nr_ ?_
    obtain⟨v',hv'⟩:∃v',v'=v:=⟨_,rfl⟩
    have hV0:V[0]'(by omega)=v:=by
     rw[List.getElem?_eq_getElem (by omega)]at hv0
     exact Option.some.inj hv0
    have hvl:v.length<=4194304:=by
     rw[hj0,List.length_append]at hV
     omega
    refine o_ (v_ia1 0 rfl (by omega)) ?_
    have ld0:=ld 0 (by omega)
    rw[hV0]at ld0
    refine p_op ld0 ?_
    refine e_call (writeStr (l:=[]) (m:=v) (by simp;omega)) (.cons .here .nil) fun r=>?_
    refine nr_ ?_
    refine o_ (v_sll 1 rfl (by omega)) ?_
    rw[if_neg (by omega),show(some (⟨g,0,none⟩:Addr)).map (·.add (1 * 1))=some ⟨g,1,none⟩ by simp[addr_add]]
    refine o_ v_len (e_loop1 (fun m y=>(ex fun st:Nat × Option Addr × Nat=>all [pu (m+st.1=V.length-1/\y= .int .i64 (st.1:Int)),bd b st.2 (v++((V.drop 1).take st.1).flatMap (fun w=>sep++w))])::Sl 1 9 (some ⟨g,0,none⟩) c V.length (V.map txt)::F) (V.length-1) ?_ ?_)
    ·refine .ex (0,r) (.all ?_)
     refine nr_ ?_
     refine .pu ⟨rfl,rfl⟩ ?_
     simp only[List.take_zero,List.flatMap_nil,List.append_nil]
     exact .refl
    intro m ds4 y
    refine e_ex .here fun st=>e_all .here ?_
    obtain⟨i,r⟩:=st
    refine nr_ ?_
    refine e_pu .here fun hi=>?_
    (try dsimp only at hi)
    obtain⟨hmi,rfl⟩:=hi
    have hfl:=flat_sum sep ((V.drop 1).take i)
    have hle:(v++((V.drop 1).take i).flatMap (fun w=>sep++w)).length<=4194304:=by
     have e:(V.drop 1).flatMap (fun w=>sep++w)=((V.drop 1).take i).flatMap (fun w=>sep++w)++((V.drop 1).drop i).flatMap (fun w=>sep++w):=by
      rw[<- List.flatMap_append,List.take_append_drop]
     rw[hj0,e,List.length_append,List.length_append]at hV
     rw[List.length_append]
     omega
    refine e_ask v_lss .nil (fun h=>?_) (fun h=>?_)
    ·have hil:i<V.length-1:=by omega
     have hwl:V[1+i]'(by omega)∈V:=List.getElem_mem _
     have htk:(V.drop 1).take (i+1)=(V.drop 1).take i++[V[1+i]'(by omega)]:=by
      rw[List.take_succ_eq_append_getElem (by rw[List.length_drop];omega),List.getElem_drop]
     have hle2:(v++((V.drop 1).take (i+1)).flatMap (fun w=>sep++w)).length<=4194304:=by
      have e:(V.drop 1).flatMap (fun w=>sep++w)=((V.drop 1).take (i+1)).flatMap (fun w=>sep++w)++((V.drop 1).drop (i+1)).flatMap (fun w=>sep++w):=by
       rw[<- List.flatMap_append,List.take_append_drop]
      rw[hj0,e,List.length_append,List.length_append]at hV
      rw[List.length_append]
      omega
     have hstep:v++((V.drop 1).take (i+1)).flatMap (fun w=>sep++w)=((v++((V.drop 1).take i).flatMap (fun w=>sep++w))++sep)++V[1+i]'(by omega):=by
      rw[htk,List.flatMap_append]
      simp
     rw[hstep,List.length_append,List.length_append]at hle2
     refine e_condT (o_ (v_ia1 i rfl hil) ?_)
     refine p_op (ld (1+i) (by omega)) ?_
     refine e_call (writeStr (by omega)) (.cons .here .nil) fun r1=>?_
     refine nr_ ?_
     refine e_call (writeStr (by rw[List.length_append];omega)) (.cons .here .nil) fun r2=>?_
     refine nr_ ?_
     refine ad_ ?_
     refine e_next1 (m-1) (by omega) (.ex (i+1,r2) (.all ?_))
     refine nr_ ?_
     refine .pu ⟨by(try dsimp only);omega,rfl⟩ ?_
     (try dsimp only)
     rw[hstep]
     exact .refl
    ·have hie:i=V.length-1:=by omega
     have ht:(V.drop 1).take i=V.drop 1:=List.take_of_length_le (by rw[List.length_drop];omega)
     rw[ht,<- hj0]
     refine e_condF ?_
     refine e_call (bdString (by
      intro e
      rw[e]at hjl
      simp at hjl
      omega)) (.cons .here .nil) fun _=>?_
     refine nr_ ?_
     refine rt_ () ?_
     exact im_
def noneF (names:List (List UInt8))(f:Fd):Bool:=!names.any (fun n=>eqlF f.1 n)
def withF (l:List Fd)(names:List (List UInt8)):List Fd:=l.filter (noneF names)
theorem with_take {l:List Fd}{N:List (List UInt8)}{i:Nat}(h:i<l.length):withF (l.take (i+1)) N=withF (l.take i) N++(if noneF N l[i]then [l[i]]else []):=by
 unfold withF
 rw[List.take_succ_eq_append_getElem h,List.filter_append]
 congr 1
 cases he:noneF N l[i] <;> simp[he]
theorem with_len (l:List Fd)(N:List (List UInt8)):(withF l N).length<=l.length:=List.length_filter_le _ _
end Go.Proofs.YthomhkpedghhgaaGreatDoor.FD
namespace Go.Proofs.YthomhkpedghhgaaGreatDoor.FD
open Go Go.Proofs Go.RowKit
theorem vals_cons (f:Fd)(l:List Fd)(n:List UInt8):valsF (f::l) n=if eqlF f.1 n then f.2::valsF l n else valsF l n:=by
 unfold valsF
 rw[List.filter_cons]
 split <;> simp
theorem eql_low {a m n:List UInt8}(h:lowF m=lowF n):eqlF a n=eqlF a m:=by
 have hl:m.length=n.length:=by have:=congrArg List.length h;simpa [lowF]using this
 unfold eqlF
 rw[h,hl]
def zF:List Fd->Nat
 |[]=>0
 |f::r=>f.1.length+f.2.length+3+zF r
theorem zF_cons (f:Fd)(r:List Fd):zF (f::r)=f.1.length+f.2.length+3+zF r:=rfl
theorem z_mem {l:List Fd}{f:Fd}(h:f∈l):f.1.length+f.2.length+3<=zF l:=by
 induction l with
 |nil=>cases h
 |cons g r ih=>
  unfold zF
  rcases List.mem_cons.1 h with rfl|h
  ·omega
  ·have:=ih h;omega
theorem z_len (l:List Fd):3 * l.length<=zF l:=by
 induction l with
 |nil=>simp[zF]
 |cons g r ih=>unfold zF;rw[List.length_cons];omega
theorem z_ok {l:List Fd}(h:zF l<=2097152):hOK l:=⟨by have:=z_len l;omega,fun f hf=>by have:=z_mem hf;omega⟩
theorem z_filter (p:Fd->Bool)(l:List Fd):zF (l.filter p)<=zF l:=by
 induction l with
 |nil=>simp[zF]
 |cons g r ih=>
  rw[List.filter_cons,zF_cons]
  split
  ·rw[zF_cons];omega
  ·omega
def zL:List (List UInt8)->Nat
 |[]=>0
 |v::r=>v.length+1+zL r
theorem zL_cons (v:List UInt8)(r:List (List UInt8)):zL (v::r)=v.length+1+zL r:=rfl
theorem zL_app (a b:List (List UInt8)):zL (a++b)=zL a+zL b:=by
 induction a with
 |nil=>simp[zL]
 |cons v r ih=>rw[List.cons_append,zL_cons,zL_cons,ih];omega
theorem zL_vals (l:List Fd)(n:List UInt8):zL (valsF l n)<=zF l:=by
 induction l with
 |nil=>simp[valsF,zL,zF]
 |cons g r ih=>
  rw[vals_cons,zF_cons]
  split
  ·rw[zL_cons];omega
  ·omega
end Go.Proofs.YthomhkpedghhgaaGreatDoor.FD
namespace Go.Proofs.YthomhkpedghhgaaGreatDoor.FD
open Go Go.Proofs Go.RowKit Sh Sl T
theorem none_take {N:List (List UInt8)}{f:Fd}{j:Nat}(h:j<N.length):noneF (N.take (j+1)) f=(noneF (N.take j) f&&!eqlF f.1 N[j]):=by
 unfold noneF
 rw[List.take_succ_eq_append_getElem h,List.any_append]
 simp
theorem txt_at {W:World}{A:HP}{g o n j:Nat}{N:List (List UInt8)}(hN:RdB W A (some ⟨g,o,none⟩) n (N.map txt))(h:j<N.length):RunV p_ W [A] (sLoad 9 (.pointer (some ⟨g,o+j,none⟩))) (txt N[j]):=
 v_ldRd hN (by rw[List.getElem?_map,List.getElem?_eq_getElem h];rfl)
theorem without {W:World}{l:List Fd}{N:List (List UInt8)}{a na:Option Addr}{c nc:Nat}{A NA:HP}(hA:RdF W A a l)(hl:hOK l)(hN:RdB W NA na N.length (N.map txt))(hn:∀n∈N,n.length<=4194304)(hNl:N.length<=1099511627776):
  Cn p_ 49 [.slice a l.length c,.slice na N.length nc] W [A,NA] (fun r:Option Addr × Nat=> .slice r.1 (withF l N).length r.2)
  (fun r=>[A,NA,Sl 2 68 r.1 r.2 (withF l N).length ((withF l N).flatMap pFd)]):=by
 (refine S.head_Without_s.cn fun F=>?_;unfold S.head_Without;simp only[ca_,na_])
 refine o_ v_len (e_loop2 (fun m x y=>[ex fun st:(Option Addr × Nat) × Nat=>all [pu (m+st.2=l.length/\x= .slice st.1.1 (withF (l.take st.2) N).length st.1.2/\y= .int .i64 (st.2:Int)),Sl 2 68 st.1.1 st.1.2 (withF (l.take st.2) N).length ((withF (l.take st.2) N).flatMap pFd),A,NA]]++F) l.length ?_ ?_)
 ·refine Imp.ex ((none,0),0) (.all ?_)
  refine nr_ ?_
  refine .pu ⟨rfl,rfl,rfl⟩ ?_
  exact imp_nil .refl
 intro m ds x y
 refine nr_ ?_
 refine e_ex Pick.here fun st=>e_all Pick.here ?_
 obtain⟨⟨sa,sc⟩,i⟩:=st
 refine nr_ ?_
 refine e_pu Pick.here fun hi=>?_
 (try dsimp only at hi)
 obtain⟨hmi,rfl,rfl⟩:=hi
 refine e_ask v_lss .nil (fun h=>?_) (fun h=>?_)
 ·have hil:i<l.length:=by omega
  have hb:=hl.2 _ (List.getElem_mem hil)
  have hv:=with_take (N:=N) hil
  have hvl:=with_len (l.take i) N
  have hl1:=hl.1
  rw[List.length_take]at hvl
  refine e_condT ?_
  obtain⟨g,o,rfl⟩:=rdF_at hA (Nat.zero_lt_of_lt hil)
  refine o_ (v_ia i rfl hil) ?_
  refine p_op (ld_fdA hA hil) ?_
  generalize l[i]=f at hb hv ⊢
  unfold vFd
  refine e_newA fun b7=>?_
  refine e_stAgg .here (by rfl) (by rfl) (by intro u hu;simp at hu;rcases hu with rfl|rfl <;> rfl) ?_
  refine o_ v_len (e_loop1 (fun k y=>pu (∃j:Nat,k+j=N.length/\y= .int .i64 (j:Int)/\noneF (N.take j) f=true)::pt b7 (.cells #[txt f.1,txt f.2] 68)::Sl 2 68 sa sc (withF (l.take i) N).length ((withF (l.take i) N).flatMap pFd)::A::NA::F) N.length ?_ ?_)
  ·refine .pu ⟨0,rfl,rfl,by simp[noneF]⟩ ?_
   exact im_
  intro k ds2 y
  refine e_pu .here fun hj=>?_
  obtain⟨j,hkj,rfl,hno⟩:=hj
  refine e_ask v_lss .nil (fun h2=>?_) (fun h2=>?_)
  ·have hjl:j<N.length:=by omega
   have hnl:=hn _ (List.getElem_mem hjl)
   have hnt:=none_take (f:=f) hjl
   refine e_condT ?_
   obtain⟨ng,no,rfl,_⟩:=hN.at_ (by omega)
   refine o_ (v_ia1 j rfl hjl) ?_
   refine p_op (txt_at hN hjl) ?_
   refine o_ v_fa0 (ln_ ?_)
   refine e_call (equal (a:=f.1) (b:=N[j]) (by omega) (by omega)) .nil fun _=>?_
   refine nr_ ?_
   cases he:eqlF f.1 N[j]with
   |true=>
    refine e_condT (ad_ ?_)
    have hbad:noneF N f=false:=by
     unfold noneF
     rw[List.any_eq_true.2 ⟨_,List.getElem_mem hjl,he⟩];rfl
    rw[hbad,if_neg (by decide),List.append_nil]at hv
    refine e_next2 (m-1) (by omega) (.ex ((sa,sc),i+1) (.all ?_))
    refine nr_ ?_
    (try dsimp only)
    rw[hv]
    refine .pu ⟨by omega,rfl,by norm_cast⟩ ?_
    exact im_
   |false=>
    refine e_condF (ad_ ?_)
    refine e_next1 (k-1) (by omega) (.pu ⟨j+1,by omega,by norm_cast,by rw[hnt,hno,he];rfl⟩ ?_)
    exact im_
  ·have hjl:j=N.length:=by omega
   subst hjl
   rw[List.take_length]at hno
   rw[hno,if_pos rfl]at hv
   refine e_condF (lg_ ?_)
   refine e_bslS (n:=1) (vs:=[vFd f]) rfl (by omega) rfl (by intro v hv;rw[List.mem_singleton.1 hv];rfl) (by omega) fun gb=>?_
   refine e_app (m:=1) (news:=pFd f) (by(repeat constructor):Pick _ (Sl 2 68 sa sc (withF (l.take i) N).length ((withF (l.take i) N).flatMap pFd)) _) (src_pt (s:=2) (e':=68) (by kernel_rfl) .here (by rfl) (by intro u hu;simp[vFd,Value.cells]at hu;rcases hu with rfl|rfl <;> rfl)) (by omega) (by omega) fun a' c'=>?_
   refine ad_ ?_
   refine e_next2 (m-1) (by omega) (.ex ((a',c'),i+1) (.all ?_))
   refine nr_ ?_
   (try dsimp only)
   rw[hv,List.length_append,List.flatMap_append,List.length_singleton,List.flatMap_cons,List.flatMap_nil,List.append_nil]
   refine .pu ⟨by omega,rfl,by norm_cast⟩ ?_
   exact im_
 ·have:i=l.length:=by omega
  subst this
  rw[List.take_length]
  refine e_condF (rt_ ((sa,sc)) ?_)
  exact im_
end Go.Proofs.YthomhkpedghhgaaGreatDoor.FD
