/- The shapes of functions of the loaded program, printed by a program of mine; each is proved to be what the model asks of the function. No conditions. (8 texts made one; each says below what it is.) -/
import Derived.Test.YthoeeahdkdcceaaGreatChecked
import Derived.Test.YthoeeahdkdcceaaGreatK1
import Derived.KernelRfl
set_option linter.unusedVariables false
set_option linter.unusedSimpArgs false
set_option linter.unusedSectionVars false
namespace Go.Proofs.YthoeeahdkdcceaaGreat.S
open Go Sh Sl
theorem wide : p_.follows .mixedOrders = true := by kernel_rfl
theorem sh_ {f : FuncId} {fn : Func} {an : Ann} {args : List Value} {sh : PK -> (Value -> WP) -> WP} (hc : ∀ (a : Array Value) (w : World), (callFunc f a).run p_ w = .ok (.enter f a) w) (hf : p_.funcs[f]? = some fn) (he : ∀ Kp K, cevF p_ an fn args Kp K = sh Kp K) : Shp p_ f args sh := shp wide hc hf he
theorem shT_ {f : FuncId} {fn : Func} {an : Ann} {args : List Value} {sh : PK -> (Value -> WP) -> WP} (hc : ∀ (a : Array Value) (w : World), (callFunc f a).run p_ w = .ok (.enter f a) w) (hf : p_.funcs[f]? = some fn) (he : ∀ Kp K, cevFT p_ an fn args Kp K = sh Kp K) : Shp p_ f args sh := shpT wide hc hf he
def law06_DeflateStreams (v0 v1 : Value) (Kp : PK) (K : Value → WP) : WP :=
 opN p_ (sCall (fn 19) [v0]) Kp fun x21 =>
 opN p_ (sExt x21 0) Kp fun x22 =>
 opN p_ (sExt x21 1) Kp fun x23 =>
 opN p_ (sCall (fn 20) [v0]) Kp fun x25 =>
 opN p_ (sCall (fn 21) [x23]) Kp fun x27 =>
 opN p_ (sEq .eql 3 (.tmp 27) (.const (.int .i64 0)) x27 (.int .i64 0)) Kp fun x28 =>
 opN p_ (sEq .neq 40 (.tmp 29) (.const (.pointer none)) x25 (.pointer none)) Kp fun x30 =>
 opN p_ (sEq .neq 4 (.tmp 28) (.tmp 30) x28 x30) Kp fun x31 =>
 gdK x31 false (fun k => k x22) fun x33 =>
 gdK x31 false (opN p_ (sEq .eql 37 (.tmp 33) (.const (.pointer none)) x33 (.pointer none)) Kp) fun x34 =>
 gdK x31 false (fun k => k x25) fun x35 =>
 gdK x31 false (opN p_ (sEq .eql 40 (.tmp 35) (.const (.pointer none)) x35 (.pointer none)) Kp) fun x36 =>
 gdK x31 false (opN p_ (sEq .neq 4 (.tmp 34) (.tmp 36) x34 x36) Kp) fun x37 =>
 opN p_ (sPick x31 (.bool true) x37) Kp fun x38 =>
 gdK x38 false (opN p_ (sCall (fn 22) []) Kp) fun x40 =>
 gdK x38 false (opN p_ (sUn .not x40) Kp) fun x41 =>
 opN p_ (sPick x38 (.bool true) x41) Kp fun x42 =>
 condS x42
 (K (.bool false))
 (loop1 (fun I1 m1 _ y8 =>
 opN p_ (sLen #[36] 3 [v1]) Kp fun x45 =>
 opN p_ (sBin .lss 3 y8 x45) Kp fun x46 =>
 gdK x46 true (fun k => k x25) fun x48 =>
 gdK x46 true (opN p_ (sEq .neq 40 (.tmp 48) (.const (.pointer none)) x48 (.pointer none)) Kp) fun x49 =>
 opN p_ (sPick x46 x49 (.bool false)) Kp fun x50 =>
 condS x50
 (opN p_ (sIA 36 v1 y8) Kp fun x55 =>
 opN p_ (sFA 43 x55 0) Kp fun x56 =>
 opN p_ (sLoad 3 x56) Kp fun x57 =>
 opN p_ (sEq .eql 3 (.tmp 57) (.const (.int .i64 0)) x57 (.int .i64 0)) Kp fun x80 =>
 condS x80
 (opN p_ (sIA 36 v1 y8) Kp fun x83 =>
 opN p_ (sFA 43 x83 1) Kp fun x84 =>
 opN p_ (sLoad 22 x84) Kp fun x85 =>
 opN p_ (sCall (fn 9) [x85]) Kp fun x86 =>
 drS (stD p_ (sIA 36 v1 y8) fun D7 x94 =>
 stD p_ (sFA 43 x94 1) fun D8 x95 =>
 stD p_ (sLoad 22 x95) fun D9 x96 =>
 opN p_ (sCall (fn 23) [x22, x86]) Kp fun x89 =>
 (fun w => D9 w ∧ (fun w => D8 w ∧ (fun w => D7 w ∧ (opN p_ (sCall (fn 21) [x89]) Kp fun x90 =>
 (fun w => D9 w ∧ (fun w => D8 w ∧ (fun w => D7 w ∧ (opN p_ (sCall (fn 24) [x25, x96]) Kp fun x97 =>
 stS p_ (sEq .neq 3 (.tmp 90) (.tmp 97) x90 x97) fun x98 =>
 gdK x98 false (fun k => k x86) fun x100 =>
 gdK x98 false (fun k => k v1) fun x101 =>
 gdK x98 false (fun k => k y8) fun x102 =>
 gdK x98 false (stS p_ (sIA 36 x101 x102)) fun x103 =>
 gdK x98 false (stS p_ (sFA 43 x103 1)) fun x104 =>
 gdK x98 false (stS p_ (sLoad 22 x104)) fun x105 =>
 gdK x98 false (opN p_ (sCall (fn 17) [x100, x105]) Kp) fun x106 =>
 gdK x98 false (stS p_ (sUn .not x106)) fun x107 =>
 stS p_ (sPick x98 (.bool true) x107) fun x108 =>
 condS x108
 (K (.bool false))
 (loop1 (fun I2 m2 _ y10 =>
 opN p_ (sLen #[22] 3 [x86]) Kp fun x111 =>
 opN p_ (sBin .lss 3 y10 x111) Kp fun x112 =>
 condS x112
 (opN p_ (sIA 22 x86 y10) Kp fun x119 =>
 opN p_ (sLoad 5 x119) Kp fun x120 =>
 opN p_ (sBin .add 5 x120 (.int .u8 1)) Kp fun x121 =>
 opN p_ (sIA 22 x86 y10) Kp fun x122 =>
 opN p_ (sStore 5 x122 x121) Kp fun _ =>
 opN p_ (sBin .add 3 y10 (.int .i64 1)) Kp fun x114 =>
 next1 I2 m2 x114)
 (opN p_ (sBin .add 3 y8 (.int .i64 1)) Kp fun x52 =>
 next1 I1 m1 x52)) (.int .i64 0))) w) w) w)) w) w) w)))
 (opN p_ (sEq .eql 3 (.tmp 57) (.const (.int .i64 1)) x57 (.int .i64 1)) Kp fun x124 =>
 condS x124
 (opN p_ (sCall (fn 25) [x22]) Kp fun x127 =>
 opN p_ (sExt x127 0) Kp fun x128 =>
 opN p_ (sExt x127 1) Kp fun x129 =>
 opN p_ (sCall (fn 26) [x25]) Kp fun x132 =>
 opN p_ (sExt x132 0) Kp fun x133 =>
 opN p_ (sExt x132 1) Kp fun x134 =>
 opN p_ (sConv 22 9 x128) Kp fun x136 =>
 opN p_ (sConv 22 9 x133) Kp fun x138 =>
 opN p_ (sEq .neq 9 (.tmp 136) (.tmp 138) x136 x138) Kp fun x139 =>
 gdK x139 false (fun k => k x129) fun x141 =>
 gdK x139 false (opN p_ (sCall (fn 21) [x141]) Kp) fun x142 =>
 gdK x139 false (fun k => k x134) fun x143 =>
 gdK x139 false (opN p_ (sEq .neq 3 (.tmp 142) (.tmp 143) x142 x143) Kp) fun x144 =>
 opN p_ (sPick x139 (.bool true) x144) Kp fun x145 =>
 condS x145
 (K (.bool false))
 (opN p_ (sBin .add 3 y8 (.int .i64 1)) Kp fun x52 =>
 next1 I1 m1 x52))
 (opN p_ (sCall (fn 27) [x22]) Kp fun x60 =>
 opN p_ (sExt x60 0) Kp fun x61 =>
 opN p_ (sExt x60 1) Kp fun x62 =>
 opN p_ (sCall (fn 28) [x25]) Kp fun x65 =>
 opN p_ (sExt x65 0) Kp fun x66 =>
 opN p_ (sExt x65 1) Kp fun x67 =>
 opN p_ (sConv 22 9 x61) Kp fun x69 =>
 opN p_ (sConv 22 9 x66) Kp fun x71 =>
 opN p_ (sEq .neq 9 (.tmp 69) (.tmp 71) x69 x71) Kp fun x72 =>
 gdK x72 false (fun k => k x62) fun x74 =>
 gdK x72 false (opN p_ (sCall (fn 21) [x74]) Kp) fun x75 =>
 gdK x72 false (fun k => k x67) fun x76 =>
 gdK x72 false (opN p_ (sEq .neq 3 (.tmp 75) (.tmp 76) x75 x76) Kp) fun x77 =>
 opN p_ (sPick x72 (.bool true) x77) Kp fun x78 =>
 condS x78
 (K (.bool false))
 (opN p_ (sBin .add 3 y8 (.int .i64 1)) Kp fun x52 =>
 next1 I1 m1 x52))))
 (K (.bool true))) (.int .i64 0))
theorem law06_DeflateStreams_s {v0 v1 : Value} : Shp p_ 4 [v0, v1] (law06_DeflateStreams v0 v1) := sh_ Tryz.call4 Tryz.func4 (an := { loops := [(6, [8]), (18, [10])], drs := [(15, .ofL [(0, 1), (1, 1), (4, 2), (5, 2), (6, 2), (7, 3), (8, 3), (9, 3), (2, 0), (3, 0), (10, 0), (11, 1), (12, 1), (13, 1), (14, 1), (15, 1), (16, 1), (17, 1), (18, 1), (19, 0), (20, 1), (21, 1)])] }) fun _ _ => by kernel_rfl
def law01_Lent (v0 : Value) (Kp : PK) (K : Value -> WP) : WP :=
 opN p_ (sBuildSl 22 0 []) Kp fun x4 =>
 opN p_ (sApp #[22, 22] 22 [x4, v0]) Kp fun x6 =>
 opN p_ (sBuildSl 22 2 [(0, (.int .u8 201)), (1, (.int .u8 202))]) Kp fun x8 =>
 opN p_ (sApp #[22, 22] 22 [x6, x8]) Kp fun x9 =>
 opN p_ (sLen #[22] 3 [v0]) Kp fun x12 =>
 opN p_ (sSl 22 x9 none (some x12) none) Kp fun x13 =>
 K x13
theorem law01_Lent_s {v0 : Value} : Shp p_ 9 [v0] (law01_Lent v0) := sh_ Tryz.call9 Tryz.func9 (an := {}) fun _ _ => by kernel_rfl
def law01_Stays (v0 v1 : Value) (Kp : PK) (K : Value -> WP) : WP :=
 opN p_ (sLen #[22] 3 [v1]) Kp fun x8 =>
 opN p_ (sBin .add 3 x8 (.int .i64 2)) Kp fun x9 =>
 opN p_ (sSl 22 v0 none (some x9) none) Kp fun x10 =>
 drS (stS p_ (sLen #[22] 3 [v1]) fun x13 =>
 stS p_ (sSl 22 x10 none (some x13) none) fun x14 =>
 stS p_ (sConv 22 9 x14) fun x15 =>
 stS p_ (sConv 22 9 v1) fun x17 =>
 stS p_ (sEq .eql 9 (.tmp 15) (.tmp 17) x15 x17) fun x18 =>
 gdK x18 true (fun k => k x10) fun x20 =>
 gdK x18 true (fun k => k v1) fun x21 =>
 gdK x18 true (stS p_ (sLen #[22] 3 [x21])) fun x22 =>
 gdK x18 true (stS p_ (sIA 22 x20 x22)) fun x23 =>
 gdK x18 true (stS p_ (sLoad 5 x23)) fun x24 =>
 gdK x18 true (stS p_ (sEq .eql 5 (.tmp 24) (.const (.int .u8 201)) x24 (.int .u8 201))) fun x25 =>
 stS p_ (sPick x18 x25 (.bool false)) fun x26 =>
 gdK x26 true (fun k => k x10) fun x28 =>
 gdK x26 true (fun k => k v1) fun x29 =>
 gdK x26 true (stS p_ (sLen #[22] 3 [x29])) fun x30 =>
 gdK x26 true (stS p_ (sBin .add 3 x30 (.int .i64 1))) fun x31 =>
 gdK x26 true (stS p_ (sIA 22 x28 x31)) fun x32 =>
 gdK x26 true (stS p_ (sLoad 5 x32)) fun x33 =>
 gdK x26 true (stS p_ (sEq .eql 5 (.tmp 33) (.const (.int .u8 202)) x33 (.int .u8 202))) fun x34 =>
 stS p_ (sPick x26 x34 (.bool false)) fun x35 =>
 K x35)
theorem law01_Stays_s {v0 v1 : Value} : Shp p_ 17 [v0, v1] (law01_Stays v0 v1) := sh_ Tryz.call17 Tryz.func17 (an := { drs := [(2, .ofL [(0, 1), (1, 1), (2, 1), (3, 1), (4, 1), (5, 1), (6, 1), (7, 1), (8, 1), (9, 1), (10, 1), (11, 1), (12, 1), (13, 1), (14, 1), (15, 1), (16, 1), (17, 1), (18, 1), (19, 1), (20, 1), (21, 1), (22, 1), (23, 1), (24, 1), (25, 1)])] }) fun _ _ => by kernel_rfl
def deflate_NewStream (v0 : Value) (Kp : PK) (K : Value → WP) : WP :=
 opN p_ (sCall (fn 46) [v0]) Kp fun x5 =>
 condS x5
 (K (.tuple #[(.pointer none), (.int .i64 1)]))
 (opN p_ (sBuild 69 [(0, v0), (3, (.bool true))]) Kp fun x7 =>
 opN p_ (sBox 69 x7) Kp fun x8 =>
 K (.tuple #[x8, (.int .i64 0)]))
theorem deflate_NewStream_s {v0 : Value} : Shp p_ 19 [v0] (deflate_NewStream v0) := sh_ Tryz.call19 Tryz.func19 (an := {}) fun _ _ => by kernel_rfl
def ref06_NewStream (v0 : Value) (Kp : PK) (K : Value → WP) : WP :=
 opN p_ (sBin .lss 3 v0 (.int .i64 0)) Kp fun x4 =>
 gdK x4 false (fun k => k v0) fun x6 =>
 gdK x4 false (opN p_ (sBin .gtr 3 x6 (.int .i64 9)) Kp) fun x7 =>
 opN p_ (sPick x4 (.bool true) x7) Kp fun x8 =>
 condS x8
 (K (.pointer none))
 (opN p_ (sBuild 71 [(0, v0)]) Kp fun x10 =>
 opN p_ (sBox 71 x10) Kp fun x11 =>
 K x11)
theorem ref06_NewStream_s {v0 : Value} : Shp p_ 20 [v0] (ref06_NewStream v0) := sh_ Tryz.call20 Tryz.func20 (an := {}) fun _ _ => by kernel_rfl
def law06_num (v0 : Value) (Kp : PK) (K : Value -> WP) : WP :=
 K v0
theorem law06_num_s {v0 : Value} : Shp p_ 21 [v0] (law06_num v0) := sh_ Tryz.call21 Tryz.func21 (an := {}) fun _ _ => by kernel_rfl
def law06_knows (Kp : PK) (K : Value -> WP) : WP :=
 opN p_ (sBuildSl 22 3 [(0, (.int .u8 97)), (1, (.int .u8 98)), (2, (.int .u8 99))]) Kp fun x6 =>
 opN p_ (sConv 22 22 x6) Kp fun x7 =>
 opN p_ (sCall (fn 39) [x7, (.int .i64 6)]) Kp fun x8 =>
 opN p_ (sExt x8 0) Kp fun x9 =>
 opN p_ (sExt x8 1) Kp fun x10 =>
 opN p_ (sBuildSl 22 3 [(0, (.int .u8 97)), (1, (.int .u8 98)), (2, (.int .u8 99))]) Kp fun x12 =>
 opN p_ (sConv 22 22 x12) Kp fun x13 =>
 opN p_ (sCall (fn 39) [x13, (.int .i64 0)]) Kp fun x14 =>
 opN p_ (sExt x14 0) Kp fun x15 =>
 opN p_ (sExt x14 1) Kp fun x16 =>
 opN p_ (sCall (fn 21) [x10]) Kp fun x18 =>
 opN p_ (sCall (fn 21) [x16]) Kp fun x20 =>
 opN p_ (sBin .add 3 x18 x20) Kp fun x21 =>
 opN p_ (sEq .eql 3 (.tmp 21) (.const (.int .i64 0)) x21 (.int .i64 0)) Kp fun x22 =>
 gdK x22 true (fun k => k x9) fun x24 =>
 gdK x22 true (opN p_ (sConv 22 9 x24) Kp) fun x25 =>
 gdK x22 true (opN p_ (sEq .eql 9 (.tmp 25) (.const (.string ⟨#[75, 76, 74, 6, 0]⟩)) x25 (.string ⟨#[75, 76, 74, 6, 0]⟩)) Kp) fun x26 =>
 opN p_ (sPick x22 x26 (.bool false)) Kp fun x27 =>
 gdK x27 true (fun k => k x15) fun x29 =>
 gdK x27 true (opN p_ (sLen #[22] 3 [x29]) Kp) fun x30 =>
 gdK x27 true (opN p_ (sEq .eql 3 (.tmp 30) (.const (.int .i64 8)) x30 (.int .i64 8)) Kp) fun x31 =>
 opN p_ (sPick x27 x31 (.bool false)) Kp fun x32 =>
 gdK x32 true (fun k => k x15) fun x34 =>
 gdK x32 true (opN p_ (sIA 22 x34 (.int .i64 7)) Kp) fun x35 =>
 gdK x32 true (opN p_ (sLoad 5 x35) Kp) fun x36 =>
 gdK x32 true (opN p_ (sEq .eql 5 (.tmp 36) (.const (.int .u8 99)) x36 (.int .u8 99)) Kp) fun x37 =>
 opN p_ (sPick x32 x37 (.bool false)) Kp fun x38 =>
 K x38
theorem law06_knows_s  : Shp p_ 22 [] (law06_knows) := sh_ Tryz.call22 Tryz.func22 (an := {}) fun _ _ => by kernel_rfl
def deflate_Stream_Write (v0 v1 : Value) (Kp : PK) (K : Value → WP) : WP :=
 opN p_ (sCall (fn 47) [v0]) Kp fun x7 =>
 opN p_ (sEq .neq 25 (.tmp 8) (.const (.int .i64 0)) x7 (.int .i64 0)) Kp fun x9 =>
 condS x9
 (K x7)
 (opN p_ (sLen #[22] 3 [v1]) Kp fun x12 =>
 opN p_ (sNil v0) Kp fun x14 =>
 opN p_ (sFA 69 x14 2) Kp fun x15 =>
 opN p_ (sLoad 3 x15) Kp fun x16 =>
 opN p_ (sBin .sub 3 (.int .i64 524288) x16) Kp fun x17 =>
 opN p_ (sBin .gtr 3 x12 x17) Kp fun x18 =>
 condS x18
 (K (.int .i64 6))
 (opN p_ (sNil v0) Kp fun x20 =>
 opN p_ (sFA 69 x20 2) Kp fun x21 =>
 opN p_ (sLoad 3 x21) Kp fun x22 =>
 opN p_ (sLen #[22] 3 [v1]) Kp fun x24 =>
 opN p_ (sBin .add 3 x22 x24) Kp fun x25 =>
 opN p_ (sNil v0) Kp fun x26 =>
 opN p_ (sFA 69 x26 2) Kp fun x27 =>
 opN p_ (sStore 3 x27 x25) Kp fun _ =>
 opN p_ (sNil v0) Kp fun x30 =>
 opN p_ (sFA 69 x30 1) Kp fun x31 =>
 opN p_ (sLoad 22 x31) Kp fun x32 =>
 opN p_ (sApp #[22, 22] 22 [x32, v1]) Kp fun x34 =>
 opN p_ (sNil v0) Kp fun x35 =>
 opN p_ (sFA 69 x35 1) Kp fun x36 =>
 opN p_ (sStore 22 x36 x34) Kp fun _ =>
 K (.int .i64 0)))
theorem deflate_Stream_Write_s {v0 v1 : Value} : Shp p_ 23 [v0, v1] (deflate_Stream_Write v0 v1) := sh_ Tryz.call23 Tryz.func23 (an := {}) fun _ _ => by kernel_rfl
def ref06_Stream_Write (v0 v1 : Value) (Kp : PK) (K : Value → WP) : WP :=
 opN p_ (sNil v0) Kp fun x6 =>
 opN p_ (sFA 71 x6 3) Kp fun x7 =>
 opN p_ (sLoad 4 x7) Kp fun x8 =>
 condS x8
 (K (.int .i64 64))
 (opN p_ (sLen #[22] 3 [v1]) Kp fun x10 =>
 opN p_ (sNil v0) Kp fun x12 =>
 opN p_ (sFA 71 x12 2) Kp fun x13 =>
 opN p_ (sLoad 3 x13) Kp fun x14 =>
 opN p_ (sBin .sub 3 (.int .i64 524288) x14) Kp fun x15 =>
 opN p_ (sBin .gtr 3 x10 x15) Kp fun x16 =>
 condS x16
 (K (.int .i64 6))
 (opN p_ (sNil v0) Kp fun x19 =>
 opN p_ (sFA 71 x19 2) Kp fun x20 =>
 opN p_ (sLoad 3 x20) Kp fun x21 =>
 opN p_ (sLen #[22] 3 [v1]) Kp fun x23 =>
 opN p_ (sBin .add 3 x21 x23) Kp fun x24 =>
 opN p_ (sNil v0) Kp fun x25 =>
 opN p_ (sFA 71 x25 2) Kp fun x26 =>
 opN p_ (sStore 3 x26 x24) Kp fun _ =>
 opN p_ (sBuildSl 22 0 []) Kp fun x28 =>
 opN p_ (sNil v0) Kp fun x30 =>
 opN p_ (sFA 71 x30 1) Kp fun x31 =>
 opN p_ (sLoad 22 x31) Kp fun x32 =>
 opN p_ (sApp #[22, 22] 22 [x28, x32]) Kp fun x33 =>
 opN p_ (sApp #[22, 22] 22 [x33, v1]) Kp fun x35 =>
 opN p_ (sNil v0) Kp fun x36 =>
 opN p_ (sFA 71 x36 1) Kp fun x37 =>
 opN p_ (sStore 22 x37 x35) Kp fun _ =>
 K (.int .i64 0)))
theorem ref06_Stream_Write_s {v0 v1 : Value} : Shp p_ 24 [v0, v1] (ref06_Stream_Write v0 v1) := sh_ Tryz.call24 Tryz.func24 (an := {}) fun _ _ => by kernel_rfl
def deflate_Stream_Flush (v0 : Value) (Kp : PK) (K : Value → WP) : WP :=
 opN p_ (sCall (fn 47) [v0]) Kp fun x9 =>
 opN p_ (sEq .neq 25 (.tmp 10) (.const (.int .i64 0)) x9 (.int .i64 0)) Kp fun x11 =>
 gdK x11 false (fun k => k v0) fun x13 =>
 gdK x11 false (opN p_ (sNil x13) Kp) fun x14 =>
 gdK x11 false (opN p_ (sFA 69 x14 1) Kp) fun x15 =>
 gdK x11 false (opN p_ (sLoad 22 x15) Kp) fun x16 =>
 gdK x11 false (opN p_ (sLen #[22] 3 [x16]) Kp) fun x17 =>
 gdK x11 false (opN p_ (sEq .eql 3 (.tmp 17) (.const (.int .i64 0)) x17 (.int .i64 0)) Kp) fun x18 =>
 opN p_ (sPick x11 (.bool true) x18) Kp fun x19 =>
 condS x19
 (K (.tuple #[(.slice none 0 0), x9]))
 (opN p_ (sCall (fn 48) []) Kp fun x21 =>
 drS (stS p_ (sNil v0) fun x23 =>
 stS p_ (sFA 69 x23 1) fun x24 =>
 stS p_ (sLoad 22 x24) fun x25 =>
 stS p_ (sNil v0) fun x27 =>
 stS p_ (sFA 69 x27 0) fun x28 =>
 stS p_ (sLoad 3 x28) fun x29 =>
 opN p_ (sCall (fn 49) [x25, x29]) Kp fun x30 =>
 stS p_ (sLen #[75] 3 [x30]) fun x31 =>
 loop1 (fun I1 m1 _ y32 =>
 opN p_ (sBin .lss 3 y32 x31) Kp fun x33 =>
 condS x33
 (opN p_ (sIA 75 x30 y32) Kp fun x34 =>
 opN p_ (sLoad 79 x34) Kp fun x35 =>
 opN p_ (sAlloc 79) Kp fun x7 =>
 opN p_ (sStore 79 x7 x35) Kp fun _ =>
 opN p_ (sLoad 79 x7) Kp fun x36 =>
 opN p_ (sCall (fn 50) [x36, x21, (.int .i64 0)]) Kp fun x38 =>
 opN p_ (sBin .add 3 y32 (.int .i64 1)) Kp fun x39 =>
 next1 I1 m1 x39)
 (opN p_ (sCall (fn 51) [x21, (.int .i64 0), (.int .i64 3)]) Kp fun x41 =>
 opN p_ (sBuild 79 []) Kp fun x42 =>
 opN p_ (sCall (fn 52) [x42, x21]) Kp fun x44 =>
 opN p_ (sNil v0) Kp fun x46 =>
 opN p_ (sFA 69 x46 1) Kp fun x47 =>
 opN p_ (sStore 22 x47 (.slice none 0 0)) Kp fun _ =>
 opN p_ (sCall (fn 53) [x21]) Kp fun x49 =>
 K (.tuple #[x49, (.int .i64 0)]))) (.int .i64 0)))
theorem deflate_Stream_Flush_s {v0 : Value} : Shp p_ 25 [v0] (deflate_Stream_Flush v0) := sh_ Tryz.call25 Tryz.func25 (an := { loops := [(6, [32])], drs := [(5, .ofL [(0, 1), (1, 1), (2, 1), (3, 1), (4, 1), (5, 1), (6, 1), (7, 1), (10, 2), (8, 0), (9, 1)])] }) fun _ _ => by kernel_rfl
def ref06_Stream_Flush (v0 : Value) (Kp : PK) (K : Value → WP) : WP :=
 opN p_ (sNil v0) Kp fun x8 =>
 opN p_ (sFA 71 x8 3) Kp fun x9 =>
 opN p_ (sLoad 4 x9) Kp fun x10 =>
 condS x10
 (K (.tuple #[(.slice none 0 0), (.int .i64 64)]))
 (opN p_ (sNil v0) Kp fun x12 =>
 opN p_ (sFA 71 x12 1) Kp fun x13 =>
 opN p_ (sLoad 22 x13) Kp fun x14 =>
 opN p_ (sLen #[22] 3 [x14]) Kp fun x15 =>
 opN p_ (sEq .eql 3 (.tmp 15) (.const (.int .i64 0)) x15 (.int .i64 0)) Kp fun x16 =>
 condS x16
 (K (.tuple #[(.slice none 0 0), (.int .i64 0)]))
 (opN p_ (sBuild 86 []) Kp fun x17 =>
 opN p_ (sBox 86 x17) Kp fun x18 =>
 drS (stS p_ (sNil v0) fun x20 =>
 stS p_ (sFA 71 x20 1) fun x21 =>
 stS p_ (sLoad 22 x21) fun x22 =>
 stS p_ (sNil v0) fun x24 =>
 stS p_ (sFA 71 x24 0) fun x25 =>
 stS p_ (sLoad 3 x25) fun x26 =>
 opN p_ (sCall (fn 54) [x22, x26]) Kp fun x27 =>
 loop1 (fun I1 m1 _ y6 =>
 opN p_ (sLen #[87] 3 [x27]) Kp fun x30 =>
 opN p_ (sBin .lss 3 y6 x30) Kp fun x31 =>
 condS x31
 (drS (stS p_ (sIA 87 x27 y6) fun x37 =>
 stS p_ (sLoad 92 x37) fun x38 =>
 stS p_ (sNil v0) fun x40 =>
 stS p_ (sFA 71 x40 0) fun x41 =>
 stS p_ (sLoad 3 x41) fun x42 =>
 opN p_ (sCall (fn 55) [x18, x38, x42, (.int .i64 0)]) Kp fun x43 =>
 opN p_ (sBin .add 3 y6 (.int .i64 1)) Kp fun x33 =>
 next1 I1 m1 x33))
 (opN p_ (sCall (fn 56) [x18, (.int .i64 0), (.int .i64 3)]) Kp fun x45 =>
 opN p_ (sCall (fn 57) [x18, (.slice none 0 0)]) Kp fun x47 =>
 opN p_ (sNil v0) Kp fun x49 =>
 opN p_ (sFA 71 x49 1) Kp fun x50 =>
 opN p_ (sStore 22 x50 (.slice none 0 0)) Kp fun _ =>
 opN p_ (sCall (fn 58) [x18]) Kp fun x52 =>
 K (.tuple #[x52, (.int .i64 0)]))) (.int .i64 0))))
theorem ref06_Stream_Flush_s {v0 : Value} : Shp p_ 26 [v0] (ref06_Stream_Flush v0) := sh_ Tryz.call26 Tryz.func26 (an := { loops := [(8, [6])], drs := [(6, .ofL [(0, 1), (1, 1), (2, 1), (3, 1), (4, 1), (5, 1), (6, 1), (7, 1), (8, 0), (9, 1)]), (10, .ofL [(0, 1), (1, 1), (2, 1), (3, 1), (4, 1), (5, 1), (6, 1), (7, 1), (8, 1), (9, 0)])] }) fun _ _ => by kernel_rfl
def deflate_Stream_Close (v0 : Value) (Kp : PK) (K : Value → WP) : WP :=
 opN p_ (sCall (fn 47) [v0]) Kp fun x6 =>
 opN p_ (sEq .neq 25 (.tmp 7) (.const (.int .i64 0)) x6 (.int .i64 0)) Kp fun x8 =>
 condS x8
 (K (.tuple #[(.slice none 0 0), x6]))
 (opN p_ (sNil v0) Kp fun x11 =>
 opN p_ (sFA 69 x11 4) Kp fun x12 =>
 opN p_ (sStore 4 x12 (.bool true)) Kp fun _ =>
 drS (stS p_ (sNil v0) fun x14 =>
 stS p_ (sFA 69 x14 1) fun x15 =>
 stS p_ (sLoad 22 x15) fun x16 =>
 stS p_ (sNil v0) fun x18 =>
 stS p_ (sFA 69 x18 0) fun x19 =>
 stS p_ (sLoad 3 x19) fun x20 =>
 opN p_ (sCall (fn 39) [x16, x20]) Kp fun x21 =>
 stS p_ (sExt x21 0) fun x22 =>
 stS p_ (sExt x21 1) fun x23 =>
 K (.tuple #[x22, x23])))
theorem deflate_Stream_Close_s {v0 : Value} : Shp p_ 27 [v0] (deflate_Stream_Close v0) := sh_ Tryz.call27 Tryz.func27 (an := { drs := [(5, .ofL [(0, 1), (1, 1), (2, 1), (3, 1), (4, 1), (5, 1), (6, 1), (7, 1), (8, 0), (9, 1), (10, 1), (11, 1), (12, 1)])] }) fun _ _ => by kernel_rfl
def ref06_Stream_Close (v0 : Value) (Kp : PK) (K : Value → WP) : WP :=
 opN p_ (sNil v0) Kp fun x5 =>
 opN p_ (sFA 71 x5 3) Kp fun x6 =>
 opN p_ (sLoad 4 x6) Kp fun x7 =>
 condS x7
 (K (.tuple #[(.slice none 0 0), (.int .i64 64)]))
 (opN p_ (sNil v0) Kp fun x9 =>
 opN p_ (sFA 71 x9 3) Kp fun x10 =>
 opN p_ (sStore 4 x10 (.bool true)) Kp fun _ =>
 drS (stS p_ (sNil v0) fun x12 =>
 stS p_ (sFA 71 x12 1) fun x13 =>
 stS p_ (sLoad 22 x13) fun x14 =>
 stS p_ (sNil v0) fun x16 =>
 stS p_ (sFA 71 x16 0) fun x17 =>
 stS p_ (sLoad 3 x17) fun x18 =>
 opN p_ (sCall (fn 42) [x14, x18]) Kp fun x19 =>
 stS p_ (sExt x19 0) fun x20 =>
 stS p_ (sExt x19 1) fun x21 =>
 K (.tuple #[x20, x21])))
theorem ref06_Stream_Close_s {v0 : Value} : Shp p_ 28 [v0] (ref06_Stream_Close v0) := sh_ Tryz.call28 Tryz.func28 (an := { drs := [(4, .ofL [(0, 1), (1, 1), (2, 1), (3, 1), (4, 1), (5, 1), (6, 1), (7, 1), (8, 0), (9, 1), (10, 1), (11, 1), (12, 1)])] }) fun _ _ => by kernel_rfl
def deflate_Deflate (v0 v1 : Value) (Kp : PK) (K : Value → WP) : WP :=
 opN p_ (sCall (fn 46) [v1]) Kp fun x13 =>
 condS x13
 (K (.tuple #[(.slice none 0 0), (.int .i64 1)]))
 (opN p_ (sLen #[22] 3 [v0]) Kp fun x16 =>
 opN p_ (sBin .gtr 3 x16 (.int .i64 524288)) Kp fun x17 =>
 condS x17
 (K (.tuple #[(.slice none 0 0), (.int .i64 6)]))
 (opN p_ (sCall (fn 48) []) Kp fun x18 =>
 opN p_ (sCall (fn 49) [v0, v1]) Kp fun x21 =>
 opN p_ (sLen #[75] 3 [x21]) Kp fun x23 =>
 loop1 (fun I1 m1 _ y24 =>
 opN p_ (sBin .lss 3 y24 x23) Kp fun x25 =>
 condS x25
 (opN p_ (sIA 75 x21 y24) Kp fun x27 =>
 opN p_ (sLoad 79 x27) Kp fun x28 =>
 opN p_ (sAlloc 79) Kp fun x9 =>
 opN p_ (sStore 79 x9 x28) Kp fun _ =>
 cut1 (fun J1 =>
 opN p_ (sLen #[75] 3 [x21]) Kp fun x31 =>
 opN p_ (sBin .sub 3 x31 (.int .i64 1)) Kp fun x32 =>
 opN p_ (sEq .eql 3 (.tmp 29) (.tmp 32) y24 x32) Kp fun x33 =>
 condS x33
 (J1 (.int .i64 1))
 (J1 (.int .i64 0))) fun _ z10 =>
 opN p_ (sLoad 79 x9) Kp fun x34 =>
 opN p_ (sCall (fn 50) [x34, x18, z10]) Kp fun x37 =>
 opN p_ (sBin .add 3 y24 (.int .i64 1)) Kp fun x38 =>
 next1 I1 m1 x38)
 (opN p_ (sCall (fn 53) [x18]) Kp fun x40 =>
 K (.tuple #[x40, (.int .i64 0)]))) (.int .i64 0)))
theorem deflate_Deflate_s {v0 v1 : Value} : Shp p_ 39 [v0, v1] (deflate_Deflate v0 v1) := sh_ Tryz.call39 Tryz.func39 (an := { cuts := [(13, [10])], loops := [(8, [24])] }) fun _ _ => by kernel_rfl
def ref06_Deflate (v0 v1 : Value) (Kp : PK) (K : Value → WP) : WP :=
 opN p_ (sBin .lss 3 v1 (.int .i64 0)) Kp fun x11 =>
 gdK x11 false (fun k => k v1) fun x13 =>
 gdK x11 false (opN p_ (sBin .gtr 3 x13 (.int .i64 9)) Kp) fun x14 =>
 opN p_ (sPick x11 (.bool true) x14) Kp fun x15 =>
 condS x15
 (K (.tuple #[(.slice none 0 0), (.int .i64 1)]))
 (opN p_ (sLen #[22] 3 [v0]) Kp fun x17 =>
 opN p_ (sBin .gtr 3 x17 (.int .i64 524288)) Kp fun x18 =>
 condS x18
 (K (.tuple #[(.slice none 0 0), (.int .i64 6)]))
 (opN p_ (sBuild 86 []) Kp fun x19 =>
 opN p_ (sBox 86 x19) Kp fun x20 =>
 opN p_ (sCall (fn 54) [v0, v1]) Kp fun x23 =>
 loop1 (fun I1 m1 _ y8 =>
 opN p_ (sLen #[87] 3 [x23]) Kp fun x26 =>
 opN p_ (sBin .lss 3 y8 x26) Kp fun x27 =>
 condS x27
 (cut1 (fun J1 =>
 opN p_ (sLen #[87] 3 [x23]) Kp fun x32 =>
 opN p_ (sBin .sub 3 x32 (.int .i64 1)) Kp fun x33 =>
 opN p_ (sEq .eql 3 (.tmp 30) (.tmp 33) y8 x33) Kp fun x34 =>
 condS x34
 (J1 (.int .i64 1))
 (J1 (.int .i64 0))) fun _ z9 =>
 opN p_ (sIA 87 x23 y8) Kp fun x38 =>
 opN p_ (sLoad 92 x38) Kp fun x39 =>
 opN p_ (sCall (fn 55) [x20, x39, v1, z9]) Kp fun x42 =>
 opN p_ (sBin .add 3 y8 (.int .i64 1)) Kp fun x29 =>
 next1 I1 m1 x29)
 (opN p_ (sCall (fn 58) [x20]) Kp fun x44 =>
 K (.tuple #[x44, (.int .i64 0)]))) (.int .i64 0)))
theorem ref06_Deflate_s {v0 v1 : Value} : Shp p_ 42 [v0, v1] (ref06_Deflate v0 v1) := sh_ Tryz.call42 Tryz.func42 (an := { cuts := [(13, [9])], loops := [(8, [8])] }) fun _ _ => by kernel_rfl
def deflate_wrong (v0 : Value) (Kp : PK) (K : Value -> WP) : WP :=
 opN p_ (sBin .lss 3 v0 (.int .i64 0)) Kp fun x4 =>
 gdK x4 false (fun k => k v0) fun x6 =>
 gdK x4 false (opN p_ (sBin .gtr 3 x6 (.int .i64 9)) Kp) fun x7 =>
 opN p_ (sPick x4 (.bool true) x7) Kp fun x8 =>
 K x8
theorem deflate_wrong_s {v0 : Value} : Shp p_ 46 [v0] (deflate_wrong v0) := sh_ Tryz.call46 Tryz.func46 (an := {}) fun _ _ => by kernel_rfl
def deflate_Stream_open (v0 : Value) (Kp : PK) (K : Value → WP) : WP :=
 cut1 (fun J1 =>
 opN p_ (sEq .eql 37 (.tmp 4) (.const (.pointer none)) v0 (.pointer none)) Kp fun x5 =>
 condS x5
 (J1 x5)
 (opN p_ (sNil v0) Kp fun x7 =>
 opN p_ (sFA 69 x7 3) Kp fun x8 =>
 opN p_ (sLoad 4 x8) Kp fun x9 =>
 opN p_ (sUn .not x9) Kp fun x10 =>
 J1 x10)) fun _ z3 =>
 condS z3
 (K (.int .i64 1))
 (opN p_ (sNil v0) Kp fun x13 =>
 opN p_ (sFA 69 x13 4) Kp fun x14 =>
 opN p_ (sLoad 4 x14) Kp fun x15 =>
 condS x15
 (K (.int .i64 64))
 (K (.int .i64 0)))
theorem deflate_Stream_open_s {v0 : Value} : Shp p_ 47 [v0] (deflate_Stream_open v0) := sh_ Tryz.call47 Tryz.func47 (an := { cuts := [(3, [3])] }) fun _ _ => by kernel_rfl
def bits_NewWriter (Kp : PK) (K : Value -> WP) : WP :=
 opN p_ (sBuild 104 [(2, (.bool true))]) Kp fun x1 =>
 opN p_ (sBox 104 x1) Kp fun x2 =>
 K x2
theorem bits_NewWriter_s  : Shp p_ 48 [] (bits_NewWriter) := sh_ Tryz.call48 Tryz.func48 (an := {}) fun _ _ => by kernel_rfl
def deflate_blocks (v0 v1 : Value) (Kp : PK) (K : Value → WP) : WP :=
 opN p_ (sBox 22 v0) Kp fun x2 =>
 opN p_ (sBox 3 v1) Kp fun x3 =>
 opN p_ (sAlloc 77) Kp fun x5 =>
 cut0 (fun J1 =>
 opN p_ (sLoad 3 x3) Kp fun x16 =>
 opN p_ (sBin .gtr 3 x16 (.int .i64 0)) Kp fun x17 =>
 condS x17
 (opN p_ (sLoad 22 x2) Kp fun x19 =>
 opN p_ (sLoad 3 x3) Kp fun x20 =>
 opN p_ (sConv 3 55 x20) Kp fun x21 =>
 opN p_ (sBin .shl 3 (.int .i64 2) x21) Kp fun x22 =>
 opN p_ (sCall (fn 64) [x19, (.int .i64 32768), x22]) Kp fun x23 =>
 opN p_ (sExt x23 0) Kp fun x24 =>
 opN p_ (sExt x23 1) Kp fun x25 =>
 opN p_ (sStore 77 x5 x24) Kp fun _ =>
 J1)
 (opN p_ (sLoad 22 x2) Kp fun x26 =>
 opN p_ (sLen #[22] 3 [x26]) Kp fun x27 =>
 loop1 (fun I1 m1 _ y28 =>
 opN p_ (sBin .lss 3 y28 x27) Kp fun x29 =>
 condS x29
 (opN p_ (sIA 22 x26 y28) Kp fun x30 =>
 opN p_ (sLoad 5 x30) Kp fun x31 =>
 opN p_ (sLoad 77 x5) Kp fun x32 =>
 opN p_ (sBuild 108 [(2, x31)]) Kp fun x34 =>
 opN p_ (sBuildSl 77 1 [(0, x34)]) Kp fun x35 =>
 opN p_ (sApp #[77, 77] 77 [x32, x35]) Kp fun x36 =>
 opN p_ (sStore 77 x5 x36) Kp fun _ =>
 opN p_ (sBin .add 3 y28 (.int .i64 1)) Kp fun x37 =>
 next1 I1 m1 x37)
 (J1)) (.int .i64 0))) fun _ =>
 opN p_ (sAlloc 75) Kp fun x8 =>
 opN p_ (sAlloc 3) Kp fun x9 =>
 opN p_ (sAlloc 3) Kp fun x10 =>
 opN p_ (sAlloc 3) Kp fun x11 =>
 opN p_ (sStore 3 x9 (.int .i64 0)) Kp fun _ =>
 opN p_ (sStore 3 x10 (.int .i64 0)) Kp fun _ =>
 opN p_ (sStore 3 x11 (.int .i64 0)) Kp fun _ =>
 opN p_ (sMkF (.func 65) [] [x8, x5, x9, x2, x10, x11, x3]) Kp fun x38 =>
 opN p_ (sLoad 77 x5) Kp fun x39 =>
 opN p_ (sLen #[77] 3 [x39]) Kp fun x40 =>
 loop1 (fun I2 m2 _ y41 =>
 opN p_ (sBin .lss 3 y41 x40) Kp fun x42 =>
 condS x42
 (opN p_ (sIA 77 x39 y41) Kp fun x44 =>
 opN p_ (sLoad 108 x44) Kp fun x45 =>
 opN p_ (sAlloc 108) Kp fun x14 =>
 opN p_ (sStore 108 x14 x45) Kp fun _ =>
 opN p_ (sLoad 3 x11) Kp fun x46 =>
 opN p_ (sFA 108 x14 0) Kp fun x47 =>
 opN p_ (sLoad 3 x47) Kp fun x48 =>
 opN p_ (sMax #[3, 3] 3 [(.int .i64 1), x48]) Kp fun x49 =>
 opN p_ (sBin .add 3 x46 x49) Kp fun x50 =>
 opN p_ (sStore 3 x11 x50) Kp fun _ =>
 opN p_ (sLoad 3 x11) Kp fun x51 =>
 opN p_ (sLoad 3 x10) Kp fun x52 =>
 opN p_ (sBin .sub 3 x51 x52) Kp fun x53 =>
 opN p_ (sLoad 3 x3) Kp fun x54 =>
 opN p_ (sEq .eql 3 (.tmp 54) (.const (.int .i64 0)) x54 (.int .i64 0)) Kp fun x55 =>
 gdK x55 true (fun k => k x53) fun x57 =>
 gdK x55 true (opN p_ (sEq .eql 3 (.tmp 57) (.const (.int .i64 30000)) x57 (.int .i64 30000)) Kp) fun x58 =>
 opN p_ (sPick x55 x58 (.bool false)) Kp fun x59 =>
 gdK x59 false (opN p_ (sLoad 3 x3) Kp) fun x61 =>
 gdK x59 false (opN p_ (sBin .gtr 3 x61 (.int .i64 0)) Kp) fun x62 =>
 gdK x59 false (fun k => k x62) fun x63 =>
 gdK x63 true (fun k => k y41) fun x64 =>
 gdK x63 true (opN p_ (sBin .add 3 x64 (.int .i64 1)) Kp) fun x65 =>
 gdK x63 true (opN p_ (sLoad 3 x9) Kp) fun x66 =>
 gdK x63 true (opN p_ (sBin .sub 3 x65 x66) Kp) fun x67 =>
 gdK x63 true (opN p_ (sEq .eql 3 (.tmp 67) (.const (.int .i64 8192)) x67 (.int .i64 8192)) Kp) fun x68 =>
 gdK x63 true (fun k => k x68) fun x69 =>
 gdK x69 false (fun k => k x53) fun x70 =>
 gdK x69 false (opN p_ (sBin .gtr 3 x70 (.int .i64 30000)) Kp) fun x71 =>
 gdK x63 true (opN p_ (sPick x69 (.bool true) x71) Kp) fun x72 =>
 gdK x59 false (opN p_ (sPick x63 x72 (.bool false)) Kp) fun x73 =>
 opN p_ (sPick x59 (.bool true) x73) Kp fun x74 =>
 condS x74
 (opN p_ (sBin .add 3 y41 (.int .i64 1)) Kp fun x77 =>
 opN p_ (sCall x38 [x77]) Kp fun x78 =>
 opN p_ (sBin .add 3 y41 (.int .i64 1)) Kp fun x79 =>
 next1 I2 m2 x79)
 (opN p_ (sBin .add 3 y41 (.int .i64 1)) Kp fun x79 =>
 next1 I2 m2 x79))
 (opN p_ (sLoad 3 x9) Kp fun x80 =>
 opN p_ (sLoad 77 x5) Kp fun x81 =>
 opN p_ (sLen #[77] 3 [x81]) Kp fun x82 =>
 opN p_ (sBin .lss 3 x80 x82) Kp fun x83 =>
 gdK x83 false (opN p_ (sLoad 75 x8) Kp) fun x85 =>
 gdK x83 false (opN p_ (sLen #[75] 3 [x85]) Kp) fun x86 =>
 gdK x83 false (opN p_ (sEq .eql 3 (.tmp 86) (.const (.int .i64 0)) x86 (.int .i64 0)) Kp) fun x87 =>
 opN p_ (sPick x83 (.bool true) x87) Kp fun x88 =>
 condS x88
 (opN p_ (sLoad 77 x5) Kp fun x90 =>
 opN p_ (sLen #[77] 3 [x90]) Kp fun x91 =>
 opN p_ (sCall x38 [x91]) Kp fun x92 =>
 opN p_ (sLoad 75 x8) Kp fun x93 =>
 K x93)
 (opN p_ (sLoad 75 x8) Kp fun x93 =>
 K x93))) (.int .i64 0)
theorem deflate_blocks_s {v0 v1 : Value} : Shp p_ 49 [v0, v1] (deflate_blocks v0 v1) := sh_ Tryz.call49 Tryz.func49 (an := { cuts := [(9, [])], loops := [(5, [28]), (13, [41])] }) fun _ _ => by kernel_rfl
def deflate_block_put (v0 v1 v2 : Value) (Kp : PK) (K : Value → WP) : WP :=
 opN p_ (sBox 79 v0) Kp fun x3 =>
 opN p_ (sBuild 111 [(0, (fn 52)), (1, (fn 66)), (2, (fn 67))]) Kp fun x12 =>
 opN p_ (sAlloc 111) Kp fun x6 =>
 opN p_ (sStore 111 x6 x12) Kp fun _ =>
 cut1 (fun J1 =>
 opN p_ (sFA 79 x3 2) Kp fun x13 =>
 opN p_ (sLoad 3 x13) Kp fun x14 =>
 opN p_ (sBin .gtr 3 x14 (.int .i64 0)) Kp fun x15 =>
 condS x15
 (drS (stD p_ (sLoad 79 x3) fun D0 x16 =>
 stD p_ (sIA 111 x6 (.int .i64 0)) fun D1 x17 =>
 stD p_ (sLoad 110 x17) fun D2 x18 =>
 opN p_ (sCall (fn 69) [v1]) Kp fun x20 =>
 (fun w => D2 w ∧ (fun w => D1 w ∧ (fun w => D0 w ∧ (opN p_ (sCall (fn 68) [x16, x18, x20]) Kp fun x21 =>
 opN p_ (sSl 111 x6 (some (.int .i64 1)) none none) Kp fun x22 =>
 opN p_ (sLen #[114] 3 [x22]) Kp fun x23 =>
 loop3 (fun I1 m1 _ y7 y8 y24 =>
 opN p_ (sBin .lss 3 y24 x23) Kp fun x25 =>
 condS x25
 (opN p_ (sIA 114 x22 y24) Kp fun x27 =>
 opN p_ (sLoad 110 x27) Kp fun x28 =>
 drS (stD p_ (sLoad 79 x3) fun D0 x29 =>
 opN p_ (sCall (fn 69) [v1]) Kp fun x32 =>
 (fun w => D0 w ∧ (opN p_ (sCall (fn 68) [x29, x28, x32]) Kp fun x33 =>
 opN p_ (sBin .lss 3 x33 y8) Kp fun x36 =>
 condS x36
 (opN p_ (sBin .add 3 y24 (.int .i64 1)) Kp fun x39 =>
 opN p_ (sBin .add 3 y24 (.int .i64 1)) Kp fun x40 =>
 next3 I1 m1 x39 x33 x40)
 (opN p_ (sBin .add 3 y24 (.int .i64 1)) Kp fun x40 =>
 next3 I1 m1 y7 y8 x40)) w)))
 (J1 y7)) (.int .i64 0) x21 (.int .i64 0)) w) w) w)))
 (J1 (.int .i64 0))) fun _ z7 =>
 opN p_ (sCall (fn 51) [v1, v2, (.int .i64 1)]) Kp fun x43 =>
 opN p_ (sCall (fn 51) [v1, z7, (.int .i64 2)]) Kp fun x46 =>
 drS (stS p_ (sIA 111 x6 z7) fun x48 =>
 stS p_ (sLoad 110 x48) fun x49 =>
 stS p_ (sLoad 79 x3) fun x50 =>
 opN p_ (sCall x49 [x50, v1]) Kp fun x52 =>
 K (.tuple #[]))
theorem deflate_block_put_s {v0 v1 v2 : Value} : Shp p_ 50 [v0, v1, v2] (deflate_block_put v0 v1 v2) := sh_ Tryz.call50 Tryz.func50 (an := { cuts := [(12, [7])], loops := [(6, [7, 8, 24])], drs := [(4, .ofL [(0, 3), (1, 3), (2, 3), (3, 1), (4, 0), (5, 0), (6, 1)]), (8, .ofL [(0, 3), (1, 2), (2, 1), (3, 0), (4, 0), (5, 1)]), (14, .ofL [(0, 1), (1, 1), (2, 1), (3, 1), (4, 1), (5, 0)])] }) fun _ _ => by kernel_rfl
def bits_Writer_Put (v0 v1 v2 : Value) (Kp : PK) (K : Value → WP) : WP :=
 cut1 (fun J1 =>
 opN p_ (sCall (fn 70) [v0]) Kp fun x11 =>
 condS x11
 (J1 x11)
 (opN p_ (sBin .lss 3 v2 (.int .i64 0)) Kp fun x13 =>
 condS x13
 (J1 x13)
 (opN p_ (sBin .gtr 3 v2 (.int .i64 32)) Kp fun x15 =>
 condS x15
 (J1 x15)
 (opN p_ (sBin .lss 3 v1 (.int .i64 0)) Kp fun x17 =>
 condS x17
 (J1 x17)
 (opN p_ (sMin #[3, 3] 3 [v2, (.int .i64 32)]) Kp fun x20 =>
 opN p_ (sMax #[3, 3] 3 [(.int .i64 0), x20]) Kp fun x21 =>
 opN p_ (sConv 3 55 x21) Kp fun x22 =>
 opN p_ (sBin .shl 3 (.int .i64 1) x22) Kp fun x23 =>
 opN p_ (sBin .geq 3 v1 x23) Kp fun x24 =>
 J1 x24))))) fun _ z9 =>
 condS z9
 (K (.int .i64 1))
 (opN p_ (sNil v0) Kp fun x28 =>
 opN p_ (sFA 104 x28 1) Kp fun x29 =>
 opN p_ (sLoad 3 x29) Kp fun x30 =>
 opN p_ (sBin .sub 3 (.int .i64 8388608) x30) Kp fun x31 =>
 opN p_ (sBin .gtr 3 v2 x31) Kp fun x32 =>
 condS x32
 (K (.int .i64 6))
 (opN p_ (sCall (fn 71) []) Kp fun x33 =>
 opN p_ (sAlloc 115) Kp fun x7 =>
 opN p_ (sStore 115 x7 x33) Kp fun _ =>
 loop1 (fun I1 m1 _ y35 =>
 opN p_ (sBin .lss 3 y35 v2) Kp fun x36 =>
 condS x36
 (cut0 (fun J2 =>
 opN p_ (sNil v0) Kp fun x39 =>
 opN p_ (sFA 104 x39 1) Kp fun x40 =>
 opN p_ (sLoad 3 x40) Kp fun x41 =>
 opN p_ (sBin .rem 3 x41 (.int .i64 8)) Kp fun x42 =>
 opN p_ (sEq .eql 3 (.tmp 42) (.const (.int .i64 0)) x42 (.int .i64 0)) Kp fun x43 =>
 condS x43
 (opN p_ (sNil v0) Kp fun x46 =>
 opN p_ (sFA 104 x46 0) Kp fun x47 =>
 opN p_ (sLoad 22 x47) Kp fun x48 =>
 opN p_ (sBuildSl 22 1 [(0, (.int .u8 0))]) Kp fun x49 =>
 opN p_ (sApp #[22, 22] 22 [x48, x49]) Kp fun x50 =>
 opN p_ (sNil v0) Kp fun x51 =>
 opN p_ (sFA 104 x51 0) Kp fun x52 =>
 opN p_ (sStore 22 x52 x50) Kp fun _ =>
 J2)
 (J2)) fun _ =>
 cut0 (fun J3 =>
 opN p_ (sConv 3 55 y35) Kp fun x55 =>
 opN p_ (sBin .shr 3 v1 x55) Kp fun x56 =>
 opN p_ (sBin .and 3 x56 (.int .i64 1)) Kp fun x57 =>
 opN p_ (sEq .eql 3 (.tmp 57) (.const (.int .i64 1)) x57 (.int .i64 1)) Kp fun x58 =>
 condS x58
 (drS (stS p_ (sNil v0) fun x60 =>
 stS p_ (sFA 104 x60 0) fun x61 =>
 stS p_ (sLoad 22 x61) fun x62 =>
 stS p_ (sNil v0) fun x64 =>
 stS p_ (sFA 104 x64 1) fun x65 =>
 stS p_ (sLoad 3 x65) fun x66 =>
 stS p_ (sBin .quo 3 x66 (.int .i64 8)) fun x67 =>
 stS p_ (sIA 22 x62 x67) fun x68 =>
 stS p_ (sLoad 5 x68) fun x69 =>
 stS p_ (sNil v0) fun x71 =>
 stS p_ (sFA 104 x71 1) fun x72 =>
 stS p_ (sLoad 3 x72) fun x73 =>
 stS p_ (sBin .rem 3 x73 (.int .i64 8)) fun x74 =>
 stS p_ (sIA 115 x7 x74) fun x75 =>
 stS p_ (sLoad 5 x75) fun x76 =>
 stS p_ (sBin .or 5 x69 x76) fun x77 =>
 stS p_ (sIA 22 x62 x67) fun x78 =>
 opN p_ (sStore 5 x78 x77) Kp fun _ =>
 J3))
 (J3)) fun _ =>
 opN p_ (sNil v0) Kp fun x80 =>
 opN p_ (sFA 104 x80 1) Kp fun x81 =>
 opN p_ (sLoad 3 x81) Kp fun x82 =>
 opN p_ (sBin .add 3 x82 (.int .i64 1)) Kp fun x83 =>
 opN p_ (sNil v0) Kp fun x84 =>
 opN p_ (sFA 104 x84 1) Kp fun x85 =>
 opN p_ (sStore 3 x85 x83) Kp fun _ =>
 opN p_ (sBin .add 3 y35 (.int .i64 1)) Kp fun x86 =>
 next1 I1 m1 x86)
 (K (.int .i64 0))) (.int .i64 0)))
theorem bits_Writer_Put_s {v0 v1 v2 : Value} : Shp p_ 51 [v0, v1, v2] (bits_Writer_Put v0 v1 v2) := sh_ Tryz.call51 Tryz.func51 (an := { cuts := [(6, [9]), (15, []), (17, [])], loops := [(11, [35])], drs := [(16, .ofL [(0, 1), (1, 1), (2, 1), (3, 1), (4, 1), (5, 1), (6, 1), (7, 1), (8, 1), (9, 1), (10, 1), (11, 1), (12, 1), (13, 1), (14, 1), (15, 1), (16, 1), (17, 1), (18, 1), (19, 1), (20, 0)])] }) fun _ _ => by kernel_rfl
def deflate_block_stored (v0 v1 : Value) (Kp : PK) (K : Value -> WP) : WP :=
 opN p_ (sBox 79 v0) Kp fun x2 =>
 opN p_ (sCall (fn 72) [v1]) Kp fun x5 =>
 opN p_ (sFA 79 x2 1) Kp fun x7 =>
 opN p_ (sLoad 22 x7) Kp fun x8 =>
 opN p_ (sLen #[22] 3 [x8]) Kp fun x9 =>
 opN p_ (sCall (fn 51) [v1, x9, (.int .i64 16)]) Kp fun x10 =>
 opN p_ (sFA 79 x2 1) Kp fun x12 =>
 opN p_ (sLoad 22 x12) Kp fun x13 =>
 opN p_ (sLen #[22] 3 [x13]) Kp fun x14 =>
 opN p_ (sBin .sub 3 (.int .i64 65535) x14) Kp fun x15 =>
 opN p_ (sCall (fn 51) [v1, x15, (.int .i64 16)]) Kp fun x16 =>
 opN p_ (sFA 79 x2 1) Kp fun x18 =>
 opN p_ (sLoad 22 x18) Kp fun x19 =>
 opN p_ (sCall (fn 73) [v1, x19]) Kp fun x20 =>
 K (.tuple #[])
theorem deflate_block_stored_s {v0 v1 : Value} : Shp p_ 52 [v0, v1] (deflate_block_stored v0 v1) := sh_ Tryz.call52 Tryz.func52 (an := {}) fun _ _ => by kernel_rfl
def bits_Writer_Bytes (v0 : Value) (Kp : PK) (K : Value → WP) : WP :=
 opN p_ (sCall (fn 70) [v0]) Kp fun x4 =>
 condS x4
 (K (.slice none 0 0))
 (opN p_ (sNil v0) Kp fun x6 =>
 opN p_ (sFA 104 x6 0) Kp fun x7 =>
 opN p_ (sLoad 22 x7) Kp fun x8 =>
 opN p_ (sApp #[22, 22] 22 [(.slice none 0 0), x8]) Kp fun x9 =>
 K x9)
theorem bits_Writer_Bytes_s {v0 : Value} : Shp p_ 53 [v0] (bits_Writer_Bytes v0) := sh_ Tryz.call53 Tryz.func53 (an := {}) fun _ _ => by kernel_rfl
def ref06_blocks (v0 v1 : Value) (Kp : PK) (K : Value → WP) : WP :=
 opN p_ (sCall (fn 74) [v0, v1]) Kp fun x14 =>
 opN p_ (sBuild 92 []) Kp fun x15 =>
 opN p_ (sAlloc 92) Kp fun x7 =>
 opN p_ (sStore 92 x7 x15) Kp fun _ =>
 loop3 (fun I1 m1 _ y6 y8 y9 =>
 opN p_ (sLen #[90] 3 [x14]) Kp fun x18 =>
 opN p_ (sBin .lss 3 y9 x18) Kp fun x19 =>
 condS x19
 (opN p_ (sIA 90 x14 y9) Kp fun x24 =>
 opN p_ (sFA 118 x24 0) Kp fun x25 =>
 opN p_ (sLoad 3 x25) Kp fun x26 =>
 opN p_ (sMax #[3, 3] 3 [(.int .i64 1), x26]) Kp fun x27 =>
 drS (stD p_ (sFA 92 x7 0) fun D0 x28 =>
 stD p_ (sLoad 90 x28) fun D1 x29 =>
 stS p_ (sIA 90 x14 y9) fun x32 =>
 stS p_ (sLoad 118 x32) fun x33 =>
 opN p_ (sBuildSl 90 1 [(0, x33)]) Kp fun x34 =>
 (fun w => D1 w ∧ (fun w => D0 w ∧ (opN p_ (sApp #[90, 90] 90 [x29, x34]) Kp fun x35 =>
 stS p_ (sFA 92 x7 0) fun x36 =>
 opN p_ (sStore 90 x36 x35) Kp fun _ =>
 drS (stS p_ (sFA 92 x7 1) fun x37 =>
 stS p_ (sLoad 22 x37) fun x38 =>
 stS p_ (sBin .add 3 y8 x27) fun x43 =>
 stS p_ (sSl 22 v0 (some y8) (some x43) none) fun x44 =>
 opN p_ (sApp #[22, 22] 22 [x38, x44]) Kp fun x45 =>
 stS p_ (sFA 92 x7 1) fun x46 =>
 opN p_ (sStore 22 x46 x45) Kp fun _ =>
 opN p_ (sBin .add 3 y8 x27) Kp fun x49 =>
 opN p_ (sFA 92 x7 0) Kp fun x50 =>
 opN p_ (sLoad 90 x50) Kp fun x51 =>
 opN p_ (sLen #[90] 3 [x51]) Kp fun x52 =>
 opN p_ (sEq .eql 3 (.tmp 52) (.const (.int .i64 8192)) x52 (.int .i64 8192)) Kp fun x53 =>
 gdK x53 false (opN p_ (sFA 92 x7 1) Kp) fun x55 =>
 gdK x53 false (opN p_ (sLoad 22 x55) Kp) fun x56 =>
 gdK x53 false (opN p_ (sLen #[22] 3 [x56]) Kp) fun x57 =>
 gdK x53 false (opN p_ (sBin .gtr 3 x57 (.int .i64 30000)) Kp) fun x58 =>
 opN p_ (sPick x53 (.bool true) x58) Kp fun x59 =>
 cut1 (fun J1 =>
 opN p_ (sEq .eql 3 (.tmp 60) (.const (.int .i64 0)) v1 (.int .i64 0)) Kp fun x61 =>
 condS x61
 (opN p_ (sFA 92 x7 1) Kp fun x62 =>
 opN p_ (sLoad 22 x62) Kp fun x63 =>
 opN p_ (sLen #[22] 3 [x63]) Kp fun x64 =>
 opN p_ (sEq .eql 3 (.tmp 64) (.const (.int .i64 30000)) x64 (.int .i64 30000)) Kp fun x65 =>
 J1 x65)
 (J1 x59)) fun _ z11 =>
 condS z11
 (opN p_ (sLoad 92 x7) Kp fun x68 =>
 opN p_ (sBuildSl 87 1 [(0, x68)]) Kp fun x69 =>
 opN p_ (sApp #[87, 87] 87 [y6, x69]) Kp fun x70 =>
 opN p_ (sBuild 92 []) Kp fun x71 =>
 opN p_ (sStore 92 x7 x71) Kp fun _ =>
 opN p_ (sBin .add 3 y9 (.int .i64 1)) Kp fun x21 =>
 next3 I1 m1 x70 x49 x21)
 (opN p_ (sBin .add 3 y9 (.int .i64 1)) Kp fun x21 =>
 next3 I1 m1 y6 x49 x21))) w) w)))
 (opN p_ (sFA 92 x7 0) Kp fun x72 =>
 opN p_ (sLoad 90 x72) Kp fun x73 =>
 opN p_ (sLen #[90] 3 [x73]) Kp fun x74 =>
 opN p_ (sBin .gtr 3 x74 (.int .i64 0)) Kp fun x75 =>
 gdK x75 false (fun k => k y6) fun x77 =>
 gdK x75 false (opN p_ (sLen #[87] 3 [x77]) Kp) fun x78 =>
 gdK x75 false (opN p_ (sEq .eql 3 (.tmp 78) (.const (.int .i64 0)) x78 (.int .i64 0)) Kp) fun x79 =>
 opN p_ (sPick x75 (.bool true) x79) Kp fun x80 =>
 condS x80
 (opN p_ (sLoad 92 x7) Kp fun x82 =>
 opN p_ (sBuildSl 87 1 [(0, x82)]) Kp fun x83 =>
 opN p_ (sApp #[87, 87] 87 [y6, x83]) Kp fun x84 =>
 K x84)
 (K y6))) (.slice none 0 0) (.int .i64 0) (.int .i64 0)
theorem ref06_blocks_s {v0 v1 : Value} : Shp p_ 54 [v0, v1] (ref06_blocks v0 v1) := sh_ Tryz.call54 Tryz.func54 (an := { cuts := [(15, [11])], loops := [(6, [6, 8, 9])], drs := [(9, .ofL [(0, 3), (1, 3), (2, 1), (3, 1), (4, 1), (5, 1), (6, 0), (7, 0), (8, 1), (9, 0)]), (10, .ofL [(0, 1), (1, 1), (2, 1), (3, 1), (4, 1), (5, 1), (6, 1), (7, 1), (8, 0), (9, 1), (10, 0)])] }) fun _ _ => by kernel_rfl
def ref06_put (v0 v1 v2 v3 : Value) (Kp : PK) (K : Value → WP) : WP :=
 opN p_ (sBox 92 v1) Kp fun x5 =>
 loop1 (fun I1 m1 _ y8 =>
 opN p_ (sNil v0) Kp fun x13 =>
 opN p_ (sFA 86 x13 0) Kp fun x14 =>
 opN p_ (sLoad 22 x14) Kp fun x15 =>
 opN p_ (sLen #[22] 3 [x15]) Kp fun x16 =>
 opN p_ (sBin .add 3 x16 y8) Kp fun x18 =>
 opN p_ (sBin .rem 3 x18 (.int .i64 8)) Kp fun x19 =>
 opN p_ (sEq .neq 3 (.tmp 19) (.const (.int .i64 0)) x19 (.int .i64 0)) Kp fun x20 =>
 condS x20
 (opN p_ (sBin .add 3 y8 (.int .i64 1)) Kp fun x22 =>
 next1 I1 m1 x22)
 (opN p_ (sBin .add 3 y8 (.int .i64 32)) Kp fun x24 =>
 opN p_ (sFA 92 x5 1) Kp fun x25 =>
 opN p_ (sLoad 22 x25) Kp fun x26 =>
 opN p_ (sLen #[22] 3 [x26]) Kp fun x27 =>
 opN p_ (sBin .mul 3 (.int .i64 8) x27) Kp fun x28 =>
 opN p_ (sBin .add 3 x24 x28) Kp fun x29 =>
 loop3 (fun I2 m2 _ y8_2 y9 y10 =>
 opN p_ (sBin .leq 3 y10 (.int .i64 2)) Kp fun x31 =>
 gdK x31 true (fun k => k v2) fun x33 =>
 gdK x31 true (opN p_ (sBin .gtr 3 x33 (.int .i64 0)) Kp) fun x34 =>
 opN p_ (sPick x31 x34 (.bool false)) Kp fun x35 =>
 condS x35
 (opN p_ (sLoad 92 x5) Kp fun x40 =>
 opN p_ (sCall (fn 75) [y10, v3, x40]) Kp fun x41 =>
 opN p_ (sNil x41) Kp fun x43 =>
 opN p_ (sFA 86 x43 0) Kp fun x44 =>
 opN p_ (sLoad 22 x44) Kp fun x45 =>
 opN p_ (sLen #[22] 3 [x45]) Kp fun x46 =>
 opN p_ (sBin .lss 3 x46 y8_2) Kp fun x48 =>
 condS x48
 (opN p_ (sNil x41) Kp fun x50 =>
 opN p_ (sFA 86 x50 0) Kp fun x51 =>
 opN p_ (sLoad 22 x51) Kp fun x52 =>
 opN p_ (sLen #[22] 3 [x52]) Kp fun x53 =>
 opN p_ (sBin .add 3 y10 (.int .i64 1)) Kp fun x37 =>
 next3 I2 m2 x53 x41 x37)
 (opN p_ (sBin .add 3 y10 (.int .i64 1)) Kp fun x37 =>
 next3 I2 m2 y8_2 y9 x37))
 (opN p_ (sEq .neq 84 (.tmp 55) (.const (.pointer none)) y9 (.pointer none)) Kp fun x56 =>
 condS x56
 (drS (stS p_ (sNil v0) fun x59 =>
 stS p_ (sFA 86 x59 0) fun x60 =>
 stS p_ (sLoad 22 x60) fun x61 =>
 stS p_ (sNil y9) fun x63 =>
 stS p_ (sFA 86 x63 0) fun x64 =>
 stS p_ (sLoad 22 x64) fun x65 =>
 opN p_ (sApp #[22, 22] 22 [x61, x65]) Kp fun x66 =>
 stS p_ (sNil v0) fun x67 =>
 stS p_ (sFA 86 x67 0) fun x68 =>
 opN p_ (sStore 22 x68 x66) Kp fun _ =>
 K (.tuple #[])))
 (opN p_ (sCall (fn 56) [v0, v3, (.int .i64 1)]) Kp fun x71 =>
 opN p_ (sCall (fn 56) [v0, (.int .i64 0), (.int .i64 2)]) Kp fun x73 =>
 opN p_ (sFA 92 x5 1) Kp fun x75 =>
 opN p_ (sLoad 22 x75) Kp fun x76 =>
 opN p_ (sCall (fn 57) [v0, x76]) Kp fun x77 =>
 K (.tuple #[])))) x29 (.pointer none) (.int .i64 1))) (.int .i64 3)
theorem ref06_put_s {v0 v1 v2 v3 : Value} : Shp p_ 55 [v0, v1, v2, v3] (ref06_put v0 v1 v2 v3) := sh_ Tryz.call55 Tryz.func55 (an := { loops := [(2, [8]), (7, [8, 9, 10])], drs := [(14, .ofL [(0, 2), (1, 1), (2, 1), (3, 1), (4, 1), (5, 1), (6, 1), (7, 1), (8, 1), (9, 0), (10, 1), (11, 1), (12, 0)])] }) fun _ _ => by kernel_rfl
def ref02_Writer_Put (v0 v1 v2 : Value) (Kp : PK) (K : Value → WP) : WP :=
 opN p_ (sBin .lss 3 v2 (.int .i64 0)) Kp fun x9 =>
 gdK x9 false (fun k => k v2) fun x11 =>
 gdK x9 false (opN p_ (sBin .gtr 3 x11 (.int .i64 32)) Kp) fun x12 =>
 opN p_ (sPick x9 (.bool true) x12) Kp fun x13 =>
 gdK x13 false (fun k => k v1) fun x15 =>
 gdK x13 false (opN p_ (sBin .lss 3 x15 (.int .i64 0)) Kp) fun x16 =>
 opN p_ (sPick x13 (.bool true) x16) Kp fun x17 =>
 gdK x17 false (fun k => k v1) fun x19 =>
 gdK x17 false (fun k => k v2) fun x20 =>
 gdK x17 false (opN p_ (sConv 3 55 x20) Kp) fun x21 =>
 gdK x17 false (opN p_ (sBin .shl 3 (.int .i64 1) x21) Kp) fun x22 =>
 gdK x17 false (opN p_ (sBin .geq 3 x19 x22) Kp) fun x23 =>
 opN p_ (sPick x17 (.bool true) x23) Kp fun x24 =>
 condS x24
 (K (.int .i64 1))
 (opN p_ (sNil v0) Kp fun x27 =>
 opN p_ (sFA 86 x27 0) Kp fun x28 =>
 opN p_ (sLoad 22 x28) Kp fun x29 =>
 opN p_ (sLen #[22] 3 [x29]) Kp fun x30 =>
 opN p_ (sBin .sub 3 (.int .i64 8388608) x30) Kp fun x31 =>
 opN p_ (sBin .gtr 3 v2 x31) Kp fun x32 =>
 condS x32
 (K (.int .i64 6))
 (loop1 (fun I1 m1 _ y7 =>
 opN p_ (sBin .lss 3 y7 v2) Kp fun x35 =>
 condS x35
 (opN p_ (sNil v0) Kp fun x40 =>
 opN p_ (sFA 86 x40 0) Kp fun x41 =>
 opN p_ (sLoad 22 x41) Kp fun x42 =>
 opN p_ (sConv 3 55 y7) Kp fun x45 =>
 opN p_ (sBin .shr 3 v1 x45) Kp fun x46 =>
 opN p_ (sBin .and 3 x46 (.int .i64 1)) Kp fun x47 =>
 opN p_ (sConv 3 5 x47) Kp fun x48 =>
 opN p_ (sBuildSl 22 1 [(0, x48)]) Kp fun x49 =>
 opN p_ (sApp #[22, 22] 22 [x42, x49]) Kp fun x50 =>
 opN p_ (sNil v0) Kp fun x51 =>
 opN p_ (sFA 86 x51 0) Kp fun x52 =>
 opN p_ (sStore 22 x52 x50) Kp fun _ =>
 opN p_ (sBin .add 3 y7 (.int .i64 1)) Kp fun x37 =>
 next1 I1 m1 x37)
 (K (.int .i64 0))) (.int .i64 0)))
theorem ref02_Writer_Put_s {v0 v1 v2 : Value} : Shp p_ 56 [v0, v1, v2] (ref02_Writer_Put v0 v1 v2) := sh_ Tryz.call56 Tryz.func56 (an := { loops := [(6, [7])] }) fun _ _ => by kernel_rfl
def ref06_stored (v0 v1 : Value) (Kp : PK) (K : Value -> WP) : WP :=
 opN p_ (sCall (fn 76) [v0]) Kp fun x5 =>
 opN p_ (sLen #[22] 3 [v1]) Kp fun x8 =>
 opN p_ (sCall (fn 56) [v0, x8, (.int .i64 16)]) Kp fun x9 =>
 opN p_ (sLen #[22] 3 [v1]) Kp fun x12 =>
 opN p_ (sBin .sub 3 (.int .i64 65535) x12) Kp fun x13 =>
 opN p_ (sCall (fn 56) [v0, x13, (.int .i64 16)]) Kp fun x14 =>
 opN p_ (sCall (fn 77) [v0, v1]) Kp fun x17 =>
 K (.tuple #[])
theorem ref06_stored_s {v0 v1 : Value} : Shp p_ 57 [v0, v1] (ref06_stored v0 v1) := sh_ Tryz.call57 Tryz.func57 (an := {}) fun _ _ => by kernel_rfl
def ref02_Writer_Bytes (v0 : Value) (Kp : PK) (K : Value -> WP) : WP :=
 opN p_ (sNil v0) Kp fun x6 =>
 opN p_ (sFA 86 x6 0) Kp fun x7 =>
 opN p_ (sLoad 22 x7) Kp fun x8 =>
 opN p_ (sLen #[22] 3 [x8]) Kp fun x9 =>
 opN p_ (sBin .add 3 x9 (.int .i64 7)) Kp fun x10 =>
 opN p_ (sBin .quo 3 x10 (.int .i64 8)) Kp fun x11 =>
 opN p_ (sMkSl 22 x11 x11) Kp fun x12 =>
 loop1 (fun I1 m1 _ y4 =>
 opN p_ (sNil v0) Kp fun x15 =>
 opN p_ (sFA 86 x15 0) Kp fun x16 =>
 opN p_ (sLoad 22 x16) Kp fun x17 =>
 opN p_ (sLen #[22] 3 [x17]) Kp fun x18 =>
 opN p_ (sBin .lss 3 y4 x18) Kp fun x19 =>
 condS x19
 (drS (stS p_ (sBin .quo 3 y4 (.int .i64 8)) fun x24 =>
 stS p_ (sBin .quo 3 y4 (.int .i64 8)) fun x27 =>
 stS p_ (sIA 22 x12 x27) fun x28 =>
 stS p_ (sLoad 5 x28) fun x29 =>
 stS p_ (sNil v0) fun x31 =>
 stS p_ (sFA 86 x31 0) fun x32 =>
 stS p_ (sLoad 22 x32) fun x33 =>
 stS p_ (sIA 22 x33 y4) fun x35 =>
 stS p_ (sLoad 5 x35) fun x36 =>
 stS p_ (sBin .rem 3 y4 (.int .i64 8)) fun x38 =>
 stS p_ (sConv 3 55 x38) fun x39 =>
 stS p_ (sBin .shl 5 x36 x39) fun x40 =>
 stS p_ (sBin .or 5 x29 x40) fun x41 =>
 stS p_ (sIA 22 x12 x24) fun x42 =>
 opN p_ (sStore 5 x42 x41) Kp fun _ =>
 opN p_ (sBin .add 3 y4 (.int .i64 1)) Kp fun x21 =>
 next1 I1 m1 x21))
 (K x12)) (.int .i64 0)
theorem ref02_Writer_Bytes_s {v0 : Value} : Shp p_ 58 [v0] (ref02_Writer_Bytes v0) := sh_ Tryz.call58 Tryz.func58 (an := { loops := [(3, [4])], drs := [(5, .ofL [(0, 1), (1, 1), (2, 1), (3, 1), (4, 1), (5, 1), (6, 1), (7, 1), (8, 1), (9, 1), (10, 1), (11, 1), (12, 1), (13, 1), (14, 1), (15, 1), (16, 1), (17, 1), (18, 1), (19, 1), (20, 1), (21, 0)])] }) fun _ _ => by kernel_rfl
def lz_Pieces (v0 v1 v2 : Value) (Kp : PK) (K : Value → WP) : WP :=
 cut1 (fun J1 =>
 opN p_ (sBin .lss 3 v1 (.int .i64 1)) Kp fun x14 =>
 condS x14
 (J1 x14)
 (opN p_ (sBin .gtr 3 v1 (.int .i64 32768)) Kp fun x16 =>
 condS x16
 (J1 x16)
 (opN p_ (sBin .lss 3 v2 (.int .i64 0)) Kp fun x18 =>
 condS x18
 (J1 x18)
 (opN p_ (sBin .gtr 3 v2 (.int .i64 4096)) Kp fun x20 =>
 J1 x20)))) fun _ z12 =>
 condS z12
 (K (.tuple #[(.slice none 0 0), (.int .i64 1)]))
 (opN p_ (sLen #[22] 3 [v0]) Kp fun x23 =>
 opN p_ (sBin .gtr 3 x23 (.int .i64 1048576)) Kp fun x24 =>
 condS x24
 (K (.tuple #[(.slice none 0 0), (.int .i64 6)]))
 (opN p_ (sMkMap 125 none) Kp fun x26 =>
 opN p_ (sBuild 127 [(0, v0), (1, x26), (3, v1), (4, v2)]) Kp fun x29 =>
 opN p_ (sBox 127 x29) Kp fun x30 =>
 loop2 (fun I1 m1 _ y9 y10 =>
 opN p_ (sLen #[22] 3 [v0]) Kp fun x33 =>
 opN p_ (sBin .lss 3 y10 x33) Kp fun x34 =>
 condS x34
 (opN p_ (sCall (fn 84) [x30, y10]) Kp fun x37 =>
 opN p_ (sCall (fn 85) [x30, y10]) Kp fun x40 =>
 opN p_ (sAlloc 108) Kp fun x11 =>
 opN p_ (sStore 108 x11 x40) Kp fun _ =>
 opN p_ (sLoad 108 x11) Kp fun x42 =>
 opN p_ (sBuildSl 77 1 [(0, x42)]) Kp fun x43 =>
 opN p_ (sApp #[77, 77] 77 [y9, x43]) Kp fun x44 =>
 opN p_ (sFA 108 x11 0) Kp fun x46 =>
 opN p_ (sLoad 3 x46) Kp fun x47 =>
 opN p_ (sMax #[3, 3] 3 [(.int .i64 1), x47]) Kp fun x48 =>
 opN p_ (sBin .add 3 y10 x48) Kp fun x49 =>
 next2 I1 m1 x44 x49)
 (K (.tuple #[y9, (.int .i64 0)]))) (.slice none 0 0) (.int .i64 0)))
theorem lz_Pieces_s {v0 v1 v2 : Value} : Shp p_ 64 [v0, v1, v2] (lz_Pieces v0 v1 v2) := sh_ Tryz.call64 Tryz.func64 (an := { cuts := [(5, [12])], loops := [(11, [9, 10])] }) fun _ _ => by kernel_rfl
def deflate_blocks_1 (v0 v1 v2 v3 v4 v5 v6 v7 : Value) (Kp : PK) (K : Value -> WP) : WP :=
 drS (stD p_ (sLoad 75 v1) fun D0 x9 =>
 stS p_ (sLoad 77 v2) fun x10 =>
 stS p_ (sLoad 3 v3) fun x11 =>
 stS p_ (sSl 77 x10 (some x11) (some v0) none) fun x13 =>
 stS p_ (sLoad 22 v4) fun x14 =>
 stS p_ (sLoad 3 v5) fun x15 =>
 stS p_ (sLoad 3 v6) fun x16 =>
 stS p_ (sSl 22 x14 (some x15) (some x16) none) fun x17 =>
 stS p_ (sLoad 3 v7) fun x18 =>
 stS p_ (sBuild 79 [(0, x13), (1, x17), (2, x18)]) fun x19 =>
 opN p_ (sBuildSl 75 1 [(0, x19)]) Kp fun x20 =>
 (fun w => D0 w /\ (opN p_ (sApp #[75, 75] 75 [x9, x20]) Kp fun x21 =>
 opN p_ (sStore 75 v1 x21) Kp fun _ =>
 drS (stD p_ (sLoad 3 v6) fun D1 x23 =>
 opN p_ (sStore 3 v3 v0) Kp fun _ =>
 (fun w => D1 w /\ (opN p_ (sStore 3 v5 x23) Kp fun _ =>
 K (.tuple #[])) w))) w))
theorem deflate_blocks_1_s {v0 v1 v2 v3 v4 v5 v6 v7 : Value} : Shp p_ 65 [v0, v1, v2, v3, v4, v5, v6, v7] (deflate_blocks_1 v0 v1 v2 v3 v4 v5 v6 v7) := sh_ Tryz.call65 Tryz.func65 (an := { drs := [(0, .ofL [(0, 3), (1, 1), (2, 1), (3, 1), (4, 1), (5, 1), (6, 1), (7, 1), (8, 1), (9, 1), (10, 1), (11, 0), (12, 0), (13, 0)]), (1, .ofL [(0, 1), (1, 3), (2, 0), (3, 0)])] }) fun _ _ => by kernel_rfl
def deflate_block_fixed (v0 v1 : Value) (Kp : PK) (K : Value -> WP) : WP :=
 opN p_ (sBox 79 v0) Kp fun x2 =>
 opN p_ (sCall (fn 86) []) Kp fun x7 =>
 opN p_ (sExt x7 0) Kp fun x8 =>
 opN p_ (sExt x7 1) Kp fun x9 =>
 drS (stD p_ (sLoad 79 x2) fun D0 x10 =>
 opN p_ (sCall (fn 88) [x8]) Kp fun x12 =>
 (fun w => D0 w /\ (opN p_ (sCall (fn 88) [x9]) Kp fun x14 =>
 (fun w => D0 w /\ (opN p_ (sCall (fn 89) [v1]) Kp fun x16 =>
 (fun w => D0 w /\ (opN p_ (sCall (fn 87) [x10, x12, x14, x16]) Kp fun x17 =>
 K (.tuple #[])) w)) w)) w))
theorem deflate_block_fixed_s {v0 v1 : Value} : Shp p_ 66 [v0, v1] (deflate_block_fixed v0 v1) := sh_ Tryz.call66 Tryz.func66 (an := { drs := [(2, .ofL [(0, 3), (1, 1), (3, 2), (5, 2), (2, 0), (4, 0), (6, 0), (7, 0)])] }) fun _ _ => by kernel_rfl
def deflate_block_dynamic (v0 v1 : Value) (Kp : PK) (K : Value -> WP) : WP :=
 opN p_ (sBox 79 v0) Kp fun x2 =>
 opN p_ (sLoad 79 x2) Kp fun x7 =>
 opN p_ (sCall (fn 90) [x7]) Kp fun x8 =>
 opN p_ (sExt x8 0) Kp fun x9 =>
 opN p_ (sExt x8 1) Kp fun x10 =>
 opN p_ (sAlloc 134) Kp fun x4 =>
 opN p_ (sAlloc 134) Kp fun x5 =>
 opN p_ (sStore 134 x4 x9) Kp fun _ =>
 opN p_ (sStore 134 x5 x10) Kp fun _ =>
 opN p_ (sLoad 134 x4) Kp fun x12 =>
 opN p_ (sLoad 134 x5) Kp fun x13 =>
 opN p_ (sCall (fn 91) [v1, x12, x13]) Kp fun x14 =>
 drS (stD p_ (sLoad 79 x2) fun D0 x15 =>
 stD p_ (sLoad 134 x4) fun D1 x16 =>
 stD p_ (sLoad 134 x5) fun D2 x17 =>
 opN p_ (sCall (fn 89) [v1]) Kp fun x19 =>
 (fun w => D2 w /\ (fun w => D1 w /\ (fun w => D0 w /\ (opN p_ (sCall (fn 87) [x15, x16, x17, x19]) Kp fun x20 =>
 K (.tuple #[])) w) w) w))
theorem deflate_block_dynamic_s {v0 v1 : Value} : Shp p_ 67 [v0, v1] (deflate_block_dynamic v0 v1) := sh_ Tryz.call67 Tryz.func67 (an := { drs := [(3, .ofL [(0, 3), (1, 3), (2, 3), (3, 1), (4, 0), (5, 0)])] }) fun _ _ => by kernel_rfl
def deflate_block_size (v0 v1 v2 : Value) (Kp : PK) (K : Value -> WP) : WP :=
 opN p_ (sBox 79 v0) Kp fun x3 =>
 opN p_ (sCall (fn 48) []) Kp fun x8 =>
 opN p_ (sBin .rem 3 v2 (.int .i64 8)) Kp fun x11 =>
 opN p_ (sCall (fn 51) [x8, (.int .i64 0), x11]) Kp fun x12 =>
 opN p_ (sCall (fn 51) [x8, (.int .i64 0), (.int .i64 3)]) Kp fun x14 =>
 opN p_ (sLoad 79 x3) Kp fun x16 =>
 opN p_ (sCall v1 [x16, x8]) Kp fun x18 =>
 opN p_ (sCall (fn 69) [x8]) Kp fun x20 =>
 opN p_ (sBin .rem 3 v2 (.int .i64 8)) Kp fun x22 =>
 opN p_ (sBin .sub 3 x20 x22) Kp fun x23 =>
 K x23
theorem deflate_block_size_s {v0 v1 v2 : Value} : Shp p_ 68 [v0, v1, v2] (deflate_block_size v0 v1 v2) := sh_ Tryz.call68 Tryz.func68 (an := {}) fun _ _ => by kernel_rfl
def bits_Writer_Bits (v0 : Value) (Kp : PK) (K : Value → WP) : WP :=
 opN p_ (sCall (fn 70) [v0]) Kp fun x4 =>
 condS x4
 (K (.int .i64 0))
 (opN p_ (sNil v0) Kp fun x6 =>
 opN p_ (sFA 104 x6 1) Kp fun x7 =>
 opN p_ (sLoad 3 x7) Kp fun x8 =>
 K x8)
theorem bits_Writer_Bits_s {v0 : Value} : Shp p_ 69 [v0] (bits_Writer_Bits v0) := sh_ Tryz.call69 Tryz.func69 (an := {}) fun _ _ => by kernel_rfl
def bits_Writer_none (v0 : Value) (Kp : PK) (K : Value -> WP) : WP :=
 opN p_ (sEq .eql 73 (.tmp 3) (.const (.pointer none)) v0 (.pointer none)) Kp fun x4 =>
 gdK x4 false (fun k => k v0) fun x6 =>
 gdK x4 false (opN p_ (sNil x6) Kp) fun x7 =>
 gdK x4 false (opN p_ (sFA 104 x7 2) Kp) fun x8 =>
 gdK x4 false (opN p_ (sLoad 4 x8) Kp) fun x9 =>
 gdK x4 false (opN p_ (sUn .not x9) Kp) fun x10 =>
 opN p_ (sPick x4 (.bool true) x10) Kp fun x11 =>
 K x11
theorem bits_Writer_none_s {v0 : Value} : Shp p_ 70 [v0] (bits_Writer_none v0) := sh_ Tryz.call70 Tryz.func70 (an := {}) fun _ _ => by kernel_rfl
def bits_masks (Kp : PK) (K : Value -> WP) : WP :=
 opN p_ (sAlloc 115) Kp fun x0 =>
 opN p_ (sBuild 115 [(0, (.int .u8 1)), (1, (.int .u8 2)), (2, (.int .u8 4)), (3, (.int .u8 8)), (4, (.int .u8 16)), (5, (.int .u8 32)), (6, (.int .u8 64)), (7, (.int .u8 128))]) Kp fun x1 =>
 opN p_ (sStore 115 x0 x1) Kp fun _ =>
 (stS p_ (sRes 115 x0) fun r0 => K r0)
theorem bits_masks_s  : Shp p_ 71 [] (bits_masks) := sh_ Tryz.call71 Tryz.func71 (an := {}) fun _ _ => by kernel_rfl
def bits_Writer_Align (v0 : Value) (Kp : PK) (K : Value → WP) : WP :=
 opN p_ (sCall (fn 70) [v0]) Kp fun x3 =>
 opN p_ (sUn .not x3) Kp fun x4 =>
 condS x4
 (opN p_ (sNil v0) Kp fun x7 =>
 opN p_ (sFA 104 x7 0) Kp fun x8 =>
 opN p_ (sLoad 22 x8) Kp fun x9 =>
 opN p_ (sLen #[22] 3 [x9]) Kp fun x10 =>
 opN p_ (sBin .mul 3 (.int .i64 8) x10) Kp fun x11 =>
 opN p_ (sNil v0) Kp fun x12 =>
 opN p_ (sFA 104 x12 1) Kp fun x13 =>
 opN p_ (sStore 3 x13 x11) Kp fun _ =>
 K (.tuple #[]))
 (K (.tuple #[]))
theorem bits_Writer_Align_s {v0 : Value} : Shp p_ 72 [v0] (bits_Writer_Align v0) := sh_ Tryz.call72 Tryz.func72 (an := {}) fun _ _ => by kernel_rfl
def bits_Writer_Raw (v0 v1 : Value) (Kp : PK) (K : Value → WP) : WP :=
 opN p_ (sCall (fn 70) [v0]) Kp fun x7 =>
 condS x7
 (K (.int .i64 1))
 (opN p_ (sLen #[22] 3 [v1]) Kp fun x10 =>
 opN p_ (sNil v0) Kp fun x12 =>
 opN p_ (sFA 104 x12 0) Kp fun x13 =>
 opN p_ (sLoad 22 x13) Kp fun x14 =>
 opN p_ (sLen #[22] 3 [x14]) Kp fun x15 =>
 opN p_ (sBin .sub 3 (.int .i64 1048576) x15) Kp fun x16 =>
 opN p_ (sBin .gtr 3 x10 x16) Kp fun x17 =>
 condS x17
 (K (.int .i64 6))
 (opN p_ (sNil v0) Kp fun x20 =>
 opN p_ (sFA 104 x20 0) Kp fun x21 =>
 opN p_ (sLoad 22 x21) Kp fun x22 =>
 opN p_ (sApp #[22, 22] 22 [x22, v1]) Kp fun x24 =>
 opN p_ (sNil v0) Kp fun x25 =>
 opN p_ (sFA 104 x25 0) Kp fun x26 =>
 opN p_ (sStore 22 x26 x24) Kp fun _ =>
 opN p_ (sCall (fn 72) [v0]) Kp fun x28 =>
 K (.int .i64 0)))
theorem bits_Writer_Raw_s {v0 v1 : Value} : Shp p_ 73 [v0, v1] (bits_Writer_Raw v0 v1) := sh_ Tryz.call73 Tryz.func73 (an := {}) fun _ _ => by kernel_rfl
def ref06_pieces (v0 v1 : Value) (Kp : PK) (K : Value → WP) : WP :=
 opN p_ (sEq .eql 3 (.tmp 9) (.const (.int .i64 0)) v1 (.int .i64 0)) Kp fun x10 =>
 condS x10
 (loop2 (fun I1 m1 _ y5 y6 =>
 opN p_ (sLen #[22] 3 [v0]) Kp fun x13 =>
 opN p_ (sBin .lss 3 y6 x13) Kp fun x14 =>
 condS x14
 (opN p_ (sIA 22 v0 y6) Kp fun x20 =>
 opN p_ (sLoad 5 x20) Kp fun x21 =>
 opN p_ (sBuild 118 [(2, x21)]) Kp fun x22 =>
 opN p_ (sBuildSl 90 1 [(0, x22)]) Kp fun x23 =>
 opN p_ (sApp #[90, 90] 90 [y5, x23]) Kp fun x24 =>
 opN p_ (sBin .add 3 y6 (.int .i64 1)) Kp fun x16 =>
 next2 I1 m1 x24 x16)
 (K y5)) (.slice none 0 0) (.int .i64 0))
 (opN p_ (sConv 3 55 v1) Kp fun x29 =>
 opN p_ (sBin .shl 3 (.int .i64 2) x29) Kp fun x30 =>
 opN p_ (sCall (fn 92) [v0, (.int .i64 32768), x30]) Kp fun x31 =>
 opN p_ (sExt x31 0) Kp fun x32 =>
 opN p_ (sExt x31 1) Kp fun x33 =>
 K x32)
theorem ref06_pieces_s {v0 v1 : Value} : Shp p_ 74 [v0, v1] (ref06_pieces v0 v1) := sh_ Tryz.call74 Tryz.func74 (an := { loops := [(4, [5, 6])] }) fun _ _ => by kernel_rfl
def ref06_way (v0 v1 v2 : Value) (Kp : PK) (K : Value → WP) : WP :=
 opN p_ (sBox 92 v2) Kp fun x5 =>
 opN p_ (sBuild 86 []) Kp fun x12 =>
 opN p_ (sBox 86 x12) Kp fun x13 =>
 opN p_ (sCall (fn 56) [x13, v1, (.int .i64 1)]) Kp fun x16 =>
 opN p_ (sCall (fn 56) [x13, v0, (.int .i64 2)]) Kp fun x19 =>
 opN p_ (sEq .eql 3 (.tmp 20) (.const (.int .i64 1)) v0 (.int .i64 1)) Kp fun x22 =>
 condS x22
 (opN p_ (sCall (fn 93) []) Kp fun x24 =>
 opN p_ (sExt x24 0) Kp fun x25 =>
 opN p_ (sExt x24 1) Kp fun x26 =>
 opN p_ (sLoad 92 x5) Kp fun x28 =>
 opN p_ (sCall (fn 94) [x13, x28, x25, x26]) Kp fun x31 =>
 K x13)
 (opN p_ (sEq .eql 3 (.tmp 20) (.const (.int .i64 2)) v0 (.int .i64 2)) Kp fun x33 =>
 condS x33
 (opN p_ (sLoad 92 x5) Kp fun x35 =>
 opN p_ (sCall (fn 95) [x35]) Kp fun x36 =>
 opN p_ (sExt x36 0) Kp fun x37 =>
 opN p_ (sExt x36 1) Kp fun x38 =>
 opN p_ (sCall (fn 96) [x13, x37, x38]) Kp fun x42 =>
 opN p_ (sLoad 92 x5) Kp fun x44 =>
 opN p_ (sCall (fn 94) [x13, x44, x37, x38]) Kp fun x47 =>
 K x13)
 (K x13))
theorem ref06_way_s {v0 v1 v2 : Value} : Shp p_ 75 [v0, v1, v2] (ref06_way v0 v1 v2) := sh_ Tryz.call75 Tryz.func75 (an := {}) fun _ _ => by kernel_rfl
def ref02_Writer_Align (v0 : Value) (Kp : PK) (K : Value → WP) : WP :=
 loop0 (fun I1 m1 _  =>
 opN p_ (sNil v0) Kp fun x3 =>
 opN p_ (sFA 86 x3 0) Kp fun x4 =>
 opN p_ (sLoad 22 x4) Kp fun x5 =>
 opN p_ (sLen #[22] 3 [x5]) Kp fun x6 =>
 opN p_ (sBin .rem 3 x6 (.int .i64 8)) Kp fun x7 =>
 opN p_ (sEq .neq 3 (.tmp 7) (.const (.int .i64 0)) x7 (.int .i64 0)) Kp fun x8 =>
 condS x8
 (opN p_ (sNil v0) Kp fun x11 =>
 opN p_ (sFA 86 x11 0) Kp fun x12 =>
 opN p_ (sLoad 22 x12) Kp fun x13 =>
 opN p_ (sBuildSl 22 1 [(0, (.int .u8 0))]) Kp fun x14 =>
 opN p_ (sApp #[22, 22] 22 [x13, x14]) Kp fun x15 =>
 opN p_ (sNil v0) Kp fun x16 =>
 opN p_ (sFA 86 x16 0) Kp fun x17 =>
 opN p_ (sStore 22 x17 x15) Kp fun _ =>
 next0 I1 m1)
 (K (.tuple #[])))
theorem ref02_Writer_Align_s {v0 : Value} : Shp p_ 76 [v0] (ref02_Writer_Align v0) := sh_ Tryz.call76 Tryz.func76 (an := { loops := [(0, [])] }) fun _ _ => by kernel_rfl
def ref02_Writer_Raw (v0 v1 : Value) (Kp : PK) (K : Value → WP) : WP :=
 opN p_ (sNil v0) Kp fun x8 =>
 opN p_ (sFA 86 x8 0) Kp fun x9 =>
 opN p_ (sLoad 22 x9) Kp fun x10 =>
 opN p_ (sLen #[22] 3 [x10]) Kp fun x11 =>
 opN p_ (sBin .add 3 x11 (.int .i64 7)) Kp fun x12 =>
 opN p_ (sBin .quo 3 x12 (.int .i64 8)) Kp fun x13 =>
 opN p_ (sLen #[22] 3 [v1]) Kp fun x15 =>
 opN p_ (sBin .sub 3 (.int .i64 1048576) x13) Kp fun x17 =>
 opN p_ (sBin .gtr 3 x15 x17) Kp fun x18 =>
 condS x18
 (K (.int .i64 6))
 (opN p_ (sCall (fn 76) [v0]) Kp fun x20 =>
 loop1 (fun I1 m1 _ y6 =>
 opN p_ (sLen #[22] 3 [v1]) Kp fun x23 =>
 opN p_ (sBin .lss 3 y6 x23) Kp fun x24 =>
 condS x24
 (opN p_ (sIA 22 v1 y6) Kp fun x30 =>
 opN p_ (sLoad 5 x30) Kp fun x31 =>
 opN p_ (sConv 5 3 x31) Kp fun x32 =>
 opN p_ (sCall (fn 56) [v0, x32, (.int .i64 8)]) Kp fun x33 =>
 opN p_ (sBin .add 3 y6 (.int .i64 1)) Kp fun x26 =>
 next1 I1 m1 x26)
 (K (.int .i64 0))) (.int .i64 0))
theorem ref02_Writer_Raw_s {v0 v1 : Value} : Shp p_ 77 [v0, v1] (ref02_Writer_Raw v0 v1) := sh_ Tryz.call77 Tryz.func77 (an := { loops := [(6, [6])] }) fun _ _ => by kernel_rfl
def lz_finder_learn (v0 v1 : Value) (Kp : PK) (K : Value → WP) : WP :=
 loop0 (fun I1 m1 _  =>
 drS (stS p_ (sNil v0) fun x6 =>
 stS p_ (sFA 127 x6 2) fun x7 =>
 stS p_ (sLoad 3 x7) fun x8 =>
 stS p_ (sBin .lss 3 x8 v1) fun x10 =>
 gdK x10 true (fun k => k v0) fun x12 =>
 gdK x10 true (stS p_ (sNil x12)) fun x13 =>
 gdK x10 true (stS p_ (sFA 127 x13 2)) fun x14 =>
 gdK x10 true (stS p_ (sLoad 3 x14)) fun x15 =>
 gdK x10 true (stS p_ (sBin .add 3 x15 (.int .i64 3))) fun x16 =>
 gdK x10 true (fun k => k v0) fun x17 =>
 gdK x10 true (stS p_ (sNil x17)) fun x18 =>
 gdK x10 true (stS p_ (sFA 127 x18 0)) fun x19 =>
 gdK x10 true (stS p_ (sLoad 22 x19)) fun x20 =>
 gdK x10 true (stS p_ (sLen #[22] 3 [x20])) fun x21 =>
 gdK x10 true (stS p_ (sBin .leq 3 x16 x21)) fun x22 =>
 stS p_ (sPick x10 x22 (.bool false)) fun x23 =>
 condS x23
 (drS (stD p_ (sNil v0) fun D1 x32 =>
 stD p_ (sFA 127 x32 0) fun D2 x33 =>
 stD p_ (sLoad 22 x33) fun D3 x34 =>
 stD p_ (sNil v0) fun D5 x36 =>
 stD p_ (sFA 127 x36 2) fun D6 x37 =>
 stD p_ (sLoad 3 x37) fun D7 x38 =>
 stD p_ (sSl 22 x34 (some x38) none none) fun D8 x39 =>
 stD p_ (sArrP 147 x39) fun D9 x40 =>
 stD p_ (sLoad 147 x40) fun D10 x41 =>
 opN p_ (sAlloc 147) Kp fun x4 =>
 (fun w => D10 w ∧ (fun w => D9 w ∧ (fun w => D8 w ∧ (fun w => D7 w ∧ (fun w => D6 w ∧ (fun w => D5 w ∧ (fun w => D3 w ∧ (fun w => D2 w ∧ (fun w => D1 w ∧ (opN p_ (sStore 147 x4 x41) Kp fun _ =>
 drS (stD p_ (sNil v0) fun D1 x43 =>
 stD p_ (sFA 127 x43 1) fun D2 x44 =>
 stD p_ (sLoad 125 x44) fun D3 x45 =>
 stD p_ (sLoad 147 x4) fun D4 x46 =>
 stS p_ (sNil v0) fun x49 =>
 stS p_ (sFA 127 x49 2) fun x50 =>
 stS p_ (sLoad 3 x50) fun x51 =>
 opN p_ (sBuildSl 129 1 [(0, x51)]) Kp fun x52 =>
 (fun w => D4 w ∧ (fun w => D3 w ∧ (fun w => D2 w ∧ (fun w => D1 w ∧ (opN p_ (sMapEnt 125 x45 x46) Kp fun x53 =>
 stS p_ (sExt x53 0) fun x47 =>
 stD p_ (sExt x53 1) fun D13 x55 =>
 opN p_ (sApp #[129, 129] 129 [x47, x52]) Kp fun x54 =>
 (fun w => D13 w ∧ (opN p_ (sEntSt 125 x45 x55 x54) Kp fun _ =>
 opN p_ (sNil v0) Kp fun x25 =>
 opN p_ (sFA 127 x25 2) Kp fun x26 =>
 opN p_ (sLoad 3 x26) Kp fun x27 =>
 opN p_ (sBin .add 3 x27 (.int .i64 1)) Kp fun x28 =>
 opN p_ (sNil v0) Kp fun x29 =>
 opN p_ (sFA 127 x29 2) Kp fun x30 =>
 opN p_ (sStore 3 x30 x28) Kp fun _ =>
 next0 I1 m1) w)) w) w) w) w))) w) w) w) w) w) w) w) w) w)))
 (K (.tuple #[]))))
theorem lz_finder_learn_s {v0 v1 : Value} : Shp p_ 84 [v0, v1] (lz_finder_learn v0 v1) := sh_ Tryz.call84 Tryz.func84 (an := { loops := [(0, [])], drs := [(0, .ofL [(0, 1), (1, 1), (2, 1), (3, 1), (4, 1), (5, 1), (6, 1), (7, 1), (8, 1), (9, 1), (10, 1), (11, 1), (12, 1), (13, 1), (14, 1), (15, 1), (16, 1), (17, 1), (18, 1)]), (2, .ofL [(0, 2), (1, 3), (2, 3), (3, 3), (4, 2), (5, 3), (6, 3), (7, 3), (8, 3), (9, 3), (10, 3), (11, 0), (12, 0)]), (3, .ofL [(0, 2), (1, 3), (2, 3), (3, 3), (4, 3), (5, 1), (6, 1), (7, 1), (8, 1), (9, 0), (10, 0), (11, 1), (13, 3), (12, 0), (14, 0)])] }) fun _ _ => by kernel_rfl
def lz_finder_piece (v0 v1 : Value) (Kp : PK) (K : Value → WP) : WP :=
 opN p_ (sBox 124 v0) Kp fun x2 =>
 opN p_ (sBox 3 v1) Kp fun x3 =>
 opN p_ (sAlloc 108) Kp fun x4 =>
 drS (stD p_ (sLoad 124 x2) fun D0 x8 =>
 stD p_ (sNil x8) fun D1 x9 =>
 stD p_ (sFA 127 x9 0) fun D2 x10 =>
 stD p_ (sLoad 22 x10) fun D3 x11 =>
 stD p_ (sLoad 3 x3) fun D4 x12 =>
 stD p_ (sIA 22 x11 x12) fun D5 x13 =>
 stD p_ (sLoad 5 x13) fun D6 x14 =>
 stD p_ (sBuild 108 [(2, x14)]) fun D7 x15 =>
 opN p_ (sAlloc 108) Kp fun x5 =>
 (fun w => D7 w ∧ (fun w => D6 w ∧ (fun w => D5 w ∧ (fun w => D4 w ∧ (fun w => D3 w ∧ (fun w => D2 w ∧ (fun w => D1 w ∧ (fun w => D0 w ∧ (opN p_ (sStore 108 x5 x15) Kp fun _ =>
 opN p_ (sLoad 124 x2) Kp fun x16 =>
 opN p_ (sLoad 3 x3) Kp fun x17 =>
 opN p_ (sCall (fn 101) [x16, x17]) Kp fun x18 =>
 rfS p_ x18 1 (fun u19 B1 N1 J1r =>
 B1 (opN p_ (sLoad 124 x2) noK fun x20 =>
 opN p_ (sLoad 3 x3) noK fun x22 =>
 opN p_ (sCall (fn 102) [x20, u19, x22]) noK fun x23 =>
 opN p_ (sFA 108 x5 0) noK fun x25 =>
 opN p_ (sLoad 3 x25) noK fun x26 =>
 opN p_ (sBin .gtr 3 x23 x26) noK fun x27 =>
 condS x27
 (opN p_ (sLoad 3 x3) noK fun x29 =>
 opN p_ (sBin .sub 3 x29 u19) noK fun x31 =>
 opN p_ (sBuild 108 [(0, x23), (1, x31)]) noK fun x32 =>
 opN p_ (sStore 108 x5 x32) noK fun _ =>
 N1)
 (N1))) (fun d1 =>
 opN p_ (sLoad 108 x5) (KpM [d1] Kp) fun x33 =>
 opN p_ (sStore 108 x4 x33) (KpM [d1] Kp) fun _ =>
 (tkS d1 ((stS p_ (sRes 108 x4) fun r0 => K r0)))) (fun d1 => (tkS d1 ((stS p_ (sRes 108 x4) fun r0 => K r0)))) (fun d1 ch => (tkS d1 (Kp ch)))) w) w) w) w) w) w) w) w))
theorem lz_finder_piece_s {v0 v1 : Value} : Shp p_ 85 [v0, v1] (lz_finder_piece v0 v1) := shT_ Tryz.call85 Tryz.func85 (an := { drs := [(1, .ofL [(0, 3), (1, 3), (2, 3), (3, 3), (4, 3), (5, 3), (6, 3), (7, 3), (8, 0), (9, 0)])] }) fun _ _ => by kernel_rfl
def inflate_Fixed (Kp : PK) (K : Value -> WP) : WP :=
 opN p_ (sCall (fn 103) [(.slice none 0 0), (.int .i64 144), (.int .i64 8)]) Kp fun x7 =>
 opN p_ (sCall (fn 103) [x7, (.int .i64 112), (.int .i64 9)]) Kp fun x8 =>
 opN p_ (sCall (fn 103) [x8, (.int .i64 24), (.int .i64 7)]) Kp fun x9 =>
 opN p_ (sCall (fn 103) [x9, (.int .i64 8), (.int .i64 8)]) Kp fun x10 =>
 opN p_ (sCall (fn 103) [(.slice none 0 0), (.int .i64 32), (.int .i64 5)]) Kp fun x13 =>
 K (.tuple #[x10, x13])
theorem inflate_Fixed_s  : Shp p_ 86 [] (inflate_Fixed) := sh_ Tryz.call86 Tryz.func86 (an := {}) fun _ _ => by kernel_rfl
def deflate_block_symbols (v0 v1 v2 v3 : Value) (Kp : PK) (K : Value → WP) : WP :=
 opN p_ (sBox 79 v0) Kp fun x4 =>
 opN p_ (sBox 134 v1) Kp fun x5 =>
 opN p_ (sBox 134 v2) Kp fun x6 =>
 opN p_ (sFA 79 x4 0) Kp fun x13 =>
 opN p_ (sLoad 77 x13) Kp fun x14 =>
 opN p_ (sLen #[77] 3 [x14]) Kp fun x15 =>
 loop1 (fun I1 m1 _ y16 =>
 opN p_ (sBin .lss 3 y16 x15) Kp fun x17 =>
 condS x17
 (opN p_ (sIA 77 x14 y16) Kp fun x18 =>
 opN p_ (sLoad 108 x18) Kp fun x19 =>
 opN p_ (sAlloc 108) Kp fun x9 =>
 opN p_ (sStore 108 x9 x19) Kp fun _ =>
 opN p_ (sFA 108 x9 0) Kp fun x20 =>
 opN p_ (sLoad 3 x20) Kp fun x21 =>
 opN p_ (sEq .eql 3 (.tmp 21) (.const (.int .i64 0)) x21 (.int .i64 0)) Kp fun x22 =>
 condS x22
 (opN p_ (sLoad 134 x5) Kp fun x24 =>
 opN p_ (sFA 108 x9 2) Kp fun x25 =>
 opN p_ (sLoad 5 x25) Kp fun x26 =>
 opN p_ (sConv 5 3 x26) Kp fun x27 =>
 opN p_ (sCall v3 [x24, x27, (.int .i64 0), (.int .i64 0)]) Kp fun x28 =>
 opN p_ (sBin .add 3 y16 (.int .i64 1)) Kp fun x55 =>
 next1 I1 m1 x55)
 (opN p_ (sFA 108 x9 0) Kp fun x30 =>
 opN p_ (sLoad 3 x30) Kp fun x31 =>
 opN p_ (sCall (fn 104) [x31]) Kp fun x32 =>
 opN p_ (sExt x32 0) Kp fun x33 =>
 opN p_ (sExt x32 1) Kp fun x34 =>
 opN p_ (sExt x32 2) Kp fun x35 =>
 opN p_ (sLoad 134 x5) Kp fun x37 =>
 opN p_ (sCall v3 [x37, x33, x34, x35]) Kp fun x41 =>
 opN p_ (sFA 108 x9 1) Kp fun x43 =>
 opN p_ (sLoad 3 x43) Kp fun x44 =>
 opN p_ (sCall (fn 105) [x44]) Kp fun x45 =>
 opN p_ (sExt x45 0) Kp fun x46 =>
 opN p_ (sExt x45 1) Kp fun x47 =>
 opN p_ (sExt x45 2) Kp fun x48 =>
 opN p_ (sLoad 134 x6) Kp fun x50 =>
 opN p_ (sCall v3 [x50, x46, x47, x48]) Kp fun x54 =>
 opN p_ (sBin .add 3 y16 (.int .i64 1)) Kp fun x55 =>
 next1 I1 m1 x55))
 (opN p_ (sLoad 134 x5) Kp fun x57 =>
 opN p_ (sCall v3 [x57, (.int .i64 256), (.int .i64 0), (.int .i64 0)]) Kp fun x58 =>
 K (.tuple #[]))) (.int .i64 0)
theorem deflate_block_symbols_s {v0 v1 v2 v3 : Value} : Shp p_ 87 [v0, v1, v2, v3] (deflate_block_symbols v0 v1 v2 v3) := sh_ Tryz.call87 Tryz.func87 (an := { loops := [(2, [16])] }) fun _ _ => by kernel_rfl
def deflate_newSet (v0 : Value) (Kp : PK) (K : Value -> WP) : WP :=
 opN p_ (sAlloc 134) Kp fun x2 =>
 opN p_ (sCall (fn 106) [v0]) Kp fun x7 =>
 opN p_ (sExt x7 0) Kp fun x8 =>
 opN p_ (sExt x7 1) Kp fun x9 =>
 opN p_ (sBuild 134 [(0, v0), (1, x8)]) Kp fun x12 =>
 opN p_ (sStore 134 x2 x12) Kp fun _ =>
 (stS p_ (sRes 134 x2) fun r0 => K r0)
theorem deflate_newSet_s {v0 : Value} : Shp p_ 88 [v0] (deflate_newSet v0) := sh_ Tryz.call88 Tryz.func88 (an := {}) fun _ _ => by kernel_rfl
def deflate_into (v0 : Value) (Kp : PK) (K : Value -> WP) : WP :=
 opN p_ (sBox 73 v0) Kp fun x1 =>
 opN p_ (sMkF (.func 107) [] [x1]) Kp fun x3 =>
 K x3
theorem deflate_into_s {v0 : Value} : Shp p_ 89 [v0] (deflate_into v0) := sh_ Tryz.call89 Tryz.func89 (an := {}) fun _ _ => by kernel_rfl
def deflate_block_own (v0 : Value) (Kp : PK) (K : Value → WP) : WP :=
 opN p_ (sBox 79 v0) Kp fun x1 =>
 opN p_ (sAlloc 134) Kp fun x2 =>
 opN p_ (sAlloc 134) Kp fun x3 =>
 cut1 (fun J1 =>
 drS (andS (opN p_ (sMkSl 129 (.int .i64 286) (.int .i64 286)) Kp fun x9 =>
 andS (opN p_ (sMkSl 129 (.int .i64 30) (.int .i64 30)) Kp fun x10 =>
 stD p_ (sBuild 163 [(0, x9), (1, x10)]) fun D2 x11 =>
 opN p_ (sAlloc 163) Kp fun x4 =>
 (fun w => D2 w ∧ (opN p_ (sStore 163 x4 x11) Kp fun _ =>
 J1 x4) w))
 (opN p_ (sAlloc 163) Kp fun x4 =>
 opN p_ (sMkSl 129 (.int .i64 30) (.int .i64 30)) Kp fun x10 =>
 stS p_ (sBuild 163 [(0, x9), (1, x10)]) fun x11 =>
 opN p_ (sStore 163 x4 x11) Kp fun _ =>
 J1 x4))
 (andS (opN p_ (sMkSl 129 (.int .i64 30) (.int .i64 30)) Kp fun x10 =>
 andS (opN p_ (sMkSl 129 (.int .i64 286) (.int .i64 286)) Kp fun x9 =>
 stD p_ (sBuild 163 [(0, x9), (1, x10)]) fun D2 x11 =>
 opN p_ (sAlloc 163) Kp fun x4 =>
 (fun w => D2 w ∧ (opN p_ (sStore 163 x4 x11) Kp fun _ =>
 J1 x4) w))
 (opN p_ (sAlloc 163) Kp fun x4 =>
 opN p_ (sMkSl 129 (.int .i64 286) (.int .i64 286)) Kp fun x9 =>
 stS p_ (sBuild 163 [(0, x9), (1, x10)]) fun x11 =>
 opN p_ (sStore 163 x4 x11) Kp fun _ =>
 J1 x4))
 (opN p_ (sAlloc 163) Kp fun x4 =>
 andS (opN p_ (sMkSl 129 (.int .i64 286) (.int .i64 286)) Kp fun x9 =>
 opN p_ (sMkSl 129 (.int .i64 30) (.int .i64 30)) Kp fun x10 =>
 stS p_ (sBuild 163 [(0, x9), (1, x10)]) fun x11 =>
 opN p_ (sStore 163 x4 x11) Kp fun _ =>
 J1 x4)
 (opN p_ (sMkSl 129 (.int .i64 30) (.int .i64 30)) Kp fun x10 =>
 opN p_ (sMkSl 129 (.int .i64 286) (.int .i64 286)) Kp fun x9 =>
 stS p_ (sBuild 163 [(0, x9), (1, x10)]) fun x11 =>
 opN p_ (sStore 163 x4 x11) Kp fun _ =>
 J1 x4))))) fun _ z4 =>
 opN p_ (sLoad 79 x1) Kp fun x12 =>
 opN p_ (sIA 163 z4 (.int .i64 0)) Kp fun x13 =>
 opN p_ (sLoad 129 x13) Kp fun x14 =>
 opN p_ (sBuild 134 [(0, x14)]) Kp fun x15 =>
 opN p_ (sIA 163 z4 (.int .i64 1)) Kp fun x16 =>
 opN p_ (sLoad 129 x16) Kp fun x17 =>
 opN p_ (sBuild 134 [(0, x17)]) Kp fun x18 =>
 opN p_ (sCall (fn 87) [x12, x15, x18, (fn 109)]) Kp fun x19 =>
 opN p_ (sIA 163 z4 (.int .i64 0)) Kp fun x21 =>
 opN p_ (sLoad 129 x21) Kp fun x22 =>
 opN p_ (sCall (fn 110) [x22, (.int .i64 15)]) Kp fun x23 =>
 opN p_ (sExt x23 0) Kp fun x24 =>
 opN p_ (sExt x23 1) Kp fun x25 =>
 opN p_ (sIA 163 z4 (.int .i64 1)) Kp fun x27 =>
 opN p_ (sLoad 129 x27) Kp fun x28 =>
 opN p_ (sCall (fn 110) [x28, (.int .i64 15)]) Kp fun x29 =>
 opN p_ (sExt x29 0) Kp fun x30 =>
 opN p_ (sExt x29 1) Kp fun x31 =>
 opN p_ (sCall (fn 88) [x24]) Kp fun x33 =>
 opN p_ (sCall (fn 88) [x30]) Kp fun x35 =>
 opN p_ (sStore 134 x2 x33) Kp fun _ =>
 opN p_ (sStore 134 x3 x35) Kp fun _ =>
 (stS p_ (sRes 134 x2) fun r0 => (stS p_ (sRes 134 x3) fun r1 => K (.tuple #[r0, r1])))
theorem deflate_block_own_s {v0 : Value} : Shp p_ 90 [v0] (deflate_block_own v0) := sh_ Tryz.call90 Tryz.func90 (an := { drs := [(1, (.alt ((.op 0 0 (.alt (.ofL [(1, 0), (2, 3), (3, 0), (4, 0)]) (.ofL [(3, 0), (1, 0), (2, 1), (4, 0)])))) ((.alt ((.op 1 0 (.alt (.ofL [(0, 0), (2, 3), (3, 0), (4, 0)]) (.ofL [(3, 0), (0, 0), (2, 1), (4, 0)])))) ((.op 3 0 (.alt (.ofL [(0, 0), (1, 0), (2, 1), (4, 0)]) (.ofL [(1, 0), (0, 0), (2, 1), (4, 0)]))))))))], rcuts := [(2, [4])] }) fun _ _ => by kernel_rfl
def deflate_head (v0 v1 v2 : Value) (Kp : PK) (K : Value → WP) : WP :=
 opN p_ (sBox 73 v0) Kp fun x3 =>
 opN p_ (sBox 134 v1) Kp fun x4 =>
 opN p_ (sBox 134 v2) Kp fun x5 =>
 drS (stS p_ (sFA 134 x4 0) fun x23 =>
 stS p_ (sLoad 129 x23) fun x24 =>
 stD p_ (sFA 134 x5 0) fun D3 x26 =>
 stD p_ (sLoad 129 x26) fun D4 x27 =>
 opN p_ (sCall (fn 111) [x24, (.int .i64 257)]) Kp fun x25 =>
 (fun w => D4 w ∧ (fun w => D3 w ∧ (opN p_ (sCall (fn 111) [x27, (.int .i64 1)]) Kp fun x28 =>
 drS (stS p_ (sFA 134 x4 0) fun x29 =>
 stS p_ (sLoad 129 x29) fun x30 =>
 stS p_ (sSl 129 x30 none (some x25) none) fun x32 =>
 stD p_ (sFA 134 x5 0) fun D5 x34 =>
 stD p_ (sLoad 129 x34) fun D6 x35 =>
 stD p_ (sSl 129 x35 none (some x28) none) fun D8 x37 =>
 opN p_ (sApp #[129, 129] 129 [(.slice none 0 0), x32]) Kp fun x33 =>
 (fun w => D8 w ∧ (fun w => D6 w ∧ (fun w => D5 w ∧ (opN p_ (sApp #[129, 129] 129 [x33, x37]) Kp fun x38 =>
 opN p_ (sMkSl 129 (.int .i64 19) (.int .i64 19)) Kp fun x39 =>
 opN p_ (sAlloc 129) Kp fun x9 =>
 opN p_ (sStore 129 x9 x39) Kp fun _ =>
 opN p_ (sAlloc 3) Kp fun x10 =>
 opN p_ (sStore 3 x10 (.int .i64 0)) Kp fun _ =>
 opN p_ (sCall (fn 112) [x38]) Kp fun x41 =>
 rfS p_ x41 1 (fun u42 B1 N1 J1r =>
 opN p_ (sAlloc 170) noK fun x11 =>
 opN p_ (sStore 170 x11 u42) noK fun _ =>
 B1 (opN p_ (sLoad 129 x9) noK fun x43 =>
 opN p_ (sFA 170 x11 0) noK fun x44 =>
 opN p_ (sLoad 3 x44) noK fun x45 =>
 opN p_ (sIA 129 x43 x45) noK fun x46 =>
 opN p_ (sLoad 3 x46) noK fun x47 =>
 opN p_ (sBin .add 3 x47 (.int .i64 1)) noK fun x48 =>
 opN p_ (sIA 129 x43 x45) noK fun x49 =>
 opN p_ (sStore 3 x49 x48) noK fun _ =>
 opN p_ (sLoad 129 x9) noK fun x50 =>
 opN p_ (sFA 170 x11 0) noK fun x51 =>
 opN p_ (sLoad 3 x51) noK fun x52 =>
 opN p_ (sIA 129 x50 x52) noK fun x53 =>
 opN p_ (sLoad 3 x53) noK fun x54 =>
 opN p_ (sEq .eql 3 (.tmp 54) (.const (.int .i64 1)) x54 (.int .i64 1)) noK fun x55 =>
 condS x55
 (opN p_ (sLoad 3 x10) noK fun x56 =>
 opN p_ (sBin .add 3 x56 (.int .i64 1)) noK fun x57 =>
 opN p_ (sStore 3 x10 x57) noK fun _ =>
 N1)
 (N1))) (fun d1 =>
 cut0 (fun J1 =>
 opN p_ (sLoad 3 x10) (KpM [d1] Kp) fun x58 =>
 opN p_ (sEq .eql 3 (.tmp 58) (.const (.int .i64 1)) x58 (.int .i64 1)) (KpM [d1] Kp) fun x59 =>
 condS x59
 (cut1 (fun J2 =>
 opN p_ (sLoad 129 x9) (KpM [d1] Kp) fun x60 =>
 opN p_ (sIA 129 x60 (.int .i64 0)) (KpM [d1] Kp) fun x61 =>
 opN p_ (sLoad 3 x61) (KpM [d1] Kp) fun x62 =>
 opN p_ (sBin .gtr 3 x62 (.int .i64 0)) (KpM [d1] Kp) fun x63 =>
 condS x63
 (J2 (.int .i64 1))
 (J2 (.int .i64 0))) fun _ z12 =>
 opN p_ (sLoad 129 x9) (KpM [d1] Kp) fun x64 =>
 opN p_ (sIA 129 x64 z12) (KpM [d1] Kp) fun x66 =>
 opN p_ (sLoad 3 x66) (KpM [d1] Kp) fun x67 =>
 opN p_ (sBin .add 3 x67 (.int .i64 1)) (KpM [d1] Kp) fun x68 =>
 opN p_ (sIA 129 x64 z12) (KpM [d1] Kp) fun x69 =>
 opN p_ (sStore 3 x69 x68) (KpM [d1] Kp) fun _ =>
 J1)
 (J1)) fun _ =>
 opN p_ (sLoad 129 x9) (KpM [d1] Kp) fun x71 =>
 opN p_ (sCall (fn 110) [x71, (.int .i64 7)]) (KpM [d1] Kp) fun x72 =>
 opN p_ (sExt x72 0) (KpM [d1] Kp) fun x73 =>
 opN p_ (sExt x72 1) (KpM [d1] Kp) fun x74 =>
 opN p_ (sCall (fn 88) [x73]) (KpM [d1] Kp) fun x76 =>
 opN p_ (sAlloc 134) (KpM [d1] Kp) fun x15 =>
 opN p_ (sStore 134 x15 x76) (KpM [d1] Kp) fun _ =>
 opN p_ (sBuild 171 [(0, (.int .i64 16)), (1, (.int .i64 17)), (2, (.int .i64 18)), (3, (.int .i64 0)), (4, (.int .i64 8)), (5, (.int .i64 7)), (6, (.int .i64 9)), (7, (.int .i64 6)), (8, (.int .i64 10)), (9, (.int .i64 5)), (10, (.int .i64 11)), (11, (.int .i64 4)), (12, (.int .i64 12)), (13, (.int .i64 3)), (14, (.int .i64 13)), (15, (.int .i64 2)), (16, (.int .i64 14)), (17, (.int .i64 1)), (18, (.int .i64 15))]) (KpM [d1] Kp) fun x77 =>
 loop2 (fun I1 m1 _ y16 y78 =>
 opN p_ (sBin .lss 3 y78 (.int .i64 19)) (KpM [d1] Kp) fun x79 =>
 condS x79
 (opN p_ (sIx 171 x77 y78) (KpM [d1] Kp) fun x80 =>
 opN p_ (sIA 129 x73 x80) (KpM [d1] Kp) fun x84 =>
 opN p_ (sLoad 3 x84) (KpM [d1] Kp) fun x85 =>
 opN p_ (sBuildSl 129 1 [(0, x85)]) (KpM [d1] Kp) fun x86 =>
 opN p_ (sApp #[129, 129] 129 [y16, x86]) (KpM [d1] Kp) fun x87 =>
 opN p_ (sBin .add 3 y78 (.int .i64 1)) (KpM [d1] Kp) fun x88 =>
 next2 I1 m1 x87 x88)
 (opN p_ (sCall (fn 111) [y16, (.int .i64 4)]) (KpM [d1] Kp) fun x90 =>
 opN p_ (sLoad 73 x3) (KpM [d1] Kp) fun x91 =>
 opN p_ (sBin .sub 3 x25 (.int .i64 257)) (KpM [d1] Kp) fun x93 =>
 opN p_ (sCall (fn 51) [x91, x93, (.int .i64 5)]) (KpM [d1] Kp) fun x94 =>
 opN p_ (sLoad 73 x3) (KpM [d1] Kp) fun x95 =>
 opN p_ (sBin .sub 3 x28 (.int .i64 1)) (KpM [d1] Kp) fun x97 =>
 opN p_ (sCall (fn 51) [x95, x97, (.int .i64 5)]) (KpM [d1] Kp) fun x98 =>
 opN p_ (sLoad 73 x3) (KpM [d1] Kp) fun x99 =>
 opN p_ (sBin .sub 3 x90 (.int .i64 4)) (KpM [d1] Kp) fun x101 =>
 opN p_ (sCall (fn 51) [x99, x101, (.int .i64 4)]) (KpM [d1] Kp) fun x102 =>
 opN p_ (sSl 129 y16 none (some x90) none) (KpM [d1] Kp) fun x105 =>
 opN p_ (sLen #[129] 3 [x105]) (KpM [d1] Kp) fun x106 =>
 loop1 (fun I2 m2 _ y107 =>
 opN p_ (sBin .lss 3 y107 x106) (KpM [d1] Kp) fun x108 =>
 condS x108
 (opN p_ (sIA 129 x105 y107) (KpM [d1] Kp) fun x109 =>
 opN p_ (sLoad 3 x109) (KpM [d1] Kp) fun x110 =>
 opN p_ (sLoad 73 x3) (KpM [d1] Kp) fun x111 =>
 opN p_ (sCall (fn 51) [x111, x110, (.int .i64 3)]) (KpM [d1] Kp) fun x113 =>
 opN p_ (sBin .add 3 y107 (.int .i64 1)) (KpM [d1] Kp) fun x114 =>
 next1 I2 m2 x114)
 (opN p_ (sCall (fn 112) [x38]) (KpM [d1] Kp) fun x116 =>
 rfS p_ x116 1 (fun u117 B2 N2 J2r =>
 opN p_ (sAlloc 170) noK fun x22 =>
 opN p_ (sStore 170 x22 u117) noK fun _ =>
 B2 (opN p_ (sLoad 73 x3) noK fun x118 =>
 opN p_ (sFA 134 x15 1) noK fun x119 =>
 opN p_ (sLoad 129 x119) noK fun x120 =>
 opN p_ (sFA 134 x15 0) noK fun x121 =>
 opN p_ (sLoad 129 x121) noK fun x122 =>
 opN p_ (sFA 170 x22 0) noK fun x123 =>
 opN p_ (sLoad 3 x123) noK fun x124 =>
 opN p_ (sCall (fn 108) [x118, x120, x122, x124]) noK fun x125 =>
 opN p_ (sLoad 73 x3) noK fun x126 =>
 opN p_ (sFA 170 x22 2) noK fun x127 =>
 opN p_ (sLoad 3 x127) noK fun x128 =>
 opN p_ (sFA 170 x22 1) noK fun x129 =>
 opN p_ (sLoad 3 x129) noK fun x130 =>
 opN p_ (sCall (fn 51) [x126, x128, x130]) noK fun x131 =>
 N2)) (fun d2 =>
 (tkS d2 (tkS d1 (K (.tuple #[]))))) (fun d2 => (tkS d2 (tkS d1 (K (.tuple #[]))))) (fun d2 ch => (tkS d2 (tkS d1 (Kp ch)))))) (.int .i64 0))) (.slice none 0 0) (.int .i64 0)) (fun d1 => (tkS d1 (K (.tuple #[])))) (fun d1 ch => (tkS d1 (Kp ch)))) w) w) w))) w) w))
theorem deflate_head_s {v0 v1 v2 : Value} : Shp p_ 91 [v0, v1, v2] (deflate_head v0 v1 v2) := shT_ Tryz.call91 Tryz.func91 (an := { cuts := [(14, [12]), (15, [])], loops := [(19, [16, 78]), (28, [107])], drs := [(1, .ofL [(0, 1), (1, 1), (3, 3), (4, 3), (2, 0), (5, 0), (6, 1), (7, 1)]), (2, .ofL [(0, 1), (1, 1), (2, 1), (3, 1), (5, 3), (6, 3), (7, 2), (8, 3), (4, 0), (9, 0), (10, 1)])] }) fun _ _ => by kernel_rfl
def ref04_Pieces (v0 v1 v2 : Value) (Kp : PK) (K : Value → WP) : WP :=
 opN p_ (sBin .lss 3 v1 (.int .i64 1)) Kp fun x12 =>
 gdK x12 false (fun k => k v1) fun x14 =>
 gdK x12 false (opN p_ (sBin .gtr 3 x14 (.int .i64 32768)) Kp) fun x15 =>
 opN p_ (sPick x12 (.bool true) x15) Kp fun x16 =>
 gdK x16 false (fun k => k v2) fun x18 =>
 gdK x16 false (opN p_ (sBin .lss 3 x18 (.int .i64 0)) Kp) fun x19 =>
 opN p_ (sPick x16 (.bool true) x19) Kp fun x20 =>
 gdK x20 false (fun k => k v2) fun x22 =>
 gdK x20 false (opN p_ (sBin .gtr 3 x22 (.int .i64 4096)) Kp) fun x23 =>
 opN p_ (sPick x20 (.bool true) x23) Kp fun x24 =>
 condS x24
 (K (.tuple #[(.slice none 0 0), (.int .i64 1)]))
 (opN p_ (sLen #[22] 3 [v0]) Kp fun x26 =>
 opN p_ (sBin .gtr 3 x26 (.int .i64 1048576)) Kp fun x27 =>
 condS x27
 (K (.tuple #[(.slice none 0 0), (.int .i64 6)]))
 (loop2 (fun I1 m1 _ y8 y9 =>
 opN p_ (sLen #[22] 3 [v0]) Kp fun x30 =>
 opN p_ (sBin .lss 3 y9 x30) Kp fun x31 =>
 condS x31
 (opN p_ (sCall (fn 113) [v0, y9, v1, v2]) Kp fun x36 =>
 opN p_ (sAlloc 118) Kp fun x10 =>
 opN p_ (sStore 118 x10 x36) Kp fun _ =>
 opN p_ (sLoad 118 x10) Kp fun x38 =>
 opN p_ (sBuildSl 90 1 [(0, x38)]) Kp fun x39 =>
 opN p_ (sApp #[90, 90] 90 [y8, x39]) Kp fun x40 =>
 opN p_ (sFA 118 x10 0) Kp fun x42 =>
 opN p_ (sLoad 3 x42) Kp fun x43 =>
 opN p_ (sMax #[3, 3] 3 [(.int .i64 1), x43]) Kp fun x44 =>
 opN p_ (sBin .add 3 y9 x44) Kp fun x45 =>
 next2 I1 m1 x40 x45)
 (K (.tuple #[y8, (.int .i64 0)]))) (.slice none 0 0) (.int .i64 0)))
theorem ref04_Pieces_s {v0 v1 v2 : Value} : Shp p_ 92 [v0, v1, v2] (ref04_Pieces v0 v1 v2) := sh_ Tryz.call92 Tryz.func92 (an := { loops := [(7, [8, 9])] }) fun _ _ => by kernel_rfl
def ref05_Fixed (Kp : PK) (K : Value → WP) : WP :=
 loop2 (fun I1 m1 _ y2 y4 =>
 opN p_ (sBin .lss 3 y4 (.int .i64 288)) Kp fun x8 =>
 condS x8
 (cut1 (fun J1 =>
 opN p_ (sBin .geq 3 y4 (.int .i64 144)) Kp fun x12 =>
 gdK x12 true (fun k => k y4) fun x14 =>
 gdK x12 true (opN p_ (sBin .lss 3 x14 (.int .i64 256)) Kp) fun x15 =>
 opN p_ (sPick x12 x15 (.bool false)) Kp fun x16 =>
 condS x16
 (J1 (.int .i64 9))
 (J1 (.int .i64 8))) fun _ z5 =>
 cut1 (fun J2 =>
 opN p_ (sBin .geq 3 y4 (.int .i64 256)) Kp fun x18 =>
 gdK x18 true (fun k => k y4) fun x20 =>
 gdK x18 true (opN p_ (sBin .lss 3 x20 (.int .i64 280)) Kp) fun x21 =>
 opN p_ (sPick x18 x21 (.bool false)) Kp fun x22 =>
 condS x22
 (J2 (.int .i64 7))
 (J2 z5)) fun _ z5 =>
 opN p_ (sBuildSl 129 1 [(0, z5)]) Kp fun x25 =>
 opN p_ (sApp #[129, 129] 129 [y2, x25]) Kp fun x26 =>
 opN p_ (sBin .add 3 y4 (.int .i64 1)) Kp fun x10 =>
 next2 I1 m1 x26 x10)
 (loop2 (fun I2 m2 _ y3 y6 =>
 opN p_ (sBin .lss 3 y6 (.int .i64 32)) Kp fun x28 =>
 condS x28
 (opN p_ (sBuildSl 129 1 [(0, (.int .i64 5))]) Kp fun x32 =>
 opN p_ (sApp #[129, 129] 129 [y3, x32]) Kp fun x33 =>
 opN p_ (sBin .add 3 y6 (.int .i64 1)) Kp fun x30 =>
 next2 I2 m2 x33 x30)
 (K (.tuple #[y2, y3]))) (.slice none 0 0) (.int .i64 0))) (.slice none 0 0) (.int .i64 0)
theorem ref05_Fixed_s  : Shp p_ 93 [] (ref05_Fixed) := sh_ Tryz.call93 Tryz.func93 (an := { cuts := [(9, [5]), (11, [5])], loops := [(4, [2, 4]), (13, [3, 6])] }) fun _ _ => by kernel_rfl
def ref06_symbols (v0 v1 v2 v3 : Value) (Kp : PK) (K : Value → WP) : WP :=
 opN p_ (sBox 92 v1) Kp fun x5 =>
 opN p_ (sCall (fn 114) [v2]) Kp fun x21 =>
 opN p_ (sExt x21 0) Kp fun x22 =>
 opN p_ (sExt x21 1) Kp fun x23 =>
 opN p_ (sCall (fn 114) [v3]) Kp fun x26 =>
 opN p_ (sExt x26 0) Kp fun x27 =>
 opN p_ (sExt x26 1) Kp fun x28 =>
 loop1 (fun I1 m1 _ y12 =>
 opN p_ (sFA 92 x5 0) Kp fun x30 =>
 opN p_ (sLoad 90 x30) Kp fun x31 =>
 opN p_ (sLen #[90] 3 [x31]) Kp fun x32 =>
 opN p_ (sBin .lss 3 y12 x32) Kp fun x33 =>
 condS x33
 (opN p_ (sFA 92 x5 0) Kp fun x36 =>
 opN p_ (sLoad 90 x36) Kp fun x37 =>
 opN p_ (sIA 90 x37 y12) Kp fun x39 =>
 opN p_ (sFA 118 x39 0) Kp fun x40 =>
 opN p_ (sLoad 3 x40) Kp fun x41 =>
 opN p_ (sEq .eql 3 (.tmp 41) (.const (.int .i64 0)) x41 (.int .i64 0)) Kp fun x42 =>
 condS x42
 (opN p_ (sFA 92 x5 0) Kp fun x46 =>
 opN p_ (sLoad 90 x46) Kp fun x47 =>
 opN p_ (sIA 90 x47 y12) Kp fun x49 =>
 opN p_ (sFA 118 x49 2) Kp fun x50 =>
 opN p_ (sLoad 5 x50) Kp fun x51 =>
 opN p_ (sConv 5 3 x51) Kp fun x52 =>
 opN p_ (sCall (fn 115) [v0, x22, v2, x52]) Kp fun x53 =>
 opN p_ (sBin .add 3 y12 (.int .i64 1)) Kp fun x35 =>
 next1 I1 m1 x35)
 (opN p_ (sFA 92 x5 0) Kp fun x55 =>
 opN p_ (sLoad 90 x55) Kp fun x56 =>
 opN p_ (sIA 90 x56 y12) Kp fun x58 =>
 opN p_ (sFA 118 x58 0) Kp fun x59 =>
 opN p_ (sLoad 3 x59) Kp fun x60 =>
 opN p_ (sCall (fn 116) [x60]) Kp fun x61 =>
 opN p_ (sExt x61 0) Kp fun x62 =>
 opN p_ (sExt x61 1) Kp fun x63 =>
 opN p_ (sExt x61 2) Kp fun x64 =>
 opN p_ (sFA 92 x5 0) Kp fun x66 =>
 opN p_ (sLoad 90 x66) Kp fun x67 =>
 opN p_ (sIA 90 x67 y12) Kp fun x69 =>
 opN p_ (sFA 118 x69 1) Kp fun x70 =>
 opN p_ (sLoad 3 x70) Kp fun x71 =>
 opN p_ (sCall (fn 117) [x71]) Kp fun x72 =>
 opN p_ (sExt x72 0) Kp fun x73 =>
 opN p_ (sExt x72 1) Kp fun x74 =>
 opN p_ (sExt x72 2) Kp fun x75 =>
 opN p_ (sCall (fn 115) [v0, x22, v2, x62]) Kp fun x80 =>
 opN p_ (sCall (fn 56) [v0, x64, x63]) Kp fun x84 =>
 opN p_ (sCall (fn 115) [v0, x27, v3, x73]) Kp fun x89 =>
 opN p_ (sCall (fn 56) [v0, x75, x74]) Kp fun x93 =>
 opN p_ (sBin .add 3 y12 (.int .i64 1)) Kp fun x35 =>
 next1 I1 m1 x35))
 (opN p_ (sCall (fn 115) [v0, x22, v2, (.int .i64 256)]) Kp fun x97 =>
 K (.tuple #[]))) (.int .i64 0)
theorem ref06_symbols_s {v0 v1 v2 v3 : Value} : Shp p_ 94 [v0, v1, v2, v3] (ref06_symbols v0 v1 v2 v3) := sh_ Tryz.call94 Tryz.func94 (an := { loops := [(4, [12])] }) fun _ _ => by kernel_rfl
def ref06_own (v0 : Value) (Kp : PK) (K : Value → WP) : WP :=
 opN p_ (sBox 92 v0) Kp fun x1 =>
 opN p_ (sMkSl 129 (.int .i64 286) (.int .i64 286)) Kp fun x17 =>
 opN p_ (sMkSl 129 (.int .i64 30) (.int .i64 30)) Kp fun x18 =>
 opN p_ (sIA 129 x17 (.int .i64 256)) Kp fun x20 =>
 opN p_ (sStore 3 x20 (.int .i64 1)) Kp fun _ =>
 loop1 (fun I1 m1 _ y6 =>
 opN p_ (sFA 92 x1 0) Kp fun x22 =>
 opN p_ (sLoad 90 x22) Kp fun x23 =>
 opN p_ (sLen #[90] 3 [x23]) Kp fun x24 =>
 opN p_ (sBin .lss 3 y6 x24) Kp fun x25 =>
 condS x25
 (opN p_ (sFA 92 x1 0) Kp fun x28 =>
 opN p_ (sLoad 90 x28) Kp fun x29 =>
 opN p_ (sIA 90 x29 y6) Kp fun x31 =>
 opN p_ (sFA 118 x31 0) Kp fun x32 =>
 opN p_ (sLoad 3 x32) Kp fun x33 =>
 opN p_ (sEq .eql 3 (.tmp 33) (.const (.int .i64 0)) x33 (.int .i64 0)) Kp fun x34 =>
 condS x34
 (opN p_ (sFA 92 x1 0) Kp fun x36 =>
 opN p_ (sLoad 90 x36) Kp fun x37 =>
 opN p_ (sIA 90 x37 y6) Kp fun x39 =>
 opN p_ (sFA 118 x39 2) Kp fun x40 =>
 opN p_ (sLoad 5 x40) Kp fun x41 =>
 opN p_ (sIA 129 x17 x41) Kp fun x42 =>
 opN p_ (sLoad 3 x42) Kp fun x43 =>
 opN p_ (sBin .add 3 x43 (.int .i64 1)) Kp fun x44 =>
 opN p_ (sIA 129 x17 x41) Kp fun x45 =>
 opN p_ (sStore 3 x45 x44) Kp fun _ =>
 opN p_ (sBin .add 3 y6 (.int .i64 1)) Kp fun x27 =>
 next1 I1 m1 x27)
 (opN p_ (sFA 92 x1 0) Kp fun x47 =>
 opN p_ (sLoad 90 x47) Kp fun x48 =>
 opN p_ (sIA 90 x48 y6) Kp fun x50 =>
 opN p_ (sFA 118 x50 0) Kp fun x51 =>
 opN p_ (sLoad 3 x51) Kp fun x52 =>
 opN p_ (sCall (fn 116) [x52]) Kp fun x53 =>
 opN p_ (sExt x53 0) Kp fun x54 =>
 opN p_ (sExt x53 1) Kp fun x55 =>
 opN p_ (sExt x53 2) Kp fun x56 =>
 opN p_ (sFA 92 x1 0) Kp fun x58 =>
 opN p_ (sLoad 90 x58) Kp fun x59 =>
 opN p_ (sIA 90 x59 y6) Kp fun x61 =>
 opN p_ (sFA 118 x61 1) Kp fun x62 =>
 opN p_ (sLoad 3 x62) Kp fun x63 =>
 opN p_ (sCall (fn 117) [x63]) Kp fun x64 =>
 opN p_ (sExt x64 0) Kp fun x65 =>
 opN p_ (sExt x64 1) Kp fun x66 =>
 opN p_ (sExt x64 2) Kp fun x67 =>
 opN p_ (sIA 129 x17 x54) Kp fun x70 =>
 opN p_ (sLoad 3 x70) Kp fun x71 =>
 opN p_ (sBin .add 3 x71 (.int .i64 1)) Kp fun x72 =>
 opN p_ (sIA 129 x17 x54) Kp fun x73 =>
 opN p_ (sStore 3 x73 x72) Kp fun _ =>
 opN p_ (sIA 129 x18 x65) Kp fun x76 =>
 opN p_ (sLoad 3 x76) Kp fun x77 =>
 opN p_ (sBin .add 3 x77 (.int .i64 1)) Kp fun x78 =>
 opN p_ (sIA 129 x18 x65) Kp fun x79 =>
 opN p_ (sStore 3 x79 x78) Kp fun _ =>
 opN p_ (sBin .add 3 y6 (.int .i64 1)) Kp fun x27 =>
 next1 I1 m1 x27))
 (opN p_ (sCall (fn 118) [x17, (.int .i64 15)]) Kp fun x82 =>
 opN p_ (sExt x82 0) Kp fun x83 =>
 opN p_ (sExt x82 1) Kp fun x84 =>
 opN p_ (sCall (fn 118) [x18, (.int .i64 15)]) Kp fun x87 =>
 opN p_ (sExt x87 0) Kp fun x88 =>
 opN p_ (sExt x87 1) Kp fun x89 =>
 K (.tuple #[x83, x88]))) (.int .i64 0)
theorem ref06_own_s {v0 : Value} : Shp p_ 95 [v0] (ref06_own v0) := sh_ Tryz.call95 Tryz.func95 (an := { loops := [(5, [6])] }) fun _ _ => by kernel_rfl
def ref06_head (v0 v1 v2 : Value) (Kp : PK) (K : Value → WP) : WP :=
 opN p_ (sCall (fn 119) [v1, (.int .i64 257)]) Kp fun x23 =>
 opN p_ (sCall (fn 119) [v2, (.int .i64 1)]) Kp fun x25 =>
 drS (stD p_ (sSl 129 v1 none (some x23) none) fun D3 x29 =>
 stD p_ (sSl 129 v2 none (some x25) none) fun D7 x33 =>
 opN p_ (sBuildSl 129 0 []) Kp fun x26 =>
 (fun w => D7 w ∧ (fun w => D3 w ∧ (opN p_ (sApp #[129, 129] 129 [x26, x29]) Kp fun x30 =>
 (fun w => D7 w ∧ (opN p_ (sApp #[129, 129] 129 [x30, x33]) Kp fun x34 =>
 opN p_ (sCall (fn 120) [x34]) Kp fun x35 =>
 opN p_ (sMkSl 129 (.int .i64 19) (.int .i64 19)) Kp fun x36 =>
 loop2 (fun I1 m1 _ y10 y11 =>
 opN p_ (sLen #[177] 3 [x35]) Kp fun x39 =>
 opN p_ (sBin .lss 3 y11 x39) Kp fun x40 =>
 condS x40
 (cut1 (fun J1 =>
 opN p_ (sIA 177 x35 y11) Kp fun x46 =>
 opN p_ (sFA 180 x46 0) Kp fun x47 =>
 opN p_ (sLoad 3 x47) Kp fun x48 =>
 opN p_ (sIA 129 x36 x48) Kp fun x49 =>
 opN p_ (sLoad 3 x49) Kp fun x50 =>
 opN p_ (sEq .eql 3 (.tmp 50) (.const (.int .i64 0)) x50 (.int .i64 0)) Kp fun x51 =>
 condS x51
 (opN p_ (sBin .add 3 y10 (.int .i64 1)) Kp fun x53 =>
 J1 x53)
 (J1 y10)) fun _ z10 =>
 opN p_ (sIA 177 x35 y11) Kp fun x57 =>
 opN p_ (sFA 180 x57 0) Kp fun x58 =>
 opN p_ (sLoad 3 x58) Kp fun x59 =>
 opN p_ (sIA 129 x36 x59) Kp fun x60 =>
 opN p_ (sLoad 3 x60) Kp fun x61 =>
 opN p_ (sBin .add 3 x61 (.int .i64 1)) Kp fun x62 =>
 opN p_ (sIA 129 x36 x59) Kp fun x63 =>
 opN p_ (sStore 3 x63 x62) Kp fun _ =>
 opN p_ (sBin .add 3 y11 (.int .i64 1)) Kp fun x42 =>
 next2 I1 m1 z10 x42)
 (cut0 (fun J2 =>
 opN p_ (sEq .eql 3 (.tmp 64) (.const (.int .i64 1)) y10 (.int .i64 1)) Kp fun x65 =>
 gdK x65 true (fun k => k x36) fun x67 =>
 gdK x65 true (opN p_ (sIA 129 x67 (.int .i64 0)) Kp) fun x68 =>
 gdK x65 true (opN p_ (sLoad 3 x68) Kp) fun x69 =>
 gdK x65 true (opN p_ (sEq .eql 3 (.tmp 69) (.const (.int .i64 0)) x69 (.int .i64 0)) Kp) fun x70 =>
 opN p_ (sPick x65 x70 (.bool false)) Kp fun x71 =>
 condS x71
 (opN p_ (sIA 129 x36 (.int .i64 0)) Kp fun x73 =>
 opN p_ (sStore 3 x73 (.int .i64 1)) Kp fun _ =>
 J2)
 (opN p_ (sEq .eql 3 (.tmp 74) (.const (.int .i64 1)) y10 (.int .i64 1)) Kp fun x75 =>
 condS x75
 (opN p_ (sIA 129 x36 (.int .i64 1)) Kp fun x77 =>
 opN p_ (sStore 3 x77 (.int .i64 1)) Kp fun _ =>
 J2)
 (J2))) fun _ =>
 opN p_ (sCall (fn 118) [x36, (.int .i64 7)]) Kp fun x80 =>
 opN p_ (sExt x80 0) Kp fun x81 =>
 opN p_ (sExt x80 1) Kp fun x82 =>
 opN p_ (sCall (fn 114) [x81]) Kp fun x85 =>
 opN p_ (sExt x85 0) Kp fun x86 =>
 opN p_ (sExt x85 1) Kp fun x87 =>
 opN p_ (sCall (fn 121) []) Kp fun x88 =>
 loop2 (fun I2 m2 _ y17 y18 =>
 opN p_ (sBin .lss 3 y18 (.int .i64 19)) Kp fun x90 =>
 condS x90
 (opN p_ (sIA 129 x88 y18) Kp fun x97 =>
 opN p_ (sLoad 3 x97) Kp fun x98 =>
 opN p_ (sIA 129 x81 x98) Kp fun x99 =>
 opN p_ (sLoad 3 x99) Kp fun x100 =>
 opN p_ (sBuildSl 129 1 [(0, x100)]) Kp fun x101 =>
 opN p_ (sApp #[129, 129] 129 [y17, x101]) Kp fun x102 =>
 opN p_ (sBin .add 3 y18 (.int .i64 1)) Kp fun x92 =>
 next2 I2 m2 x102 x92)
 (opN p_ (sCall (fn 119) [y17, (.int .i64 4)]) Kp fun x104 =>
 opN p_ (sBin .sub 3 x23 (.int .i64 257)) Kp fun x107 =>
 opN p_ (sCall (fn 56) [v0, x107, (.int .i64 5)]) Kp fun x108 =>
 opN p_ (sBin .sub 3 x25 (.int .i64 1)) Kp fun x111 =>
 opN p_ (sCall (fn 56) [v0, x111, (.int .i64 5)]) Kp fun x112 =>
 opN p_ (sBin .sub 3 x104 (.int .i64 4)) Kp fun x115 =>
 opN p_ (sCall (fn 56) [v0, x115, (.int .i64 4)]) Kp fun x116 =>
 loop1 (fun I3 m3 _ y20 =>
 opN p_ (sBin .lss 3 y20 x104) Kp fun x119 =>
 condS x119
 (opN p_ (sIA 129 y17 y20) Kp fun x125 =>
 opN p_ (sLoad 3 x125) Kp fun x126 =>
 opN p_ (sCall (fn 56) [v0, x126, (.int .i64 3)]) Kp fun x127 =>
 opN p_ (sBin .add 3 y20 (.int .i64 1)) Kp fun x121 =>
 next1 I3 m3 x121)
 (loop1 (fun I4 m4 _ y21 =>
 opN p_ (sLen #[177] 3 [x35]) Kp fun x130 =>
 opN p_ (sBin .lss 3 y21 x130) Kp fun x131 =>
 condS x131
 (opN p_ (sIA 177 x35 y21) Kp fun x139 =>
 opN p_ (sFA 180 x139 0) Kp fun x140 =>
 opN p_ (sLoad 3 x140) Kp fun x141 =>
 opN p_ (sCall (fn 115) [v0, x86, x81, x141]) Kp fun x142 =>
 drS (stS p_ (sIA 177 x35 y21) fun x146 =>
 stS p_ (sFA 180 x146 2) fun x147 =>
 stS p_ (sLoad 3 x147) fun x148 =>
 stS p_ (sIA 177 x35 y21) fun x151 =>
 stS p_ (sFA 180 x151 1) fun x152 =>
 stS p_ (sLoad 3 x152) fun x153 =>
 opN p_ (sCall (fn 56) [v0, x148, x153]) Kp fun x154 =>
 opN p_ (sBin .add 3 y21 (.int .i64 1)) Kp fun x133 =>
 next1 I4 m4 x133))
 (K (.tuple #[]))) (.int .i64 0))) (.int .i64 0))) (.slice none 0 0) (.int .i64 0))) (.int .i64 0) (.int .i64 0)) w)) w) w))
theorem ref06_head_s {v0 v1 v2 : Value} : Shp p_ 96 [v0, v1, v2] (ref06_head v0 v1 v2) := sh_ Tryz.call96 Tryz.func96 (an := { cuts := [(10, [10]), (15, [])], loops := [(6, [10, 11]), (20, [17, 18]), (28, [20]), (32, [21])], drs := [(2, .ofL [(1, 2), (2, 2), (3, 3), (5, 2), (6, 2), (7, 3), (0, 0), (4, 0), (8, 0), (9, 0), (10, 1)]), (35, .ofL [(0, 1), (1, 1), (2, 1), (3, 1), (4, 1), (5, 1), (6, 1), (7, 1), (8, 1), (9, 1), (10, 1), (11, 0)])] }) fun _ _ => by kernel_rfl
def lz_finder_candidates (v0 v1 : Value) (Kp : PK) (K : Value -> WP) : WP :=
 opN p_ (sBox 124 v0) Kp fun x2 =>
 opN p_ (sBox 3 v1) Kp fun x3 =>
 opN p_ (sMkF (.func 131) [] [x3, x2]) Kp fun x5 =>
 K x5
theorem lz_finder_candidates_s {v0 v1 : Value} : Shp p_ 101 [v0, v1] (lz_finder_candidates v0 v1) := sh_ Tryz.call101 Tryz.func101 (an := {}) fun _ _ => by kernel_rfl
def lz_finder_length (v0 v1 v2 : Value) (Kp : PK) (K : Value → WP) : WP :=
 loop1 (fun I1 m1 _ y7 =>
 drS (stS p_ (sBin .lss 3 y7 (.int .i64 258)) fun x9 =>
 gdK x9 true (fun k => k v2) fun x11 =>
 gdK x9 true (fun k => k y7) fun x12 =>
 gdK x9 true (stS p_ (sBin .add 3 x11 x12)) fun x13 =>
 gdK x9 true (fun k => k v0) fun x14 =>
 gdK x9 true (stS p_ (sNil x14)) fun x15 =>
 gdK x9 true (stS p_ (sFA 127 x15 0)) fun x16 =>
 gdK x9 true (stS p_ (sLoad 22 x16)) fun x17 =>
 gdK x9 true (stS p_ (sLen #[22] 3 [x17])) fun x18 =>
 gdK x9 true (stS p_ (sBin .lss 3 x13 x18)) fun x19 =>
 stS p_ (sPick x9 x19 (.bool false)) fun x20 =>
 gdK x20 true (fun k => k v0) fun x22 =>
 gdK x20 true (stS p_ (sNil x22)) fun x23 =>
 gdK x20 true (stS p_ (sFA 127 x23 0)) fun x24 =>
 gdK x20 true (stS p_ (sLoad 22 x24)) fun x25 =>
 gdK x20 true (fun k => k v1) fun x26 =>
 gdK x20 true (fun k => k y7) fun x27 =>
 gdK x20 true (stS p_ (sBin .add 3 x26 x27)) fun x28 =>
 gdK x20 true (stS p_ (sIA 22 x25 x28)) fun x29 =>
 gdK x20 true (stS p_ (sLoad 5 x29)) fun x30 =>
 gdK x20 true (fun k => k v0) fun x31 =>
 gdK x20 true (stS p_ (sNil x31)) fun x32 =>
 gdK x20 true (stS p_ (sFA 127 x32 0)) fun x33 =>
 gdK x20 true (stS p_ (sLoad 22 x33)) fun x34 =>
 gdK x20 true (fun k => k v2) fun x35 =>
 gdK x20 true (fun k => k y7) fun x36 =>
 gdK x20 true (stS p_ (sBin .add 3 x35 x36)) fun x37 =>
 gdK x20 true (stS p_ (sIA 22 x34 x37)) fun x38 =>
 gdK x20 true (stS p_ (sLoad 5 x38)) fun x39 =>
 gdK x20 true (stS p_ (sEq .eql 5 (.tmp 30) (.tmp 39) x30 x39)) fun x40 =>
 stS p_ (sPick x20 x40 (.bool false)) fun x41 =>
 condS x41
 (opN p_ (sBin .add 3 y7 (.int .i64 1)) Kp fun x43 =>
 next1 I1 m1 x43)
 (K y7))) (.int .i64 0)
theorem lz_finder_length_s {v0 v1 v2 : Value} : Shp p_ 102 [v0, v1, v2] (lz_finder_length v0 v1 v2) := sh_ Tryz.call102 Tryz.func102 (an := { loops := [(2, [7])], drs := [(2, .ofL [(0, 1), (1, 1), (2, 1), (3, 1), (4, 1), (5, 1), (6, 1), (7, 1), (8, 1), (9, 1), (10, 1), (11, 1), (12, 1), (13, 1), (14, 1), (15, 1), (16, 1), (17, 1), (18, 1), (19, 1), (20, 1), (21, 1), (22, 1), (23, 1), (24, 1), (25, 1), (26, 1), (27, 1), (28, 1), (29, 1), (30, 1), (31, 1), (32, 1), (33, 1)])] }) fun _ _ => by kernel_rfl
def inflate_Fixed_1 (v0 v1 v2 : Value) (Kp : PK) (K : Value → WP) : WP :=
 loop2 (fun I1 m1 _ y0 y8 =>
 opN p_ (sBin .lss 3 y8 v1) Kp fun x9 =>
 condS x9
 (opN p_ (sBuildSl 129 1 [(0, v2)]) Kp fun x12 =>
 opN p_ (sApp #[129, 129] 129 [y0, x12]) Kp fun x13 =>
 opN p_ (sBin .add 3 y8 (.int .i64 1)) Kp fun x14 =>
 next2 I1 m1 x13 x14)
 (K y0)) v0 (.int .i64 0)
theorem inflate_Fixed_1_s {v0 v1 v2 : Value} : Shp p_ 103 [v0, v1, v2] (inflate_Fixed_1 v0 v1 v2) := sh_ Tryz.call103 Tryz.func103 (an := { loops := [(2, [0, 8])] }) fun _ _ => by kernel_rfl
def lz_Length (v0 : Value) (Kp : PK) (K : Value → WP) : WP :=
 opN p_ (sBin .gtr 3 v0 (.int .i64 258)) Kp fun x6 =>
 condS x6
 (K (.tuple #[(.int .i64 (-1)), (.int .i64 0), (.int .i64 0)]))
 (opN p_ (sCall (fn 132) [v0, (.int .i64 257), (.int .i64 285), (fn 133)]) Kp fun x8 =>
 opN p_ (sExt x8 0) Kp fun x9 =>
 opN p_ (sExt x8 1) Kp fun x10 =>
 opN p_ (sExt x8 2) Kp fun x11 =>
 K (.tuple #[x9, x10, x11]))
theorem lz_Length_s {v0 : Value} : Shp p_ 104 [v0] (lz_Length v0) := sh_ Tryz.call104 Tryz.func104 (an := {}) fun _ _ => by kernel_rfl
def lz_Distance (v0 : Value) (Kp : PK) (K : Value → WP) : WP :=
 opN p_ (sBin .gtr 3 v0 (.int .i64 32768)) Kp fun x6 =>
 condS x6
 (K (.tuple #[(.int .i64 (-1)), (.int .i64 0), (.int .i64 0)]))
 (opN p_ (sCall (fn 132) [v0, (.int .i64 0), (.int .i64 29), (fn 134)]) Kp fun x8 =>
 opN p_ (sExt x8 0) Kp fun x9 =>
 opN p_ (sExt x8 1) Kp fun x10 =>
 opN p_ (sExt x8 2) Kp fun x11 =>
 K (.tuple #[x9, x10, x11]))
theorem lz_Distance_s {v0 : Value} : Shp p_ 105 [v0] (lz_Distance v0) := sh_ Tryz.call105 Tryz.func105 (an := {}) fun _ _ => by kernel_rfl
def huff_Codes (v0 : Value) (Kp : PK) (K : Value → WP) : WP :=
 opN p_ (sCall (fn 135) [v0]) Kp fun x13 =>
 opN p_ (sExt x13 0) Kp fun x14 =>
 opN p_ (sExt x13 1) Kp fun x15 =>
 opN p_ (sAlloc 194) Kp fun x4 =>
 opN p_ (sStore 194 x4 x14) Kp fun _ =>
 opN p_ (sUn .not x15) Kp fun x17 =>
 condS x17
 (K (.tuple #[(.slice none 0 0), (.int .i64 30)]))
 (opN p_ (sIA 194 x4 (.int .i64 0)) Kp fun x18 =>
 opN p_ (sStore 3 x18 (.int .i64 0)) Kp fun _ =>
 opN p_ (sAlloc 194) Kp fun x6 =>
 loop1 (fun I1 m1 _ y7 =>
 opN p_ (sBin .leq 3 y7 (.int .i64 15)) Kp fun x20 =>
 condS x20
 (drS (stS p_ (sBin .sub 3 y7 (.int .i64 1)) fun x25 =>
 stS p_ (sIA 194 x6 x25) fun x26 =>
 stS p_ (sLoad 3 x26) fun x27 =>
 stS p_ (sBin .sub 3 y7 (.int .i64 1)) fun x29 =>
 stS p_ (sIA 194 x4 x29) fun x30 =>
 stS p_ (sLoad 3 x30) fun x31 =>
 stS p_ (sBin .add 3 x27 x31) fun x32 =>
 stS p_ (sBin .shl 3 x32 (.int .u64 1)) fun x33 =>
 stS p_ (sIA 194 x6 y7) fun x34 =>
 opN p_ (sStore 3 x34 x33) Kp fun _ =>
 opN p_ (sBin .add 3 y7 (.int .i64 1)) Kp fun x22 =>
 next1 I1 m1 x22))
 (opN p_ (sLen #[129] 3 [v0]) Kp fun x36 =>
 opN p_ (sMkSl 129 x36 x36) Kp fun x37 =>
 opN p_ (sLen #[129] 3 [v0]) Kp fun x39 =>
 loop1 (fun I2 m2 _ y40 =>
 opN p_ (sBin .lss 3 y40 x39) Kp fun x41 =>
 condS x41
 (opN p_ (sIA 129 v0 y40) Kp fun x43 =>
 opN p_ (sLoad 3 x43) Kp fun x44 =>
 opN p_ (sBin .gtr 3 x44 (.int .i64 0)) Kp fun x46 =>
 condS x46
 (opN p_ (sIA 194 x6 x44) Kp fun x50 =>
 opN p_ (sLoad 3 x50) Kp fun x51 =>
 opN p_ (sIA 129 x37 y40) Kp fun x52 =>
 opN p_ (sStore 3 x52 x51) Kp fun _ =>
 opN p_ (sIA 194 x6 x44) Kp fun x54 =>
 opN p_ (sLoad 3 x54) Kp fun x55 =>
 opN p_ (sBin .add 3 x55 (.int .i64 1)) Kp fun x56 =>
 opN p_ (sIA 194 x6 x44) Kp fun x57 =>
 opN p_ (sStore 3 x57 x56) Kp fun _ =>
 opN p_ (sBin .add 3 y40 (.int .i64 1)) Kp fun x58 =>
 next1 I2 m2 x58)
 (opN p_ (sBin .add 3 y40 (.int .i64 1)) Kp fun x58 =>
 next1 I2 m2 x58))
 (K (.tuple #[x37, (.int .i64 0)]))) (.int .i64 0))) (.int .i64 1))
theorem huff_Codes_s {v0 : Value} : Shp p_ 106 [v0] (huff_Codes v0) := sh_ Tryz.call106 Tryz.func106 (an := { loops := [(7, [7]), (12, [40])], drs := [(9, .ofL [(0, 1), (1, 1), (2, 1), (3, 1), (4, 1), (5, 1), (6, 1), (7, 1), (8, 1), (9, 1), (10, 1), (11, 1), (12, 0)])] }) fun _ _ => by kernel_rfl
def deflate_into_1 (v0 v1 v2 v3 v4 : Value) (Kp : PK) (K : Value -> WP) : WP :=
 opN p_ (sBox 134 v0) Kp fun x5 =>
 opN p_ (sLoad 73 v4) Kp fun x9 =>
 opN p_ (sFA 134 x5 1) Kp fun x10 =>
 opN p_ (sLoad 129 x10) Kp fun x11 =>
 opN p_ (sFA 134 x5 0) Kp fun x12 =>
 opN p_ (sLoad 129 x12) Kp fun x13 =>
 opN p_ (sCall (fn 108) [x9, x11, x13, v1]) Kp fun x15 =>
 opN p_ (sLoad 73 v4) Kp fun x16 =>
 opN p_ (sCall (fn 51) [x16, v3, v2]) Kp fun x19 =>
 K (.tuple #[])
theorem deflate_into_1_s {v0 v1 v2 v3 v4 : Value} : Shp p_ 107 [v0, v1, v2, v3, v4] (deflate_into_1 v0 v1 v2 v3 v4) := sh_ Tryz.call107 Tryz.func107 (an := {}) fun _ _ => by kernel_rfl
def huff_Put (v0 v1 v2 v3 : Value) (Kp : PK) (K : Value → WP) : WP :=
 opN p_ (sBin .lss 3 v3 (.int .i64 0)) Kp fun x12 =>
 gdK x12 false (fun k => k v3) fun x14 =>
 gdK x12 false (fun k => k v1) fun x15 =>
 gdK x12 false (opN p_ (sLen #[129] 3 [x15]) Kp) fun x16 =>
 gdK x12 false (fun k => k v2) fun x17 =>
 gdK x12 false (opN p_ (sLen #[129] 3 [x17]) Kp) fun x18 =>
 gdK x12 false (opN p_ (sMin #[3, 3] 3 [x16, x18]) Kp) fun x19 =>
 gdK x12 false (opN p_ (sBin .geq 3 x14 x19) Kp) fun x20 =>
 opN p_ (sPick x12 (.bool true) x20) Kp fun x21 =>
 condS x21
 (K (.int .i64 1))
 (drS (stS p_ (sIA 129 v1 v3) fun x24 =>
 stS p_ (sLoad 3 x24) fun x25 =>
 stS p_ (sIA 129 v2 v3) fun x28 =>
 stS p_ (sLoad 3 x28) fun x29 =>
 opN p_ (sBin .lss 3 x29 (.int .i64 1)) Kp fun x31 =>
 gdK x31 false (fun k => k x29) fun x33 =>
 gdK x31 false (opN p_ (sBin .gtr 3 x33 (.int .i64 15)) Kp) fun x34 =>
 opN p_ (sPick x31 (.bool true) x34) Kp fun x35 =>
 gdK x35 false (fun k => k x25) fun x37 =>
 gdK x35 false (opN p_ (sBin .lss 3 x37 (.int .i64 0)) Kp) fun x38 =>
 opN p_ (sPick x35 (.bool true) x38) Kp fun x39 =>
 gdK x39 false (fun k => k x25) fun x41 =>
 gdK x39 false (fun k => k x29) fun x42 =>
 gdK x39 false (opN p_ (sConv 3 55 x42) Kp) fun x43 =>
 gdK x39 false (opN p_ (sBin .shl 3 (.int .i64 1) x43) Kp) fun x44 =>
 gdK x39 false (opN p_ (sBin .geq 3 x41 x44) Kp) fun x45 =>
 opN p_ (sPick x39 (.bool true) x45) Kp fun x46 =>
 condS x46
 (K (.int .i64 1))
 (opN p_ (sCall (fn 136) [x25, x29]) Kp fun x50 =>
 opN p_ (sCall (fn 51) [v0, x50, x29]) Kp fun x52 =>
 K x52)))
theorem huff_Put_s {v0 v1 v2 v3 : Value} : Shp p_ 108 [v0, v1, v2, v3] (huff_Put v0 v1 v2 v3) := sh_ Tryz.call108 Tryz.func108 (an := { drs := [(3, .ofL [(0, 1), (1, 1), (2, 1), (3, 1), (4, 1), (5, 1), (6, 1), (7, 1), (8, 1), (9, 1)])] }) fun _ _ => by kernel_rfl
def deflate_block_own_1 (v0 v1 v2 v3 : Value) (Kp : PK) (K : Value -> WP) : WP :=
 opN p_ (sBox 134 v0) Kp fun x4 =>
 opN p_ (sFA 134 x4 0) Kp fun x8 =>
 opN p_ (sLoad 129 x8) Kp fun x9 =>
 opN p_ (sIA 129 x9 v1) Kp fun x11 =>
 opN p_ (sLoad 3 x11) Kp fun x12 =>
 opN p_ (sBin .add 3 x12 (.int .i64 1)) Kp fun x13 =>
 opN p_ (sIA 129 x9 v1) Kp fun x14 =>
 opN p_ (sStore 3 x14 x13) Kp fun _ =>
 K (.tuple #[])
theorem deflate_block_own_1_s {v0 v1 v2 v3 : Value} : Shp p_ 109 [v0, v1, v2, v3] (deflate_block_own_1 v0 v1 v2 v3) := sh_ Tryz.call109 Tryz.func109 (an := {}) fun _ _ => by kernel_rfl
def huff_Lengths (v0 v1 : Value) (Kp : PK) (K : Value → WP) : WP :=
 opN p_ (sLen #[129] 3 [v0]) Kp fun x18 =>
 opN p_ (sBin .gtr 3 x18 (.int .i64 320)) Kp fun x19 =>
 gdK x19 false (fun k => k v1) fun x21 =>
 gdK x19 false (opN p_ (sBin .lss 3 x21 (.int .i64 1)) Kp) fun x22 =>
 opN p_ (sPick x19 (.bool true) x22) Kp fun x23 =>
 gdK x23 false (fun k => k v1) fun x25 =>
 gdK x23 false (opN p_ (sBin .gtr 3 x25 (.int .i64 15)) Kp) fun x26 =>
 opN p_ (sPick x23 (.bool true) x26) Kp fun x27 =>
 condS x27
 (K (.tuple #[(.slice none 0 0), (.int .i64 1)]))
 (opN p_ (sLen #[129] 3 [v0]) Kp fun x29 =>
 loop2 (fun I1 m1 _ y6 y30 =>
 opN p_ (sBin .lss 3 y30 x29) Kp fun x31 =>
 condS x31
 (opN p_ (sIA 129 v0 y30) Kp fun x33 =>
 opN p_ (sLoad 3 x33) Kp fun x34 =>
 opN p_ (sBin .lss 3 x34 (.int .i64 0)) Kp fun x36 =>
 gdK x36 false (fun k => k x34) fun x38 =>
 gdK x36 false (opN p_ (sBin .gtr 3 x38 (.int .i64 1099511627776)) Kp) fun x39 =>
 opN p_ (sPick x36 (.bool true) x39) Kp fun x40 =>
 condS x40
 (K (.tuple #[(.slice none 0 0), (.int .i64 1)]))
 (opN p_ (sBin .gtr 3 x34 (.int .i64 0)) Kp fun x42 =>
 condS x42
 (opN p_ (sBuildSl 129 1 [(0, y30)]) Kp fun x46 =>
 opN p_ (sBuild 199 [(0, x34), (1, x46)]) Kp fun x47 =>
 opN p_ (sBuildSl 197 1 [(0, x47)]) Kp fun x48 =>
 opN p_ (sApp #[197, 197] 197 [y6, x48]) Kp fun x49 =>
 opN p_ (sBin .add 3 y30 (.int .i64 1)) Kp fun x50 =>
 next2 I1 m1 x49 x50)
 (opN p_ (sBin .add 3 y30 (.int .i64 1)) Kp fun x50 =>
 next2 I1 m1 y6 x50)))
 (opN p_ (sLen #[197] 3 [y6]) Kp fun x52 =>
 opN p_ (sConv 3 55 v1) Kp fun x55 =>
 opN p_ (sBin .shl 3 (.int .i64 1) x55) Kp fun x56 =>
 opN p_ (sBin .gtr 3 x52 x56) Kp fun x57 =>
 condS x57
 (K (.tuple #[(.slice none 0 0), (.int .i64 1)]))
 (opN p_ (sLen #[129] 3 [v0]) Kp fun x59 =>
 opN p_ (sMkSl 129 x59 x59) Kp fun x60 =>
 opN p_ (sEq .eql 3 (.tmp 61) (.const (.int .i64 1)) x52 (.int .i64 1)) Kp fun x62 =>
 condS x62
 (opN p_ (sIA 197 y6 (.int .i64 0)) Kp fun x65 =>
 opN p_ (sFA 199 x65 1) Kp fun x66 =>
 opN p_ (sLoad 129 x66) Kp fun x67 =>
 opN p_ (sIA 129 x67 (.int .i64 0)) Kp fun x68 =>
 opN p_ (sLoad 3 x68) Kp fun x69 =>
 opN p_ (sIA 129 x60 x69) Kp fun x70 =>
 opN p_ (sStore 3 x70 (.int .i64 1)) Kp fun _ =>
 K (.tuple #[x60, (.int .i64 0)]))
 (opN p_ (sCall (fn 137) [y6, (fn 138)]) Kp fun x73 =>
 opN p_ (sBin .sub 3 v1 (.int .i64 1)) Kp fun x76 =>
 loop2 (fun I2 m2 _ y11 y77 =>
 opN p_ (sBin .lss 3 y77 x76) Kp fun x78 =>
 condS x78
 (loop2 (fun I3 m3 _ y12 y13 =>
 opN p_ (sBin .add 3 y13 (.int .i64 1)) Kp fun x80 =>
 opN p_ (sLen #[197] 3 [y11]) Kp fun x82 =>
 opN p_ (sBin .lss 3 x80 x82) Kp fun x83 =>
 condS x83
 (drS (stD p_ (sIA 197 y11 y13) fun D3 x89 =>
 stD p_ (sFA 199 x89 0) fun D4 x90 =>
 stD p_ (sLoad 3 x90) fun D5 x91 =>
 stD p_ (sBin .add 3 y13 (.int .i64 1)) fun D8 x94 =>
 stD p_ (sIA 197 y11 x94) fun D9 x95 =>
 stD p_ (sFA 199 x95 0) fun D10 x96 =>
 stD p_ (sLoad 3 x96) fun D11 x97 =>
 stD p_ (sBin .add 3 x91 x97) fun D12 x98 =>
 stS p_ (sIA 197 y11 y13) fun x101 =>
 stS p_ (sFA 199 x101 1) fun x102 =>
 stS p_ (sLoad 129 x102) fun x103 =>
 stS p_ (sBin .add 3 y13 (.int .i64 1)) fun x106 =>
 stS p_ (sIA 197 y11 x106) fun x107 =>
 stS p_ (sFA 199 x107 1) fun x108 =>
 stS p_ (sLoad 129 x108) fun x109 =>
 opN p_ (sBuildSl 228 2 [(0, x103), (1, x109)]) Kp fun x110 =>
 (fun w => D12 w ∧ (fun w => D11 w ∧ (fun w => D10 w ∧ (fun w => D9 w ∧ (fun w => D8 w ∧ (fun w => D5 w ∧ (fun w => D4 w ∧ (fun w => D3 w ∧ (opN p_ (sCall (fn 140) [x110]) Kp fun x111 =>
 (fun w => D12 w ∧ (fun w => D11 w ∧ (fun w => D10 w ∧ (fun w => D9 w ∧ (fun w => D8 w ∧ (fun w => D5 w ∧ (fun w => D4 w ∧ (fun w => D3 w ∧ (stS p_ (sBuild 199 [(0, x98), (1, x111)]) fun x112 =>
 opN p_ (sBuildSl 197 1 [(0, x112)]) Kp fun x113 =>
 opN p_ (sApp #[197, 197] 197 [y12, x113]) Kp fun x114 =>
 opN p_ (sBin .add 3 y13 (.int .i64 2)) Kp fun x85 =>
 next2 I3 m3 x114 x85) w) w) w) w) w) w) w) w)) w) w) w) w) w) w) w) w)))
 (opN p_ (sCall (fn 141) [y6, y12]) Kp fun x117 =>
 opN p_ (sBin .add 3 y77 (.int .i64 1)) Kp fun x118 =>
 next2 I2 m2 x117 x118)) (.slice none 0 0) (.int .i64 0))
 (loop1 (fun I4 m4 _ y14 =>
 opN p_ (sBin .mul 3 (.int .i64 2) x52) Kp fun x121 =>
 opN p_ (sBin .sub 3 x121 (.int .i64 2)) Kp fun x122 =>
 opN p_ (sBin .lss 3 y14 x122) Kp fun x123 =>
 condS x123
 (opN p_ (sIA 197 y11 y14) Kp fun x128 =>
 opN p_ (sFA 199 x128 1) Kp fun x129 =>
 opN p_ (sLoad 129 x129) Kp fun x130 =>
 opN p_ (sLen #[129] 3 [x130]) Kp fun x131 =>
 loop1 (fun I5 m5 _ y132 =>
 opN p_ (sBin .lss 3 y132 x131) Kp fun x133 =>
 condS x133
 (opN p_ (sIA 129 x130 y132) Kp fun x134 =>
 opN p_ (sLoad 3 x134) Kp fun x135 =>
 opN p_ (sIA 129 x60 x135) Kp fun x138 =>
 opN p_ (sLoad 3 x138) Kp fun x139 =>
 opN p_ (sBin .add 3 x139 (.int .i64 1)) Kp fun x140 =>
 opN p_ (sIA 129 x60 x135) Kp fun x141 =>
 opN p_ (sStore 3 x141 x140) Kp fun _ =>
 opN p_ (sBin .add 3 y132 (.int .i64 1)) Kp fun x142 =>
 next1 I5 m5 x142)
 (opN p_ (sBin .add 3 y14 (.int .i64 1)) Kp fun x125 =>
 next1 I4 m4 x125)) (.int .i64 0))
 (K (.tuple #[x60, (.int .i64 0)]))) (.int .i64 0))) y6 (.int .i64 0))))) (.slice none 0 0) (.int .i64 0))
theorem huff_Lengths_s {v0 v1 : Value} : Shp p_ 110 [v0, v1] (huff_Lengths v0 v1) := sh_ Tryz.call110 Tryz.func110 (an := { loops := [(5, [6, 30]), (22, [11, 77]), (25, [12, 13]), (31, [14]), (34, [132])], drs := [(27, .ofL [(0, 2), (1, 2), (2, 2), (3, 3), (4, 3), (5, 3), (6, 2), (7, 2), (8, 3), (9, 3), (10, 3), (11, 3), (12, 3), (13, 1), (14, 1), (15, 1), (16, 1), (17, 1), (18, 1), (19, 1), (20, 1), (21, 1), (22, 1), (23, 1), (24, 0), (25, 0), (26, 1), (27, 0), (28, 0), (29, 1)])] }) fun _ _ => by kernel_rfl
def deflate_upto (v0 v1 : Value) (Kp : PK) (K : Value → WP) : WP :=
 opN p_ (sLen #[129] 3 [v0]) Kp fun x7 =>
 loop1 (fun I1 m1 _ y5 =>
 opN p_ (sBin .gtr 3 y5 v1) Kp fun x10 =>
 gdK x10 true (fun k => k v0) fun x12 =>
 gdK x10 true (fun k => k y5) fun x13 =>
 gdK x10 true (opN p_ (sBin .sub 3 x13 (.int .i64 1)) Kp) fun x14 =>
 gdK x10 true (opN p_ (sIA 129 x12 x14) Kp) fun x15 =>
 gdK x10 true (opN p_ (sLoad 3 x15) Kp) fun x16 =>
 gdK x10 true (opN p_ (sEq .eql 3 (.tmp 16) (.const (.int .i64 0)) x16 (.int .i64 0)) Kp) fun x17 =>
 opN p_ (sPick x10 x17 (.bool false)) Kp fun x18 =>
 condS x18
 (opN p_ (sBin .sub 3 y5 (.int .i64 1)) Kp fun x20 =>
 next1 I1 m1 x20)
 (K y5)) x7
theorem deflate_upto_s {v0 v1 : Value} : Shp p_ 111 [v0, v1] (deflate_upto v0 v1) := sh_ Tryz.call111 Tryz.func111 (an := { loops := [(2, [5])] }) fun _ _ => by kernel_rfl
def deflate_runs (v0 : Value) (Kp : PK) (K : Value -> WP) : WP :=
 opN p_ (sBox 129 v0) Kp fun x1 =>
 opN p_ (sMkF (.func 142) [] [x1]) Kp fun x3 =>
 K x3
theorem deflate_runs_s {v0 : Value} : Shp p_ 112 [v0] (deflate_runs v0) := sh_ Tryz.call112 Tryz.func112 (an := {}) fun _ _ => by kernel_rfl
def ref04_at (v0 v1 v2 v3 : Value) (Kp : PK) (K : Value → WP) : WP :=
 opN p_ (sAlloc 118) Kp fun x8 =>
 opN p_ (sIA 22 v0 v1) Kp fun x14 =>
 opN p_ (sLoad 5 x14) Kp fun x15 =>
 opN p_ (sBuild 118 [(2, x15)]) Kp fun x16 =>
 opN p_ (sAlloc 118) Kp fun x9 =>
 opN p_ (sStore 118 x9 x16) Kp fun _ =>
 opN p_ (sBin .sub 3 v1 (.int .i64 1)) Kp fun x18 =>
 loop2 (fun I1 m1 _ y3 y10 =>
 opN p_ (sBin .geq 3 y10 (.int .i64 0)) Kp fun x20 =>
 gdK x20 true (fun k => k v1) fun x22 =>
 gdK x20 true (fun k => k y10) fun x23 =>
 gdK x20 true (opN p_ (sBin .sub 3 x22 x23) Kp) fun x24 =>
 gdK x20 true (fun k => k v2) fun x25 =>
 gdK x20 true (opN p_ (sBin .leq 3 x24 x25) Kp) fun x26 =>
 opN p_ (sPick x20 x26 (.bool false)) Kp fun x27 =>
 gdK x27 true (fun k => k y3) fun x29 =>
 gdK x27 true (opN p_ (sBin .gtr 3 x29 (.int .i64 0)) Kp) fun x30 =>
 opN p_ (sPick x27 x30 (.bool false)) Kp fun x31 =>
 condS x31
 (opN p_ (sCall (fn 143) [v0, y10, v1]) Kp fun x37 =>
 opN p_ (sBin .lss 3 x37 (.int .i64 3)) Kp fun x39 =>
 condS x39
 (opN p_ (sBin .sub 3 y10 (.int .i64 1)) Kp fun x33 =>
 next2 I1 m1 y3 x33)
 (opN p_ (sBin .sub 3 y3 (.int .i64 1)) Kp fun x41 =>
 opN p_ (sFA 118 x9 0) Kp fun x43 =>
 opN p_ (sLoad 3 x43) Kp fun x44 =>
 opN p_ (sBin .gtr 3 x37 x44) Kp fun x45 =>
 condS x45
 (opN p_ (sBin .sub 3 v1 y10) Kp fun x49 =>
 opN p_ (sBuild 118 [(0, x37), (1, x49)]) Kp fun x50 =>
 opN p_ (sStore 118 x9 x50) Kp fun _ =>
 opN p_ (sBin .sub 3 y10 (.int .i64 1)) Kp fun x33 =>
 next2 I1 m1 x41 x33)
 (opN p_ (sBin .sub 3 y10 (.int .i64 1)) Kp fun x33 =>
 next2 I1 m1 x41 x33)))
 (opN p_ (sLoad 118 x9) Kp fun x51 =>
 opN p_ (sStore 118 x8 x51) Kp fun _ =>
 (stS p_ (sRes 118 x8) fun r0 => K r0))) v3 x18
theorem ref04_at_s {v0 v1 v2 v3 : Value} : Shp p_ 113 [v0, v1, v2, v3] (ref04_at v0 v1 v2 v3) := sh_ Tryz.call113 Tryz.func113 (an := { loops := [(3, [3, 10])] }) fun _ _ => by kernel_rfl
def ref03_Codes (v0 : Value) (Kp : PK) (K : Value → WP) : WP :=
 opN p_ (sCall (fn 144) [v0]) Kp fun x13 =>
 opN p_ (sExt x13 0) Kp fun x14 =>
 opN p_ (sExt x13 1) Kp fun x15 =>
 opN p_ (sUn .not x15) Kp fun x17 =>
 condS x17
 (K (.tuple #[(.slice none 0 0), (.int .i64 30)]))
 (opN p_ (sLen #[129] 3 [v0]) Kp fun x19 =>
 opN p_ (sMkSl 129 x19 x19) Kp fun x20 =>
 loop3 (fun I1 m1 _ y7 y8 y9 =>
 opN p_ (sBin .leq 3 y9 (.int .i64 15)) Kp fun x22 =>
 condS x22
 (loop3 (fun I2 m2 _ y7 y8 y10 =>
 opN p_ (sLen #[129] 3 [v0]) Kp fun x27 =>
 opN p_ (sBin .lss 3 y10 x27) Kp fun x28 =>
 condS x28
 (opN p_ (sIA 129 v0 y10) Kp fun x33 =>
 opN p_ (sLoad 3 x33) Kp fun x34 =>
 opN p_ (sEq .neq 3 (.tmp 34) (.tmp 35) x34 y9) Kp fun x36 =>
 condS x36
 (opN p_ (sBin .add 3 y10 (.int .i64 1)) Kp fun x30 =>
 next3 I2 m2 y7 y8 x30)
 (cut1 (fun J1 =>
 opN p_ (sBin .gtr 3 y8 (.int .i64 0)) Kp fun x38 =>
 condS x38
 (opN p_ (sBin .add 3 y7 (.int .i64 1)) Kp fun x40 =>
 opN p_ (sBin .sub 3 y9 y8) Kp fun x43 =>
 opN p_ (sConv 3 55 x43) Kp fun x44 =>
 opN p_ (sBin .shl 3 x40 x44) Kp fun x45 =>
 J1 x45)
 (J1 y7)) fun _ z7 =>
 opN p_ (sIA 129 x20 y10) Kp fun x49 =>
 opN p_ (sStore 3 x49 z7) Kp fun _ =>
 opN p_ (sBin .add 3 y10 (.int .i64 1)) Kp fun x30 =>
 next3 I2 m2 z7 y9 x30))
 (opN p_ (sBin .add 3 y9 (.int .i64 1)) Kp fun x24 =>
 next3 I1 m1 y7 y8 x24)) y7 y8 (.int .i64 0))
 (K (.tuple #[x20, (.int .i64 0)]))) (.int .i64 0) (.int .i64 0) (.int .i64 1))
theorem ref03_Codes_s {v0 : Value} : Shp p_ 114 [v0] (ref03_Codes v0) := sh_ Tryz.call114 Tryz.func114 (an := { cuts := [(16, [7])], loops := [(8, [7, 8, 9]), (11, [7, 8, 10])] }) fun _ _ => by kernel_rfl
def ref03_Put (v0 v1 v2 v3 : Value) (Kp : PK) (K : Value → WP) : WP :=
 opN p_ (sBin .lss 3 v3 (.int .i64 0)) Kp fun x11 =>
 gdK x11 false (fun k => k v3) fun x13 =>
 gdK x11 false (fun k => k v1) fun x14 =>
 gdK x11 false (opN p_ (sLen #[129] 3 [x14]) Kp) fun x15 =>
 gdK x11 false (opN p_ (sBin .geq 3 x13 x15) Kp) fun x16 =>
 opN p_ (sPick x11 (.bool true) x16) Kp fun x17 =>
 gdK x17 false (fun k => k v3) fun x19 =>
 gdK x17 false (fun k => k v2) fun x20 =>
 gdK x17 false (opN p_ (sLen #[129] 3 [x20]) Kp) fun x21 =>
 gdK x17 false (opN p_ (sBin .geq 3 x19 x21) Kp) fun x22 =>
 opN p_ (sPick x17 (.bool true) x22) Kp fun x23 =>
 condS x23
 (K (.int .i64 1))
 (opN p_ (sIA 129 v2 v3) Kp fun x26 =>
 opN p_ (sLoad 3 x26) Kp fun x27 =>
 opN p_ (sBin .lss 3 x27 (.int .i64 1)) Kp fun x29 =>
 gdK x29 false (fun k => k x27) fun x31 =>
 gdK x29 false (opN p_ (sBin .gtr 3 x31 (.int .i64 15)) Kp) fun x32 =>
 opN p_ (sPick x29 (.bool true) x32) Kp fun x33 =>
 gdK x33 false (fun k => k v1) fun x35 =>
 gdK x33 false (fun k => k v3) fun x36 =>
 gdK x33 false (opN p_ (sIA 129 x35 x36) Kp) fun x37 =>
 gdK x33 false (opN p_ (sLoad 3 x37) Kp) fun x38 =>
 gdK x33 false (opN p_ (sBin .lss 3 x38 (.int .i64 0)) Kp) fun x39 =>
 opN p_ (sPick x33 (.bool true) x39) Kp fun x40 =>
 gdK x40 false (fun k => k v1) fun x42 =>
 gdK x40 false (fun k => k v3) fun x43 =>
 gdK x40 false (opN p_ (sIA 129 x42 x43) Kp) fun x44 =>
 gdK x40 false (opN p_ (sLoad 3 x44) Kp) fun x45 =>
 gdK x40 false (fun k => k x27) fun x46 =>
 gdK x40 false (opN p_ (sConv 3 55 x46) Kp) fun x47 =>
 gdK x40 false (opN p_ (sBin .shl 3 (.int .i64 1) x47) Kp) fun x48 =>
 gdK x40 false (opN p_ (sBin .geq 3 x45 x48) Kp) fun x49 =>
 opN p_ (sPick x40 (.bool true) x49) Kp fun x50 =>
 condS x50
 (K (.int .i64 1))
 (opN p_ (sIA 129 v1 v3) Kp fun x54 =>
 opN p_ (sLoad 3 x54) Kp fun x55 =>
 opN p_ (sCall (fn 145) [x55, x27]) Kp fun x57 =>
 opN p_ (sCall (fn 56) [v0, x57, x27]) Kp fun x59 =>
 K x59))
theorem ref03_Put_s {v0 v1 v2 v3 : Value} : Shp p_ 115 [v0, v1, v2, v3] (ref03_Put v0 v1 v2 v3) := sh_ Tryz.call115 Tryz.func115 (an := {}) fun _ _ => by kernel_rfl
def ref04_Length (v0 : Value) (Kp : PK) (K : Value → WP) : WP :=
 opN p_ (sBin .lss 3 v0 (.int .i64 3)) Kp fun x9 =>
 gdK x9 false (fun k => k v0) fun x11 =>
 gdK x9 false (opN p_ (sBin .gtr 3 x11 (.int .i64 258)) Kp) fun x12 =>
 opN p_ (sPick x9 (.bool true) x12) Kp fun x13 =>
 condS x13
 (K (.tuple #[(.int .i64 (-1)), (.int .i64 0), (.int .i64 0)]))
 (opN p_ (sCall (fn 146) [(.int .i64 285)]) Kp fun x16 =>
 opN p_ (sExt x16 0) Kp fun x17 =>
 opN p_ (sExt x16 1) Kp fun x18 =>
 loop3 (fun I1 m1 _ y5 y6 y7 =>
 opN p_ (sBin .gtr 3 y6 v0) Kp fun x21 =>
 condS x21
 (opN p_ (sBin .sub 3 y5 (.int .i64 1)) Kp fun x23 =>
 opN p_ (sCall (fn 146) [x23]) Kp fun x26 =>
 opN p_ (sExt x26 0) Kp fun x27 =>
 opN p_ (sExt x26 1) Kp fun x28 =>
 next3 I1 m1 x23 x27 x28)
 (opN p_ (sBin .sub 3 v0 y6) Kp fun x33 =>
 K (.tuple #[y5, y7, x33]))) (.int .i64 285) x17 x18)
theorem ref04_Length_s {v0 : Value} : Shp p_ 116 [v0] (ref04_Length v0) := sh_ Tryz.call116 Tryz.func116 (an := { loops := [(5, [5, 6, 7])] }) fun _ _ => by kernel_rfl
def ref04_Distance (v0 : Value) (Kp : PK) (K : Value → WP) : WP :=
 opN p_ (sBin .lss 3 v0 (.int .i64 1)) Kp fun x9 =>
 gdK x9 false (fun k => k v0) fun x11 =>
 gdK x9 false (opN p_ (sBin .gtr 3 x11 (.int .i64 32768)) Kp) fun x12 =>
 opN p_ (sPick x9 (.bool true) x12) Kp fun x13 =>
 condS x13
 (K (.tuple #[(.int .i64 (-1)), (.int .i64 0), (.int .i64 0)]))
 (opN p_ (sCall (fn 147) [(.int .i64 29)]) Kp fun x16 =>
 opN p_ (sExt x16 0) Kp fun x17 =>
 opN p_ (sExt x16 1) Kp fun x18 =>
 loop3 (fun I1 m1 _ y5 y6 y7 =>
 opN p_ (sBin .gtr 3 y6 v0) Kp fun x21 =>
 condS x21
 (opN p_ (sBin .sub 3 y5 (.int .i64 1)) Kp fun x23 =>
 opN p_ (sCall (fn 147) [x23]) Kp fun x26 =>
 opN p_ (sExt x26 0) Kp fun x27 =>
 opN p_ (sExt x26 1) Kp fun x28 =>
 next3 I1 m1 x23 x27 x28)
 (opN p_ (sBin .sub 3 v0 y6) Kp fun x33 =>
 K (.tuple #[y5, y7, x33]))) (.int .i64 29) x17 x18)
theorem ref04_Distance_s {v0 : Value} : Shp p_ 117 [v0] (ref04_Distance v0) := sh_ Tryz.call117 Tryz.func117 (an := { loops := [(5, [5, 6, 7])] }) fun _ _ => by kernel_rfl
def ref03_Lengths (v0 v1 : Value) (Kp : PK) (K : Value → WP) : WP :=
 opN p_ (sLen #[129] 3 [v0]) Kp fun x17 =>
 opN p_ (sBin .gtr 3 x17 (.int .i64 320)) Kp fun x18 =>
 gdK x18 false (fun k => k v1) fun x20 =>
 gdK x18 false (opN p_ (sBin .lss 3 x20 (.int .i64 1)) Kp) fun x21 =>
 opN p_ (sPick x18 (.bool true) x21) Kp fun x22 =>
 gdK x22 false (fun k => k v1) fun x24 =>
 gdK x22 false (opN p_ (sBin .gtr 3 x24 (.int .i64 15)) Kp) fun x25 =>
 opN p_ (sPick x22 (.bool true) x25) Kp fun x26 =>
 condS x26
 (K (.tuple #[(.slice none 0 0), (.int .i64 1)]))
 (loop2 (fun I1 m1 _ y6 y7 =>
 opN p_ (sLen #[129] 3 [v0]) Kp fun x29 =>
 opN p_ (sBin .lss 3 y7 x29) Kp fun x30 =>
 condS x30
 (opN p_ (sIA 129 v0 y7) Kp fun x35 =>
 opN p_ (sLoad 3 x35) Kp fun x36 =>
 opN p_ (sBin .lss 3 x36 (.int .i64 0)) Kp fun x37 =>
 gdK x37 false (fun k => k v0) fun x39 =>
 gdK x37 false (fun k => k y7) fun x40 =>
 gdK x37 false (opN p_ (sIA 129 x39 x40) Kp) fun x41 =>
 gdK x37 false (opN p_ (sLoad 3 x41) Kp) fun x42 =>
 gdK x37 false (opN p_ (sBin .gtr 3 x42 (.int .i64 1099511627776)) Kp) fun x43 =>
 opN p_ (sPick x37 (.bool true) x43) Kp fun x44 =>
 condS x44
 (K (.tuple #[(.slice none 0 0), (.int .i64 1)]))
 (opN p_ (sIA 129 v0 y7) Kp fun x47 =>
 opN p_ (sLoad 3 x47) Kp fun x48 =>
 opN p_ (sBin .gtr 3 x48 (.int .i64 0)) Kp fun x49 =>
 condS x49
 (opN p_ (sBin .add 3 y6 (.int .i64 1)) Kp fun x51 =>
 opN p_ (sBin .add 3 y7 (.int .i64 1)) Kp fun x32 =>
 next2 I1 m1 x51 x32)
 (opN p_ (sBin .add 3 y7 (.int .i64 1)) Kp fun x32 =>
 next2 I1 m1 y6 x32)))
 (opN p_ (sConv 3 55 v1) Kp fun x54 =>
 opN p_ (sBin .shl 3 (.int .i64 1) x54) Kp fun x55 =>
 opN p_ (sBin .gtr 3 y6 x55) Kp fun x56 =>
 condS x56
 (K (.tuple #[(.slice none 0 0), (.int .i64 1)]))
 (opN p_ (sLen #[129] 3 [v0]) Kp fun x58 =>
 opN p_ (sMkSl 129 x58 x58) Kp fun x59 =>
 opN p_ (sCall (fn 148) [v0]) Kp fun x61 =>
 opN p_ (sEq .eql 3 (.tmp 62) (.const (.int .i64 1)) y6 (.int .i64 1)) Kp fun x63 =>
 condS x63
 (opN p_ (sIA 209 x61 (.int .i64 0)) Kp fun x66 =>
 opN p_ (sFA 212 x66 1) Kp fun x67 =>
 opN p_ (sLoad 129 x67) Kp fun x68 =>
 opN p_ (sIA 129 x68 (.int .i64 0)) Kp fun x69 =>
 opN p_ (sLoad 3 x69) Kp fun x70 =>
 opN p_ (sIA 129 x59 x70) Kp fun x71 =>
 opN p_ (sStore 3 x71 (.int .i64 1)) Kp fun _ =>
 K (.tuple #[x59, (.int .i64 0)]))
 (loop2 (fun I2 m2 _ y10 y11 =>
 opN p_ (sBin .lss 3 y11 v1) Kp fun x76 =>
 condS x76
 (loop2 (fun I3 m3 _ y12 y13 =>
 opN p_ (sBin .add 3 y13 (.int .i64 1)) Kp fun x80 =>
 opN p_ (sLen #[209] 3 [y10]) Kp fun x82 =>
 opN p_ (sBin .lss 3 x80 x82) Kp fun x83 =>
 condS x83
 (drS (stD p_ (sIA 209 y10 y13) fun D3 x89 =>
 stD p_ (sFA 212 x89 0) fun D4 x90 =>
 stD p_ (sLoad 3 x90) fun D5 x91 =>
 stD p_ (sBin .add 3 y13 (.int .i64 1)) fun D8 x94 =>
 stD p_ (sIA 209 y10 x94) fun D9 x95 =>
 stD p_ (sFA 212 x95 0) fun D10 x96 =>
 stD p_ (sLoad 3 x96) fun D11 x97 =>
 stD p_ (sBin .add 3 x91 x97) fun D12 x98 =>
 stD p_ (sIA 209 y10 y13) fun D16 x102 =>
 stD p_ (sFA 212 x102 1) fun D17 x103 =>
 stD p_ (sLoad 129 x103) fun D18 x104 =>
 stD p_ (sBin .add 3 y13 (.int .i64 1)) fun D22 x108 =>
 stD p_ (sIA 209 y10 x108) fun D23 x109 =>
 stD p_ (sFA 212 x109 1) fun D24 x110 =>
 stD p_ (sLoad 129 x110) fun D25 x111 =>
 opN p_ (sBuildSl 129 0 []) Kp fun x99 =>
 (fun w => D25 w ∧ (fun w => D24 w ∧ (fun w => D23 w ∧ (fun w => D22 w ∧ (fun w => D18 w ∧ (fun w => D17 w ∧ (fun w => D16 w ∧ (fun w => D12 w ∧ (fun w => D11 w ∧ (fun w => D10 w ∧ (fun w => D9 w ∧ (fun w => D8 w ∧ (fun w => D5 w ∧ (fun w => D4 w ∧ (fun w => D3 w ∧ (opN p_ (sApp #[129, 129] 129 [x99, x104]) Kp fun x105 =>
 (fun w => D25 w ∧ (fun w => D24 w ∧ (fun w => D23 w ∧ (fun w => D22 w ∧ (fun w => D12 w ∧ (fun w => D11 w ∧ (fun w => D10 w ∧ (fun w => D9 w ∧ (fun w => D8 w ∧ (fun w => D5 w ∧ (fun w => D4 w ∧ (fun w => D3 w ∧ (opN p_ (sApp #[129, 129] 129 [x105, x111]) Kp fun x112 =>
 (fun w => D12 w ∧ (fun w => D11 w ∧ (fun w => D10 w ∧ (fun w => D9 w ∧ (fun w => D8 w ∧ (fun w => D5 w ∧ (fun w => D4 w ∧ (fun w => D3 w ∧ (stS p_ (sBuild 212 [(0, x98), (1, x112)]) fun x113 =>
 opN p_ (sBuildSl 209 1 [(0, x113)]) Kp fun x114 =>
 opN p_ (sApp #[209, 209] 209 [y12, x114]) Kp fun x115 =>
 opN p_ (sBin .add 3 y13 (.int .i64 2)) Kp fun x85 =>
 next2 I3 m3 x115 x85) w) w) w) w) w) w) w) w)) w) w) w) w) w) w) w) w) w) w) w) w)) w) w) w) w) w) w) w) w) w) w) w) w) w) w) w)))
 (opN p_ (sCall (fn 149) [x61, y12]) Kp fun x118 =>
 opN p_ (sBin .add 3 y11 (.int .i64 1)) Kp fun x78 =>
 next2 I2 m2 x118 x78)) (.slice none 0 0) (.int .i64 0))
 (loop1 (fun I4 m4 _ y14 =>
 opN p_ (sBin .mul 3 (.int .i64 2) y6) Kp fun x121 =>
 opN p_ (sBin .sub 3 x121 (.int .i64 2)) Kp fun x122 =>
 opN p_ (sBin .lss 3 y14 x122) Kp fun x123 =>
 condS x123
 (loop1 (fun I5 m5 _ y15 =>
 opN p_ (sIA 209 y10 y14) Kp fun x129 =>
 opN p_ (sFA 212 x129 1) Kp fun x130 =>
 opN p_ (sLoad 129 x130) Kp fun x131 =>
 opN p_ (sLen #[129] 3 [x131]) Kp fun x132 =>
 opN p_ (sBin .lss 3 y15 x132) Kp fun x133 =>
 condS x133
 (opN p_ (sIA 209 y10 y14) Kp fun x139 =>
 opN p_ (sFA 212 x139 1) Kp fun x140 =>
 opN p_ (sLoad 129 x140) Kp fun x141 =>
 opN p_ (sIA 129 x141 y15) Kp fun x143 =>
 opN p_ (sLoad 3 x143) Kp fun x144 =>
 opN p_ (sIA 129 x59 x144) Kp fun x145 =>
 opN p_ (sLoad 3 x145) Kp fun x146 =>
 opN p_ (sBin .add 3 x146 (.int .i64 1)) Kp fun x147 =>
 opN p_ (sIA 129 x59 x144) Kp fun x148 =>
 opN p_ (sStore 3 x148 x147) Kp fun _ =>
 opN p_ (sBin .add 3 y15 (.int .i64 1)) Kp fun x135 =>
 next1 I5 m5 x135)
 (opN p_ (sBin .add 3 y14 (.int .i64 1)) Kp fun x125 =>
 next1 I4 m4 x125)) (.int .i64 0))
 (K (.tuple #[x59, (.int .i64 0)]))) (.int .i64 0))) x61 (.int .i64 1))))) (.int .i64 0) (.int .i64 0))
theorem ref03_Lengths_s {v0 v1 : Value} : Shp p_ 118 [v0, v1] (ref03_Lengths v0 v1) := sh_ Tryz.call118 Tryz.func118 (an := { loops := [(5, [6, 7]), (20, [10, 11]), (24, [12, 13]), (29, [14]), (32, [15])], drs := [(26, .ofL [(0, 2), (1, 2), (2, 2), (3, 3), (4, 3), (5, 3), (6, 2), (7, 2), (8, 3), (9, 3), (10, 3), (11, 3), (12, 3), (14, 2), (15, 2), (16, 3), (17, 3), (18, 3), (20, 2), (21, 2), (22, 3), (23, 3), (24, 3), (25, 3), (13, 0), (19, 0), (26, 0), (27, 1), (28, 0), (29, 0), (30, 1)])] }) fun _ _ => by kernel_rfl
def ref06_upto (v0 v1 : Value) (Kp : PK) (K : Value → WP) : WP :=
 loop2 (fun I1 m1 _ y5 y6 =>
 opN p_ (sLen #[129] 3 [v0]) Kp fun x10 =>
 opN p_ (sBin .lss 3 y6 x10) Kp fun x11 =>
 condS x11
 (opN p_ (sIA 129 v0 y6) Kp fun x16 =>
 opN p_ (sLoad 3 x16) Kp fun x17 =>
 opN p_ (sEq .neq 3 (.tmp 17) (.const (.int .i64 0)) x17 (.int .i64 0)) Kp fun x18 =>
 condS x18
 (opN p_ (sBin .add 3 y6 (.int .i64 1)) Kp fun x21 =>
 opN p_ (sMax #[3, 3] 3 [y5, x21]) Kp fun x22 =>
 opN p_ (sBin .add 3 y6 (.int .i64 1)) Kp fun x13 =>
 next2 I1 m1 x22 x13)
 (opN p_ (sBin .add 3 y6 (.int .i64 1)) Kp fun x13 =>
 next2 I1 m1 y5 x13))
 (K y5)) v1 (.int .i64 0)
theorem ref06_upto_s {v0 v1 : Value} : Shp p_ 119 [v0, v1] (ref06_upto v0 v1) := sh_ Tryz.call119 Tryz.func119 (an := { loops := [(3, [5, 6])] }) fun _ _ => by kernel_rfl
def ref06_runs (v0 : Value) (Kp : PK) (K : Value → WP) : WP :=
 loop2 (fun I1 m1 _ y3 y4 =>
 opN p_ (sLen #[129] 3 [v0]) Kp fun x9 =>
 opN p_ (sBin .lss 3 y4 x9) Kp fun x10 =>
 condS x10
 (opN p_ (sIA 129 v0 y4) Kp fun x13 =>
 opN p_ (sLoad 3 x13) Kp fun x14 =>
 loop1 (fun I2 m2 _ y6 =>
 opN p_ (sBin .add 3 y4 y6) Kp fun x17 =>
 opN p_ (sLen #[129] 3 [v0]) Kp fun x19 =>
 opN p_ (sBin .lss 3 x17 x19) Kp fun x20 =>
 gdK x20 true (fun k => k v0) fun x22 =>
 gdK x20 true (fun k => k y4) fun x23 =>
 gdK x20 true (fun k => k y6) fun x24 =>
 gdK x20 true (opN p_ (sBin .add 3 x23 x24) Kp) fun x25 =>
 gdK x20 true (opN p_ (sIA 129 x22 x25) Kp) fun x26 =>
 gdK x20 true (opN p_ (sLoad 3 x26) Kp) fun x27 =>
 gdK x20 true (fun k => k x14) fun x28 =>
 gdK x20 true (opN p_ (sEq .eql 3 (.tmp 27) (.tmp 28) x27 x28) Kp) fun x29 =>
 opN p_ (sPick x20 x29 (.bool false)) Kp fun x30 =>
 condS x30
 (opN p_ (sBin .add 3 y6 (.int .i64 1)) Kp fun x32 =>
 next1 I2 m2 x32)
 (opN p_ (sEq .eql 3 (.tmp 39) (.const (.int .i64 0)) x14 (.int .i64 0)) Kp fun x40 =>
 gdK x40 true (fun k => k y6) fun x42 =>
 gdK x40 true (opN p_ (sBin .geq 3 x42 (.int .i64 11)) Kp) fun x43 =>
 opN p_ (sPick x40 x43 (.bool false)) Kp fun x44 =>
 condS x44
 (opN p_ (sMin #[3, 3] 3 [y6, (.int .i64 138)]) Kp fun x46 =>
 opN p_ (sBin .sub 3 x46 (.int .i64 11)) Kp fun x49 =>
 opN p_ (sBuild 180 [(0, (.int .i64 18)), (1, (.int .i64 7)), (2, x49)]) Kp fun x50 =>
 opN p_ (sBuildSl 177 1 [(0, x50)]) Kp fun x51 =>
 opN p_ (sApp #[177, 177] 177 [y3, x51]) Kp fun x52 =>
 opN p_ (sBin .add 3 y4 x46) Kp fun x96 =>
 next2 I1 m1 x52 x96)
 (opN p_ (sEq .eql 3 (.tmp 54) (.const (.int .i64 0)) x14 (.int .i64 0)) Kp fun x55 =>
 gdK x55 true (fun k => k y6) fun x57 =>
 gdK x55 true (opN p_ (sBin .geq 3 x57 (.int .i64 3)) Kp) fun x58 =>
 opN p_ (sPick x55 x58 (.bool false)) Kp fun x59 =>
 condS x59
 (opN p_ (sBin .sub 3 y6 (.int .i64 3)) Kp fun x62 =>
 opN p_ (sBuild 180 [(0, (.int .i64 17)), (1, (.int .i64 3)), (2, x62)]) Kp fun x63 =>
 opN p_ (sBuildSl 177 1 [(0, x63)]) Kp fun x64 =>
 opN p_ (sApp #[177, 177] 177 [y3, x64]) Kp fun x65 =>
 opN p_ (sBin .add 3 y4 y6) Kp fun x96 =>
 next2 I1 m1 x65 x96)
 (opN p_ (sEq .neq 3 (.tmp 67) (.const (.int .i64 0)) x14 (.int .i64 0)) Kp fun x68 =>
 gdK x68 true (fun k => k y4) fun x70 =>
 gdK x68 true (opN p_ (sBin .gtr 3 x70 (.int .i64 0)) Kp) fun x71 =>
 opN p_ (sPick x68 x71 (.bool false)) Kp fun x72 =>
 gdK x72 true (fun k => k v0) fun x74 =>
 gdK x72 true (fun k => k y4) fun x75 =>
 gdK x72 true (opN p_ (sBin .sub 3 x75 (.int .i64 1)) Kp) fun x76 =>
 gdK x72 true (opN p_ (sIA 129 x74 x76) Kp) fun x77 =>
 gdK x72 true (opN p_ (sLoad 3 x77) Kp) fun x78 =>
 gdK x72 true (fun k => k x14) fun x79 =>
 gdK x72 true (opN p_ (sEq .eql 3 (.tmp 78) (.tmp 79) x78 x79) Kp) fun x80 =>
 opN p_ (sPick x72 x80 (.bool false)) Kp fun x81 =>
 gdK x81 true (fun k => k y6) fun x83 =>
 gdK x81 true (opN p_ (sBin .geq 3 x83 (.int .i64 3)) Kp) fun x84 =>
 opN p_ (sPick x81 x84 (.bool false)) Kp fun x85 =>
 condS x85
 (opN p_ (sMin #[3, 3] 3 [y6, (.int .i64 6)]) Kp fun x87 =>
 opN p_ (sBin .sub 3 x87 (.int .i64 3)) Kp fun x90 =>
 opN p_ (sBuild 180 [(0, (.int .i64 16)), (1, (.int .i64 2)), (2, x90)]) Kp fun x91 =>
 opN p_ (sBuildSl 177 1 [(0, x91)]) Kp fun x92 =>
 opN p_ (sApp #[177, 177] 177 [y3, x92]) Kp fun x93 =>
 opN p_ (sBin .add 3 y4 x87) Kp fun x96 =>
 next2 I1 m1 x93 x96)
 (opN p_ (sBuild 180 [(0, x14), (1, (.int .i64 0)), (2, (.int .i64 0))]) Kp fun x35 =>
 opN p_ (sBuildSl 177 1 [(0, x35)]) Kp fun x36 =>
 opN p_ (sApp #[177, 177] 177 [y3, x36]) Kp fun x37 =>
 opN p_ (sBin .add 3 y4 (.int .i64 1)) Kp fun x96 =>
 next2 I1 m1 x37 x96))))) (.int .i64 1))
 (K y3)) (.slice none 0 0) (.int .i64 0)
theorem ref06_runs_s {v0 : Value} : Shp p_ 120 [v0] (ref06_runs v0) := sh_ Tryz.call120 Tryz.func120 (an := { loops := [(3, [3, 4]), (6, [6])] }) fun _ _ => by kernel_rfl
def ref06_order (Kp : PK) (K : Value -> WP) : WP :=
 opN p_ (sBuildSl 129 19 [(0, (.int .i64 16)), (1, (.int .i64 17)), (2, (.int .i64 18)), (3, (.int .i64 0)), (4, (.int .i64 8)), (5, (.int .i64 7)), (6, (.int .i64 9)), (7, (.int .i64 6)), (8, (.int .i64 10)), (9, (.int .i64 5)), (10, (.int .i64 11)), (11, (.int .i64 4)), (12, (.int .i64 12)), (13, (.int .i64 3)), (14, (.int .i64 13)), (15, (.int .i64 2)), (16, (.int .i64 14)), (17, (.int .i64 1)), (18, (.int .i64 15))]) Kp fun x1 =>
 K x1
theorem ref06_order_s  : Shp p_ 121 [] (ref06_order) := sh_ Tryz.call121 Tryz.func121 (an := {}) fun _ _ => by kernel_rfl
def lz_finder_candidates_1 (v0 v1 v2 : Value) (Kp : PK) (K : Value → WP) : WP :=
 drS (stS p_ (sLoad 3 v1) fun x7 =>
 stS p_ (sBin .add 3 x7 (.int .i64 3)) fun x8 =>
 stS p_ (sLoad 124 v2) fun x9 =>
 stS p_ (sNil x9) fun x10 =>
 stS p_ (sFA 127 x10 0) fun x11 =>
 stS p_ (sLoad 22 x11) fun x12 =>
 stS p_ (sLen #[22] 3 [x12]) fun x13 =>
 stS p_ (sBin .gtr 3 x8 x13) fun x14 =>
 condS x14
 (K (.tuple #[]))
 (drS (stS p_ (sLoad 124 v2) fun x15 =>
 stS p_ (sNil x15) fun x16 =>
 stS p_ (sFA 127 x16 1) fun x17 =>
 stS p_ (sLoad 125 x17) fun x18 =>
 stS p_ (sLoad 124 v2) fun x19 =>
 stS p_ (sNil x19) fun x20 =>
 stS p_ (sFA 127 x20 0) fun x21 =>
 stS p_ (sLoad 22 x21) fun x22 =>
 stS p_ (sLoad 3 v1) fun x23 =>
 stS p_ (sSl 22 x22 (some x23) none none) fun x24 =>
 stS p_ (sArrP 147 x24) fun x25 =>
 stS p_ (sLoad 147 x25) fun x26 =>
 stS p_ (sLook 125 x18 x26 false) fun x27 =>
 opN p_ (sLen #[129] 3 [x27]) Kp fun x29 =>
 opN p_ (sBin .sub 3 x29 (.int .i64 1)) Kp fun x30 =>
 loop2 (fun I1 m1 _ y5 y6 =>
 opN p_ (sBin .geq 3 y5 (.int .i64 0)) Kp fun x32 =>
 gdK x32 true (fun k => k y6) fun x34 =>
 gdK x32 true (opN p_ (sLoad 124 v2) Kp) fun x35 =>
 gdK x32 true (opN p_ (sNil x35) Kp) fun x36 =>
 gdK x32 true (opN p_ (sFA 127 x36 4) Kp) fun x37 =>
 gdK x32 true (opN p_ (sLoad 3 x37) Kp) fun x38 =>
 gdK x32 true (opN p_ (sBin .lss 3 x34 x38) Kp) fun x39 =>
 opN p_ (sPick x32 x39 (.bool false)) Kp fun x40 =>
 condS x40
 (drS (stS p_ (sLoad 3 v1) fun x45 =>
 stS p_ (sIA 129 x27 y5) fun x48 =>
 stS p_ (sLoad 3 x48) fun x49 =>
 stS p_ (sBin .sub 3 x45 x49) fun x50 =>
 stS p_ (sLoad 124 v2) fun x51 =>
 stS p_ (sNil x51) fun x52 =>
 stS p_ (sFA 127 x52 3) fun x53 =>
 stS p_ (sLoad 3 x53) fun x54 =>
 stS p_ (sBin .gtr 3 x50 x54) fun x55 =>
 gdK x55 false (fun k => k v0) fun x57 =>
 gdK x55 false (fun k => k x27) fun x58 =>
 gdK x55 false (fun k => k y5) fun x59 =>
 gdK x55 false (stS p_ (sIA 129 x58 x59)) fun x60 =>
 gdK x55 false (stS p_ (sLoad 3 x60)) fun x61 =>
 gdK x55 false (opN p_ (sCall x57 [x61]) Kp) fun x62 =>
 gdK x55 false (stS p_ (sUn .not x62)) fun x63 =>
 stS p_ (sPick x55 (.bool true) x63) fun x64 =>
 condS x64
 (K (.tuple #[]))
 (opN p_ (sBin .sub 3 y5 (.int .i64 1)) Kp fun x42 =>
 opN p_ (sBin .add 3 y6 (.int .i64 1)) Kp fun x44 =>
 next2 I1 m1 x42 x44)))
 (K (.tuple #[]))) x30 (.int .i64 0))))
theorem lz_finder_candidates_1_s {v0 v1 v2 : Value} : Shp p_ 131 [v0, v1, v2] (lz_finder_candidates_1 v0 v1 v2) := sh_ Tryz.call131 Tryz.func131 (an := { loops := [(3, [5, 6])], drs := [(0, .ofL [(0, 1), (1, 1), (2, 1), (3, 1), (4, 1), (5, 1), (6, 1), (7, 1)]), (1, .ofL [(0, 1), (1, 1), (2, 1), (3, 1), (4, 1), (5, 1), (6, 1), (7, 1), (8, 1), (9, 1), (10, 1), (11, 1), (12, 1), (13, 1)]), (5, .ofL [(0, 1), (1, 1), (2, 1), (3, 1), (4, 1), (5, 1), (6, 1), (7, 1), (8, 1), (9, 1), (10, 1), (11, 1), (12, 1), (13, 1), (14, 1), (15, 1), (16, 1), (17, 0), (18, 1), (19, 1)])] }) fun _ _ => by kernel_rfl
def lz_last (v0 v1 v2 v3 : Value) (Kp : PK) (K : Value → WP) : WP :=
 loop1 (fun I1 m1 _ y11 =>
 opN p_ (sBin .geq 3 y11 v1) Kp fun x17 =>
 condS x17
 (opN p_ (sCall v3 [y11]) Kp fun x23 =>
 opN p_ (sExt x23 0) Kp fun x24 =>
 opN p_ (sExt x23 1) Kp fun x25 =>
 opN p_ (sBin .leq 3 x24 v0) Kp fun x28 =>
 condS x28
 (opN p_ (sBin .sub 3 v0 x24) Kp fun x33 =>
 K (.tuple #[y11, x25, x33]))
 (opN p_ (sBin .sub 3 y11 (.int .i64 1)) Kp fun x19 =>
 next1 I1 m1 x19))
 (K (.tuple #[(.int .i64 (-1)), (.int .i64 0), (.int .i64 0)]))) v2
theorem lz_last_s {v0 v1 v2 v3 : Value} : Shp p_ 132 [v0, v1, v2, v3] (lz_last v0 v1 v2 v3) := sh_ Tryz.call132 Tryz.func132 (an := { loops := [(2, [11])] }) fun _ _ => by kernel_rfl
def lz_BaseLength (v0 : Value) (Kp : PK) (K : Value → WP) : WP :=
 opN p_ (sBin .sub 3 v0 (.int .i64 257)) Kp fun x6 =>
 opN p_ (sBin .lss 3 x6 (.int .i64 0)) Kp fun x20 =>
 gdK x20 false (fun k => k x6) fun x22 =>
 gdK x20 false (opN p_ (sBin .gtr 3 x22 (.int .i64 28)) Kp) fun x23 =>
 opN p_ (sPick x20 (.bool true) x23) Kp fun x24 =>
 condS x24
 (K (.tuple #[(.int .i64 0), (.int .i64 0)]))
 (opN p_ (sEq .eql 3 (.tmp 26) (.const (.int .i64 28)) x6 (.int .i64 28)) Kp fun x27 =>
 condS x27
 (K (.tuple #[(.int .i64 258), (.int .i64 0)]))
 (opN p_ (sBin .lss 3 x6 (.int .i64 8)) Kp fun x30 =>
 condS x30
 (opN p_ (sBin .add 3 x6 (.int .i64 3)) Kp fun x32 =>
 K (.tuple #[x32, (.int .i64 0)]))
 (opN p_ (sBin .quo 3 x6 (.int .i64 4)) Kp fun x8 =>
 opN p_ (sBin .sub 3 x8 (.int .i64 1)) Kp fun x9 =>
 opN p_ (sBin .rem 3 x6 (.int .i64 4)) Kp fun x11 =>
 opN p_ (sBin .add 3 (.int .i64 4) x11) Kp fun x12 =>
 opN p_ (sConv 3 55 x9) Kp fun x14 =>
 opN p_ (sBin .shl 3 x12 x14) Kp fun x15 =>
 opN p_ (sBin .add 3 (.int .i64 3) x15) Kp fun x16 =>
 K (.tuple #[x16, x9]))))
theorem lz_BaseLength_s {v0 : Value} : Shp p_ 133 [v0] (lz_BaseLength v0) := sh_ Tryz.call133 Tryz.func133 (an := {}) fun _ _ => by kernel_rfl
def lz_BaseDistance (v0 : Value) (Kp : PK) (K : Value → WP) : WP :=
 opN p_ (sBin .lss 3 v0 (.int .i64 0)) Kp fun x6 =>
 gdK x6 false (fun k => k v0) fun x8 =>
 gdK x6 false (opN p_ (sBin .gtr 3 x8 (.int .i64 29)) Kp) fun x9 =>
 opN p_ (sPick x6 (.bool true) x9) Kp fun x10 =>
 condS x10
 (K (.tuple #[(.int .i64 0), (.int .i64 0)]))
 (opN p_ (sBin .lss 3 v0 (.int .i64 4)) Kp fun x13 =>
 condS x13
 (opN p_ (sBin .add 3 v0 (.int .i64 1)) Kp fun x15 =>
 K (.tuple #[x15, (.int .i64 0)]))
 (opN p_ (sBin .quo 3 v0 (.int .i64 2)) Kp fun x17 =>
 opN p_ (sBin .sub 3 x17 (.int .i64 1)) Kp fun x18 =>
 opN p_ (sBin .rem 3 v0 (.int .i64 2)) Kp fun x20 =>
 opN p_ (sBin .add 3 (.int .i64 2) x20) Kp fun x21 =>
 opN p_ (sConv 3 55 x18) Kp fun x23 =>
 opN p_ (sBin .shl 3 x21 x23) Kp fun x24 =>
 opN p_ (sBin .add 3 (.int .i64 1) x24) Kp fun x25 =>
 K (.tuple #[x25, x18])))
theorem lz_BaseDistance_s {v0 : Value} : Shp p_ 134 [v0] (lz_BaseDistance v0) := sh_ Tryz.call134 Tryz.func134 (an := {}) fun _ _ => by kernel_rfl
def huff_counts (v0 : Value) (Kp : PK) (K : Value → WP) : WP :=
 opN p_ (sAlloc 194) Kp fun x2 =>
 opN p_ (sLen #[129] 3 [v0]) Kp fun x10 =>
 opN p_ (sBin .gtr 3 x10 (.int .i64 320)) Kp fun x11 =>
 condS x11
 (opN p_ (sLoad 194 x2) Kp fun x12 =>
 opN p_ (sStore 194 x2 x12) Kp fun _ =>
 (stS p_ (sRes 194 x2) fun r0 => K (.tuple #[r0, (.bool false)])))
 (opN p_ (sLen #[129] 3 [v0]) Kp fun x14 =>
 loop1 (fun I1 m1 _ y15 =>
 opN p_ (sBin .lss 3 y15 x14) Kp fun x16 =>
 condS x16
 (opN p_ (sIA 129 v0 y15) Kp fun x17 =>
 opN p_ (sLoad 3 x17) Kp fun x18 =>
 opN p_ (sBin .lss 3 x18 (.int .i64 0)) Kp fun x20 =>
 gdK x20 false (fun k => k x18) fun x22 =>
 gdK x20 false (opN p_ (sBin .gtr 3 x22 (.int .i64 15)) Kp) fun x23 =>
 opN p_ (sPick x20 (.bool true) x23) Kp fun x24 =>
 condS x24
 (opN p_ (sLoad 194 x2) Kp fun x25 =>
 opN p_ (sStore 194 x2 x25) Kp fun _ =>
 (stS p_ (sRes 194 x2) fun r0 => K (.tuple #[r0, (.bool false)])))
 (opN p_ (sIA 194 x2 x18) Kp fun x27 =>
 opN p_ (sLoad 3 x27) Kp fun x28 =>
 opN p_ (sBin .add 3 x28 (.int .i64 1)) Kp fun x29 =>
 opN p_ (sIA 194 x2 x18) Kp fun x30 =>
 opN p_ (sStore 3 x30 x29) Kp fun _ =>
 opN p_ (sBin .add 3 y15 (.int .i64 1)) Kp fun x31 =>
 next1 I1 m1 x31))
 (opN p_ (sSl 194 x2 (some (.int .i64 1)) none none) Kp fun x32 =>
 opN p_ (sLen #[129] 3 [x32]) Kp fun x33 =>
 loop2 (fun I2 m2 _ y6 y34 =>
 opN p_ (sBin .lss 3 y34 x33) Kp fun x35 =>
 condS x35
 (opN p_ (sIA 129 x32 y34) Kp fun x36 =>
 opN p_ (sLoad 3 x36) Kp fun x37 =>
 opN p_ (sBin .mul 3 (.int .i64 2) y6) Kp fun x39 =>
 opN p_ (sBin .sub 3 x39 x37) Kp fun x41 =>
 opN p_ (sBin .lss 3 x41 (.int .i64 0)) Kp fun x43 =>
 condS x43
 (opN p_ (sLoad 194 x2) Kp fun x44 =>
 opN p_ (sStore 194 x2 x44) Kp fun _ =>
 (stS p_ (sRes 194 x2) fun r0 => K (.tuple #[r0, (.bool false)])))
 (opN p_ (sBin .add 3 y34 (.int .i64 1)) Kp fun x45 =>
 next2 I2 m2 x41 x45))
 (opN p_ (sLoad 194 x2) Kp fun x46 =>
 opN p_ (sStore 194 x2 x46) Kp fun _ =>
 (stS p_ (sRes 194 x2) fun r0 => K (.tuple #[r0, (.bool true)])))) (.int .i64 1) (.int .i64 0))) (.int .i64 0))
theorem huff_counts_s {v0 : Value} : Shp p_ 135 [v0] (huff_counts v0) := sh_ Tryz.call135 Tryz.func135 (an := { loops := [(4, [15]), (12, [6, 34])] }) fun _ _ => by kernel_rfl
def bits_Reverse (v0 v1 : Value) (Kp : PK) (K : Value → WP) : WP :=
 opN p_ (sMin #[3, 3] 3 [v1, (.int .i64 32)]) Kp fun x8 =>
 opN p_ (sMax #[3, 3] 3 [(.int .i64 0), x8]) Kp fun x9 =>
 loop2 (fun I1 m1 _ y5 y10 =>
 opN p_ (sBin .lss 3 y10 x9) Kp fun x11 =>
 condS x11
 (opN p_ (sBin .shl 3 y5 (.int .u64 1)) Kp fun x14 =>
 opN p_ (sConv 3 55 y10) Kp fun x17 =>
 opN p_ (sBin .shr 3 v0 x17) Kp fun x18 =>
 opN p_ (sBin .and 3 x18 (.int .i64 1)) Kp fun x19 =>
 opN p_ (sBin .or 3 x14 x19) Kp fun x20 =>
 opN p_ (sBin .add 3 y10 (.int .i64 1)) Kp fun x21 =>
 next2 I1 m1 x20 x21)
 (K y5)) (.int .i64 0) (.int .i64 0)
theorem bits_Reverse_s {v0 v1 : Value} : Shp p_ 136 [v0, v1] (bits_Reverse v0 v1) := sh_ Tryz.call136 Tryz.func136 (an := { loops := [(3, [5, 10])] }) fun _ _ => by kernel_rfl
def slices_SortStableFunc_huff_weighed_int_huff_weighed_int (v0 v1 : Value) (Kp : PK) (K : Value -> WP) : WP :=
 opN p_ (sLen #[197] 3 [v0]) Kp fun x6 =>
 opN p_ (sCall (fn 164) [v0, x6, v1]) Kp fun x8 =>
 K (.tuple #[])
theorem slices_SortStableFunc_huff_weighed_int_huff_weighed_int_s {v0 v1 : Value} : Shp p_ 137 [v0, v1] (slices_SortStableFunc_huff_weighed_int_huff_weighed_int v0 v1) := sh_ Tryz.call137 Tryz.func137 (an := {}) fun _ _ => by kernel_rfl
def huff_Lengths_1 (v0 v1 : Value) (Kp : PK) (K : Value -> WP) : WP :=
 opN p_ (sBox 199 v0) Kp fun x2 =>
 opN p_ (sBox 199 v1) Kp fun x3 =>
 opN p_ (sFA 199 x2 0) Kp fun x5 =>
 opN p_ (sLoad 3 x5) Kp fun x6 =>
 opN p_ (sFA 199 x3 0) Kp fun x7 =>
 opN p_ (sLoad 3 x7) Kp fun x8 =>
 opN p_ (sCall (fn 139) [x6, x8]) Kp fun x9 =>
 K x9
theorem huff_Lengths_1_s {v0 v1 : Value} : Shp p_ 138 [v0, v1] (huff_Lengths_1 v0 v1) := sh_ Tryz.call138 Tryz.func138 (an := {}) fun _ _ => by kernel_rfl
def cmp_Compare_int (v0 v1 : Value) (Kp : PK) (K : Value → WP) : WP :=
 opN p_ (sCall (fn 165) [v0]) Kp fun x8 =>
 opN p_ (sCall (fn 165) [v1]) Kp fun x10 =>
 condS x8
 (condS x10
 (K (.int .i64 0))
 (K (.int .i64 (-1))))
 (condS x10
 (K (.int .i64 1))
 (opN p_ (sBin .lss 3 v0 v1) Kp fun x16 =>
 condS x16
 (K (.int .i64 (-1)))
 (opN p_ (sBin .gtr 3 v0 v1) Kp fun x19 =>
 condS x19
 (K (.int .i64 1))
 (K (.int .i64 0)))))
theorem cmp_Compare_int_s {v0 v1 : Value} : Shp p_ 139 [v0, v1] (cmp_Compare_int v0 v1) := sh_ Tryz.call139 Tryz.func139 (an := {}) fun _ _ => by kernel_rfl
def slices_Concat_int_int (v0 : Value) (Kp : PK) (K : Value → WP) : WP :=
 opN p_ (sLen #[228] 3 [v0]) Kp fun x10 =>
 loop2 (fun I1 m1 _ y3 y11 =>
 opN p_ (sBin .lss 3 y11 x10) Kp fun x12 =>
 condS x12
 (opN p_ (sIA 228 v0 y11) Kp fun x13 =>
 opN p_ (sLoad 129 x13) Kp fun x14 =>
 opN p_ (sLen #[129] 3 [x14]) Kp fun x17 =>
 opN p_ (sBin .add 3 y3 x17) Kp fun x18 =>
 opN p_ (sBin .lss 3 x18 (.int .i64 0)) Kp fun x20 =>
 condS x20
 (opN p_ (sMkI 9 (.string ⟨#[108, 101, 110, 32, 111, 117, 116, 32, 111, 102, 32, 114, 97, 110, 103, 101]⟩)) Kp fun x21 =>
 opN p_ (sPanic x21) Kp fun _ =>
 opN p_ (sBin .add 3 y11 (.int .i64 1)) Kp fun x22 =>
 next2 I1 m1 x18 x22)
 (opN p_ (sBin .add 3 y11 (.int .i64 1)) Kp fun x22 =>
 next2 I1 m1 x18 x22))
 (opN p_ (sCall (fn 166) [(.slice none 0 0), y3]) Kp fun x24 =>
 opN p_ (sLen #[228] 3 [v0]) Kp fun x26 =>
 loop2 (fun I2 m2 _ y6 y27 =>
 opN p_ (sBin .lss 3 y27 x26) Kp fun x28 =>
 condS x28
 (opN p_ (sIA 228 v0 y27) Kp fun x29 =>
 opN p_ (sLoad 129 x29) Kp fun x30 =>
 opN p_ (sApp #[129, 129] 129 [y6, x30]) Kp fun x33 =>
 opN p_ (sBin .add 3 y27 (.int .i64 1)) Kp fun x34 =>
 next2 I2 m2 x33 x34)
 (K y6)) x24 (.int .i64 0))) (.int .i64 0) (.int .i64 0)
theorem slices_Concat_int_int_s {v0 : Value} : Shp p_ 140 [v0] (slices_Concat_int_int v0) := sh_ Tryz.call140 Tryz.func140 (an := { loops := [(3, [3, 11]), (11, [6, 27])] }) fun _ _ => by kernel_rfl
def huff_merge_int (v0 v1 : Value) (Kp : PK) (K : Value → WP) : WP :=
 opN p_ (sLen #[197] 3 [v0]) Kp fun x7 =>
 opN p_ (sLen #[197] 3 [v1]) Kp fun x9 =>
 opN p_ (sBin .add 3 x7 x9) Kp fun x10 =>
 opN p_ (sMkSl 197 (.int .i64 0) x10) Kp fun x11 =>
 loop3 (fun I1 m1 _ y0 y1 y5 =>
 opN p_ (sLen #[197] 3 [y0]) Kp fun x22 =>
 opN p_ (sEq .eql 3 (.tmp 22) (.const (.int .i64 0)) x22 (.int .i64 0)) Kp fun x23 =>
 condS x23
 (opN p_ (sApp #[197, 197] 197 [y5, y1]) Kp fun x26 =>
 K x26)
 (drS (stS p_ (sLen #[197] 3 [y1]) fun x29 =>
 stS p_ (sBin .gtr 3 x29 (.int .i64 0)) fun x30 =>
 gdK x30 true (fun k => k y1) fun x32 =>
 gdK x30 true (stS p_ (sIA 197 x32 (.int .i64 0))) fun x33 =>
 gdK x30 true (stS p_ (sFA 199 x33 0)) fun x34 =>
 gdK x30 true (stS p_ (sLoad 3 x34)) fun x35 =>
 gdK x30 true (fun k => k y0) fun x36 =>
 gdK x30 true (stS p_ (sIA 197 x36 (.int .i64 0))) fun x37 =>
 gdK x30 true (stS p_ (sFA 199 x37 0)) fun x38 =>
 gdK x30 true (stS p_ (sLoad 3 x38)) fun x39 =>
 gdK x30 true (stS p_ (sBin .lss 3 x35 x39)) fun x40 =>
 stS p_ (sPick x30 x40 (.bool false)) fun x41 =>
 condS x41
 (drS (stS p_ (sIA 197 y1 (.int .i64 0)) fun x44 =>
 stS p_ (sLoad 199 x44) fun x45 =>
 stD p_ (sSl 197 y1 (some (.int .i64 1)) none none) fun D7 x49 =>
 opN p_ (sBuildSl 197 1 [(0, x45)]) Kp fun x46 =>
 (fun w => D7 w ∧ (opN p_ (sApp #[197, 197] 197 [y5, x46]) Kp fun x47 =>
 (fun w => D7 w ∧ (next3 I1 m1 y0 x49 x47) w)) w)))
 (drS (stS p_ (sIA 197 y0 (.int .i64 0)) fun x14 =>
 stS p_ (sLoad 199 x14) fun x15 =>
 stD p_ (sSl 197 y0 (some (.int .i64 1)) none none) fun D7 x19 =>
 opN p_ (sBuildSl 197 1 [(0, x15)]) Kp fun x16 =>
 (fun w => D7 w ∧ (opN p_ (sApp #[197, 197] 197 [y5, x16]) Kp fun x17 =>
 (fun w => D7 w ∧ (next3 I1 m1 x19 y1 x17) w)) w)))))) v0 v1 x11
theorem huff_merge_int_s {v0 v1 : Value} : Shp p_ 141 [v0, v1] (huff_merge_int v0 v1) := sh_ Tryz.call141 Tryz.func141 (an := { loops := [(3, [0, 1, 5])], drs := [(2, .ofL [(0, 2), (1, 1), (2, 1), (3, 1), (6, 2), (7, 3), (4, 0), (5, 0), (8, 1), (9, 1)]), (5, .ofL [(0, 1), (1, 1), (2, 1), (3, 1), (4, 1), (5, 1), (6, 1), (7, 1), (8, 1), (9, 1), (10, 1), (11, 1), (12, 1), (13, 1), (14, 1)]), (6, .ofL [(0, 2), (1, 1), (2, 1), (3, 1), (6, 2), (7, 3), (4, 0), (5, 0), (8, 1), (9, 1)])] }) fun _ _ => by kernel_rfl
def deflate_runs_1 (v0 v1 : Value) (Kp : PK) (K : Value → WP) : WP :=
 loop1 (fun I1 m1 _ y3 =>
 opN p_ (sLoad 129 v1) Kp fun x8 =>
 opN p_ (sLen #[129] 3 [x8]) Kp fun x9 =>
 opN p_ (sBin .lss 3 y3 x9) Kp fun x10 =>
 condS x10
 (opN p_ (sLoad 129 v1) Kp fun x11 =>
 opN p_ (sIA 129 x11 y3) Kp fun x13 =>
 opN p_ (sLoad 3 x13) Kp fun x14 =>
 loop1 (fun I2 m2 _ y5 =>
 opN p_ (sBin .add 3 y3 y5) Kp fun x17 =>
 opN p_ (sLoad 129 v1) Kp fun x18 =>
 opN p_ (sLen #[129] 3 [x18]) Kp fun x19 =>
 opN p_ (sBin .lss 3 x17 x19) Kp fun x20 =>
 gdK x20 true (opN p_ (sLoad 129 v1) Kp) fun x22 =>
 gdK x20 true (fun k => k y3) fun x23 =>
 gdK x20 true (fun k => k y5) fun x24 =>
 gdK x20 true (opN p_ (sBin .add 3 x23 x24) Kp) fun x25 =>
 gdK x20 true (opN p_ (sIA 129 x22 x25) Kp) fun x26 =>
 gdK x20 true (opN p_ (sLoad 3 x26) Kp) fun x27 =>
 gdK x20 true (fun k => k x14) fun x28 =>
 gdK x20 true (opN p_ (sEq .eql 3 (.tmp 27) (.tmp 28) x27 x28) Kp) fun x29 =>
 opN p_ (sPick x20 x29 (.bool false)) Kp fun x30 =>
 condS x30
 (opN p_ (sBin .add 3 y5 (.int .i64 1)) Kp fun x32 =>
 next1 I2 m2 x32)
 (opN p_ (sBuild 170 [(0, x14)]) Kp fun x34 =>
 opN p_ (sAlloc 170) Kp fun x6 =>
 opN p_ (sStore 170 x6 x34) Kp fun _ =>
 cut1 (fun J1 =>
 opN p_ (sEq .eql 3 (.tmp 36) (.const (.int .i64 0)) x14 (.int .i64 0)) Kp fun x37 =>
 gdK x37 true (fun k => k y5) fun x39 =>
 gdK x37 true (opN p_ (sBin .geq 3 x39 (.int .i64 11)) Kp) fun x40 =>
 opN p_ (sPick x37 x40 (.bool false)) Kp fun x41 =>
 condS x41
 (opN p_ (sMin #[3, 3] 3 [y5, (.int .i64 138)]) Kp fun x43 =>
 opN p_ (sBin .sub 3 x43 (.int .i64 11)) Kp fun x45 =>
 opN p_ (sBuild 170 [(0, (.int .i64 18)), (1, (.int .i64 7)), (2, x45)]) Kp fun x46 =>
 opN p_ (sStore 170 x6 x46) Kp fun _ =>
 J1 x43)
 (opN p_ (sEq .eql 3 (.tmp 48) (.const (.int .i64 0)) x14 (.int .i64 0)) Kp fun x49 =>
 gdK x49 true (fun k => k y5) fun x51 =>
 gdK x49 true (opN p_ (sBin .geq 3 x51 (.int .i64 3)) Kp) fun x52 =>
 opN p_ (sPick x49 x52 (.bool false)) Kp fun x53 =>
 condS x53
 (opN p_ (sBin .sub 3 y5 (.int .i64 3)) Kp fun x55 =>
 opN p_ (sBuild 170 [(0, (.int .i64 17)), (1, (.int .i64 3)), (2, x55)]) Kp fun x56 =>
 opN p_ (sStore 170 x6 x56) Kp fun _ =>
 J1 y5)
 (opN p_ (sEq .neq 3 (.tmp 58) (.const (.int .i64 0)) x14 (.int .i64 0)) Kp fun x59 =>
 gdK x59 true (fun k => k y5) fun x61 =>
 gdK x59 true (opN p_ (sBin .geq 3 x61 (.int .i64 3)) Kp) fun x62 =>
 opN p_ (sPick x59 x62 (.bool false)) Kp fun x63 =>
 gdK x63 true (fun k => k y3) fun x65 =>
 gdK x63 true (opN p_ (sBin .gtr 3 x65 (.int .i64 0)) Kp) fun x66 =>
 opN p_ (sPick x63 x66 (.bool false)) Kp fun x67 =>
 gdK x67 true (opN p_ (sLoad 129 v1) Kp) fun x69 =>
 gdK x67 true (fun k => k y3) fun x70 =>
 gdK x67 true (opN p_ (sBin .sub 3 x70 (.int .i64 1)) Kp) fun x71 =>
 gdK x67 true (opN p_ (sIA 129 x69 x71) Kp) fun x72 =>
 gdK x67 true (opN p_ (sLoad 3 x72) Kp) fun x73 =>
 gdK x67 true (fun k => k x14) fun x74 =>
 gdK x67 true (opN p_ (sEq .eql 3 (.tmp 73) (.tmp 74) x73 x74) Kp) fun x75 =>
 opN p_ (sPick x67 x75 (.bool false)) Kp fun x76 =>
 condS x76
 (opN p_ (sMin #[3, 3] 3 [y5, (.int .i64 6)]) Kp fun x78 =>
 opN p_ (sBin .sub 3 x78 (.int .i64 3)) Kp fun x80 =>
 opN p_ (sBuild 170 [(0, (.int .i64 16)), (1, (.int .i64 2)), (2, x80)]) Kp fun x81 =>
 opN p_ (sStore 170 x6 x81) Kp fun _ =>
 J1 x78)
 (J1 (.int .i64 1))))) fun _ z5 =>
 opN p_ (sLoad 170 x6) Kp fun x83 =>
 opN p_ (sCall v0 [x83]) Kp fun x84 =>
 opN p_ (sUn .not x84) Kp fun x85 =>
 condS x85
 (K (.tuple #[]))
 (opN p_ (sBin .add 3 y3 z5) Kp fun x88 =>
 next1 I1 m1 x88))) (.int .i64 1))
 (K (.tuple #[]))) (.int .i64 0)
theorem deflate_runs_1_s {v0 v1 : Value} : Shp p_ 142 [v0, v1] (deflate_runs_1 v0 v1) := sh_ Tryz.call142 Tryz.func142 (an := { cuts := [(15, [5])], loops := [(1, [3]), (3, [5])] }) fun _ _ => by kernel_rfl
def ref04_alike (v0 v1 v2 : Value) (Kp : PK) (K : Value → WP) : WP :=
 loop1 (fun I1 m1 _ y7 =>
 drS (stS p_ (sBin .lss 3 y7 (.int .i64 258)) fun x9 =>
 gdK x9 true (fun k => k v2) fun x11 =>
 gdK x9 true (fun k => k y7) fun x12 =>
 gdK x9 true (stS p_ (sBin .add 3 x11 x12)) fun x13 =>
 gdK x9 true (fun k => k v0) fun x14 =>
 gdK x9 true (stS p_ (sLen #[22] 3 [x14])) fun x15 =>
 gdK x9 true (stS p_ (sBin .lss 3 x13 x15)) fun x16 =>
 stS p_ (sPick x9 x16 (.bool false)) fun x17 =>
 gdK x17 true (fun k => k v0) fun x19 =>
 gdK x17 true (fun k => k v1) fun x20 =>
 gdK x17 true (fun k => k y7) fun x21 =>
 gdK x17 true (stS p_ (sBin .add 3 x20 x21)) fun x22 =>
 gdK x17 true (stS p_ (sIA 22 x19 x22)) fun x23 =>
 gdK x17 true (stS p_ (sLoad 5 x23)) fun x24 =>
 gdK x17 true (fun k => k v0) fun x25 =>
 gdK x17 true (fun k => k v2) fun x26 =>
 gdK x17 true (fun k => k y7) fun x27 =>
 gdK x17 true (stS p_ (sBin .add 3 x26 x27)) fun x28 =>
 gdK x17 true (stS p_ (sIA 22 x25 x28)) fun x29 =>
 gdK x17 true (stS p_ (sLoad 5 x29)) fun x30 =>
 gdK x17 true (stS p_ (sEq .eql 5 (.tmp 24) (.tmp 30) x24 x30)) fun x31 =>
 stS p_ (sPick x17 x31 (.bool false)) fun x32 =>
 condS x32
 (opN p_ (sBin .add 3 y7 (.int .i64 1)) Kp fun x34 =>
 next1 I1 m1 x34)
 (K y7))) (.int .i64 0)
theorem ref04_alike_s {v0 v1 v2 : Value} : Shp p_ 143 [v0, v1, v2] (ref04_alike v0 v1 v2) := sh_ Tryz.call143 Tryz.func143 (an := { loops := [(2, [7])], drs := [(2, .ofL [(0, 1), (1, 1), (2, 1), (3, 1), (4, 1), (5, 1), (6, 1), (7, 1), (8, 1), (9, 1), (10, 1), (11, 1), (12, 1), (13, 1), (14, 1), (15, 1), (16, 1), (17, 1), (18, 1), (19, 1), (20, 1), (21, 1), (22, 1), (23, 1), (24, 1)])] }) fun _ _ => by kernel_rfl
def ref03_weight (v0 : Value) (Kp : PK) (K : Value → WP) : WP :=
 loop2 (fun I1 m1 _ y4 y5 =>
 opN p_ (sLen #[129] 3 [v0]) Kp fun x8 =>
 opN p_ (sBin .lss 3 y5 x8) Kp fun x9 =>
 condS x9
 (opN p_ (sIA 129 v0 y5) Kp fun x14 =>
 opN p_ (sLoad 3 x14) Kp fun x15 =>
 opN p_ (sBin .lss 3 x15 (.int .i64 0)) Kp fun x16 =>
 gdK x16 false (fun k => k v0) fun x18 =>
 gdK x16 false (fun k => k y5) fun x19 =>
 gdK x16 false (opN p_ (sIA 129 x18 x19) Kp) fun x20 =>
 gdK x16 false (opN p_ (sLoad 3 x20) Kp) fun x21 =>
 gdK x16 false (opN p_ (sBin .gtr 3 x21 (.int .i64 15)) Kp) fun x22 =>
 opN p_ (sPick x16 (.bool true) x22) Kp fun x23 =>
 condS x23
 (K (.tuple #[(.int .i64 0), (.bool false)]))
 (opN p_ (sIA 129 v0 y5) Kp fun x26 =>
 opN p_ (sLoad 3 x26) Kp fun x27 =>
 opN p_ (sBin .gtr 3 x27 (.int .i64 0)) Kp fun x28 =>
 condS x28
 (opN p_ (sIA 129 v0 y5) Kp fun x32 =>
 opN p_ (sLoad 3 x32) Kp fun x33 =>
 opN p_ (sBin .sub 3 (.int .i64 15) x33) Kp fun x34 =>
 opN p_ (sConv 3 55 x34) Kp fun x35 =>
 opN p_ (sBin .shl 3 (.int .i64 1) x35) Kp fun x36 =>
 opN p_ (sBin .add 3 y4 x36) Kp fun x37 =>
 opN p_ (sBin .add 3 y5 (.int .i64 1)) Kp fun x11 =>
 next2 I1 m1 x37 x11)
 (opN p_ (sBin .add 3 y5 (.int .i64 1)) Kp fun x11 =>
 next2 I1 m1 y4 x11)))
 (opN p_ (sLen #[129] 3 [v0]) Kp fun x40 =>
 opN p_ (sBin .leq 3 x40 (.int .i64 320)) Kp fun x41 =>
 gdK x41 true (fun k => k y4) fun x43 =>
 gdK x41 true (opN p_ (sBin .leq 3 x43 (.int .i64 32768)) Kp) fun x44 =>
 opN p_ (sPick x41 x44 (.bool false)) Kp fun x45 =>
 K (.tuple #[y4, x45]))) (.int .i64 0) (.int .i64 0)
theorem ref03_weight_s {v0 : Value} : Shp p_ 144 [v0] (ref03_weight v0) := sh_ Tryz.call144 Tryz.func144 (an := { loops := [(3, [4, 5])] }) fun _ _ => by kernel_rfl
def ref02_Reverse (v0 v1 : Value) (Kp : PK) (K : Value → WP) : WP :=
 opN p_ (sMin #[3, 3] 3 [v1, (.int .i64 32)]) Kp fun x8 =>
 opN p_ (sMax #[3, 3] 3 [(.int .i64 0), x8]) Kp fun x9 =>
 loop2 (fun I1 m1 _ y5 y6 =>
 opN p_ (sBin .lss 3 y6 x9) Kp fun x12 =>
 condS x12
 (opN p_ (sBin .mul 3 (.int .i64 2) y5) Kp fun x16 =>
 opN p_ (sConv 3 55 y6) Kp fun x19 =>
 opN p_ (sBin .shr 3 v0 x19) Kp fun x20 =>
 opN p_ (sBin .and 3 x20 (.int .i64 1)) Kp fun x21 =>
 opN p_ (sBin .add 3 x16 x21) Kp fun x22 =>
 opN p_ (sBin .add 3 y6 (.int .i64 1)) Kp fun x14 =>
 next2 I1 m1 x22 x14)
 (K y5)) (.int .i64 0) (.int .i64 0)
theorem ref02_Reverse_s {v0 v1 : Value} : Shp p_ 145 [v0, v1] (ref02_Reverse v0 v1) := sh_ Tryz.call145 Tryz.func145 (an := { loops := [(4, [5, 6])] }) fun _ _ => by kernel_rfl
def ref04_BaseLength (v0 : Value) (Kp : PK) (K : Value → WP) : WP :=
 opN p_ (sBin .lss 3 v0 (.int .i64 257)) Kp fun x9 =>
 gdK x9 false (fun k => k v0) fun x11 =>
 gdK x9 false (opN p_ (sBin .gtr 3 x11 (.int .i64 285)) Kp) fun x12 =>
 opN p_ (sPick x9 (.bool true) x12) Kp fun x13 =>
 condS x13
 (K (.tuple #[(.int .i64 0), (.int .i64 0)]))
 (opN p_ (sEq .eql 3 (.tmp 15) (.const (.int .i64 285)) v0 (.int .i64 285)) Kp fun x16 =>
 condS x16
 (K (.tuple #[(.int .i64 258), (.int .i64 0)]))
 (opN p_ (sBin .lss 3 v0 (.int .i64 265)) Kp fun x19 =>
 condS x19
 (opN p_ (sBin .sub 3 v0 (.int .i64 254)) Kp fun x21 =>
 K (.tuple #[x21, (.int .i64 0)]))
 (opN p_ (sBin .sub 3 v0 (.int .i64 261)) Kp fun x23 =>
 opN p_ (sBin .quo 3 x23 (.int .i64 4)) Kp fun x24 =>
 loop2 (fun I1 m1 _ y5 y6 =>
 opN p_ (sBin .lss 3 y6 v0) Kp fun x27 =>
 condS x27
 (opN p_ (sBin .sub 3 y6 (.int .i64 261)) Kp fun x32 =>
 opN p_ (sBin .quo 3 x32 (.int .i64 4)) Kp fun x33 =>
 opN p_ (sConv 3 55 x33) Kp fun x34 =>
 opN p_ (sBin .shl 3 (.int .i64 1) x34) Kp fun x35 =>
 opN p_ (sBin .add 3 y5 x35) Kp fun x36 =>
 opN p_ (sBin .add 3 y6 (.int .i64 1)) Kp fun x29 =>
 next2 I1 m1 x36 x29)
 (K (.tuple #[y5, x24]))) (.int .i64 11) (.int .i64 265))))
theorem ref04_BaseLength_s {v0 : Value} : Shp p_ 146 [v0] (ref04_BaseLength v0) := sh_ Tryz.call146 Tryz.func146 (an := { loops := [(10, [5, 6])] }) fun _ _ => by kernel_rfl
def ref04_BaseDistance (v0 : Value) (Kp : PK) (K : Value → WP) : WP :=
 opN p_ (sBin .lss 3 v0 (.int .i64 0)) Kp fun x9 =>
 gdK x9 false (fun k => k v0) fun x11 =>
 gdK x9 false (opN p_ (sBin .gtr 3 x11 (.int .i64 29)) Kp) fun x12 =>
 opN p_ (sPick x9 (.bool true) x12) Kp fun x13 =>
 condS x13
 (K (.tuple #[(.int .i64 0), (.int .i64 0)]))
 (opN p_ (sBin .lss 3 v0 (.int .i64 4)) Kp fun x16 =>
 condS x16
 (opN p_ (sBin .add 3 v0 (.int .i64 1)) Kp fun x18 =>
 K (.tuple #[x18, (.int .i64 0)]))
 (opN p_ (sBin .sub 3 v0 (.int .i64 2)) Kp fun x20 =>
 opN p_ (sBin .quo 3 x20 (.int .i64 2)) Kp fun x21 =>
 loop2 (fun I1 m1 _ y5 y6 =>
 opN p_ (sBin .lss 3 y6 v0) Kp fun x24 =>
 condS x24
 (opN p_ (sBin .sub 3 y6 (.int .i64 2)) Kp fun x29 =>
 opN p_ (sBin .quo 3 x29 (.int .i64 2)) Kp fun x30 =>
 opN p_ (sConv 3 55 x30) Kp fun x31 =>
 opN p_ (sBin .shl 3 (.int .i64 1) x31) Kp fun x32 =>
 opN p_ (sBin .add 3 y5 x32) Kp fun x33 =>
 opN p_ (sBin .add 3 y6 (.int .i64 1)) Kp fun x26 =>
 next2 I1 m1 x33 x26)
 (K (.tuple #[y5, x21]))) (.int .i64 5) (.int .i64 4)))
theorem ref04_BaseDistance_s {v0 : Value} : Shp p_ 147 [v0] (ref04_BaseDistance v0) := sh_ Tryz.call147 Tryz.func147 (an := { loops := [(8, [5, 6])] }) fun _ _ => by kernel_rfl
def ref03_coins (v0 : Value) (Kp : PK) (K : Value → WP) : WP :=
 loop2 (fun I1 m1 _ y3 y4 =>
 opN p_ (sLen #[129] 3 [v0]) Kp fun x9 =>
 opN p_ (sBin .lss 3 y4 x9) Kp fun x10 =>
 condS x10
 (opN p_ (sIA 129 v0 y4) Kp fun x15 =>
 opN p_ (sLoad 3 x15) Kp fun x16 =>
 opN p_ (sEq .eql 3 (.tmp 16) (.const (.int .i64 0)) x16 (.int .i64 0)) Kp fun x17 =>
 condS x17
 (opN p_ (sBin .add 3 y4 (.int .i64 1)) Kp fun x12 =>
 next2 I1 m1 y3 x12)
 (opN p_ (sLen #[209] 3 [y3]) Kp fun x19 =>
 loop1 (fun I2 m2 _ y5 =>
 drS (stS p_ (sBin .gtr 3 y5 (.int .i64 0)) fun x21 =>
 gdK x21 true (fun k => k y3) fun x23 =>
 gdK x21 true (fun k => k y5) fun x24 =>
 gdK x21 true (stS p_ (sBin .sub 3 x24 (.int .i64 1))) fun x25 =>
 gdK x21 true (stS p_ (sIA 209 x23 x25)) fun x26 =>
 gdK x21 true (stS p_ (sFA 212 x26 0)) fun x27 =>
 gdK x21 true (stS p_ (sLoad 3 x27)) fun x28 =>
 gdK x21 true (fun k => k v0) fun x29 =>
 gdK x21 true (fun k => k y4) fun x30 =>
 gdK x21 true (stS p_ (sIA 129 x29 x30)) fun x31 =>
 gdK x21 true (stS p_ (sLoad 3 x31)) fun x32 =>
 gdK x21 true (stS p_ (sBin .gtr 3 x28 x32)) fun x33 =>
 stS p_ (sPick x21 x33 (.bool false)) fun x34 =>
 condS x34
 (opN p_ (sBin .sub 3 y5 (.int .i64 1)) Kp fun x36 =>
 next1 I2 m2 x36)
 (opN p_ (sBuildSl 209 0 []) Kp fun x37 =>
 opN p_ (sSl 209 y3 (some y5) none none) Kp fun x40 =>
 opN p_ (sApp #[209, 209] 209 [x37, x40]) Kp fun x41 =>
 drS (stD p_ (sSl 209 y3 none (some y5) none) fun D2 x44 =>
 stD p_ (sIA 129 v0 y4) fun D5 x47 =>
 stD p_ (sLoad 3 x47) fun D6 x48 =>
 opN p_ (sBuildSl 129 1 [(0, y4)]) Kp fun x50 =>
 (fun w => D6 w ∧ (fun w => D5 w ∧ (fun w => D2 w ∧ (stS p_ (sBuild 212 [(0, x48), (1, x50)]) fun x51 =>
 opN p_ (sBuildSl 209 1 [(0, x51)]) Kp fun x52 =>
 (fun w => D2 w ∧ (opN p_ (sApp #[209, 209] 209 [x44, x52]) Kp fun x53 =>
 opN p_ (sApp #[209, 209] 209 [x53, x41]) Kp fun x55 =>
 opN p_ (sBin .add 3 y4 (.int .i64 1)) Kp fun x12 =>
 next2 I1 m1 x55 x12) w)) w) w) w))))) x19))
 (K y3)) (.slice none 0 0) (.int .i64 0)
theorem ref03_coins_s {v0 : Value} : Shp p_ 148 [v0] (ref03_coins v0) := sh_ Tryz.call148 Tryz.func148 (an := { loops := [(3, [3, 4]), (7, [5])], drs := [(7, .ofL [(0, 1), (1, 1), (2, 1), (3, 1), (4, 1), (5, 1), (6, 1), (7, 1), (8, 1), (9, 1), (10, 1), (11, 1), (12, 1), (13, 1), (14, 1)]), (10, .ofL [(0, 2), (1, 2), (2, 3), (3, 2), (4, 2), (5, 3), (6, 3), (7, 1), (12, 2), (8, 0), (9, 1), (10, 0), (11, 0), (13, 0), (14, 1)])] }) fun _ _ => by kernel_rfl
def ref03_merged (v0 v1 : Value) (Kp : PK) (K : Value → WP) : WP :=
 loop3 (fun I1 m1 _ y5 y6 y7 =>
 opN p_ (sLen #[209] 3 [v0]) Kp fun x10 =>
 opN p_ (sBin .lss 3 y7 x10) Kp fun x11 =>
 condS x11
 (loop2 (fun I2 m2 _ y5 y6 =>
 drS (stS p_ (sLen #[209] 3 [v1]) fun x16 =>
 stS p_ (sBin .lss 3 y6 x16) fun x17 =>
 gdK x17 true (fun k => k v1) fun x19 =>
 gdK x17 true (fun k => k y6) fun x20 =>
 gdK x17 true (stS p_ (sIA 209 x19 x20)) fun x21 =>
 gdK x17 true (stS p_ (sFA 212 x21 0)) fun x22 =>
 gdK x17 true (stS p_ (sLoad 3 x22)) fun x23 =>
 gdK x17 true (fun k => k v0) fun x24 =>
 gdK x17 true (fun k => k y7) fun x25 =>
 gdK x17 true (stS p_ (sIA 209 x24 x25)) fun x26 =>
 gdK x17 true (stS p_ (sFA 212 x26 0)) fun x27 =>
 gdK x17 true (stS p_ (sLoad 3 x27)) fun x28 =>
 gdK x17 true (stS p_ (sBin .lss 3 x23 x28)) fun x29 =>
 stS p_ (sPick x17 x29 (.bool false)) fun x30 =>
 condS x30
 (opN p_ (sIA 209 v1 y6) Kp fun x34 =>
 opN p_ (sLoad 212 x34) Kp fun x35 =>
 opN p_ (sBuildSl 209 1 [(0, x35)]) Kp fun x36 =>
 opN p_ (sApp #[209, 209] 209 [y5, x36]) Kp fun x37 =>
 opN p_ (sBin .add 3 y6 (.int .i64 1)) Kp fun x39 =>
 next2 I2 m2 x37 x39)
 (opN p_ (sIA 209 v0 y7) Kp fun x43 =>
 opN p_ (sLoad 212 x43) Kp fun x44 =>
 opN p_ (sBuildSl 209 1 [(0, x44)]) Kp fun x45 =>
 opN p_ (sApp #[209, 209] 209 [y5, x45]) Kp fun x46 =>
 opN p_ (sBin .add 3 y7 (.int .i64 1)) Kp fun x13 =>
 next3 I1 m1 x46 y6 x13))) y5 y6)
 (opN p_ (sSl 209 v1 (some y6) none none) Kp fun x50 =>
 opN p_ (sApp #[209, 209] 209 [y5, x50]) Kp fun x51 =>
 K x51)) (.slice none 0 0) (.int .i64 0) (.int .i64 0)
theorem ref03_merged_s {v0 v1 : Value} : Shp p_ 149 [v0, v1] (ref03_merged v0 v1) := sh_ Tryz.call149 Tryz.func149 (an := { loops := [(4, [5, 6, 7]), (6, [5, 6])], drs := [(6, .ofL [(0, 1), (1, 1), (2, 1), (3, 1), (4, 1), (5, 1), (6, 1), (7, 1), (8, 1), (9, 1), (10, 1), (11, 1), (12, 1), (13, 1), (14, 1), (15, 1), (16, 1)])] }) fun _ _ => by kernel_rfl
def slices_stableCmpFunc_huff_weighed_int (v0 v1 v2 : Value) (Kp : PK) (K : Value → WP) : WP :=
 loop2 (fun I1 m1 _ y7 y8 =>
 opN p_ (sBin .leq 3 y8 v1) Kp fun x13 =>
 condS x13
 (opN p_ (sCall (fn 170) [v0, y7, y8, v2]) Kp fun x18 =>
 opN p_ (sBin .add 3 y8 (.int .i64 20)) Kp fun x22 =>
 next2 I1 m1 y8 x22)
 (opN p_ (sCall (fn 170) [v0, y7, v1, v2]) Kp fun x27 =>
 loop1 (fun I2 m2 _ y6 =>
 opN p_ (sBin .lss 3 y6 v1) Kp fun x30 =>
 condS x30
 (opN p_ (sBin .mul 3 (.int .i64 2) y6) Kp fun x32 =>
 loop2 (fun I3 m3 _ y7_2 y8_2 =>
 opN p_ (sBin .leq 3 y8_2 v1) Kp fun x35 =>
 condS x35
 (opN p_ (sBin .add 3 y7_2 y6) Kp fun x40 =>
 opN p_ (sCall (fn 171) [v0, y7_2, x40, y8_2, v2]) Kp fun x43 =>
 opN p_ (sBin .mul 3 (.int .i64 2) y6) Kp fun x47 =>
 opN p_ (sBin .add 3 y8_2 x47) Kp fun x48 =>
 next2 I3 m3 y8_2 x48)
 (opN p_ (sBin .add 3 y7_2 y6) Kp fun x51 =>
 opN p_ (sBin .lss 3 x51 v1) Kp fun x54 =>
 condS x54
 (opN p_ (sCall (fn 171) [v0, y7_2, x51, v1, v2]) Kp fun x60 =>
 opN p_ (sBin .mul 3 y6 (.int .i64 2)) Kp fun x62 =>
 next1 I2 m2 x62)
 (opN p_ (sBin .mul 3 y6 (.int .i64 2)) Kp fun x62 =>
 next1 I2 m2 x62))) (.int .i64 0) x32)
 (K (.tuple #[]))) (.int .i64 20))) (.int .i64 0) (.int .i64 20)
theorem slices_stableCmpFunc_huff_weighed_int_s {v0 v1 v2 : Value} : Shp p_ 164 [v0, v1, v2] (slices_stableCmpFunc_huff_weighed_int v0 v1 v2) := sh_ Tryz.call164 Tryz.func164 (an := { loops := [(2, [7, 8]), (7, [6]), (9, [7, 8])] }) fun _ _ => by kernel_rfl
def cmp_isNaN_int (v0 : Value) (Kp : PK) (K : Value -> WP) : WP :=
 opN p_ (sEq .neq 3 (.tmp 3) (.tmp 4) v0 v0) Kp fun x5 =>
 K x5
theorem cmp_isNaN_int_s {v0 : Value} : Shp p_ 165 [v0] (cmp_isNaN_int v0) := sh_ Tryz.call165 Tryz.func165 (an := {}) fun _ _ => by kernel_rfl
def slices_Grow_int_int (v0 v1 : Value) (Kp : PK) (K : Value → WP) : WP :=
 cut0 (fun J1 =>
 opN p_ (sBin .lss 3 v1 (.int .i64 0)) Kp fun x6 =>
 condS x6
 (opN p_ (sMkI 9 (.string ⟨#[99, 97, 110, 110, 111, 116, 32, 98, 101, 32, 110, 101, 103, 97, 116, 105, 118, 101]⟩)) Kp fun x7 =>
 opN p_ (sPanic x7) Kp fun _ =>
 J1)
 (J1)) fun _ =>
 opN p_ (sCap #[129] 3 [v0]) Kp fun x10 =>
 opN p_ (sLen #[129] 3 [v0]) Kp fun x12 =>
 opN p_ (sBin .sub 3 x10 x12) Kp fun x13 =>
 opN p_ (sBin .sub 3 v1 x13) Kp fun x14 =>
 opN p_ (sBin .gtr 3 x14 (.int .i64 0)) Kp fun x16 =>
 condS x16
 (opN p_ (sCap #[129] 3 [v0]) Kp fun x19 =>
 opN p_ (sSl 129 v0 none (some x19) none) Kp fun x20 =>
 opN p_ (sApp #[129, 3] 129 [x20, x14]) Kp fun x22 =>
 opN p_ (sLen #[129] 3 [v0]) Kp fun x24 =>
 opN p_ (sSl 129 x22 none (some x24) none) Kp fun x25 =>
 K x25)
 (K v0)
theorem slices_Grow_int_int_s {v0 v1 : Value} : Shp p_ 166 [v0, v1] (slices_Grow_int_int v0 v1) := sh_ Tryz.call166 Tryz.func166 (an := { cuts := [(3, [])] }) fun _ _ => by kernel_rfl
def slices_insertionSortCmpFunc_huff_weighed_int (v0 v1 v2 v3 : Value) (Kp : PK) (K : Value → WP) : WP :=
 opN p_ (sBin .add 3 v1 (.int .i64 1)) Kp fun x11 =>
 loop1 (fun I1 m1 _ y8 =>
 opN p_ (sBin .lss 3 y8 v2) Kp fun x14 =>
 condS x14
 (loop1 (fun I2 m2 _ y9 =>
 drS (stS p_ (sBin .gtr 3 y9 v1) fun x20 =>
 gdK x20 true (fun k => k v3) fun x22 =>
 gdK x20 true (fun k => k v0) fun x23 =>
 gdK x20 true (fun k => k y9) fun x24 =>
 gdK x20 true (stS p_ (sIA 197 x23 x24)) fun x25 =>
 gdK x20 true (stS p_ (sLoad 199 x25)) fun x26 =>
 gdK x20 true (fun k => k v0) fun x27 =>
 gdK x20 true (fun k => k y9) fun x28 =>
 gdK x20 true (stS p_ (sBin .sub 3 x28 (.int .i64 1))) fun x29 =>
 gdK x20 true (stS p_ (sIA 197 x27 x29)) fun x30 =>
 gdK x20 true (stS p_ (sLoad 199 x30)) fun x31 =>
 gdK x20 true (opN p_ (sCall x22 [x26, x31]) Kp) fun x32 =>
 gdK x20 true (stS p_ (sBin .lss 3 x32 (.int .i64 0))) fun x33 =>
 stS p_ (sPick x20 x33 (.bool false)) fun x34 =>
 condS x34
 (drS (stD p_ (sBin .sub 3 y9 (.int .i64 1)) fun D4 x41 =>
 stS p_ (sBin .sub 3 y9 (.int .i64 1)) fun x44 =>
 stS p_ (sIA 197 v0 x44) fun x45 =>
 stS p_ (sLoad 199 x45) fun x46 =>
 stS p_ (sIA 197 v0 y9) fun x49 =>
 stS p_ (sLoad 199 x49) fun x50 =>
 stS p_ (sIA 197 v0 y9) fun x51 =>
 opN p_ (sStore 199 x51 x46) Kp fun _ =>
 (fun w => D4 w ∧ (stS p_ (sIA 197 v0 x41) fun x52 =>
 opN p_ (sStore 199 x52 x50) Kp fun _ =>
 opN p_ (sBin .sub 3 y9 (.int .i64 1)) Kp fun x36 =>
 next1 I2 m2 x36) w)))
 (opN p_ (sBin .add 3 y8 (.int .i64 1)) Kp fun x16 =>
 next1 I1 m1 x16))) y8)
 (K (.tuple #[]))) x11
theorem slices_insertionSortCmpFunc_huff_weighed_int_s {v0 v1 v2 v3 : Value} : Shp p_ 170 [v0, v1, v2, v3] (slices_insertionSortCmpFunc_huff_weighed_int v0 v1 v2 v3) := sh_ Tryz.call170 Tryz.func170 (an := { loops := [(1, [8]), (4, [9])], drs := [(4, .ofL [(0, 1), (1, 1), (2, 1), (3, 1), (4, 1), (5, 1), (6, 1), (7, 1), (8, 1), (9, 1), (10, 1), (11, 1), (12, 1), (13, 1), (14, 0), (15, 1), (16, 1)]), (6, .ofL [(0, 1), (1, 1), (2, 2), (3, 2), (4, 3), (5, 1), (6, 1), (7, 1), (8, 1), (9, 1), (10, 1), (11, 1), (12, 1), (13, 1), (14, 1), (15, 0), (16, 1), (17, 0)])] }) fun _ _ => by kernel_rfl
def slices_symMergeCmpFunc_huff_weighed_int (v0 v1 v2 v3 v4 : Value) (Kp : PK) (K : Value → WP) : WP :=
 opN p_ (sBin .sub 3 v2 v1) Kp fun x27 =>
 opN p_ (sEq .eql 3 (.tmp 27) (.const (.int .i64 1)) x27 (.int .i64 1)) Kp fun x28 =>
 condS x28
 (loop2 (fun I1 m1 _ y10 y11 =>
 opN p_ (sBin .lss 3 y10 y11) Kp fun x33 =>
 condS x33
 (opN p_ (sBin .add 3 y10 y11) Kp fun x36 =>
 opN p_ (sConv 3 55 x36) Kp fun x37 =>
 opN p_ (sBin .shr 55 x37 (.int .u64 1)) Kp fun x38 =>
 opN p_ (sConv 55 3 x38) Kp fun x39 =>
 drS (stS p_ (sIA 197 v0 x39) fun x43 =>
 stS p_ (sLoad 199 x43) fun x44 =>
 stS p_ (sIA 197 v0 v1) fun x47 =>
 stS p_ (sLoad 199 x47) fun x48 =>
 opN p_ (sCall v4 [x44, x48]) Kp fun x49 =>
 stS p_ (sBin .lss 3 x49 (.int .i64 0)) fun x50 =>
 condS x50
 (opN p_ (sBin .add 3 x39 (.int .i64 1)) Kp fun x52 =>
 next2 I1 m1 x52 y11)
 (next2 I1 m1 y10 x39)))
 (loop1 (fun I2 m2 _ y13 =>
 opN p_ (sBin .sub 3 y10 (.int .i64 1)) Kp fun x57 =>
 opN p_ (sBin .lss 3 y13 x57) Kp fun x58 =>
 condS x58
 (drS (stD p_ (sBin .add 3 y13 (.int .i64 1)) fun D4 x65 =>
 stS p_ (sBin .add 3 y13 (.int .i64 1)) fun x68 =>
 stS p_ (sIA 197 v0 x68) fun x69 =>
 stS p_ (sLoad 199 x69) fun x70 =>
 stS p_ (sIA 197 v0 y13) fun x73 =>
 stS p_ (sLoad 199 x73) fun x74 =>
 stS p_ (sIA 197 v0 y13) fun x75 =>
 opN p_ (sStore 199 x75 x70) Kp fun _ =>
 (fun w => D4 w ∧ (stS p_ (sIA 197 v0 x65) fun x76 =>
 opN p_ (sStore 199 x76 x74) Kp fun _ =>
 opN p_ (sBin .add 3 y13 (.int .i64 1)) Kp fun x60 =>
 next1 I2 m2 x60) w)))
 (K (.tuple #[]))) v1)) v2 v3)
 (opN p_ (sBin .sub 3 v3 v2) Kp fun x79 =>
 opN p_ (sEq .eql 3 (.tmp 79) (.const (.int .i64 1)) x79 (.int .i64 1)) Kp fun x80 =>
 condS x80
 (loop2 (fun I3 m3 _ y14 y15 =>
 opN p_ (sBin .lss 3 y14 y15) Kp fun x85 =>
 condS x85
 (opN p_ (sBin .add 3 y14 y15) Kp fun x88 =>
 opN p_ (sConv 3 55 x88) Kp fun x89 =>
 opN p_ (sBin .shr 55 x89 (.int .u64 1)) Kp fun x90 =>
 opN p_ (sConv 55 3 x90) Kp fun x91 =>
 drS (stS p_ (sIA 197 v0 v2) fun x95 =>
 stS p_ (sLoad 199 x95) fun x96 =>
 stS p_ (sIA 197 v0 x91) fun x99 =>
 stS p_ (sLoad 199 x99) fun x100 =>
 opN p_ (sCall v4 [x96, x100]) Kp fun x101 =>
 stS p_ (sBin .lss 3 x101 (.int .i64 0)) fun x102 =>
 stS p_ (sUn .not x102) fun x103 =>
 condS x103
 (opN p_ (sBin .add 3 x91 (.int .i64 1)) Kp fun x105 =>
 next2 I3 m3 x105 y15)
 (next2 I3 m3 y14 x91)))
 (loop1 (fun I4 m4 _ y17 =>
 opN p_ (sBin .gtr 3 y17 y14) Kp fun x110 =>
 condS x110
 (drS (stD p_ (sBin .sub 3 y17 (.int .i64 1)) fun D4 x117 =>
 stS p_ (sBin .sub 3 y17 (.int .i64 1)) fun x120 =>
 stS p_ (sIA 197 v0 x120) fun x121 =>
 stS p_ (sLoad 199 x121) fun x122 =>
 stS p_ (sIA 197 v0 y17) fun x125 =>
 stS p_ (sLoad 199 x125) fun x126 =>
 stS p_ (sIA 197 v0 y17) fun x127 =>
 opN p_ (sStore 199 x127 x122) Kp fun _ =>
 (fun w => D4 w ∧ (stS p_ (sIA 197 v0 x117) fun x128 =>
 opN p_ (sStore 199 x128 x126) Kp fun _ =>
 opN p_ (sBin .sub 3 y17 (.int .i64 1)) Kp fun x112 =>
 next1 I4 m4 x112) w)))
 (K (.tuple #[]))) v2)) v1 v2)
 (opN p_ (sBin .add 3 v1 v3) Kp fun x131 =>
 opN p_ (sConv 3 55 x131) Kp fun x132 =>
 opN p_ (sBin .shr 55 x132 (.int .u64 1)) Kp fun x133 =>
 opN p_ (sConv 55 3 x133) Kp fun x134 =>
 opN p_ (sBin .add 3 x134 v2) Kp fun x137 =>
 cut2 (fun J1 =>
 opN p_ (sBin .gtr 3 v2 x134) Kp fun x140 =>
 condS x140
 (opN p_ (sBin .sub 3 x137 v3) Kp fun x143 =>
 J1 x143 x134)
 (J1 v1 v2)) fun _ z20 z21 =>
 opN p_ (sBin .sub 3 x137 (.int .i64 1)) Kp fun x148 =>
 loop2 (fun I5 m5 _ y20 y21 =>
 opN p_ (sBin .lss 3 y20 y21) Kp fun x151 =>
 condS x151
 (opN p_ (sBin .add 3 y20 y21) Kp fun x154 =>
 opN p_ (sConv 3 55 x154) Kp fun x155 =>
 opN p_ (sBin .shr 55 x155 (.int .u64 1)) Kp fun x156 =>
 opN p_ (sConv 55 3 x156) Kp fun x157 =>
 drS (stS p_ (sBin .sub 3 x148 x157) fun x162 =>
 stS p_ (sIA 197 v0 x162) fun x163 =>
 stS p_ (sLoad 199 x163) fun x164 =>
 stS p_ (sIA 197 v0 x157) fun x167 =>
 stS p_ (sLoad 199 x167) fun x168 =>
 opN p_ (sCall v4 [x164, x168]) Kp fun x169 =>
 stS p_ (sBin .lss 3 x169 (.int .i64 0)) fun x170 =>
 stS p_ (sUn .not x170) fun x171 =>
 condS x171
 (opN p_ (sBin .add 3 x157 (.int .i64 1)) Kp fun x173 =>
 next2 I5 m5 x173 y21)
 (next2 I5 m5 y20 x157)))
 (opN p_ (sBin .sub 3 x137 y20) Kp fun x177 =>
 cut0 (fun J2 =>
 opN p_ (sBin .lss 3 y20 v2) Kp fun x180 =>
 gdK x180 true (fun k => k v2) fun x182 =>
 gdK x180 true (fun k => k x177) fun x183 =>
 gdK x180 true (opN p_ (sBin .lss 3 x182 x183) Kp) fun x184 =>
 opN p_ (sPick x180 x184 (.bool false)) Kp fun x185 =>
 condS x185
 (opN p_ (sCall (fn 173) [v0, y20, v2, x177, v4]) Kp fun x191 =>
 J2)
 (J2)) fun _ =>
 cut0 (fun J3 =>
 opN p_ (sBin .lss 3 v1 y20) Kp fun x194 =>
 gdK x194 true (fun k => k y20) fun x196 =>
 gdK x194 true (fun k => k x134) fun x197 =>
 gdK x194 true (opN p_ (sBin .lss 3 x196 x197) Kp) fun x198 =>
 opN p_ (sPick x194 x198 (.bool false)) Kp fun x199 =>
 condS x199
 (opN p_ (sCall (fn 171) [v0, v1, y20, x134, v4]) Kp fun x205 =>
 J3)
 (J3)) fun _ =>
 opN p_ (sBin .lss 3 x134 x177) Kp fun x208 =>
 gdK x208 true (fun k => k x177) fun x210 =>
 gdK x208 true (fun k => k v3) fun x211 =>
 gdK x208 true (opN p_ (sBin .lss 3 x210 x211) Kp) fun x212 =>
 opN p_ (sPick x208 x212 (.bool false)) Kp fun x213 =>
 condS x213
 (opN p_ (sCall (fn 171) [v0, x134, x177, v3, v4]) Kp fun x219 =>
 K (.tuple #[]))
 (K (.tuple #[])))) z20 z21))
theorem slices_symMergeCmpFunc_huff_weighed_int_s {v0 v1 v2 v3 v4 : Value} : Shp p_ 171 [v0, v1, v2, v3, v4] (slices_symMergeCmpFunc_huff_weighed_int v0 v1 v2 v3 v4) := sh_ Tryz.call171 Tryz.func171 (an := { cuts := [(32, [20, 21]), (41, []), (43, [])], loops := [(3, [10, 11]), (9, [13]), (15, [14, 15]), (21, [17]), (33, [20, 21])], drs := [(5, .ofL [(0, 1), (1, 1), (2, 1), (3, 1), (4, 1), (5, 1), (6, 1), (7, 1), (8, 1), (9, 0), (10, 1)]), (11, .ofL [(0, 1), (1, 1), (2, 2), (3, 2), (4, 3), (5, 1), (6, 1), (7, 1), (8, 1), (9, 1), (10, 1), (11, 1), (12, 1), (13, 1), (14, 1), (15, 0), (16, 1), (17, 0)]), (17, .ofL [(0, 1), (1, 1), (2, 1), (3, 1), (4, 1), (5, 1), (6, 1), (7, 1), (8, 1), (9, 0), (10, 1), (11, 1)]), (23, .ofL [(0, 1), (1, 1), (2, 2), (3, 2), (4, 3), (5, 1), (6, 1), (7, 1), (8, 1), (9, 1), (10, 1), (11, 1), (12, 1), (13, 1), (14, 1), (15, 0), (16, 1), (17, 0)]), (35, .ofL [(0, 1), (1, 1), (2, 1), (3, 1), (4, 1), (5, 1), (6, 1), (7, 1), (8, 1), (9, 1), (10, 1), (11, 0), (12, 1), (13, 1)])] }) fun _ _ => by kernel_rfl
def slices_rotateCmpFunc_huff_weighed_int (v0 v1 v2 v3 v4 : Value) (Kp : PK) (K : Value → WP) : WP :=
 opN p_ (sBin .sub 3 v2 v1) Kp fun x14 =>
 opN p_ (sBin .sub 3 v3 v2) Kp fun x17 =>
 loop2 (fun I1 m1 _ y10 y11 =>
 opN p_ (sEq .neq 3 (.tmp 18) (.tmp 19) y10 y11) Kp fun x20 =>
 condS x20
 (opN p_ (sBin .gtr 3 y10 y11) Kp fun x23 =>
 condS x23
 (opN p_ (sBin .sub 3 v2 y10) Kp fun x27 =>
 opN p_ (sCall (fn 174) [v0, x27, v2, y11, v4]) Kp fun x31 =>
 opN p_ (sBin .sub 3 y10 y11) Kp fun x34 =>
 next2 I1 m1 x34 y11)
 (opN p_ (sBin .sub 3 v2 y10) Kp fun x38 =>
 opN p_ (sBin .add 3 v2 y11) Kp fun x41 =>
 opN p_ (sBin .sub 3 x41 y10) Kp fun x43 =>
 opN p_ (sCall (fn 174) [v0, x38, x43, y10, v4]) Kp fun x46 =>
 opN p_ (sBin .sub 3 y11 y10) Kp fun x49 =>
 next2 I1 m1 y10 x49))
 (opN p_ (sBin .sub 3 v2 y10) Kp fun x53 =>
 opN p_ (sCall (fn 174) [v0, x53, v2, y10, v4]) Kp fun x57 =>
 K (.tuple #[]))) x14 x17
theorem slices_rotateCmpFunc_huff_weighed_int_s {v0 v1 v2 v3 v4 : Value} : Shp p_ 173 [v0, v1, v2, v3, v4] (slices_rotateCmpFunc_huff_weighed_int v0 v1 v2 v3 v4) := sh_ Tryz.call173 Tryz.func173 (an := { loops := [(2, [10, 11])] }) fun _ _ => by kernel_rfl
def slices_swapRangeCmpFunc_huff_weighed_int (v0 v1 v2 v3 v4 : Value) (Kp : PK) (K : Value -> WP) : WP :=
 loop1 (fun I1 m1 _ y10 =>
 opN p_ (sBin .lss 3 y10 v3) Kp fun x13 =>
 condS x13
 (drS (stS p_ (sBin .add 3 v1 y10) fun x19 =>
 stD p_ (sBin .add 3 v2 y10) fun D7 x23 =>
 stS p_ (sBin .add 3 v2 y10) fun x27 =>
 stS p_ (sIA 197 v0 x27) fun x28 =>
 stS p_ (sLoad 199 x28) fun x29 =>
 stS p_ (sBin .add 3 v1 y10) fun x33 =>
 stS p_ (sIA 197 v0 x33) fun x34 =>
 stS p_ (sLoad 199 x34) fun x35 =>
 stS p_ (sIA 197 v0 x19) fun x36 =>
 opN p_ (sStore 199 x36 x29) Kp fun _ =>
 (fun w => D7 w /\ (stS p_ (sIA 197 v0 x23) fun x37 =>
 opN p_ (sStore 199 x37 x35) Kp fun _ =>
 opN p_ (sBin .add 3 y10 (.int .i64 1)) Kp fun x15 =>
 next1 I1 m1 x15) w)))
 (K (.tuple #[]))) (.int .i64 0)
theorem slices_swapRangeCmpFunc_huff_weighed_int_s {v0 v1 v2 v3 v4 : Value} : Shp p_ 174 [v0, v1, v2, v3, v4] (slices_swapRangeCmpFunc_huff_weighed_int v0 v1 v2 v3 v4) := sh_ Tryz.call174 Tryz.func174 (an := { loops := [(1, [10])], drs := [(3, .ofL [(0, 1), (1, 1), (2, 1), (3, 1), (4, 2), (5, 2), (6, 2), (7, 3), (8, 1), (9, 1), (10, 1), (11, 1), (12, 1), (13, 1), (14, 1), (15, 1), (16, 1), (17, 1), (18, 1), (19, 1), (20, 1), (21, 0), (22, 1), (23, 0)])] }) fun _ _ => by kernel_rfl
end Go.Proofs.YthoeeahdkdcceaaGreat.S
namespace Go.Proofs.YthoeeahdkdcceaaGreat.M
open Go Sl
def val : List Bool -> Nat
 | [] => 0
 | b :: l => b.toNat + 2 * val l
theorem val_lt : ∀ l : List Bool, val l < 2 ^ l.length
 | [] => by simp [val]
 | b :: l => by have := val_lt l; cases b <;> simp [val, Nat.pow_succ] <;> omega
theorem val_append (m : List Bool) : ∀ l : List Bool, val (l ++ m) = val l + 2 ^ l.length * val m
 | [] => by simp [val]
 | b :: l => by
  simp only [List.cons_append, val, val_append m l, List.length_cons, Nat.pow_succ]
  rw [Nat.mul_add, Nat.mul_comm (2 ^ l.length) 2, Nat.mul_assoc]; omega
def byteAt (L : List Bool) (i : Nat) : Nat := val ((L.drop (8 * i)).take 8)
theorem byteAt_lt (L : List Bool) (i : Nat) : byteAt L i < 256 := by
 have h := val_lt ((L.drop (8 * i)).take 8)
 have hl : ((L.drop (8 * i)).take 8).length <= 8 := List.length_take_le _ _
 exact Nat.lt_of_lt_of_le h (Nat.pow_le_pow_right (by omega) hl)
def pkn (L : List Bool) (m : Nat) : List UInt8 := (List.range m).map fun i => UInt8.ofNat (byteAt L i)
def pk (L : List Bool) : List UInt8 := pkn L ((L.length + 7) / 8)
def pkx (L : List Bool) : List UInt8 := pkn L (L.length / 8 + 1)
theorem length_pk (L : List Bool) : (pk L).length = (L.length + 7) / 8 := by simp [pk, pkn]
theorem length_pkx (L : List Bool) : (pkx L).length = L.length / 8 + 1 := by simp [pkx, pkn]
theorem pkx0 {L : List Bool} (h : L.length % 8 = 0) : pkx L = pk L ++ [0] := by
 unfold pkx pk pkn
 rw [show (L.length + 7) / 8 = L.length / 8 by omega, List.range_succ, List.map_append]
 congr 1
 have : L.drop (8 * (L.length / 8)) = [] := List.drop_eq_nil_of_le (by omega)
 simp [byteAt, this, val]
theorem pkx1 {L : List Bool} (h : ¬ L.length % 8 = 0) : pkx L = pk L := by
 unfold pkx pk
 rw [show (L.length + 7) / 8 = L.length / 8 + 1 by omega]
theorem byteAt_snoc_lt {L : List Bool} {b : Bool} {i : Nat} (h : i < L.length / 8) : byteAt (L ++ [b]) i = byteAt L i := by
 unfold byteAt
 rw [List.drop_append_of_le_length (by omega), List.take_append_of_le_length (by simp; omega)]
theorem byteAt_snoc_eq {L : List Bool} {b : Bool} : byteAt (L ++ [b]) (L.length / 8) = byteAt L (L.length / 8) + 2 ^ (L.length % 8) * b.toNat := by
 unfold byteAt
 rw [List.drop_append_of_le_length (by omega), List.take_of_length_le (by simp; omega), List.take_of_length_le (by simp; omega), val_append]
 have : (L.drop (8 * (L.length / 8))).length = L.length % 8 := by simp; omega
 rw [this]; simp [val]
theorem byteAt_last (L : List Bool) : byteAt L (L.length / 8) < 2 ^ (L.length % 8) := by
 unfold byteAt
 refine Nat.lt_of_lt_of_le (val_lt _) (Nat.pow_le_pow_right (by omega) ?_)
 rw [List.length_take, List.length_drop]; omega
theorem pk_snoc_f (L : List Bool) : pk (L ++ [false]) = pkx L := by
 unfold pk pkx pkn
 simp only [List.length_append, List.length_singleton]
 rw [show (L.length + 1 + 7) / 8 = L.length / 8 + 1 by omega]
 refine List.map_congr_left fun i hi => ?_
 rw [List.mem_range] at hi
 by_cases h : i < L.length / 8
 ·rw [byteAt_snoc_lt h]
 ·rw [show i = L.length / 8 by omega, byteAt_snoc_eq]; simp
theorem pk_snoc_t (L : List Bool) : pk (L ++ [true]) = (pkx L).set (L.length / 8) (UInt8.ofNat (byteAt L (L.length / 8) + 2 ^ (L.length % 8))) := by
 apply List.ext_getElem?
 intro i
 unfold pk pkx pkn
 simp only [List.length_append, List.length_singleton]
 rw [show (L.length + 1 + 7) / 8 = L.length / 8 + 1 by omega, List.getElem?_set]
 simp only [List.length_map, List.length_range, List.getElem?_map]
 by_cases h : L.length / 8 = i
 ·subst h
  simp [byteAt_snoc_eq]
 ·rw [if_neg h]
  by_cases h2 : i < L.length / 8
  ·rw [List.getElem?_range (by omega)]; simp [byteAt_snoc_lt h2]
  ·rw [List.getElem?_eq_none (by simp; omega)]; rfl
theorem pkx_last (L : List Bool) : (pkx L)[L.length / 8]? = some (UInt8.ofNat (byteAt L (L.length / 8))) := by
 simp [pkx, pkn]
def bitsOf (n k : Nat) : List Bool := (List.range k).map n.testBit
theorem bitsOf_succ (n k : Nat) : bitsOf n (k + 1) = bitsOf n k ++ [n.testBit k] := by simp [bitsOf, List.range_succ]
theorem length_bitsOf (n k : Nat) : (bitsOf n k).length = k := by simp [bitsOf]

theorem wrap8 {n : Nat} (h : n < 256) : IntKind.u8.wrap (n : Int) = n := by
 simp only [IntKind.wrap, IntKind.bits, IntKind.signed]
 simp; omega
theorem wrapu64 {n : Nat} (h : n < 18446744073709551616) : IntKind.u64.wrap (n : Int) = n := by
 simp only [IntKind.wrap, IntKind.bits, IntKind.signed]
 simp; omega
theorem and1 {a : Nat} (h : a < 9223372036854775808) : bitOp .and .i64 (a : Int) 1 = ((a % 2 : Nat) : Int) := by
 unfold bitOp
 have h1 : (BitVec.ofInt IntKind.i64.bits (a : Int)).toNat = a := by
  rw [BitVec.ofInt_natCast, BitVec.toNat_ofNat]; exact Nat.mod_eq_of_lt (by simp only [IntKind.bits]; omega)
 have h2 : (BitVec.ofInt IntKind.i64.bits 1).toNat = 1 := by decide
 simp only [BitVec.toNat_and, h1, h2, Nat.and_one_is_mod]
 exact w64 (by omega) (by omega)
theorem or8 {a r : Nat} (hr : r < 8) (h : a < 2 ^ r) : bitOp .or .u8 (a : Int) ((2 ^ r : Nat) : Int) = ((a + 2 ^ r : Nat) : Int) := by
 have hp : 2 ^ r <= 128 := by
  have : 2 ^ r <= 2 ^ 7 := Nat.pow_le_pow_right (by omega) (by omega)
  simpa using this
 unfold bitOp
 have h1 : (BitVec.ofInt IntKind.u8.bits (a : Int)).toNat = a := by
  rw [BitVec.ofInt_natCast, BitVec.toNat_ofNat]; exact Nat.mod_eq_of_lt (by simp only [IntKind.bits]; omega)
 have h2 : (BitVec.ofInt IntKind.u8.bits ((2 ^ r : Nat) : Int)).toNat = 2 ^ r := by
  rw [BitVec.ofInt_natCast, BitVec.toNat_ofNat]; exact Nat.mod_eq_of_lt (by simp only [IntKind.bits]; omega)
 have h3 : a ||| 2 ^ r = a + 2 ^ r := by
  have := Nat.two_pow_add_eq_or_of_lt h 1
  rw [Nat.mul_one] at this
  rw [Nat.or_comm, <- this]; omega
 simp only [BitVec.toNat_or, h1, h2, h3]
 exact wrap8 (by omega)
theorem shr_nat {n k : Nat} (hk : k < 64) : ((n : Int).fdiv (2 ^ (min ((k : Int)).toNat IntKind.i64.bits))) = ((n / 2 ^ k : Nat) : Int) := by
 have : min ((k : Int)).toNat IntKind.i64.bits = k := by simp only [IntKind.bits, Int.toNat_natCast]; omega
 rw [this, Int.fdiv_eq_ediv_of_nonneg _ (Int.le_of_lt (Int.pow_pos (by decide)))]
 norm_cast
theorem testBit_mod (n k : Nat) : n / 2 ^ k % 2 = (n.testBit k).toNat := by
 rw [Nat.testBit_eq_decide_div_mod_eq]
 rcases Nat.mod_two_eq_zero_or_one (n / 2 ^ k) with h | h <;> simp [h]
theorem B_ofNat {x : Nat} (h : x < 256) : B (UInt8.ofNat x) = .int .u8 (x : Int) := by
 unfold B; rw [UInt8.toNat_ofNat']; rw [Nat.mod_eq_of_lt h]
theorem mask_at {r : Nat} (h : r < 8) : (#[.int .u8 1, .int .u8 2, .int .u8 4, .int .u8 8, .int .u8 16, .int .u8 32, .int .u8 64, .int .u8 128] : Array Value)[r]? = some (.int .u8 ((2 ^ r : Nat) : Int)) := by
 have : r = 0 \/ r = 1 \/ r = 2 \/ r = 3 \/ r = 4 \/ r = 5 \/ r = 6 \/ r = 7 := by omega
 rcases this with rfl | rfl | rfl | rfl | rfl | rfl | rfl | rfl <;> rfl

def bits8 (c : UInt8) : List Bool := bitsOf c.toNat 8
def ub (l : List UInt8) : List Bool := l.flatMap bits8
theorem length_bits8 (c : UInt8) : (bits8 c).length = 8 := length_bitsOf _ _
theorem length_ub : ∀ l : List UInt8, (ub l).length = 8 * l.length
 | [] => rfl
 | c :: l => by
  have := length_ub l
  unfold ub at *
  rw [List.flatMap_cons, List.length_append, this, length_bits8, List.length_cons]; omega
theorem val_bitsOf (n : Nat) : ∀ k, val (bitsOf n k) = n % 2 ^ k
 | 0 => by simp [bitsOf, val, Nat.mod_one]
 | k + 1 => by
  rw [bitsOf_succ, val_append, length_bitsOf, val_bitsOf n k, Nat.mod_pow_succ, testBit_mod]
  simp [val]
theorem val_bits8 (c : UInt8) : val (bits8 c) = c.toNat := by
 unfold bits8; rw [val_bitsOf]; exact Nat.mod_eq_of_lt c.toNat_lt
theorem byteAt_ub_lt {l : List UInt8} {i : Nat} (h : i < l.length) (m : List Bool) : byteAt (ub l ++ m) i = l[i].toNat := by
 unfold byteAt
 have e : ub l = ub (l.take i) ++ (bits8 l[i] ++ ub (l.drop (i + 1))) := by
  unfold ub
  rw [<- List.flatMap_cons, <- List.flatMap_append, <- List.drop_eq_getElem_cons h, List.take_append_drop]
 have hl : (ub (l.take i)).length = 8 * i := by rw [length_ub, List.length_take]; omega
 rw [e, List.append_assoc, List.append_assoc, <- hl, List.drop_left]
 have h8 := length_bits8 l[i]
 rw [show (8 : Nat) = (bits8 l[i]).length from h8.symm, List.take_left, val_bits8]
def padTo8 (L : List Bool) : List Bool := L ++ List.replicate ((8 - L.length % 8) % 8) false
theorem length_pad (L : List Bool) : (padTo8 L).length = 8 * ((L.length + 7) / 8) := by
 unfold padTo8; simp; omega
theorem val_false : ∀ n, val (List.replicate n false) = 0
 | 0 => rfl
 | n + 1 => by simp [List.replicate_succ, val, val_false n]
theorem byteAt_pad (L : List Bool) (n i : Nat) : byteAt (L ++ List.replicate n false) i = byteAt L i := by
 unfold byteAt
 rw [List.drop_append, List.take_append, val_append, List.drop_replicate, List.take_replicate, val_false]
 simp
theorem pk_pad (L : List Bool) : pk (padTo8 L) = pk L := by
 unfold pk
 rw [length_pad, show (8 * ((L.length + 7) / 8) + 7) / 8 = (L.length + 7) / 8 by omega]
 unfold pkn padTo8
 refine List.map_congr_left fun i _ => ?_
 rw [byteAt_pad]
theorem pk_append {L : List Bool} (h : L.length % 8 = 0) (l : List UInt8) : pk (L ++ ub l) = pk L ++ l := by
 unfold pk pkn
 rw [List.length_append, length_ub]
 rw [show (L.length + 8 * l.length + 7) / 8 = L.length / 8 + l.length by omega, show (L.length + 7) / 8 = L.length / 8 by omega]
 rw [List.range_add, List.map_append]
 congr 1
 ·refine List.map_congr_left fun i hi => ?_
  rw [List.mem_range] at hi
  unfold byteAt
  rw [List.drop_append_of_le_length (by omega), List.take_append_of_le_length (by simp; omega)]
 ·rw [List.map_map]
  apply List.ext_getElem
  ·simp
  ·intro i h1 h2
   simp only [List.getElem_map, List.getElem_range, Function.comp_apply]
   have : byteAt (L ++ ub l) (L.length / 8 + i) = byteAt (ub l) i := by
    unfold byteAt
    rw [List.drop_append, List.drop_eq_nil_of_le (by omega), List.nil_append]
    congr 3; omega
   have h3 := byteAt_ub_lt h2 []
   rw [List.append_nil] at h3
   rw [this, h3]; simp

def bitI (n : Int) (i : Nat) : Bool := decide (n / 2 ^ i % 2 = 1)
def bl (n : Int) (i : Nat) : List Bool := (List.range i).map (bitI n)
theorem bl_succ (n : Int) (i : Nat) : bl n (i + 1) = bl n i ++ [bitI n i] := by simp [bl, List.range_succ]
theorem length_bl (n : Int) (i : Nat) : (bl n i).length = i := by simp [bl]
def rv (n : Int) (i : Nat) : Nat := val (bl n i).reverse
theorem rv_succ (n : Int) (i : Nat) : rv n (i + 1) = 2 * rv n i + (bitI n i).toNat := by
 unfold rv; rw [bl_succ, List.reverse_append]; simp [val]; omega
theorem rv_lt (n : Int) (i : Nat) : rv n i < 2 ^ i := by
 have := val_lt (bl n i).reverse
 rwa [List.length_reverse, length_bl] at this
theorem bit_toNat (n : Int) (i : Nat) : ((bitI n i).toNat : Int) = n / 2 ^ i % 2 := by
 unfold bitI
 rcases Int.emod_two_eq (n / 2 ^ i) with h | h <;> simp [h]
theorem and1I (a : Int) : bitOp .and .i64 a 1 = a % 2 := by
 unfold bitOp
 have h2 : (BitVec.ofInt IntKind.i64.bits 1).toNat = 1 := by decide
 simp only [BitVec.toNat_and, h2, Nat.and_one_is_mod, BitVec.toNat_ofInt]
 rw [w64 (by omega) (by omega)]
 simp only [IntKind.bits]
 omega
theorem shrI {n : Int} {k : Nat} (hk : k < 64) : n.fdiv (2 ^ (min ((k : Int)).toNat IntKind.i64.bits)) = n / 2 ^ k := by
 have : min ((k : Int)).toNat IntKind.i64.bits = k := by simp only [IntKind.bits, Int.toNat_natCast]; omega
 rw [this, Int.fdiv_eq_ediv_of_nonneg _ (Int.le_of_lt (Int.pow_pos (by decide)))]
theorem or_two {a : Nat} {b : Bool} (h : a < 4294967296) : bitOp .or .i64 (((a * 2 : Nat)) : Int) (b.toNat : Int) = ((2 * a + b.toNat : Nat) : Int) := by
 have hb : b.toNat <= 1 := Bool.toNat_le b
 unfold bitOp
 have h1 : (BitVec.ofInt IntKind.i64.bits ((a * 2 : Nat) : Int)).toNat = a * 2 := by
  rw [BitVec.ofInt_natCast, BitVec.toNat_ofNat]; exact Nat.mod_eq_of_lt (by simp only [IntKind.bits]; omega)
 have h2 : (BitVec.ofInt IntKind.i64.bits (b.toNat : Int)).toNat = b.toNat := by
  rw [BitVec.ofInt_natCast, BitVec.toNat_ofNat]; exact Nat.mod_eq_of_lt (by simp only [IntKind.bits]; omega)
 have h3 : a * 2 ||| b.toNat = 2 * a + b.toNat := by
  have := Nat.two_pow_add_eq_or_of_lt (i := 1) (b := b.toNat) (by omega) a
  rw [Nat.pow_one] at this
  rw [Nat.mul_comm a 2, <- this]
 simp only [BitVec.toNat_or, h1, h2, h3]
 exact w64 (by omega) (by omega)
end Go.Proofs.YthoeeahdkdcceaaGreat.M
namespace Go.Proofs.YthoeeahdkdcceaaGreat.B
open Go Go.Proofs Sh Sl T M
theorem none_some {W : World} {p : Nat} {a b : Value} {m : Bool} : Cn p_ 70 [.pointer (some ⟨p, 0, none⟩)] W [pt p (.cells #[a, b, .bool m] 104)] (fun _ : Unit => .bool (!m)) (fun _ => [pt p (.cells #[a, b, .bool m] 104)]) := by
 (refine S.bits_Writer_none_s.cn fun F => ?_; unfold S.bits_Writer_none; simp only [ca_, na_])
 refine o_ v_eqNil1 ?_; refine e_gdT (e_gdT (o_ v_nil (e_gdT (o_ v_fa0 (e_gdT (ln_ ?_)))))); refine e_gdT (o_ v_not (o_ v_pickF ?_))
 (refine e_ret Unit.unit (by rfl) ?_; (repeat (first | exact .refl | exact .nil | (apply Imp.pick; (focus ((repeat constructor); done))) | refine .drop ?_)))
def IsW (p : Nat) (l : List Bool) : HP := ex fun q : Option Addr × Nat => all [pt p (.cells #[.slice q.1 (pk l).length q.2, .int .i64 (l.length : Int), .bool true] 104), Sl 1 5 q.1 q.2 (pk l).length ((pk l).map B), pu (l.length <= 8388608)]
def badP (n k : Int) : Prop := k < 0 \/ 32 < k \/ n < 0 \/ 2 ^ k.toNat <= n
instance (n k : Int) : Decidable (badP n k) := by unfold badP; infer_instance
def putR (l : List Bool) (n k : Int) : Int := if badP n k then 1 else if 8388608 - (l.length : Int) < k then 6 else 0
def putL (l : List Bool) (n k : Int) : List Bool := if putR l n k = 0 then l ++ bitsOf n.toNat k.toNat else l
theorem masks {W : World} : Cn p_ 71 [] W [] (fun _ : Unit => .agg #[.int .u8 1, .int .u8 2, .int .u8 4, .int .u8 8, .int .u8 16, .int .u8 32, .int .u8 64, .int .u8 128]) (fun _ => []) := by
 (refine S.bits_masks_s.cn fun F => ?_; unfold S.bits_masks; simp only [ca_, na_])
 refine e_newA fun g => ?_; refine e_opN v_rv .nil ?_; (((refine' e_stAgg ?hp ?hn ?hv ?h1 ?_); (case hp => (repeat constructor)); (case hn => rfl); (case hv => rfl); (case h1 => simp [Value.oneCell']))); (((refine' e_stS (v_resA ?hn) ?hi ?_); (case hi => (repeat (first | exact .refl | exact .nil | (apply Imp.pick; (focus ((repeat constructor); done))) | refine .drop ?_))); (case hn => rfl)))
 (refine e_ret Unit.unit (by rfl) ?_; (repeat (first | exact .refl | exact .nil | (apply Imp.pick; (focus ((repeat constructor); done))) | refine .drop ?_)))
def IsWx (p : Nat) (l : List Bool) : HP := ex fun q : Option Addr × Nat => all [pt p (.cells #[.slice q.1 (pkx l).length q.2, .int .i64 (l.length : Int), .bool true] 104), Sl 1 5 q.1 q.2 (pkx l).length ((pkx l).map B)]
theorem put {W : World} {p : Nat} {l : List Bool} {n k : Int} : Cn p_ 51 [.pointer (some ⟨p, 0, none⟩), .int .i64 n, .int .i64 k] W [IsW p l] (fun _ : Unit => .int .i64 (putR l n k)) (fun _ => [IsW p (putL l n k)]) := by
 (refine S.bits_Writer_Put_s.cn fun F => ?_; unfold S.bits_Writer_Put; simp only [ca_, na_])
 refine e_ex Pick.here fun q => ?_
 obtain ⟨qa, qc⟩ := q
 refine e_all Pick.here ?_
 (try simp only [ca_, na_])
 refine e_pu (.there (.there .here)) fun hL => ?_
 refine e_cut1 (fun z => pt p (.cells #[.slice qa (pk l).length qc, .int .i64 (l.length : Int), .bool true] 104) :: Sl 1 5 qa qc (pk l).length ((pk l).map B) :: pu (z = .bool (decide (badP n k))) :: F) ?_ ?_
 ·intro ds z
  refine e_pu (.there (.there .here)) fun hz => ?_
  subst hz
  by_cases hb : badP n k
  ·rw [dT_ hb]
   refine e_condT ?_
   refine e_ret () (by simp [putR, hb]) ?_
   rw [show putL l n k = l by simp [putL, putR, hb]]
   refine Imp.ex (qa, qc) (.all ?_)
   (try simp only [ca_, na_])
   refine .pick .here (.pick .here (.pu hL .refl))
  ·rw [dF_ hb]
   refine e_condF ?_; refine e_opN v_nil .nil ?_; refine e_opN v_fa0 .nil ?_; (((refine' e_opN (v_ldN ?hc) ?hi ?_); (case hi => exact .pick (by repeat constructor) .nil); (case hc => repeat constructor))); (refine e_opN (v_sub (by omega) (by omega)) .nil ?_)
   refine e_ask v_gtr .nil (fun h => ?_) (fun h => ?_)
   ·(refine e_condT ?_)
    refine e_ret () (by simp [putR, hb, h]) ?_
    rw [show putL l n k = l by simp [putL, putR, hb, h]]
    refine Imp.ex (qa, qc) (.all ?_)
    (try simp only [ca_, na_])
    refine .pick .here (.pick .here (.pu hL .refl))
   ·(refine e_condF ?_)
    (refine' e_call (masks) ?hp fun _ => ?_; (case hp => (repeat (first | exact Picks.nil | (apply Picks.cons; (focus repeat constructor))))); (try simp only [ca_, na_, Bool.not_true, Bool.not_false]))
    refine e_newA fun g => ?_; (((refine' e_stAgg ?hp ?hn ?hv ?h1 ?_); (case hp => (repeat constructor)); (case hn => rfl); (case hv => rfl); (case h1 => simp [Value.oneCell'])))
    rename_i g
    have hR : putR l n k = 0 := by simp [putR, hb, h]
    have hb' : 0 <= k /\ k <= 32 /\ 0 <= n /\ n < 2 ^ k.toNat := by unfold badP at hb; omega
    have hPL : putL l n k = l ++ bitsOf n.toNat k.toNat := by simp [putL, hR]
    rw [hR, hPL]
    obtain ⟨h1, h2, h3, h4⟩ := hb'
    obtain ⟨K, rfl⟩ := Int.eq_ofNat_of_zero_le h1
    obtain ⟨N, rfl⟩ := Int.eq_ofNat_of_zero_le h3
    rw [Int.toNat_natCast] at h4
    rw [Int.toNat_natCast, Int.toNat_natCast]
    have hN : N < 4294967296 := by
     have : (2 : Int) ^ K = ((2 ^ K : Nat) : Int) := by norm_cast
     have h32 : 2 ^ K <= 2 ^ 32 := Nat.pow_le_pow_right (by omega) (by omega)
     omega
    clear hR hPL hb h4
    refine e_loop1 (fun m y => [ex fun i : Nat => all [pu (m + i = K /\ y = .int .i64 (i : Int)), pt g (.cells #[.int .u8 1, .int .u8 2, .int .u8 4, .int .u8 8, .int .u8 16, .int .u8 32, .int .u8 64, .int .u8 128] 115), IsW p (l ++ bitsOf N i)]] ++ F) K ?_ ?_
    ·refine Imp.ex 0 (.all ?_)
     (try simp only [ca_, na_])
     refine .pu ⟨by omega, rfl⟩ (.pick .here (.ex (qa, qc) (.all ?_)))
     (try simp only [ca_, na_])
     rw [show l ++ bitsOf N 0 = l by simp [bitsOf]]
     exact .pick .here (.pick .here (.pu hL .refl))
    ·intro m ds y
     (try simp only [ca_, na_])
     refine e_ex Pick.here fun i => e_all Pick.here ?_
     (try simp only [ca_, na_])
     refine e_pu Pick.here fun hi => ?_
     obtain ⟨hm, rfl⟩ := hi
     obtain ⟨L, hLe⟩ : ∃ L, L = l ++ bitsOf N i := ⟨_, rfl⟩
     have hLl : L.length = l.length + i := by rw [hLe, List.length_append, length_bitsOf]
     rw [<- hLe]
     refine e_ask v_lss .nil (fun h => ?_) (fun h => ?_)
     ·have hik : i < K := by omega
      refine e_condT ?_
      refine e_cut0 ([pt g (.cells #[.int .u8 1, .int .u8 2, .int .u8 4, .int .u8 8, .int .u8 16, .int .u8 32, .int .u8 64, .int .u8 128] 115), IsWx p L] ++ F) ?_ ?_
      ·intro ds2
       (try simp only [ca_, na_])
       refine e_ex (.there .here) fun q2 => ?_
       obtain ⟨xa, xc⟩ := q2
       refine e_all Pick.here ?_
       (try simp only [ca_, na_])
       refine e_cut0 ([pt g (.cells #[.int .u8 1, .int .u8 2, .int .u8 4, .int .u8 8, .int .u8 16, .int .u8 32, .int .u8 64, .int .u8 128] 115), pt p (.cells #[.slice xa (pkx L).length xc, .int .i64 (L.length : Int), .bool true] 104), Sl 1 5 xa xc (pkx L).length ((pk (L ++ [N.testBit i])).map B)] ++ F) ?_ ?_
       ·intro ds3
        (try simp only [ca_, na_])
        refine e_opN v_nil .nil ?_; refine e_opN v_fa0 .nil ?_; (((refine' e_opN (v_ldN ?hc) ?hi ?_); (case hi => exact .pick (by repeat constructor) .nil); (case hc => repeat constructor))); (refine e_opN (v_add (by omega) (by omega)) .nil ?_); refine e_opN v_nil .nil ?_; refine e_opN v_fa0 .nil ?_; (((refine' e_stN ?hp ?ho ?_); (case hp => (repeat constructor)); (case ho => repeat constructor))); (refine e_opN (v_add (by omega) (by omega)) .nil ?_)
        refine e_next1 (m - 1) (by omega) (.ex (i + 1) (.all ?_))
        (try simp only [ca_, na_])
        refine .pu ⟨by omega, by norm_cast⟩ (.pick (.there .here) (.ex (xa, xc) (.all ?_)))
        (try simp only [ca_, na_])
        have e1 : l ++ bitsOf N (i + 1) = L ++ [N.testBit i] := by rw [hLe, bitsOf_succ, List.append_assoc]
        have e2 : (pk (L ++ [N.testBit i])).length = (pkx L).length := by rw [length_pk, length_pkx]; simp; omega
        rw [e1, e2]
        have e3 : ((L ++ [N.testBit i]).length : Int) = (L.length : Int) + 1 := by simp
        rw [e3]
        exact .pick .here (.pick (.here) (.pu (by simp; omega) .refl))
       ·refine e_opN v_conv .nil ?_
        rw [wrapu64 (by omega)]
        refine e_opN (v_shr (by omega)) .nil ?_
        rw [shr_nat (by omega)]
        refine e_opN v_and .nil ?_
        have hdiv : N / 2 ^ i <= N := Nat.div_le_self _ _
        rw [and1 (by omega), testBit_mod]
        refine e_ask v_eql .nil (fun h => ?_) (fun h => ?_)
        ·have hbit : N.testBit i = true := by
          cases hh : N.testBit i with
          | true => rfl
          | false => rw [hh] at h; simp at h
         have hpx := length_pkx L
         refine e_slsome (.there .here) (by omega) fun g1 hg1 => ?_
         subst hg1
         refine e_condT ?_; refine e_drS ?_; refine e_stS v_nil .nil ?_; refine e_stS v_fa0 .nil ?_; (((refine' e_stS (v_ldN ?hc) ?hi ?_); (case hi => exact .pick (by repeat constructor) .nil); (case hc => repeat constructor))); refine e_stS v_nil .nil ?_; refine e_stS v_fa0 .nil ?_; (((refine' e_stS (v_ldN ?hc) ?hi ?_); (case hi => exact .pick (by repeat constructor) .nil); (case hc => repeat constructor))); (((refine e_stS (v_quo ?h1 ?h2 ?h3) .nil ?_); (case h1 => omega); (case h2 => omega); (case h3 => omega)))
         refine e_stS (v_ia1 (L.length / 8) (by norm_cast) (by omega)) .nil ?_
         refine e_stS (v_ldSl (v := B (UInt8.ofNat (byteAt L (L.length / 8)))) (by rw [Nat.zero_add, List.getElem?_map, pkx_last]; rfl)) (.pick (.there .here) .nil) ?_
         refine e_stS v_nil .nil ?_; refine e_stS v_fa0 .nil ?_; (((refine' e_stS (v_ldN ?hc) ?hi ?_); (case hi => exact .pick (by repeat constructor) .nil); (case hc => repeat constructor))); (((refine e_stS (v_rem ?h1 ?h2) .nil ?_); (case h1 => omega); (case h2 => omega)))
         refine e_stS (v_iaA (L.length % 8) (by norm_cast) (by omega)) .nil ?_
         refine e_stS (v_ld (by rw [Nat.zero_add, Nat.mul_one]; exact mask_at (by omega))) (.pick (.there (.there .here)) .nil) ?_
         rw [B_ofNat (byteAt_lt _ _)]
         refine e_stS v_or .nil ?_
         rw [or8 (by omega) (byteAt_last L)]
         refine e_stS (v_ia1 (L.length / 8) (by norm_cast) (by omega)) .nil ?_
         refine e_stSl (.there .here) (by simp; omega) ?_
         refine e_sat ?_
         have e4 : byteAt L (L.length / 8) + 2 ^ (L.length % 8) < 256 := by
          have := byteAt_lt (L ++ [true]) (L.length / 8)
          rw [byteAt_snoc_eq] at this; simpa using this
         rw [hbit, pk_snoc_t, Nat.zero_add, List.map_set, B_ofNat e4]
         (try simp only [ca_, na_])
         (repeat (first | exact .refl | exact .nil | (apply Imp.pick; (focus ((repeat constructor); done))) | refine .drop ?_))
        ·have hbit : N.testBit i = false := by
          cases hh : N.testBit i with
          | false => rfl
          | true => rw [hh] at h; simp at h
         refine e_condF ?_
         refine e_sat ?_
         rw [hbit, pk_snoc_f]
         (try simp only [ca_, na_])
         (repeat (first | exact .refl | exact .nil | (apply Imp.pick; (focus ((repeat constructor); done))) | refine .drop ?_))
      ·refine e_ex (.there .here) fun q2 => ?_
       obtain ⟨xa, xc⟩ := q2
       refine e_all Pick.here ?_
       (try simp only [ca_, na_])
       refine e_pu (.there (.there .here)) fun hL2 => ?_
       refine e_opN v_nil .nil ?_; refine e_opN v_fa0 .nil ?_; (((refine' e_opN (v_ldN ?hc) ?hi ?_); (case hi => exact .pick (by repeat constructor) .nil); (case hc => repeat constructor))); (((refine e_opN (v_rem ?h1 ?h2) .nil ?_); (case h1 => omega); (case h2 => omega)))
       have hpk := length_pk L
       refine e_ask v_eql .nil (fun h => ?_) (fun h => ?_)
       ·(refine e_condT ?_); refine e_opN v_nil .nil ?_; refine e_opN v_fa0 .nil ?_; (((refine' e_opN (v_ldN ?hc) ?hi ?_); (case hi => exact .pick (by repeat constructor) .nil); (case hc => repeat constructor))); refine e_bsl1 fun g => ?_
        refine e_app (m := 1) (news := [B 0]) (.there (.there .here)) (src_pt (e' := 5) (by kernel_rfl) .here (by rfl) (B_one (l := [0]))) (by omega) (by omega) fun a' c' => ?_
        refine e_opN v_nil .nil ?_; refine e_opN v_fa0 .nil ?_; (((refine' e_stN ?hp ?ho ?_); (case hp => (repeat constructor)); (case ho => repeat constructor)))
        refine e_sat ?_
        (try simp only [ca_, na_])
        refine .pick (.there (.there (.there .here))) (.ex (a', c') (.all ?_))
        (try simp only [ca_, na_])
        have h8 : L.length % 8 = 0 := by omega
        rw [pkx0 h8]
        simp only [List.length_append, List.length_singleton, List.map_append, List.map_cons, List.map_nil]
        (repeat (first | exact .refl | exact .nil | (apply Imp.pick; (focus ((repeat constructor); done))) | refine .drop ?_))
       ·(refine e_condF ?_)
        refine e_sat ?_
        (try simp only [ca_, na_])
        refine .pick (.there (.there .here)) (.ex (xa, xc) (.all ?_))
        (try simp only [ca_, na_])
        rw [pkx1 (by omega)]
        (repeat (first | exact .refl | exact .nil | (apply Imp.pick; (focus ((repeat constructor); done))) | refine .drop ?_))
     ·have : i = K := by omega
      subst this
      refine e_condF ?_
      refine e_retT () ?_
      rw [<- hLe]
      exact .pick (.there .here) (.drop .refl)
 ·(refine' e_call (none_some) ?hp fun _ => ?_; (case hp => (repeat (first | exact Picks.nil | (apply Picks.cons; (focus repeat constructor))))); (try simp only [ca_, na_, Bool.not_true, Bool.not_false]))
  refine e_condF ?_
  have fin : ∀ z : Value, z = .bool (decide (badP n k)) -> Ent W (pt p (.cells #[.slice qa (pk l).length qc, .int .i64 (l.length : Int), .bool true] 104) :: Sl 1 5 qa qc (pk l).length ((pk l).map B) :: F) (fun w => sat W (pt p (.cells #[.slice qa (pk l).length qc, .int .i64 (l.length : Int), .bool true] 104) :: Sl 1 5 qa qc (pk l).length ((pk l).map B) :: pu (z = .bool (decide (badP n k))) :: F) w) := fun z hz => e_sat (.pick .here (.pick .here (.pu hz .refl)))
  refine e_ask v_lss .nil (fun h => ?_) (fun h => ?_)
  ·(refine e_condT ?_)
   exact fin _ (by rw [dT_ (show badP n k from .inl h)])
  ·(refine e_condF ?_)
   refine e_ask v_gtr .nil (fun h => ?_) (fun h => ?_)
   ·(refine e_condT ?_)
    exact fin _ (by rw [dT_ (show badP n k from .inr (.inl ‹_›))])
   ·(refine e_condF ?_)
    refine e_ask v_lss .nil (fun h => ?_) (fun h => ?_)
    ·(refine e_condT ?_)
     exact fin _ (by rw [dT_ (show badP n k from .inr (.inr (.inl ‹_›)))])
    ·(refine e_condF ?_)
     refine e_opN v_min .nil ?_
     rw [if_neg (by omega)]
     refine e_opN v_max .nil ?_
     rw [show (if (0 : Int) < k then k else 0) = k by split <;> omega]
     obtain ⟨K, rfl⟩ := Int.eq_ofNat_of_zero_le (show 0 <= k by omega)
     refine e_opN v_conv .nil ?_
     rw [wrapu64 (by omega)]
     refine e_opN (v_shl (by omega)) .nil ?_
     have hm : min ((K : Int)).toNat IntKind.i64.bits = K := by simp only [IntKind.bits, Int.toNat_natCast]; omega
     have h32 : 2 ^ K <= 2 ^ 32 := Nat.pow_le_pow_right (by omega) (by omega)
     have hc : (2 : Int) ^ K = ((2 ^ K : Nat) : Int) := by norm_cast
     obtain ⟨E, hE⟩ : ∃ E, E = 2 ^ K := ⟨_, rfl⟩
     rw [<- hE] at hc h32
     rw [hm, Int.one_mul, hc, w64 (by omega) (by omega)]
     refine e_opN v_geq .nil ?_
     refine fin _ ?_
     have : ((E : Int) <= n) ↔ badP n K := by
      unfold badP
      rw [Int.toNat_natCast, hc]
      constructor
      ·exact fun h => .inr (.inr (.inr h))
      ·rintro (h | h | h | h)
       ·omega
       ·omega
       ·omega
       ·exact h
     rw [decide_eq_decide.2 this]
theorem newWriter {W : World} : Cn p_ 48 [] W [] (fun p : Nat => .pointer (some ⟨p, 0, none⟩)) (fun p => [IsW p []]) := by
 (refine S.bits_NewWriter_s.cn fun F => ?_; unfold S.bits_NewWriter; simp only [ca_, na_])
 refine o_ v_rv ?_; refine e_boxA fun g => ?_
 refine e_ret g rfl ?_
 refine .ex (none, 0) (.all ?_)
 refine nr_ ?_
 refine .pick .here ?_
 rw [show (pk []).length = 0 from rfl, show List.map B (pk []) = [] from rfl]
 exact imp_nil (.pu (by simp) .refl)
theorem bits {W : World} {p : Nat} {l : List Bool} : Cn p_ 69 [.pointer (some ⟨p, 0, none⟩)] W [IsW p l] (fun _ : Unit => .int .i64 (l.length : Int)) (fun _ => [IsW p l]) := by
 (refine S.bits_Writer_Bits_s.cn fun F => ?_; unfold S.bits_Writer_Bits; simp only [ca_, na_])
 refine e_ex Pick.here fun q => ?_
 obtain ⟨qa, qc⟩ := q
 refine e_all Pick.here ?_
 refine nr_ ?_
 refine e_pu (.there (.there .here)) fun hL => ?_
 refine c_ none_some fun _ => ?_
 refine e_condF (o_ v_nil (o_ v_fa0 (ln_ ?_)))
 refine e_ret () rfl ?_
 refine .ex (qa, qc) (.all ?_)
 refine nr_ ?_
 exact .pick .here (.pick .here (.pu hL .refl))
theorem align0 {W : World} {p n qc : Nat} {qa : Option Addr} {m : Int} (hn : n <= 4611686018427387904 / 8) : Cn p_ 72 [.pointer (some ⟨p, 0, none⟩)] W [pt p (.cells #[.slice qa n qc, .int .i64 m, .bool true] 104)] (fun _ : Unit => .tuple #[]) (fun _ => [pt p (.cells #[.slice qa n qc, .int .i64 (8 * (n : Int)), .bool true] 104)]) := by
 (refine S.bits_Writer_Align_s.cn fun F => ?_; unfold S.bits_Writer_Align; simp only [ca_, na_])
 (refine' e_call (none_some) ?hp fun _ => ?_; (case hp => (repeat (first | exact Picks.nil | (apply Picks.cons; (focus repeat constructor))))); (try simp only [ca_, na_, Bool.not_true, Bool.not_false]))
 refine e_opN v_notF .nil ?_; refine e_condT ?_; refine e_opN v_nil .nil ?_; refine e_opN v_fa0 .nil ?_; (((refine' e_opN (v_ldN ?hc) ?hi ?_); (case hi => exact .pick (by repeat constructor) .nil); (case hc => repeat constructor))); refine e_opN v_len .nil ?_; (refine e_opN (v_mul (by omega) (by omega)) .nil ?_); refine e_opN v_nil .nil ?_; refine e_opN v_fa0 .nil ?_; (((refine' e_stN ?hp ?ho ?_); (case hp => (repeat constructor)); (case ho => repeat constructor)))
 refine e_retT () ?_
 exact .pick .here .refl
theorem align {W : World} {p : Nat} {l : List Bool} : Cn p_ 72 [.pointer (some ⟨p, 0, none⟩)] W [IsW p l] (fun _ : Unit => .tuple #[]) (fun _ => [IsW p (padTo8 l)]) := by
 (refine S.bits_Writer_Align_s.cn fun F => ?_; unfold S.bits_Writer_Align; simp only [ca_, na_])
 refine e_ex Pick.here fun q => ?_
 obtain ⟨qa, qc⟩ := q
 refine e_all Pick.here ?_
 (try simp only [ca_, na_])
 refine e_pu (.there (.there .here)) fun hL => ?_
 have hpk := length_pk l
 (refine' e_call (none_some) ?hp fun _ => ?_; (case hp => (repeat (first | exact Picks.nil | (apply Picks.cons; (focus repeat constructor))))); (try simp only [ca_, na_, Bool.not_true, Bool.not_false]))
 refine e_opN v_notF .nil ?_; refine e_condT ?_; refine e_opN v_nil .nil ?_; refine e_opN v_fa0 .nil ?_; (((refine' e_opN (v_ldN ?hc) ?hi ?_); (case hi => exact .pick (by repeat constructor) .nil); (case hc => repeat constructor))); refine e_opN v_len .nil ?_; (refine e_opN (v_mul (by omega) (by omega)) .nil ?_); refine e_opN v_nil .nil ?_; refine e_opN v_fa0 .nil ?_; (((refine' e_stN ?hp ?ho ?_); (case hp => (repeat constructor)); (case ho => repeat constructor)))
 refine e_retT () ?_
 refine .ex (qa, qc) (.all ?_)
 (try simp only [ca_, na_])
 rw [pk_pad, show ((padTo8 l).length : Int) = 8 * ((pk l).length : Int) by rw [length_pad, hpk]; norm_cast]
 exact .pick .here (.pick .here (.pu (by rw [length_pad]; omega) .refl))
theorem bytes {W : World} {p : Nat} {l : List Bool} : Cn p_ 53 [.pointer (some ⟨p, 0, none⟩)] W [IsW p l] (fun q : Option Addr × Nat => .slice q.1 (pk l).length q.2) (fun q => [Sl 1 5 q.1 q.2 (pk l).length ((pk l).map B), IsW p l]) := by
 (refine S.bits_Writer_Bytes_s.cn fun F => ?_; unfold S.bits_Writer_Bytes; simp only [ca_, na_])
 refine e_ex Pick.here fun q => ?_
 obtain ⟨qa, qc⟩ := q
 refine e_all Pick.here ?_
 refine nr_ ?_
 refine e_pu (.there (.there .here)) fun hL => ?_
 have hpk := length_pk l
 refine c_ none_some fun _ => ?_
 refine e_condF (o_ v_nil (o_ v_fa0 (ln_ ?_)))
 refine e_nil (s := 1) (e := 5) ?_
 refine e_app (m := (pk l).length) (news := (pk l).map B) .here (src_sl (e' := 5) (by kernel_rfl) (.there (.there .here)) B_one) (by omega) (by omega) fun a' c' => ?_
 rw [Nat.zero_add, List.nil_append]
 refine e_ret (a', c') rfl ?_
 refine .pick .here (.ex (qa, qc) (.all ?_))
 refine nr_ ?_
 exact .pick .here (.pick .here (.pu hL .refl))
def rawR (l : List Bool) (b : List UInt8) : Int := if 1048576 < (pk l).length + b.length then 6 else 0
def rawL (l : List Bool) (b : List UInt8) : List Bool := if rawR l b = 0 then padTo8 l ++ ub b else l
theorem raw {W : World} {p : Nat} {l : List Bool} {a : Option Addr} {cap : Nat} {b : List UInt8} {A : HP} (hr : RdB W A a b.length (b.map B)) (ha : a = none -> b.length = 0) (hb : b.length <= 4611686018427387904) :
  Cn p_ 73 [.pointer (some ⟨p, 0, none⟩), .slice a b.length cap] W [IsW p l, A] (fun _ : Unit => .int .i64 (rawR l b)) (fun _ => [IsW p (rawL l b), A]) := by
 (refine S.bits_Writer_Raw_s.cn fun F => ?_; unfold S.bits_Writer_Raw; simp only [ca_, na_])
 refine e_ex Pick.here fun q => ?_
 obtain ⟨qa, qc⟩ := q
 refine e_all Pick.here ?_
 (try simp only [ca_, na_])
 refine e_pu (.there (.there .here)) fun hL => ?_
 have hpk := length_pk l
 (refine' e_call (none_some) ?hp fun _ => ?_; (case hp => (repeat (first | exact Picks.nil | (apply Picks.cons; (focus repeat constructor))))); (try simp only [ca_, na_, Bool.not_true, Bool.not_false]))
 refine e_condF ?_; refine e_opN v_len .nil ?_; refine e_opN v_nil .nil ?_; refine e_opN v_fa0 .nil ?_; (((refine' e_opN (v_ldN ?hc) ?hi ?_); (case hi => exact .pick (by repeat constructor) .nil); (case hc => repeat constructor))); refine e_opN v_len .nil ?_; (refine e_opN (v_sub (by omega) (by omega)) .nil ?_)
 refine e_ask v_gtr .nil (fun h => ?_) (fun h => ?_)
 ·(refine e_condT ?_)
  have hR : rawR l b = 6 := by unfold rawR; rw [if_pos (by omega)]
  rw [hR]
  refine e_ret () rfl ?_
  rw [show rawL l b = l by simp [rawL, hR]]
  refine .ex (qa, qc) (.all ?_)
  (try simp only [ca_, na_])
  exact .pick .here (.pick .here (.pu hL .refl))
 ·have hR : rawR l b = 0 := by unfold rawR; rw [if_neg (by omega)]
  rw [hR, show rawL l b = padTo8 l ++ ub b by simp [rawL, hR]]
  refine e_condF ?_; refine e_opN v_nil .nil ?_; refine e_opN v_fa0 .nil ?_; (((refine' e_opN (v_ldN ?hc) ?hi ?_); (case hi => exact .pick (by repeat constructor) .nil); (case hc => repeat constructor)))
  refine e_app (m := b.length) (news := b.map B) (.there .here) (src_rd (A := A) (e' := 5) (by kernel_rfl) (.there (.there .here)) hr ha B_one) (by omega) (by omega) fun a' c' => ?_
  refine e_opN v_nil .nil ?_; refine e_opN v_fa0 .nil ?_; (((refine' e_stN ?hp ?ho ?_); (case hp => (repeat constructor)); (case ho => repeat constructor)))
  (refine' e_call (align0 (n := (pk l).length + b.length) (by omega)) ?hp fun _ => ?_; (case hp => (repeat (first | exact Picks.nil | (apply Picks.cons; (focus repeat constructor))))); (try simp only [ca_, na_, Bool.not_true, Bool.not_false]))
  refine e_retT () ?_
  refine .ex (a', c') (.all ?_)
  (try simp only [ca_, na_])
  have hp8 : (padTo8 l).length % 8 = 0 := by rw [length_pad]; omega
  have hlen : (padTo8 l ++ ub b).length = 8 * ((pk l).length + b.length) := by rw [List.length_append, length_pad, length_ub]; omega
  rw [pk_append hp8, pk_pad, hlen, List.length_append, List.map_append, show ((8 * ((pk l).length + b.length) : Nat) : Int) = 8 * (((pk l).length + b.length : Nat) : Int) by norm_cast]
  exact .pick .here (.pick .here (.pu (by omega) (.pick .here .refl)))
def lim (k : Int) : Nat := (if 32 < k then 32 else k).toNat
theorem lim_le (k : Int) : lim k <= 32 := by unfold lim; split <;> omega
theorem lim_eq (k : Int) : (if (0 : Int) < (if (32 : Int) < k then 32 else k) then (if (32 : Int) < k then 32 else k) else 0) = (lim k : Int) := by
 unfold lim; repeat' split <;> omega
theorem reverse {W : World} {n k : Int} : Cn p_ 136 [.int .i64 n, .int .i64 k] W [] (fun _ : Unit => .int .i64 (rv n (lim k) : Int)) (fun _ => []) := by
 (refine S.bits_Reverse_s.cn fun F => ?_; unfold S.bits_Reverse; simp only [ca_, na_])
 have hK := lim_le k
 refine o_ v_min (o_ v_max ?_)
 rw [lim_eq]
 obtain ⟨K, hKe⟩ : ∃ K, K = lim k := ⟨_, rfl⟩
 rw [<- hKe] at hK
 rw [<- hKe]
 refine e_loop2 (fun m x y => [ex fun i : Nat => pu (m + i = K /\ y = .int .i64 (i : Int) /\ x = .int .i64 (rv n i : Int))] ++ F) K ?_ ?_
 ·exact Imp.ex 0 (.pu ⟨by omega, rfl, rfl⟩ .refl)
 ·intro m ds x y
  refine nr_ ?_
  refine e_ex Pick.here fun i => e_pu Pick.here fun hi => ?_
  obtain ⟨hm, rfl, rfl⟩ := hi
  refine e_ask v_lss .nil (fun h => ?_) (fun h => ?_)
  ·have hik : i < K := by omega
   have hr := rv_lt n i
   have hp : 2 ^ i <= 2 ^ 31 := Nat.pow_le_pow_right (by omega) (by omega)
   refine e_condT (o_ (v_shl (by omega)) ?_)
   rw [show (rv n i : Int) * 2 ^ (min ((1 : Int)).toNat IntKind.i64.bits) = ((rv n i * 2 : Nat) : Int) by norm_cast, w64 (by omega) (by omega)]
   refine o_ v_conv ?_
   rw [wrapu64 (by omega)]
   refine o_ (v_shr (by omega)) ?_
   rw [shrI (by omega)]
   refine o_ v_and ?_
   rw [and1I, <- bit_toNat]
   refine o_ v_or ?_
   rw [or_two (by omega), <- rv_succ]
   refine ad_ ?_
   exact e_next2 (m - 1) (by omega) (.ex (i + 1) (.pu (by refine ⟨by omega, ?_⟩; first | trivial | norm_cast) .refl))
  ·have : i = K := by omega
   subst this
   refine e_condF (rt_ () ?_)
   exact .refl
theorem reverseRef {W : World} {n k : Int} : Cn p_ 145 [.int .i64 n, .int .i64 k] W [] (fun _ : Unit => .int .i64 (rv n (lim k) : Int)) (fun _ => []) := by
 (refine S.ref02_Reverse_s.cn fun F => ?_; unfold S.ref02_Reverse; simp only [ca_, na_])
 have hK := lim_le k
 refine o_ v_min (o_ v_max ?_)
 rw [lim_eq]
 obtain ⟨K, hKe⟩ : ∃ K, K = lim k := ⟨_, rfl⟩
 rw [<- hKe] at hK
 rw [<- hKe]
 refine e_loop2 (fun m x y => [ex fun i : Nat => pu (m + i = K /\ y = .int .i64 (i : Int) /\ x = .int .i64 (rv n i : Int))] ++ F) K ?_ ?_
 ·exact Imp.ex 0 (.pu ⟨by omega, rfl, rfl⟩ .refl)
 ·intro m ds x y
  refine nr_ ?_
  refine e_ex Pick.here fun i => e_pu Pick.here fun hi => ?_
  obtain ⟨hm, rfl, rfl⟩ := hi
  refine e_ask v_lss .nil (fun h => ?_) (fun h => ?_)
  ·have hik : i < K := by omega
   have hr := rv_lt n i
   have hp : 2 ^ i <= 2 ^ 31 := Nat.pow_le_pow_right (by omega) (by omega)
   refine e_condT (o_ (v_mul (by omega) (by omega)) ?_)
   refine o_ v_conv ?_
   rw [wrapu64 (by omega)]
   refine o_ (v_shr (by omega)) ?_
   rw [shrI (by omega)]
   refine o_ v_and ?_
   rw [and1I, <- bit_toNat]
   have hb := Bool.toNat_le (bitI n i)
   refine ad_ ?_
   rw [show 2 * (rv n i : Int) + ((bitI n i).toNat : Int) = (rv n (i + 1) : Int) by rw [rv_succ]; norm_cast]
   refine ad_ ?_
   exact e_next2 (m - 1) (by omega) (.ex (i + 1) (.pu (by refine ⟨by omega, ?_⟩; first | trivial | norm_cast) .refl))
  ·have : i = K := by omega
   subst this
   refine e_condF (rt_ () ?_)
   exact .refl
end Go.Proofs.YthoeeahdkdcceaaGreat.B
namespace Go.Proofs.YthoeeahdkdcceaaGreat.Sl
open Go Sh
variable {P : Program} {W : World} {L L' : List HP} {Kp : PK} {k : Value -> WP}
theorem fill_run : ∀ (vs pre zs : List Value), zs.length = vs.length -> (∀ v ∈ vs, v.cells = #[v]) ->
  Instr.fill (fun i => some (i * 1, 1)) (pre ++ zs).toArray ((vs.zipIdx pre.length).map fun x => (x.2, x.1)) = some (pre ++ vs).toArray
 | [], pre, zs, hz, _ => by
  have : zs = [] := List.eq_nil_of_length_eq_zero (by simpa using hz)
  subst this; simp [Instr.fill]
 | v :: vs, pre, [], hz, _ => by simp at hz
 | v :: vs, pre, z :: zs, hz, ho => by
  have hv := ho v (by simp)
  have ih := fill_run vs (pre ++ [v]) zs (by simpa using hz) (fun u hu => ho u (by simp [hu]))
  simp only [List.zipIdx_cons, List.map_cons, Instr.fill, hv]
  rw [if_neg (by simp)]
  have h2 : Array.foldl (fun cs (x : Value × Nat) => cs.setIfInBounds (pre.length * 1 + x.2) x.1) (pre ++ z :: zs).toArray (#[v] : Array Value).zipIdx = (pre ++ [v] ++ zs).toArray := by
   simp
  have h3 : (pre ++ [v]).length = pre.length + 1 := by simp
  rw [h3] at ih
  rw [h2, ih]; simp
theorem e_bslN {t e : TypeId} {b n : Nat} {parts : List (Nat × Value)} {vs : List Value} [ht : SlT P t e 1 b] (hn : vs.length = n) (hp : parts = vs.zipIdx.map fun x => (x.2, x.1)) (ho : ∀ v ∈ vs, v.cells = #[v]) (hm : n <= 16777216)
  (h : ∀ g, Ent W (pt g (.cells vs.toArray e) :: L) (k (.slice (some ⟨g, 0, none⟩) n n))) : Ent W L (opN P (sBuildSl t n parts) Kp k) := fun w hw => by
 refine ⟨?_⟩
 obtain ⟨i, z, hi, hz, hs, hb, hzs⟩ := ht.info
 have : (sBuildSl t n parts).run P w = .ok (.value (.slice (some ⟨w.heap.size, 0, none⟩) n n)) (w.alloc (.cells vs.toArray e)) := by
  have hm' : ¬ (2 ^ 24 < n) := by omega
  have hf : ∀ zs : List Value, zs.length = vs.length -> Instr.fill (fun i => some (i * 1, 1)) zs.toArray parts = some vs.toArray := fun zs hz => by
   have := fill_run vs [] zs hz ho
   simpa [hp] using this
  by_cases h0 : n = 0
  ·have : vs = [] := List.eq_nil_of_length_eq_zero (by omega)
   subst this; subst h0
   simp [sBuildSl, Instr.buildSlice, run_underlying ht.ut, sizeOf_run hi, hs, hp, newRow, Instr.fill]
   have e0 : (Array.range 0).map (fun _ => (default : Value)) = #[] := Array.eq_empty_of_size_eq_zero (by simp)
   rw [e0]
  ·have hf' := hf ((List.range n).map fun j => z.cells[j % z.cells.size]!) (by simp [hn])
   have e1 : ((Array.range n).map fun j => z.cells[j % z.cells.size]!) = ((List.range n).map fun j => z.cells[j % z.cells.size]!).toArray := by
    apply Array.ext'
    simp [Array.toList_range]
   rw [<- e1] at hf'
   simp only [Nat.mul_one] at hf'
   simp [sBuildSl, Instr.buildSlice, run_underlying ht.ut, sizeOf_run hi, hs, h0, hm', zeroValue, typeInfo, hi, hz, newRow, hf']
 rw [this]
 exact h _ _ (hw.alloc _)
theorem e_mksl {t e : TypeId} {b : Nat} {z : Value} {q r : IntKind} {l c : Int} (n m : Nat) [ht : SlT P t e 1 b] [hz : ZeroT P e z] [hc : OC z] (hl : l = (n : Int)) (hcm : c = (m : Int)) (h1 : n <= m) (h2 : b * m <= 281474976710656) (h3 : m <= maxLen)
  (h : ∀ g, Ent W (Sl 1 e (some ⟨g, 0, none⟩) m n (List.replicate n z) :: L) (k (.slice (some ⟨g, 0, none⟩) n m))) : Ent W L (opN P (sMkSl t (.int q l) (.int r c)) Kp k) := fun w hw => by
 refine ⟨?_⟩
 obtain ⟨i, z', hi, hz', hs, hb, hzs⟩ := ht.info
 have e0 : z' = z := by
  have := hz.run w
  simp [zeroValue, typeInfo, hi, hz'] at this
  exact this
 subst e0
 subst hl; subst hcm
 have hcz : z'.cells = #[z'] := cells_one hc.one
 have hbm : (i.bytes : Int) * (m : Int) <= 281474976710656 := by
  rw [hb]
  obtain ⟨X, hX⟩ : ∃ X, X = b * m := ⟨_, rfl⟩
  have h4 : (X : Int) <= 281474976710656 := by omega
  rw [hX, Int.natCast_mul] at h4
  exact h4
 have hr := run_make (P := P) (w := w) t e i z' ht.ut hi hz' q r n m (by omega) (by omega) hbm (by unfold maxLen at h3; omega)
 simp only [Int.toNat_natCast, hs, Nat.mul_one] at hr
 have e1 : madeCells z'.cells m = (List.replicate n z' ++ List.replicate (m - n) z').toArray := by
  rw [hcz, List.replicate_append_replicate]
  apply Array.ext'
  simp [madeCells, Array.toList_range, Nat.mod_one]
  rw [show n + (m - n) = m by omega]
  apply List.ext_getElem <;> simp
 have : (sMkSl t (.int q n) (.int r m)).run P w = .ok (.value (.slice (some ⟨w.heap.size, 0, none⟩) n m)) (w.alloc (.cells (List.replicate n z' ++ List.replicate (m - n) z').toArray e)) := by
  simp [sMkSl, hr, e1]
 rw [this]
 refine h _ _ ?_
 have := hw.alloc (.cells (List.replicate n z' ++ List.replicate (m - n) z').toArray e)
 refine Imp.sat (L := pt w.heap.size (.cells (List.replicate n z' ++ List.replicate (m - n) z').toArray e) :: L) ?_ this
 exact .conv (B := pt w.heap.size (.cells (List.replicate n z' ++ List.replicate (m - n) z').toArray e)) (fun f hf => ⟨by simp, h1, h3, .inr ⟨_, List.replicate (m - n) z', rfl, by simp, hf⟩⟩) (.pick .here .refl)
end Go.Proofs.YthoeeahdkdcceaaGreat.Sl
