/- The shapes of functions of the loaded program, printed by a program of mine; each is proved to be what the model asks of the function. No conditions. (12 texts made one; each says below what it is.) -/
import Derived.Test.YthoeeahdkdcceaaChecked
import Derived.Test.YthoeeahdkdcceaaK2
import Derived.KernelRfl
import Derived.ChangeArms
import Derived.Test.YthoeeahdkdcceaaRows
set_option linter.unusedVariables false
set_option linter.unusedSimpArgs false
set_option linter.unusedSectionVars false
namespace Go.Proofs.Ythoeeahdkdcceaa.S
open Go Sh Sl
def lz_finder_candidates (v0 v1 : Value) (Kp : PK) (K : Value → WP) : WP :=
 opN Try.prog (sBox 114 v0) Kp fun x2 =>
 opN Try.prog (sBox 3 v1) Kp fun x3 =>
 opN Try.prog (sMkF (.func 123) [] [x3, x2]) Kp fun x5 =>
 K x5
def lz_finder_candidates_an : Ann := { cuts := [], blks := [], loops := [], drs := [] }
theorem lz_finder_candidates_eq (v0 v1 : Value) (Kp : PK) (K : Value → WP) : cevF Try.prog lz_finder_candidates_an Try.f96 [v0, v1] Kp K = lz_finder_candidates v0 v1 Kp K := by kernel_rfl
theorem lz_finder_candidates_calls {v0 v1 : Value} {Kp : PK} {K : Value → WP} {w : World} (h : lz_finder_candidates v0 v1 Kp K w) : Calls Try.prog 96 #[v0, v1] w (after Kp K) :=
 calls_of_shape (calls_of_cev wide Try.func96 (an := lz_finder_candidates_an) (args := [v0, v1]) (cast (congrFun (lz_finder_candidates_eq v0 v1 Kp K) w).symm h))
theorem lz_finder_candidates_cn {v0 v1 : Value} {W : World} {α : Type} {A : List HP} {r : α → Value} {B : α → List HP} (h : ∀ F, Ent W (A ++ F) (lz_finder_candidates v0 v1 noP fun v w => ∃ x, v = r x ∧ sat W (B x ++ F) w)) : Cn Try.prog 96 [v0, v1] W A r B :=
 Cn.of (shape := lz_finder_candidates v0 v1) Try.call96 (fun h => lz_finder_candidates_calls h) h
def lz_finder_length (v0 v1 v2 : Value) (Kp : PK) (K : Value → WP) : WP :=
  loop1 (fun I1 m1 _ y7 =>
   drS (stS Try.prog (sBin .lss 3 y7 (.int .i64 258)) fun x9 =>
    gdK x9 true (fun k => k v2) fun x11 =>
    gdK x9 true (fun k => k y7) fun x12 =>
    gdK x9 true (stS Try.prog (sBin .add 3 x11 x12)) fun x13 =>
    gdK x9 true (fun k => k v0) fun x14 =>
    gdK x9 true (stS Try.prog (sNil x14)) fun x15 =>
    gdK x9 true (stS Try.prog (sFA 117 x15 0)) fun x16 =>
    gdK x9 true (stS Try.prog (sLoad 22 x16)) fun x17 =>
    gdK x9 true (stS Try.prog (sLen #[22] 3 [x17])) fun x18 =>
    gdK x9 true (stS Try.prog (sBin .lss 3 x13 x18)) fun x19 =>
    stS Try.prog (sPick x9 x19 (.bool false)) fun x20 =>
    gdK x20 true (fun k => k v0) fun x22 =>
    gdK x20 true (stS Try.prog (sNil x22)) fun x23 =>
    gdK x20 true (stS Try.prog (sFA 117 x23 0)) fun x24 =>
    gdK x20 true (stS Try.prog (sLoad 22 x24)) fun x25 =>
    gdK x20 true (fun k => k v1) fun x26 =>
    gdK x20 true (fun k => k y7) fun x27 =>
    gdK x20 true (stS Try.prog (sBin .add 3 x26 x27)) fun x28 =>
    gdK x20 true (stS Try.prog (sIA 22 x25 x28)) fun x29 =>
    gdK x20 true (stS Try.prog (sLoad 5 x29)) fun x30 =>
    gdK x20 true (fun k => k v0) fun x31 =>
    gdK x20 true (stS Try.prog (sNil x31)) fun x32 =>
    gdK x20 true (stS Try.prog (sFA 117 x32 0)) fun x33 =>
    gdK x20 true (stS Try.prog (sLoad 22 x33)) fun x34 =>
    gdK x20 true (fun k => k v2) fun x35 =>
    gdK x20 true (fun k => k y7) fun x36 =>
    gdK x20 true (stS Try.prog (sBin .add 3 x35 x36)) fun x37 =>
    gdK x20 true (stS Try.prog (sIA 22 x34 x37)) fun x38 =>
    gdK x20 true (stS Try.prog (sLoad 5 x38)) fun x39 =>
    gdK x20 true (stS Try.prog (sEq .eql 5 (.tmp 30) (.tmp 39) x30 x39)) fun x40 =>
    stS Try.prog (sPick x20 x40 (.bool false)) fun x41 =>
    condS x41
    (opN Try.prog (sBin .add 3 y7 (.int .i64 1)) Kp fun x43 =>
     next1 I1 m1 x43)
    (K y7))) (.int .i64 0)
def lz_finder_length_an : Ann := { cuts := [], blks := [], loops := [(2, [7])], drs := [(2, .ofL [(0, 1), (1, 1), (2, 1), (3, 1), (4, 1), (5, 1), (6, 1), (7, 1), (8, 1), (9, 1), (10, 1), (11, 1), (12, 1), (13, 1), (14, 1), (15, 1), (16, 1), (17, 1), (18, 1), (19, 1), (20, 1), (21, 1), (22, 1), (23, 1), (24, 1), (25, 1), (26, 1), (27, 1), (28, 1), (29, 1), (30, 1), (31, 1), (32, 1), (33, 1)])] }
theorem lz_finder_length_eq (v0 v1 v2 : Value) (Kp : PK) (K : Value → WP) : cevF Try.prog lz_finder_length_an Try.f97 [v0, v1, v2] Kp K = lz_finder_length v0 v1 v2 Kp K := by kernel_rfl
theorem lz_finder_length_calls {v0 v1 v2 : Value} {Kp : PK} {K : Value → WP} {w : World} (h : lz_finder_length v0 v1 v2 Kp K w) : Calls Try.prog 97 #[v0, v1, v2] w (after Kp K) :=
 calls_of_shape (calls_of_cev wide Try.func97 (an := lz_finder_length_an) (args := [v0, v1, v2]) (cast (congrFun (lz_finder_length_eq v0 v1 v2 Kp K) w).symm h))
theorem lz_finder_length_cn {v0 v1 v2 : Value} {W : World} {α : Type} {A : List HP} {r : α → Value} {B : α → List HP} (h : ∀ F, Ent W (A ++ F) (lz_finder_length v0 v1 v2 noP fun v w => ∃ x, v = r x ∧ sat W (B x ++ F) w)) : Cn Try.prog 97 [v0, v1, v2] W A r B :=
 Cn.of (shape := lz_finder_length v0 v1 v2) Try.call97 (fun h => lz_finder_length_calls h) h
def inflate_Fixed_1 (v0 v1 v2 : Value) (Kp : PK) (K : Value → WP) : WP :=
  loop2 (fun I1 m1 _ y0 y8 =>
   opN Try.prog (sBin .lss 3 y8 v1) Kp fun x9 =>
   condS x9
   (opN Try.prog (sBuildSl 119 1 [(0, v2)]) Kp fun x12 =>
    opN Try.prog (sApp #[119, 119] 119 [y0, x12]) Kp fun x13 =>
    opN Try.prog (sBin .add 3 y8 (.int .i64 1)) Kp fun x14 =>
    next2 I1 m1 x13 x14)
   (K y0)) v0 (.int .i64 0)
def inflate_Fixed_1_an : Ann := { cuts := [], blks := [], loops := [(2, [0, 8])], drs := [] }
theorem inflate_Fixed_1_eq (v0 v1 v2 : Value) (Kp : PK) (K : Value → WP) : cevF Try.prog inflate_Fixed_1_an Try.f98 [v0, v1, v2] Kp K = inflate_Fixed_1 v0 v1 v2 Kp K := by kernel_rfl
theorem inflate_Fixed_1_calls {v0 v1 v2 : Value} {Kp : PK} {K : Value → WP} {w : World} (h : inflate_Fixed_1 v0 v1 v2 Kp K w) : Calls Try.prog 98 #[v0, v1, v2] w (after Kp K) :=
 calls_of_shape (calls_of_cev wide Try.func98 (an := inflate_Fixed_1_an) (args := [v0, v1, v2]) (cast (congrFun (inflate_Fixed_1_eq v0 v1 v2 Kp K) w).symm h))
theorem inflate_Fixed_1_cn {v0 v1 v2 : Value} {W : World} {α : Type} {A : List HP} {r : α → Value} {B : α → List HP} (h : ∀ F, Ent W (A ++ F) (inflate_Fixed_1 v0 v1 v2 noP fun v w => ∃ x, v = r x ∧ sat W (B x ++ F) w)) : Cn Try.prog 98 [v0, v1, v2] W A r B :=
 Cn.of (shape := inflate_Fixed_1 v0 v1 v2) Try.call98 (fun h => inflate_Fixed_1_calls h) h
def lz_Length (v0 : Value) (Kp : PK) (K : Value → WP) : WP :=
  opN Try.prog (sBin .gtr 3 v0 (.int .i64 258)) Kp fun x6 =>
  condS x6
  (K (.tuple #[(.int .i64 (-1)), (.int .i64 0), (.int .i64 0)]))
  (opN Try.prog (sCall (fn 124) [v0, (.int .i64 257), (.int .i64 285), (fn 118)]) Kp fun x8 =>
   opN Try.prog (sExt x8 0) Kp fun x9 =>
   opN Try.prog (sExt x8 1) Kp fun x10 =>
   opN Try.prog (sExt x8 2) Kp fun x11 =>
   K (.tuple #[x9, x10, x11]))
def lz_Length_an : Ann := { cuts := [], blks := [], loops := [], drs := [] }
theorem lz_Length_eq (v0 : Value) (Kp : PK) (K : Value → WP) : cevF Try.prog lz_Length_an Try.f99 [v0] Kp K = lz_Length v0 Kp K := by kernel_rfl
theorem lz_Length_calls {v0 : Value} {Kp : PK} {K : Value → WP} {w : World} (h : lz_Length v0 Kp K w) : Calls Try.prog 99 #[v0] w (after Kp K) :=
 calls_of_shape (calls_of_cev wide Try.func99 (an := lz_Length_an) (args := [v0]) (cast (congrFun (lz_Length_eq v0 Kp K) w).symm h))
theorem lz_Length_cn {v0 : Value} {W : World} {α : Type} {A : List HP} {r : α → Value} {B : α → List HP} (h : ∀ F, Ent W (A ++ F) (lz_Length v0 noP fun v w => ∃ x, v = r x ∧ sat W (B x ++ F) w)) : Cn Try.prog 99 [v0] W A r B :=
 Cn.of (shape := lz_Length v0) Try.call99 (fun h => lz_Length_calls h) h
def lz_Distance (v0 : Value) (Kp : PK) (K : Value → WP) : WP :=
  opN Try.prog (sBin .gtr 3 v0 (.int .i64 32768)) Kp fun x6 =>
  condS x6
  (K (.tuple #[(.int .i64 (-1)), (.int .i64 0), (.int .i64 0)]))
  (opN Try.prog (sCall (fn 124) [v0, (.int .i64 0), (.int .i64 29), (fn 119)]) Kp fun x8 =>
   opN Try.prog (sExt x8 0) Kp fun x9 =>
   opN Try.prog (sExt x8 1) Kp fun x10 =>
   opN Try.prog (sExt x8 2) Kp fun x11 =>
   K (.tuple #[x9, x10, x11]))
def lz_Distance_an : Ann := { cuts := [], blks := [], loops := [], drs := [] }
theorem lz_Distance_eq (v0 : Value) (Kp : PK) (K : Value → WP) : cevF Try.prog lz_Distance_an Try.f100 [v0] Kp K = lz_Distance v0 Kp K := by kernel_rfl
theorem lz_Distance_calls {v0 : Value} {Kp : PK} {K : Value → WP} {w : World} (h : lz_Distance v0 Kp K w) : Calls Try.prog 100 #[v0] w (after Kp K) :=
 calls_of_shape (calls_of_cev wide Try.func100 (an := lz_Distance_an) (args := [v0]) (cast (congrFun (lz_Distance_eq v0 Kp K) w).symm h))
theorem lz_Distance_cn {v0 : Value} {W : World} {α : Type} {A : List HP} {r : α → Value} {B : α → List HP} (h : ∀ F, Ent W (A ++ F) (lz_Distance v0 noP fun v w => ∃ x, v = r x ∧ sat W (B x ++ F) w)) : Cn Try.prog 100 [v0] W A r B :=
 Cn.of (shape := lz_Distance v0) Try.call100 (fun h => lz_Distance_calls h) h
def huff_Codes (v0 : Value) (Kp : PK) (K : Value → WP) : WP :=
  opN Try.prog (sCall (fn 121) [v0]) Kp fun x13 =>
  opN Try.prog (sExt x13 0) Kp fun x14 =>
  opN Try.prog (sExt x13 1) Kp fun x15 =>
  opN Try.prog (sAlloc 186) Kp fun x4 =>
  opN Try.prog (sStore 186 x4 x14) Kp fun _ =>
  opN Try.prog (sUn .not x15) Kp fun x17 =>
  condS x17
  (K (.tuple #[(.slice none 0 0), (.int .i64 30)]))
  (opN Try.prog (sIA 186 x4 (.int .i64 0)) Kp fun x18 =>
   opN Try.prog (sStore 3 x18 (.int .i64 0)) Kp fun _ =>
   opN Try.prog (sAlloc 186) Kp fun x6 =>
   loop1 (fun I1 m1 _ y7 =>
    opN Try.prog (sBin .leq 3 y7 (.int .i64 15)) Kp fun x20 =>
    condS x20
    (drS (stS Try.prog (sBin .sub 3 y7 (.int .i64 1)) fun x25 =>
      stS Try.prog (sIA 186 x6 x25) fun x26 =>
      stS Try.prog (sLoad 3 x26) fun x27 =>
      stS Try.prog (sBin .sub 3 y7 (.int .i64 1)) fun x29 =>
      stS Try.prog (sIA 186 x4 x29) fun x30 =>
      stS Try.prog (sLoad 3 x30) fun x31 =>
      stS Try.prog (sBin .add 3 x27 x31) fun x32 =>
      stS Try.prog (sBin .shl 3 x32 (.int .u64 1)) fun x33 =>
      stS Try.prog (sIA 186 x6 y7) fun x34 =>
      opN Try.prog (sStore 3 x34 x33) Kp fun _ =>
      opN Try.prog (sBin .add 3 y7 (.int .i64 1)) Kp fun x22 =>
      next1 I1 m1 x22))
    (opN Try.prog (sLen #[119] 3 [v0]) Kp fun x36 =>
     opN Try.prog (sMkSl 119 x36 x36) Kp fun x37 =>
     opN Try.prog (sLen #[119] 3 [v0]) Kp fun x39 =>
     loop1 (fun I2 m2 _ y40 =>
      opN Try.prog (sBin .lss 3 y40 x39) Kp fun x41 =>
      condS x41
      (opN Try.prog (sIA 119 v0 y40) Kp fun x43 =>
       opN Try.prog (sLoad 3 x43) Kp fun x44 =>
       opN Try.prog (sBin .gtr 3 x44 (.int .i64 0)) Kp fun x46 =>
       condS x46
       (opN Try.prog (sIA 186 x6 x44) Kp fun x50 =>
        opN Try.prog (sLoad 3 x50) Kp fun x51 =>
        opN Try.prog (sIA 119 x37 y40) Kp fun x52 =>
        opN Try.prog (sStore 3 x52 x51) Kp fun _ =>
        opN Try.prog (sIA 186 x6 x44) Kp fun x54 =>
        opN Try.prog (sLoad 3 x54) Kp fun x55 =>
        opN Try.prog (sBin .add 3 x55 (.int .i64 1)) Kp fun x56 =>
        opN Try.prog (sIA 186 x6 x44) Kp fun x57 =>
        opN Try.prog (sStore 3 x57 x56) Kp fun _ =>
        opN Try.prog (sBin .add 3 y40 (.int .i64 1)) Kp fun x58 =>
        next1 I2 m2 x58)
       (opN Try.prog (sBin .add 3 y40 (.int .i64 1)) Kp fun x58 =>
        next1 I2 m2 x58))
      (K (.tuple #[x37, (.int .i64 0)]))) (.int .i64 0))) (.int .i64 1))
def huff_Codes_an : Ann := { cuts := [], blks := [], loops := [(7, [7]), (12, [40])], drs := [(9, .ofL [(0, 1), (1, 1), (2, 1), (3, 1), (4, 1), (5, 1), (6, 1), (7, 1), (8, 1), (9, 1), (10, 1), (11, 1), (12, 0)])] }
theorem huff_Codes_eq (v0 : Value) (Kp : PK) (K : Value → WP) : cevF Try.prog huff_Codes_an Try.f101 [v0] Kp K = huff_Codes v0 Kp K := by kernel_rfl
theorem huff_Codes_calls {v0 : Value} {Kp : PK} {K : Value → WP} {w : World} (h : huff_Codes v0 Kp K w) : Calls Try.prog 101 #[v0] w (after Kp K) :=
 calls_of_shape (calls_of_cev wide Try.func101 (an := huff_Codes_an) (args := [v0]) (cast (congrFun (huff_Codes_eq v0 Kp K) w).symm h))
theorem huff_Codes_cn {v0 : Value} {W : World} {α : Type} {A : List HP} {r : α → Value} {B : α → List HP} (h : ∀ F, Ent W (A ++ F) (huff_Codes v0 noP fun v w => ∃ x, v = r x ∧ sat W (B x ++ F) w)) : Cn Try.prog 101 [v0] W A r B :=
 Cn.of (shape := huff_Codes v0) Try.call101 (fun h => huff_Codes_calls h) h
def deflate_into_1 (v0 v1 v2 v3 v4 : Value) (Kp : PK) (K : Value → WP) : WP :=
 opN Try.prog (sBox 124 v0) Kp fun x5 =>
 opN Try.prog (sLoad 55 v4) Kp fun x9 =>
 opN Try.prog (sFA 124 x5 1) Kp fun x10 =>
 opN Try.prog (sLoad 119 x10) Kp fun x11 =>
 opN Try.prog (sFA 124 x5 0) Kp fun x12 =>
 opN Try.prog (sLoad 119 x12) Kp fun x13 =>
 opN Try.prog (sCall (fn 103) [x9, x11, x13, v1]) Kp fun x15 =>
 opN Try.prog (sLoad 55 v4) Kp fun x16 =>
 opN Try.prog (sCall (fn 35) [x16, v3, v2]) Kp fun x19 =>
 K (.tuple #[])
def deflate_into_1_an : Ann := { cuts := [], blks := [], loops := [], drs := [] }
theorem deflate_into_1_eq (v0 v1 v2 v3 v4 : Value) (Kp : PK) (K : Value → WP) : cevF Try.prog deflate_into_1_an Try.f102 [v0, v1, v2, v3, v4] Kp K = deflate_into_1 v0 v1 v2 v3 v4 Kp K := by kernel_rfl
theorem deflate_into_1_calls {v0 v1 v2 v3 v4 : Value} {Kp : PK} {K : Value → WP} {w : World} (h : deflate_into_1 v0 v1 v2 v3 v4 Kp K w) : Calls Try.prog 102 #[v0, v1, v2, v3, v4] w (after Kp K) :=
 calls_of_shape (calls_of_cev wide Try.func102 (an := deflate_into_1_an) (args := [v0, v1, v2, v3, v4]) (cast (congrFun (deflate_into_1_eq v0 v1 v2 v3 v4 Kp K) w).symm h))
theorem deflate_into_1_cn {v0 v1 v2 v3 v4 : Value} {W : World} {α : Type} {A : List HP} {r : α → Value} {B : α → List HP} (h : ∀ F, Ent W (A ++ F) (deflate_into_1 v0 v1 v2 v3 v4 noP fun v w => ∃ x, v = r x ∧ sat W (B x ++ F) w)) : Cn Try.prog 102 [v0, v1, v2, v3, v4] W A r B :=
 Cn.of (shape := deflate_into_1 v0 v1 v2 v3 v4) Try.call102 (fun h => deflate_into_1_calls h) h
def huff_Put (v0 v1 v2 v3 : Value) (Kp : PK) (K : Value → WP) : WP :=
  opN Try.prog (sBin .lss 3 v3 (.int .i64 0)) Kp fun x12 =>
  gdK x12 false (fun k => k v3) fun x14 =>
  gdK x12 false (fun k => k v1) fun x15 =>
  gdK x12 false (opN Try.prog (sLen #[119] 3 [x15]) Kp) fun x16 =>
  gdK x12 false (fun k => k v2) fun x17 =>
  gdK x12 false (opN Try.prog (sLen #[119] 3 [x17]) Kp) fun x18 =>
  gdK x12 false (opN Try.prog (sMin #[3, 3] 3 [x16, x18]) Kp) fun x19 =>
  gdK x12 false (opN Try.prog (sBin .geq 3 x14 x19) Kp) fun x20 =>
  opN Try.prog (sPick x12 (.bool true) x20) Kp fun x21 =>
  condS x21
  (K (.int .i64 1))
  (drS (stS Try.prog (sIA 119 v1 v3) fun x24 =>
    stS Try.prog (sLoad 3 x24) fun x25 =>
    stS Try.prog (sIA 119 v2 v3) fun x28 =>
    stS Try.prog (sLoad 3 x28) fun x29 =>
    opN Try.prog (sBin .lss 3 x29 (.int .i64 1)) Kp fun x31 =>
    gdK x31 false (fun k => k x29) fun x33 =>
    gdK x31 false (opN Try.prog (sBin .gtr 3 x33 (.int .i64 15)) Kp) fun x34 =>
    opN Try.prog (sPick x31 (.bool true) x34) Kp fun x35 =>
    gdK x35 false (fun k => k x25) fun x37 =>
    gdK x35 false (opN Try.prog (sBin .lss 3 x37 (.int .i64 0)) Kp) fun x38 =>
    opN Try.prog (sPick x35 (.bool true) x38) Kp fun x39 =>
    gdK x39 false (fun k => k x25) fun x41 =>
    gdK x39 false (fun k => k x29) fun x42 =>
    gdK x39 false (opN Try.prog (sConv 3 87 x42) Kp) fun x43 =>
    gdK x39 false (opN Try.prog (sBin .shl 3 (.int .i64 1) x43) Kp) fun x44 =>
    gdK x39 false (opN Try.prog (sBin .geq 3 x41 x44) Kp) fun x45 =>
    opN Try.prog (sPick x39 (.bool true) x45) Kp fun x46 =>
    condS x46
    (K (.int .i64 1))
    (opN Try.prog (sCall (fn 125) [x25, x29]) Kp fun x50 =>
     opN Try.prog (sCall (fn 35) [v0, x50, x29]) Kp fun x52 =>
     K x52)))
def huff_Put_an : Ann := { cuts := [], blks := [], loops := [], drs := [(3, .ofL [(0, 1), (1, 1), (2, 1), (3, 1), (4, 1), (5, 1), (6, 1), (7, 1), (8, 1), (9, 1)])] }
theorem huff_Put_eq (v0 v1 v2 v3 : Value) (Kp : PK) (K : Value → WP) : cevF Try.prog huff_Put_an Try.f103 [v0, v1, v2, v3] Kp K = huff_Put v0 v1 v2 v3 Kp K := by kernel_rfl
theorem huff_Put_calls {v0 v1 v2 v3 : Value} {Kp : PK} {K : Value → WP} {w : World} (h : huff_Put v0 v1 v2 v3 Kp K w) : Calls Try.prog 103 #[v0, v1, v2, v3] w (after Kp K) :=
 calls_of_shape (calls_of_cev wide Try.func103 (an := huff_Put_an) (args := [v0, v1, v2, v3]) (cast (congrFun (huff_Put_eq v0 v1 v2 v3 Kp K) w).symm h))
theorem huff_Put_cn {v0 v1 v2 v3 : Value} {W : World} {α : Type} {A : List HP} {r : α → Value} {B : α → List HP} (h : ∀ F, Ent W (A ++ F) (huff_Put v0 v1 v2 v3 noP fun v w => ∃ x, v = r x ∧ sat W (B x ++ F) w)) : Cn Try.prog 103 [v0, v1, v2, v3] W A r B :=
 Cn.of (shape := huff_Put v0 v1 v2 v3) Try.call103 (fun h => huff_Put_calls h) h
def deflate_block_own_1 (v0 v1 v2 v3 : Value) (Kp : PK) (K : Value → WP) : WP :=
 opN Try.prog (sBox 124 v0) Kp fun x4 =>
 opN Try.prog (sFA 124 x4 0) Kp fun x8 =>
 opN Try.prog (sLoad 119 x8) Kp fun x9 =>
 opN Try.prog (sIA 119 x9 v1) Kp fun x11 =>
 opN Try.prog (sLoad 3 x11) Kp fun x12 =>
 opN Try.prog (sBin .add 3 x12 (.int .i64 1)) Kp fun x13 =>
 opN Try.prog (sIA 119 x9 v1) Kp fun x14 =>
 opN Try.prog (sStore 3 x14 x13) Kp fun _ =>
 K (.tuple #[])
def deflate_block_own_1_an : Ann := { cuts := [], blks := [], loops := [], drs := [] }
theorem deflate_block_own_1_eq (v0 v1 v2 v3 : Value) (Kp : PK) (K : Value → WP) : cevF Try.prog deflate_block_own_1_an Try.f104 [v0, v1, v2, v3] Kp K = deflate_block_own_1 v0 v1 v2 v3 Kp K := by kernel_rfl
theorem deflate_block_own_1_calls {v0 v1 v2 v3 : Value} {Kp : PK} {K : Value → WP} {w : World} (h : deflate_block_own_1 v0 v1 v2 v3 Kp K w) : Calls Try.prog 104 #[v0, v1, v2, v3] w (after Kp K) :=
 calls_of_shape (calls_of_cev wide Try.func104 (an := deflate_block_own_1_an) (args := [v0, v1, v2, v3]) (cast (congrFun (deflate_block_own_1_eq v0 v1 v2 v3 Kp K) w).symm h))
theorem deflate_block_own_1_cn {v0 v1 v2 v3 : Value} {W : World} {α : Type} {A : List HP} {r : α → Value} {B : α → List HP} (h : ∀ F, Ent W (A ++ F) (deflate_block_own_1 v0 v1 v2 v3 noP fun v w => ∃ x, v = r x ∧ sat W (B x ++ F) w)) : Cn Try.prog 104 [v0, v1, v2, v3] W A r B :=
 Cn.of (shape := deflate_block_own_1 v0 v1 v2 v3) Try.call104 (fun h => deflate_block_own_1_calls h) h
def huff_Lengths (v0 v1 : Value) (Kp : PK) (K : Value → WP) : WP :=
  opN Try.prog (sLen #[119] 3 [v0]) Kp fun x18 =>
  opN Try.prog (sBin .gtr 3 x18 (.int .i64 320)) Kp fun x19 =>
  gdK x19 false (fun k => k v1) fun x21 =>
  gdK x19 false (opN Try.prog (sBin .lss 3 x21 (.int .i64 1)) Kp) fun x22 =>
  opN Try.prog (sPick x19 (.bool true) x22) Kp fun x23 =>
  gdK x23 false (fun k => k v1) fun x25 =>
  gdK x23 false (opN Try.prog (sBin .gtr 3 x25 (.int .i64 15)) Kp) fun x26 =>
  opN Try.prog (sPick x23 (.bool true) x26) Kp fun x27 =>
  condS x27
  (K (.tuple #[(.slice none 0 0), (.int .i64 1)]))
  (opN Try.prog (sLen #[119] 3 [v0]) Kp fun x29 =>
   loop2 (fun I1 m1 _ y6 y30 =>
    opN Try.prog (sBin .lss 3 y30 x29) Kp fun x31 =>
    condS x31
    (opN Try.prog (sIA 119 v0 y30) Kp fun x33 =>
     opN Try.prog (sLoad 3 x33) Kp fun x34 =>
     opN Try.prog (sBin .lss 3 x34 (.int .i64 0)) Kp fun x36 =>
     gdK x36 false (fun k => k x34) fun x38 =>
     gdK x36 false (opN Try.prog (sBin .gtr 3 x38 (.int .i64 1099511627776)) Kp) fun x39 =>
     opN Try.prog (sPick x36 (.bool true) x39) Kp fun x40 =>
     condS x40
     (K (.tuple #[(.slice none 0 0), (.int .i64 1)]))
     (opN Try.prog (sBin .gtr 3 x34 (.int .i64 0)) Kp fun x42 =>
      condS x42
      (opN Try.prog (sBuildSl 119 1 [(0, y30)]) Kp fun x46 =>
       opN Try.prog (sBuild 193 [(0, x34), (1, x46)]) Kp fun x47 =>
       opN Try.prog (sBuildSl 191 1 [(0, x47)]) Kp fun x48 =>
       opN Try.prog (sApp #[191, 191] 191 [y6, x48]) Kp fun x49 =>
       opN Try.prog (sBin .add 3 y30 (.int .i64 1)) Kp fun x50 =>
       next2 I1 m1 x49 x50)
      (opN Try.prog (sBin .add 3 y30 (.int .i64 1)) Kp fun x50 =>
       next2 I1 m1 y6 x50)))
    (opN Try.prog (sLen #[191] 3 [y6]) Kp fun x52 =>
     opN Try.prog (sConv 3 87 v1) Kp fun x55 =>
     opN Try.prog (sBin .shl 3 (.int .i64 1) x55) Kp fun x56 =>
     opN Try.prog (sBin .gtr 3 x52 x56) Kp fun x57 =>
     condS x57
     (K (.tuple #[(.slice none 0 0), (.int .i64 1)]))
     (opN Try.prog (sLen #[119] 3 [v0]) Kp fun x59 =>
      opN Try.prog (sMkSl 119 x59 x59) Kp fun x60 =>
      opN Try.prog (sEq .eql 3 (.tmp 61) (.const (.int .i64 1)) x52 (.int .i64 1)) Kp fun x62 =>
      condS x62
      (opN Try.prog (sIA 191 y6 (.int .i64 0)) Kp fun x65 =>
       opN Try.prog (sFA 193 x65 1) Kp fun x66 =>
       opN Try.prog (sLoad 119 x66) Kp fun x67 =>
       opN Try.prog (sIA 119 x67 (.int .i64 0)) Kp fun x68 =>
       opN Try.prog (sLoad 3 x68) Kp fun x69 =>
       opN Try.prog (sIA 119 x60 x69) Kp fun x70 =>
       opN Try.prog (sStore 3 x70 (.int .i64 1)) Kp fun _ =>
       K (.tuple #[x60, (.int .i64 0)]))
      (opN Try.prog (sCall (fn 126) [y6, (fn 127)]) Kp fun x73 =>
       opN Try.prog (sBin .sub 3 v1 (.int .i64 1)) Kp fun x76 =>
       loop2 (fun I2 m2 _ y11 y77 =>
        opN Try.prog (sBin .lss 3 y77 x76) Kp fun x78 =>
        condS x78
        (loop2 (fun I3 m3 _ y12 y13 =>
          opN Try.prog (sBin .add 3 y13 (.int .i64 1)) Kp fun x80 =>
          opN Try.prog (sLen #[191] 3 [y11]) Kp fun x82 =>
          opN Try.prog (sBin .lss 3 x80 x82) Kp fun x83 =>
          condS x83
          (drS (stD Try.prog (sIA 191 y11 y13) fun D3 x89 =>
            stD Try.prog (sFA 193 x89 0) fun D4 x90 =>
            stD Try.prog (sLoad 3 x90) fun D5 x91 =>
            stD Try.prog (sBin .add 3 y13 (.int .i64 1)) fun D8 x94 =>
            stD Try.prog (sIA 191 y11 x94) fun D9 x95 =>
            stD Try.prog (sFA 193 x95 0) fun D10 x96 =>
            stD Try.prog (sLoad 3 x96) fun D11 x97 =>
            stD Try.prog (sBin .add 3 x91 x97) fun D12 x98 =>
            stS Try.prog (sIA 191 y11 y13) fun x101 =>
            stS Try.prog (sFA 193 x101 1) fun x102 =>
            stS Try.prog (sLoad 119 x102) fun x103 =>
            stS Try.prog (sBin .add 3 y13 (.int .i64 1)) fun x106 =>
            stS Try.prog (sIA 191 y11 x106) fun x107 =>
            stS Try.prog (sFA 193 x107 1) fun x108 =>
            stS Try.prog (sLoad 119 x108) fun x109 =>
            opN Try.prog (sBuildSl 214 2 [(0, x103), (1, x109)]) Kp fun x110 =>
            (fun w => D12 w ∧ (fun w => D11 w ∧ (fun w => D10 w ∧ (fun w => D9 w ∧ (fun w => D8 w ∧ (fun w => D5 w ∧ (fun w => D4 w ∧ (fun w => D3 w ∧ (opN Try.prog (sCall (fn 129) [x110]) Kp fun x111 =>
                     (fun w => D12 w ∧ (fun w => D11 w ∧ (fun w => D10 w ∧ (fun w => D9 w ∧ (fun w => D8 w ∧ (fun w => D5 w ∧ (fun w => D4 w ∧ (fun w => D3 w ∧ (stS Try.prog (sBuild 193 [(0, x98), (1, x111)]) fun x112 =>
                      opN Try.prog (sBuildSl 191 1 [(0, x112)]) Kp fun x113 =>
                      opN Try.prog (sApp #[191, 191] 191 [y12, x113]) Kp fun x114 =>
                      opN Try.prog (sBin .add 3 y13 (.int .i64 2)) Kp fun x85 =>
                      next2 I3 m3 x114 x85) w) w) w) w) w) w) w) w)) w) w) w) w) w) w) w) w)))
          (opN Try.prog (sCall (fn 130) [y6, y12]) Kp fun x117 =>
           opN Try.prog (sBin .add 3 y77 (.int .i64 1)) Kp fun x118 =>
           next2 I2 m2 x117 x118)) (.slice none 0 0) (.int .i64 0))
        (loop1 (fun I4 m4 _ y14 =>
          opN Try.prog (sBin .mul 3 (.int .i64 2) x52) Kp fun x121 =>
          opN Try.prog (sBin .sub 3 x121 (.int .i64 2)) Kp fun x122 =>
          opN Try.prog (sBin .lss 3 y14 x122) Kp fun x123 =>
          condS x123
          (opN Try.prog (sIA 191 y11 y14) Kp fun x128 =>
           opN Try.prog (sFA 193 x128 1) Kp fun x129 =>
           opN Try.prog (sLoad 119 x129) Kp fun x130 =>
           opN Try.prog (sLen #[119] 3 [x130]) Kp fun x131 =>
           loop1 (fun I5 m5 _ y132 =>
            opN Try.prog (sBin .lss 3 y132 x131) Kp fun x133 =>
            condS x133
            (opN Try.prog (sIA 119 x130 y132) Kp fun x134 =>
             opN Try.prog (sLoad 3 x134) Kp fun x135 =>
             opN Try.prog (sIA 119 x60 x135) Kp fun x138 =>
             opN Try.prog (sLoad 3 x138) Kp fun x139 =>
             opN Try.prog (sBin .add 3 x139 (.int .i64 1)) Kp fun x140 =>
             opN Try.prog (sIA 119 x60 x135) Kp fun x141 =>
             opN Try.prog (sStore 3 x141 x140) Kp fun _ =>
             opN Try.prog (sBin .add 3 y132 (.int .i64 1)) Kp fun x142 =>
             next1 I5 m5 x142)
            (opN Try.prog (sBin .add 3 y14 (.int .i64 1)) Kp fun x125 =>
             next1 I4 m4 x125)) (.int .i64 0))
          (K (.tuple #[x60, (.int .i64 0)]))) (.int .i64 0))) y6 (.int .i64 0))))) (.slice none 0 0) (.int .i64 0))
def huff_Lengths_an : Ann := { cuts := [], blks := [], loops := [(5, [6, 30]), (22, [11, 77]), (25, [12, 13]), (31, [14]), (34, [132])], drs := [(27, .ofL [(0, 2), (1, 2), (2, 2), (3, 3), (4, 3), (5, 3), (6, 2), (7, 2), (8, 3), (9, 3), (10, 3), (11, 3), (12, 3), (13, 1), (14, 1), (15, 1), (16, 1), (17, 1), (18, 1), (19, 1), (20, 1), (21, 1), (22, 1), (23, 1), (24, 0), (25, 0), (26, 1), (27, 0), (28, 0), (29, 1)])] }
theorem huff_Lengths_eq (v0 v1 : Value) (Kp : PK) (K : Value → WP) : cevF Try.prog huff_Lengths_an Try.f105 [v0, v1] Kp K = huff_Lengths v0 v1 Kp K := by kernel_rfl
theorem huff_Lengths_calls {v0 v1 : Value} {Kp : PK} {K : Value → WP} {w : World} (h : huff_Lengths v0 v1 Kp K w) : Calls Try.prog 105 #[v0, v1] w (after Kp K) :=
 calls_of_shape (calls_of_cev wide Try.func105 (an := huff_Lengths_an) (args := [v0, v1]) (cast (congrFun (huff_Lengths_eq v0 v1 Kp K) w).symm h))
theorem huff_Lengths_cn {v0 v1 : Value} {W : World} {α : Type} {A : List HP} {r : α → Value} {B : α → List HP} (h : ∀ F, Ent W (A ++ F) (huff_Lengths v0 v1 noP fun v w => ∃ x, v = r x ∧ sat W (B x ++ F) w)) : Cn Try.prog 105 [v0, v1] W A r B :=
 Cn.of (shape := huff_Lengths v0 v1) Try.call105 (fun h => huff_Lengths_calls h) h
def deflate_upto (v0 v1 : Value) (Kp : PK) (K : Value → WP) : WP :=
  opN Try.prog (sLen #[119] 3 [v0]) Kp fun x7 =>
  loop1 (fun I1 m1 _ y5 =>
   opN Try.prog (sBin .gtr 3 y5 v1) Kp fun x10 =>
   gdK x10 true (fun k => k v0) fun x12 =>
   gdK x10 true (fun k => k y5) fun x13 =>
   gdK x10 true (opN Try.prog (sBin .sub 3 x13 (.int .i64 1)) Kp) fun x14 =>
   gdK x10 true (opN Try.prog (sIA 119 x12 x14) Kp) fun x15 =>
   gdK x10 true (opN Try.prog (sLoad 3 x15) Kp) fun x16 =>
   gdK x10 true (opN Try.prog (sEq .eql 3 (.tmp 16) (.const (.int .i64 0)) x16 (.int .i64 0)) Kp) fun x17 =>
   opN Try.prog (sPick x10 x17 (.bool false)) Kp fun x18 =>
   condS x18
   (opN Try.prog (sBin .sub 3 y5 (.int .i64 1)) Kp fun x20 =>
    next1 I1 m1 x20)
   (K y5)) x7
def deflate_upto_an : Ann := { cuts := [], blks := [], loops := [(2, [5])], drs := [] }
theorem deflate_upto_eq (v0 v1 : Value) (Kp : PK) (K : Value → WP) : cevF Try.prog deflate_upto_an Try.f106 [v0, v1] Kp K = deflate_upto v0 v1 Kp K := by kernel_rfl
theorem deflate_upto_calls {v0 v1 : Value} {Kp : PK} {K : Value → WP} {w : World} (h : deflate_upto v0 v1 Kp K w) : Calls Try.prog 106 #[v0, v1] w (after Kp K) :=
 calls_of_shape (calls_of_cev wide Try.func106 (an := deflate_upto_an) (args := [v0, v1]) (cast (congrFun (deflate_upto_eq v0 v1 Kp K) w).symm h))
theorem deflate_upto_cn {v0 v1 : Value} {W : World} {α : Type} {A : List HP} {r : α → Value} {B : α → List HP} (h : ∀ F, Ent W (A ++ F) (deflate_upto v0 v1 noP fun v w => ∃ x, v = r x ∧ sat W (B x ++ F) w)) : Cn Try.prog 106 [v0, v1] W A r B :=
 Cn.of (shape := deflate_upto v0 v1) Try.call106 (fun h => deflate_upto_calls h) h
def deflate_runs (v0 : Value) (Kp : PK) (K : Value → WP) : WP :=
 opN Try.prog (sBox 119 v0) Kp fun x1 =>
 opN Try.prog (sMkF (.func 131) [] [x1]) Kp fun x3 =>
 K x3
def deflate_runs_an : Ann := { cuts := [], blks := [], loops := [], drs := [] }
theorem deflate_runs_eq (v0 : Value) (Kp : PK) (K : Value → WP) : cevF Try.prog deflate_runs_an Try.f107 [v0] Kp K = deflate_runs v0 Kp K := by kernel_rfl
theorem deflate_runs_calls {v0 : Value} {Kp : PK} {K : Value → WP} {w : World} (h : deflate_runs v0 Kp K w) : Calls Try.prog 107 #[v0] w (after Kp K) :=
 calls_of_shape (calls_of_cev wide Try.func107 (an := deflate_runs_an) (args := [v0]) (cast (congrFun (deflate_runs_eq v0 Kp K) w).symm h))
theorem deflate_runs_cn {v0 : Value} {W : World} {α : Type} {A : List HP} {r : α → Value} {B : α → List HP} (h : ∀ F, Ent W (A ++ F) (deflate_runs v0 noP fun v w => ∃ x, v = r x ∧ sat W (B x ++ F) w)) : Cn Try.prog 107 [v0] W A r B :=
 Cn.of (shape := deflate_runs v0) Try.call107 (fun h => deflate_runs_calls h) h
def ref04_at (v0 v1 v2 v3 : Value) (Kp : PK) (K : Value → WP) : WP :=
  opN Try.prog (sAlloc 97) Kp fun x8 =>
  opN Try.prog (sIA 22 v0 v1) Kp fun x14 =>
  opN Try.prog (sLoad 5 x14) Kp fun x15 =>
  opN Try.prog (sBuild 97 [(2, x15)]) Kp fun x16 =>
  opN Try.prog (sAlloc 97) Kp fun x9 =>
  opN Try.prog (sStore 97 x9 x16) Kp fun _ =>
  opN Try.prog (sBin .sub 3 v1 (.int .i64 1)) Kp fun x18 =>
  loop2 (fun I1 m1 _ y3 y10 =>
   opN Try.prog (sBin .geq 3 y10 (.int .i64 0)) Kp fun x20 =>
   gdK x20 true (fun k => k v1) fun x22 =>
   gdK x20 true (fun k => k y10) fun x23 =>
   gdK x20 true (opN Try.prog (sBin .sub 3 x22 x23) Kp) fun x24 =>
   gdK x20 true (fun k => k v2) fun x25 =>
   gdK x20 true (opN Try.prog (sBin .leq 3 x24 x25) Kp) fun x26 =>
   opN Try.prog (sPick x20 x26 (.bool false)) Kp fun x27 =>
   gdK x27 true (fun k => k y3) fun x29 =>
   gdK x27 true (opN Try.prog (sBin .gtr 3 x29 (.int .i64 0)) Kp) fun x30 =>
   opN Try.prog (sPick x27 x30 (.bool false)) Kp fun x31 =>
   condS x31
   (opN Try.prog (sCall (fn 132) [v0, y10, v1]) Kp fun x37 =>
    opN Try.prog (sBin .lss 3 x37 (.int .i64 3)) Kp fun x39 =>
    condS x39
    (opN Try.prog (sBin .sub 3 y10 (.int .i64 1)) Kp fun x33 =>
     next2 I1 m1 y3 x33)
    (opN Try.prog (sBin .sub 3 y3 (.int .i64 1)) Kp fun x41 =>
     opN Try.prog (sFA 97 x9 0) Kp fun x43 =>
     opN Try.prog (sLoad 3 x43) Kp fun x44 =>
     opN Try.prog (sBin .gtr 3 x37 x44) Kp fun x45 =>
     condS x45
     (opN Try.prog (sBin .sub 3 v1 y10) Kp fun x49 =>
      opN Try.prog (sBuild 97 [(0, x37), (1, x49)]) Kp fun x50 =>
      opN Try.prog (sStore 97 x9 x50) Kp fun _ =>
      opN Try.prog (sBin .sub 3 y10 (.int .i64 1)) Kp fun x33 =>
      next2 I1 m1 x41 x33)
     (opN Try.prog (sBin .sub 3 y10 (.int .i64 1)) Kp fun x33 =>
      next2 I1 m1 x41 x33)))
   (opN Try.prog (sLoad 97 x9) Kp fun x51 =>
    opN Try.prog (sStore 97 x8 x51) Kp fun _ =>
    (stS Try.prog (sRes 97 x8) fun r0 => K r0))) v3 x18
def ref04_at_an : Ann := { cuts := [], blks := [], loops := [(3, [3, 10])], drs := [] }
theorem ref04_at_eq (v0 v1 v2 v3 : Value) (Kp : PK) (K : Value → WP) : cevF Try.prog ref04_at_an Try.f108 [v0, v1, v2, v3] Kp K = ref04_at v0 v1 v2 v3 Kp K := by kernel_rfl
theorem ref04_at_calls {v0 v1 v2 v3 : Value} {Kp : PK} {K : Value → WP} {w : World} (h : ref04_at v0 v1 v2 v3 Kp K w) : Calls Try.prog 108 #[v0, v1, v2, v3] w (after Kp K) :=
 calls_of_shape (calls_of_cev wide Try.func108 (an := ref04_at_an) (args := [v0, v1, v2, v3]) (cast (congrFun (ref04_at_eq v0 v1 v2 v3 Kp K) w).symm h))
theorem ref04_at_cn {v0 v1 v2 v3 : Value} {W : World} {α : Type} {A : List HP} {r : α → Value} {B : α → List HP} (h : ∀ F, Ent W (A ++ F) (ref04_at v0 v1 v2 v3 noP fun v w => ∃ x, v = r x ∧ sat W (B x ++ F) w)) : Cn Try.prog 108 [v0, v1, v2, v3] W A r B :=
 Cn.of (shape := ref04_at v0 v1 v2 v3) Try.call108 (fun h => ref04_at_calls h) h
def ref03_Codes (v0 : Value) (Kp : PK) (K : Value → WP) : WP :=
  opN Try.prog (sCall (fn 133) [v0]) Kp fun x13 =>
  opN Try.prog (sExt x13 0) Kp fun x14 =>
  opN Try.prog (sExt x13 1) Kp fun x15 =>
  opN Try.prog (sUn .not x15) Kp fun x17 =>
  condS x17
  (K (.tuple #[(.slice none 0 0), (.int .i64 30)]))
  (opN Try.prog (sLen #[119] 3 [v0]) Kp fun x19 =>
   opN Try.prog (sMkSl 119 x19 x19) Kp fun x20 =>
   loop3 (fun I1 m1 _ y7 y8 y9 =>
    opN Try.prog (sBin .leq 3 y9 (.int .i64 15)) Kp fun x22 =>
    condS x22
    (loop3 (fun I2 m2 _ y7 y8 y10 =>
      opN Try.prog (sLen #[119] 3 [v0]) Kp fun x27 =>
      opN Try.prog (sBin .lss 3 y10 x27) Kp fun x28 =>
      condS x28
      (opN Try.prog (sIA 119 v0 y10) Kp fun x33 =>
       opN Try.prog (sLoad 3 x33) Kp fun x34 =>
       opN Try.prog (sEq .neq 3 (.tmp 34) (.tmp 35) x34 y9) Kp fun x36 =>
       condS x36
       (opN Try.prog (sBin .add 3 y10 (.int .i64 1)) Kp fun x30 =>
        next3 I2 m2 y7 y8 x30)
       (cut1 (fun J1 =>
         opN Try.prog (sBin .gtr 3 y8 (.int .i64 0)) Kp fun x38 =>
         condS x38
         (opN Try.prog (sBin .add 3 y7 (.int .i64 1)) Kp fun x40 =>
          opN Try.prog (sBin .sub 3 y9 y8) Kp fun x43 =>
          opN Try.prog (sConv 3 87 x43) Kp fun x44 =>
          opN Try.prog (sBin .shl 3 x40 x44) Kp fun x45 =>
          J1 x45)
         (J1 y7)) fun _ z7 =>
        opN Try.prog (sIA 119 x20 y10) Kp fun x49 =>
        opN Try.prog (sStore 3 x49 z7) Kp fun _ =>
        opN Try.prog (sBin .add 3 y10 (.int .i64 1)) Kp fun x30 =>
        next3 I2 m2 z7 y9 x30))
      (opN Try.prog (sBin .add 3 y9 (.int .i64 1)) Kp fun x24 =>
       next3 I1 m1 y7 y8 x24)) y7 y8 (.int .i64 0))
    (K (.tuple #[x20, (.int .i64 0)]))) (.int .i64 0) (.int .i64 0) (.int .i64 1))
def ref03_Codes_an : Ann := { cuts := [(16, [7])], blks := [], loops := [(8, [7, 8, 9]), (11, [7, 8, 10])], drs := [] }
theorem ref03_Codes_eq (v0 : Value) (Kp : PK) (K : Value → WP) : cevF Try.prog ref03_Codes_an Try.f109 [v0] Kp K = ref03_Codes v0 Kp K := by kernel_rfl
theorem ref03_Codes_calls {v0 : Value} {Kp : PK} {K : Value → WP} {w : World} (h : ref03_Codes v0 Kp K w) : Calls Try.prog 109 #[v0] w (after Kp K) :=
 calls_of_shape (calls_of_cev wide Try.func109 (an := ref03_Codes_an) (args := [v0]) (cast (congrFun (ref03_Codes_eq v0 Kp K) w).symm h))
theorem ref03_Codes_cn {v0 : Value} {W : World} {α : Type} {A : List HP} {r : α → Value} {B : α → List HP} (h : ∀ F, Ent W (A ++ F) (ref03_Codes v0 noP fun v w => ∃ x, v = r x ∧ sat W (B x ++ F) w)) : Cn Try.prog 109 [v0] W A r B :=
 Cn.of (shape := ref03_Codes v0) Try.call109 (fun h => ref03_Codes_calls h) h
def ref03_Put (v0 v1 v2 v3 : Value) (Kp : PK) (K : Value → WP) : WP :=
  opN Try.prog (sBin .lss 3 v3 (.int .i64 0)) Kp fun x11 =>
  gdK x11 false (fun k => k v3) fun x13 =>
  gdK x11 false (fun k => k v1) fun x14 =>
  gdK x11 false (opN Try.prog (sLen #[119] 3 [x14]) Kp) fun x15 =>
  gdK x11 false (opN Try.prog (sBin .geq 3 x13 x15) Kp) fun x16 =>
  opN Try.prog (sPick x11 (.bool true) x16) Kp fun x17 =>
  gdK x17 false (fun k => k v3) fun x19 =>
  gdK x17 false (fun k => k v2) fun x20 =>
  gdK x17 false (opN Try.prog (sLen #[119] 3 [x20]) Kp) fun x21 =>
  gdK x17 false (opN Try.prog (sBin .geq 3 x19 x21) Kp) fun x22 =>
  opN Try.prog (sPick x17 (.bool true) x22) Kp fun x23 =>
  condS x23
  (K (.int .i64 1))
  (opN Try.prog (sIA 119 v2 v3) Kp fun x26 =>
   opN Try.prog (sLoad 3 x26) Kp fun x27 =>
   opN Try.prog (sBin .lss 3 x27 (.int .i64 1)) Kp fun x29 =>
   gdK x29 false (fun k => k x27) fun x31 =>
   gdK x29 false (opN Try.prog (sBin .gtr 3 x31 (.int .i64 15)) Kp) fun x32 =>
   opN Try.prog (sPick x29 (.bool true) x32) Kp fun x33 =>
   gdK x33 false (fun k => k v1) fun x35 =>
   gdK x33 false (fun k => k v3) fun x36 =>
   gdK x33 false (opN Try.prog (sIA 119 x35 x36) Kp) fun x37 =>
   gdK x33 false (opN Try.prog (sLoad 3 x37) Kp) fun x38 =>
   gdK x33 false (opN Try.prog (sBin .lss 3 x38 (.int .i64 0)) Kp) fun x39 =>
   opN Try.prog (sPick x33 (.bool true) x39) Kp fun x40 =>
   gdK x40 false (fun k => k v1) fun x42 =>
   gdK x40 false (fun k => k v3) fun x43 =>
   gdK x40 false (opN Try.prog (sIA 119 x42 x43) Kp) fun x44 =>
   gdK x40 false (opN Try.prog (sLoad 3 x44) Kp) fun x45 =>
   gdK x40 false (fun k => k x27) fun x46 =>
   gdK x40 false (opN Try.prog (sConv 3 87 x46) Kp) fun x47 =>
   gdK x40 false (opN Try.prog (sBin .shl 3 (.int .i64 1) x47) Kp) fun x48 =>
   gdK x40 false (opN Try.prog (sBin .geq 3 x45 x48) Kp) fun x49 =>
   opN Try.prog (sPick x40 (.bool true) x49) Kp fun x50 =>
   condS x50
   (K (.int .i64 1))
   (opN Try.prog (sIA 119 v1 v3) Kp fun x54 =>
    opN Try.prog (sLoad 3 x54) Kp fun x55 =>
    opN Try.prog (sCall (fn 134) [x55, x27]) Kp fun x57 =>
    opN Try.prog (sCall (fn 53) [v0, x57, x27]) Kp fun x59 =>
    K x59))
def ref03_Put_an : Ann := { cuts := [], blks := [], loops := [], drs := [] }
theorem ref03_Put_eq (v0 v1 v2 v3 : Value) (Kp : PK) (K : Value → WP) : cevF Try.prog ref03_Put_an Try.f110 [v0, v1, v2, v3] Kp K = ref03_Put v0 v1 v2 v3 Kp K := by kernel_rfl
theorem ref03_Put_calls {v0 v1 v2 v3 : Value} {Kp : PK} {K : Value → WP} {w : World} (h : ref03_Put v0 v1 v2 v3 Kp K w) : Calls Try.prog 110 #[v0, v1, v2, v3] w (after Kp K) :=
 calls_of_shape (calls_of_cev wide Try.func110 (an := ref03_Put_an) (args := [v0, v1, v2, v3]) (cast (congrFun (ref03_Put_eq v0 v1 v2 v3 Kp K) w).symm h))
theorem ref03_Put_cn {v0 v1 v2 v3 : Value} {W : World} {α : Type} {A : List HP} {r : α → Value} {B : α → List HP} (h : ∀ F, Ent W (A ++ F) (ref03_Put v0 v1 v2 v3 noP fun v w => ∃ x, v = r x ∧ sat W (B x ++ F) w)) : Cn Try.prog 110 [v0, v1, v2, v3] W A r B :=
 Cn.of (shape := ref03_Put v0 v1 v2 v3) Try.call110 (fun h => ref03_Put_calls h) h
def ref04_Length (v0 : Value) (Kp : PK) (K : Value → WP) : WP :=
  opN Try.prog (sBin .lss 3 v0 (.int .i64 3)) Kp fun x9 =>
  gdK x9 false (fun k => k v0) fun x11 =>
  gdK x9 false (opN Try.prog (sBin .gtr 3 x11 (.int .i64 258)) Kp) fun x12 =>
  opN Try.prog (sPick x9 (.bool true) x12) Kp fun x13 =>
  condS x13
  (K (.tuple #[(.int .i64 (-1)), (.int .i64 0), (.int .i64 0)]))
  (opN Try.prog (sCall (fn 135) [(.int .i64 285)]) Kp fun x16 =>
   opN Try.prog (sExt x16 0) Kp fun x17 =>
   opN Try.prog (sExt x16 1) Kp fun x18 =>
   loop3 (fun I1 m1 _ y5 y6 y7 =>
    opN Try.prog (sBin .gtr 3 y6 v0) Kp fun x21 =>
    condS x21
    (opN Try.prog (sBin .sub 3 y5 (.int .i64 1)) Kp fun x23 =>
     opN Try.prog (sCall (fn 135) [x23]) Kp fun x26 =>
     opN Try.prog (sExt x26 0) Kp fun x27 =>
     opN Try.prog (sExt x26 1) Kp fun x28 =>
     next3 I1 m1 x23 x27 x28)
    (opN Try.prog (sBin .sub 3 v0 y6) Kp fun x33 =>
     K (.tuple #[y5, y7, x33]))) (.int .i64 285) x17 x18)
def ref04_Length_an : Ann := { cuts := [], blks := [], loops := [(5, [5, 6, 7])], drs := [] }
theorem ref04_Length_eq (v0 : Value) (Kp : PK) (K : Value → WP) : cevF Try.prog ref04_Length_an Try.f111 [v0] Kp K = ref04_Length v0 Kp K := by kernel_rfl
theorem ref04_Length_calls {v0 : Value} {Kp : PK} {K : Value → WP} {w : World} (h : ref04_Length v0 Kp K w) : Calls Try.prog 111 #[v0] w (after Kp K) :=
 calls_of_shape (calls_of_cev wide Try.func111 (an := ref04_Length_an) (args := [v0]) (cast (congrFun (ref04_Length_eq v0 Kp K) w).symm h))
theorem ref04_Length_cn {v0 : Value} {W : World} {α : Type} {A : List HP} {r : α → Value} {B : α → List HP} (h : ∀ F, Ent W (A ++ F) (ref04_Length v0 noP fun v w => ∃ x, v = r x ∧ sat W (B x ++ F) w)) : Cn Try.prog 111 [v0] W A r B :=
 Cn.of (shape := ref04_Length v0) Try.call111 (fun h => ref04_Length_calls h) h
def ref04_Distance (v0 : Value) (Kp : PK) (K : Value → WP) : WP :=
  opN Try.prog (sBin .lss 3 v0 (.int .i64 1)) Kp fun x9 =>
  gdK x9 false (fun k => k v0) fun x11 =>
  gdK x9 false (opN Try.prog (sBin .gtr 3 x11 (.int .i64 32768)) Kp) fun x12 =>
  opN Try.prog (sPick x9 (.bool true) x12) Kp fun x13 =>
  condS x13
  (K (.tuple #[(.int .i64 (-1)), (.int .i64 0), (.int .i64 0)]))
  (opN Try.prog (sCall (fn 136) [(.int .i64 29)]) Kp fun x16 =>
   opN Try.prog (sExt x16 0) Kp fun x17 =>
   opN Try.prog (sExt x16 1) Kp fun x18 =>
   loop3 (fun I1 m1 _ y5 y6 y7 =>
    opN Try.prog (sBin .gtr 3 y6 v0) Kp fun x21 =>
    condS x21
    (opN Try.prog (sBin .sub 3 y5 (.int .i64 1)) Kp fun x23 =>
     opN Try.prog (sCall (fn 136) [x23]) Kp fun x26 =>
     opN Try.prog (sExt x26 0) Kp fun x27 =>
     opN Try.prog (sExt x26 1) Kp fun x28 =>
     next3 I1 m1 x23 x27 x28)
    (opN Try.prog (sBin .sub 3 v0 y6) Kp fun x33 =>
     K (.tuple #[y5, y7, x33]))) (.int .i64 29) x17 x18)
def ref04_Distance_an : Ann := { cuts := [], blks := [], loops := [(5, [5, 6, 7])], drs := [] }
theorem ref04_Distance_eq (v0 : Value) (Kp : PK) (K : Value → WP) : cevF Try.prog ref04_Distance_an Try.f112 [v0] Kp K = ref04_Distance v0 Kp K := by kernel_rfl
theorem ref04_Distance_calls {v0 : Value} {Kp : PK} {K : Value → WP} {w : World} (h : ref04_Distance v0 Kp K w) : Calls Try.prog 112 #[v0] w (after Kp K) :=
 calls_of_shape (calls_of_cev wide Try.func112 (an := ref04_Distance_an) (args := [v0]) (cast (congrFun (ref04_Distance_eq v0 Kp K) w).symm h))
theorem ref04_Distance_cn {v0 : Value} {W : World} {α : Type} {A : List HP} {r : α → Value} {B : α → List HP} (h : ∀ F, Ent W (A ++ F) (ref04_Distance v0 noP fun v w => ∃ x, v = r x ∧ sat W (B x ++ F) w)) : Cn Try.prog 112 [v0] W A r B :=
 Cn.of (shape := ref04_Distance v0) Try.call112 (fun h => ref04_Distance_calls h) h
def ref03_Lengths (v0 v1 : Value) (Kp : PK) (K : Value → WP) : WP :=
  opN Try.prog (sLen #[119] 3 [v0]) Kp fun x17 =>
  opN Try.prog (sBin .gtr 3 x17 (.int .i64 320)) Kp fun x18 =>
  gdK x18 false (fun k => k v1) fun x20 =>
  gdK x18 false (opN Try.prog (sBin .lss 3 x20 (.int .i64 1)) Kp) fun x21 =>
  opN Try.prog (sPick x18 (.bool true) x21) Kp fun x22 =>
  gdK x22 false (fun k => k v1) fun x24 =>
  gdK x22 false (opN Try.prog (sBin .gtr 3 x24 (.int .i64 15)) Kp) fun x25 =>
  opN Try.prog (sPick x22 (.bool true) x25) Kp fun x26 =>
  condS x26
  (K (.tuple #[(.slice none 0 0), (.int .i64 1)]))
  (loop2 (fun I1 m1 _ y6 y7 =>
    opN Try.prog (sLen #[119] 3 [v0]) Kp fun x29 =>
    opN Try.prog (sBin .lss 3 y7 x29) Kp fun x30 =>
    condS x30
    (opN Try.prog (sIA 119 v0 y7) Kp fun x35 =>
     opN Try.prog (sLoad 3 x35) Kp fun x36 =>
     opN Try.prog (sBin .lss 3 x36 (.int .i64 0)) Kp fun x37 =>
     gdK x37 false (fun k => k v0) fun x39 =>
     gdK x37 false (fun k => k y7) fun x40 =>
     gdK x37 false (opN Try.prog (sIA 119 x39 x40) Kp) fun x41 =>
     gdK x37 false (opN Try.prog (sLoad 3 x41) Kp) fun x42 =>
     gdK x37 false (opN Try.prog (sBin .gtr 3 x42 (.int .i64 1099511627776)) Kp) fun x43 =>
     opN Try.prog (sPick x37 (.bool true) x43) Kp fun x44 =>
     condS x44
     (K (.tuple #[(.slice none 0 0), (.int .i64 1)]))
     (opN Try.prog (sIA 119 v0 y7) Kp fun x47 =>
      opN Try.prog (sLoad 3 x47) Kp fun x48 =>
      opN Try.prog (sBin .gtr 3 x48 (.int .i64 0)) Kp fun x49 =>
      condS x49
      (opN Try.prog (sBin .add 3 y6 (.int .i64 1)) Kp fun x51 =>
       opN Try.prog (sBin .add 3 y7 (.int .i64 1)) Kp fun x32 =>
       next2 I1 m1 x51 x32)
      (opN Try.prog (sBin .add 3 y7 (.int .i64 1)) Kp fun x32 =>
       next2 I1 m1 y6 x32)))
    (opN Try.prog (sConv 3 87 v1) Kp fun x54 =>
     opN Try.prog (sBin .shl 3 (.int .i64 1) x54) Kp fun x55 =>
     opN Try.prog (sBin .gtr 3 y6 x55) Kp fun x56 =>
     condS x56
     (K (.tuple #[(.slice none 0 0), (.int .i64 1)]))
     (opN Try.prog (sLen #[119] 3 [v0]) Kp fun x58 =>
      opN Try.prog (sMkSl 119 x58 x58) Kp fun x59 =>
      opN Try.prog (sCall (fn 137) [v0]) Kp fun x61 =>
      opN Try.prog (sEq .eql 3 (.tmp 62) (.const (.int .i64 1)) y6 (.int .i64 1)) Kp fun x63 =>
      condS x63
      (opN Try.prog (sIA 202 x61 (.int .i64 0)) Kp fun x66 =>
       opN Try.prog (sFA 205 x66 1) Kp fun x67 =>
       opN Try.prog (sLoad 119 x67) Kp fun x68 =>
       opN Try.prog (sIA 119 x68 (.int .i64 0)) Kp fun x69 =>
       opN Try.prog (sLoad 3 x69) Kp fun x70 =>
       opN Try.prog (sIA 119 x59 x70) Kp fun x71 =>
       opN Try.prog (sStore 3 x71 (.int .i64 1)) Kp fun _ =>
       K (.tuple #[x59, (.int .i64 0)]))
      (loop2 (fun I2 m2 _ y10 y11 =>
        opN Try.prog (sBin .lss 3 y11 v1) Kp fun x76 =>
        condS x76
        (loop2 (fun I3 m3 _ y12 y13 =>
          opN Try.prog (sBin .add 3 y13 (.int .i64 1)) Kp fun x80 =>
          opN Try.prog (sLen #[202] 3 [y10]) Kp fun x82 =>
          opN Try.prog (sBin .lss 3 x80 x82) Kp fun x83 =>
          condS x83
          (drS (stD Try.prog (sIA 202 y10 y13) fun D3 x89 =>
            stD Try.prog (sFA 205 x89 0) fun D4 x90 =>
            stD Try.prog (sLoad 3 x90) fun D5 x91 =>
            stD Try.prog (sBin .add 3 y13 (.int .i64 1)) fun D8 x94 =>
            stD Try.prog (sIA 202 y10 x94) fun D9 x95 =>
            stD Try.prog (sFA 205 x95 0) fun D10 x96 =>
            stD Try.prog (sLoad 3 x96) fun D11 x97 =>
            stD Try.prog (sBin .add 3 x91 x97) fun D12 x98 =>
            stD Try.prog (sIA 202 y10 y13) fun D16 x102 =>
            stD Try.prog (sFA 205 x102 1) fun D17 x103 =>
            stD Try.prog (sLoad 119 x103) fun D18 x104 =>
            stD Try.prog (sBin .add 3 y13 (.int .i64 1)) fun D22 x108 =>
            stD Try.prog (sIA 202 y10 x108) fun D23 x109 =>
            stD Try.prog (sFA 205 x109 1) fun D24 x110 =>
            stD Try.prog (sLoad 119 x110) fun D25 x111 =>
            opN Try.prog (sBuildSl 119 0 []) Kp fun x99 =>
            (fun w => D25 w ∧ (fun w => D24 w ∧ (fun w => D23 w ∧ (fun w => D22 w ∧ (fun w => D18 w ∧ (fun w => D17 w ∧ (fun w => D16 w ∧ (fun w => D12 w ∧ (fun w => D11 w ∧ (fun w => D10 w ∧ (fun w => D9 w ∧ (fun w => D8 w ∧ (fun w => D5 w ∧ (fun w => D4 w ∧ (fun w => D3 w ∧ (opN Try.prog (sApp #[119, 119] 119 [x99, x104]) Kp fun x105 =>
                      (fun w => D25 w ∧ (fun w => D24 w ∧ (fun w => D23 w ∧ (fun w => D22 w ∧ (fun w => D12 w ∧ (fun w => D11 w ∧ (fun w => D10 w ∧ (fun w => D9 w ∧ (fun w => D8 w ∧ (fun w => D5 w ∧ (fun w => D4 w ∧ (fun w => D3 w ∧ (opN Try.prog (sApp #[119, 119] 119 [x105, x111]) Kp fun x112 =>
                      (fun w => D12 w ∧ (fun w => D11 w ∧ (fun w => D10 w ∧ (fun w => D9 w ∧ (fun w => D8 w ∧ (fun w => D5 w ∧ (fun w => D4 w ∧ (fun w => D3 w ∧ (stS Try.prog (sBuild 205 [(0, x98), (1, x112)]) fun x113 =>
                      opN Try.prog (sBuildSl 202 1 [(0, x113)]) Kp fun x114 =>
                      opN Try.prog (sApp #[202, 202] 202 [y12, x114]) Kp fun x115 =>
                      opN Try.prog (sBin .add 3 y13 (.int .i64 2)) Kp fun x85 =>
                      next2 I3 m3 x115 x85) w) w) w) w) w) w) w) w)) w) w) w) w) w) w) w) w) w) w) w) w)) w) w) w) w) w) w) w) w) w) w) w) w) w) w) w)))
          (opN Try.prog (sCall (fn 138) [x61, y12]) Kp fun x118 =>
           opN Try.prog (sBin .add 3 y11 (.int .i64 1)) Kp fun x78 =>
           next2 I2 m2 x118 x78)) (.slice none 0 0) (.int .i64 0))
        (loop1 (fun I4 m4 _ y14 =>
          opN Try.prog (sBin .mul 3 (.int .i64 2) y6) Kp fun x121 =>
          opN Try.prog (sBin .sub 3 x121 (.int .i64 2)) Kp fun x122 =>
          opN Try.prog (sBin .lss 3 y14 x122) Kp fun x123 =>
          condS x123
          (loop1 (fun I5 m5 _ y15 =>
            opN Try.prog (sIA 202 y10 y14) Kp fun x129 =>
            opN Try.prog (sFA 205 x129 1) Kp fun x130 =>
            opN Try.prog (sLoad 119 x130) Kp fun x131 =>
            opN Try.prog (sLen #[119] 3 [x131]) Kp fun x132 =>
            opN Try.prog (sBin .lss 3 y15 x132) Kp fun x133 =>
            condS x133
            (opN Try.prog (sIA 202 y10 y14) Kp fun x139 =>
             opN Try.prog (sFA 205 x139 1) Kp fun x140 =>
             opN Try.prog (sLoad 119 x140) Kp fun x141 =>
             opN Try.prog (sIA 119 x141 y15) Kp fun x143 =>
             opN Try.prog (sLoad 3 x143) Kp fun x144 =>
             opN Try.prog (sIA 119 x59 x144) Kp fun x145 =>
             opN Try.prog (sLoad 3 x145) Kp fun x146 =>
             opN Try.prog (sBin .add 3 x146 (.int .i64 1)) Kp fun x147 =>
             opN Try.prog (sIA 119 x59 x144) Kp fun x148 =>
             opN Try.prog (sStore 3 x148 x147) Kp fun _ =>
             opN Try.prog (sBin .add 3 y15 (.int .i64 1)) Kp fun x135 =>
             next1 I5 m5 x135)
            (opN Try.prog (sBin .add 3 y14 (.int .i64 1)) Kp fun x125 =>
             next1 I4 m4 x125)) (.int .i64 0))
          (K (.tuple #[x59, (.int .i64 0)]))) (.int .i64 0))) x61 (.int .i64 1))))) (.int .i64 0) (.int .i64 0))
def ref03_Lengths_an : Ann := { cuts := [], blks := [], loops := [(5, [6, 7]), (20, [10, 11]), (24, [12, 13]), (29, [14]), (32, [15])], drs := [(26, .ofL [(0, 2), (1, 2), (2, 2), (3, 3), (4, 3), (5, 3), (6, 2), (7, 2), (8, 3), (9, 3), (10, 3), (11, 3), (12, 3), (14, 2), (15, 2), (16, 3), (17, 3), (18, 3), (20, 2), (21, 2), (22, 3), (23, 3), (24, 3), (25, 3), (13, 0), (19, 0), (26, 0), (27, 1), (28, 0), (29, 0), (30, 1)])] }
theorem ref03_Lengths_eq (v0 v1 : Value) (Kp : PK) (K : Value → WP) : cevF Try.prog ref03_Lengths_an Try.f113 [v0, v1] Kp K = ref03_Lengths v0 v1 Kp K := by kernel_rfl
theorem ref03_Lengths_calls {v0 v1 : Value} {Kp : PK} {K : Value → WP} {w : World} (h : ref03_Lengths v0 v1 Kp K w) : Calls Try.prog 113 #[v0, v1] w (after Kp K) :=
 calls_of_shape (calls_of_cev wide Try.func113 (an := ref03_Lengths_an) (args := [v0, v1]) (cast (congrFun (ref03_Lengths_eq v0 v1 Kp K) w).symm h))
theorem ref03_Lengths_cn {v0 v1 : Value} {W : World} {α : Type} {A : List HP} {r : α → Value} {B : α → List HP} (h : ∀ F, Ent W (A ++ F) (ref03_Lengths v0 v1 noP fun v w => ∃ x, v = r x ∧ sat W (B x ++ F) w)) : Cn Try.prog 113 [v0, v1] W A r B :=
 Cn.of (shape := ref03_Lengths v0 v1) Try.call113 (fun h => ref03_Lengths_calls h) h
def ref06_upto (v0 v1 : Value) (Kp : PK) (K : Value → WP) : WP :=
  loop2 (fun I1 m1 _ y5 y6 =>
   opN Try.prog (sLen #[119] 3 [v0]) Kp fun x10 =>
   opN Try.prog (sBin .lss 3 y6 x10) Kp fun x11 =>
   condS x11
   (opN Try.prog (sIA 119 v0 y6) Kp fun x16 =>
    opN Try.prog (sLoad 3 x16) Kp fun x17 =>
    opN Try.prog (sEq .neq 3 (.tmp 17) (.const (.int .i64 0)) x17 (.int .i64 0)) Kp fun x18 =>
    condS x18
    (opN Try.prog (sBin .add 3 y6 (.int .i64 1)) Kp fun x21 =>
     opN Try.prog (sMax #[3, 3] 3 [y5, x21]) Kp fun x22 =>
     opN Try.prog (sBin .add 3 y6 (.int .i64 1)) Kp fun x13 =>
     next2 I1 m1 x22 x13)
    (opN Try.prog (sBin .add 3 y6 (.int .i64 1)) Kp fun x13 =>
     next2 I1 m1 y5 x13))
   (K y5)) v1 (.int .i64 0)
def ref06_upto_an : Ann := { cuts := [], blks := [], loops := [(3, [5, 6])], drs := [] }
theorem ref06_upto_eq (v0 v1 : Value) (Kp : PK) (K : Value → WP) : cevF Try.prog ref06_upto_an Try.f114 [v0, v1] Kp K = ref06_upto v0 v1 Kp K := by kernel_rfl
theorem ref06_upto_calls {v0 v1 : Value} {Kp : PK} {K : Value → WP} {w : World} (h : ref06_upto v0 v1 Kp K w) : Calls Try.prog 114 #[v0, v1] w (after Kp K) :=
 calls_of_shape (calls_of_cev wide Try.func114 (an := ref06_upto_an) (args := [v0, v1]) (cast (congrFun (ref06_upto_eq v0 v1 Kp K) w).symm h))
theorem ref06_upto_cn {v0 v1 : Value} {W : World} {α : Type} {A : List HP} {r : α → Value} {B : α → List HP} (h : ∀ F, Ent W (A ++ F) (ref06_upto v0 v1 noP fun v w => ∃ x, v = r x ∧ sat W (B x ++ F) w)) : Cn Try.prog 114 [v0, v1] W A r B :=
 Cn.of (shape := ref06_upto v0 v1) Try.call114 (fun h => ref06_upto_calls h) h
def ref06_runs (v0 : Value) (Kp : PK) (K : Value → WP) : WP :=
  loop2 (fun I1 m1 _ y3 y4 =>
   opN Try.prog (sLen #[119] 3 [v0]) Kp fun x9 =>
   opN Try.prog (sBin .lss 3 y4 x9) Kp fun x10 =>
   condS x10
   (opN Try.prog (sIA 119 v0 y4) Kp fun x13 =>
    opN Try.prog (sLoad 3 x13) Kp fun x14 =>
    loop1 (fun I2 m2 _ y6 =>
     opN Try.prog (sBin .add 3 y4 y6) Kp fun x17 =>
     opN Try.prog (sLen #[119] 3 [v0]) Kp fun x19 =>
     opN Try.prog (sBin .lss 3 x17 x19) Kp fun x20 =>
     gdK x20 true (fun k => k v0) fun x22 =>
     gdK x20 true (fun k => k y4) fun x23 =>
     gdK x20 true (fun k => k y6) fun x24 =>
     gdK x20 true (opN Try.prog (sBin .add 3 x23 x24) Kp) fun x25 =>
     gdK x20 true (opN Try.prog (sIA 119 x22 x25) Kp) fun x26 =>
     gdK x20 true (opN Try.prog (sLoad 3 x26) Kp) fun x27 =>
     gdK x20 true (fun k => k x14) fun x28 =>
     gdK x20 true (opN Try.prog (sEq .eql 3 (.tmp 27) (.tmp 28) x27 x28) Kp) fun x29 =>
     opN Try.prog (sPick x20 x29 (.bool false)) Kp fun x30 =>
     condS x30
     (opN Try.prog (sBin .add 3 y6 (.int .i64 1)) Kp fun x32 =>
      next1 I2 m2 x32)
     (opN Try.prog (sEq .eql 3 (.tmp 39) (.const (.int .i64 0)) x14 (.int .i64 0)) Kp fun x40 =>
      gdK x40 true (fun k => k y6) fun x42 =>
      gdK x40 true (opN Try.prog (sBin .geq 3 x42 (.int .i64 11)) Kp) fun x43 =>
      opN Try.prog (sPick x40 x43 (.bool false)) Kp fun x44 =>
      condS x44
      (opN Try.prog (sMin #[3, 3] 3 [y6, (.int .i64 138)]) Kp fun x46 =>
       opN Try.prog (sBin .sub 3 x46 (.int .i64 11)) Kp fun x49 =>
       opN Try.prog (sBuild 179 [(0, (.int .i64 18)), (1, (.int .i64 7)), (2, x49)]) Kp fun x50 =>
       opN Try.prog (sBuildSl 176 1 [(0, x50)]) Kp fun x51 =>
       opN Try.prog (sApp #[176, 176] 176 [y3, x51]) Kp fun x52 =>
       opN Try.prog (sBin .add 3 y4 x46) Kp fun x96 =>
       next2 I1 m1 x52 x96)
      (opN Try.prog (sEq .eql 3 (.tmp 54) (.const (.int .i64 0)) x14 (.int .i64 0)) Kp fun x55 =>
       gdK x55 true (fun k => k y6) fun x57 =>
       gdK x55 true (opN Try.prog (sBin .geq 3 x57 (.int .i64 3)) Kp) fun x58 =>
       opN Try.prog (sPick x55 x58 (.bool false)) Kp fun x59 =>
       condS x59
       (opN Try.prog (sBin .sub 3 y6 (.int .i64 3)) Kp fun x62 =>
        opN Try.prog (sBuild 179 [(0, (.int .i64 17)), (1, (.int .i64 3)), (2, x62)]) Kp fun x63 =>
        opN Try.prog (sBuildSl 176 1 [(0, x63)]) Kp fun x64 =>
        opN Try.prog (sApp #[176, 176] 176 [y3, x64]) Kp fun x65 =>
        opN Try.prog (sBin .add 3 y4 y6) Kp fun x96 =>
        next2 I1 m1 x65 x96)
       (opN Try.prog (sEq .neq 3 (.tmp 67) (.const (.int .i64 0)) x14 (.int .i64 0)) Kp fun x68 =>
        gdK x68 true (fun k => k y4) fun x70 =>
        gdK x68 true (opN Try.prog (sBin .gtr 3 x70 (.int .i64 0)) Kp) fun x71 =>
        opN Try.prog (sPick x68 x71 (.bool false)) Kp fun x72 =>
        gdK x72 true (fun k => k v0) fun x74 =>
        gdK x72 true (fun k => k y4) fun x75 =>
        gdK x72 true (opN Try.prog (sBin .sub 3 x75 (.int .i64 1)) Kp) fun x76 =>
        gdK x72 true (opN Try.prog (sIA 119 x74 x76) Kp) fun x77 =>
        gdK x72 true (opN Try.prog (sLoad 3 x77) Kp) fun x78 =>
        gdK x72 true (fun k => k x14) fun x79 =>
        gdK x72 true (opN Try.prog (sEq .eql 3 (.tmp 78) (.tmp 79) x78 x79) Kp) fun x80 =>
        opN Try.prog (sPick x72 x80 (.bool false)) Kp fun x81 =>
        gdK x81 true (fun k => k y6) fun x83 =>
        gdK x81 true (opN Try.prog (sBin .geq 3 x83 (.int .i64 3)) Kp) fun x84 =>
        opN Try.prog (sPick x81 x84 (.bool false)) Kp fun x85 =>
        condS x85
        (opN Try.prog (sMin #[3, 3] 3 [y6, (.int .i64 6)]) Kp fun x87 =>
         opN Try.prog (sBin .sub 3 x87 (.int .i64 3)) Kp fun x90 =>
         opN Try.prog (sBuild 179 [(0, (.int .i64 16)), (1, (.int .i64 2)), (2, x90)]) Kp fun x91 =>
         opN Try.prog (sBuildSl 176 1 [(0, x91)]) Kp fun x92 =>
         opN Try.prog (sApp #[176, 176] 176 [y3, x92]) Kp fun x93 =>
         opN Try.prog (sBin .add 3 y4 x87) Kp fun x96 =>
         next2 I1 m1 x93 x96)
        (opN Try.prog (sBuild 179 [(0, x14), (1, (.int .i64 0)), (2, (.int .i64 0))]) Kp fun x35 =>
         opN Try.prog (sBuildSl 176 1 [(0, x35)]) Kp fun x36 =>
         opN Try.prog (sApp #[176, 176] 176 [y3, x36]) Kp fun x37 =>
         opN Try.prog (sBin .add 3 y4 (.int .i64 1)) Kp fun x96 =>
         next2 I1 m1 x37 x96))))) (.int .i64 1))
   (K y3)) (.slice none 0 0) (.int .i64 0)
def ref06_runs_an : Ann := { cuts := [], blks := [], loops := [(3, [3, 4]), (6, [6])], drs := [] }
theorem ref06_runs_eq (v0 : Value) (Kp : PK) (K : Value → WP) : cevF Try.prog ref06_runs_an Try.f115 [v0] Kp K = ref06_runs v0 Kp K := by kernel_rfl
theorem ref06_runs_calls {v0 : Value} {Kp : PK} {K : Value → WP} {w : World} (h : ref06_runs v0 Kp K w) : Calls Try.prog 115 #[v0] w (after Kp K) :=
 calls_of_shape (calls_of_cev wide Try.func115 (an := ref06_runs_an) (args := [v0]) (cast (congrFun (ref06_runs_eq v0 Kp K) w).symm h))
theorem ref06_runs_cn {v0 : Value} {W : World} {α : Type} {A : List HP} {r : α → Value} {B : α → List HP} (h : ∀ F, Ent W (A ++ F) (ref06_runs v0 noP fun v w => ∃ x, v = r x ∧ sat W (B x ++ F) w)) : Cn Try.prog 115 [v0] W A r B :=
 Cn.of (shape := ref06_runs v0) Try.call115 (fun h => ref06_runs_calls h) h
def ref06_order (Kp : PK) (K : Value → WP) : WP :=
 opN Try.prog (sBuildSl 119 19 [(0, (.int .i64 16)), (1, (.int .i64 17)), (2, (.int .i64 18)), (3, (.int .i64 0)), (4, (.int .i64 8)), (5, (.int .i64 7)), (6, (.int .i64 9)), (7, (.int .i64 6)), (8, (.int .i64 10)), (9, (.int .i64 5)), (10, (.int .i64 11)), (11, (.int .i64 4)), (12, (.int .i64 12)), (13, (.int .i64 3)), (14, (.int .i64 13)), (15, (.int .i64 2)), (16, (.int .i64 14)), (17, (.int .i64 1)), (18, (.int .i64 15))]) Kp fun x1 =>
 K x1
def ref06_order_an : Ann := { cuts := [], blks := [], loops := [], drs := [] }
theorem ref06_order_eq (Kp : PK) (K : Value → WP) : cevF Try.prog ref06_order_an Try.f116 [] Kp K = ref06_order Kp K := by kernel_rfl
theorem ref06_order_calls  {Kp : PK} {K : Value → WP} {w : World} (h : ref06_order Kp K w) : Calls Try.prog 116 #[] w (after Kp K) :=
 calls_of_shape (calls_of_cev wide Try.func116 (an := ref06_order_an) (args := []) (cast (congrFun (ref06_order_eq Kp K) w).symm h))
theorem ref06_order_cn  {W : World} {α : Type} {A : List HP} {r : α → Value} {B : α → List HP} (h : ∀ F, Ent W (A ++ F) (ref06_order noP fun v w => ∃ x, v = r x ∧ sat W (B x ++ F) w)) : Cn Try.prog 116 [] W A r B :=
 Cn.of (shape := ref06_order) Try.call116 (fun h => ref06_order_calls h) h
def lz_BaseLength (v0 : Value) (Kp : PK) (K : Value → WP) : WP :=
  opN Try.prog (sBin .sub 3 v0 (.int .i64 257)) Kp fun x6 =>
  opN Try.prog (sBin .lss 3 x6 (.int .i64 0)) Kp fun x20 =>
  gdK x20 false (fun k => k x6) fun x22 =>
  gdK x20 false (opN Try.prog (sBin .gtr 3 x22 (.int .i64 28)) Kp) fun x23 =>
  opN Try.prog (sPick x20 (.bool true) x23) Kp fun x24 =>
  condS x24
  (K (.tuple #[(.int .i64 0), (.int .i64 0)]))
  (opN Try.prog (sEq .eql 3 (.tmp 26) (.const (.int .i64 28)) x6 (.int .i64 28)) Kp fun x27 =>
   condS x27
   (K (.tuple #[(.int .i64 258), (.int .i64 0)]))
   (opN Try.prog (sBin .lss 3 x6 (.int .i64 8)) Kp fun x30 =>
    condS x30
    (opN Try.prog (sBin .add 3 x6 (.int .i64 3)) Kp fun x32 =>
     K (.tuple #[x32, (.int .i64 0)]))
    (opN Try.prog (sBin .quo 3 x6 (.int .i64 4)) Kp fun x8 =>
     opN Try.prog (sBin .sub 3 x8 (.int .i64 1)) Kp fun x9 =>
     opN Try.prog (sBin .rem 3 x6 (.int .i64 4)) Kp fun x11 =>
     opN Try.prog (sBin .add 3 (.int .i64 4) x11) Kp fun x12 =>
     opN Try.prog (sConv 3 87 x9) Kp fun x14 =>
     opN Try.prog (sBin .shl 3 x12 x14) Kp fun x15 =>
     opN Try.prog (sBin .add 3 (.int .i64 3) x15) Kp fun x16 =>
     K (.tuple #[x16, x9]))))
def lz_BaseLength_an : Ann := { cuts := [], blks := [], loops := [], drs := [] }
theorem lz_BaseLength_eq (v0 : Value) (Kp : PK) (K : Value → WP) : cevF Try.prog lz_BaseLength_an Try.f118 [v0] Kp K = lz_BaseLength v0 Kp K := by kernel_rfl
theorem lz_BaseLength_calls {v0 : Value} {Kp : PK} {K : Value → WP} {w : World} (h : lz_BaseLength v0 Kp K w) : Calls Try.prog 118 #[v0] w (after Kp K) :=
 calls_of_shape (calls_of_cev wide Try.func118 (an := lz_BaseLength_an) (args := [v0]) (cast (congrFun (lz_BaseLength_eq v0 Kp K) w).symm h))
theorem lz_BaseLength_cn {v0 : Value} {W : World} {α : Type} {A : List HP} {r : α → Value} {B : α → List HP} (h : ∀ F, Ent W (A ++ F) (lz_BaseLength v0 noP fun v w => ∃ x, v = r x ∧ sat W (B x ++ F) w)) : Cn Try.prog 118 [v0] W A r B :=
 Cn.of (shape := lz_BaseLength v0) Try.call118 (fun h => lz_BaseLength_calls h) h
def lz_BaseDistance (v0 : Value) (Kp : PK) (K : Value → WP) : WP :=
  opN Try.prog (sBin .lss 3 v0 (.int .i64 0)) Kp fun x6 =>
  gdK x6 false (fun k => k v0) fun x8 =>
  gdK x6 false (opN Try.prog (sBin .gtr 3 x8 (.int .i64 29)) Kp) fun x9 =>
  opN Try.prog (sPick x6 (.bool true) x9) Kp fun x10 =>
  condS x10
  (K (.tuple #[(.int .i64 0), (.int .i64 0)]))
  (opN Try.prog (sBin .lss 3 v0 (.int .i64 4)) Kp fun x13 =>
   condS x13
   (opN Try.prog (sBin .add 3 v0 (.int .i64 1)) Kp fun x15 =>
    K (.tuple #[x15, (.int .i64 0)]))
   (opN Try.prog (sBin .quo 3 v0 (.int .i64 2)) Kp fun x17 =>
    opN Try.prog (sBin .sub 3 x17 (.int .i64 1)) Kp fun x18 =>
    opN Try.prog (sBin .rem 3 v0 (.int .i64 2)) Kp fun x20 =>
    opN Try.prog (sBin .add 3 (.int .i64 2) x20) Kp fun x21 =>
    opN Try.prog (sConv 3 87 x18) Kp fun x23 =>
    opN Try.prog (sBin .shl 3 x21 x23) Kp fun x24 =>
    opN Try.prog (sBin .add 3 (.int .i64 1) x24) Kp fun x25 =>
    K (.tuple #[x25, x18])))
def lz_BaseDistance_an : Ann := { cuts := [], blks := [], loops := [], drs := [] }
theorem lz_BaseDistance_eq (v0 : Value) (Kp : PK) (K : Value → WP) : cevF Try.prog lz_BaseDistance_an Try.f119 [v0] Kp K = lz_BaseDistance v0 Kp K := by kernel_rfl
theorem lz_BaseDistance_calls {v0 : Value} {Kp : PK} {K : Value → WP} {w : World} (h : lz_BaseDistance v0 Kp K w) : Calls Try.prog 119 #[v0] w (after Kp K) :=
 calls_of_shape (calls_of_cev wide Try.func119 (an := lz_BaseDistance_an) (args := [v0]) (cast (congrFun (lz_BaseDistance_eq v0 Kp K) w).symm h))
theorem lz_BaseDistance_cn {v0 : Value} {W : World} {α : Type} {A : List HP} {r : α → Value} {B : α → List HP} (h : ∀ F, Ent W (A ++ F) (lz_BaseDistance v0 noP fun v w => ∃ x, v = r x ∧ sat W (B x ++ F) w)) : Cn Try.prog 119 [v0] W A r B :=
 Cn.of (shape := lz_BaseDistance v0) Try.call119 (fun h => lz_BaseDistance_calls h) h
def huff_counts (v0 : Value) (Kp : PK) (K : Value → WP) : WP :=
  opN Try.prog (sAlloc 186) Kp fun x2 =>
  opN Try.prog (sLen #[119] 3 [v0]) Kp fun x10 =>
  opN Try.prog (sBin .gtr 3 x10 (.int .i64 320)) Kp fun x11 =>
  condS x11
  (opN Try.prog (sLoad 186 x2) Kp fun x12 =>
   opN Try.prog (sStore 186 x2 x12) Kp fun _ =>
   (stS Try.prog (sRes 186 x2) fun r0 => K (.tuple #[r0, (.bool false)])))
  (opN Try.prog (sLen #[119] 3 [v0]) Kp fun x14 =>
   loop1 (fun I1 m1 _ y15 =>
    opN Try.prog (sBin .lss 3 y15 x14) Kp fun x16 =>
    condS x16
    (opN Try.prog (sIA 119 v0 y15) Kp fun x17 =>
     opN Try.prog (sLoad 3 x17) Kp fun x18 =>
     opN Try.prog (sBin .lss 3 x18 (.int .i64 0)) Kp fun x20 =>
     gdK x20 false (fun k => k x18) fun x22 =>
     gdK x20 false (opN Try.prog (sBin .gtr 3 x22 (.int .i64 15)) Kp) fun x23 =>
     opN Try.prog (sPick x20 (.bool true) x23) Kp fun x24 =>
     condS x24
     (opN Try.prog (sLoad 186 x2) Kp fun x25 =>
      opN Try.prog (sStore 186 x2 x25) Kp fun _ =>
      (stS Try.prog (sRes 186 x2) fun r0 => K (.tuple #[r0, (.bool false)])))
     (opN Try.prog (sIA 186 x2 x18) Kp fun x27 =>
      opN Try.prog (sLoad 3 x27) Kp fun x28 =>
      opN Try.prog (sBin .add 3 x28 (.int .i64 1)) Kp fun x29 =>
      opN Try.prog (sIA 186 x2 x18) Kp fun x30 =>
      opN Try.prog (sStore 3 x30 x29) Kp fun _ =>
      opN Try.prog (sBin .add 3 y15 (.int .i64 1)) Kp fun x31 =>
      next1 I1 m1 x31))
    (opN Try.prog (sSl 186 x2 (some (.int .i64 1)) none none) Kp fun x32 =>
     opN Try.prog (sLen #[119] 3 [x32]) Kp fun x33 =>
     loop2 (fun I2 m2 _ y6 y34 =>
      opN Try.prog (sBin .lss 3 y34 x33) Kp fun x35 =>
      condS x35
      (opN Try.prog (sIA 119 x32 y34) Kp fun x36 =>
       opN Try.prog (sLoad 3 x36) Kp fun x37 =>
       opN Try.prog (sBin .mul 3 (.int .i64 2) y6) Kp fun x39 =>
       opN Try.prog (sBin .sub 3 x39 x37) Kp fun x41 =>
       opN Try.prog (sBin .lss 3 x41 (.int .i64 0)) Kp fun x43 =>
       condS x43
       (opN Try.prog (sLoad 186 x2) Kp fun x44 =>
        opN Try.prog (sStore 186 x2 x44) Kp fun _ =>
        (stS Try.prog (sRes 186 x2) fun r0 => K (.tuple #[r0, (.bool false)])))
       (opN Try.prog (sBin .add 3 y34 (.int .i64 1)) Kp fun x45 =>
        next2 I2 m2 x41 x45))
      (opN Try.prog (sLoad 186 x2) Kp fun x46 =>
       opN Try.prog (sStore 186 x2 x46) Kp fun _ =>
       (stS Try.prog (sRes 186 x2) fun r0 => K (.tuple #[r0, (.bool true)])))) (.int .i64 1) (.int .i64 0))) (.int .i64 0))
def huff_counts_an : Ann := { cuts := [], blks := [], loops := [(4, [15]), (12, [6, 34])], drs := [] }
theorem huff_counts_eq (v0 : Value) (Kp : PK) (K : Value → WP) : cevF Try.prog huff_counts_an Try.f121 [v0] Kp K = huff_counts v0 Kp K := by kernel_rfl
theorem huff_counts_calls {v0 : Value} {Kp : PK} {K : Value → WP} {w : World} (h : huff_counts v0 Kp K w) : Calls Try.prog 121 #[v0] w (after Kp K) :=
 calls_of_shape (calls_of_cev wide Try.func121 (an := huff_counts_an) (args := [v0]) (cast (congrFun (huff_counts_eq v0 Kp K) w).symm h))
theorem huff_counts_cn {v0 : Value} {W : World} {α : Type} {A : List HP} {r : α → Value} {B : α → List HP} (h : ∀ F, Ent W (A ++ F) (huff_counts v0 noP fun v w => ∃ x, v = r x ∧ sat W (B x ++ F) w)) : Cn Try.prog 121 [v0] W A r B :=
 Cn.of (shape := huff_counts v0) Try.call121 (fun h => huff_counts_calls h) h
def lz_finder_candidates_1 (v0 v1 v2 : Value) (Kp : PK) (K : Value → WP) : WP :=
  drS (stS Try.prog (sLoad 3 v1) fun x7 =>
   stS Try.prog (sBin .add 3 x7 (.int .i64 3)) fun x8 =>
   stS Try.prog (sLoad 114 v2) fun x9 =>
   stS Try.prog (sNil x9) fun x10 =>
   stS Try.prog (sFA 117 x10 0) fun x11 =>
   stS Try.prog (sLoad 22 x11) fun x12 =>
   stS Try.prog (sLen #[22] 3 [x12]) fun x13 =>
   stS Try.prog (sBin .gtr 3 x8 x13) fun x14 =>
   condS x14
   (K (.tuple #[]))
   (drS (stS Try.prog (sLoad 114 v2) fun x15 =>
     stS Try.prog (sNil x15) fun x16 =>
     stS Try.prog (sFA 117 x16 1) fun x17 =>
     stS Try.prog (sLoad 115 x17) fun x18 =>
     stS Try.prog (sLoad 114 v2) fun x19 =>
     stS Try.prog (sNil x19) fun x20 =>
     stS Try.prog (sFA 117 x20 0) fun x21 =>
     stS Try.prog (sLoad 22 x21) fun x22 =>
     stS Try.prog (sLoad 3 v1) fun x23 =>
     stS Try.prog (sSl 22 x22 (some x23) none none) fun x24 =>
     stS Try.prog (sArrP 153 x24) fun x25 =>
     stS Try.prog (sLoad 153 x25) fun x26 =>
     stS Try.prog (sLook 115 x18 x26 false) fun x27 =>
     opN Try.prog (sLen #[119] 3 [x27]) Kp fun x29 =>
     opN Try.prog (sBin .sub 3 x29 (.int .i64 1)) Kp fun x30 =>
     loop2 (fun I1 m1 _ y5 y6 =>
      opN Try.prog (sBin .geq 3 y5 (.int .i64 0)) Kp fun x32 =>
      gdK x32 true (fun k => k y6) fun x34 =>
      gdK x32 true (opN Try.prog (sLoad 114 v2) Kp) fun x35 =>
      gdK x32 true (opN Try.prog (sNil x35) Kp) fun x36 =>
      gdK x32 true (opN Try.prog (sFA 117 x36 4) Kp) fun x37 =>
      gdK x32 true (opN Try.prog (sLoad 3 x37) Kp) fun x38 =>
      gdK x32 true (opN Try.prog (sBin .lss 3 x34 x38) Kp) fun x39 =>
      opN Try.prog (sPick x32 x39 (.bool false)) Kp fun x40 =>
      condS x40
      (drS (stS Try.prog (sLoad 3 v1) fun x45 =>
        stS Try.prog (sIA 119 x27 y5) fun x48 =>
        stS Try.prog (sLoad 3 x48) fun x49 =>
        stS Try.prog (sBin .sub 3 x45 x49) fun x50 =>
        stS Try.prog (sLoad 114 v2) fun x51 =>
        stS Try.prog (sNil x51) fun x52 =>
        stS Try.prog (sFA 117 x52 3) fun x53 =>
        stS Try.prog (sLoad 3 x53) fun x54 =>
        stS Try.prog (sBin .gtr 3 x50 x54) fun x55 =>
        gdK x55 false (fun k => k v0) fun x57 =>
        gdK x55 false (fun k => k x27) fun x58 =>
        gdK x55 false (fun k => k y5) fun x59 =>
        gdK x55 false (stS Try.prog (sIA 119 x58 x59)) fun x60 =>
        gdK x55 false (stS Try.prog (sLoad 3 x60)) fun x61 =>
        gdK x55 false (opN Try.prog (sCall x57 [x61]) Kp) fun x62 =>
        gdK x55 false (stS Try.prog (sUn .not x62)) fun x63 =>
        stS Try.prog (sPick x55 (.bool true) x63) fun x64 =>
        condS x64
        (K (.tuple #[]))
        (opN Try.prog (sBin .sub 3 y5 (.int .i64 1)) Kp fun x42 =>
         opN Try.prog (sBin .add 3 y6 (.int .i64 1)) Kp fun x44 =>
         next2 I1 m1 x42 x44)))
      (K (.tuple #[]))) x30 (.int .i64 0))))
def lz_finder_candidates_1_an : Ann := { cuts := [], blks := [], loops := [(3, [5, 6])], drs := [(0, .ofL [(0, 1), (1, 1), (2, 1), (3, 1), (4, 1), (5, 1), (6, 1), (7, 1)]), (1, .ofL [(0, 1), (1, 1), (2, 1), (3, 1), (4, 1), (5, 1), (6, 1), (7, 1), (8, 1), (9, 1), (10, 1), (11, 1), (12, 1), (13, 1)]), (5, .ofL [(0, 1), (1, 1), (2, 1), (3, 1), (4, 1), (5, 1), (6, 1), (7, 1), (8, 1), (9, 1), (10, 1), (11, 1), (12, 1), (13, 1), (14, 1), (15, 1), (16, 1), (17, 0), (18, 1), (19, 1)])] }
theorem lz_finder_candidates_1_eq (v0 v1 v2 : Value) (Kp : PK) (K : Value → WP) : cevF Try.prog lz_finder_candidates_1_an Try.f123 [v0, v1, v2] Kp K = lz_finder_candidates_1 v0 v1 v2 Kp K := by kernel_rfl
theorem lz_finder_candidates_1_calls {v0 v1 v2 : Value} {Kp : PK} {K : Value → WP} {w : World} (h : lz_finder_candidates_1 v0 v1 v2 Kp K w) : Calls Try.prog 123 #[v0, v1, v2] w (after Kp K) :=
 calls_of_shape (calls_of_cev wide Try.func123 (an := lz_finder_candidates_1_an) (args := [v0, v1, v2]) (cast (congrFun (lz_finder_candidates_1_eq v0 v1 v2 Kp K) w).symm h))
theorem lz_finder_candidates_1_cn {v0 v1 v2 : Value} {W : World} {α : Type} {A : List HP} {r : α → Value} {B : α → List HP} (h : ∀ F, Ent W (A ++ F) (lz_finder_candidates_1 v0 v1 v2 noP fun v w => ∃ x, v = r x ∧ sat W (B x ++ F) w)) : Cn Try.prog 123 [v0, v1, v2] W A r B :=
 Cn.of (shape := lz_finder_candidates_1 v0 v1 v2) Try.call123 (fun h => lz_finder_candidates_1_calls h) h
def lz_last (v0 v1 v2 v3 : Value) (Kp : PK) (K : Value → WP) : WP :=
  loop1 (fun I1 m1 _ y11 =>
   opN Try.prog (sBin .geq 3 y11 v1) Kp fun x17 =>
   condS x17
   (opN Try.prog (sCall v3 [y11]) Kp fun x23 =>
    opN Try.prog (sExt x23 0) Kp fun x24 =>
    opN Try.prog (sExt x23 1) Kp fun x25 =>
    opN Try.prog (sBin .leq 3 x24 v0) Kp fun x28 =>
    condS x28
    (opN Try.prog (sBin .sub 3 v0 x24) Kp fun x33 =>
     K (.tuple #[y11, x25, x33]))
    (opN Try.prog (sBin .sub 3 y11 (.int .i64 1)) Kp fun x19 =>
     next1 I1 m1 x19))
   (K (.tuple #[(.int .i64 (-1)), (.int .i64 0), (.int .i64 0)]))) v2
def lz_last_an : Ann := { cuts := [], blks := [], loops := [(2, [11])], drs := [] }
theorem lz_last_eq (v0 v1 v2 v3 : Value) (Kp : PK) (K : Value → WP) : cevF Try.prog lz_last_an Try.f124 [v0, v1, v2, v3] Kp K = lz_last v0 v1 v2 v3 Kp K := by kernel_rfl
theorem lz_last_calls {v0 v1 v2 v3 : Value} {Kp : PK} {K : Value → WP} {w : World} (h : lz_last v0 v1 v2 v3 Kp K w) : Calls Try.prog 124 #[v0, v1, v2, v3] w (after Kp K) :=
 calls_of_shape (calls_of_cev wide Try.func124 (an := lz_last_an) (args := [v0, v1, v2, v3]) (cast (congrFun (lz_last_eq v0 v1 v2 v3 Kp K) w).symm h))
theorem lz_last_cn {v0 v1 v2 v3 : Value} {W : World} {α : Type} {A : List HP} {r : α → Value} {B : α → List HP} (h : ∀ F, Ent W (A ++ F) (lz_last v0 v1 v2 v3 noP fun v w => ∃ x, v = r x ∧ sat W (B x ++ F) w)) : Cn Try.prog 124 [v0, v1, v2, v3] W A r B :=
 Cn.of (shape := lz_last v0 v1 v2 v3) Try.call124 (fun h => lz_last_calls h) h
def bits_Reverse (v0 v1 : Value) (Kp : PK) (K : Value → WP) : WP :=
  opN Try.prog (sMin #[3, 3] 3 [v1, (.int .i64 32)]) Kp fun x8 =>
  opN Try.prog (sMax #[3, 3] 3 [(.int .i64 0), x8]) Kp fun x9 =>
  loop2 (fun I1 m1 _ y5 y10 =>
   opN Try.prog (sBin .lss 3 y10 x9) Kp fun x11 =>
   condS x11
   (opN Try.prog (sBin .shl 3 y5 (.int .u64 1)) Kp fun x14 =>
    opN Try.prog (sConv 3 87 y10) Kp fun x17 =>
    opN Try.prog (sBin .shr 3 v0 x17) Kp fun x18 =>
    opN Try.prog (sBin .and 3 x18 (.int .i64 1)) Kp fun x19 =>
    opN Try.prog (sBin .or 3 x14 x19) Kp fun x20 =>
    opN Try.prog (sBin .add 3 y10 (.int .i64 1)) Kp fun x21 =>
    next2 I1 m1 x20 x21)
   (K y5)) (.int .i64 0) (.int .i64 0)
def bits_Reverse_an : Ann := { cuts := [], blks := [], loops := [(3, [5, 10])], drs := [] }
theorem bits_Reverse_eq (v0 v1 : Value) (Kp : PK) (K : Value → WP) : cevF Try.prog bits_Reverse_an Try.f125 [v0, v1] Kp K = bits_Reverse v0 v1 Kp K := by kernel_rfl
theorem bits_Reverse_calls {v0 v1 : Value} {Kp : PK} {K : Value → WP} {w : World} (h : bits_Reverse v0 v1 Kp K w) : Calls Try.prog 125 #[v0, v1] w (after Kp K) :=
 calls_of_shape (calls_of_cev wide Try.func125 (an := bits_Reverse_an) (args := [v0, v1]) (cast (congrFun (bits_Reverse_eq v0 v1 Kp K) w).symm h))
theorem bits_Reverse_cn {v0 v1 : Value} {W : World} {α : Type} {A : List HP} {r : α → Value} {B : α → List HP} (h : ∀ F, Ent W (A ++ F) (bits_Reverse v0 v1 noP fun v w => ∃ x, v = r x ∧ sat W (B x ++ F) w)) : Cn Try.prog 125 [v0, v1] W A r B :=
 Cn.of (shape := bits_Reverse v0 v1) Try.call125 (fun h => bits_Reverse_calls h) h
def slices_SortStableFunc_huff_weighed_int_huff_weighed_int (v0 v1 : Value) (Kp : PK) (K : Value → WP) : WP :=
 opN Try.prog (sLen #[191] 3 [v0]) Kp fun x6 =>
 opN Try.prog (sCall (fn 140) [v0, x6, v1]) Kp fun x8 =>
 K (.tuple #[])
def slices_SortStableFunc_huff_weighed_int_huff_weighed_int_an : Ann := { cuts := [], blks := [], loops := [], drs := [] }
theorem slices_SortStableFunc_huff_weighed_int_huff_weighed_int_eq (v0 v1 : Value) (Kp : PK) (K : Value → WP) : cevF Try.prog slices_SortStableFunc_huff_weighed_int_huff_weighed_int_an Try.f126 [v0, v1] Kp K = slices_SortStableFunc_huff_weighed_int_huff_weighed_int v0 v1 Kp K := by kernel_rfl
theorem slices_SortStableFunc_huff_weighed_int_huff_weighed_int_calls {v0 v1 : Value} {Kp : PK} {K : Value → WP} {w : World} (h : slices_SortStableFunc_huff_weighed_int_huff_weighed_int v0 v1 Kp K w) : Calls Try.prog 126 #[v0, v1] w (after Kp K) :=
 calls_of_shape (calls_of_cev wide Try.func126 (an := slices_SortStableFunc_huff_weighed_int_huff_weighed_int_an) (args := [v0, v1]) (cast (congrFun (slices_SortStableFunc_huff_weighed_int_huff_weighed_int_eq v0 v1 Kp K) w).symm h))
theorem slices_SortStableFunc_huff_weighed_int_huff_weighed_int_cn {v0 v1 : Value} {W : World} {α : Type} {A : List HP} {r : α → Value} {B : α → List HP} (h : ∀ F, Ent W (A ++ F) (slices_SortStableFunc_huff_weighed_int_huff_weighed_int v0 v1 noP fun v w => ∃ x, v = r x ∧ sat W (B x ++ F) w)) : Cn Try.prog 126 [v0, v1] W A r B :=
 Cn.of (shape := slices_SortStableFunc_huff_weighed_int_huff_weighed_int v0 v1) Try.call126 (fun h => slices_SortStableFunc_huff_weighed_int_huff_weighed_int_calls h) h
def huff_Lengths_1 (v0 v1 : Value) (Kp : PK) (K : Value → WP) : WP :=
 opN Try.prog (sBox 193 v0) Kp fun x2 =>
 opN Try.prog (sBox 193 v1) Kp fun x3 =>
 opN Try.prog (sFA 193 x2 0) Kp fun x5 =>
 opN Try.prog (sLoad 3 x5) Kp fun x6 =>
 opN Try.prog (sFA 193 x3 0) Kp fun x7 =>
 opN Try.prog (sLoad 3 x7) Kp fun x8 =>
 opN Try.prog (sCall (fn 128) [x6, x8]) Kp fun x9 =>
 K x9
def huff_Lengths_1_an : Ann := { cuts := [], blks := [], loops := [], drs := [] }
theorem huff_Lengths_1_eq (v0 v1 : Value) (Kp : PK) (K : Value → WP) : cevF Try.prog huff_Lengths_1_an Try.f127 [v0, v1] Kp K = huff_Lengths_1 v0 v1 Kp K := by kernel_rfl
theorem huff_Lengths_1_calls {v0 v1 : Value} {Kp : PK} {K : Value → WP} {w : World} (h : huff_Lengths_1 v0 v1 Kp K w) : Calls Try.prog 127 #[v0, v1] w (after Kp K) :=
 calls_of_shape (calls_of_cev wide Try.func127 (an := huff_Lengths_1_an) (args := [v0, v1]) (cast (congrFun (huff_Lengths_1_eq v0 v1 Kp K) w).symm h))
theorem huff_Lengths_1_cn {v0 v1 : Value} {W : World} {α : Type} {A : List HP} {r : α → Value} {B : α → List HP} (h : ∀ F, Ent W (A ++ F) (huff_Lengths_1 v0 v1 noP fun v w => ∃ x, v = r x ∧ sat W (B x ++ F) w)) : Cn Try.prog 127 [v0, v1] W A r B :=
 Cn.of (shape := huff_Lengths_1 v0 v1) Try.call127 (fun h => huff_Lengths_1_calls h) h
def cmp_Compare_int (v0 v1 : Value) (Kp : PK) (K : Value → WP) : WP :=
  opN Try.prog (sCall (fn 141) [v0]) Kp fun x8 =>
  opN Try.prog (sCall (fn 141) [v1]) Kp fun x10 =>
  condS x8
  (condS x10
   (K (.int .i64 0))
   (K (.int .i64 (-1))))
  (condS x10
   (K (.int .i64 1))
   (opN Try.prog (sBin .lss 3 v0 v1) Kp fun x16 =>
    condS x16
    (K (.int .i64 (-1)))
    (opN Try.prog (sBin .gtr 3 v0 v1) Kp fun x19 =>
     condS x19
     (K (.int .i64 1))
     (K (.int .i64 0)))))
def cmp_Compare_int_an : Ann := { cuts := [], blks := [], loops := [], drs := [] }
theorem cmp_Compare_int_eq (v0 v1 : Value) (Kp : PK) (K : Value → WP) : cevF Try.prog cmp_Compare_int_an Try.f128 [v0, v1] Kp K = cmp_Compare_int v0 v1 Kp K := by kernel_rfl
theorem cmp_Compare_int_calls {v0 v1 : Value} {Kp : PK} {K : Value → WP} {w : World} (h : cmp_Compare_int v0 v1 Kp K w) : Calls Try.prog 128 #[v0, v1] w (after Kp K) :=
 calls_of_shape (calls_of_cev wide Try.func128 (an := cmp_Compare_int_an) (args := [v0, v1]) (cast (congrFun (cmp_Compare_int_eq v0 v1 Kp K) w).symm h))
theorem cmp_Compare_int_cn {v0 v1 : Value} {W : World} {α : Type} {A : List HP} {r : α → Value} {B : α → List HP} (h : ∀ F, Ent W (A ++ F) (cmp_Compare_int v0 v1 noP fun v w => ∃ x, v = r x ∧ sat W (B x ++ F) w)) : Cn Try.prog 128 [v0, v1] W A r B :=
 Cn.of (shape := cmp_Compare_int v0 v1) Try.call128 (fun h => cmp_Compare_int_calls h) h
def slices_Concat_int_int (v0 : Value) (Kp : PK) (K : Value → WP) : WP :=
  opN Try.prog (sLen #[214] 3 [v0]) Kp fun x10 =>
  loop2 (fun I1 m1 _ y3 y11 =>
   opN Try.prog (sBin .lss 3 y11 x10) Kp fun x12 =>
   condS x12
   (opN Try.prog (sIA 214 v0 y11) Kp fun x13 =>
    opN Try.prog (sLoad 119 x13) Kp fun x14 =>
    opN Try.prog (sLen #[119] 3 [x14]) Kp fun x17 =>
    opN Try.prog (sBin .add 3 y3 x17) Kp fun x18 =>
    opN Try.prog (sBin .lss 3 x18 (.int .i64 0)) Kp fun x20 =>
    condS x20
    (opN Try.prog (sMkI 9 (.string ⟨#[108, 101, 110, 32, 111, 117, 116, 32, 111, 102, 32, 114, 97, 110, 103, 101]⟩)) Kp fun x21 =>
     opN Try.prog (sPanic x21) Kp fun _ =>
     opN Try.prog (sBin .add 3 y11 (.int .i64 1)) Kp fun x22 =>
     next2 I1 m1 x18 x22)
    (opN Try.prog (sBin .add 3 y11 (.int .i64 1)) Kp fun x22 =>
     next2 I1 m1 x18 x22))
   (opN Try.prog (sCall (fn 142) [(.slice none 0 0), y3]) Kp fun x24 =>
    opN Try.prog (sLen #[214] 3 [v0]) Kp fun x26 =>
    loop2 (fun I2 m2 _ y6 y27 =>
     opN Try.prog (sBin .lss 3 y27 x26) Kp fun x28 =>
     condS x28
     (opN Try.prog (sIA 214 v0 y27) Kp fun x29 =>
      opN Try.prog (sLoad 119 x29) Kp fun x30 =>
      opN Try.prog (sApp #[119, 119] 119 [y6, x30]) Kp fun x33 =>
      opN Try.prog (sBin .add 3 y27 (.int .i64 1)) Kp fun x34 =>
      next2 I2 m2 x33 x34)
     (K y6)) x24 (.int .i64 0))) (.int .i64 0) (.int .i64 0)
def slices_Concat_int_int_an : Ann := { cuts := [], blks := [], loops := [(3, [3, 11]), (11, [6, 27])], drs := [] }
theorem slices_Concat_int_int_eq (v0 : Value) (Kp : PK) (K : Value → WP) : cevF Try.prog slices_Concat_int_int_an Try.f129 [v0] Kp K = slices_Concat_int_int v0 Kp K := by kernel_rfl
theorem slices_Concat_int_int_calls {v0 : Value} {Kp : PK} {K : Value → WP} {w : World} (h : slices_Concat_int_int v0 Kp K w) : Calls Try.prog 129 #[v0] w (after Kp K) :=
 calls_of_shape (calls_of_cev wide Try.func129 (an := slices_Concat_int_int_an) (args := [v0]) (cast (congrFun (slices_Concat_int_int_eq v0 Kp K) w).symm h))
theorem slices_Concat_int_int_cn {v0 : Value} {W : World} {α : Type} {A : List HP} {r : α → Value} {B : α → List HP} (h : ∀ F, Ent W (A ++ F) (slices_Concat_int_int v0 noP fun v w => ∃ x, v = r x ∧ sat W (B x ++ F) w)) : Cn Try.prog 129 [v0] W A r B :=
 Cn.of (shape := slices_Concat_int_int v0) Try.call129 (fun h => slices_Concat_int_int_calls h) h
def huff_merge_int (v0 v1 : Value) (Kp : PK) (K : Value → WP) : WP :=
  opN Try.prog (sLen #[191] 3 [v0]) Kp fun x7 =>
  opN Try.prog (sLen #[191] 3 [v1]) Kp fun x9 =>
  opN Try.prog (sBin .add 3 x7 x9) Kp fun x10 =>
  opN Try.prog (sMkSl 191 (.int .i64 0) x10) Kp fun x11 =>
  loop3 (fun I1 m1 _ y0 y1 y5 =>
   opN Try.prog (sLen #[191] 3 [y0]) Kp fun x22 =>
   opN Try.prog (sEq .eql 3 (.tmp 22) (.const (.int .i64 0)) x22 (.int .i64 0)) Kp fun x23 =>
   condS x23
   (opN Try.prog (sApp #[191, 191] 191 [y5, y1]) Kp fun x26 =>
    K x26)
   (drS (stS Try.prog (sLen #[191] 3 [y1]) fun x29 =>
     stS Try.prog (sBin .gtr 3 x29 (.int .i64 0)) fun x30 =>
     gdK x30 true (fun k => k y1) fun x32 =>
     gdK x30 true (stS Try.prog (sIA 191 x32 (.int .i64 0))) fun x33 =>
     gdK x30 true (stS Try.prog (sFA 193 x33 0)) fun x34 =>
     gdK x30 true (stS Try.prog (sLoad 3 x34)) fun x35 =>
     gdK x30 true (fun k => k y0) fun x36 =>
     gdK x30 true (stS Try.prog (sIA 191 x36 (.int .i64 0))) fun x37 =>
     gdK x30 true (stS Try.prog (sFA 193 x37 0)) fun x38 =>
     gdK x30 true (stS Try.prog (sLoad 3 x38)) fun x39 =>
     gdK x30 true (stS Try.prog (sBin .lss 3 x35 x39)) fun x40 =>
     stS Try.prog (sPick x30 x40 (.bool false)) fun x41 =>
     condS x41
     (drS (stS Try.prog (sIA 191 y1 (.int .i64 0)) fun x44 =>
       stS Try.prog (sLoad 193 x44) fun x45 =>
       stD Try.prog (sSl 191 y1 (some (.int .i64 1)) none none) fun D7 x49 =>
       opN Try.prog (sBuildSl 191 1 [(0, x45)]) Kp fun x46 =>
       (fun w => D7 w ∧ (opN Try.prog (sApp #[191, 191] 191 [y5, x46]) Kp fun x47 =>
         (fun w => D7 w ∧ (next3 I1 m1 y0 x49 x47) w)) w)))
     (drS (stS Try.prog (sIA 191 y0 (.int .i64 0)) fun x14 =>
       stS Try.prog (sLoad 193 x14) fun x15 =>
       stD Try.prog (sSl 191 y0 (some (.int .i64 1)) none none) fun D7 x19 =>
       opN Try.prog (sBuildSl 191 1 [(0, x15)]) Kp fun x16 =>
       (fun w => D7 w ∧ (opN Try.prog (sApp #[191, 191] 191 [y5, x16]) Kp fun x17 =>
         (fun w => D7 w ∧ (next3 I1 m1 x19 y1 x17) w)) w)))))) v0 v1 x11
def huff_merge_int_an : Ann := { cuts := [], blks := [], loops := [(3, [0, 1, 5])], drs := [(2, .ofL [(0, 2), (1, 1), (2, 1), (3, 1), (6, 2), (7, 3), (4, 0), (5, 0), (8, 1), (9, 1)]), (5, .ofL [(0, 1), (1, 1), (2, 1), (3, 1), (4, 1), (5, 1), (6, 1), (7, 1), (8, 1), (9, 1), (10, 1), (11, 1), (12, 1), (13, 1), (14, 1)]), (6, .ofL [(0, 2), (1, 1), (2, 1), (3, 1), (6, 2), (7, 3), (4, 0), (5, 0), (8, 1), (9, 1)])] }
theorem huff_merge_int_eq (v0 v1 : Value) (Kp : PK) (K : Value → WP) : cevF Try.prog huff_merge_int_an Try.f130 [v0, v1] Kp K = huff_merge_int v0 v1 Kp K := by kernel_rfl
theorem huff_merge_int_calls {v0 v1 : Value} {Kp : PK} {K : Value → WP} {w : World} (h : huff_merge_int v0 v1 Kp K w) : Calls Try.prog 130 #[v0, v1] w (after Kp K) :=
 calls_of_shape (calls_of_cev wide Try.func130 (an := huff_merge_int_an) (args := [v0, v1]) (cast (congrFun (huff_merge_int_eq v0 v1 Kp K) w).symm h))
theorem huff_merge_int_cn {v0 v1 : Value} {W : World} {α : Type} {A : List HP} {r : α → Value} {B : α → List HP} (h : ∀ F, Ent W (A ++ F) (huff_merge_int v0 v1 noP fun v w => ∃ x, v = r x ∧ sat W (B x ++ F) w)) : Cn Try.prog 130 [v0, v1] W A r B :=
 Cn.of (shape := huff_merge_int v0 v1) Try.call130 (fun h => huff_merge_int_calls h) h
def deflate_runs_1 (v0 v1 : Value) (Kp : PK) (K : Value → WP) : WP :=
  loop1 (fun I1 m1 _ y3 =>
   opN Try.prog (sLoad 119 v1) Kp fun x8 =>
   opN Try.prog (sLen #[119] 3 [x8]) Kp fun x9 =>
   opN Try.prog (sBin .lss 3 y3 x9) Kp fun x10 =>
   condS x10
   (opN Try.prog (sLoad 119 v1) Kp fun x11 =>
    opN Try.prog (sIA 119 x11 y3) Kp fun x13 =>
    opN Try.prog (sLoad 3 x13) Kp fun x14 =>
    loop1 (fun I2 m2 _ y5 =>
     opN Try.prog (sBin .add 3 y3 y5) Kp fun x17 =>
     opN Try.prog (sLoad 119 v1) Kp fun x18 =>
     opN Try.prog (sLen #[119] 3 [x18]) Kp fun x19 =>
     opN Try.prog (sBin .lss 3 x17 x19) Kp fun x20 =>
     gdK x20 true (opN Try.prog (sLoad 119 v1) Kp) fun x22 =>
     gdK x20 true (fun k => k y3) fun x23 =>
     gdK x20 true (fun k => k y5) fun x24 =>
     gdK x20 true (opN Try.prog (sBin .add 3 x23 x24) Kp) fun x25 =>
     gdK x20 true (opN Try.prog (sIA 119 x22 x25) Kp) fun x26 =>
     gdK x20 true (opN Try.prog (sLoad 3 x26) Kp) fun x27 =>
     gdK x20 true (fun k => k x14) fun x28 =>
     gdK x20 true (opN Try.prog (sEq .eql 3 (.tmp 27) (.tmp 28) x27 x28) Kp) fun x29 =>
     opN Try.prog (sPick x20 x29 (.bool false)) Kp fun x30 =>
     condS x30
     (opN Try.prog (sBin .add 3 y5 (.int .i64 1)) Kp fun x32 =>
      next1 I2 m2 x32)
     (opN Try.prog (sBuild 170 [(0, x14)]) Kp fun x34 =>
      opN Try.prog (sAlloc 170) Kp fun x6 =>
      opN Try.prog (sStore 170 x6 x34) Kp fun _ =>
      cut1 (fun J1 =>
       opN Try.prog (sEq .eql 3 (.tmp 36) (.const (.int .i64 0)) x14 (.int .i64 0)) Kp fun x37 =>
       gdK x37 true (fun k => k y5) fun x39 =>
       gdK x37 true (opN Try.prog (sBin .geq 3 x39 (.int .i64 11)) Kp) fun x40 =>
       opN Try.prog (sPick x37 x40 (.bool false)) Kp fun x41 =>
       condS x41
       (opN Try.prog (sMin #[3, 3] 3 [y5, (.int .i64 138)]) Kp fun x43 =>
        opN Try.prog (sBin .sub 3 x43 (.int .i64 11)) Kp fun x45 =>
        opN Try.prog (sBuild 170 [(0, (.int .i64 18)), (1, (.int .i64 7)), (2, x45)]) Kp fun x46 =>
        opN Try.prog (sStore 170 x6 x46) Kp fun _ =>
        J1 x43)
       (opN Try.prog (sEq .eql 3 (.tmp 48) (.const (.int .i64 0)) x14 (.int .i64 0)) Kp fun x49 =>
        gdK x49 true (fun k => k y5) fun x51 =>
        gdK x49 true (opN Try.prog (sBin .geq 3 x51 (.int .i64 3)) Kp) fun x52 =>
        opN Try.prog (sPick x49 x52 (.bool false)) Kp fun x53 =>
        condS x53
        (opN Try.prog (sBin .sub 3 y5 (.int .i64 3)) Kp fun x55 =>
         opN Try.prog (sBuild 170 [(0, (.int .i64 17)), (1, (.int .i64 3)), (2, x55)]) Kp fun x56 =>
         opN Try.prog (sStore 170 x6 x56) Kp fun _ =>
         J1 y5)
        (opN Try.prog (sEq .neq 3 (.tmp 58) (.const (.int .i64 0)) x14 (.int .i64 0)) Kp fun x59 =>
         gdK x59 true (fun k => k y5) fun x61 =>
         gdK x59 true (opN Try.prog (sBin .geq 3 x61 (.int .i64 3)) Kp) fun x62 =>
         opN Try.prog (sPick x59 x62 (.bool false)) Kp fun x63 =>
         gdK x63 true (fun k => k y3) fun x65 =>
         gdK x63 true (opN Try.prog (sBin .gtr 3 x65 (.int .i64 0)) Kp) fun x66 =>
         opN Try.prog (sPick x63 x66 (.bool false)) Kp fun x67 =>
         gdK x67 true (opN Try.prog (sLoad 119 v1) Kp) fun x69 =>
         gdK x67 true (fun k => k y3) fun x70 =>
         gdK x67 true (opN Try.prog (sBin .sub 3 x70 (.int .i64 1)) Kp) fun x71 =>
         gdK x67 true (opN Try.prog (sIA 119 x69 x71) Kp) fun x72 =>
         gdK x67 true (opN Try.prog (sLoad 3 x72) Kp) fun x73 =>
         gdK x67 true (fun k => k x14) fun x74 =>
         gdK x67 true (opN Try.prog (sEq .eql 3 (.tmp 73) (.tmp 74) x73 x74) Kp) fun x75 =>
         opN Try.prog (sPick x67 x75 (.bool false)) Kp fun x76 =>
         condS x76
         (opN Try.prog (sMin #[3, 3] 3 [y5, (.int .i64 6)]) Kp fun x78 =>
          opN Try.prog (sBin .sub 3 x78 (.int .i64 3)) Kp fun x80 =>
          opN Try.prog (sBuild 170 [(0, (.int .i64 16)), (1, (.int .i64 2)), (2, x80)]) Kp fun x81 =>
          opN Try.prog (sStore 170 x6 x81) Kp fun _ =>
          J1 x78)
         (J1 (.int .i64 1))))) fun _ z5 =>
      opN Try.prog (sLoad 170 x6) Kp fun x83 =>
      opN Try.prog (sCall v0 [x83]) Kp fun x84 =>
      opN Try.prog (sUn .not x84) Kp fun x85 =>
      condS x85
      (K (.tuple #[]))
      (opN Try.prog (sBin .add 3 y3 z5) Kp fun x88 =>
       next1 I1 m1 x88))) (.int .i64 1))
   (K (.tuple #[]))) (.int .i64 0)
def deflate_runs_1_an : Ann := { cuts := [(15, [5])], blks := [], loops := [(1, [3]), (3, [5])], drs := [] }
theorem deflate_runs_1_eq (v0 v1 : Value) (Kp : PK) (K : Value → WP) : cevF Try.prog deflate_runs_1_an Try.f131 [v0, v1] Kp K = deflate_runs_1 v0 v1 Kp K := by kernel_rfl
theorem deflate_runs_1_calls {v0 v1 : Value} {Kp : PK} {K : Value → WP} {w : World} (h : deflate_runs_1 v0 v1 Kp K w) : Calls Try.prog 131 #[v0, v1] w (after Kp K) :=
 calls_of_shape (calls_of_cev wide Try.func131 (an := deflate_runs_1_an) (args := [v0, v1]) (cast (congrFun (deflate_runs_1_eq v0 v1 Kp K) w).symm h))
theorem deflate_runs_1_cn {v0 v1 : Value} {W : World} {α : Type} {A : List HP} {r : α → Value} {B : α → List HP} (h : ∀ F, Ent W (A ++ F) (deflate_runs_1 v0 v1 noP fun v w => ∃ x, v = r x ∧ sat W (B x ++ F) w)) : Cn Try.prog 131 [v0, v1] W A r B :=
 Cn.of (shape := deflate_runs_1 v0 v1) Try.call131 (fun h => deflate_runs_1_calls h) h
def ref04_alike (v0 v1 v2 : Value) (Kp : PK) (K : Value → WP) : WP :=
  loop1 (fun I1 m1 _ y7 =>
   drS (stS Try.prog (sBin .lss 3 y7 (.int .i64 258)) fun x9 =>
    gdK x9 true (fun k => k v2) fun x11 =>
    gdK x9 true (fun k => k y7) fun x12 =>
    gdK x9 true (stS Try.prog (sBin .add 3 x11 x12)) fun x13 =>
    gdK x9 true (fun k => k v0) fun x14 =>
    gdK x9 true (stS Try.prog (sLen #[22] 3 [x14])) fun x15 =>
    gdK x9 true (stS Try.prog (sBin .lss 3 x13 x15)) fun x16 =>
    stS Try.prog (sPick x9 x16 (.bool false)) fun x17 =>
    gdK x17 true (fun k => k v0) fun x19 =>
    gdK x17 true (fun k => k v1) fun x20 =>
    gdK x17 true (fun k => k y7) fun x21 =>
    gdK x17 true (stS Try.prog (sBin .add 3 x20 x21)) fun x22 =>
    gdK x17 true (stS Try.prog (sIA 22 x19 x22)) fun x23 =>
    gdK x17 true (stS Try.prog (sLoad 5 x23)) fun x24 =>
    gdK x17 true (fun k => k v0) fun x25 =>
    gdK x17 true (fun k => k v2) fun x26 =>
    gdK x17 true (fun k => k y7) fun x27 =>
    gdK x17 true (stS Try.prog (sBin .add 3 x26 x27)) fun x28 =>
    gdK x17 true (stS Try.prog (sIA 22 x25 x28)) fun x29 =>
    gdK x17 true (stS Try.prog (sLoad 5 x29)) fun x30 =>
    gdK x17 true (stS Try.prog (sEq .eql 5 (.tmp 24) (.tmp 30) x24 x30)) fun x31 =>
    stS Try.prog (sPick x17 x31 (.bool false)) fun x32 =>
    condS x32
    (opN Try.prog (sBin .add 3 y7 (.int .i64 1)) Kp fun x34 =>
     next1 I1 m1 x34)
    (K y7))) (.int .i64 0)
def ref04_alike_an : Ann := { cuts := [], blks := [], loops := [(2, [7])], drs := [(2, .ofL [(0, 1), (1, 1), (2, 1), (3, 1), (4, 1), (5, 1), (6, 1), (7, 1), (8, 1), (9, 1), (10, 1), (11, 1), (12, 1), (13, 1), (14, 1), (15, 1), (16, 1), (17, 1), (18, 1), (19, 1), (20, 1), (21, 1), (22, 1), (23, 1), (24, 1)])] }
theorem ref04_alike_eq (v0 v1 v2 : Value) (Kp : PK) (K : Value → WP) : cevF Try.prog ref04_alike_an Try.f132 [v0, v1, v2] Kp K = ref04_alike v0 v1 v2 Kp K := by kernel_rfl
theorem ref04_alike_calls {v0 v1 v2 : Value} {Kp : PK} {K : Value → WP} {w : World} (h : ref04_alike v0 v1 v2 Kp K w) : Calls Try.prog 132 #[v0, v1, v2] w (after Kp K) :=
 calls_of_shape (calls_of_cev wide Try.func132 (an := ref04_alike_an) (args := [v0, v1, v2]) (cast (congrFun (ref04_alike_eq v0 v1 v2 Kp K) w).symm h))
theorem ref04_alike_cn {v0 v1 v2 : Value} {W : World} {α : Type} {A : List HP} {r : α → Value} {B : α → List HP} (h : ∀ F, Ent W (A ++ F) (ref04_alike v0 v1 v2 noP fun v w => ∃ x, v = r x ∧ sat W (B x ++ F) w)) : Cn Try.prog 132 [v0, v1, v2] W A r B :=
 Cn.of (shape := ref04_alike v0 v1 v2) Try.call132 (fun h => ref04_alike_calls h) h
def ref03_weight (v0 : Value) (Kp : PK) (K : Value → WP) : WP :=
  loop2 (fun I1 m1 _ y4 y5 =>
   opN Try.prog (sLen #[119] 3 [v0]) Kp fun x8 =>
   opN Try.prog (sBin .lss 3 y5 x8) Kp fun x9 =>
   condS x9
   (opN Try.prog (sIA 119 v0 y5) Kp fun x14 =>
    opN Try.prog (sLoad 3 x14) Kp fun x15 =>
    opN Try.prog (sBin .lss 3 x15 (.int .i64 0)) Kp fun x16 =>
    gdK x16 false (fun k => k v0) fun x18 =>
    gdK x16 false (fun k => k y5) fun x19 =>
    gdK x16 false (opN Try.prog (sIA 119 x18 x19) Kp) fun x20 =>
    gdK x16 false (opN Try.prog (sLoad 3 x20) Kp) fun x21 =>
    gdK x16 false (opN Try.prog (sBin .gtr 3 x21 (.int .i64 15)) Kp) fun x22 =>
    opN Try.prog (sPick x16 (.bool true) x22) Kp fun x23 =>
    condS x23
    (K (.tuple #[(.int .i64 0), (.bool false)]))
    (opN Try.prog (sIA 119 v0 y5) Kp fun x26 =>
     opN Try.prog (sLoad 3 x26) Kp fun x27 =>
     opN Try.prog (sBin .gtr 3 x27 (.int .i64 0)) Kp fun x28 =>
     condS x28
     (opN Try.prog (sIA 119 v0 y5) Kp fun x32 =>
      opN Try.prog (sLoad 3 x32) Kp fun x33 =>
      opN Try.prog (sBin .sub 3 (.int .i64 15) x33) Kp fun x34 =>
      opN Try.prog (sConv 3 87 x34) Kp fun x35 =>
      opN Try.prog (sBin .shl 3 (.int .i64 1) x35) Kp fun x36 =>
      opN Try.prog (sBin .add 3 y4 x36) Kp fun x37 =>
      opN Try.prog (sBin .add 3 y5 (.int .i64 1)) Kp fun x11 =>
      next2 I1 m1 x37 x11)
     (opN Try.prog (sBin .add 3 y5 (.int .i64 1)) Kp fun x11 =>
      next2 I1 m1 y4 x11)))
   (opN Try.prog (sLen #[119] 3 [v0]) Kp fun x40 =>
    opN Try.prog (sBin .leq 3 x40 (.int .i64 320)) Kp fun x41 =>
    gdK x41 true (fun k => k y4) fun x43 =>
    gdK x41 true (opN Try.prog (sBin .leq 3 x43 (.int .i64 32768)) Kp) fun x44 =>
    opN Try.prog (sPick x41 x44 (.bool false)) Kp fun x45 =>
    K (.tuple #[y4, x45]))) (.int .i64 0) (.int .i64 0)
def ref03_weight_an : Ann := { cuts := [], blks := [], loops := [(3, [4, 5])], drs := [] }
theorem ref03_weight_eq (v0 : Value) (Kp : PK) (K : Value → WP) : cevF Try.prog ref03_weight_an Try.f133 [v0] Kp K = ref03_weight v0 Kp K := by kernel_rfl
theorem ref03_weight_calls {v0 : Value} {Kp : PK} {K : Value → WP} {w : World} (h : ref03_weight v0 Kp K w) : Calls Try.prog 133 #[v0] w (after Kp K) :=
 calls_of_shape (calls_of_cev wide Try.func133 (an := ref03_weight_an) (args := [v0]) (cast (congrFun (ref03_weight_eq v0 Kp K) w).symm h))
theorem ref03_weight_cn {v0 : Value} {W : World} {α : Type} {A : List HP} {r : α → Value} {B : α → List HP} (h : ∀ F, Ent W (A ++ F) (ref03_weight v0 noP fun v w => ∃ x, v = r x ∧ sat W (B x ++ F) w)) : Cn Try.prog 133 [v0] W A r B :=
 Cn.of (shape := ref03_weight v0) Try.call133 (fun h => ref03_weight_calls h) h
def ref02_Reverse (v0 v1 : Value) (Kp : PK) (K : Value → WP) : WP :=
  opN Try.prog (sMin #[3, 3] 3 [v1, (.int .i64 32)]) Kp fun x8 =>
  opN Try.prog (sMax #[3, 3] 3 [(.int .i64 0), x8]) Kp fun x9 =>
  loop2 (fun I1 m1 _ y5 y6 =>
   opN Try.prog (sBin .lss 3 y6 x9) Kp fun x12 =>
   condS x12
   (opN Try.prog (sBin .mul 3 (.int .i64 2) y5) Kp fun x16 =>
    opN Try.prog (sConv 3 87 y6) Kp fun x19 =>
    opN Try.prog (sBin .shr 3 v0 x19) Kp fun x20 =>
    opN Try.prog (sBin .and 3 x20 (.int .i64 1)) Kp fun x21 =>
    opN Try.prog (sBin .add 3 x16 x21) Kp fun x22 =>
    opN Try.prog (sBin .add 3 y6 (.int .i64 1)) Kp fun x14 =>
    next2 I1 m1 x22 x14)
   (K y5)) (.int .i64 0) (.int .i64 0)
def ref02_Reverse_an : Ann := { cuts := [], blks := [], loops := [(4, [5, 6])], drs := [] }
theorem ref02_Reverse_eq (v0 v1 : Value) (Kp : PK) (K : Value → WP) : cevF Try.prog ref02_Reverse_an Try.f134 [v0, v1] Kp K = ref02_Reverse v0 v1 Kp K := by kernel_rfl
theorem ref02_Reverse_calls {v0 v1 : Value} {Kp : PK} {K : Value → WP} {w : World} (h : ref02_Reverse v0 v1 Kp K w) : Calls Try.prog 134 #[v0, v1] w (after Kp K) :=
 calls_of_shape (calls_of_cev wide Try.func134 (an := ref02_Reverse_an) (args := [v0, v1]) (cast (congrFun (ref02_Reverse_eq v0 v1 Kp K) w).symm h))
theorem ref02_Reverse_cn {v0 v1 : Value} {W : World} {α : Type} {A : List HP} {r : α → Value} {B : α → List HP} (h : ∀ F, Ent W (A ++ F) (ref02_Reverse v0 v1 noP fun v w => ∃ x, v = r x ∧ sat W (B x ++ F) w)) : Cn Try.prog 134 [v0, v1] W A r B :=
 Cn.of (shape := ref02_Reverse v0 v1) Try.call134 (fun h => ref02_Reverse_calls h) h
def ref04_BaseLength (v0 : Value) (Kp : PK) (K : Value → WP) : WP :=
  opN Try.prog (sBin .lss 3 v0 (.int .i64 257)) Kp fun x9 =>
  gdK x9 false (fun k => k v0) fun x11 =>
  gdK x9 false (opN Try.prog (sBin .gtr 3 x11 (.int .i64 285)) Kp) fun x12 =>
  opN Try.prog (sPick x9 (.bool true) x12) Kp fun x13 =>
  condS x13
  (K (.tuple #[(.int .i64 0), (.int .i64 0)]))
  (opN Try.prog (sEq .eql 3 (.tmp 15) (.const (.int .i64 285)) v0 (.int .i64 285)) Kp fun x16 =>
   condS x16
   (K (.tuple #[(.int .i64 258), (.int .i64 0)]))
   (opN Try.prog (sBin .lss 3 v0 (.int .i64 265)) Kp fun x19 =>
    condS x19
    (opN Try.prog (sBin .sub 3 v0 (.int .i64 254)) Kp fun x21 =>
     K (.tuple #[x21, (.int .i64 0)]))
    (opN Try.prog (sBin .sub 3 v0 (.int .i64 261)) Kp fun x23 =>
     opN Try.prog (sBin .quo 3 x23 (.int .i64 4)) Kp fun x24 =>
     loop2 (fun I1 m1 _ y5 y6 =>
      opN Try.prog (sBin .lss 3 y6 v0) Kp fun x27 =>
      condS x27
      (opN Try.prog (sBin .sub 3 y6 (.int .i64 261)) Kp fun x32 =>
       opN Try.prog (sBin .quo 3 x32 (.int .i64 4)) Kp fun x33 =>
       opN Try.prog (sConv 3 87 x33) Kp fun x34 =>
       opN Try.prog (sBin .shl 3 (.int .i64 1) x34) Kp fun x35 =>
       opN Try.prog (sBin .add 3 y5 x35) Kp fun x36 =>
       opN Try.prog (sBin .add 3 y6 (.int .i64 1)) Kp fun x29 =>
       next2 I1 m1 x36 x29)
      (K (.tuple #[y5, x24]))) (.int .i64 11) (.int .i64 265))))
def ref04_BaseLength_an : Ann := { cuts := [], blks := [], loops := [(10, [5, 6])], drs := [] }
theorem ref04_BaseLength_eq (v0 : Value) (Kp : PK) (K : Value → WP) : cevF Try.prog ref04_BaseLength_an Try.f135 [v0] Kp K = ref04_BaseLength v0 Kp K := by kernel_rfl
theorem ref04_BaseLength_calls {v0 : Value} {Kp : PK} {K : Value → WP} {w : World} (h : ref04_BaseLength v0 Kp K w) : Calls Try.prog 135 #[v0] w (after Kp K) :=
 calls_of_shape (calls_of_cev wide Try.func135 (an := ref04_BaseLength_an) (args := [v0]) (cast (congrFun (ref04_BaseLength_eq v0 Kp K) w).symm h))
theorem ref04_BaseLength_cn {v0 : Value} {W : World} {α : Type} {A : List HP} {r : α → Value} {B : α → List HP} (h : ∀ F, Ent W (A ++ F) (ref04_BaseLength v0 noP fun v w => ∃ x, v = r x ∧ sat W (B x ++ F) w)) : Cn Try.prog 135 [v0] W A r B :=
 Cn.of (shape := ref04_BaseLength v0) Try.call135 (fun h => ref04_BaseLength_calls h) h
def ref04_BaseDistance (v0 : Value) (Kp : PK) (K : Value → WP) : WP :=
  opN Try.prog (sBin .lss 3 v0 (.int .i64 0)) Kp fun x9 =>
  gdK x9 false (fun k => k v0) fun x11 =>
  gdK x9 false (opN Try.prog (sBin .gtr 3 x11 (.int .i64 29)) Kp) fun x12 =>
  opN Try.prog (sPick x9 (.bool true) x12) Kp fun x13 =>
  condS x13
  (K (.tuple #[(.int .i64 0), (.int .i64 0)]))
  (opN Try.prog (sBin .lss 3 v0 (.int .i64 4)) Kp fun x16 =>
   condS x16
   (opN Try.prog (sBin .add 3 v0 (.int .i64 1)) Kp fun x18 =>
    K (.tuple #[x18, (.int .i64 0)]))
   (opN Try.prog (sBin .sub 3 v0 (.int .i64 2)) Kp fun x20 =>
    opN Try.prog (sBin .quo 3 x20 (.int .i64 2)) Kp fun x21 =>
    loop2 (fun I1 m1 _ y5 y6 =>
     opN Try.prog (sBin .lss 3 y6 v0) Kp fun x24 =>
     condS x24
     (opN Try.prog (sBin .sub 3 y6 (.int .i64 2)) Kp fun x29 =>
      opN Try.prog (sBin .quo 3 x29 (.int .i64 2)) Kp fun x30 =>
      opN Try.prog (sConv 3 87 x30) Kp fun x31 =>
      opN Try.prog (sBin .shl 3 (.int .i64 1) x31) Kp fun x32 =>
      opN Try.prog (sBin .add 3 y5 x32) Kp fun x33 =>
      opN Try.prog (sBin .add 3 y6 (.int .i64 1)) Kp fun x26 =>
      next2 I1 m1 x33 x26)
     (K (.tuple #[y5, x21]))) (.int .i64 5) (.int .i64 4)))
def ref04_BaseDistance_an : Ann := { cuts := [], blks := [], loops := [(8, [5, 6])], drs := [] }
theorem ref04_BaseDistance_eq (v0 : Value) (Kp : PK) (K : Value → WP) : cevF Try.prog ref04_BaseDistance_an Try.f136 [v0] Kp K = ref04_BaseDistance v0 Kp K := by kernel_rfl
theorem ref04_BaseDistance_calls {v0 : Value} {Kp : PK} {K : Value → WP} {w : World} (h : ref04_BaseDistance v0 Kp K w) : Calls Try.prog 136 #[v0] w (after Kp K) :=
 calls_of_shape (calls_of_cev wide Try.func136 (an := ref04_BaseDistance_an) (args := [v0]) (cast (congrFun (ref04_BaseDistance_eq v0 Kp K) w).symm h))
theorem ref04_BaseDistance_cn {v0 : Value} {W : World} {α : Type} {A : List HP} {r : α → Value} {B : α → List HP} (h : ∀ F, Ent W (A ++ F) (ref04_BaseDistance v0 noP fun v w => ∃ x, v = r x ∧ sat W (B x ++ F) w)) : Cn Try.prog 136 [v0] W A r B :=
 Cn.of (shape := ref04_BaseDistance v0) Try.call136 (fun h => ref04_BaseDistance_calls h) h
def ref03_coins (v0 : Value) (Kp : PK) (K : Value → WP) : WP :=
  loop2 (fun I1 m1 _ y3 y4 =>
   opN Try.prog (sLen #[119] 3 [v0]) Kp fun x9 =>
   opN Try.prog (sBin .lss 3 y4 x9) Kp fun x10 =>
   condS x10
   (opN Try.prog (sIA 119 v0 y4) Kp fun x15 =>
    opN Try.prog (sLoad 3 x15) Kp fun x16 =>
    opN Try.prog (sEq .eql 3 (.tmp 16) (.const (.int .i64 0)) x16 (.int .i64 0)) Kp fun x17 =>
    condS x17
    (opN Try.prog (sBin .add 3 y4 (.int .i64 1)) Kp fun x12 =>
     next2 I1 m1 y3 x12)
    (opN Try.prog (sLen #[202] 3 [y3]) Kp fun x19 =>
     loop1 (fun I2 m2 _ y5 =>
      drS (stS Try.prog (sBin .gtr 3 y5 (.int .i64 0)) fun x21 =>
       gdK x21 true (fun k => k y3) fun x23 =>
       gdK x21 true (fun k => k y5) fun x24 =>
       gdK x21 true (stS Try.prog (sBin .sub 3 x24 (.int .i64 1))) fun x25 =>
       gdK x21 true (stS Try.prog (sIA 202 x23 x25)) fun x26 =>
       gdK x21 true (stS Try.prog (sFA 205 x26 0)) fun x27 =>
       gdK x21 true (stS Try.prog (sLoad 3 x27)) fun x28 =>
       gdK x21 true (fun k => k v0) fun x29 =>
       gdK x21 true (fun k => k y4) fun x30 =>
       gdK x21 true (stS Try.prog (sIA 119 x29 x30)) fun x31 =>
       gdK x21 true (stS Try.prog (sLoad 3 x31)) fun x32 =>
       gdK x21 true (stS Try.prog (sBin .gtr 3 x28 x32)) fun x33 =>
       stS Try.prog (sPick x21 x33 (.bool false)) fun x34 =>
       condS x34
       (opN Try.prog (sBin .sub 3 y5 (.int .i64 1)) Kp fun x36 =>
        next1 I2 m2 x36)
       (opN Try.prog (sBuildSl 202 0 []) Kp fun x37 =>
        opN Try.prog (sSl 202 y3 (some y5) none none) Kp fun x40 =>
        opN Try.prog (sApp #[202, 202] 202 [x37, x40]) Kp fun x41 =>
        drS (stD Try.prog (sSl 202 y3 none (some y5) none) fun D2 x44 =>
         stD Try.prog (sIA 119 v0 y4) fun D5 x47 =>
         stD Try.prog (sLoad 3 x47) fun D6 x48 =>
         opN Try.prog (sBuildSl 119 1 [(0, y4)]) Kp fun x50 =>
         (fun w => D6 w ∧ (fun w => D5 w ∧ (fun w => D2 w ∧ (stS Try.prog (sBuild 205 [(0, x48), (1, x50)]) fun x51 =>
             opN Try.prog (sBuildSl 202 1 [(0, x51)]) Kp fun x52 =>
             (fun w => D2 w ∧ (opN Try.prog (sApp #[202, 202] 202 [x44, x52]) Kp fun x53 =>
               opN Try.prog (sApp #[202, 202] 202 [x53, x41]) Kp fun x55 =>
               opN Try.prog (sBin .add 3 y4 (.int .i64 1)) Kp fun x12 =>
               next2 I1 m1 x55 x12) w)) w) w) w))))) x19))
   (K y3)) (.slice none 0 0) (.int .i64 0)
def ref03_coins_an : Ann := { cuts := [], blks := [], loops := [(3, [3, 4]), (7, [5])], drs := [(7, .ofL [(0, 1), (1, 1), (2, 1), (3, 1), (4, 1), (5, 1), (6, 1), (7, 1), (8, 1), (9, 1), (10, 1), (11, 1), (12, 1), (13, 1), (14, 1)]), (10, .ofL [(0, 2), (1, 2), (2, 3), (3, 2), (4, 2), (5, 3), (6, 3), (7, 1), (12, 2), (8, 0), (9, 1), (10, 0), (11, 0), (13, 0), (14, 1)])] }
theorem ref03_coins_eq (v0 : Value) (Kp : PK) (K : Value → WP) : cevF Try.prog ref03_coins_an Try.f137 [v0] Kp K = ref03_coins v0 Kp K := by kernel_rfl
theorem ref03_coins_calls {v0 : Value} {Kp : PK} {K : Value → WP} {w : World} (h : ref03_coins v0 Kp K w) : Calls Try.prog 137 #[v0] w (after Kp K) :=
 calls_of_shape (calls_of_cev wide Try.func137 (an := ref03_coins_an) (args := [v0]) (cast (congrFun (ref03_coins_eq v0 Kp K) w).symm h))
theorem ref03_coins_cn {v0 : Value} {W : World} {α : Type} {A : List HP} {r : α → Value} {B : α → List HP} (h : ∀ F, Ent W (A ++ F) (ref03_coins v0 noP fun v w => ∃ x, v = r x ∧ sat W (B x ++ F) w)) : Cn Try.prog 137 [v0] W A r B :=
 Cn.of (shape := ref03_coins v0) Try.call137 (fun h => ref03_coins_calls h) h
def ref03_merged (v0 v1 : Value) (Kp : PK) (K : Value → WP) : WP :=
  loop3 (fun I1 m1 _ y5 y6 y7 =>
   opN Try.prog (sLen #[202] 3 [v0]) Kp fun x10 =>
   opN Try.prog (sBin .lss 3 y7 x10) Kp fun x11 =>
   condS x11
   (loop2 (fun I2 m2 _ y5 y6 =>
     drS (stS Try.prog (sLen #[202] 3 [v1]) fun x16 =>
      stS Try.prog (sBin .lss 3 y6 x16) fun x17 =>
      gdK x17 true (fun k => k v1) fun x19 =>
      gdK x17 true (fun k => k y6) fun x20 =>
      gdK x17 true (stS Try.prog (sIA 202 x19 x20)) fun x21 =>
      gdK x17 true (stS Try.prog (sFA 205 x21 0)) fun x22 =>
      gdK x17 true (stS Try.prog (sLoad 3 x22)) fun x23 =>
      gdK x17 true (fun k => k v0) fun x24 =>
      gdK x17 true (fun k => k y7) fun x25 =>
      gdK x17 true (stS Try.prog (sIA 202 x24 x25)) fun x26 =>
      gdK x17 true (stS Try.prog (sFA 205 x26 0)) fun x27 =>
      gdK x17 true (stS Try.prog (sLoad 3 x27)) fun x28 =>
      gdK x17 true (stS Try.prog (sBin .lss 3 x23 x28)) fun x29 =>
      stS Try.prog (sPick x17 x29 (.bool false)) fun x30 =>
      condS x30
      (opN Try.prog (sIA 202 v1 y6) Kp fun x34 =>
       opN Try.prog (sLoad 205 x34) Kp fun x35 =>
       opN Try.prog (sBuildSl 202 1 [(0, x35)]) Kp fun x36 =>
       opN Try.prog (sApp #[202, 202] 202 [y5, x36]) Kp fun x37 =>
       opN Try.prog (sBin .add 3 y6 (.int .i64 1)) Kp fun x39 =>
       next2 I2 m2 x37 x39)
      (opN Try.prog (sIA 202 v0 y7) Kp fun x43 =>
       opN Try.prog (sLoad 205 x43) Kp fun x44 =>
       opN Try.prog (sBuildSl 202 1 [(0, x44)]) Kp fun x45 =>
       opN Try.prog (sApp #[202, 202] 202 [y5, x45]) Kp fun x46 =>
       opN Try.prog (sBin .add 3 y7 (.int .i64 1)) Kp fun x13 =>
       next3 I1 m1 x46 y6 x13))) y5 y6)
   (opN Try.prog (sSl 202 v1 (some y6) none none) Kp fun x50 =>
    opN Try.prog (sApp #[202, 202] 202 [y5, x50]) Kp fun x51 =>
    K x51)) (.slice none 0 0) (.int .i64 0) (.int .i64 0)
def ref03_merged_an : Ann := { cuts := [], blks := [], loops := [(4, [5, 6, 7]), (6, [5, 6])], drs := [(6, .ofL [(0, 1), (1, 1), (2, 1), (3, 1), (4, 1), (5, 1), (6, 1), (7, 1), (8, 1), (9, 1), (10, 1), (11, 1), (12, 1), (13, 1), (14, 1), (15, 1), (16, 1)])] }
theorem ref03_merged_eq (v0 v1 : Value) (Kp : PK) (K : Value → WP) : cevF Try.prog ref03_merged_an Try.f138 [v0, v1] Kp K = ref03_merged v0 v1 Kp K := by kernel_rfl
theorem ref03_merged_calls {v0 v1 : Value} {Kp : PK} {K : Value → WP} {w : World} (h : ref03_merged v0 v1 Kp K w) : Calls Try.prog 138 #[v0, v1] w (after Kp K) :=
 calls_of_shape (calls_of_cev wide Try.func138 (an := ref03_merged_an) (args := [v0, v1]) (cast (congrFun (ref03_merged_eq v0 v1 Kp K) w).symm h))
theorem ref03_merged_cn {v0 v1 : Value} {W : World} {α : Type} {A : List HP} {r : α → Value} {B : α → List HP} (h : ∀ F, Ent W (A ++ F) (ref03_merged v0 v1 noP fun v w => ∃ x, v = r x ∧ sat W (B x ++ F) w)) : Cn Try.prog 138 [v0, v1] W A r B :=
 Cn.of (shape := ref03_merged v0 v1) Try.call138 (fun h => ref03_merged_calls h) h
def slices_stableCmpFunc_huff_weighed_int (v0 v1 v2 : Value) (Kp : PK) (K : Value → WP) : WP :=
  loop2 (fun I1 m1 _ y7 y8 =>
   opN Try.prog (sBin .leq 3 y8 v1) Kp fun x13 =>
   condS x13
   (opN Try.prog (sCall (fn 143) [v0, y7, y8, v2]) Kp fun x18 =>
    opN Try.prog (sBin .add 3 y8 (.int .i64 20)) Kp fun x22 =>
    next2 I1 m1 y8 x22)
   (opN Try.prog (sCall (fn 143) [v0, y7, v1, v2]) Kp fun x27 =>
    loop1 (fun I2 m2 _ y6 =>
     opN Try.prog (sBin .lss 3 y6 v1) Kp fun x30 =>
     condS x30
     (opN Try.prog (sBin .mul 3 (.int .i64 2) y6) Kp fun x32 =>
      loop2 (fun I3 m3 _ y7_2 y8_2 =>
       opN Try.prog (sBin .leq 3 y8_2 v1) Kp fun x35 =>
       condS x35
       (opN Try.prog (sBin .add 3 y7_2 y6) Kp fun x40 =>
        opN Try.prog (sCall (fn 144) [v0, y7_2, x40, y8_2, v2]) Kp fun x43 =>
        opN Try.prog (sBin .mul 3 (.int .i64 2) y6) Kp fun x47 =>
        opN Try.prog (sBin .add 3 y8_2 x47) Kp fun x48 =>
        next2 I3 m3 y8_2 x48)
       (opN Try.prog (sBin .add 3 y7_2 y6) Kp fun x51 =>
        opN Try.prog (sBin .lss 3 x51 v1) Kp fun x54 =>
        condS x54
        (opN Try.prog (sCall (fn 144) [v0, y7_2, x51, v1, v2]) Kp fun x60 =>
         opN Try.prog (sBin .mul 3 y6 (.int .i64 2)) Kp fun x62 =>
         next1 I2 m2 x62)
        (opN Try.prog (sBin .mul 3 y6 (.int .i64 2)) Kp fun x62 =>
         next1 I2 m2 x62))) (.int .i64 0) x32)
     (K (.tuple #[]))) (.int .i64 20))) (.int .i64 0) (.int .i64 20)
def slices_stableCmpFunc_huff_weighed_int_an : Ann := { cuts := [], blks := [], loops := [(2, [7, 8]), (7, [6]), (9, [7, 8])], drs := [] }
theorem slices_stableCmpFunc_huff_weighed_int_eq (v0 v1 v2 : Value) (Kp : PK) (K : Value → WP) : cevF Try.prog slices_stableCmpFunc_huff_weighed_int_an Try.f140 [v0, v1, v2] Kp K = slices_stableCmpFunc_huff_weighed_int v0 v1 v2 Kp K := by kernel_rfl
theorem slices_stableCmpFunc_huff_weighed_int_calls {v0 v1 v2 : Value} {Kp : PK} {K : Value → WP} {w : World} (h : slices_stableCmpFunc_huff_weighed_int v0 v1 v2 Kp K w) : Calls Try.prog 140 #[v0, v1, v2] w (after Kp K) :=
 calls_of_shape (calls_of_cev wide Try.func140 (an := slices_stableCmpFunc_huff_weighed_int_an) (args := [v0, v1, v2]) (cast (congrFun (slices_stableCmpFunc_huff_weighed_int_eq v0 v1 v2 Kp K) w).symm h))
theorem slices_stableCmpFunc_huff_weighed_int_cn {v0 v1 v2 : Value} {W : World} {α : Type} {A : List HP} {r : α → Value} {B : α → List HP} (h : ∀ F, Ent W (A ++ F) (slices_stableCmpFunc_huff_weighed_int v0 v1 v2 noP fun v w => ∃ x, v = r x ∧ sat W (B x ++ F) w)) : Cn Try.prog 140 [v0, v1, v2] W A r B :=
 Cn.of (shape := slices_stableCmpFunc_huff_weighed_int v0 v1 v2) Try.call140 (fun h => slices_stableCmpFunc_huff_weighed_int_calls h) h
def cmp_isNaN_int (v0 : Value) (Kp : PK) (K : Value → WP) : WP :=
 opN Try.prog (sEq .neq 3 (.tmp 3) (.tmp 4) v0 v0) Kp fun x5 =>
 K x5
def cmp_isNaN_int_an : Ann := { cuts := [], blks := [], loops := [], drs := [] }
theorem cmp_isNaN_int_eq (v0 : Value) (Kp : PK) (K : Value → WP) : cevF Try.prog cmp_isNaN_int_an Try.f141 [v0] Kp K = cmp_isNaN_int v0 Kp K := by kernel_rfl
theorem cmp_isNaN_int_calls {v0 : Value} {Kp : PK} {K : Value → WP} {w : World} (h : cmp_isNaN_int v0 Kp K w) : Calls Try.prog 141 #[v0] w (after Kp K) :=
 calls_of_shape (calls_of_cev wide Try.func141 (an := cmp_isNaN_int_an) (args := [v0]) (cast (congrFun (cmp_isNaN_int_eq v0 Kp K) w).symm h))
theorem cmp_isNaN_int_cn {v0 : Value} {W : World} {α : Type} {A : List HP} {r : α → Value} {B : α → List HP} (h : ∀ F, Ent W (A ++ F) (cmp_isNaN_int v0 noP fun v w => ∃ x, v = r x ∧ sat W (B x ++ F) w)) : Cn Try.prog 141 [v0] W A r B :=
 Cn.of (shape := cmp_isNaN_int v0) Try.call141 (fun h => cmp_isNaN_int_calls h) h
def slices_Grow_int_int (v0 v1 : Value) (Kp : PK) (K : Value → WP) : WP :=
  cut0 (fun J1 =>
   opN Try.prog (sBin .lss 3 v1 (.int .i64 0)) Kp fun x6 =>
   condS x6
   (opN Try.prog (sMkI 9 (.string ⟨#[99, 97, 110, 110, 111, 116, 32, 98, 101, 32, 110, 101, 103, 97, 116, 105, 118, 101]⟩)) Kp fun x7 =>
    opN Try.prog (sPanic x7) Kp fun _ =>
    J1)
   (J1)) fun _ =>
  opN Try.prog (sCap #[119] 3 [v0]) Kp fun x10 =>
  opN Try.prog (sLen #[119] 3 [v0]) Kp fun x12 =>
  opN Try.prog (sBin .sub 3 x10 x12) Kp fun x13 =>
  opN Try.prog (sBin .sub 3 v1 x13) Kp fun x14 =>
  opN Try.prog (sBin .gtr 3 x14 (.int .i64 0)) Kp fun x16 =>
  condS x16
  (opN Try.prog (sCap #[119] 3 [v0]) Kp fun x19 =>
   opN Try.prog (sSl 119 v0 none (some x19) none) Kp fun x20 =>
   opN Try.prog (sApp #[119, 3] 119 [x20, x14]) Kp fun x22 =>
   opN Try.prog (sLen #[119] 3 [v0]) Kp fun x24 =>
   opN Try.prog (sSl 119 x22 none (some x24) none) Kp fun x25 =>
   K x25)
  (K v0)
def slices_Grow_int_int_an : Ann := { cuts := [(3, [])], blks := [], loops := [], drs := [] }
theorem slices_Grow_int_int_eq (v0 v1 : Value) (Kp : PK) (K : Value → WP) : cevF Try.prog slices_Grow_int_int_an Try.f142 [v0, v1] Kp K = slices_Grow_int_int v0 v1 Kp K := by kernel_rfl
theorem slices_Grow_int_int_calls {v0 v1 : Value} {Kp : PK} {K : Value → WP} {w : World} (h : slices_Grow_int_int v0 v1 Kp K w) : Calls Try.prog 142 #[v0, v1] w (after Kp K) :=
 calls_of_shape (calls_of_cev wide Try.func142 (an := slices_Grow_int_int_an) (args := [v0, v1]) (cast (congrFun (slices_Grow_int_int_eq v0 v1 Kp K) w).symm h))
theorem slices_Grow_int_int_cn {v0 v1 : Value} {W : World} {α : Type} {A : List HP} {r : α → Value} {B : α → List HP} (h : ∀ F, Ent W (A ++ F) (slices_Grow_int_int v0 v1 noP fun v w => ∃ x, v = r x ∧ sat W (B x ++ F) w)) : Cn Try.prog 142 [v0, v1] W A r B :=
 Cn.of (shape := slices_Grow_int_int v0 v1) Try.call142 (fun h => slices_Grow_int_int_calls h) h
def slices_insertionSortCmpFunc_huff_weighed_int (v0 v1 v2 v3 : Value) (Kp : PK) (K : Value → WP) : WP :=
  opN Try.prog (sBin .add 3 v1 (.int .i64 1)) Kp fun x11 =>
  loop1 (fun I1 m1 _ y8 =>
   opN Try.prog (sBin .lss 3 y8 v2) Kp fun x14 =>
   condS x14
   (loop1 (fun I2 m2 _ y9 =>
     drS (stS Try.prog (sBin .gtr 3 y9 v1) fun x20 =>
      gdK x20 true (fun k => k v3) fun x22 =>
      gdK x20 true (fun k => k v0) fun x23 =>
      gdK x20 true (fun k => k y9) fun x24 =>
      gdK x20 true (stS Try.prog (sIA 191 x23 x24)) fun x25 =>
      gdK x20 true (stS Try.prog (sLoad 193 x25)) fun x26 =>
      gdK x20 true (fun k => k v0) fun x27 =>
      gdK x20 true (fun k => k y9) fun x28 =>
      gdK x20 true (stS Try.prog (sBin .sub 3 x28 (.int .i64 1))) fun x29 =>
      gdK x20 true (stS Try.prog (sIA 191 x27 x29)) fun x30 =>
      gdK x20 true (stS Try.prog (sLoad 193 x30)) fun x31 =>
      gdK x20 true (opN Try.prog (sCall x22 [x26, x31]) Kp) fun x32 =>
      gdK x20 true (stS Try.prog (sBin .lss 3 x32 (.int .i64 0))) fun x33 =>
      stS Try.prog (sPick x20 x33 (.bool false)) fun x34 =>
      condS x34
      (drS (stD Try.prog (sBin .sub 3 y9 (.int .i64 1)) fun D4 x41 =>
        stS Try.prog (sBin .sub 3 y9 (.int .i64 1)) fun x44 =>
        stS Try.prog (sIA 191 v0 x44) fun x45 =>
        stS Try.prog (sLoad 193 x45) fun x46 =>
        stS Try.prog (sIA 191 v0 y9) fun x49 =>
        stS Try.prog (sLoad 193 x49) fun x50 =>
        stS Try.prog (sIA 191 v0 y9) fun x51 =>
        opN Try.prog (sStore 193 x51 x46) Kp fun _ =>
        (fun w => D4 w ∧ (stS Try.prog (sIA 191 v0 x41) fun x52 =>
          opN Try.prog (sStore 193 x52 x50) Kp fun _ =>
          opN Try.prog (sBin .sub 3 y9 (.int .i64 1)) Kp fun x36 =>
          next1 I2 m2 x36) w)))
      (opN Try.prog (sBin .add 3 y8 (.int .i64 1)) Kp fun x16 =>
       next1 I1 m1 x16))) y8)
   (K (.tuple #[]))) x11
def slices_insertionSortCmpFunc_huff_weighed_int_an : Ann := { cuts := [], blks := [], loops := [(1, [8]), (4, [9])], drs := [(4, .ofL [(0, 1), (1, 1), (2, 1), (3, 1), (4, 1), (5, 1), (6, 1), (7, 1), (8, 1), (9, 1), (10, 1), (11, 1), (12, 1), (13, 1), (14, 0), (15, 1), (16, 1)]), (6, .ofL [(0, 1), (1, 1), (2, 2), (3, 2), (4, 3), (5, 1), (6, 1), (7, 1), (8, 1), (9, 1), (10, 1), (11, 1), (12, 1), (13, 1), (14, 1), (15, 0), (16, 1), (17, 0)])] }
theorem slices_insertionSortCmpFunc_huff_weighed_int_eq (v0 v1 v2 v3 : Value) (Kp : PK) (K : Value → WP) : cevF Try.prog slices_insertionSortCmpFunc_huff_weighed_int_an Try.f143 [v0, v1, v2, v3] Kp K = slices_insertionSortCmpFunc_huff_weighed_int v0 v1 v2 v3 Kp K := by kernel_rfl
theorem slices_insertionSortCmpFunc_huff_weighed_int_calls {v0 v1 v2 v3 : Value} {Kp : PK} {K : Value → WP} {w : World} (h : slices_insertionSortCmpFunc_huff_weighed_int v0 v1 v2 v3 Kp K w) : Calls Try.prog 143 #[v0, v1, v2, v3] w (after Kp K) :=
 calls_of_shape (calls_of_cev wide Try.func143 (an := slices_insertionSortCmpFunc_huff_weighed_int_an) (args := [v0, v1, v2, v3]) (cast (congrFun (slices_insertionSortCmpFunc_huff_weighed_int_eq v0 v1 v2 v3 Kp K) w).symm h))
theorem slices_insertionSortCmpFunc_huff_weighed_int_cn {v0 v1 v2 v3 : Value} {W : World} {α : Type} {A : List HP} {r : α → Value} {B : α → List HP} (h : ∀ F, Ent W (A ++ F) (slices_insertionSortCmpFunc_huff_weighed_int v0 v1 v2 v3 noP fun v w => ∃ x, v = r x ∧ sat W (B x ++ F) w)) : Cn Try.prog 143 [v0, v1, v2, v3] W A r B :=
 Cn.of (shape := slices_insertionSortCmpFunc_huff_weighed_int v0 v1 v2 v3) Try.call143 (fun h => slices_insertionSortCmpFunc_huff_weighed_int_calls h) h
def slices_symMergeCmpFunc_huff_weighed_int (v0 v1 v2 v3 v4 : Value) (Kp : PK) (K : Value → WP) : WP :=
  opN Try.prog (sBin .sub 3 v2 v1) Kp fun x27 =>
  opN Try.prog (sEq .eql 3 (.tmp 27) (.const (.int .i64 1)) x27 (.int .i64 1)) Kp fun x28 =>
  condS x28
  (loop2 (fun I1 m1 _ y10 y11 =>
    opN Try.prog (sBin .lss 3 y10 y11) Kp fun x33 =>
    condS x33
    (opN Try.prog (sBin .add 3 y10 y11) Kp fun x36 =>
     opN Try.prog (sConv 3 87 x36) Kp fun x37 =>
     opN Try.prog (sBin .shr 87 x37 (.int .u64 1)) Kp fun x38 =>
     opN Try.prog (sConv 87 3 x38) Kp fun x39 =>
     drS (stS Try.prog (sIA 191 v0 x39) fun x43 =>
      stS Try.prog (sLoad 193 x43) fun x44 =>
      stS Try.prog (sIA 191 v0 v1) fun x47 =>
      stS Try.prog (sLoad 193 x47) fun x48 =>
      opN Try.prog (sCall v4 [x44, x48]) Kp fun x49 =>
      stS Try.prog (sBin .lss 3 x49 (.int .i64 0)) fun x50 =>
      condS x50
      (opN Try.prog (sBin .add 3 x39 (.int .i64 1)) Kp fun x52 =>
       next2 I1 m1 x52 y11)
      (next2 I1 m1 y10 x39)))
    (loop1 (fun I2 m2 _ y13 =>
      opN Try.prog (sBin .sub 3 y10 (.int .i64 1)) Kp fun x57 =>
      opN Try.prog (sBin .lss 3 y13 x57) Kp fun x58 =>
      condS x58
      (drS (stD Try.prog (sBin .add 3 y13 (.int .i64 1)) fun D4 x65 =>
        stS Try.prog (sBin .add 3 y13 (.int .i64 1)) fun x68 =>
        stS Try.prog (sIA 191 v0 x68) fun x69 =>
        stS Try.prog (sLoad 193 x69) fun x70 =>
        stS Try.prog (sIA 191 v0 y13) fun x73 =>
        stS Try.prog (sLoad 193 x73) fun x74 =>
        stS Try.prog (sIA 191 v0 y13) fun x75 =>
        opN Try.prog (sStore 193 x75 x70) Kp fun _ =>
        (fun w => D4 w ∧ (stS Try.prog (sIA 191 v0 x65) fun x76 =>
          opN Try.prog (sStore 193 x76 x74) Kp fun _ =>
          opN Try.prog (sBin .add 3 y13 (.int .i64 1)) Kp fun x60 =>
          next1 I2 m2 x60) w)))
      (K (.tuple #[]))) v1)) v2 v3)
  (opN Try.prog (sBin .sub 3 v3 v2) Kp fun x79 =>
   opN Try.prog (sEq .eql 3 (.tmp 79) (.const (.int .i64 1)) x79 (.int .i64 1)) Kp fun x80 =>
   condS x80
   (loop2 (fun I3 m3 _ y14 y15 =>
     opN Try.prog (sBin .lss 3 y14 y15) Kp fun x85 =>
     condS x85
     (opN Try.prog (sBin .add 3 y14 y15) Kp fun x88 =>
      opN Try.prog (sConv 3 87 x88) Kp fun x89 =>
      opN Try.prog (sBin .shr 87 x89 (.int .u64 1)) Kp fun x90 =>
      opN Try.prog (sConv 87 3 x90) Kp fun x91 =>
      drS (stS Try.prog (sIA 191 v0 v2) fun x95 =>
       stS Try.prog (sLoad 193 x95) fun x96 =>
       stS Try.prog (sIA 191 v0 x91) fun x99 =>
       stS Try.prog (sLoad 193 x99) fun x100 =>
       opN Try.prog (sCall v4 [x96, x100]) Kp fun x101 =>
       stS Try.prog (sBin .lss 3 x101 (.int .i64 0)) fun x102 =>
       stS Try.prog (sUn .not x102) fun x103 =>
       condS x103
       (opN Try.prog (sBin .add 3 x91 (.int .i64 1)) Kp fun x105 =>
        next2 I3 m3 x105 y15)
       (next2 I3 m3 y14 x91)))
     (loop1 (fun I4 m4 _ y17 =>
       opN Try.prog (sBin .gtr 3 y17 y14) Kp fun x110 =>
       condS x110
       (drS (stD Try.prog (sBin .sub 3 y17 (.int .i64 1)) fun D4 x117 =>
         stS Try.prog (sBin .sub 3 y17 (.int .i64 1)) fun x120 =>
         stS Try.prog (sIA 191 v0 x120) fun x121 =>
         stS Try.prog (sLoad 193 x121) fun x122 =>
         stS Try.prog (sIA 191 v0 y17) fun x125 =>
         stS Try.prog (sLoad 193 x125) fun x126 =>
         stS Try.prog (sIA 191 v0 y17) fun x127 =>
         opN Try.prog (sStore 193 x127 x122) Kp fun _ =>
         (fun w => D4 w ∧ (stS Try.prog (sIA 191 v0 x117) fun x128 =>
           opN Try.prog (sStore 193 x128 x126) Kp fun _ =>
           opN Try.prog (sBin .sub 3 y17 (.int .i64 1)) Kp fun x112 =>
           next1 I4 m4 x112) w)))
       (K (.tuple #[]))) v2)) v1 v2)
   (opN Try.prog (sBin .add 3 v1 v3) Kp fun x131 =>
    opN Try.prog (sConv 3 87 x131) Kp fun x132 =>
    opN Try.prog (sBin .shr 87 x132 (.int .u64 1)) Kp fun x133 =>
    opN Try.prog (sConv 87 3 x133) Kp fun x134 =>
    opN Try.prog (sBin .add 3 x134 v2) Kp fun x137 =>
    cut2 (fun J1 =>
     opN Try.prog (sBin .gtr 3 v2 x134) Kp fun x140 =>
     condS x140
     (opN Try.prog (sBin .sub 3 x137 v3) Kp fun x143 =>
      J1 x143 x134)
     (J1 v1 v2)) fun _ z20 z21 =>
    opN Try.prog (sBin .sub 3 x137 (.int .i64 1)) Kp fun x148 =>
    loop2 (fun I5 m5 _ y20 y21 =>
     opN Try.prog (sBin .lss 3 y20 y21) Kp fun x151 =>
     condS x151
     (opN Try.prog (sBin .add 3 y20 y21) Kp fun x154 =>
      opN Try.prog (sConv 3 87 x154) Kp fun x155 =>
      opN Try.prog (sBin .shr 87 x155 (.int .u64 1)) Kp fun x156 =>
      opN Try.prog (sConv 87 3 x156) Kp fun x157 =>
      drS (stS Try.prog (sBin .sub 3 x148 x157) fun x162 =>
       stS Try.prog (sIA 191 v0 x162) fun x163 =>
       stS Try.prog (sLoad 193 x163) fun x164 =>
       stS Try.prog (sIA 191 v0 x157) fun x167 =>
       stS Try.prog (sLoad 193 x167) fun x168 =>
       opN Try.prog (sCall v4 [x164, x168]) Kp fun x169 =>
       stS Try.prog (sBin .lss 3 x169 (.int .i64 0)) fun x170 =>
       stS Try.prog (sUn .not x170) fun x171 =>
       condS x171
       (opN Try.prog (sBin .add 3 x157 (.int .i64 1)) Kp fun x173 =>
        next2 I5 m5 x173 y21)
       (next2 I5 m5 y20 x157)))
     (opN Try.prog (sBin .sub 3 x137 y20) Kp fun x177 =>
      cut0 (fun J2 =>
       opN Try.prog (sBin .lss 3 y20 v2) Kp fun x180 =>
       gdK x180 true (fun k => k v2) fun x182 =>
       gdK x180 true (fun k => k x177) fun x183 =>
       gdK x180 true (opN Try.prog (sBin .lss 3 x182 x183) Kp) fun x184 =>
       opN Try.prog (sPick x180 x184 (.bool false)) Kp fun x185 =>
       condS x185
       (opN Try.prog (sCall (fn 145) [v0, y20, v2, x177, v4]) Kp fun x191 =>
        J2)
       (J2)) fun _ =>
      cut0 (fun J3 =>
       opN Try.prog (sBin .lss 3 v1 y20) Kp fun x194 =>
       gdK x194 true (fun k => k y20) fun x196 =>
       gdK x194 true (fun k => k x134) fun x197 =>
       gdK x194 true (opN Try.prog (sBin .lss 3 x196 x197) Kp) fun x198 =>
       opN Try.prog (sPick x194 x198 (.bool false)) Kp fun x199 =>
       condS x199
       (opN Try.prog (sCall (fn 144) [v0, v1, y20, x134, v4]) Kp fun x205 =>
        J3)
       (J3)) fun _ =>
      opN Try.prog (sBin .lss 3 x134 x177) Kp fun x208 =>
      gdK x208 true (fun k => k x177) fun x210 =>
      gdK x208 true (fun k => k v3) fun x211 =>
      gdK x208 true (opN Try.prog (sBin .lss 3 x210 x211) Kp) fun x212 =>
      opN Try.prog (sPick x208 x212 (.bool false)) Kp fun x213 =>
      condS x213
      (opN Try.prog (sCall (fn 144) [v0, x134, x177, v3, v4]) Kp fun x219 =>
       K (.tuple #[]))
      (K (.tuple #[])))) z20 z21))
def slices_symMergeCmpFunc_huff_weighed_int_an : Ann := { cuts := [(32, [20, 21]), (41, []), (43, [])], blks := [], loops := [(3, [10, 11]), (9, [13]), (15, [14, 15]), (21, [17]), (33, [20, 21])], drs := [(5, .ofL [(0, 1), (1, 1), (2, 1), (3, 1), (4, 1), (5, 1), (6, 1), (7, 1), (8, 1), (9, 0), (10, 1)]), (11, .ofL [(0, 1), (1, 1), (2, 2), (3, 2), (4, 3), (5, 1), (6, 1), (7, 1), (8, 1), (9, 1), (10, 1), (11, 1), (12, 1), (13, 1), (14, 1), (15, 0), (16, 1), (17, 0)]), (17, .ofL [(0, 1), (1, 1), (2, 1), (3, 1), (4, 1), (5, 1), (6, 1), (7, 1), (8, 1), (9, 0), (10, 1), (11, 1)]), (23, .ofL [(0, 1), (1, 1), (2, 2), (3, 2), (4, 3), (5, 1), (6, 1), (7, 1), (8, 1), (9, 1), (10, 1), (11, 1), (12, 1), (13, 1), (14, 1), (15, 0), (16, 1), (17, 0)]), (35, .ofL [(0, 1), (1, 1), (2, 1), (3, 1), (4, 1), (5, 1), (6, 1), (7, 1), (8, 1), (9, 1), (10, 1), (11, 0), (12, 1), (13, 1)])] }
theorem slices_symMergeCmpFunc_huff_weighed_int_eq (v0 v1 v2 v3 v4 : Value) (Kp : PK) (K : Value → WP) : cevF Try.prog slices_symMergeCmpFunc_huff_weighed_int_an Try.f144 [v0, v1, v2, v3, v4] Kp K = slices_symMergeCmpFunc_huff_weighed_int v0 v1 v2 v3 v4 Kp K := by kernel_rfl
theorem slices_symMergeCmpFunc_huff_weighed_int_calls {v0 v1 v2 v3 v4 : Value} {Kp : PK} {K : Value → WP} {w : World} (h : slices_symMergeCmpFunc_huff_weighed_int v0 v1 v2 v3 v4 Kp K w) : Calls Try.prog 144 #[v0, v1, v2, v3, v4] w (after Kp K) :=
 calls_of_shape (calls_of_cev wide Try.func144 (an := slices_symMergeCmpFunc_huff_weighed_int_an) (args := [v0, v1, v2, v3, v4]) (cast (congrFun (slices_symMergeCmpFunc_huff_weighed_int_eq v0 v1 v2 v3 v4 Kp K) w).symm h))
theorem slices_symMergeCmpFunc_huff_weighed_int_cn {v0 v1 v2 v3 v4 : Value} {W : World} {α : Type} {A : List HP} {r : α → Value} {B : α → List HP} (h : ∀ F, Ent W (A ++ F) (slices_symMergeCmpFunc_huff_weighed_int v0 v1 v2 v3 v4 noP fun v w => ∃ x, v = r x ∧ sat W (B x ++ F) w)) : Cn Try.prog 144 [v0, v1, v2, v3, v4] W A r B :=
 Cn.of (shape := slices_symMergeCmpFunc_huff_weighed_int v0 v1 v2 v3 v4) Try.call144 (fun h => slices_symMergeCmpFunc_huff_weighed_int_calls h) h
def slices_rotateCmpFunc_huff_weighed_int (v0 v1 v2 v3 v4 : Value) (Kp : PK) (K : Value → WP) : WP :=
  opN Try.prog (sBin .sub 3 v2 v1) Kp fun x14 =>
  opN Try.prog (sBin .sub 3 v3 v2) Kp fun x17 =>
  loop2 (fun I1 m1 _ y10 y11 =>
   opN Try.prog (sEq .neq 3 (.tmp 18) (.tmp 19) y10 y11) Kp fun x20 =>
   condS x20
   (opN Try.prog (sBin .gtr 3 y10 y11) Kp fun x23 =>
    condS x23
    (opN Try.prog (sBin .sub 3 v2 y10) Kp fun x27 =>
     opN Try.prog (sCall (fn 146) [v0, x27, v2, y11, v4]) Kp fun x31 =>
     opN Try.prog (sBin .sub 3 y10 y11) Kp fun x34 =>
     next2 I1 m1 x34 y11)
    (opN Try.prog (sBin .sub 3 v2 y10) Kp fun x38 =>
     opN Try.prog (sBin .add 3 v2 y11) Kp fun x41 =>
     opN Try.prog (sBin .sub 3 x41 y10) Kp fun x43 =>
     opN Try.prog (sCall (fn 146) [v0, x38, x43, y10, v4]) Kp fun x46 =>
     opN Try.prog (sBin .sub 3 y11 y10) Kp fun x49 =>
     next2 I1 m1 y10 x49))
   (opN Try.prog (sBin .sub 3 v2 y10) Kp fun x53 =>
    opN Try.prog (sCall (fn 146) [v0, x53, v2, y10, v4]) Kp fun x57 =>
    K (.tuple #[]))) x14 x17
def slices_rotateCmpFunc_huff_weighed_int_an : Ann := { cuts := [], blks := [], loops := [(2, [10, 11])], drs := [] }
theorem slices_rotateCmpFunc_huff_weighed_int_eq (v0 v1 v2 v3 v4 : Value) (Kp : PK) (K : Value → WP) : cevF Try.prog slices_rotateCmpFunc_huff_weighed_int_an Try.f145 [v0, v1, v2, v3, v4] Kp K = slices_rotateCmpFunc_huff_weighed_int v0 v1 v2 v3 v4 Kp K := by kernel_rfl
theorem slices_rotateCmpFunc_huff_weighed_int_calls {v0 v1 v2 v3 v4 : Value} {Kp : PK} {K : Value → WP} {w : World} (h : slices_rotateCmpFunc_huff_weighed_int v0 v1 v2 v3 v4 Kp K w) : Calls Try.prog 145 #[v0, v1, v2, v3, v4] w (after Kp K) :=
 calls_of_shape (calls_of_cev wide Try.func145 (an := slices_rotateCmpFunc_huff_weighed_int_an) (args := [v0, v1, v2, v3, v4]) (cast (congrFun (slices_rotateCmpFunc_huff_weighed_int_eq v0 v1 v2 v3 v4 Kp K) w).symm h))
theorem slices_rotateCmpFunc_huff_weighed_int_cn {v0 v1 v2 v3 v4 : Value} {W : World} {α : Type} {A : List HP} {r : α → Value} {B : α → List HP} (h : ∀ F, Ent W (A ++ F) (slices_rotateCmpFunc_huff_weighed_int v0 v1 v2 v3 v4 noP fun v w => ∃ x, v = r x ∧ sat W (B x ++ F) w)) : Cn Try.prog 145 [v0, v1, v2, v3, v4] W A r B :=
 Cn.of (shape := slices_rotateCmpFunc_huff_weighed_int v0 v1 v2 v3 v4) Try.call145 (fun h => slices_rotateCmpFunc_huff_weighed_int_calls h) h
def slices_swapRangeCmpFunc_huff_weighed_int (v0 v1 v2 v3 v4 : Value) (Kp : PK) (K : Value → WP) : WP :=
  loop1 (fun I1 m1 _ y10 =>
   opN Try.prog (sBin .lss 3 y10 v3) Kp fun x13 =>
   condS x13
   (drS (stS Try.prog (sBin .add 3 v1 y10) fun x19 =>
     stD Try.prog (sBin .add 3 v2 y10) fun D7 x23 =>
     stS Try.prog (sBin .add 3 v2 y10) fun x27 =>
     stS Try.prog (sIA 191 v0 x27) fun x28 =>
     stS Try.prog (sLoad 193 x28) fun x29 =>
     stS Try.prog (sBin .add 3 v1 y10) fun x33 =>
     stS Try.prog (sIA 191 v0 x33) fun x34 =>
     stS Try.prog (sLoad 193 x34) fun x35 =>
     stS Try.prog (sIA 191 v0 x19) fun x36 =>
     opN Try.prog (sStore 193 x36 x29) Kp fun _ =>
     (fun w => D7 w ∧ (stS Try.prog (sIA 191 v0 x23) fun x37 =>
       opN Try.prog (sStore 193 x37 x35) Kp fun _ =>
       opN Try.prog (sBin .add 3 y10 (.int .i64 1)) Kp fun x15 =>
       next1 I1 m1 x15) w)))
   (K (.tuple #[]))) (.int .i64 0)
def slices_swapRangeCmpFunc_huff_weighed_int_an : Ann := { cuts := [], blks := [], loops := [(1, [10])], drs := [(3, .ofL [(0, 1), (1, 1), (2, 1), (3, 1), (4, 2), (5, 2), (6, 2), (7, 3), (8, 1), (9, 1), (10, 1), (11, 1), (12, 1), (13, 1), (14, 1), (15, 1), (16, 1), (17, 1), (18, 1), (19, 1), (20, 1), (21, 0), (22, 1), (23, 0)])] }
theorem slices_swapRangeCmpFunc_huff_weighed_int_eq (v0 v1 v2 v3 v4 : Value) (Kp : PK) (K : Value → WP) : cevF Try.prog slices_swapRangeCmpFunc_huff_weighed_int_an Try.f146 [v0, v1, v2, v3, v4] Kp K = slices_swapRangeCmpFunc_huff_weighed_int v0 v1 v2 v3 v4 Kp K := by kernel_rfl
theorem slices_swapRangeCmpFunc_huff_weighed_int_calls {v0 v1 v2 v3 v4 : Value} {Kp : PK} {K : Value → WP} {w : World} (h : slices_swapRangeCmpFunc_huff_weighed_int v0 v1 v2 v3 v4 Kp K w) : Calls Try.prog 146 #[v0, v1, v2, v3, v4] w (after Kp K) :=
 calls_of_shape (calls_of_cev wide Try.func146 (an := slices_swapRangeCmpFunc_huff_weighed_int_an) (args := [v0, v1, v2, v3, v4]) (cast (congrFun (slices_swapRangeCmpFunc_huff_weighed_int_eq v0 v1 v2 v3 v4 Kp K) w).symm h))
theorem slices_swapRangeCmpFunc_huff_weighed_int_cn {v0 v1 v2 v3 v4 : Value} {W : World} {α : Type} {A : List HP} {r : α → Value} {B : α → List HP} (h : ∀ F, Ent W (A ++ F) (slices_swapRangeCmpFunc_huff_weighed_int v0 v1 v2 v3 v4 noP fun v w => ∃ x, v = r x ∧ sat W (B x ++ F) w)) : Cn Try.prog 146 [v0, v1, v2, v3, v4] W A r B :=
 Cn.of (shape := slices_swapRangeCmpFunc_huff_weighed_int v0 v1 v2 v3 v4) Try.call146 (fun h => slices_swapRangeCmpFunc_huff_weighed_int_calls h) h
end Go.Proofs.Ythoeeahdkdcceaa.S
namespace Go.Proofs.Ythoeeahdkdcceaa.M
open Go Sl
def val : List Bool → Nat
 | [] => 0
 | b :: l => b.toNat + 2 * val l
theorem val_lt : ∀ l : List Bool, val l < 2 ^ l.length
 | [] => by simp [val]
 | b :: l => by have := val_lt l; cases b <;> simp [val, Nat.pow_succ] <;> omega
theorem val_append (m : List Bool) : ∀ l : List Bool, val (l ++ m) = val l + 2 ^ l.length * val m
 | [] => by simp [val]
 | b :: l => by
  simp only [List.cons_append, val, val_append m l, List.length_cons, Nat.pow_succ]
  rw [Nat.mul_add, Nat.mul_comm (2 ^ l.length) 2, Nat.mul_assoc]; omega
def byteAt (L : List Bool) (i : Nat) : Nat := val ((L.drop (8 * i)).take 8)
theorem byteAt_lt (L : List Bool) (i : Nat) : byteAt L i < 256 := by
 have h := val_lt ((L.drop (8 * i)).take 8)
 have hl : ((L.drop (8 * i)).take 8).length ≤ 8 := List.length_take_le _ _
 exact Nat.lt_of_lt_of_le h (Nat.pow_le_pow_right (by omega) hl)
def pkn (L : List Bool) (m : Nat) : List UInt8 := (List.range m).map fun i => UInt8.ofNat (byteAt L i)
def pk (L : List Bool) : List UInt8 := pkn L ((L.length + 7) / 8)
def pkx (L : List Bool) : List UInt8 := pkn L (L.length / 8 + 1)
theorem length_pk (L : List Bool) : (pk L).length = (L.length + 7) / 8 := by simp [pk, pkn]
theorem length_pkx (L : List Bool) : (pkx L).length = L.length / 8 + 1 := by simp [pkx, pkn]
theorem pkx0 {L : List Bool} (h : L.length % 8 = 0) : pkx L = pk L ++ [0] := by
 unfold pkx pk pkn
 rw [show (L.length + 7) / 8 = L.length / 8 by omega, List.range_succ, List.map_append]
 congr 1
 have : L.drop (8 * (L.length / 8)) = [] := List.drop_eq_nil_of_le (by omega)
 simp [byteAt, this, val]
theorem pkx1 {L : List Bool} (h : ¬ L.length % 8 = 0) : pkx L = pk L := by
 unfold pkx pk
 rw [show (L.length + 7) / 8 = L.length / 8 + 1 by omega]
theorem byteAt_snoc_lt {L : List Bool} {b : Bool} {i : Nat} (h : i < L.length / 8) : byteAt (L ++ [b]) i = byteAt L i := by
 unfold byteAt
 rw [List.drop_append_of_le_length (by omega), List.take_append_of_le_length (by simp; omega)]
theorem byteAt_snoc_eq {L : List Bool} {b : Bool} : byteAt (L ++ [b]) (L.length / 8) = byteAt L (L.length / 8) + 2 ^ (L.length % 8) * b.toNat := by
 unfold byteAt
 rw [List.drop_append_of_le_length (by omega), List.take_of_length_le (by simp; omega), List.take_of_length_le (by simp; omega), val_append]
 have : (L.drop (8 * (L.length / 8))).length = L.length % 8 := by simp; omega
 rw [this]; simp [val]
theorem byteAt_last (L : List Bool) : byteAt L (L.length / 8) < 2 ^ (L.length % 8) := by
 unfold byteAt
 refine Nat.lt_of_lt_of_le (val_lt _) (Nat.pow_le_pow_right (by omega) ?_)
 rw [List.length_take, List.length_drop]; omega
theorem pk_snoc_f (L : List Bool) : pk (L ++ [false]) = pkx L := by
 unfold pk pkx pkn
 simp only [List.length_append, List.length_singleton]
 rw [show (L.length + 1 + 7) / 8 = L.length / 8 + 1 by omega]
 refine List.map_congr_left fun i hi => ?_
 rw [List.mem_range] at hi
 by_cases h : i < L.length / 8
 ·rw [byteAt_snoc_lt h]
 ·rw [show i = L.length / 8 by omega, byteAt_snoc_eq]; simp
theorem pk_snoc_t (L : List Bool) : pk (L ++ [true]) = (pkx L).set (L.length / 8) (UInt8.ofNat (byteAt L (L.length / 8) + 2 ^ (L.length % 8))) := by
 apply List.ext_getElem?
 intro i
 unfold pk pkx pkn
 simp only [List.length_append, List.length_singleton]
 rw [show (L.length + 1 + 7) / 8 = L.length / 8 + 1 by omega, List.getElem?_set]
 simp only [List.length_map, List.length_range, List.getElem?_map]
 by_cases h : L.length / 8 = i
 ·subst h
  simp [byteAt_snoc_eq]
 ·rw [if_neg h]
  by_cases h2 : i < L.length / 8
  ·rw [List.getElem?_range (by omega)]; simp [byteAt_snoc_lt h2]
  ·rw [List.getElem?_eq_none (by simp; omega)]; rfl
theorem pkx_last (L : List Bool) : (pkx L)[L.length / 8]? = some (UInt8.ofNat (byteAt L (L.length / 8))) := by
 simp [pkx, pkn]
def bitsOf (n k : Nat) : List Bool := (List.range k).map n.testBit
theorem bitsOf_succ (n k : Nat) : bitsOf n (k + 1) = bitsOf n k ++ [n.testBit k] := by simp [bitsOf, List.range_succ]
theorem length_bitsOf (n k : Nat) : (bitsOf n k).length = k := by simp [bitsOf]

theorem wrap8 {n : Nat} (h : n < 256) : IntKind.u8.wrap (n : Int) = n := by
 simp only [IntKind.wrap, IntKind.bits, IntKind.signed]
 simp; omega
theorem wrapu64 {n : Nat} (h : n < 18446744073709551616) : IntKind.u64.wrap (n : Int) = n := by
 simp only [IntKind.wrap, IntKind.bits, IntKind.signed]
 simp; omega
theorem and1 {a : Nat} (h : a < 9223372036854775808) : bitOp .and .i64 (a : Int) 1 = ((a % 2 : Nat) : Int) := by
 unfold bitOp
 have h1 : (BitVec.ofInt IntKind.i64.bits (a : Int)).toNat = a := by
  rw [BitVec.ofInt_natCast, BitVec.toNat_ofNat]; exact Nat.mod_eq_of_lt (by simp only [IntKind.bits]; omega)
 have h2 : (BitVec.ofInt IntKind.i64.bits 1).toNat = 1 := by decide
 simp only [BitVec.toNat_and, h1, h2, Nat.and_one_is_mod]
 exact w64 (by omega) (by omega)
theorem or8 {a r : Nat} (hr : r < 8) (h : a < 2 ^ r) : bitOp .or .u8 (a : Int) ((2 ^ r : Nat) : Int) = ((a + 2 ^ r : Nat) : Int) := by
 have hp : 2 ^ r ≤ 128 := by
  have : 2 ^ r ≤ 2 ^ 7 := Nat.pow_le_pow_right (by omega) (by omega)
  simpa using this
 unfold bitOp
 have h1 : (BitVec.ofInt IntKind.u8.bits (a : Int)).toNat = a := by
  rw [BitVec.ofInt_natCast, BitVec.toNat_ofNat]; exact Nat.mod_eq_of_lt (by simp only [IntKind.bits]; omega)
 have h2 : (BitVec.ofInt IntKind.u8.bits ((2 ^ r : Nat) : Int)).toNat = 2 ^ r := by
  rw [BitVec.ofInt_natCast, BitVec.toNat_ofNat]; exact Nat.mod_eq_of_lt (by simp only [IntKind.bits]; omega)
 have h3 : a ||| 2 ^ r = a + 2 ^ r := by
  have := Nat.two_pow_add_eq_or_of_lt h 1
  rw [Nat.mul_one] at this
  rw [Nat.or_comm, ← this]; omega
 simp only [BitVec.toNat_or, h1, h2, h3]
 exact wrap8 (by omega)
theorem shr_nat {n k : Nat} (hk : k < 64) : ((n : Int).fdiv (2 ^ (min ((k : Int)).toNat IntKind.i64.bits))) = ((n / 2 ^ k : Nat) : Int) := by
 have : min ((k : Int)).toNat IntKind.i64.bits = k := by simp only [IntKind.bits, Int.toNat_natCast]; omega
 rw [this, Int.fdiv_eq_ediv_of_nonneg _ (Int.le_of_lt (Int.pow_pos (by decide)))]
 norm_cast
theorem testBit_mod (n k : Nat) : n / 2 ^ k % 2 = (n.testBit k).toNat := by
 rw [Nat.testBit_eq_decide_div_mod_eq]
 rcases Nat.mod_two_eq_zero_or_one (n / 2 ^ k) with h | h <;> simp [h]
theorem B_ofNat {x : Nat} (h : x < 256) : B (UInt8.ofNat x) = .int .u8 (x : Int) := by
 unfold B; rw [UInt8.toNat_ofNat']; rw [Nat.mod_eq_of_lt h]
theorem mask_at {r : Nat} (h : r < 8) : (#[.int .u8 1, .int .u8 2, .int .u8 4, .int .u8 8, .int .u8 16, .int .u8 32, .int .u8 64, .int .u8 128] : Array Value)[r]? = some (.int .u8 ((2 ^ r : Nat) : Int)) := by
 have : r = 0 ∨ r = 1 ∨ r = 2 ∨ r = 3 ∨ r = 4 ∨ r = 5 ∨ r = 6 ∨ r = 7 := by omega
 rcases this with rfl | rfl | rfl | rfl | rfl | rfl | rfl | rfl <;> rfl

def bits8 (c : UInt8) : List Bool := bitsOf c.toNat 8
def ub (l : List UInt8) : List Bool := l.flatMap bits8
theorem length_bits8 (c : UInt8) : (bits8 c).length = 8 := length_bitsOf _ _
theorem length_ub : ∀ l : List UInt8, (ub l).length = 8 * l.length
 | [] => rfl
 | c :: l => by
  have := length_ub l
  unfold ub at *
  rw [List.flatMap_cons, List.length_append, this, length_bits8, List.length_cons]; omega
theorem val_bitsOf (n : Nat) : ∀ k, val (bitsOf n k) = n % 2 ^ k
 | 0 => by simp [bitsOf, val, Nat.mod_one]
 | k + 1 => by
  rw [bitsOf_succ, val_append, length_bitsOf, val_bitsOf n k, Nat.mod_pow_succ, testBit_mod]
  simp [val]
theorem val_bits8 (c : UInt8) : val (bits8 c) = c.toNat := by
 unfold bits8; rw [val_bitsOf]; exact Nat.mod_eq_of_lt c.toNat_lt
theorem byteAt_ub_lt {l : List UInt8} {i : Nat} (h : i < l.length) (m : List Bool) : byteAt (ub l ++ m) i = l[i].toNat := by
 unfold byteAt
 have e : ub l = ub (l.take i) ++ (bits8 l[i] ++ ub (l.drop (i + 1))) := by
  unfold ub
  rw [← List.flatMap_cons, ← List.flatMap_append, ← List.drop_eq_getElem_cons h, List.take_append_drop]
 have hl : (ub (l.take i)).length = 8 * i := by rw [length_ub, List.length_take]; omega
 rw [e, List.append_assoc, List.append_assoc, ← hl, List.drop_left]
 have h8 := length_bits8 l[i]
 rw [show (8 : Nat) = (bits8 l[i]).length from h8.symm, List.take_left, val_bits8]
def padTo8 (L : List Bool) : List Bool := L ++ List.replicate ((8 - L.length % 8) % 8) false
theorem length_pad (L : List Bool) : (padTo8 L).length = 8 * ((L.length + 7) / 8) := by
 unfold padTo8; simp; omega
theorem val_false : ∀ n, val (List.replicate n false) = 0
 | 0 => rfl
 | n + 1 => by simp [List.replicate_succ, val, val_false n]
theorem byteAt_pad (L : List Bool) (n i : Nat) : byteAt (L ++ List.replicate n false) i = byteAt L i := by
 unfold byteAt
 rw [List.drop_append, List.take_append, val_append, List.drop_replicate, List.take_replicate, val_false]
 simp
theorem pk_pad (L : List Bool) : pk (padTo8 L) = pk L := by
 unfold pk
 rw [length_pad, show (8 * ((L.length + 7) / 8) + 7) / 8 = (L.length + 7) / 8 by omega]
 unfold pkn padTo8
 refine List.map_congr_left fun i _ => ?_
 rw [byteAt_pad]
theorem pk_append {L : List Bool} (h : L.length % 8 = 0) (l : List UInt8) : pk (L ++ ub l) = pk L ++ l := by
 unfold pk pkn
 rw [List.length_append, length_ub]
 rw [show (L.length + 8 * l.length + 7) / 8 = L.length / 8 + l.length by omega, show (L.length + 7) / 8 = L.length / 8 by omega]
 rw [List.range_add, List.map_append]
 congr 1
 ·refine List.map_congr_left fun i hi => ?_
  rw [List.mem_range] at hi
  unfold byteAt
  rw [List.drop_append_of_le_length (by omega), List.take_append_of_le_length (by simp; omega)]
 ·rw [List.map_map]
  apply List.ext_getElem
  ·simp
  ·intro i h1 h2
   simp only [List.getElem_map, List.getElem_range, Function.comp_apply]
   have : byteAt (L ++ ub l) (L.length / 8 + i) = byteAt (ub l) i := by
    unfold byteAt
    rw [List.drop_append, List.drop_eq_nil_of_le (by omega), List.nil_append]
    congr 3; omega
   have h3 := byteAt_ub_lt h2 []
   rw [List.append_nil] at h3
   rw [this, h3]; simp

def bitI (n : Int) (i : Nat) : Bool := decide (n / 2 ^ i % 2 = 1)
def bl (n : Int) (i : Nat) : List Bool := (List.range i).map (bitI n)
theorem bl_succ (n : Int) (i : Nat) : bl n (i + 1) = bl n i ++ [bitI n i] := by simp [bl, List.range_succ]
theorem length_bl (n : Int) (i : Nat) : (bl n i).length = i := by simp [bl]
def rv (n : Int) (i : Nat) : Nat := val (bl n i).reverse
theorem rv_succ (n : Int) (i : Nat) : rv n (i + 1) = 2 * rv n i + (bitI n i).toNat := by
 unfold rv; rw [bl_succ, List.reverse_append]; simp [val]; omega
theorem rv_lt (n : Int) (i : Nat) : rv n i < 2 ^ i := by
 have := val_lt (bl n i).reverse
 rwa [List.length_reverse, length_bl] at this
theorem bit_toNat (n : Int) (i : Nat) : ((bitI n i).toNat : Int) = n / 2 ^ i % 2 := by
 unfold bitI
 rcases Int.emod_two_eq (n / 2 ^ i) with h | h <;> simp [h]
theorem and1I (a : Int) : bitOp .and .i64 a 1 = a % 2 := by
 unfold bitOp
 have h2 : (BitVec.ofInt IntKind.i64.bits 1).toNat = 1 := by decide
 simp only [BitVec.toNat_and, h2, Nat.and_one_is_mod, BitVec.toNat_ofInt]
 rw [w64 (by omega) (by omega)]
 simp only [IntKind.bits]
 omega
theorem shrI {n : Int} {k : Nat} (hk : k < 64) : n.fdiv (2 ^ (min ((k : Int)).toNat IntKind.i64.bits)) = n / 2 ^ k := by
 have : min ((k : Int)).toNat IntKind.i64.bits = k := by simp only [IntKind.bits, Int.toNat_natCast]; omega
 rw [this, Int.fdiv_eq_ediv_of_nonneg _ (Int.le_of_lt (Int.pow_pos (by decide)))]
theorem or_two {a : Nat} {b : Bool} (h : a < 4294967296) : bitOp .or .i64 (((a * 2 : Nat)) : Int) (b.toNat : Int) = ((2 * a + b.toNat : Nat) : Int) := by
 have hb : b.toNat ≤ 1 := Bool.toNat_le b
 unfold bitOp
 have h1 : (BitVec.ofInt IntKind.i64.bits ((a * 2 : Nat) : Int)).toNat = a * 2 := by
  rw [BitVec.ofInt_natCast, BitVec.toNat_ofNat]; exact Nat.mod_eq_of_lt (by simp only [IntKind.bits]; omega)
 have h2 : (BitVec.ofInt IntKind.i64.bits (b.toNat : Int)).toNat = b.toNat := by
  rw [BitVec.ofInt_natCast, BitVec.toNat_ofNat]; exact Nat.mod_eq_of_lt (by simp only [IntKind.bits]; omega)
 have h3 : a * 2 ||| b.toNat = 2 * a + b.toNat := by
  have := Nat.two_pow_add_eq_or_of_lt (i := 1) (b := b.toNat) (by omega) a
  rw [Nat.pow_one] at this
  rw [Nat.mul_comm a 2, ← this]
 simp only [BitVec.toNat_or, h1, h2, h3]
 exact w64 (by omega) (by omega)
end Go.Proofs.Ythoeeahdkdcceaa.M
namespace Go.Proofs.Ythoeeahdkdcceaa.B
open Go Go.Proofs Sh Sl T M
theorem none_some {W : World} {p : Nat} {a b : Value} {m : Bool} : Cn Try.prog 50 [.pointer (some ⟨p, 0, none⟩)] W [pt p (.cells #[a, b, .bool m] 84)] (fun _ : Unit => .bool (!m)) (fun _ => [pt p (.cells #[a, b, .bool m] 84)]) := by
 (refine S.bits_Writer_none_cn fun F => ?_; unfold S.bits_Writer_none; simp only [ca_, na_])
 (refine e_opN v_eqNil1 .nil ?_); (refine e_gdT ?_); (refine e_gdT ?_); (refine e_opN v_nil .nil ?_); (refine e_gdT ?_); (refine e_opN v_fa0 .nil ?_); (refine e_gdT ?_); (((refine' e_opN (v_ldN ?hc) ?hi ?_); (case hi => (repeat (first | exact .refl | exact .nil | (apply Imp.pick; (focus ((repeat constructor); done))) | refine .drop ?_))); (case hc => (repeat (first | exact Nth.here | apply Nth.there))))); (refine e_gdT ?_); (refine e_opN v_not .nil ?_); (refine e_opN v_pickF .nil ?_)
 (refine e_ret Unit.unit (by rfl) ?_; (repeat (first | exact .refl | exact .nil | (apply Imp.pick; (focus ((repeat constructor); done))) | refine .drop ?_)))
def IsW (p : Nat) (l : List Bool) : HP := ex fun q : Option Addr × Nat => all [pt p (.cells #[.slice q.1 (pk l).length q.2, .int .i64 (l.length : Int), .bool true] 84), Sl 1 5 q.1 q.2 (pk l).length ((pk l).map B), pu (l.length ≤ 8388608)]
def badP (n k : Int) : Prop := k < 0 ∨ 32 < k ∨ n < 0 ∨ 2 ^ k.toNat ≤ n
instance (n k : Int) : Decidable (badP n k) := by unfold badP; infer_instance
def putR (l : List Bool) (n k : Int) : Int := if badP n k then 1 else if 8388608 - (l.length : Int) < k then 6 else 0
def putL (l : List Bool) (n k : Int) : List Bool := if putR l n k = 0 then l ++ bitsOf n.toNat k.toNat else l
theorem masks {W : World} : Cn Try.prog 55 [] W [] (fun _ : Unit => .agg #[.int .u8 1, .int .u8 2, .int .u8 4, .int .u8 8, .int .u8 16, .int .u8 32, .int .u8 64, .int .u8 128]) (fun _ => []) := by
 (refine S.bits_masks_cn fun F => ?_; unfold S.bits_masks; simp only [ca_, na_])
 (refine e_newA fun g => ?_); (refine e_opN v_rv .nil ?_); (((refine' e_stAgg ?hp ?hn ?hv ?h1 ?_); (case hp => (repeat constructor)); (case hn => rfl); (case hv => rfl); (case h1 => simp [Value.oneCell']))); (((refine' e_stS (v_resA ?hn) ?hi ?_); (case hi => (repeat (first | exact .refl | exact .nil | (apply Imp.pick; (focus ((repeat constructor); done))) | refine .drop ?_))); (case hn => rfl)))
 (refine e_ret Unit.unit (by rfl) ?_; (repeat (first | exact .refl | exact .nil | (apply Imp.pick; (focus ((repeat constructor); done))) | refine .drop ?_)))
def IsWx (p : Nat) (l : List Bool) : HP := ex fun q : Option Addr × Nat => all [pt p (.cells #[.slice q.1 (pkx l).length q.2, .int .i64 (l.length : Int), .bool true] 84), Sl 1 5 q.1 q.2 (pkx l).length ((pkx l).map B)]
theorem put {W : World} {p : Nat} {l : List Bool} {n k : Int} : Cn Try.prog 35 [.pointer (some ⟨p, 0, none⟩), .int .i64 n, .int .i64 k] W [IsW p l] (fun _ : Unit => .int .i64 (putR l n k)) (fun _ => [IsW p (putL l n k)]) := by
 (refine S.bits_Writer_Put_cn fun F => ?_; unfold S.bits_Writer_Put; simp only [ca_, na_])
 refine e_ex Pick.here fun q => ?_
 obtain ⟨qa, qc⟩ := q
 refine e_all Pick.here ?_
 (try simp only [ca_, na_])
 refine e_pu (.there (.there .here)) fun hL => ?_
 refine e_cut1 (fun z => pt p (.cells #[.slice qa (pk l).length qc, .int .i64 (l.length : Int), .bool true] 84) :: Sl 1 5 qa qc (pk l).length ((pk l).map B) :: pu (z = .bool (decide (badP n k))) :: F) ?_ ?_
 ·intro ds z
  refine e_pu (.there (.there .here)) fun hz => ?_
  subst hz
  by_cases hb : badP n k
  ·rw [decide_eq_true hb]
   (refine e_condT ?_)
   refine e_ret () (by simp [putR, hb]) ?_
   rw [show putL l n k = l by simp [putL, putR, hb]]
   refine Imp.ex (qa, qc) (.all ?_)
   (try simp only [ca_, na_])
   refine .pick .here (.pick .here (.pu hL .refl))
  ·rw [decide_eq_false hb]
   (refine e_condF ?_); (refine e_opN v_nil .nil ?_); (refine e_opN v_fa0 .nil ?_); (((refine' e_opN (v_ldN ?hc) ?hi ?_); (case hi => (repeat (first | exact .refl | exact .nil | (apply Imp.pick; (focus ((repeat constructor); done))) | refine .drop ?_))); (case hc => (repeat (first | exact Nth.here | apply Nth.there))))); (((refine e_opN (v_sub ?h1 ?h2) .nil ?_); (case h1 => omega); (case h2 => omega)))
   (refine e_ask v_gtr .nil (fun h => ?_) (fun h => ?_))
   ·(refine e_condT ?_)
    refine e_ret () (by simp [putR, hb, h]) ?_
    rw [show putL l n k = l by simp [putL, putR, hb, h]]
    refine Imp.ex (qa, qc) (.all ?_)
    (try simp only [ca_, na_])
    refine .pick .here (.pick .here (.pu hL .refl))
   ·(refine e_condF ?_)
    (refine' e_call (masks) ?hp fun _ => ?_; (case hp => (repeat (first | exact Picks.nil | (apply Picks.cons; (focus repeat constructor))))); (try simp only [ca_, na_, Bool.not_true, Bool.not_false]))
    (refine e_newA fun g => ?_); (((refine' e_stAgg ?hp ?hn ?hv ?h1 ?_); (case hp => (repeat constructor)); (case hn => rfl); (case hv => rfl); (case h1 => simp [Value.oneCell'])))
    rename_i g
    have hR : putR l n k = 0 := by simp [putR, hb, h]
    have hb' : 0 ≤ k ∧ k ≤ 32 ∧ 0 ≤ n ∧ n < 2 ^ k.toNat := by unfold badP at hb; omega
    have hPL : putL l n k = l ++ bitsOf n.toNat k.toNat := by simp [putL, hR]
    rw [hR, hPL]
    obtain ⟨h1, h2, h3, h4⟩ := hb'
    obtain ⟨K, rfl⟩ := Int.eq_ofNat_of_zero_le h1
    obtain ⟨N, rfl⟩ := Int.eq_ofNat_of_zero_le h3
    rw [Int.toNat_natCast] at h4
    rw [Int.toNat_natCast, Int.toNat_natCast]
    have hN : N < 4294967296 := by
     have : (2 : Int) ^ K = ((2 ^ K : Nat) : Int) := by norm_cast
     have h32 : 2 ^ K ≤ 2 ^ 32 := Nat.pow_le_pow_right (by omega) (by omega)
     omega
    clear hR hPL hb h4
    refine e_loop1 (fun m y => [ex fun i : Nat => all [pu (m + i = K ∧ y = .int .i64 (i : Int)), pt g (.cells #[.int .u8 1, .int .u8 2, .int .u8 4, .int .u8 8, .int .u8 16, .int .u8 32, .int .u8 64, .int .u8 128] 101), IsW p (l ++ bitsOf N i)]] ++ F) K ?_ ?_
    ·refine Imp.ex 0 (.all ?_)
     (try simp only [ca_, na_])
     refine .pu ⟨by omega, rfl⟩ (.pick .here (.ex (qa, qc) (.all ?_)))
     (try simp only [ca_, na_])
     rw [show l ++ bitsOf N 0 = l by simp [bitsOf]]
     exact .pick .here (.pick .here (.pu hL .refl))
    ·intro m ds y
     (try simp only [ca_, na_])
     refine e_ex Pick.here fun i => e_all Pick.here ?_
     (try simp only [ca_, na_])
     refine e_pu Pick.here fun hi => ?_
     obtain ⟨hm, rfl⟩ := hi
     obtain ⟨L, hLe⟩ : ∃ L, L = l ++ bitsOf N i := ⟨_, rfl⟩
     have hLl : L.length = l.length + i := by rw [hLe, List.length_append, length_bitsOf]
     rw [← hLe]
     (refine e_ask v_lss .nil (fun h => ?_) (fun h => ?_))
     ·have hik : i < K := by omega
      (refine e_condT ?_)
      refine e_cut0 ([pt g (.cells #[.int .u8 1, .int .u8 2, .int .u8 4, .int .u8 8, .int .u8 16, .int .u8 32, .int .u8 64, .int .u8 128] 101), IsWx p L] ++ F) ?_ ?_
      ·intro ds2
       (try simp only [ca_, na_])
       refine e_ex (.there .here) fun q2 => ?_
       obtain ⟨xa, xc⟩ := q2
       refine e_all Pick.here ?_
       (try simp only [ca_, na_])
       refine e_cut0 ([pt g (.cells #[.int .u8 1, .int .u8 2, .int .u8 4, .int .u8 8, .int .u8 16, .int .u8 32, .int .u8 64, .int .u8 128] 101), pt p (.cells #[.slice xa (pkx L).length xc, .int .i64 (L.length : Int), .bool true] 84), Sl 1 5 xa xc (pkx L).length ((pk (L ++ [N.testBit i])).map B)] ++ F) ?_ ?_
       ·intro ds3
        (try simp only [ca_, na_])
        (refine e_opN v_nil .nil ?_); (refine e_opN v_fa0 .nil ?_); (((refine' e_opN (v_ldN ?hc) ?hi ?_); (case hi => (repeat (first | exact .refl | exact .nil | (apply Imp.pick; (focus ((repeat constructor); done))) | refine .drop ?_))); (case hc => (repeat (first | exact Nth.here | apply Nth.there))))); (((refine e_opN (v_add ?h1 ?h2) .nil ?_); (case h1 => omega); (case h2 => omega))); (refine e_opN v_nil .nil ?_); (refine e_opN v_fa0 .nil ?_); (((refine' e_stN ?hp ?ho ?_); (case hp => (repeat constructor)); (case ho => (repeat (first | exact Put.here | apply Put.there))))); (((refine e_opN (v_add ?h1 ?h2) .nil ?_); (case h1 => omega); (case h2 => omega)))
        refine e_next1 (m - 1) (by omega) (.ex (i + 1) (.all ?_))
        (try simp only [ca_, na_])
        refine .pu ⟨by omega, by norm_cast⟩ (.pick (.there .here) (.ex (xa, xc) (.all ?_)))
        (try simp only [ca_, na_])
        have e1 : l ++ bitsOf N (i + 1) = L ++ [N.testBit i] := by rw [hLe, bitsOf_succ, List.append_assoc]
        have e2 : (pk (L ++ [N.testBit i])).length = (pkx L).length := by rw [length_pk, length_pkx]; simp; omega
        rw [e1, e2]
        have e3 : ((L ++ [N.testBit i]).length : Int) = (L.length : Int) + 1 := by simp
        rw [e3]
        exact .pick .here (.pick (.here) (.pu (by simp; omega) .refl))
       ·refine e_opN v_conv .nil ?_
        rw [wrapu64 (by omega)]
        refine e_opN (v_shr (by omega)) .nil ?_
        rw [shr_nat (by omega)]
        refine e_opN v_and .nil ?_
        have hdiv : N / 2 ^ i ≤ N := Nat.div_le_self _ _
        rw [and1 (by omega), testBit_mod]
        (refine e_ask v_eql .nil (fun h => ?_) (fun h => ?_))
        ·have hbit : N.testBit i = true := by
          cases hh : N.testBit i with
          | true => rfl
          | false => rw [hh] at h; simp at h
         have hpx := length_pkx L
         refine e_slsome (.there .here) (by omega) fun g1 hg1 => ?_
         subst hg1
         (refine e_condT ?_); (refine e_drS ?_); (refine e_stS v_nil .nil ?_); (refine e_stS v_fa0 .nil ?_); (((refine' e_stS (v_ldN ?hc) ?hi ?_); (case hi => (repeat (first | exact .refl | exact .nil | (apply Imp.pick; (focus ((repeat constructor); done))) | refine .drop ?_))); (case hc => (repeat (first | exact Nth.here | apply Nth.there))))); (refine e_stS v_nil .nil ?_); (refine e_stS v_fa0 .nil ?_); (((refine' e_stS (v_ldN ?hc) ?hi ?_); (case hi => (repeat (first | exact .refl | exact .nil | (apply Imp.pick; (focus ((repeat constructor); done))) | refine .drop ?_))); (case hc => (repeat (first | exact Nth.here | apply Nth.there))))); (((refine e_stS (v_quo ?h1 ?h2 ?h3) .nil ?_); (case h1 => omega); (case h2 => omega); (case h3 => omega)))
         refine e_stS (v_ia1 (L.length / 8) (by norm_cast) (by omega)) .nil ?_
         refine e_stS (v_ldSl (v := B (UInt8.ofNat (byteAt L (L.length / 8)))) (by rw [Nat.zero_add, List.getElem?_map, pkx_last]; rfl)) (.pick (.there .here) .nil) ?_
         (refine e_stS v_nil .nil ?_); (refine e_stS v_fa0 .nil ?_); (((refine' e_stS (v_ldN ?hc) ?hi ?_); (case hi => (repeat (first | exact .refl | exact .nil | (apply Imp.pick; (focus ((repeat constructor); done))) | refine .drop ?_))); (case hc => (repeat (first | exact Nth.here | apply Nth.there))))); (((refine e_stS (v_rem ?h1 ?h2) .nil ?_); (case h1 => omega); (case h2 => omega)))
         refine e_stS (v_iaA (L.length % 8) (by norm_cast) (by omega)) .nil ?_
         refine e_stS (v_ld (by rw [Nat.zero_add, Nat.mul_one]; exact mask_at (by omega))) (.pick (.there (.there .here)) .nil) ?_
         rw [B_ofNat (byteAt_lt _ _)]
         refine e_stS v_or .nil ?_
         rw [or8 (by omega) (byteAt_last L)]
         refine e_stS (v_ia1 (L.length / 8) (by norm_cast) (by omega)) .nil ?_
         refine e_stSl (.there .here) (by simp; omega) ?_
         refine e_sat ?_
         have e4 : byteAt L (L.length / 8) + 2 ^ (L.length % 8) < 256 := by
          have := byteAt_lt (L ++ [true]) (L.length / 8)
          rw [byteAt_snoc_eq] at this; simpa using this
         rw [hbit, pk_snoc_t, Nat.zero_add, List.map_set, B_ofNat e4]
         (try simp only [ca_, na_])
         (repeat (first | exact .refl | exact .nil | (apply Imp.pick; (focus ((repeat constructor); done))) | refine .drop ?_))
        ·have hbit : N.testBit i = false := by
          cases hh : N.testBit i with
          | false => rfl
          | true => rw [hh] at h; simp at h
         (refine e_condF ?_)
         refine e_sat ?_
         rw [hbit, pk_snoc_f]
         (try simp only [ca_, na_])
         (repeat (first | exact .refl | exact .nil | (apply Imp.pick; (focus ((repeat constructor); done))) | refine .drop ?_))
      ·refine e_ex (.there .here) fun q2 => ?_
       obtain ⟨xa, xc⟩ := q2
       refine e_all Pick.here ?_
       (try simp only [ca_, na_])
       refine e_pu (.there (.there .here)) fun hL2 => ?_
       (refine e_opN v_nil .nil ?_); (refine e_opN v_fa0 .nil ?_); (((refine' e_opN (v_ldN ?hc) ?hi ?_); (case hi => (repeat (first | exact .refl | exact .nil | (apply Imp.pick; (focus ((repeat constructor); done))) | refine .drop ?_))); (case hc => (repeat (first | exact Nth.here | apply Nth.there))))); (((refine e_opN (v_rem ?h1 ?h2) .nil ?_); (case h1 => omega); (case h2 => omega)))
       have hpk := length_pk L
       (refine e_ask v_eql .nil (fun h => ?_) (fun h => ?_))
       ·(refine e_condT ?_); (refine e_opN v_nil .nil ?_); (refine e_opN v_fa0 .nil ?_); (((refine' e_opN (v_ldN ?hc) ?hi ?_); (case hi => (repeat (first | exact .refl | exact .nil | (apply Imp.pick; (focus ((repeat constructor); done))) | refine .drop ?_))); (case hc => (repeat (first | exact Nth.here | apply Nth.there))))); (refine e_bsl1 fun g => ?_)
        refine e_app (m := 1) (news := [B 0]) (.there (.there .here)) (src_pt (e' := 5) (by kernel_rfl) .here (by rfl) (B_one (l := [0]))) (by omega) (by omega) fun a' c' => ?_
        (refine e_opN v_nil .nil ?_); (refine e_opN v_fa0 .nil ?_); (((refine' e_stN ?hp ?ho ?_); (case hp => (repeat constructor)); (case ho => (repeat (first | exact Put.here | apply Put.there)))))
        refine e_sat ?_
        (try simp only [ca_, na_])
        refine .pick (.there (.there (.there .here))) (.ex (a', c') (.all ?_))
        (try simp only [ca_, na_])
        have h8 : L.length % 8 = 0 := by omega
        rw [pkx0 h8]
        simp only [List.length_append, List.length_singleton, List.map_append, List.map_cons, List.map_nil]
        (repeat (first | exact .refl | exact .nil | (apply Imp.pick; (focus ((repeat constructor); done))) | refine .drop ?_))
       ·(refine e_condF ?_)
        refine e_sat ?_
        (try simp only [ca_, na_])
        refine .pick (.there (.there .here)) (.ex (xa, xc) (.all ?_))
        (try simp only [ca_, na_])
        rw [pkx1 (by omega)]
        (repeat (first | exact .refl | exact .nil | (apply Imp.pick; (focus ((repeat constructor); done))) | refine .drop ?_))
     ·have : i = K := by omega
      subst this
      (refine e_condF ?_)
      refine e_retT () ?_
      rw [← hLe]
      exact .pick (.there .here) (.drop .refl)
 ·(refine' e_call (none_some) ?hp fun _ => ?_; (case hp => (repeat (first | exact Picks.nil | (apply Picks.cons; (focus repeat constructor))))); (try simp only [ca_, na_, Bool.not_true, Bool.not_false]))
  (refine e_condF ?_)
  have fin : ∀ z : Value, z = .bool (decide (badP n k)) → Ent W (pt p (.cells #[.slice qa (pk l).length qc, .int .i64 (l.length : Int), .bool true] 84) :: Sl 1 5 qa qc (pk l).length ((pk l).map B) :: F) (fun w => sat W (pt p (.cells #[.slice qa (pk l).length qc, .int .i64 (l.length : Int), .bool true] 84) :: Sl 1 5 qa qc (pk l).length ((pk l).map B) :: pu (z = .bool (decide (badP n k))) :: F) w) := fun z hz => e_sat (.pick .here (.pick .here (.pu hz .refl)))
  (refine e_ask v_lss .nil (fun h => ?_) (fun h => ?_))
  ·(refine e_condT ?_)
   exact fin _ (by rw [decide_eq_true (show badP n k from .inl h)])
  ·(refine e_condF ?_)
   (refine e_ask v_gtr .nil (fun h => ?_) (fun h => ?_))
   ·(refine e_condT ?_)
    exact fin _ (by rw [decide_eq_true (show badP n k from .inr (.inl ‹_›))])
   ·(refine e_condF ?_)
    (refine e_ask v_lss .nil (fun h => ?_) (fun h => ?_))
    ·(refine e_condT ?_)
     exact fin _ (by rw [decide_eq_true (show badP n k from .inr (.inr (.inl ‹_›)))])
    ·(refine e_condF ?_)
     refine e_opN v_min .nil ?_
     rw [if_neg (by omega)]
     refine e_opN v_max .nil ?_
     rw [show (if (0 : Int) < k then k else 0) = k by split <;> omega]
     obtain ⟨K, rfl⟩ := Int.eq_ofNat_of_zero_le (show 0 ≤ k by omega)
     refine e_opN v_conv .nil ?_
     rw [wrapu64 (by omega)]
     refine e_opN (v_shl (by omega)) .nil ?_
     have hm : min ((K : Int)).toNat IntKind.i64.bits = K := by simp only [IntKind.bits, Int.toNat_natCast]; omega
     have h32 : 2 ^ K ≤ 2 ^ 32 := Nat.pow_le_pow_right (by omega) (by omega)
     have hc : (2 : Int) ^ K = ((2 ^ K : Nat) : Int) := by norm_cast
     obtain ⟨E, hE⟩ : ∃ E, E = 2 ^ K := ⟨_, rfl⟩
     rw [← hE] at hc h32
     rw [hm, Int.one_mul, hc, w64 (by omega) (by omega)]
     refine e_opN v_geq .nil ?_
     refine fin _ ?_
     have : ((E : Int) ≤ n) ↔ badP n K := by
      unfold badP
      rw [Int.toNat_natCast, hc]
      constructor
      ·exact fun h => .inr (.inr (.inr h))
      ·rintro (h | h | h | h)
       ·omega
       ·omega
       ·omega
       ·exact h
     rw [decide_eq_decide.2 this]
theorem newWriter {W : World} : Cn Try.prog 27 [] W [] (fun p : Nat => .pointer (some ⟨p, 0, none⟩)) (fun p => [IsW p []]) := by
 (refine S.bits_NewWriter_cn fun F => ?_; unfold S.bits_NewWriter; simp only [ca_, na_])
 (refine e_opN v_rv .nil ?_); (refine e_boxA fun g => ?_)
 refine e_ret g rfl ?_
 refine .ex (none, 0) (.all ?_)
 (try simp only [ca_, na_])
 refine .pick .here ?_
 rw [show (pk []).length = 0 from rfl, show List.map B (pk []) = [] from rfl]
 exact imp_nil (.pu (by simp) .refl)
theorem bits {W : World} {p : Nat} {l : List Bool} : Cn Try.prog 49 [.pointer (some ⟨p, 0, none⟩)] W [IsW p l] (fun _ : Unit => .int .i64 (l.length : Int)) (fun _ => [IsW p l]) := by
 (refine S.bits_Writer_Bits_cn fun F => ?_; unfold S.bits_Writer_Bits; simp only [ca_, na_])
 refine e_ex Pick.here fun q => ?_
 obtain ⟨qa, qc⟩ := q
 refine e_all Pick.here ?_
 (try simp only [ca_, na_])
 refine e_pu (.there (.there .here)) fun hL => ?_
 (refine' e_call (none_some) ?hp fun _ => ?_; (case hp => (repeat (first | exact Picks.nil | (apply Picks.cons; (focus repeat constructor))))); (try simp only [ca_, na_, Bool.not_true, Bool.not_false]))
 (refine e_condF ?_); (refine e_opN v_nil .nil ?_); (refine e_opN v_fa0 .nil ?_); (((refine' e_opN (v_ldN ?hc) ?hi ?_); (case hi => (repeat (first | exact .refl | exact .nil | (apply Imp.pick; (focus ((repeat constructor); done))) | refine .drop ?_))); (case hc => (repeat (first | exact Nth.here | apply Nth.there)))))
 refine e_ret () rfl ?_
 refine .ex (qa, qc) (.all ?_)
 (try simp only [ca_, na_])
 exact .pick .here (.pick .here (.pu hL .refl))
theorem align0 {W : World} {p n qc : Nat} {qa : Option Addr} {m : Int} (hn : n ≤ 4611686018427387904 / 8) : Cn Try.prog 56 [.pointer (some ⟨p, 0, none⟩)] W [pt p (.cells #[.slice qa n qc, .int .i64 m, .bool true] 84)] (fun _ : Unit => .tuple #[]) (fun _ => [pt p (.cells #[.slice qa n qc, .int .i64 (8 * (n : Int)), .bool true] 84)]) := by
 (refine S.bits_Writer_Align_cn fun F => ?_; unfold S.bits_Writer_Align; simp only [ca_, na_])
 (refine' e_call (none_some) ?hp fun _ => ?_; (case hp => (repeat (first | exact Picks.nil | (apply Picks.cons; (focus repeat constructor))))); (try simp only [ca_, na_, Bool.not_true, Bool.not_false]))
 (refine e_opN v_notF .nil ?_); (refine e_condT ?_); (refine e_opN v_nil .nil ?_); (refine e_opN v_fa0 .nil ?_); (((refine' e_opN (v_ldN ?hc) ?hi ?_); (case hi => (repeat (first | exact .refl | exact .nil | (apply Imp.pick; (focus ((repeat constructor); done))) | refine .drop ?_))); (case hc => (repeat (first | exact Nth.here | apply Nth.there))))); (refine e_opN v_len .nil ?_); (((refine e_opN (v_mul ?h1 ?h2) .nil ?_); (case h1 => omega); (case h2 => omega))); (refine e_opN v_nil .nil ?_); (refine e_opN v_fa0 .nil ?_); (((refine' e_stN ?hp ?ho ?_); (case hp => (repeat constructor)); (case ho => (repeat (first | exact Put.here | apply Put.there)))))
 refine e_retT () ?_
 exact .pick .here .refl
theorem align {W : World} {p : Nat} {l : List Bool} : Cn Try.prog 56 [.pointer (some ⟨p, 0, none⟩)] W [IsW p l] (fun _ : Unit => .tuple #[]) (fun _ => [IsW p (padTo8 l)]) := by
 (refine S.bits_Writer_Align_cn fun F => ?_; unfold S.bits_Writer_Align; simp only [ca_, na_])
 refine e_ex Pick.here fun q => ?_
 obtain ⟨qa, qc⟩ := q
 refine e_all Pick.here ?_
 (try simp only [ca_, na_])
 refine e_pu (.there (.there .here)) fun hL => ?_
 have hpk := length_pk l
 (refine' e_call (none_some) ?hp fun _ => ?_; (case hp => (repeat (first | exact Picks.nil | (apply Picks.cons; (focus repeat constructor))))); (try simp only [ca_, na_, Bool.not_true, Bool.not_false]))
 (refine e_opN v_notF .nil ?_); (refine e_condT ?_); (refine e_opN v_nil .nil ?_); (refine e_opN v_fa0 .nil ?_); (((refine' e_opN (v_ldN ?hc) ?hi ?_); (case hi => (repeat (first | exact .refl | exact .nil | (apply Imp.pick; (focus ((repeat constructor); done))) | refine .drop ?_))); (case hc => (repeat (first | exact Nth.here | apply Nth.there))))); (refine e_opN v_len .nil ?_); (((refine e_opN (v_mul ?h1 ?h2) .nil ?_); (case h1 => omega); (case h2 => omega))); (refine e_opN v_nil .nil ?_); (refine e_opN v_fa0 .nil ?_); (((refine' e_stN ?hp ?ho ?_); (case hp => (repeat constructor)); (case ho => (repeat (first | exact Put.here | apply Put.there)))))
 refine e_retT () ?_
 refine .ex (qa, qc) (.all ?_)
 (try simp only [ca_, na_])
 rw [pk_pad, show ((padTo8 l).length : Int) = 8 * ((pk l).length : Int) by rw [length_pad, hpk]; norm_cast]
 exact .pick .here (.pick .here (.pu (by rw [length_pad]; omega) .refl))
theorem bytes {W : World} {p : Nat} {l : List Bool} : Cn Try.prog 30 [.pointer (some ⟨p, 0, none⟩)] W [IsW p l] (fun q : Option Addr × Nat => .slice q.1 (pk l).length q.2) (fun q => [Sl 1 5 q.1 q.2 (pk l).length ((pk l).map B), IsW p l]) := by
 (refine S.bits_Writer_Bytes_cn fun F => ?_; unfold S.bits_Writer_Bytes; simp only [ca_, na_])
 refine e_ex Pick.here fun q => ?_
 obtain ⟨qa, qc⟩ := q
 refine e_all Pick.here ?_
 (try simp only [ca_, na_])
 refine e_pu (.there (.there .here)) fun hL => ?_
 have hpk := length_pk l
 (refine' e_call (none_some) ?hp fun _ => ?_; (case hp => (repeat (first | exact Picks.nil | (apply Picks.cons; (focus repeat constructor))))); (try simp only [ca_, na_, Bool.not_true, Bool.not_false]))
 (refine e_condF ?_); (refine e_opN v_nil .nil ?_); (refine e_opN v_fa0 .nil ?_); (((refine' e_opN (v_ldN ?hc) ?hi ?_); (case hi => (repeat (first | exact .refl | exact .nil | (apply Imp.pick; (focus ((repeat constructor); done))) | refine .drop ?_))); (case hc => (repeat (first | exact Nth.here | apply Nth.there)))))
 refine e_nil (s := 1) (e := 5) ?_
 refine e_app (m := (pk l).length) (news := (pk l).map B) .here (src_sl (e' := 5) (by kernel_rfl) (.there (.there .here)) B_one) (by omega) (by omega) fun a' c' => ?_
 rw [Nat.zero_add, List.nil_append]
 refine e_ret (a', c') rfl ?_
 refine .pick .here (.ex (qa, qc) (.all ?_))
 (try simp only [ca_, na_])
 exact .pick .here (.pick .here (.pu hL .refl))
def rawR (l : List Bool) (b : List UInt8) : Int := if 1048576 < (pk l).length + b.length then 6 else 0
def rawL (l : List Bool) (b : List UInt8) : List Bool := if rawR l b = 0 then padTo8 l ++ ub b else l
theorem raw {W : World} {p : Nat} {l : List Bool} {a : Option Addr} {cap : Nat} {b : List UInt8} {A : HP} (hr : RdB W A a b.length (b.map B)) (ha : a = none → b.length = 0) (hb : b.length ≤ 4611686018427387904) :
  Cn Try.prog 57 [.pointer (some ⟨p, 0, none⟩), .slice a b.length cap] W [IsW p l, A] (fun _ : Unit => .int .i64 (rawR l b)) (fun _ => [IsW p (rawL l b), A]) := by
 (refine S.bits_Writer_Raw_cn fun F => ?_; unfold S.bits_Writer_Raw; simp only [ca_, na_])
 refine e_ex Pick.here fun q => ?_
 obtain ⟨qa, qc⟩ := q
 refine e_all Pick.here ?_
 (try simp only [ca_, na_])
 refine e_pu (.there (.there .here)) fun hL => ?_
 have hpk := length_pk l
 (refine' e_call (none_some) ?hp fun _ => ?_; (case hp => (repeat (first | exact Picks.nil | (apply Picks.cons; (focus repeat constructor))))); (try simp only [ca_, na_, Bool.not_true, Bool.not_false]))
 (refine e_condF ?_); (refine e_opN v_len .nil ?_); (refine e_opN v_nil .nil ?_); (refine e_opN v_fa0 .nil ?_); (((refine' e_opN (v_ldN ?hc) ?hi ?_); (case hi => (repeat (first | exact .refl | exact .nil | (apply Imp.pick; (focus ((repeat constructor); done))) | refine .drop ?_))); (case hc => (repeat (first | exact Nth.here | apply Nth.there))))); (refine e_opN v_len .nil ?_); (((refine e_opN (v_sub ?h1 ?h2) .nil ?_); (case h1 => omega); (case h2 => omega)))
 (refine e_ask v_gtr .nil (fun h => ?_) (fun h => ?_))
 ·(refine e_condT ?_)
  have hR : rawR l b = 6 := by unfold rawR; rw [if_pos (by omega)]
  rw [hR]
  refine e_ret () rfl ?_
  rw [show rawL l b = l by simp [rawL, hR]]
  refine .ex (qa, qc) (.all ?_)
  (try simp only [ca_, na_])
  exact .pick .here (.pick .here (.pu hL .refl))
 ·have hR : rawR l b = 0 := by unfold rawR; rw [if_neg (by omega)]
  rw [hR, show rawL l b = padTo8 l ++ ub b by simp [rawL, hR]]
  (refine e_condF ?_); (refine e_opN v_nil .nil ?_); (refine e_opN v_fa0 .nil ?_); (((refine' e_opN (v_ldN ?hc) ?hi ?_); (case hi => (repeat (first | exact .refl | exact .nil | (apply Imp.pick; (focus ((repeat constructor); done))) | refine .drop ?_))); (case hc => (repeat (first | exact Nth.here | apply Nth.there)))))
  refine e_app (m := b.length) (news := b.map B) (.there .here) (src_rd (A := A) (e' := 5) (by kernel_rfl) (.there (.there .here)) hr ha B_one) (by omega) (by omega) fun a' c' => ?_
  (refine e_opN v_nil .nil ?_); (refine e_opN v_fa0 .nil ?_); (((refine' e_stN ?hp ?ho ?_); (case hp => (repeat constructor)); (case ho => (repeat (first | exact Put.here | apply Put.there)))))
  (refine' e_call (align0 (n := (pk l).length + b.length) (by omega)) ?hp fun _ => ?_; (case hp => (repeat (first | exact Picks.nil | (apply Picks.cons; (focus repeat constructor))))); (try simp only [ca_, na_, Bool.not_true, Bool.not_false]))
  refine e_retT () ?_
  refine .ex (a', c') (.all ?_)
  (try simp only [ca_, na_])
  have hp8 : (padTo8 l).length % 8 = 0 := by rw [length_pad]; omega
  have hlen : (padTo8 l ++ ub b).length = 8 * ((pk l).length + b.length) := by rw [List.length_append, length_pad, length_ub]; omega
  rw [pk_append hp8, pk_pad, hlen, List.length_append, List.map_append, show ((8 * ((pk l).length + b.length) : Nat) : Int) = 8 * (((pk l).length + b.length : Nat) : Int) by norm_cast]
  exact .pick .here (.pick .here (.pu (by omega) (.pick .here .refl)))
end Go.Proofs.Ythoeeahdkdcceaa.B
namespace Go.Proofs.Ythoeeahdkdcceaa.B
open Go Go.Proofs Sh Sl T M
def lim (k : Int) : Nat := (if 32 < k then 32 else k).toNat
theorem lim_le (k : Int) : lim k ≤ 32 := by unfold lim; split <;> omega
theorem lim_eq (k : Int) : (if (0 : Int) < (if (32 : Int) < k then 32 else k) then (if (32 : Int) < k then 32 else k) else 0) = (lim k : Int) := by
 unfold lim; repeat' split <;> omega
theorem reverse {W : World} {n k : Int} : Cn Try.prog 125 [.int .i64 n, .int .i64 k] W [] (fun _ : Unit => .int .i64 (rv n (lim k) : Int)) (fun _ => []) := by
 (refine S.bits_Reverse_cn fun F => ?_; unfold S.bits_Reverse; simp only [ca_, na_])
 have hK := lim_le k
 refine e_opN v_min .nil ?_
 refine e_opN v_max .nil ?_
 rw [lim_eq]
 obtain ⟨K, hKe⟩ : ∃ K, K = lim k := ⟨_, rfl⟩
 rw [← hKe] at hK
 rw [← hKe]
 refine e_loop2 (fun m x y => [ex fun i : Nat => pu (m + i = K ∧ y = .int .i64 (i : Int) ∧ x = .int .i64 (rv n i : Int))] ++ F) K ?_ ?_
 ·exact Imp.ex 0 (.pu ⟨by omega, rfl, rfl⟩ .refl)
 ·intro m ds x y
  (try simp only [ca_, na_])
  refine e_ex Pick.here fun i => e_pu Pick.here fun hi => ?_
  obtain ⟨hm, rfl, rfl⟩ := hi
  (refine e_ask v_lss .nil (fun h => ?_) (fun h => ?_))
  ·have hik : i < K := by omega
   have hr := rv_lt n i
   have hp : 2 ^ i ≤ 2 ^ 31 := Nat.pow_le_pow_right (by omega) (by omega)
   (refine e_condT ?_)
   refine e_opN (v_shl (by omega)) .nil ?_
   rw [show (rv n i : Int) * 2 ^ (min ((1 : Int)).toNat IntKind.i64.bits) = ((rv n i * 2 : Nat) : Int) by norm_cast, w64 (by omega) (by omega)]
   refine e_opN v_conv .nil ?_
   rw [wrapu64 (by omega)]
   refine e_opN (v_shr (by omega)) .nil ?_
   rw [shrI (by omega)]
   refine e_opN v_and .nil ?_
   rw [and1I, ← bit_toNat]
   refine e_opN v_or .nil ?_
   rw [or_two (by omega), ← rv_succ]
   (((refine e_opN (v_add ?h1 ?h2) .nil ?_); (case h1 => omega); (case h2 => omega)))
   exact e_next2 (m - 1) (by omega) (.ex (i + 1) (.pu (by refine ⟨by omega, ?_⟩; first | trivial | norm_cast) .refl))
  ·have : i = K := by omega
   subst this
   (refine e_condF ?_)
   (first | refine e_ret (()) rfl ?_ | refine e_retT (()) ?_)
   exact .refl
theorem reverseRef {W : World} {n k : Int} : Cn Try.prog 134 [.int .i64 n, .int .i64 k] W [] (fun _ : Unit => .int .i64 (rv n (lim k) : Int)) (fun _ => []) := by
 (refine S.ref02_Reverse_cn fun F => ?_; unfold S.ref02_Reverse; simp only [ca_, na_])
 have hK := lim_le k
 refine e_opN v_min .nil ?_
 refine e_opN v_max .nil ?_
 rw [lim_eq]
 obtain ⟨K, hKe⟩ : ∃ K, K = lim k := ⟨_, rfl⟩
 rw [← hKe] at hK
 rw [← hKe]
 refine e_loop2 (fun m x y => [ex fun i : Nat => pu (m + i = K ∧ y = .int .i64 (i : Int) ∧ x = .int .i64 (rv n i : Int))] ++ F) K ?_ ?_
 ·exact Imp.ex 0 (.pu ⟨by omega, rfl, rfl⟩ .refl)
 ·intro m ds x y
  (try simp only [ca_, na_])
  refine e_ex Pick.here fun i => e_pu Pick.here fun hi => ?_
  obtain ⟨hm, rfl, rfl⟩ := hi
  (refine e_ask v_lss .nil (fun h => ?_) (fun h => ?_))
  ·have hik : i < K := by omega
   have hr := rv_lt n i
   have hp : 2 ^ i ≤ 2 ^ 31 := Nat.pow_le_pow_right (by omega) (by omega)
   refine e_condT ?_
   refine e_opN (v_mul (by omega) (by omega)) .nil ?_
   refine e_opN v_conv .nil ?_
   rw [wrapu64 (by omega)]
   refine e_opN (v_shr (by omega)) .nil ?_
   rw [shrI (by omega)]
   refine e_opN v_and .nil ?_
   rw [and1I, ← bit_toNat]
   have hb := Bool.toNat_le (bitI n i)
   refine e_opN (v_add (by omega) (by omega)) .nil ?_
   rw [show 2 * (rv n i : Int) + ((bitI n i).toNat : Int) = (rv n (i + 1) : Int) by rw [rv_succ]; norm_cast]
   (((refine e_opN (v_add ?h1 ?h2) .nil ?_); (case h1 => omega); (case h2 => omega)))
   exact e_next2 (m - 1) (by omega) (.ex (i + 1) (.pu (by refine ⟨by omega, ?_⟩; first | trivial | norm_cast) .refl))
  ·have : i = K := by omega
   subst this
   (refine e_condF ?_)
   (first | refine e_ret (()) rfl ?_ | refine e_retT (()) ?_)
   exact .refl
end Go.Proofs.Ythoeeahdkdcceaa.B
namespace Go.Proofs.Ythoeeahdkdcceaa.Sl
open Go Sh
variable {P : Program} {W : World} {L L' : List HP} {Kp : PK} {k : Value → WP}
theorem fill_run : ∀ (vs pre zs : List Value), zs.length = vs.length → (∀ v ∈ vs, v.cells = #[v]) →
  Instr.fill (fun i => some (i * 1, 1)) (pre ++ zs).toArray ((vs.zipIdx pre.length).map fun x => (x.2, x.1)) = some (pre ++ vs).toArray
 | [], pre, zs, hz, _ => by
  have : zs = [] := List.eq_nil_of_length_eq_zero (by simpa using hz)
  subst this; simp [Instr.fill]
 | v :: vs, pre, [], hz, _ => by simp at hz
 | v :: vs, pre, z :: zs, hz, ho => by
  have hv := ho v (by simp)
  have ih := fill_run vs (pre ++ [v]) zs (by simpa using hz) (fun u hu => ho u (by simp [hu]))
  simp only [List.zipIdx_cons, List.map_cons, Instr.fill, hv]
  rw [if_neg (by simp)]
  have h2 : Array.foldl (fun cs (x : Value × Nat) => cs.setIfInBounds (pre.length * 1 + x.2) x.1) (pre ++ z :: zs).toArray (#[v] : Array Value).zipIdx = (pre ++ [v] ++ zs).toArray := by
   simp
  have h3 : (pre ++ [v]).length = pre.length + 1 := by simp
  rw [h3] at ih
  rw [h2, ih]; simp
theorem e_bslN {t e : TypeId} {b n : Nat} {parts : List (Nat × Value)} {vs : List Value} [ht : SlT P t e 1 b] (hn : vs.length = n) (hp : parts = vs.zipIdx.map fun x => (x.2, x.1)) (ho : ∀ v ∈ vs, v.cells = #[v]) (hm : n ≤ 16777216)
  (h : ∀ g, Ent W (pt g (.cells vs.toArray e) :: L) (k (.slice (some ⟨g, 0, none⟩) n n))) : Ent W L (opN P (sBuildSl t n parts) Kp k) := fun w hw => by
 refine ⟨?_⟩
 obtain ⟨i, z, hi, hz, hs, hb, hzs⟩ := ht.info
 have : (sBuildSl t n parts).run P w = .ok (.value (.slice (some ⟨w.heap.size, 0, none⟩) n n)) (w.alloc (.cells vs.toArray e)) := by
  have hm' : ¬ (2 ^ 24 < n) := by omega
  have hf : ∀ zs : List Value, zs.length = vs.length → Instr.fill (fun i => some (i * 1, 1)) zs.toArray parts = some vs.toArray := fun zs hz => by
   have := fill_run vs [] zs hz ho
   simpa [hp] using this
  by_cases h0 : n = 0
  ·have : vs = [] := List.eq_nil_of_length_eq_zero (by omega)
   subst this; subst h0
   simp [sBuildSl, Instr.buildSlice, run_underlying ht.ut, sizeOf_run hi, hs, hp, newRow, Instr.fill]
   have e0 : (Array.range 0).map (fun _ => (default : Value)) = #[] := Array.eq_empty_of_size_eq_zero (by simp)
   rw [e0]
  ·have hf' := hf ((List.range n).map fun j => z.cells[j % z.cells.size]!) (by simp [hn])
   have e1 : ((Array.range n).map fun j => z.cells[j % z.cells.size]!) = ((List.range n).map fun j => z.cells[j % z.cells.size]!).toArray := by
    apply Array.ext'
    simp [Array.toList_range]
   rw [← e1] at hf'
   simp only [Nat.mul_one] at hf'
   simp [sBuildSl, Instr.buildSlice, run_underlying ht.ut, sizeOf_run hi, hs, h0, hm', zeroValue, typeInfo, hi, hz, newRow, hf']
 rw [this]
 exact h _ _ (hw.alloc _)
theorem e_mksl {t e : TypeId} {b : Nat} {z : Value} {q r : IntKind} {l c : Int} (n m : Nat) [ht : SlT P t e 1 b] [hz : ZeroT P e z] [hc : OC z] (hl : l = (n : Int)) (hcm : c = (m : Int)) (h1 : n ≤ m) (h2 : b * m ≤ 281474976710656) (h3 : m ≤ maxLen)
  (h : ∀ g, Ent W (Sl 1 e (some ⟨g, 0, none⟩) m n (List.replicate n z) :: L) (k (.slice (some ⟨g, 0, none⟩) n m))) : Ent W L (opN P (sMkSl t (.int q l) (.int r c)) Kp k) := fun w hw => by
 refine ⟨?_⟩
 obtain ⟨i, z', hi, hz', hs, hb, hzs⟩ := ht.info
 have e0 : z' = z := by
  have := hz.run w
  simp [zeroValue, typeInfo, hi, hz'] at this
  exact this
 subst e0
 subst hl; subst hcm
 have hcz : z'.cells = #[z'] := cells_one hc.one
 have hbm : (i.bytes : Int) * (m : Int) ≤ 281474976710656 := by
  rw [hb]
  obtain ⟨X, hX⟩ : ∃ X, X = b * m := ⟨_, rfl⟩
  have h4 : (X : Int) ≤ 281474976710656 := by omega
  rw [hX, Int.natCast_mul] at h4
  exact h4
 have hr := run_make (P := P) (w := w) t e i z' ht.ut hi hz' q r n m (by omega) (by omega) hbm (by unfold maxLen at h3; omega)
 simp only [Int.toNat_natCast, hs, Nat.mul_one] at hr
 have e1 : madeCells z'.cells m = (List.replicate n z' ++ List.replicate (m - n) z').toArray := by
  rw [hcz, List.replicate_append_replicate]
  apply Array.ext'
  simp [madeCells, Array.toList_range, Nat.mod_one]
  rw [show n + (m - n) = m by omega]
  apply List.ext_getElem <;> simp
 have : (sMkSl t (.int q n) (.int r m)).run P w = .ok (.value (.slice (some ⟨w.heap.size, 0, none⟩) n m)) (w.alloc (.cells (List.replicate n z' ++ List.replicate (m - n) z').toArray e)) := by
  simp [sMkSl, hr, e1]
 rw [this]
 refine h _ _ ?_
 have := hw.alloc (.cells (List.replicate n z' ++ List.replicate (m - n) z').toArray e)
 refine Imp.sat (L := pt w.heap.size (.cells (List.replicate n z' ++ List.replicate (m - n) z').toArray e) :: L) ?_ this
 exact .conv (B := pt w.heap.size (.cells (List.replicate n z' ++ List.replicate (m - n) z').toArray e)) (fun f hf => ⟨by simp, h1, h3, .inr ⟨_, List.replicate (m - n) z', rfl, by simp, hf⟩⟩) (.pick .here .refl)
end Go.Proofs.Ythoeeahdkdcceaa.Sl
namespace Go.Proofs.Ythoeeahdkdcceaa.B
open Go Go.Proofs Sh Sl T M
def bb (b : Bool) : UInt8 := if b then 1 else 0
theorem B_bb (b : Bool) : B (bb b) = .int .u8 (b.toNat : Int) := by cases b <;> rfl
def IsX (p : Nat) (l : List Bool) : HP := ex fun q : Option Addr × Nat => all [pt p (.cells #[.slice q.1 l.length q.2] 66), Sl 1 5 q.1 q.2 l.length (l.map fun b => B (bb b)), pu (l.length ≤ 8388608)]
theorem bad_iff {n k : Int} (h1 : ¬ k < 0) (h2 : ¬ 32 < k) (h3 : ¬ n < 0) : badP n k ↔ (((2 ^ k.toNat : Nat)) : Int) ≤ n := by
 unfold badP
 have : (2 : Int) ^ k.toNat = ((2 ^ k.toNat : Nat) : Int) := by norm_cast
 rw [this]
 constructor
 ·rintro (h | h | h | h)
  ·omega
  ·omega
  ·omega
  ·exact h
 ·exact fun h => .inr (.inr (.inr h))
theorem xPut {W : World} {p : Nat} {l : List Bool} {n k : Int} : Cn Try.prog 53 [.pointer (some ⟨p, 0, none⟩), .int .i64 n, .int .i64 k] W [IsX p l] (fun _ : Unit => .int .i64 (putR l n k)) (fun _ => [IsX p (putL l n k)]) := by
 (refine S.ref02_Writer_Put_cn fun F => ?_; unfold S.ref02_Writer_Put; simp only [ca_, na_])
 have bad : badP n k → putR l n k = 1 ∧ putL l n k = l := fun hb => by
  have hR : putR l n k = 1 := by simp [putR, hb]
  exact ⟨hR, by simp [putL, hR]⟩
 (refine e_ask v_lss .nil (fun h => ?_) (fun h => ?_))
 ·(refine e_gdF1 ?_); (refine e_gdF1 ?_); (refine e_opN v_pickT .nil ?_); (refine e_gdF1 ?_); (refine e_gdF1 ?_); (refine e_opN v_pickT .nil ?_); (refine e_gdF1 ?_); (refine e_gdF1 ?_); (refine e_gdF1 ?_); (refine e_gdF1 ?_); (refine e_gdF1 ?_); (refine e_opN v_pickT .nil ?_); (refine e_condT ?_)
  obtain ⟨e1, e2⟩ := bad (.inl h)
  rw [e1, e2]
  (first | refine e_ret (()) rfl ?_ | refine e_retT (()) ?_)
  (repeat (first | exact .refl | exact .nil | (apply Imp.pick; (focus ((repeat constructor); done))) | refine .drop ?_))
 have h1 := h
 (refine e_gdT ?_); (refine e_gdT ?_)
 (refine e_ask v_gtr .nil (fun h => ?_) (fun h => ?_))
 ·(refine e_opN v_pickF .nil ?_); (refine e_gdF1 ?_); (refine e_gdF1 ?_); (refine e_opN v_pickT .nil ?_); (refine e_gdF1 ?_); (refine e_gdF1 ?_); (refine e_gdF1 ?_); (refine e_gdF1 ?_); (refine e_gdF1 ?_); (refine e_opN v_pickT .nil ?_); (refine e_condT ?_)
  obtain ⟨e1, e2⟩ := bad (.inr (.inl h))
  rw [e1, e2]
  (first | refine e_ret (()) rfl ?_ | refine e_retT (()) ?_)
  (repeat (first | exact .refl | exact .nil | (apply Imp.pick; (focus ((repeat constructor); done))) | refine .drop ?_))
 have h2 := h
 (refine e_opN v_pickF .nil ?_); (refine e_gdT ?_); (refine e_gdT ?_)
 (refine e_ask v_lss .nil (fun h => ?_) (fun h => ?_))
 ·(refine e_opN v_pickF .nil ?_); (refine e_gdF1 ?_); (refine e_gdF1 ?_); (refine e_gdF1 ?_); (refine e_gdF1 ?_); (refine e_gdF1 ?_); (refine e_opN v_pickT .nil ?_); (refine e_condT ?_)
  obtain ⟨e1, e2⟩ := bad (.inr (.inr (.inl h)))
  rw [e1, e2]
  (first | refine e_ret (()) rfl ?_ | refine e_retT (()) ?_)
  (repeat (first | exact .refl | exact .nil | (apply Imp.pick; (focus ((repeat constructor); done))) | refine .drop ?_))
 have h3 := h
 (refine e_opN v_pickF .nil ?_); (refine e_gdT ?_); (refine e_gdT ?_); (refine e_gdT ?_)
 have hbi := bad_iff h1 h2 h3
 obtain ⟨K, rfl⟩ := Int.eq_ofNat_of_zero_le (show 0 ≤ k by omega)
 obtain ⟨N, rfl⟩ := Int.eq_ofNat_of_zero_le (show 0 ≤ n by omega)
 refine e_opN v_conv .nil ?_
 rw [wrapu64 (by omega)]
 (refine e_gdT ?_)
 refine e_opN (v_shl (by omega)) .nil ?_
 have hm : min ((K : Int)).toNat IntKind.i64.bits = K := by simp only [IntKind.bits, Int.toNat_natCast]; omega
 have h32 : 2 ^ K ≤ 2 ^ 32 := Nat.pow_le_pow_right (by omega) (by omega)
 have hc : (2 : Int) ^ K = ((2 ^ K : Nat) : Int) := by norm_cast
 rw [Int.toNat_natCast] at hbi
 obtain ⟨E, hE⟩ : ∃ E, E = 2 ^ K := ⟨_, rfl⟩
 rw [← hE] at hc h32 hbi
 rw [hm, Int.one_mul, hc, w64 (by omega) (by omega)]
 (refine e_gdT ?_)
 (refine e_ask v_geq .nil (fun h => ?_) (fun h => ?_))
 ·(refine e_opN v_pickF .nil ?_); (refine e_condT ?_)
  obtain ⟨e1, e2⟩ := bad (hbi.2 h)
  rw [e1, e2]
  (first | refine e_ret (()) rfl ?_ | refine e_retT (()) ?_)
  (repeat (first | exact .refl | exact .nil | (apply Imp.pick; (focus ((repeat constructor); done))) | refine .drop ?_))
 have h4 := h
 have hb : ¬ badP N K := fun c => h4 (hbi.1 c)
 refine e_ex Pick.here fun q => ?_
 obtain ⟨qa, qc⟩ := q
 refine e_all Pick.here ?_
 (try simp only [ca_, na_])
 refine e_pu (.there (.there .here)) fun hL => ?_
 (refine e_opN v_pickF .nil ?_); (refine e_condF ?_); (refine e_opN v_nil .nil ?_); (refine e_opN v_fa0 .nil ?_); (((refine' e_opN (v_ldN ?hc) ?hi ?_); (case hi => (repeat (first | exact .refl | exact .nil | (apply Imp.pick; (focus ((repeat constructor); done))) | refine .drop ?_))); (case hc => (repeat (first | exact Nth.here | apply Nth.there))))); (refine e_opN v_len .nil ?_); (((refine e_opN (v_sub ?h1 ?h2) .nil ?_); (case h1 => omega); (case h2 => omega)))
 (refine e_ask v_gtr .nil (fun h => ?_) (fun h => ?_))
 ·(refine e_condT ?_)
  have hR : putR l N K = 6 := by simp [putR, hb, h]
  rw [hR, show putL l N K = l by simp [putL, hR]]
  (first | refine e_ret (()) rfl ?_ | refine e_retT (()) ?_)
  refine .ex (qa, qc) (.all ?_)
  (try simp only [ca_, na_])
  exact .pick .here (.pick .here (.pu hL .refl))
 have h5 := h
 (refine e_condF ?_)
 have hR : putR l N K = 0 := by simp [putR, hb, h5]
 have hPL : putL l N K = l ++ bitsOf N K := by simp [putL, hR]
 rw [hR, hPL]
 have hN : N < 4294967296 := by omega
 clear hR hPL hb bad hbi
 refine e_loop1 (fun m y => [ex fun i : Nat => all [pu (m + i = K ∧ y = .int .i64 (i : Int)), IsX p (l ++ bitsOf N i)]] ++ F) K ?_ ?_
 ·refine Imp.ex 0 (.all ?_)
  (try simp only [ca_, na_])
  refine .pu (by refine ⟨by omega, ?_⟩; first | trivial | rfl) (.ex (qa, qc) (.all ?_))
  (try simp only [ca_, na_])
  rw [show l ++ bitsOf N 0 = l by simp [bitsOf]]
  exact .pick .here (.pick .here (.pu hL .refl))
 ·intro m ds y
  (try simp only [ca_, na_])
  refine e_ex Pick.here fun i => e_all Pick.here ?_
  (try simp only [ca_, na_])
  refine e_pu Pick.here fun hi => ?_
  obtain ⟨hmi, rfl⟩ := hi
  obtain ⟨L, hLe⟩ : ∃ L, L = l ++ bitsOf N i := ⟨_, rfl⟩
  have hLl : L.length = l.length + i := by rw [hLe, List.length_append, length_bitsOf]
  rw [← hLe]
  (refine e_ask v_lss .nil (fun h => ?_) (fun h => ?_))
  ·have hik : i < K := by omega
   refine e_ex Pick.here fun q2 => ?_
   obtain ⟨xa, xc⟩ := q2
   refine e_all Pick.here ?_
   (try simp only [ca_, na_])
   refine e_pu (.there (.there .here)) fun hL2 => ?_
   (refine e_condT ?_); (refine e_opN v_nil .nil ?_); (refine e_opN v_fa0 .nil ?_); (((refine' e_opN (v_ldN ?hc) ?hi ?_); (case hi => (repeat (first | exact .refl | exact .nil | (apply Imp.pick; (focus ((repeat constructor); done))) | refine .drop ?_))); (case hc => (repeat (first | exact Nth.here | apply Nth.there)))))
   refine e_opN v_conv .nil ?_
   rw [wrapu64 (by omega)]
   refine e_opN (v_shr (by omega)) .nil ?_
   rw [shr_nat (by omega)]
   refine e_opN v_and .nil ?_
   have hdiv : N / 2 ^ i ≤ N := Nat.div_le_self _ _
   rw [and1 (by omega), testBit_mod]
   refine e_opN v_conv .nil ?_
   have hbt := Bool.toNat_le (N.testBit i)
   rw [wrap8 (by omega), ← B_bb]
   (refine e_bsl1 fun g => ?_)
   refine e_app (m := 1) (news := [B (bb (N.testBit i))]) (.there (.there .here)) (src_pt (e' := 5) (by kernel_rfl) .here (by rfl) (B_one (l := [bb (N.testBit i)]))) (by omega) (by omega) fun a' c' => ?_
   (refine e_opN v_nil .nil ?_); (refine e_opN v_fa0 .nil ?_); (((refine' e_stN ?hp ?ho ?_); (case hp => (repeat constructor)); (case ho => (repeat (first | exact Put.here | apply Put.there))))); (((refine e_opN (v_add ?h1 ?h2) .nil ?_); (case h1 => omega); (case h2 => omega)))
   refine e_next1 (m - 1) (by omega) (.ex (i + 1) (.all ?_))
   (try simp only [ca_, na_])
   refine .pu (by refine ⟨by omega, ?_⟩; first | trivial | norm_cast) (.ex (a', c') (.all ?_))
   (try simp only [ca_, na_])
   have e1 : l ++ bitsOf N (i + 1) = L ++ [N.testBit i] := by rw [hLe, bitsOf_succ, List.append_assoc]
   rw [e1]
   simp only [List.length_append, List.length_singleton, List.map_append, List.map_cons, List.map_nil]
   exact .pick (by repeat constructor) (.pick (by repeat constructor) (.pu (by omega) (by (repeat (first | exact .refl | exact .nil | (apply Imp.pick; (focus ((repeat constructor); done))) | refine .drop ?_)))))
  ·have : i = K := by omega
   subst this
   (refine e_condF ?_)
   (first | refine e_ret (()) rfl ?_ | refine e_retT (()) ?_)
   rw [← hLe]
   (repeat (first | exact .refl | exact .nil | (apply Imp.pick; (focus ((repeat constructor); done))) | refine .drop ?_))
theorem xAlign {W : World} {p : Nat} {l : List Bool} : Cn Try.prog 81 [.pointer (some ⟨p, 0, none⟩)] W [IsX p l] (fun _ : Unit => .tuple #[]) (fun _ => [IsX p (padTo8 l)]) := by
 (refine S.ref02_Writer_Align_cn fun F => ?_; unfold S.ref02_Writer_Align; simp only [ca_, na_])
 refine e_loop0 (fun m => [ex fun i : Nat => all [pu (i + m = (8 - l.length % 8) % 8), IsX p (l ++ List.replicate i false)]] ++ F) ((8 - l.length % 8) % 8) ?_ ?_
 ·refine Imp.ex 0 (.all ?_)
  (try simp only [ca_, na_])
  refine .pu (by omega) ?_
  rw [show l ++ List.replicate 0 false = l by simp]
  (repeat (first | exact .refl | exact .nil | (apply Imp.pick; (focus ((repeat constructor); done))) | refine .drop ?_))
 ·intro m ds
  (try simp only [ca_, na_])
  refine e_ex Pick.here fun i => e_all Pick.here ?_
  (try simp only [ca_, na_])
  refine e_pu Pick.here fun hi => ?_
  obtain ⟨L, hLe⟩ : ∃ L, L = l ++ List.replicate i false := ⟨_, rfl⟩
  have hLl : L.length = l.length + i := by rw [hLe, List.length_append, List.length_replicate]
  rw [← hLe]
  refine e_ex Pick.here fun q2 => ?_
  obtain ⟨xa, xc⟩ := q2
  refine e_all Pick.here ?_
  (try simp only [ca_, na_])
  refine e_pu (.there (.there .here)) fun hL2 => ?_
  (refine e_opN v_nil .nil ?_); (refine e_opN v_fa0 .nil ?_); (((refine' e_opN (v_ldN ?hc) ?hi ?_); (case hi => (repeat (first | exact .refl | exact .nil | (apply Imp.pick; (focus ((repeat constructor); done))) | refine .drop ?_))); (case hc => (repeat (first | exact Nth.here | apply Nth.there))))); (refine e_opN v_len .nil ?_); (((refine e_opN (v_rem ?h1 ?h2) .nil ?_); (case h1 => omega); (case h2 => omega)))
  (refine e_ask v_neq .nil (fun h => ?_) (fun h => ?_))
  ·have hm0 : 0 < m := by omega
   (refine e_condT ?_); (refine e_opN v_nil .nil ?_); (refine e_opN v_fa0 .nil ?_); (((refine' e_opN (v_ldN ?hc) ?hi ?_); (case hi => (repeat (first | exact .refl | exact .nil | (apply Imp.pick; (focus ((repeat constructor); done))) | refine .drop ?_))); (case hc => (repeat (first | exact Nth.here | apply Nth.there))))); (refine e_bsl1 fun g => ?_)
   refine e_app (m := 1) (news := [B 0]) (.there (.there .here)) (src_pt (e' := 5) (by kernel_rfl) .here (by rfl) (B_one (l := [0]))) (by omega) (by omega) fun a' c' => ?_
   (refine e_opN v_nil .nil ?_); (refine e_opN v_fa0 .nil ?_); (((refine' e_stN ?hp ?ho ?_); (case hp => (repeat constructor)); (case ho => (repeat (first | exact Put.here | apply Put.there)))))
   refine e_next0 (m - 1) (by omega) (.ex (i + 1) (.all ?_))
   (try simp only [ca_, na_])
   refine .pu (by omega) (.ex (a', c') (.all ?_))
   (try simp only [ca_, na_])
   have e1 : l ++ List.replicate (i + 1) false = L ++ [false] := by rw [hLe, List.replicate_succ', List.append_assoc]
   rw [e1]
   have eb : B (bb false) = B 0 := rfl
   simp only [eb, List.length_append, List.length_singleton, List.map_append, List.map_cons, List.map_nil]
   exact .pick (by repeat constructor) (.pick (by repeat constructor) (.pu (by omega) (by (repeat (first | exact .refl | exact .nil | (apply Imp.pick; (focus ((repeat constructor); done))) | refine .drop ?_)))))
  ·have hm0 : m = 0 := by omega
   (refine e_condF ?_)
   (first | refine e_ret (()) rfl ?_ | refine e_retT (()) ?_)
   rw [show padTo8 l = L by rw [hLe, padTo8, show i = (8 - l.length % 8) % 8 by omega]]
   refine .ex (xa, xc) (.all ?_)
   (try simp only [ca_, na_])
   exact .pick .here (.pick .here (.pu hL2 .refl))
theorem xRaw {W : World} {p : Nat} {l : List Bool} {a : Option Addr} {cap : Nat} {b : List UInt8} {A : HP} (hr : RdB W A a b.length (b.map B)) (ha : a = none → b.length = 0) (hb : b.length ≤ 4611686018427387904) :
  Cn Try.prog 82 [.pointer (some ⟨p, 0, none⟩), .slice a b.length cap] W [IsX p l, A] (fun _ : Unit => .int .i64 (rawR l b)) (fun _ => [IsX p (rawL l b), A]) := by
 (refine S.ref02_Writer_Raw_cn fun F => ?_; unfold S.ref02_Writer_Raw; simp only [ca_, na_])
 refine e_ex Pick.here fun q => ?_
 obtain ⟨qa, qc⟩ := q
 refine e_all Pick.here ?_
 (try simp only [ca_, na_])
 refine e_pu (.there (.there .here)) fun hL => ?_
 have hpk := length_pk l
 (refine e_opN v_nil .nil ?_); (refine e_opN v_fa0 .nil ?_); (((refine' e_opN (v_ldN ?hc) ?hi ?_); (case hi => (repeat (first | exact .refl | exact .nil | (apply Imp.pick; (focus ((repeat constructor); done))) | refine .drop ?_))); (case hc => (repeat (first | exact Nth.here | apply Nth.there))))); (refine e_opN v_len .nil ?_); (((refine e_opN (v_add ?h1 ?h2) .nil ?_); (case h1 => omega); (case h2 => omega))); (((refine e_opN (v_quo ?h1 ?h2 ?h3) .nil ?_); (case h1 => omega); (case h2 => omega); (case h3 => omega))); (refine e_opN v_len .nil ?_); (((refine e_opN (v_sub ?h1 ?h2) .nil ?_); (case h1 => omega); (case h2 => omega)))
 (refine e_ask v_gtr .nil (fun h => ?_) (fun h => ?_))
 ·(refine e_condT ?_)
  have hR : rawR l b = 6 := by unfold rawR; rw [if_pos (by omega)]
  rw [hR, show rawL l b = l by simp [rawL, hR]]
  (first | refine e_ret (()) rfl ?_ | refine e_retT (()) ?_)
  refine .ex (qa, qc) (.all ?_)
  (try simp only [ca_, na_])
  exact .pick .here (.pick .here (.pu hL .refl))
 ·have hR : rawR l b = 0 := by unfold rawR; rw [if_neg (by omega)]
  rw [hR, show rawL l b = padTo8 l ++ ub b by simp [rawL, hR]]
  refine e_imp (M := IsX p l :: A :: F) (.ex (qa, qc) (.all ?_)) ?_
  ·(try simp only [ca_, na_])
   exact .pick .here (.pick .here (.pu hL .refl))
  (refine e_condF ?_)
  (refine' e_call (xAlign) ?hp fun _ => ?_; (case hp => (repeat (first | exact Picks.nil | (apply Picks.cons; (focus repeat constructor))))); (try simp only [ca_, na_, Bool.not_true, Bool.not_false]))
  have hp8 := length_pad l
  refine e_loop1 (fun m y => [ex fun i : Nat => all [pu (m + i = b.length ∧ y = .int .i64 (i : Int)), IsX p (padTo8 l ++ ub (b.take i)), A]] ++ F) b.length ?_ ?_
  ·refine Imp.ex 0 (.all ?_)
   (try simp only [ca_, na_])
   refine .pu (by refine ⟨by omega, ?_⟩; first | trivial | rfl) ?_
   rw [show padTo8 l ++ ub (b.take 0) = padTo8 l by simp [ub]]
   (repeat (first | exact .refl | exact .nil | (apply Imp.pick; (focus ((repeat constructor); done))) | refine .drop ?_))
  ·intro m ds y
   (try simp only [ca_, na_])
   refine e_ex Pick.here fun i => e_all Pick.here ?_
   (try simp only [ca_, na_])
   refine e_pu Pick.here fun hi => ?_
   obtain ⟨hmi, rfl⟩ := hi
   (refine e_opN v_len .nil ?_)
   (refine e_ask v_lss .nil (fun h => ?_) (fun h => ?_))
   ·have hib : i < b.length := by omega
    (refine e_condT ?_)
    obtain ⟨g, o, rfl⟩ : ∃ g o, a = some ⟨g, o, none⟩ := by
     obtain ⟨g, o, hh, _⟩ := hr.2 (by omega)
     exact ⟨g, o, hh⟩
    refine e_opN (v_ia1 i (by norm_cast) (by omega)) .nil ?_
    refine e_opN (v_ldRd hr (v := B b[i]) (B_get hib)) (.pick (.there .here) .nil) ?_
    refine e_opN v_conv .nil ?_
    have hbi := b[i].toNat_lt
    rw [w64 (by omega) (by omega)]
    (refine' e_call (xPut) ?hp fun _ => ?_; (case hp => (repeat (first | exact Picks.nil | (apply Picks.cons; (focus repeat constructor))))); (try simp only [ca_, na_, Bool.not_true, Bool.not_false]))
    have hlen : (padTo8 l ++ ub (b.take i)).length = 8 * ((l.length + 7) / 8 + i) := by
     rw [List.length_append, hp8, length_ub, List.length_take]; omega
    have hnb : ¬ badP (b[i].toNat : Int) 8 := by
     unfold badP
     rw [show (2 : Int) ^ ((8 : Int).toNat) = 256 from rfl]
     omega
    have hR2 : putR (padTo8 l ++ ub (b.take i)) (b[i].toNat : Int) 8 = 0 := by
     unfold putR; rw [if_neg hnb, if_neg (by rw [hlen]; omega)]
    have hL2 : putL (padTo8 l ++ ub (b.take i)) (b[i].toNat : Int) 8 = padTo8 l ++ ub (b.take (i + 1)) := by
     unfold putL
     rw [if_pos hR2, List.append_assoc, List.take_succ_eq_append_getElem hib]
     unfold ub
     rw [List.flatMap_append]
     congr 2
    rw [hL2]
    (((refine e_opN (v_add ?h1 ?h2) .nil ?_); (case h1 => omega); (case h2 => omega)))
    refine e_next1 (m - 1) (by omega) (.ex (i + 1) (.all ?_))
    (try simp only [ca_, na_])
    refine .pu (by refine ⟨by omega, ?_⟩; first | trivial | norm_cast) ?_
    (repeat (first | exact .refl | exact .nil | (apply Imp.pick; (focus ((repeat constructor); done))) | refine .drop ?_))
   ·have : i = b.length := by omega
    subst this
    (refine e_condF ?_)
    (first | refine e_ret (()) rfl ?_ | refine e_retT (()) ?_)
    rw [List.take_length]
    (repeat (first | exact .refl | exact .nil | (apply Imp.pick; (focus ((repeat constructor); done))) | refine .drop ?_))
def pz (L : List Bool) (i : Nat) : List UInt8 := (List.range ((L.length + 7) / 8)).map fun j => UInt8.ofNat (byteAt (L.take i) j)
theorem length_pz (L : List Bool) (i : Nat) : (pz L i).length = (L.length + 7) / 8 := by simp [pz]
theorem pz_zero (L : List Bool) : (pz L 0).map B = List.replicate ((L.length + 7) / 8) (.int .u8 0) := by
 apply List.ext_getElem
 ·simp [pz]
 ·intro i h1 h2
  simp [pz, byteAt, val]
  rfl
theorem pz_last (L : List Bool) : pz L L.length = pk L := by simp [pz, pk, pkn]
theorem pz_get {L : List Bool} {i : Nat} (h : i < L.length) : (pz L i)[i / 8]? = some (UInt8.ofNat (byteAt (L.take i) (i / 8))) := by
 unfold pz
 rw [List.getElem?_map, List.getElem?_range (by omega)]; rfl
theorem byteAt_snoc_gt {L : List Bool} {b : Bool} {i : Nat} (h : L.length / 8 < i) : byteAt (L ++ [b]) i = byteAt L i := by
 unfold byteAt
 rw [List.drop_eq_nil_of_le (by simp; omega), List.drop_eq_nil_of_le (by omega)]
theorem pz_succ {L : List Bool} {i : Nat} (h : i < L.length) : pz L (i + 1) = (pz L i).set (i / 8) (UInt8.ofNat (byteAt (L.take i) (i / 8) + 2 ^ (i % 8) * L[i].toNat)) := by
 have ht : L.take (i + 1) = L.take i ++ [L[i]] := List.take_succ_eq_append_getElem h
 have hl : (L.take i).length = i := by rw [List.length_take]; omega
 apply List.ext_getElem?
 intro j
 unfold pz
 rw [ht, List.getElem?_set]
 simp only [List.length_map, List.length_range, List.getElem?_map]
 by_cases h1 : i / 8 = j
 ·subst h1
  rw [if_pos rfl, if_pos (by omega), List.getElem?_range (by omega)]
  have := byteAt_snoc_eq (L := L.take i) (b := L[i])
  rw [hl] at this
  rw [Option.map_some, this]
 ·rw [if_neg h1]
  by_cases hj : j < (L.length + 7) / 8
  ·rw [List.getElem?_range hj]
   simp only [Option.map_some]
   rcases Nat.lt_or_ge j (i / 8) with c | c
   ·rw [byteAt_snoc_lt (by rw [hl]; exact c)]
   ·rw [byteAt_snoc_gt (by rw [hl]; omega)]
  ·rw [List.getElem?_eq_none (by simp; omega)]; rfl
theorem or8b {a r : Nat} {b : Bool} (hr : r < 8) (h : a < 2 ^ r) : bitOp .or .u8 (a : Int) ((b.toNat * 2 ^ r : Nat) : Int) = ((a + 2 ^ r * b.toNat : Nat) : Int) := by
 cases b with
 | true => simpa using or8 hr h
 | false =>
  have hp : 2 ^ r ≤ 128 := by
   have : 2 ^ r ≤ 2 ^ 7 := Nat.pow_le_pow_right (by omega) (by omega)
   simpa using this
  unfold bitOp
  have h1 : (BitVec.ofInt IntKind.u8.bits (a : Int)).toNat = a := by
   rw [BitVec.ofInt_natCast, BitVec.toNat_ofNat]; exact Nat.mod_eq_of_lt (by simp only [IntKind.bits]; omega)
  simp only [Bool.toNat_false, Nat.zero_mul, Nat.mul_zero, Nat.add_zero]
  have h2 : (BitVec.ofInt IntKind.u8.bits ((0 : Nat) : Int)).toNat = 0 := by decide
  simp only [BitVec.toNat_or, h1, h2, Nat.or_zero]
  exact wrap8 (by omega)
theorem xBytes {W : World} {p : Nat} {l : List Bool} : Cn Try.prog 33 [.pointer (some ⟨p, 0, none⟩)] W [IsX p l] (fun q : Option Addr × Nat => .slice q.1 (pk l).length q.2) (fun q => [Sl 1 5 q.1 q.2 (pk l).length ((pk l).map B), IsX p l]) := by
 (refine S.ref02_Writer_Bytes_cn fun F => ?_; unfold S.ref02_Writer_Bytes; simp only [ca_, na_])
 refine e_ex Pick.here fun q => ?_
 obtain ⟨qa, qc⟩ := q
 refine e_all Pick.here ?_
 (try simp only [ca_, na_])
 refine e_pu (.there (.there .here)) fun hL => ?_
 have hpk := length_pk l
 (refine e_opN v_nil .nil ?_); (refine e_opN v_fa0 .nil ?_); (((refine' e_opN (v_ldN ?hc) ?hi ?_); (case hi => (repeat (first | exact .refl | exact .nil | (apply Imp.pick; (focus ((repeat constructor); done))) | refine .drop ?_))); (case hc => (repeat (first | exact Nth.here | apply Nth.there))))); (refine e_opN v_len .nil ?_); (((refine e_opN (v_add ?h1 ?h2) .nil ?_); (case h1 => omega); (case h2 => omega))); (((refine e_opN (v_quo ?h1 ?h2 ?h3) .nil ?_); (case h1 => omega); (case h2 => omega); (case h3 => omega)))
 refine e_mksl ((l.length + 7) / 8) ((l.length + 7) / 8) (by norm_cast) (by norm_cast) (by omega) (by omega) (by unfold maxLen; omega) fun g => ?_
 rw [← pz_zero]
 refine e_loop1 (fun m y => [ex fun i : Nat => all [pu (m + i = l.length ∧ y = .int .i64 (i : Int)), Sl 1 5 (some ⟨g, 0, none⟩) ((l.length + 7) / 8) ((l.length + 7) / 8) ((pz l i).map B), pt p (.cells #[.slice qa l.length qc] 66), Sl 1 5 qa qc l.length (l.map fun b => B (bb b))]] ++ F) l.length ?_ ?_
 ·refine Imp.ex 0 (.all ?_)
  (try simp only [ca_, na_])
  refine .pu (by refine ⟨by omega, ?_⟩; first | trivial | rfl) ?_
  (repeat (first | exact .refl | exact .nil | (apply Imp.pick; (focus ((repeat constructor); done))) | refine .drop ?_))
 ·intro m ds y
  (try simp only [ca_, na_])
  refine e_ex Pick.here fun i => e_all Pick.here ?_
  (try simp only [ca_, na_])
  refine e_pu Pick.here fun hi => ?_
  obtain ⟨hmi, rfl⟩ := hi
  (refine e_opN v_nil .nil ?_); (refine e_opN v_fa0 .nil ?_); (((refine' e_opN (v_ldN ?hc) ?hi ?_); (case hi => (repeat (first | exact .refl | exact .nil | (apply Imp.pick; (focus ((repeat constructor); done))) | refine .drop ?_))); (case hc => (repeat (first | exact Nth.here | apply Nth.there))))); (refine e_opN v_len .nil ?_)
  (refine e_ask v_lss .nil (fun h => ?_) (fun h => ?_))
  ·have hil : i < l.length := by omega
   refine e_slsome (.there (.there .here)) (by omega) fun g2 hg2 => ?_
   subst hg2
   (refine e_condT ?_); (refine e_drS ?_); (((refine e_stS (v_quo ?h1 ?h2 ?h3) .nil ?_); (case h1 => omega); (case h2 => omega); (case h3 => omega))); (((refine e_stS (v_quo ?h1 ?h2 ?h3) .nil ?_); (case h1 => omega); (case h2 => omega); (case h3 => omega)))
   refine e_stS (v_ia1 (i / 8) (by norm_cast) (by omega)) .nil ?_
   refine e_stS (v_ldSl (v := B (UInt8.ofNat (byteAt (l.take i) (i / 8)))) (by rw [Nat.zero_add, List.getElem?_map, pz_get hil]; rfl)) (.pick .here .nil) ?_
   (refine e_stS v_nil .nil ?_); (refine e_stS v_fa0 .nil ?_); (((refine' e_stS (v_ldN ?hc) ?hi ?_); (case hi => (repeat (first | exact .refl | exact .nil | (apply Imp.pick; (focus ((repeat constructor); done))) | refine .drop ?_))); (case hc => (repeat (first | exact Nth.here | apply Nth.there)))))
   refine e_stS (v_ia1 i (by norm_cast) (by omega)) .nil ?_
   refine e_stS (v_ldSl (v := B (bb l[i])) (by rw [Nat.zero_add, List.getElem?_map, List.getElem?_eq_getElem hil]; rfl)) (.pick (.there (.there .here)) .nil) ?_
   (((refine e_stS (v_rem ?h1 ?h2) .nil ?_); (case h1 => omega); (case h2 => omega)))
   refine e_stS v_conv .nil ?_
   rw [show ((i : Int) % 8) = ((i % 8 : Nat) : Int) by norm_cast, wrapu64 (by omega), B_bb]
   refine e_stS (v_shl (by omega)) .nil ?_
   have hmin : min (((i % 8 : Nat) : Int)).toNat IntKind.u8.bits = i % 8 := by simp only [IntKind.bits, Int.toNat_natCast]; omega
   have hp : 2 ^ (i % 8) ≤ 2 ^ 7 := Nat.pow_le_pow_right (by omega) (by omega)
   have hcc : (l[i].toNat : Int) * 2 ^ (i % 8) = ((l[i].toNat * 2 ^ (i % 8) : Nat) : Int) := by norm_cast
   have hle : l[i].toNat * 2 ^ (i % 8) ≤ 2 ^ (i % 8) := by cases l[i] <;> simp
   obtain ⟨E, hE⟩ : ∃ E, E = l[i].toNat * 2 ^ (i % 8) := ⟨_, rfl⟩
   rw [hmin, hcc, ← hE, wrap8 (by omega)]
   rw [B_ofNat (byteAt_lt _ _)]
   refine e_stS v_or .nil ?_
   have hlast : byteAt (l.take i) (i / 8) < 2 ^ (i % 8) := by
    have := byteAt_last (l.take i)
    rwa [List.length_take, Nat.min_eq_left (by omega)] at this
   rw [hE, or8b (by omega) hlast]
   refine e_stS (v_ia1 (i / 8) (by norm_cast) (by omega)) .nil ?_
   have e4 : byteAt (l.take i) (i / 8) + 2 ^ (i % 8) * l[i].toNat < 256 := by
    have := byteAt_lt (l.take (i + 1)) (i / 8)
    rw [List.take_succ_eq_append_getElem hil] at this
    have e5 := byteAt_snoc_eq (L := l.take i) (b := l[i])
    rw [List.length_take, Nat.min_eq_left (by omega)] at e5
    rwa [e5] at this
   refine e_stSl .here (by simp [length_pz]; omega) ?_
   rw [← B_ofNat e4, Nat.zero_add, ← List.map_set, ← pz_succ hil]
   (((refine e_opN (v_add ?h1 ?h2) .nil ?_); (case h1 => omega); (case h2 => omega)))
   refine e_next1 (m - 1) (by omega) (.ex (i + 1) (.all ?_))
   (try simp only [ca_, na_])
   refine .pu (by refine ⟨by omega, ?_⟩; first | trivial | norm_cast) ?_
   (repeat (first | exact .refl | exact .nil | (apply Imp.pick; (focus ((repeat constructor); done))) | refine .drop ?_))
  ·have : i = l.length := by omega
   subst this
   (refine e_condF ?_)
   rw [pz_last]
   refine e_ret (some ⟨g, 0, none⟩, (l.length + 7) / 8) (by rw [hpk]) ?_
   rw [hpk]
   refine .pick .here (.ex (qa, qc) (.all ?_))
   (try simp only [ca_, na_])
   exact .pick .here (.pick .here (.pu hL .refl))
end Go.Proofs.Ythoeeahdkdcceaa.B
namespace Go.Proofs.Ythoeeahdkdcceaa.Sl
open Go Go.RowKit Sh
variable {P : Program} {W : World} {L L' : List HP} {Kp : PK} {k : Value → WP} {H : Type} {enc : TypeId × Value → H}
theorem spot_none {w : World} {a : Addr} {v : Value} (h : w.cell? a = some v) : a.spot = none ∧ a.block < w.heap.size := by
 unfold World.cell? at h
 split at h
 ·rename_i c _ _ e
  refine ⟨?_, (Array.getElem?_eq_some_iff.1 e).1⟩
  cases hs : a.spot with
  | none => rfl
  | some x => rw [hs] at h; simp at h
 ·cases h
structure Old {α : Type} (W : World) (s : Nat) (rd : α → List Value → Prop) (a : Option Addr) (n : Nat) (xs : List α) : Prop where
 len : xs.length = n
 at_ : 0 < n → ∃ g o, a = some ⟨g, o, none⟩ ∧ g < W.heap.size ∧ ∀ (i : Nat) (h : i < xs.length), ∃ cs : List Value, cs.length = s ∧ rd xs[i] cs ∧ ∀ (j : Nat) (v : Value), cs[j]? = some v → W.cell? ⟨g, o + (i * s + j), none⟩ = some v
theorem choose_list {α : Type} {n : Nat} {R : Nat → α → Prop} (h : ∀ i, i < n → ∃ a, R i a) : ∃ xs : List α, xs.length = n ∧ ∀ (i : Nat) (hi : i < xs.length), R i xs[i] := by
 induction n with
 | zero => exact ⟨[], rfl, fun i hi => by simp at hi⟩
 | succ n ih =>
  obtain ⟨xs, h1, h2⟩ := ih fun i hi => h i (by omega)
  obtain ⟨a, ha⟩ := h n (by omega)
  refine ⟨xs ++ [a], by simp [h1], fun i hi => ?_⟩
  by_cases c : i < xs.length
  ·rw [List.getElem_append_left c]; exact h2 i c
  ·have : i = n := by simp at hi; omega
   subst this
   rw [List.getElem_append_right (by omega)]
   simpa [h1] using ha
theorem bulk_cons (d : DataW H) (r : List (DataW H)) : Rows.uptoBulkAll (d :: r) = Rows.uptoBulk d + Rows.uptoBulkAll r := by simp [Rows.uptoBulkAll]
theorem bulk_sum {α : Type} {m : α → Nat} : ∀ (xs : List α) (ds : List (DataW H)), xs.length = ds.length → (∀ (i : Nat) (h1 : i < xs.length) (h2 : i < ds.length), m xs[i] ≤ Rows.uptoBulk ds[i]) → (xs.map m).sum ≤ Rows.uptoBulkAll ds
 | [], [], _, _ => by simp
 | x :: xs, d :: ds, hl, h => by
  have h0 := h 0 (by simp) (by simp)
  have ih := bulk_sum xs ds (by simpa using hl) (fun i h1 h2 => h (i + 1) (by simp; omega) (by simp; omega))
  rw [bulk_cons, List.map_cons, List.sum_cons]
  simp only [List.getElem_cons_zero] at h0
  omega
theorem open_old {α : Type} {rd : α → List Value → Prop} {m : α → Nat} {t e : TypeId} {s fuel : Nat} {sp : Nat → Bool} {held : Bool} {cs : List Value} {x : DataW H × List MemPlace} (ht : P.underlying t = some (.slice e)) (hc : P.cellsOf e = s) (hs : 0 < s)
  (op : ∀ (n : Nat) (cs : List Value) (x : DataW H × List MemPlace), DataW.trod enc P W 0 sp held n e cs = some x → ∃ a, rd a cs ∧ m a ≤ Rows.uptoBulk x.1) (h : DataW.trod enc P W 0 sp held fuel t cs = some x) :
  ∃ (a : Option Addr) (n cap : Nat) (xs : List α), cs = [.slice a n cap] ∧ n ≤ cap ∧ cap ≤ maxLen ∧ (a = none → n = 0 ∧ cap = 0) ∧ Old W s rd a n xs ∧ (xs.map m).sum + 1 ≤ Rows.uptoBulk x.1 := by
 rcases DataW.trod_slice ht h with ⟨rfl, rfl⟩ | ⟨a, len, cap, elems, rest, n, rfl, rfl, rfl, hb, hl, hm, he, hel, _, _⟩
 ·exact ⟨none, 0, 0, [], rfl, Nat.le_refl _, by unfold maxLen; omega, fun _ => ⟨rfl, rfl⟩, ⟨rfl, fun c => by omega⟩, by simp [Rows.uptoBulk]⟩
 ·have cell0 : ∀ i, i < len → ∃ ds : List Value, ds.length = s ∧ (∃ y, rd y ds ∧ ∀ h : i < elems.length, m y ≤ Rows.uptoBulk elems[i].1) ∧ ∀ j, j < s → W.cell? ((a.add (i * s)).add j) = ds[j]? := fun i hi => by
   have h1 := hel i hi
   rw [List.getElem?_eq_getElem (by omega), Option.bind_eq_some_iff] at h1
   obtain ⟨ds, h2, h3⟩ := h1
   unfold World.cells? at h2
   rw [if_pos (Nat.zero_le _), hc] at h2
   obtain ⟨y, hy, hm2⟩ := op _ _ _ h3
   exact ⟨ds, by simpa using mapM_some_length h2, ⟨y, hy, fun _ => hm2⟩, fun j hj => mapM_some_get h2 j j (by simp [hj])⟩
  by_cases hz : len = 0
  ·subst hz
   exact ⟨some a, 0, cap, [], rfl, hl, hm, (fun c => by cases c), ⟨rfl, fun c => by omega⟩, by simp [Rows.uptoBulk]⟩
  obtain ⟨d0, hd0, _, hg0⟩ := cell0 0 (by omega)
  have h0 := hg0 0 hs
  have ea : (a.add (0 * s)).add 0 = a := by unfold Addr.add; simp
  rw [ea, List.getElem?_eq_getElem (by omega)] at h0
  obtain ⟨s1, s2⟩ := spot_none h0
  obtain ⟨g, o, sp'⟩ := a
  obtain rfl : sp' = none := s1
  have key : ∀ i, i < len → ∃ y : α, (∀ h : i < elems.length, m y ≤ Rows.uptoBulk elems[i].1) ∧ ∃ ds : List Value, ds.length = s ∧ rd y ds ∧ ∀ (j : Nat) (v : Value), ds[j]? = some v → W.cell? ⟨g, o + (i * s + j), none⟩ = some v := fun i hi => by
   obtain ⟨ds, hlen, ⟨y, hy, hyb⟩, hget⟩ := cell0 i hi
   refine ⟨y, hyb, ds, hlen, hy, fun j v hv => ?_⟩
   have hj : j < s := by
    rcases Nat.lt_or_ge j ds.length with c | c
    ·omega
    ·rw [List.getElem?_eq_none c] at hv; cases hv
   have := hget j hj
   rw [addr_add, addr_add, hv, Nat.add_assoc] at this
   exact this
  obtain ⟨xs, h1, h2⟩ := choose_list key
  refine ⟨some ⟨g, o, none⟩, len, cap, xs, rfl, hl, hm, (fun c => by cases c), ⟨h1, fun hn => ⟨g, o, rfl, s2, fun i hi => (h2 i hi).2⟩⟩, ?_⟩
  have := bulk_sum (m := m) xs (elems.map (·.1)) (by simp; omega) (fun i e1 e2 => by simpa using (h2 i e1).1 (by simpa using e2))
  simp only [Rows.uptoBulk]
  omega
theorem sum_ones {α : Type} : ∀ l : List α, (l.map fun _ => 1).sum = l.length
 | [] => rfl
 | x :: l => by simp [sum_ones l]; omega
def rdU (c : UInt8) (cs : List Value) : Prop := cs = [B c]
theorem Old.bytes {a : Option Addr} {n : Nat} {b : List UInt8} {A : HP} (h : Old W 1 rdU a n b) : RdB W A a n (b.map B) := by
 refine ⟨by rw [List.length_map]; exact h.len, fun hn => ?_⟩
 obtain ⟨g, o, rfl, hg, hc⟩ := h.at_ hn
 refine ⟨g, o, rfl, fun w L hw j v hv => ?_⟩
 rw [List.getElem?_map] at hv
 have hj : j < b.length := by
  rcases Nat.lt_or_ge j b.length with c | c
  ·exact c
  ·rw [List.getElem?_eq_none c] at hv; cases hv
 obtain ⟨cs, h1, h2, h3⟩ := hc j hj
 rw [h2] at h3
 have := h3 0 (B b[j]) rfl
 rw [List.getElem?_eq_getElem hj] at hv
 have hv' : B b[j] = v := Option.some.inj hv
 rw [hw.base.cell (p := ⟨g, o + j, none⟩) hg, ← hv']
 simpa using this
theorem open_u8 {e : TypeId} {sp : Nat → Bool} {held : Bool} (he : P.underlying e = some (.int .u8)) : ∀ (n : Nat) (cs : List Value) (x : DataW H × List MemPlace), DataW.trod enc P W 0 sp held n e cs = some x → ∃ a, rdU a cs ∧ 1 ≤ Rows.uptoBulk x.1 := fun n cs x h => by
 obtain ⟨m, rfl, rfl, hw⟩ := DataW.trod_int he h
 have hm : 0 ≤ m ∧ m ≤ 255 := by simpa [Lit.wf, IntKind.min, IntKind.max, IntKind.signed, IntKind.bits] using hw
 refine ⟨UInt8.ofNat m.toNat, ?_, by simp [Rows.uptoBulk]⟩
 unfold rdU B
 rw [UInt8.toNat_ofNat', Nat.mod_eq_of_lt (by omega), Int.toNat_of_nonneg hm.1]
theorem open_bytes {t e : TypeId} {fuel : Nat} {sp : Nat → Bool} {held : Bool} {cs : List Value} {x : DataW H × List MemPlace} (ht : P.underlying t = some (.slice e)) (hc : P.cellsOf e = 1) (he : P.underlying e = some (.int .u8)) (h : DataW.trod enc P W 0 sp held fuel t cs = some x) :
  ∃ (a : Option Addr) (cap : Nat) (b : List UInt8), cs = [.slice a b.length cap] ∧ b.length ≤ cap ∧ cap ≤ maxLen ∧ (a = none → b.length = 0) ∧ (∀ A, RdB W A a b.length (b.map B)) ∧ b.length + 1 ≤ Rows.uptoBulk x.1 := by
 obtain ⟨a, n, cap, b, rfl, h1, h2, h3, h4, h5⟩ := open_old (m := fun _ => 1) ht hc (by omega) (open_u8 (enc := enc) he) h
 have hl := h4.len
 subst hl
 exact ⟨a, cap, b, rfl, h1, h2, fun c => (h3 c).1, fun A => h4.bytes, by rwa [sum_ones] at h5⟩
theorem open_slice {t e : TypeId} {v : Value} {d : DataW H} {ps : List MemPlace} {r : Reach} {b0 : Nat} {sp : Nat → Bool} {held : Bool} (ht : P.underlying t = some (.slice e)) (hval : Value.okWide P W r b0 t v) (hd : DataW.Trod enc P W 0 sp held t v d ps) :
  ∃ fuel, DataW.trod enc P W 0 sp held fuel t [v] = some (d, ps) := by
 obtain ⟨a, n, c, rfl⟩ := WideShapes.okWide_slice ht hval
 obtain ⟨fuel, hf⟩ := hd
 exact ⟨fuel, hf⟩
end Go.Proofs.Ythoeeahdkdcceaa.Sl
namespace Go.Proofs.Ythoeeahdkdcceaa.Sl
open Go Sh
variable {P : Program} {W : World} {L L' : List HP} {Kp : PK} {k : Value → WP}
theorem fold_put (o : Nat) : ∀ (us pre zs : List Value) (m : Nat), pre.length = o + m → us.length ≤ zs.length →
  (us.zipIdx m).foldl (fun (cs : Array Value) (x : Value × Nat) => cs.setIfInBounds (o + x.2) x.1) (pre ++ zs).toArray = (pre ++ us ++ zs.drop us.length).toArray
 | [], pre, zs, m, _, _ => by simp
 | u :: us, pre, [], m, _, h => by simp at h
 | u :: us, pre, z :: zs, m, hp, h => by
  have ih := fold_put o us (pre ++ [u]) zs (m + 1) (by simp; omega) (by simpa using h)
  have e : ((pre ++ z :: zs).toArray).setIfInBounds (o + m) u = (pre ++ [u] ++ zs).toArray := by
   rw [← hp]; simp
  rw [List.zipIdx_cons, List.foldl_cons]
  simp only
  rw [e, ih]; simp
theorem fill_runS (s : Nat) : ∀ (vs pre zs : List Value) (m : Nat), pre.length = m * s → zs.length = vs.length * s → (∀ v ∈ vs, v.cells.size = s) →
  Instr.fill (fun i => some (i * s, s)) (pre ++ zs).toArray ((vs.zipIdx m).map fun x => (x.2, x.1)) = some (pre ++ vs.flatMap fun v => v.cells.toList).toArray
 | [], pre, zs, m, _, hz, _ => by
  have : zs = [] := List.eq_nil_of_length_eq_zero (by simpa using hz)
  subst this; simp [Instr.fill]
 | v :: vs, pre, zs, m, hp, hz, ho => by
  have hv := ho v (by simp)
  have hz' : zs.length = vs.length * s + s := by rw [hz, List.length_cons, Nat.add_mul, Nat.one_mul]
  have ih := fill_runS s vs (pre ++ v.cells.toList) (zs.drop s) (m + 1) (by rw [List.length_append, hp, Array.length_toList, hv, Nat.add_mul, Nat.one_mul]) (by rw [List.length_drop, hz']; omega) (fun u hu => ho u (by simp [hu]))
  simp only [List.zipIdx_cons, List.map_cons, Instr.fill, hv]
  rw [if_neg (by simp [hp, hz'])]
  have h2 : Array.foldl (fun cs (x : Value × Nat) => cs.setIfInBounds (m * s + x.2) x.1) (pre ++ zs).toArray v.cells.zipIdx = (pre ++ v.cells.toList ++ zs.drop s).toArray := by
   have := fold_put (m * s) v.cells.toList pre zs 0 (by simpa using hp) (by rw [Array.length_toList, hv]; omega)
   rw [Array.length_toList, hv] at this
   rw [← this]
   have e2 : v.cells.zipIdx.toList = v.cells.toList.zipIdx := by simp
   rw [← e2, Array.foldl_toList]
  rw [h2, ih]; simp
theorem e_bslS {t e : TypeId} {s b n : Nat} {parts : List (Nat × Value)} {vs : List Value} [ht : SlT P t e s b] (hn : vs.length = n) (h1 : 0 < n) (hp : parts = vs.zipIdx.map fun x => (x.2, x.1)) (ho : ∀ v ∈ vs, v.cells.size = s) (hm : n * s ≤ 16777216)
  (h : ∀ g, Ent W (pt g (.cells (vs.flatMap fun v => v.cells.toList).toArray e) :: L) (k (.slice (some ⟨g, 0, none⟩) n n))) : Ent W L (opN P (sBuildSl t n parts) Kp k) := fun w hw => by
 refine ⟨?_⟩
 obtain ⟨i, z, hi, hz, hs, hb, hzs⟩ := ht.info
 have : (sBuildSl t n parts).run P w = .ok (.value (.slice (some ⟨w.heap.size, 0, none⟩) n n)) (w.alloc (.cells (vs.flatMap fun v => v.cells.toList).toArray e)) := by
  have hm' : ¬ (2 ^ 24 < n * s) := by omega
  have hf : ∀ zs : Array Value, zs.size = n * s → Instr.fill (fun i => some (i * s, s)) zs parts = some (vs.flatMap fun v => v.cells.toList).toArray := fun zs hz => by
   have := fill_runS s vs [] zs.toList 0 (by simp) (by simp [hz, hn]) ho
   simpa [hp] using this
  by_cases h0 : n * s = 0
  ·simp [sBuildSl, Instr.buildSlice, run_underlying ht.ut, sizeOf_run hi, hs, zeroValue, typeInfo, hi, hz, newRow, h0]
   have := hf ((Array.range 0).map fun _ => (default : Value)) (by simp [h0])
   rw [this]
   simp
  ·simp [sBuildSl, Instr.buildSlice, run_underlying ht.ut, sizeOf_run hi, hs, hm', zeroValue, typeInfo, hi, hz, newRow, h0]
   have := hf ((Array.range (n * s)).map fun j => z.cells[j % z.cells.size]!) (by simp)
   rw [this]
   simp
 rw [this]
 exact h _ _ (hw.alloc _)
theorem flat_len {α : Type} {f : α → List Value} {s : Nat} (hf : ∀ x, (f x).length = s) : ∀ l : List α, (l.flatMap f).length = l.length * s
 | [] => by simp
 | x :: l => by rw [List.flatMap_cons, List.length_append, hf, flat_len hf l, List.length_cons, Nat.add_mul, Nat.one_mul, Nat.add_comm]
theorem flat_get {α : Type} {f : α → List Value} {s : Nat} (hf : ∀ x, (f x).length = s) : ∀ (l : List α) (i j : Nat) (hi : i < l.length) (hj : j < s), (l.flatMap f)[i * s + j]? = (f l[i])[j]?
 | x :: l, 0, j, _, hj => by
  rw [List.flatMap_cons, Nat.zero_mul, Nat.zero_add, List.getElem?_append_left (by rw [hf]; exact hj)]; rfl
 | x :: l, i + 1, j, hi, hj => by
  rw [List.flatMap_cons, List.getElem?_append_right (by rw [hf, Nat.add_mul]; omega), hf, show (i + 1) * s + j - s = i * s + j by rw [Nat.add_mul]; omega, flat_get hf l i j (by simpa using hi) hj]; rfl
end Go.Proofs.Ythoeeahdkdcceaa.Sl
namespace Go.Proofs.Ythoeeahdkdcceaa.Sl
open Go Go.RowKit Sh
variable {P : Program} {W : World} {L L' : List HP} {Kp : PK} {k : Value → WP} {H : Type} {enc : TypeId × Value → H}
def I (n : Int) : Value := .int .i64 n
instance {n : Int} : OC (I n) := ⟨rfl⟩
theorem I_one {l : List Int} : ∀ u ∈ l.map I, u.oneCell' = true := by
 intro u hu; obtain ⟨c, _, rfl⟩ := List.mem_map.1 hu; rfl
theorem I_get {l : List Int} {j : Nat} (h : j < l.length) : (l.map I)[j]? = some (I l[j]) := by simp [h]
def An (n : Nat) (f : Nat → Int) : Array Value := ((List.range n).map fun j => I (f j)).toArray
theorem An_size (n : Nat) (f : Nat → Int) : (An n f).size = n := by simp [An]
theorem An_get {n j : Nat} {f : Nat → Int} (h : j < n) : (An n f)[j]? = some (I (f j)) := by simp [An, h]
theorem An_congr {n : Nat} {f g : Nat → Int} (h : ∀ j, j < n → f j = g j) : An n f = An n g := by
 unfold An
 congr 1
 exact List.map_congr_left fun j hj => by rw [h j (List.mem_range.1 hj)]
theorem An_set {n j : Nat} {f : Nat → Int} {v : Int} : (An n f).setIfInBounds j (I v) = An n fun i => if i = j then v else f i := by
 apply Array.ext_getElem?
 intro i
 rw [Array.getElem?_setIfInBounds, An_size]
 by_cases c : j = i
 ·subst c
  rw [if_pos rfl]
  by_cases h : j < n
  ·rw [if_pos h, An_get h]; simp
  ·rw [if_neg h, Array.getElem?_eq_none (by rw [An_size]; omega)]
 ·rw [if_neg c]
  by_cases h : i < n
  ·rw [An_get h, An_get h, if_neg (fun e => c e.symm)]
  ·rw [Array.getElem?_eq_none (by rw [An_size]; omega), Array.getElem?_eq_none (by rw [An_size]; omega)]
theorem v_slA {t e : TypeId} {s len : Nat} {g l : Nat} {q : IntKind} {i : Int} [ht : ArrT P t len e s] (hi : i = (l : Int)) (hl : l < len) : RunV P W [] (sSl t (.pointer (some ⟨g, 0, none⟩)) (some (.int q i)) none none) (.slice (some ⟨g, l * s, none⟩) (len - l) (len - l)) := fun w _ => by
 have hne : len ≠ l := by omega
 simp [sSl, Instr.sliceAt, Instr.sliceBounds, ht.ut, ht.size, run_bound l hi (Nat.le_of_lt hl), Instr.sureAddr, hne, Addr.add]
 intro h; exact h.symm
theorem rd_cut {A : HP} {g m n l : Nat} {f : Nat → Int} (h : RdB W A (some ⟨g, 0, none⟩) n ((List.range n).map fun j => I (f j))) (hl : l + m = n) : RdB W A (some ⟨g, l * 1, none⟩) m ((List.range m).map fun j => I (f (l + j))) := by
 have := h.cut (cap := n + 1) (l := l) (h := n) (by omega) (by omega) (by omega)
 rw [if_neg (by omega)] at this
 have e : (Option.map (fun x : Addr => x.add (l * 1)) (some ⟨g, 0, none⟩)) = some ⟨g, l * 1, none⟩ := by simp [addr_add]
 rw [e, show n - l = m by omega] at this
 have e2 : List.take m (List.drop l ((List.range n).map fun j => I (f j))) = (List.range m).map fun j => I (f (l + j)) := by
  apply List.ext_getElem?
  intro j
  rw [List.getElem?_take]
  by_cases c : j < m
  ·rw [if_pos c, List.getElem?_drop, List.getElem?_map, List.getElem?_map, List.getElem?_range (by omega), List.getElem?_range c]; rfl
  ·rw [if_neg c, List.getElem?_eq_none (by simp; omega)]
 rw [e2] at this
 exact this
end Go.Proofs.Ythoeeahdkdcceaa.Sl
