/- The shapes of functions of the loaded program, printed by a program of mine; each is proved to be what the model asks of the function. No conditions. (1 texts made one; each says below what it is.) -/
import Derived.Test.YthoeeahdkdcceaaChecked
import Derived.Test.YthoeeahdkdcceaaK1
import Derived.KernelRfl
set_option linter.unusedVariables false
set_option linter.unusedSimpArgs false
set_option linter.unusedSectionVars false
namespace Go.Proofs.Ythoeeahdkdcceaa.S
open Go Sh Sl
theorem wide : Try.prog.follows .mixedOrders = true := by kernel_rfl
def law06_DeflateWrites (v0 v1 : Value) (Kp : PK) (K : Value → WP) : WP :=
 opN Try.prog (sCall (fn 9) [v0]) Kp fun x11 =>
 opN Try.prog (sCall (fn 10) [x11, v1]) Kp fun x15 =>
 opN Try.prog (sExt x15 0) Kp fun x16 =>
 opN Try.prog (sExt x15 1) Kp fun x17 =>
 opN Try.prog (sCall (fn 11) [v0, v1]) Kp fun x21 =>
 opN Try.prog (sExt x21 0) Kp fun x22 =>
 opN Try.prog (sExt x21 1) Kp fun x23 =>
 opN Try.prog (sConv 22 9 x16) Kp fun x25 =>
 opN Try.prog (sConv 22 9 x22) Kp fun x27 =>
 opN Try.prog (sEq .eql 9 (.tmp 25) (.tmp 27) x25 x27) Kp fun x28 =>
 gdK x28 true (fun k => k x17) fun x30 =>
 gdK x28 true (opN Try.prog (sCall (fn 12) [x30]) Kp) fun x31 =>
 gdK x28 true (fun k => k x23) fun x32 =>
 gdK x28 true (opN Try.prog (sEq .eql 3 (.tmp 31) (.tmp 32) x31 x32) Kp) fun x33 =>
 opN Try.prog (sPick x28 x33 (.bool false)) Kp fun x34 =>
 gdK x34 true (fun k => k x11) fun x36 =>
 gdK x34 true (fun k => k v0) fun x37 =>
 gdK x34 true (opN Try.prog (sCall (fn 13) [x36, x37]) Kp) fun x38 =>
 opN Try.prog (sPick x34 x38 (.bool false)) Kp fun x39 =>
 gdK x39 true (opN Try.prog (sCall (fn 14) []) Kp) fun x41 =>
 opN Try.prog (sPick x39 x41 (.bool false)) Kp fun x42 =>
 K x42
def law06_DeflateWrites_an : Ann := { cuts := [], blks := [], loops := [], drs := [] }
theorem law06_DeflateWrites_eq (v0 v1 : Value) (Kp : PK) (K : Value → WP) : cevF Try.prog law06_DeflateWrites_an Try.f3 [v0, v1] Kp K = law06_DeflateWrites v0 v1 Kp K := by kernel_rfl
theorem law06_DeflateWrites_calls {v0 v1 : Value} {Kp : PK} {K : Value → WP} {w : World} (h : law06_DeflateWrites v0 v1 Kp K w) : Calls Try.prog 3 #[v0, v1] w (after Kp K) :=
 calls_of_shape (calls_of_cev wide Try.func3 (an := law06_DeflateWrites_an) (args := [v0, v1]) (cast (congrFun (law06_DeflateWrites_eq v0 v1 Kp K) w).symm h))
theorem law06_DeflateWrites_cn {v0 v1 : Value} {W : World} {α : Type} {A : List HP} {r : α → Value} {B : α → List HP} (h : ∀ F, Ent W (A ++ F) (law06_DeflateWrites v0 v1 noP fun v w => ∃ x, v = r x ∧ sat W (B x ++ F) w)) : Cn Try.prog 3 [v0, v1] W A r B :=
 Cn.of (shape := law06_DeflateWrites v0 v1) Try.call3 (fun h => law06_DeflateWrites_calls h) h
def law01_Lent (v0 : Value) (Kp : PK) (K : Value → WP) : WP :=
 opN Try.prog (sBuildSl 22 0 []) Kp fun x4 =>
 opN Try.prog (sApp #[22, 22] 22 [x4, v0]) Kp fun x6 =>
 opN Try.prog (sBuildSl 22 2 [(0, (.int .u8 201)), (1, (.int .u8 202))]) Kp fun x8 =>
 opN Try.prog (sApp #[22, 22] 22 [x6, x8]) Kp fun x9 =>
 opN Try.prog (sLen #[22] 3 [v0]) Kp fun x12 =>
 opN Try.prog (sSl 22 x9 none (some x12) none) Kp fun x13 =>
 K x13
def law01_Lent_an : Ann := { cuts := [], blks := [], loops := [], drs := [] }
theorem law01_Lent_eq (v0 : Value) (Kp : PK) (K : Value → WP) : cevF Try.prog law01_Lent_an Try.f9 [v0] Kp K = law01_Lent v0 Kp K := by kernel_rfl
theorem law01_Lent_calls {v0 : Value} {Kp : PK} {K : Value → WP} {w : World} (h : law01_Lent v0 Kp K w) : Calls Try.prog 9 #[v0] w (after Kp K) :=
 calls_of_shape (calls_of_cev wide Try.func9 (an := law01_Lent_an) (args := [v0]) (cast (congrFun (law01_Lent_eq v0 Kp K) w).symm h))
theorem law01_Lent_cn {v0 : Value} {W : World} {α : Type} {A : List HP} {r : α → Value} {B : α → List HP} (h : ∀ F, Ent W (A ++ F) (law01_Lent v0 noP fun v w => ∃ x, v = r x ∧ sat W (B x ++ F) w)) : Cn Try.prog 9 [v0] W A r B :=
 Cn.of (shape := law01_Lent v0) Try.call9 (fun h => law01_Lent_calls h) h
def deflate_Deflate (v0 v1 : Value) (Kp : PK) (K : Value → WP) : WP :=
  opN Try.prog (sCall (fn 26) [v1]) Kp fun x13 =>
  condS x13
  (K (.tuple #[(.slice none 0 0), (.int .i64 1)]))
  (opN Try.prog (sLen #[22] 3 [v0]) Kp fun x16 =>
   opN Try.prog (sBin .gtr 3 x16 (.int .i64 524288)) Kp fun x17 =>
   condS x17
   (K (.tuple #[(.slice none 0 0), (.int .i64 6)]))
   (opN Try.prog (sCall (fn 27) []) Kp fun x18 =>
    opN Try.prog (sCall (fn 28) [v0, v1]) Kp fun x21 =>
    opN Try.prog (sLen #[57] 3 [x21]) Kp fun x23 =>
    loop1 (fun I1 m1 _ y24 =>
     opN Try.prog (sBin .lss 3 y24 x23) Kp fun x25 =>
     condS x25
     (opN Try.prog (sIA 57 x21 y24) Kp fun x27 =>
      opN Try.prog (sLoad 61 x27) Kp fun x28 =>
      opN Try.prog (sAlloc 61) Kp fun x9 =>
      opN Try.prog (sStore 61 x9 x28) Kp fun _ =>
      cut1 (fun J1 =>
       opN Try.prog (sLen #[57] 3 [x21]) Kp fun x31 =>
       opN Try.prog (sBin .sub 3 x31 (.int .i64 1)) Kp fun x32 =>
       opN Try.prog (sEq .eql 3 (.tmp 29) (.tmp 32) y24 x32) Kp fun x33 =>
       condS x33
       (J1 (.int .i64 1))
       (J1 (.int .i64 0))) fun _ z10 =>
      opN Try.prog (sLoad 61 x9) Kp fun x34 =>
      opN Try.prog (sCall (fn 29) [x34, x18, z10]) Kp fun x37 =>
      opN Try.prog (sBin .add 3 y24 (.int .i64 1)) Kp fun x38 =>
      next1 I1 m1 x38)
     (opN Try.prog (sCall (fn 30) [x18]) Kp fun x40 =>
      K (.tuple #[x40, (.int .i64 0)]))) (.int .i64 0)))
def deflate_Deflate_an : Ann := { cuts := [(13, [10])], blks := [], loops := [(8, [24])], drs := [] }
theorem deflate_Deflate_eq (v0 v1 : Value) (Kp : PK) (K : Value → WP) : cevF Try.prog deflate_Deflate_an Try.f10 [v0, v1] Kp K = deflate_Deflate v0 v1 Kp K := by kernel_rfl
theorem deflate_Deflate_calls {v0 v1 : Value} {Kp : PK} {K : Value → WP} {w : World} (h : deflate_Deflate v0 v1 Kp K w) : Calls Try.prog 10 #[v0, v1] w (after Kp K) :=
 calls_of_shape (calls_of_cev wide Try.func10 (an := deflate_Deflate_an) (args := [v0, v1]) (cast (congrFun (deflate_Deflate_eq v0 v1 Kp K) w).symm h))
theorem deflate_Deflate_cn {v0 v1 : Value} {W : World} {α : Type} {A : List HP} {r : α → Value} {B : α → List HP} (h : ∀ F, Ent W (A ++ F) (deflate_Deflate v0 v1 noP fun v w => ∃ x, v = r x ∧ sat W (B x ++ F) w)) : Cn Try.prog 10 [v0, v1] W A r B :=
 Cn.of (shape := deflate_Deflate v0 v1) Try.call10 (fun h => deflate_Deflate_calls h) h
def ref06_Deflate (v0 v1 : Value) (Kp : PK) (K : Value → WP) : WP :=
  opN Try.prog (sBin .lss 3 v1 (.int .i64 0)) Kp fun x11 =>
  gdK x11 false (fun k => k v1) fun x13 =>
  gdK x11 false (opN Try.prog (sBin .gtr 3 x13 (.int .i64 9)) Kp) fun x14 =>
  opN Try.prog (sPick x11 (.bool true) x14) Kp fun x15 =>
  condS x15
  (K (.tuple #[(.slice none 0 0), (.int .i64 1)]))
  (opN Try.prog (sLen #[22] 3 [v0]) Kp fun x17 =>
   opN Try.prog (sBin .gtr 3 x17 (.int .i64 524288)) Kp fun x18 =>
   condS x18
   (K (.tuple #[(.slice none 0 0), (.int .i64 6)]))
   (opN Try.prog (sBuild 66 []) Kp fun x19 =>
    opN Try.prog (sBox 66 x19) Kp fun x20 =>
    opN Try.prog (sCall (fn 31) [v0, v1]) Kp fun x23 =>
    loop1 (fun I1 m1 _ y8 =>
     opN Try.prog (sLen #[67] 3 [x23]) Kp fun x26 =>
     opN Try.prog (sBin .lss 3 y8 x26) Kp fun x27 =>
     condS x27
     (cut1 (fun J1 =>
       opN Try.prog (sLen #[67] 3 [x23]) Kp fun x32 =>
       opN Try.prog (sBin .sub 3 x32 (.int .i64 1)) Kp fun x33 =>
       opN Try.prog (sEq .eql 3 (.tmp 30) (.tmp 33) y8 x33) Kp fun x34 =>
       condS x34
       (J1 (.int .i64 1))
       (J1 (.int .i64 0))) fun _ z9 =>
      opN Try.prog (sIA 67 x23 y8) Kp fun x38 =>
      opN Try.prog (sLoad 72 x38) Kp fun x39 =>
      opN Try.prog (sCall (fn 32) [x20, x39, v1, z9]) Kp fun x42 =>
      opN Try.prog (sBin .add 3 y8 (.int .i64 1)) Kp fun x29 =>
      next1 I1 m1 x29)
     (opN Try.prog (sCall (fn 33) [x20]) Kp fun x44 =>
      K (.tuple #[x44, (.int .i64 0)]))) (.int .i64 0)))
def ref06_Deflate_an : Ann := { cuts := [(13, [9])], blks := [], loops := [(8, [8])], drs := [] }
theorem ref06_Deflate_eq (v0 v1 : Value) (Kp : PK) (K : Value → WP) : cevF Try.prog ref06_Deflate_an Try.f11 [v0, v1] Kp K = ref06_Deflate v0 v1 Kp K := by kernel_rfl
theorem ref06_Deflate_calls {v0 v1 : Value} {Kp : PK} {K : Value → WP} {w : World} (h : ref06_Deflate v0 v1 Kp K w) : Calls Try.prog 11 #[v0, v1] w (after Kp K) :=
 calls_of_shape (calls_of_cev wide Try.func11 (an := ref06_Deflate_an) (args := [v0, v1]) (cast (congrFun (ref06_Deflate_eq v0 v1 Kp K) w).symm h))
theorem ref06_Deflate_cn {v0 v1 : Value} {W : World} {α : Type} {A : List HP} {r : α → Value} {B : α → List HP} (h : ∀ F, Ent W (A ++ F) (ref06_Deflate v0 v1 noP fun v w => ∃ x, v = r x ∧ sat W (B x ++ F) w)) : Cn Try.prog 11 [v0, v1] W A r B :=
 Cn.of (shape := ref06_Deflate v0 v1) Try.call11 (fun h => ref06_Deflate_calls h) h
def law06_num (v0 : Value) (Kp : PK) (K : Value → WP) : WP :=
 K v0
def law06_num_an : Ann := { cuts := [], blks := [], loops := [], drs := [] }
theorem law06_num_eq (v0 : Value) (Kp : PK) (K : Value → WP) : cevF Try.prog law06_num_an Try.f12 [v0] Kp K = law06_num v0 Kp K := by kernel_rfl
theorem law06_num_calls {v0 : Value} {Kp : PK} {K : Value → WP} {w : World} (h : law06_num v0 Kp K w) : Calls Try.prog 12 #[v0] w (after Kp K) :=
 calls_of_shape (calls_of_cev wide Try.func12 (an := law06_num_an) (args := [v0]) (cast (congrFun (law06_num_eq v0 Kp K) w).symm h))
theorem law06_num_cn {v0 : Value} {W : World} {α : Type} {A : List HP} {r : α → Value} {B : α → List HP} (h : ∀ F, Ent W (A ++ F) (law06_num v0 noP fun v w => ∃ x, v = r x ∧ sat W (B x ++ F) w)) : Cn Try.prog 12 [v0] W A r B :=
 Cn.of (shape := law06_num v0) Try.call12 (fun h => law06_num_calls h) h
def law01_Stays (v0 v1 : Value) (Kp : PK) (K : Value → WP) : WP :=
  opN Try.prog (sLen #[22] 3 [v1]) Kp fun x8 =>
  opN Try.prog (sBin .add 3 x8 (.int .i64 2)) Kp fun x9 =>
  opN Try.prog (sSl 22 v0 none (some x9) none) Kp fun x10 =>
  drS (stS Try.prog (sLen #[22] 3 [v1]) fun x13 =>
   stS Try.prog (sSl 22 x10 none (some x13) none) fun x14 =>
   stS Try.prog (sConv 22 9 x14) fun x15 =>
   stS Try.prog (sConv 22 9 v1) fun x17 =>
   stS Try.prog (sEq .eql 9 (.tmp 15) (.tmp 17) x15 x17) fun x18 =>
   gdK x18 true (fun k => k x10) fun x20 =>
   gdK x18 true (fun k => k v1) fun x21 =>
   gdK x18 true (stS Try.prog (sLen #[22] 3 [x21])) fun x22 =>
   gdK x18 true (stS Try.prog (sIA 22 x20 x22)) fun x23 =>
   gdK x18 true (stS Try.prog (sLoad 5 x23)) fun x24 =>
   gdK x18 true (stS Try.prog (sEq .eql 5 (.tmp 24) (.const (.int .u8 201)) x24 (.int .u8 201))) fun x25 =>
   stS Try.prog (sPick x18 x25 (.bool false)) fun x26 =>
   gdK x26 true (fun k => k x10) fun x28 =>
   gdK x26 true (fun k => k v1) fun x29 =>
   gdK x26 true (stS Try.prog (sLen #[22] 3 [x29])) fun x30 =>
   gdK x26 true (stS Try.prog (sBin .add 3 x30 (.int .i64 1))) fun x31 =>
   gdK x26 true (stS Try.prog (sIA 22 x28 x31)) fun x32 =>
   gdK x26 true (stS Try.prog (sLoad 5 x32)) fun x33 =>
   gdK x26 true (stS Try.prog (sEq .eql 5 (.tmp 33) (.const (.int .u8 202)) x33 (.int .u8 202))) fun x34 =>
   stS Try.prog (sPick x26 x34 (.bool false)) fun x35 =>
   K x35)
def law01_Stays_an : Ann := { cuts := [], blks := [], loops := [], drs := [(2, .ofL [(0, 1), (1, 1), (2, 1), (3, 1), (4, 1), (5, 1), (6, 1), (7, 1), (8, 1), (9, 1), (10, 1), (11, 1), (12, 1), (13, 1), (14, 1), (15, 1), (16, 1), (17, 1), (18, 1), (19, 1), (20, 1), (21, 1), (22, 1), (23, 1), (24, 1), (25, 1)])] }
theorem law01_Stays_eq (v0 v1 : Value) (Kp : PK) (K : Value → WP) : cevF Try.prog law01_Stays_an Try.f13 [v0, v1] Kp K = law01_Stays v0 v1 Kp K := by kernel_rfl
theorem law01_Stays_calls {v0 v1 : Value} {Kp : PK} {K : Value → WP} {w : World} (h : law01_Stays v0 v1 Kp K w) : Calls Try.prog 13 #[v0, v1] w (after Kp K) :=
 calls_of_shape (calls_of_cev wide Try.func13 (an := law01_Stays_an) (args := [v0, v1]) (cast (congrFun (law01_Stays_eq v0 v1 Kp K) w).symm h))
theorem law01_Stays_cn {v0 v1 : Value} {W : World} {α : Type} {A : List HP} {r : α → Value} {B : α → List HP} (h : ∀ F, Ent W (A ++ F) (law01_Stays v0 v1 noP fun v w => ∃ x, v = r x ∧ sat W (B x ++ F) w)) : Cn Try.prog 13 [v0, v1] W A r B :=
 Cn.of (shape := law01_Stays v0 v1) Try.call13 (fun h => law01_Stays_calls h) h
def law06_knows (Kp : PK) (K : Value → WP) : WP :=
 opN Try.prog (sBuildSl 22 3 [(0, (.int .u8 97)), (1, (.int .u8 98)), (2, (.int .u8 99))]) Kp fun x6 =>
 opN Try.prog (sConv 22 22 x6) Kp fun x7 =>
 opN Try.prog (sCall (fn 10) [x7, (.int .i64 6)]) Kp fun x8 =>
 opN Try.prog (sExt x8 0) Kp fun x9 =>
 opN Try.prog (sExt x8 1) Kp fun x10 =>
 opN Try.prog (sBuildSl 22 3 [(0, (.int .u8 97)), (1, (.int .u8 98)), (2, (.int .u8 99))]) Kp fun x12 =>
 opN Try.prog (sConv 22 22 x12) Kp fun x13 =>
 opN Try.prog (sCall (fn 10) [x13, (.int .i64 0)]) Kp fun x14 =>
 opN Try.prog (sExt x14 0) Kp fun x15 =>
 opN Try.prog (sExt x14 1) Kp fun x16 =>
 opN Try.prog (sCall (fn 12) [x10]) Kp fun x18 =>
 opN Try.prog (sCall (fn 12) [x16]) Kp fun x20 =>
 opN Try.prog (sBin .add 3 x18 x20) Kp fun x21 =>
 opN Try.prog (sEq .eql 3 (.tmp 21) (.const (.int .i64 0)) x21 (.int .i64 0)) Kp fun x22 =>
 gdK x22 true (fun k => k x9) fun x24 =>
 gdK x22 true (opN Try.prog (sConv 22 9 x24) Kp) fun x25 =>
 gdK x22 true (opN Try.prog (sEq .eql 9 (.tmp 25) (.const (.string ⟨#[75, 76, 74, 6, 0]⟩)) x25 (.string ⟨#[75, 76, 74, 6, 0]⟩)) Kp) fun x26 =>
 opN Try.prog (sPick x22 x26 (.bool false)) Kp fun x27 =>
 gdK x27 true (fun k => k x15) fun x29 =>
 gdK x27 true (opN Try.prog (sLen #[22] 3 [x29]) Kp) fun x30 =>
 gdK x27 true (opN Try.prog (sEq .eql 3 (.tmp 30) (.const (.int .i64 8)) x30 (.int .i64 8)) Kp) fun x31 =>
 opN Try.prog (sPick x27 x31 (.bool false)) Kp fun x32 =>
 gdK x32 true (fun k => k x15) fun x34 =>
 gdK x32 true (opN Try.prog (sIA 22 x34 (.int .i64 7)) Kp) fun x35 =>
 gdK x32 true (opN Try.prog (sLoad 5 x35) Kp) fun x36 =>
 gdK x32 true (opN Try.prog (sEq .eql 5 (.tmp 36) (.const (.int .u8 99)) x36 (.int .u8 99)) Kp) fun x37 =>
 opN Try.prog (sPick x32 x37 (.bool false)) Kp fun x38 =>
 K x38
def law06_knows_an : Ann := { cuts := [], blks := [], loops := [], drs := [] }
theorem law06_knows_eq (Kp : PK) (K : Value → WP) : cevF Try.prog law06_knows_an Try.f14 [] Kp K = law06_knows Kp K := by kernel_rfl
theorem law06_knows_calls  {Kp : PK} {K : Value → WP} {w : World} (h : law06_knows Kp K w) : Calls Try.prog 14 #[] w (after Kp K) :=
 calls_of_shape (calls_of_cev wide Try.func14 (an := law06_knows_an) (args := []) (cast (congrFun (law06_knows_eq Kp K) w).symm h))
theorem law06_knows_cn  {W : World} {α : Type} {A : List HP} {r : α → Value} {B : α → List HP} (h : ∀ F, Ent W (A ++ F) (law06_knows noP fun v w => ∃ x, v = r x ∧ sat W (B x ++ F) w)) : Cn Try.prog 14 [] W A r B :=
 Cn.of (shape := law06_knows) Try.call14 (fun h => law06_knows_calls h) h
def deflate_wrong (v0 : Value) (Kp : PK) (K : Value → WP) : WP :=
 opN Try.prog (sBin .lss 3 v0 (.int .i64 0)) Kp fun x4 =>
 gdK x4 false (fun k => k v0) fun x6 =>
 gdK x4 false (opN Try.prog (sBin .gtr 3 x6 (.int .i64 9)) Kp) fun x7 =>
 opN Try.prog (sPick x4 (.bool true) x7) Kp fun x8 =>
 K x8
def deflate_wrong_an : Ann := { cuts := [], blks := [], loops := [], drs := [] }
theorem deflate_wrong_eq (v0 : Value) (Kp : PK) (K : Value → WP) : cevF Try.prog deflate_wrong_an Try.f26 [v0] Kp K = deflate_wrong v0 Kp K := by kernel_rfl
theorem deflate_wrong_calls {v0 : Value} {Kp : PK} {K : Value → WP} {w : World} (h : deflate_wrong v0 Kp K w) : Calls Try.prog 26 #[v0] w (after Kp K) :=
 calls_of_shape (calls_of_cev wide Try.func26 (an := deflate_wrong_an) (args := [v0]) (cast (congrFun (deflate_wrong_eq v0 Kp K) w).symm h))
theorem deflate_wrong_cn {v0 : Value} {W : World} {α : Type} {A : List HP} {r : α → Value} {B : α → List HP} (h : ∀ F, Ent W (A ++ F) (deflate_wrong v0 noP fun v w => ∃ x, v = r x ∧ sat W (B x ++ F) w)) : Cn Try.prog 26 [v0] W A r B :=
 Cn.of (shape := deflate_wrong v0) Try.call26 (fun h => deflate_wrong_calls h) h
def bits_NewWriter (Kp : PK) (K : Value → WP) : WP :=
 opN Try.prog (sBuild 84 [(2, (.bool true))]) Kp fun x1 =>
 opN Try.prog (sBox 84 x1) Kp fun x2 =>
 K x2
def bits_NewWriter_an : Ann := { cuts := [], blks := [], loops := [], drs := [] }
theorem bits_NewWriter_eq (Kp : PK) (K : Value → WP) : cevF Try.prog bits_NewWriter_an Try.f27 [] Kp K = bits_NewWriter Kp K := by kernel_rfl
theorem bits_NewWriter_calls  {Kp : PK} {K : Value → WP} {w : World} (h : bits_NewWriter Kp K w) : Calls Try.prog 27 #[] w (after Kp K) :=
 calls_of_shape (calls_of_cev wide Try.func27 (an := bits_NewWriter_an) (args := []) (cast (congrFun (bits_NewWriter_eq Kp K) w).symm h))
theorem bits_NewWriter_cn  {W : World} {α : Type} {A : List HP} {r : α → Value} {B : α → List HP} (h : ∀ F, Ent W (A ++ F) (bits_NewWriter noP fun v w => ∃ x, v = r x ∧ sat W (B x ++ F) w)) : Cn Try.prog 27 [] W A r B :=
 Cn.of (shape := bits_NewWriter) Try.call27 (fun h => bits_NewWriter_calls h) h
def deflate_blocks (v0 v1 : Value) (Kp : PK) (K : Value → WP) : WP :=
  opN Try.prog (sBox 22 v0) Kp fun x2 =>
  opN Try.prog (sBox 3 v1) Kp fun x3 =>
  opN Try.prog (sAlloc 59) Kp fun x5 =>
  cut0 (fun J1 =>
   opN Try.prog (sLoad 3 x3) Kp fun x16 =>
   opN Try.prog (sBin .gtr 3 x16 (.int .i64 0)) Kp fun x17 =>
   condS x17
   (opN Try.prog (sLoad 22 x2) Kp fun x19 =>
    opN Try.prog (sLoad 3 x3) Kp fun x20 =>
    opN Try.prog (sConv 3 87 x20) Kp fun x21 =>
    opN Try.prog (sBin .shl 3 (.int .i64 2) x21) Kp fun x22 =>
    opN Try.prog (sCall (fn 44) [x19, (.int .i64 32768), x22]) Kp fun x23 =>
    opN Try.prog (sExt x23 0) Kp fun x24 =>
    opN Try.prog (sExt x23 1) Kp fun x25 =>
    opN Try.prog (sStore 59 x5 x24) Kp fun _ =>
    J1)
   (opN Try.prog (sLoad 22 x2) Kp fun x26 =>
    opN Try.prog (sLen #[22] 3 [x26]) Kp fun x27 =>
    loop1 (fun I1 m1 _ y28 =>
     opN Try.prog (sBin .lss 3 y28 x27) Kp fun x29 =>
     condS x29
     (opN Try.prog (sIA 22 x26 y28) Kp fun x30 =>
      opN Try.prog (sLoad 5 x30) Kp fun x31 =>
      opN Try.prog (sLoad 59 x5) Kp fun x32 =>
      opN Try.prog (sBuild 89 [(2, x31)]) Kp fun x34 =>
      opN Try.prog (sBuildSl 59 1 [(0, x34)]) Kp fun x35 =>
      opN Try.prog (sApp #[59, 59] 59 [x32, x35]) Kp fun x36 =>
      opN Try.prog (sStore 59 x5 x36) Kp fun _ =>
      opN Try.prog (sBin .add 3 y28 (.int .i64 1)) Kp fun x37 =>
      next1 I1 m1 x37)
     (J1)) (.int .i64 0))) fun _ =>
  opN Try.prog (sAlloc 57) Kp fun x8 =>
  opN Try.prog (sAlloc 3) Kp fun x9 =>
  opN Try.prog (sAlloc 3) Kp fun x10 =>
  opN Try.prog (sAlloc 3) Kp fun x11 =>
  opN Try.prog (sStore 3 x9 (.int .i64 0)) Kp fun _ =>
  opN Try.prog (sStore 3 x10 (.int .i64 0)) Kp fun _ =>
  opN Try.prog (sStore 3 x11 (.int .i64 0)) Kp fun _ =>
  opN Try.prog (sMkF (.func 45) [] [x8, x5, x9, x2, x10, x11, x3]) Kp fun x38 =>
  opN Try.prog (sLoad 59 x5) Kp fun x39 =>
  opN Try.prog (sLen #[59] 3 [x39]) Kp fun x40 =>
  loop1 (fun I2 m2 _ y41 =>
   opN Try.prog (sBin .lss 3 y41 x40) Kp fun x42 =>
   condS x42
   (opN Try.prog (sIA 59 x39 y41) Kp fun x44 =>
    opN Try.prog (sLoad 89 x44) Kp fun x45 =>
    opN Try.prog (sAlloc 89) Kp fun x14 =>
    opN Try.prog (sStore 89 x14 x45) Kp fun _ =>
    opN Try.prog (sLoad 3 x11) Kp fun x46 =>
    opN Try.prog (sFA 89 x14 0) Kp fun x47 =>
    opN Try.prog (sLoad 3 x47) Kp fun x48 =>
    opN Try.prog (sMax #[3, 3] 3 [(.int .i64 1), x48]) Kp fun x49 =>
    opN Try.prog (sBin .add 3 x46 x49) Kp fun x50 =>
    opN Try.prog (sStore 3 x11 x50) Kp fun _ =>
    opN Try.prog (sLoad 3 x11) Kp fun x51 =>
    opN Try.prog (sLoad 3 x10) Kp fun x52 =>
    opN Try.prog (sBin .sub 3 x51 x52) Kp fun x53 =>
    opN Try.prog (sLoad 3 x3) Kp fun x54 =>
    opN Try.prog (sEq .eql 3 (.tmp 54) (.const (.int .i64 0)) x54 (.int .i64 0)) Kp fun x55 =>
    gdK x55 true (fun k => k x53) fun x57 =>
    gdK x55 true (opN Try.prog (sEq .eql 3 (.tmp 57) (.const (.int .i64 30000)) x57 (.int .i64 30000)) Kp) fun x58 =>
    opN Try.prog (sPick x55 x58 (.bool false)) Kp fun x59 =>
    gdK x59 false (opN Try.prog (sLoad 3 x3) Kp) fun x61 =>
    gdK x59 false (opN Try.prog (sBin .gtr 3 x61 (.int .i64 0)) Kp) fun x62 =>
    gdK x59 false (fun k => k x62) fun x63 =>
    gdK x63 true (fun k => k y41) fun x64 =>
    gdK x63 true (opN Try.prog (sBin .add 3 x64 (.int .i64 1)) Kp) fun x65 =>
    gdK x63 true (opN Try.prog (sLoad 3 x9) Kp) fun x66 =>
    gdK x63 true (opN Try.prog (sBin .sub 3 x65 x66) Kp) fun x67 =>
    gdK x63 true (opN Try.prog (sEq .eql 3 (.tmp 67) (.const (.int .i64 8192)) x67 (.int .i64 8192)) Kp) fun x68 =>
    gdK x63 true (fun k => k x68) fun x69 =>
    gdK x69 false (fun k => k x53) fun x70 =>
    gdK x69 false (opN Try.prog (sBin .gtr 3 x70 (.int .i64 30000)) Kp) fun x71 =>
    gdK x63 true (opN Try.prog (sPick x69 (.bool true) x71) Kp) fun x72 =>
    gdK x59 false (opN Try.prog (sPick x63 x72 (.bool false)) Kp) fun x73 =>
    opN Try.prog (sPick x59 (.bool true) x73) Kp fun x74 =>
    condS x74
    (opN Try.prog (sBin .add 3 y41 (.int .i64 1)) Kp fun x77 =>
     opN Try.prog (sCall x38 [x77]) Kp fun x78 =>
     opN Try.prog (sBin .add 3 y41 (.int .i64 1)) Kp fun x79 =>
     next1 I2 m2 x79)
    (opN Try.prog (sBin .add 3 y41 (.int .i64 1)) Kp fun x79 =>
     next1 I2 m2 x79))
   (opN Try.prog (sLoad 3 x9) Kp fun x80 =>
    opN Try.prog (sLoad 59 x5) Kp fun x81 =>
    opN Try.prog (sLen #[59] 3 [x81]) Kp fun x82 =>
    opN Try.prog (sBin .lss 3 x80 x82) Kp fun x83 =>
    gdK x83 false (opN Try.prog (sLoad 57 x8) Kp) fun x85 =>
    gdK x83 false (opN Try.prog (sLen #[57] 3 [x85]) Kp) fun x86 =>
    gdK x83 false (opN Try.prog (sEq .eql 3 (.tmp 86) (.const (.int .i64 0)) x86 (.int .i64 0)) Kp) fun x87 =>
    opN Try.prog (sPick x83 (.bool true) x87) Kp fun x88 =>
    condS x88
    (opN Try.prog (sLoad 59 x5) Kp fun x90 =>
     opN Try.prog (sLen #[59] 3 [x90]) Kp fun x91 =>
     opN Try.prog (sCall x38 [x91]) Kp fun x92 =>
     opN Try.prog (sLoad 57 x8) Kp fun x93 =>
     K x93)
    (opN Try.prog (sLoad 57 x8) Kp fun x93 =>
     K x93))) (.int .i64 0)
def deflate_blocks_an : Ann := { cuts := [(9, [])], blks := [], loops := [(5, [28]), (13, [41])], drs := [] }
theorem deflate_blocks_eq (v0 v1 : Value) (Kp : PK) (K : Value → WP) : cevF Try.prog deflate_blocks_an Try.f28 [v0, v1] Kp K = deflate_blocks v0 v1 Kp K := by kernel_rfl
theorem deflate_blocks_calls {v0 v1 : Value} {Kp : PK} {K : Value → WP} {w : World} (h : deflate_blocks v0 v1 Kp K w) : Calls Try.prog 28 #[v0, v1] w (after Kp K) :=
 calls_of_shape (calls_of_cev wide Try.func28 (an := deflate_blocks_an) (args := [v0, v1]) (cast (congrFun (deflate_blocks_eq v0 v1 Kp K) w).symm h))
theorem deflate_blocks_cn {v0 v1 : Value} {W : World} {α : Type} {A : List HP} {r : α → Value} {B : α → List HP} (h : ∀ F, Ent W (A ++ F) (deflate_blocks v0 v1 noP fun v w => ∃ x, v = r x ∧ sat W (B x ++ F) w)) : Cn Try.prog 28 [v0, v1] W A r B :=
 Cn.of (shape := deflate_blocks v0 v1) Try.call28 (fun h => deflate_blocks_calls h) h
def deflate_block_put (v0 v1 v2 : Value) (Kp : PK) (K : Value → WP) : WP :=
  opN Try.prog (sBox 61 v0) Kp fun x3 =>
  opN Try.prog (sBuild 92 [(0, (fn 36)), (1, (fn 46)), (2, (fn 47))]) Kp fun x12 =>
  opN Try.prog (sAlloc 92) Kp fun x6 =>
  opN Try.prog (sStore 92 x6 x12) Kp fun _ =>
  cut1 (fun J1 =>
   opN Try.prog (sFA 61 x3 2) Kp fun x13 =>
   opN Try.prog (sLoad 3 x13) Kp fun x14 =>
   opN Try.prog (sBin .gtr 3 x14 (.int .i64 0)) Kp fun x15 =>
   condS x15
   (drS (stD Try.prog (sLoad 61 x3) fun D0 x16 =>
     stD Try.prog (sIA 92 x6 (.int .i64 0)) fun D1 x17 =>
     stD Try.prog (sLoad 91 x17) fun D2 x18 =>
     opN Try.prog (sCall (fn 49) [v1]) Kp fun x20 =>
     (fun w => D2 w ∧ (fun w => D1 w ∧ (fun w => D0 w ∧ (opN Try.prog (sCall (fn 48) [x16, x18, x20]) Kp fun x21 =>
         opN Try.prog (sSl 92 x6 (some (.int .i64 1)) none none) Kp fun x22 =>
         opN Try.prog (sLen #[95] 3 [x22]) Kp fun x23 =>
         loop3 (fun I1 m1 _ y7 y8 y24 =>
          opN Try.prog (sBin .lss 3 y24 x23) Kp fun x25 =>
          condS x25
          (opN Try.prog (sIA 95 x22 y24) Kp fun x27 =>
           opN Try.prog (sLoad 91 x27) Kp fun x28 =>
           drS (stD Try.prog (sLoad 61 x3) fun D0 x29 =>
            opN Try.prog (sCall (fn 49) [v1]) Kp fun x32 =>
            (fun w => D0 w ∧ (opN Try.prog (sCall (fn 48) [x29, x28, x32]) Kp fun x33 =>
              opN Try.prog (sBin .lss 3 x33 y8) Kp fun x36 =>
              condS x36
              (opN Try.prog (sBin .add 3 y24 (.int .i64 1)) Kp fun x39 =>
               opN Try.prog (sBin .add 3 y24 (.int .i64 1)) Kp fun x40 =>
               next3 I1 m1 x39 x33 x40)
              (opN Try.prog (sBin .add 3 y24 (.int .i64 1)) Kp fun x40 =>
               next3 I1 m1 y7 y8 x40)) w)))
          (J1 y7)) (.int .i64 0) x21 (.int .i64 0)) w) w) w)))
   (J1 (.int .i64 0))) fun _ z7 =>
  opN Try.prog (sCall (fn 35) [v1, v2, (.int .i64 1)]) Kp fun x43 =>
  opN Try.prog (sCall (fn 35) [v1, z7, (.int .i64 2)]) Kp fun x46 =>
  drS (stS Try.prog (sIA 92 x6 z7) fun x48 =>
   stS Try.prog (sLoad 91 x48) fun x49 =>
   stS Try.prog (sLoad 61 x3) fun x50 =>
   opN Try.prog (sCall x49 [x50, v1]) Kp fun x52 =>
   K (.tuple #[]))
def deflate_block_put_an : Ann := { cuts := [(12, [7])], blks := [], loops := [(6, [7, 8, 24])], drs := [(4, .ofL [(0, 3), (1, 3), (2, 3), (3, 1), (4, 0), (5, 0), (6, 1)]), (8, .ofL [(0, 3), (1, 2), (2, 1), (3, 0), (4, 0), (5, 1)]), (14, .ofL [(0, 1), (1, 1), (2, 1), (3, 1), (4, 1), (5, 0)])] }
theorem deflate_block_put_eq (v0 v1 v2 : Value) (Kp : PK) (K : Value → WP) : cevF Try.prog deflate_block_put_an Try.f29 [v0, v1, v2] Kp K = deflate_block_put v0 v1 v2 Kp K := by kernel_rfl
theorem deflate_block_put_calls {v0 v1 v2 : Value} {Kp : PK} {K : Value → WP} {w : World} (h : deflate_block_put v0 v1 v2 Kp K w) : Calls Try.prog 29 #[v0, v1, v2] w (after Kp K) :=
 calls_of_shape (calls_of_cev wide Try.func29 (an := deflate_block_put_an) (args := [v0, v1, v2]) (cast (congrFun (deflate_block_put_eq v0 v1 v2 Kp K) w).symm h))
theorem deflate_block_put_cn {v0 v1 v2 : Value} {W : World} {α : Type} {A : List HP} {r : α → Value} {B : α → List HP} (h : ∀ F, Ent W (A ++ F) (deflate_block_put v0 v1 v2 noP fun v w => ∃ x, v = r x ∧ sat W (B x ++ F) w)) : Cn Try.prog 29 [v0, v1, v2] W A r B :=
 Cn.of (shape := deflate_block_put v0 v1 v2) Try.call29 (fun h => deflate_block_put_calls h) h
def bits_Writer_Bytes (v0 : Value) (Kp : PK) (K : Value → WP) : WP :=
  opN Try.prog (sCall (fn 50) [v0]) Kp fun x4 =>
  condS x4
  (K (.slice none 0 0))
  (opN Try.prog (sNil v0) Kp fun x6 =>
   opN Try.prog (sFA 84 x6 0) Kp fun x7 =>
   opN Try.prog (sLoad 22 x7) Kp fun x8 =>
   opN Try.prog (sApp #[22, 22] 22 [(.slice none 0 0), x8]) Kp fun x9 =>
   K x9)
def bits_Writer_Bytes_an : Ann := { cuts := [], blks := [], loops := [], drs := [] }
theorem bits_Writer_Bytes_eq (v0 : Value) (Kp : PK) (K : Value → WP) : cevF Try.prog bits_Writer_Bytes_an Try.f30 [v0] Kp K = bits_Writer_Bytes v0 Kp K := by kernel_rfl
theorem bits_Writer_Bytes_calls {v0 : Value} {Kp : PK} {K : Value → WP} {w : World} (h : bits_Writer_Bytes v0 Kp K w) : Calls Try.prog 30 #[v0] w (after Kp K) :=
 calls_of_shape (calls_of_cev wide Try.func30 (an := bits_Writer_Bytes_an) (args := [v0]) (cast (congrFun (bits_Writer_Bytes_eq v0 Kp K) w).symm h))
theorem bits_Writer_Bytes_cn {v0 : Value} {W : World} {α : Type} {A : List HP} {r : α → Value} {B : α → List HP} (h : ∀ F, Ent W (A ++ F) (bits_Writer_Bytes v0 noP fun v w => ∃ x, v = r x ∧ sat W (B x ++ F) w)) : Cn Try.prog 30 [v0] W A r B :=
 Cn.of (shape := bits_Writer_Bytes v0) Try.call30 (fun h => bits_Writer_Bytes_calls h) h
def ref06_blocks (v0 v1 : Value) (Kp : PK) (K : Value → WP) : WP :=
  opN Try.prog (sCall (fn 51) [v0, v1]) Kp fun x14 =>
  opN Try.prog (sBuild 72 []) Kp fun x15 =>
  opN Try.prog (sAlloc 72) Kp fun x7 =>
  opN Try.prog (sStore 72 x7 x15) Kp fun _ =>
  loop3 (fun I1 m1 _ y6 y8 y9 =>
   opN Try.prog (sLen #[70] 3 [x14]) Kp fun x18 =>
   opN Try.prog (sBin .lss 3 y9 x18) Kp fun x19 =>
   condS x19
   (opN Try.prog (sIA 70 x14 y9) Kp fun x24 =>
    opN Try.prog (sFA 97 x24 0) Kp fun x25 =>
    opN Try.prog (sLoad 3 x25) Kp fun x26 =>
    opN Try.prog (sMax #[3, 3] 3 [(.int .i64 1), x26]) Kp fun x27 =>
    drS (stD Try.prog (sFA 72 x7 0) fun D0 x28 =>
     stD Try.prog (sLoad 70 x28) fun D1 x29 =>
     stS Try.prog (sIA 70 x14 y9) fun x32 =>
     stS Try.prog (sLoad 97 x32) fun x33 =>
     opN Try.prog (sBuildSl 70 1 [(0, x33)]) Kp fun x34 =>
     (fun w => D1 w ∧ (fun w => D0 w ∧ (opN Try.prog (sApp #[70, 70] 70 [x29, x34]) Kp fun x35 =>
        stS Try.prog (sFA 72 x7 0) fun x36 =>
        opN Try.prog (sStore 70 x36 x35) Kp fun _ =>
        drS (stS Try.prog (sFA 72 x7 1) fun x37 =>
         stS Try.prog (sLoad 22 x37) fun x38 =>
         stS Try.prog (sBin .add 3 y8 x27) fun x43 =>
         stS Try.prog (sSl 22 v0 (some y8) (some x43) none) fun x44 =>
         opN Try.prog (sApp #[22, 22] 22 [x38, x44]) Kp fun x45 =>
         stS Try.prog (sFA 72 x7 1) fun x46 =>
         opN Try.prog (sStore 22 x46 x45) Kp fun _ =>
         opN Try.prog (sBin .add 3 y8 x27) Kp fun x49 =>
         opN Try.prog (sFA 72 x7 0) Kp fun x50 =>
         opN Try.prog (sLoad 70 x50) Kp fun x51 =>
         opN Try.prog (sLen #[70] 3 [x51]) Kp fun x52 =>
         opN Try.prog (sEq .eql 3 (.tmp 52) (.const (.int .i64 8192)) x52 (.int .i64 8192)) Kp fun x53 =>
         gdK x53 false (opN Try.prog (sFA 72 x7 1) Kp) fun x55 =>
         gdK x53 false (opN Try.prog (sLoad 22 x55) Kp) fun x56 =>
         gdK x53 false (opN Try.prog (sLen #[22] 3 [x56]) Kp) fun x57 =>
         gdK x53 false (opN Try.prog (sBin .gtr 3 x57 (.int .i64 30000)) Kp) fun x58 =>
         opN Try.prog (sPick x53 (.bool true) x58) Kp fun x59 =>
         cut1 (fun J1 =>
          opN Try.prog (sEq .eql 3 (.tmp 60) (.const (.int .i64 0)) v1 (.int .i64 0)) Kp fun x61 =>
          condS x61
          (opN Try.prog (sFA 72 x7 1) Kp fun x62 =>
           opN Try.prog (sLoad 22 x62) Kp fun x63 =>
           opN Try.prog (sLen #[22] 3 [x63]) Kp fun x64 =>
           opN Try.prog (sEq .eql 3 (.tmp 64) (.const (.int .i64 30000)) x64 (.int .i64 30000)) Kp fun x65 =>
           J1 x65)
          (J1 x59)) fun _ z11 =>
         condS z11
         (opN Try.prog (sLoad 72 x7) Kp fun x68 =>
          opN Try.prog (sBuildSl 67 1 [(0, x68)]) Kp fun x69 =>
          opN Try.prog (sApp #[67, 67] 67 [y6, x69]) Kp fun x70 =>
          opN Try.prog (sBuild 72 []) Kp fun x71 =>
          opN Try.prog (sStore 72 x7 x71) Kp fun _ =>
          opN Try.prog (sBin .add 3 y9 (.int .i64 1)) Kp fun x21 =>
          next3 I1 m1 x70 x49 x21)
         (opN Try.prog (sBin .add 3 y9 (.int .i64 1)) Kp fun x21 =>
          next3 I1 m1 y6 x49 x21))) w) w)))
   (opN Try.prog (sFA 72 x7 0) Kp fun x72 =>
    opN Try.prog (sLoad 70 x72) Kp fun x73 =>
    opN Try.prog (sLen #[70] 3 [x73]) Kp fun x74 =>
    opN Try.prog (sBin .gtr 3 x74 (.int .i64 0)) Kp fun x75 =>
    gdK x75 false (fun k => k y6) fun x77 =>
    gdK x75 false (opN Try.prog (sLen #[67] 3 [x77]) Kp) fun x78 =>
    gdK x75 false (opN Try.prog (sEq .eql 3 (.tmp 78) (.const (.int .i64 0)) x78 (.int .i64 0)) Kp) fun x79 =>
    opN Try.prog (sPick x75 (.bool true) x79) Kp fun x80 =>
    condS x80
    (opN Try.prog (sLoad 72 x7) Kp fun x82 =>
     opN Try.prog (sBuildSl 67 1 [(0, x82)]) Kp fun x83 =>
     opN Try.prog (sApp #[67, 67] 67 [y6, x83]) Kp fun x84 =>
     K x84)
    (K y6))) (.slice none 0 0) (.int .i64 0) (.int .i64 0)
def ref06_blocks_an : Ann := { cuts := [(15, [11])], blks := [], loops := [(6, [6, 8, 9])], drs := [(9, .ofL [(0, 3), (1, 3), (2, 1), (3, 1), (4, 1), (5, 1), (6, 0), (7, 0), (8, 1), (9, 0)]), (10, .ofL [(0, 1), (1, 1), (2, 1), (3, 1), (4, 1), (5, 1), (6, 1), (7, 1), (8, 0), (9, 1), (10, 0)])] }
theorem ref06_blocks_eq (v0 v1 : Value) (Kp : PK) (K : Value → WP) : cevF Try.prog ref06_blocks_an Try.f31 [v0, v1] Kp K = ref06_blocks v0 v1 Kp K := by kernel_rfl
theorem ref06_blocks_calls {v0 v1 : Value} {Kp : PK} {K : Value → WP} {w : World} (h : ref06_blocks v0 v1 Kp K w) : Calls Try.prog 31 #[v0, v1] w (after Kp K) :=
 calls_of_shape (calls_of_cev wide Try.func31 (an := ref06_blocks_an) (args := [v0, v1]) (cast (congrFun (ref06_blocks_eq v0 v1 Kp K) w).symm h))
theorem ref06_blocks_cn {v0 v1 : Value} {W : World} {α : Type} {A : List HP} {r : α → Value} {B : α → List HP} (h : ∀ F, Ent W (A ++ F) (ref06_blocks v0 v1 noP fun v w => ∃ x, v = r x ∧ sat W (B x ++ F) w)) : Cn Try.prog 31 [v0, v1] W A r B :=
 Cn.of (shape := ref06_blocks v0 v1) Try.call31 (fun h => ref06_blocks_calls h) h
def ref06_put (v0 v1 v2 v3 : Value) (Kp : PK) (K : Value → WP) : WP :=
  opN Try.prog (sBox 72 v1) Kp fun x5 =>
  loop1 (fun I1 m1 _ y8 =>
   opN Try.prog (sNil v0) Kp fun x13 =>
   opN Try.prog (sFA 66 x13 0) Kp fun x14 =>
   opN Try.prog (sLoad 22 x14) Kp fun x15 =>
   opN Try.prog (sLen #[22] 3 [x15]) Kp fun x16 =>
   opN Try.prog (sBin .add 3 x16 y8) Kp fun x18 =>
   opN Try.prog (sBin .rem 3 x18 (.int .i64 8)) Kp fun x19 =>
   opN Try.prog (sEq .neq 3 (.tmp 19) (.const (.int .i64 0)) x19 (.int .i64 0)) Kp fun x20 =>
   condS x20
   (opN Try.prog (sBin .add 3 y8 (.int .i64 1)) Kp fun x22 =>
    next1 I1 m1 x22)
   (opN Try.prog (sBin .add 3 y8 (.int .i64 32)) Kp fun x24 =>
    opN Try.prog (sFA 72 x5 1) Kp fun x25 =>
    opN Try.prog (sLoad 22 x25) Kp fun x26 =>
    opN Try.prog (sLen #[22] 3 [x26]) Kp fun x27 =>
    opN Try.prog (sBin .mul 3 (.int .i64 8) x27) Kp fun x28 =>
    opN Try.prog (sBin .add 3 x24 x28) Kp fun x29 =>
    loop3 (fun I2 m2 _ y8_2 y9 y10 =>
     opN Try.prog (sBin .leq 3 y10 (.int .i64 2)) Kp fun x31 =>
     gdK x31 true (fun k => k v2) fun x33 =>
     gdK x31 true (opN Try.prog (sBin .gtr 3 x33 (.int .i64 0)) Kp) fun x34 =>
     opN Try.prog (sPick x31 x34 (.bool false)) Kp fun x35 =>
     condS x35
     (opN Try.prog (sLoad 72 x5) Kp fun x40 =>
      opN Try.prog (sCall (fn 52) [y10, v3, x40]) Kp fun x41 =>
      opN Try.prog (sNil x41) Kp fun x43 =>
      opN Try.prog (sFA 66 x43 0) Kp fun x44 =>
      opN Try.prog (sLoad 22 x44) Kp fun x45 =>
      opN Try.prog (sLen #[22] 3 [x45]) Kp fun x46 =>
      opN Try.prog (sBin .lss 3 x46 y8_2) Kp fun x48 =>
      condS x48
      (opN Try.prog (sNil x41) Kp fun x50 =>
       opN Try.prog (sFA 66 x50 0) Kp fun x51 =>
       opN Try.prog (sLoad 22 x51) Kp fun x52 =>
       opN Try.prog (sLen #[22] 3 [x52]) Kp fun x53 =>
       opN Try.prog (sBin .add 3 y10 (.int .i64 1)) Kp fun x37 =>
       next3 I2 m2 x53 x41 x37)
      (opN Try.prog (sBin .add 3 y10 (.int .i64 1)) Kp fun x37 =>
       next3 I2 m2 y8_2 y9 x37))
     (opN Try.prog (sEq .neq 64 (.tmp 55) (.const (.pointer none)) y9 (.pointer none)) Kp fun x56 =>
      condS x56
      (drS (stS Try.prog (sNil v0) fun x59 =>
        stS Try.prog (sFA 66 x59 0) fun x60 =>
        stS Try.prog (sLoad 22 x60) fun x61 =>
        stS Try.prog (sNil y9) fun x63 =>
        stS Try.prog (sFA 66 x63 0) fun x64 =>
        stS Try.prog (sLoad 22 x64) fun x65 =>
        opN Try.prog (sApp #[22, 22] 22 [x61, x65]) Kp fun x66 =>
        stS Try.prog (sNil v0) fun x67 =>
        stS Try.prog (sFA 66 x67 0) fun x68 =>
        opN Try.prog (sStore 22 x68 x66) Kp fun _ =>
        K (.tuple #[])))
      (opN Try.prog (sCall (fn 53) [v0, v3, (.int .i64 1)]) Kp fun x71 =>
       opN Try.prog (sCall (fn 53) [v0, (.int .i64 0), (.int .i64 2)]) Kp fun x73 =>
       opN Try.prog (sFA 72 x5 1) Kp fun x75 =>
       opN Try.prog (sLoad 22 x75) Kp fun x76 =>
       opN Try.prog (sCall (fn 54) [v0, x76]) Kp fun x77 =>
       K (.tuple #[])))) x29 (.pointer none) (.int .i64 1))) (.int .i64 3)
def ref06_put_an : Ann := { cuts := [], blks := [], loops := [(2, [8]), (7, [8, 9, 10])], drs := [(14, .ofL [(0, 2), (1, 1), (2, 1), (3, 1), (4, 1), (5, 1), (6, 1), (7, 1), (8, 1), (9, 0), (10, 1), (11, 1), (12, 0)])] }
theorem ref06_put_eq (v0 v1 v2 v3 : Value) (Kp : PK) (K : Value → WP) : cevF Try.prog ref06_put_an Try.f32 [v0, v1, v2, v3] Kp K = ref06_put v0 v1 v2 v3 Kp K := by kernel_rfl
theorem ref06_put_calls {v0 v1 v2 v3 : Value} {Kp : PK} {K : Value → WP} {w : World} (h : ref06_put v0 v1 v2 v3 Kp K w) : Calls Try.prog 32 #[v0, v1, v2, v3] w (after Kp K) :=
 calls_of_shape (calls_of_cev wide Try.func32 (an := ref06_put_an) (args := [v0, v1, v2, v3]) (cast (congrFun (ref06_put_eq v0 v1 v2 v3 Kp K) w).symm h))
theorem ref06_put_cn {v0 v1 v2 v3 : Value} {W : World} {α : Type} {A : List HP} {r : α → Value} {B : α → List HP} (h : ∀ F, Ent W (A ++ F) (ref06_put v0 v1 v2 v3 noP fun v w => ∃ x, v = r x ∧ sat W (B x ++ F) w)) : Cn Try.prog 32 [v0, v1, v2, v3] W A r B :=
 Cn.of (shape := ref06_put v0 v1 v2 v3) Try.call32 (fun h => ref06_put_calls h) h
def ref02_Writer_Bytes (v0 : Value) (Kp : PK) (K : Value → WP) : WP :=
  opN Try.prog (sNil v0) Kp fun x6 =>
  opN Try.prog (sFA 66 x6 0) Kp fun x7 =>
  opN Try.prog (sLoad 22 x7) Kp fun x8 =>
  opN Try.prog (sLen #[22] 3 [x8]) Kp fun x9 =>
  opN Try.prog (sBin .add 3 x9 (.int .i64 7)) Kp fun x10 =>
  opN Try.prog (sBin .quo 3 x10 (.int .i64 8)) Kp fun x11 =>
  opN Try.prog (sMkSl 22 x11 x11) Kp fun x12 =>
  loop1 (fun I1 m1 _ y4 =>
   opN Try.prog (sNil v0) Kp fun x15 =>
   opN Try.prog (sFA 66 x15 0) Kp fun x16 =>
   opN Try.prog (sLoad 22 x16) Kp fun x17 =>
   opN Try.prog (sLen #[22] 3 [x17]) Kp fun x18 =>
   opN Try.prog (sBin .lss 3 y4 x18) Kp fun x19 =>
   condS x19
   (drS (stS Try.prog (sBin .quo 3 y4 (.int .i64 8)) fun x24 =>
     stS Try.prog (sBin .quo 3 y4 (.int .i64 8)) fun x27 =>
     stS Try.prog (sIA 22 x12 x27) fun x28 =>
     stS Try.prog (sLoad 5 x28) fun x29 =>
     stS Try.prog (sNil v0) fun x31 =>
     stS Try.prog (sFA 66 x31 0) fun x32 =>
     stS Try.prog (sLoad 22 x32) fun x33 =>
     stS Try.prog (sIA 22 x33 y4) fun x35 =>
     stS Try.prog (sLoad 5 x35) fun x36 =>
     stS Try.prog (sBin .rem 3 y4 (.int .i64 8)) fun x38 =>
     stS Try.prog (sConv 3 87 x38) fun x39 =>
     stS Try.prog (sBin .shl 5 x36 x39) fun x40 =>
     stS Try.prog (sBin .or 5 x29 x40) fun x41 =>
     stS Try.prog (sIA 22 x12 x24) fun x42 =>
     opN Try.prog (sStore 5 x42 x41) Kp fun _ =>
     opN Try.prog (sBin .add 3 y4 (.int .i64 1)) Kp fun x21 =>
     next1 I1 m1 x21))
   (K x12)) (.int .i64 0)
def ref02_Writer_Bytes_an : Ann := { cuts := [], blks := [], loops := [(3, [4])], drs := [(5, .ofL [(0, 1), (1, 1), (2, 1), (3, 1), (4, 1), (5, 1), (6, 1), (7, 1), (8, 1), (9, 1), (10, 1), (11, 1), (12, 1), (13, 1), (14, 1), (15, 1), (16, 1), (17, 1), (18, 1), (19, 1), (20, 1), (21, 0)])] }
theorem ref02_Writer_Bytes_eq (v0 : Value) (Kp : PK) (K : Value → WP) : cevF Try.prog ref02_Writer_Bytes_an Try.f33 [v0] Kp K = ref02_Writer_Bytes v0 Kp K := by kernel_rfl
theorem ref02_Writer_Bytes_calls {v0 : Value} {Kp : PK} {K : Value → WP} {w : World} (h : ref02_Writer_Bytes v0 Kp K w) : Calls Try.prog 33 #[v0] w (after Kp K) :=
 calls_of_shape (calls_of_cev wide Try.func33 (an := ref02_Writer_Bytes_an) (args := [v0]) (cast (congrFun (ref02_Writer_Bytes_eq v0 Kp K) w).symm h))
theorem ref02_Writer_Bytes_cn {v0 : Value} {W : World} {α : Type} {A : List HP} {r : α → Value} {B : α → List HP} (h : ∀ F, Ent W (A ++ F) (ref02_Writer_Bytes v0 noP fun v w => ∃ x, v = r x ∧ sat W (B x ++ F) w)) : Cn Try.prog 33 [v0] W A r B :=
 Cn.of (shape := ref02_Writer_Bytes v0) Try.call33 (fun h => ref02_Writer_Bytes_calls h) h
def bits_Writer_Put (v0 v1 v2 : Value) (Kp : PK) (K : Value → WP) : WP :=
  cut1 (fun J1 =>
   opN Try.prog (sCall (fn 50) [v0]) Kp fun x11 =>
   condS x11
   (J1 x11)
   (opN Try.prog (sBin .lss 3 v2 (.int .i64 0)) Kp fun x13 =>
    condS x13
    (J1 x13)
    (opN Try.prog (sBin .gtr 3 v2 (.int .i64 32)) Kp fun x15 =>
     condS x15
     (J1 x15)
     (opN Try.prog (sBin .lss 3 v1 (.int .i64 0)) Kp fun x17 =>
      condS x17
      (J1 x17)
      (opN Try.prog (sMin #[3, 3] 3 [v2, (.int .i64 32)]) Kp fun x20 =>
       opN Try.prog (sMax #[3, 3] 3 [(.int .i64 0), x20]) Kp fun x21 =>
       opN Try.prog (sConv 3 87 x21) Kp fun x22 =>
       opN Try.prog (sBin .shl 3 (.int .i64 1) x22) Kp fun x23 =>
       opN Try.prog (sBin .geq 3 v1 x23) Kp fun x24 =>
       J1 x24))))) fun _ z9 =>
  condS z9
  (K (.int .i64 1))
  (opN Try.prog (sNil v0) Kp fun x28 =>
   opN Try.prog (sFA 84 x28 1) Kp fun x29 =>
   opN Try.prog (sLoad 3 x29) Kp fun x30 =>
   opN Try.prog (sBin .sub 3 (.int .i64 8388608) x30) Kp fun x31 =>
   opN Try.prog (sBin .gtr 3 v2 x31) Kp fun x32 =>
   condS x32
   (K (.int .i64 6))
   (opN Try.prog (sCall (fn 55) []) Kp fun x33 =>
    opN Try.prog (sAlloc 101) Kp fun x7 =>
    opN Try.prog (sStore 101 x7 x33) Kp fun _ =>
    loop1 (fun I1 m1 _ y35 =>
     opN Try.prog (sBin .lss 3 y35 v2) Kp fun x36 =>
     condS x36
     (cut0 (fun J2 =>
       opN Try.prog (sNil v0) Kp fun x39 =>
       opN Try.prog (sFA 84 x39 1) Kp fun x40 =>
       opN Try.prog (sLoad 3 x40) Kp fun x41 =>
       opN Try.prog (sBin .rem 3 x41 (.int .i64 8)) Kp fun x42 =>
       opN Try.prog (sEq .eql 3 (.tmp 42) (.const (.int .i64 0)) x42 (.int .i64 0)) Kp fun x43 =>
       condS x43
       (opN Try.prog (sNil v0) Kp fun x46 =>
        opN Try.prog (sFA 84 x46 0) Kp fun x47 =>
        opN Try.prog (sLoad 22 x47) Kp fun x48 =>
        opN Try.prog (sBuildSl 22 1 [(0, (.int .u8 0))]) Kp fun x49 =>
        opN Try.prog (sApp #[22, 22] 22 [x48, x49]) Kp fun x50 =>
        opN Try.prog (sNil v0) Kp fun x51 =>
        opN Try.prog (sFA 84 x51 0) Kp fun x52 =>
        opN Try.prog (sStore 22 x52 x50) Kp fun _ =>
        J2)
       (J2)) fun _ =>
      cut0 (fun J3 =>
       opN Try.prog (sConv 3 87 y35) Kp fun x55 =>
       opN Try.prog (sBin .shr 3 v1 x55) Kp fun x56 =>
       opN Try.prog (sBin .and 3 x56 (.int .i64 1)) Kp fun x57 =>
       opN Try.prog (sEq .eql 3 (.tmp 57) (.const (.int .i64 1)) x57 (.int .i64 1)) Kp fun x58 =>
       condS x58
       (drS (stS Try.prog (sNil v0) fun x60 =>
         stS Try.prog (sFA 84 x60 0) fun x61 =>
         stS Try.prog (sLoad 22 x61) fun x62 =>
         stS Try.prog (sNil v0) fun x64 =>
         stS Try.prog (sFA 84 x64 1) fun x65 =>
         stS Try.prog (sLoad 3 x65) fun x66 =>
         stS Try.prog (sBin .quo 3 x66 (.int .i64 8)) fun x67 =>
         stS Try.prog (sIA 22 x62 x67) fun x68 =>
         stS Try.prog (sLoad 5 x68) fun x69 =>
         stS Try.prog (sNil v0) fun x71 =>
         stS Try.prog (sFA 84 x71 1) fun x72 =>
         stS Try.prog (sLoad 3 x72) fun x73 =>
         stS Try.prog (sBin .rem 3 x73 (.int .i64 8)) fun x74 =>
         stS Try.prog (sIA 101 x7 x74) fun x75 =>
         stS Try.prog (sLoad 5 x75) fun x76 =>
         stS Try.prog (sBin .or 5 x69 x76) fun x77 =>
         stS Try.prog (sIA 22 x62 x67) fun x78 =>
         opN Try.prog (sStore 5 x78 x77) Kp fun _ =>
         J3))
       (J3)) fun _ =>
      opN Try.prog (sNil v0) Kp fun x80 =>
      opN Try.prog (sFA 84 x80 1) Kp fun x81 =>
      opN Try.prog (sLoad 3 x81) Kp fun x82 =>
      opN Try.prog (sBin .add 3 x82 (.int .i64 1)) Kp fun x83 =>
      opN Try.prog (sNil v0) Kp fun x84 =>
      opN Try.prog (sFA 84 x84 1) Kp fun x85 =>
      opN Try.prog (sStore 3 x85 x83) Kp fun _ =>
      opN Try.prog (sBin .add 3 y35 (.int .i64 1)) Kp fun x86 =>
      next1 I1 m1 x86)
     (K (.int .i64 0))) (.int .i64 0)))
def bits_Writer_Put_an : Ann := { cuts := [(6, [9]), (15, []), (17, [])], blks := [], loops := [(11, [35])], drs := [(16, .ofL [(0, 1), (1, 1), (2, 1), (3, 1), (4, 1), (5, 1), (6, 1), (7, 1), (8, 1), (9, 1), (10, 1), (11, 1), (12, 1), (13, 1), (14, 1), (15, 1), (16, 1), (17, 1), (18, 1), (19, 1), (20, 0)])] }
theorem bits_Writer_Put_eq (v0 v1 v2 : Value) (Kp : PK) (K : Value → WP) : cevF Try.prog bits_Writer_Put_an Try.f35 [v0, v1, v2] Kp K = bits_Writer_Put v0 v1 v2 Kp K := by kernel_rfl
theorem bits_Writer_Put_calls {v0 v1 v2 : Value} {Kp : PK} {K : Value → WP} {w : World} (h : bits_Writer_Put v0 v1 v2 Kp K w) : Calls Try.prog 35 #[v0, v1, v2] w (after Kp K) :=
 calls_of_shape (calls_of_cev wide Try.func35 (an := bits_Writer_Put_an) (args := [v0, v1, v2]) (cast (congrFun (bits_Writer_Put_eq v0 v1 v2 Kp K) w).symm h))
theorem bits_Writer_Put_cn {v0 v1 v2 : Value} {W : World} {α : Type} {A : List HP} {r : α → Value} {B : α → List HP} (h : ∀ F, Ent W (A ++ F) (bits_Writer_Put v0 v1 v2 noP fun v w => ∃ x, v = r x ∧ sat W (B x ++ F) w)) : Cn Try.prog 35 [v0, v1, v2] W A r B :=
 Cn.of (shape := bits_Writer_Put v0 v1 v2) Try.call35 (fun h => bits_Writer_Put_calls h) h
def deflate_block_stored (v0 v1 : Value) (Kp : PK) (K : Value → WP) : WP :=
 opN Try.prog (sBox 61 v0) Kp fun x2 =>
 opN Try.prog (sCall (fn 56) [v1]) Kp fun x5 =>
 opN Try.prog (sFA 61 x2 1) Kp fun x7 =>
 opN Try.prog (sLoad 22 x7) Kp fun x8 =>
 opN Try.prog (sLen #[22] 3 [x8]) Kp fun x9 =>
 opN Try.prog (sCall (fn 35) [v1, x9, (.int .i64 16)]) Kp fun x10 =>
 opN Try.prog (sFA 61 x2 1) Kp fun x12 =>
 opN Try.prog (sLoad 22 x12) Kp fun x13 =>
 opN Try.prog (sLen #[22] 3 [x13]) Kp fun x14 =>
 opN Try.prog (sBin .sub 3 (.int .i64 65535) x14) Kp fun x15 =>
 opN Try.prog (sCall (fn 35) [v1, x15, (.int .i64 16)]) Kp fun x16 =>
 opN Try.prog (sFA 61 x2 1) Kp fun x18 =>
 opN Try.prog (sLoad 22 x18) Kp fun x19 =>
 opN Try.prog (sCall (fn 57) [v1, x19]) Kp fun x20 =>
 K (.tuple #[])
def deflate_block_stored_an : Ann := { cuts := [], blks := [], loops := [], drs := [] }
theorem deflate_block_stored_eq (v0 v1 : Value) (Kp : PK) (K : Value → WP) : cevF Try.prog deflate_block_stored_an Try.f36 [v0, v1] Kp K = deflate_block_stored v0 v1 Kp K := by kernel_rfl
theorem deflate_block_stored_calls {v0 v1 : Value} {Kp : PK} {K : Value → WP} {w : World} (h : deflate_block_stored v0 v1 Kp K w) : Calls Try.prog 36 #[v0, v1] w (after Kp K) :=
 calls_of_shape (calls_of_cev wide Try.func36 (an := deflate_block_stored_an) (args := [v0, v1]) (cast (congrFun (deflate_block_stored_eq v0 v1 Kp K) w).symm h))
theorem deflate_block_stored_cn {v0 v1 : Value} {W : World} {α : Type} {A : List HP} {r : α → Value} {B : α → List HP} (h : ∀ F, Ent W (A ++ F) (deflate_block_stored v0 v1 noP fun v w => ∃ x, v = r x ∧ sat W (B x ++ F) w)) : Cn Try.prog 36 [v0, v1] W A r B :=
 Cn.of (shape := deflate_block_stored v0 v1) Try.call36 (fun h => deflate_block_stored_calls h) h
def lz_Pieces (v0 v1 v2 : Value) (Kp : PK) (K : Value → WP) : WP :=
  cut1 (fun J1 =>
   opN Try.prog (sBin .lss 3 v1 (.int .i64 1)) Kp fun x14 =>
   condS x14
   (J1 x14)
   (opN Try.prog (sBin .gtr 3 v1 (.int .i64 32768)) Kp fun x16 =>
    condS x16
    (J1 x16)
    (opN Try.prog (sBin .lss 3 v2 (.int .i64 0)) Kp fun x18 =>
     condS x18
     (J1 x18)
     (opN Try.prog (sBin .gtr 3 v2 (.int .i64 4096)) Kp fun x20 =>
      J1 x20)))) fun _ z12 =>
  condS z12
  (K (.tuple #[(.slice none 0 0), (.int .i64 1)]))
  (opN Try.prog (sLen #[22] 3 [v0]) Kp fun x23 =>
   opN Try.prog (sBin .gtr 3 x23 (.int .i64 1048576)) Kp fun x24 =>
   condS x24
   (K (.tuple #[(.slice none 0 0), (.int .i64 6)]))
   (opN Try.prog (sMkMap 115 none) Kp fun x26 =>
    opN Try.prog (sBuild 117 [(0, v0), (1, x26), (3, v1), (4, v2)]) Kp fun x29 =>
    opN Try.prog (sBox 117 x29) Kp fun x30 =>
    loop2 (fun I1 m1 _ y9 y10 =>
     opN Try.prog (sLen #[22] 3 [v0]) Kp fun x33 =>
     opN Try.prog (sBin .lss 3 y10 x33) Kp fun x34 =>
     condS x34
     (opN Try.prog (sCall (fn 68) [x30, y10]) Kp fun x37 =>
      opN Try.prog (sCall (fn 69) [x30, y10]) Kp fun x40 =>
      opN Try.prog (sAlloc 89) Kp fun x11 =>
      opN Try.prog (sStore 89 x11 x40) Kp fun _ =>
      opN Try.prog (sLoad 89 x11) Kp fun x42 =>
      opN Try.prog (sBuildSl 59 1 [(0, x42)]) Kp fun x43 =>
      opN Try.prog (sApp #[59, 59] 59 [y9, x43]) Kp fun x44 =>
      opN Try.prog (sFA 89 x11 0) Kp fun x46 =>
      opN Try.prog (sLoad 3 x46) Kp fun x47 =>
      opN Try.prog (sMax #[3, 3] 3 [(.int .i64 1), x47]) Kp fun x48 =>
      opN Try.prog (sBin .add 3 y10 x48) Kp fun x49 =>
      next2 I1 m1 x44 x49)
     (K (.tuple #[y9, (.int .i64 0)]))) (.slice none 0 0) (.int .i64 0)))
def lz_Pieces_an : Ann := { cuts := [(5, [12])], blks := [], loops := [(11, [9, 10])], drs := [] }
theorem lz_Pieces_eq (v0 v1 v2 : Value) (Kp : PK) (K : Value → WP) : cevF Try.prog lz_Pieces_an Try.f44 [v0, v1, v2] Kp K = lz_Pieces v0 v1 v2 Kp K := by kernel_rfl
theorem lz_Pieces_calls {v0 v1 v2 : Value} {Kp : PK} {K : Value → WP} {w : World} (h : lz_Pieces v0 v1 v2 Kp K w) : Calls Try.prog 44 #[v0, v1, v2] w (after Kp K) :=
 calls_of_shape (calls_of_cev wide Try.func44 (an := lz_Pieces_an) (args := [v0, v1, v2]) (cast (congrFun (lz_Pieces_eq v0 v1 v2 Kp K) w).symm h))
theorem lz_Pieces_cn {v0 v1 v2 : Value} {W : World} {α : Type} {A : List HP} {r : α → Value} {B : α → List HP} (h : ∀ F, Ent W (A ++ F) (lz_Pieces v0 v1 v2 noP fun v w => ∃ x, v = r x ∧ sat W (B x ++ F) w)) : Cn Try.prog 44 [v0, v1, v2] W A r B :=
 Cn.of (shape := lz_Pieces v0 v1 v2) Try.call44 (fun h => lz_Pieces_calls h) h
def deflate_blocks_1 (v0 v1 v2 v3 v4 v5 v6 v7 : Value) (Kp : PK) (K : Value → WP) : WP :=
  drS (stD Try.prog (sLoad 57 v1) fun D0 x9 =>
   stS Try.prog (sLoad 59 v2) fun x10 =>
   stS Try.prog (sLoad 3 v3) fun x11 =>
   stS Try.prog (sSl 59 x10 (some x11) (some v0) none) fun x13 =>
   stS Try.prog (sLoad 22 v4) fun x14 =>
   stS Try.prog (sLoad 3 v5) fun x15 =>
   stS Try.prog (sLoad 3 v6) fun x16 =>
   stS Try.prog (sSl 22 x14 (some x15) (some x16) none) fun x17 =>
   stS Try.prog (sLoad 3 v7) fun x18 =>
   stS Try.prog (sBuild 61 [(0, x13), (1, x17), (2, x18)]) fun x19 =>
   opN Try.prog (sBuildSl 57 1 [(0, x19)]) Kp fun x20 =>
   (fun w => D0 w ∧ (opN Try.prog (sApp #[57, 57] 57 [x9, x20]) Kp fun x21 =>
     opN Try.prog (sStore 57 v1 x21) Kp fun _ =>
     drS (stD Try.prog (sLoad 3 v6) fun D1 x23 =>
      opN Try.prog (sStore 3 v3 v0) Kp fun _ =>
      (fun w => D1 w ∧ (opN Try.prog (sStore 3 v5 x23) Kp fun _ =>
        K (.tuple #[])) w))) w))
def deflate_blocks_1_an : Ann := { cuts := [], blks := [], loops := [], drs := [(0, .ofL [(0, 3), (1, 1), (2, 1), (3, 1), (4, 1), (5, 1), (6, 1), (7, 1), (8, 1), (9, 1), (10, 1), (11, 0), (12, 0), (13, 0)]), (1, .ofL [(0, 1), (1, 3), (2, 0), (3, 0)])] }
theorem deflate_blocks_1_eq (v0 v1 v2 v3 v4 v5 v6 v7 : Value) (Kp : PK) (K : Value → WP) : cevF Try.prog deflate_blocks_1_an Try.f45 [v0, v1, v2, v3, v4, v5, v6, v7] Kp K = deflate_blocks_1 v0 v1 v2 v3 v4 v5 v6 v7 Kp K := by kernel_rfl
theorem deflate_blocks_1_calls {v0 v1 v2 v3 v4 v5 v6 v7 : Value} {Kp : PK} {K : Value → WP} {w : World} (h : deflate_blocks_1 v0 v1 v2 v3 v4 v5 v6 v7 Kp K w) : Calls Try.prog 45 #[v0, v1, v2, v3, v4, v5, v6, v7] w (after Kp K) :=
 calls_of_shape (calls_of_cev wide Try.func45 (an := deflate_blocks_1_an) (args := [v0, v1, v2, v3, v4, v5, v6, v7]) (cast (congrFun (deflate_blocks_1_eq v0 v1 v2 v3 v4 v5 v6 v7 Kp K) w).symm h))
theorem deflate_blocks_1_cn {v0 v1 v2 v3 v4 v5 v6 v7 : Value} {W : World} {α : Type} {A : List HP} {r : α → Value} {B : α → List HP} (h : ∀ F, Ent W (A ++ F) (deflate_blocks_1 v0 v1 v2 v3 v4 v5 v6 v7 noP fun v w => ∃ x, v = r x ∧ sat W (B x ++ F) w)) : Cn Try.prog 45 [v0, v1, v2, v3, v4, v5, v6, v7] W A r B :=
 Cn.of (shape := deflate_blocks_1 v0 v1 v2 v3 v4 v5 v6 v7) Try.call45 (fun h => deflate_blocks_1_calls h) h
def deflate_block_fixed (v0 v1 : Value) (Kp : PK) (K : Value → WP) : WP :=
  opN Try.prog (sBox 61 v0) Kp fun x2 =>
  opN Try.prog (sCall (fn 70) []) Kp fun x7 =>
  opN Try.prog (sExt x7 0) Kp fun x8 =>
  opN Try.prog (sExt x7 1) Kp fun x9 =>
  drS (stD Try.prog (sLoad 61 x2) fun D0 x10 =>
   opN Try.prog (sCall (fn 72) [x8]) Kp fun x12 =>
   (fun w => D0 w ∧ (opN Try.prog (sCall (fn 72) [x9]) Kp fun x14 =>
     (fun w => D0 w ∧ (opN Try.prog (sCall (fn 73) [v1]) Kp fun x16 =>
       (fun w => D0 w ∧ (opN Try.prog (sCall (fn 71) [x10, x12, x14, x16]) Kp fun x17 =>
         K (.tuple #[])) w)) w)) w))
def deflate_block_fixed_an : Ann := { cuts := [], blks := [], loops := [], drs := [(2, .ofL [(0, 3), (1, 1), (3, 2), (5, 2), (2, 0), (4, 0), (6, 0), (7, 0)])] }
theorem deflate_block_fixed_eq (v0 v1 : Value) (Kp : PK) (K : Value → WP) : cevF Try.prog deflate_block_fixed_an Try.f46 [v0, v1] Kp K = deflate_block_fixed v0 v1 Kp K := by kernel_rfl
theorem deflate_block_fixed_calls {v0 v1 : Value} {Kp : PK} {K : Value → WP} {w : World} (h : deflate_block_fixed v0 v1 Kp K w) : Calls Try.prog 46 #[v0, v1] w (after Kp K) :=
 calls_of_shape (calls_of_cev wide Try.func46 (an := deflate_block_fixed_an) (args := [v0, v1]) (cast (congrFun (deflate_block_fixed_eq v0 v1 Kp K) w).symm h))
theorem deflate_block_fixed_cn {v0 v1 : Value} {W : World} {α : Type} {A : List HP} {r : α → Value} {B : α → List HP} (h : ∀ F, Ent W (A ++ F) (deflate_block_fixed v0 v1 noP fun v w => ∃ x, v = r x ∧ sat W (B x ++ F) w)) : Cn Try.prog 46 [v0, v1] W A r B :=
 Cn.of (shape := deflate_block_fixed v0 v1) Try.call46 (fun h => deflate_block_fixed_calls h) h
def deflate_block_dynamic (v0 v1 : Value) (Kp : PK) (K : Value → WP) : WP :=
  opN Try.prog (sBox 61 v0) Kp fun x2 =>
  opN Try.prog (sLoad 61 x2) Kp fun x7 =>
  opN Try.prog (sCall (fn 74) [x7]) Kp fun x8 =>
  opN Try.prog (sExt x8 0) Kp fun x9 =>
  opN Try.prog (sExt x8 1) Kp fun x10 =>
  opN Try.prog (sAlloc 124) Kp fun x4 =>
  opN Try.prog (sAlloc 124) Kp fun x5 =>
  opN Try.prog (sStore 124 x4 x9) Kp fun _ =>
  opN Try.prog (sStore 124 x5 x10) Kp fun _ =>
  opN Try.prog (sLoad 124 x4) Kp fun x12 =>
  opN Try.prog (sLoad 124 x5) Kp fun x13 =>
  opN Try.prog (sCall (fn 75) [v1, x12, x13]) Kp fun x14 =>
  drS (stD Try.prog (sLoad 61 x2) fun D0 x15 =>
   stD Try.prog (sLoad 124 x4) fun D1 x16 =>
   stD Try.prog (sLoad 124 x5) fun D2 x17 =>
   opN Try.prog (sCall (fn 73) [v1]) Kp fun x19 =>
   (fun w => D2 w ∧ (fun w => D1 w ∧ (fun w => D0 w ∧ (opN Try.prog (sCall (fn 71) [x15, x16, x17, x19]) Kp fun x20 =>
       K (.tuple #[])) w) w) w))
def deflate_block_dynamic_an : Ann := { cuts := [], blks := [], loops := [], drs := [(3, .ofL [(0, 3), (1, 3), (2, 3), (3, 1), (4, 0), (5, 0)])] }
theorem deflate_block_dynamic_eq (v0 v1 : Value) (Kp : PK) (K : Value → WP) : cevF Try.prog deflate_block_dynamic_an Try.f47 [v0, v1] Kp K = deflate_block_dynamic v0 v1 Kp K := by kernel_rfl
theorem deflate_block_dynamic_calls {v0 v1 : Value} {Kp : PK} {K : Value → WP} {w : World} (h : deflate_block_dynamic v0 v1 Kp K w) : Calls Try.prog 47 #[v0, v1] w (after Kp K) :=
 calls_of_shape (calls_of_cev wide Try.func47 (an := deflate_block_dynamic_an) (args := [v0, v1]) (cast (congrFun (deflate_block_dynamic_eq v0 v1 Kp K) w).symm h))
theorem deflate_block_dynamic_cn {v0 v1 : Value} {W : World} {α : Type} {A : List HP} {r : α → Value} {B : α → List HP} (h : ∀ F, Ent W (A ++ F) (deflate_block_dynamic v0 v1 noP fun v w => ∃ x, v = r x ∧ sat W (B x ++ F) w)) : Cn Try.prog 47 [v0, v1] W A r B :=
 Cn.of (shape := deflate_block_dynamic v0 v1) Try.call47 (fun h => deflate_block_dynamic_calls h) h
def deflate_block_size (v0 v1 v2 : Value) (Kp : PK) (K : Value → WP) : WP :=
 opN Try.prog (sBox 61 v0) Kp fun x3 =>
 opN Try.prog (sCall (fn 27) []) Kp fun x8 =>
 opN Try.prog (sBin .rem 3 v2 (.int .i64 8)) Kp fun x11 =>
 opN Try.prog (sCall (fn 35) [x8, (.int .i64 0), x11]) Kp fun x12 =>
 opN Try.prog (sCall (fn 35) [x8, (.int .i64 0), (.int .i64 3)]) Kp fun x14 =>
 opN Try.prog (sLoad 61 x3) Kp fun x16 =>
 opN Try.prog (sCall v1 [x16, x8]) Kp fun x18 =>
 opN Try.prog (sCall (fn 49) [x8]) Kp fun x20 =>
 opN Try.prog (sBin .rem 3 v2 (.int .i64 8)) Kp fun x22 =>
 opN Try.prog (sBin .sub 3 x20 x22) Kp fun x23 =>
 K x23
def deflate_block_size_an : Ann := { cuts := [], blks := [], loops := [], drs := [] }
theorem deflate_block_size_eq (v0 v1 v2 : Value) (Kp : PK) (K : Value → WP) : cevF Try.prog deflate_block_size_an Try.f48 [v0, v1, v2] Kp K = deflate_block_size v0 v1 v2 Kp K := by kernel_rfl
theorem deflate_block_size_calls {v0 v1 v2 : Value} {Kp : PK} {K : Value → WP} {w : World} (h : deflate_block_size v0 v1 v2 Kp K w) : Calls Try.prog 48 #[v0, v1, v2] w (after Kp K) :=
 calls_of_shape (calls_of_cev wide Try.func48 (an := deflate_block_size_an) (args := [v0, v1, v2]) (cast (congrFun (deflate_block_size_eq v0 v1 v2 Kp K) w).symm h))
theorem deflate_block_size_cn {v0 v1 v2 : Value} {W : World} {α : Type} {A : List HP} {r : α → Value} {B : α → List HP} (h : ∀ F, Ent W (A ++ F) (deflate_block_size v0 v1 v2 noP fun v w => ∃ x, v = r x ∧ sat W (B x ++ F) w)) : Cn Try.prog 48 [v0, v1, v2] W A r B :=
 Cn.of (shape := deflate_block_size v0 v1 v2) Try.call48 (fun h => deflate_block_size_calls h) h
def bits_Writer_Bits (v0 : Value) (Kp : PK) (K : Value → WP) : WP :=
  opN Try.prog (sCall (fn 50) [v0]) Kp fun x4 =>
  condS x4
  (K (.int .i64 0))
  (opN Try.prog (sNil v0) Kp fun x6 =>
   opN Try.prog (sFA 84 x6 1) Kp fun x7 =>
   opN Try.prog (sLoad 3 x7) Kp fun x8 =>
   K x8)
def bits_Writer_Bits_an : Ann := { cuts := [], blks := [], loops := [], drs := [] }
theorem bits_Writer_Bits_eq (v0 : Value) (Kp : PK) (K : Value → WP) : cevF Try.prog bits_Writer_Bits_an Try.f49 [v0] Kp K = bits_Writer_Bits v0 Kp K := by kernel_rfl
theorem bits_Writer_Bits_calls {v0 : Value} {Kp : PK} {K : Value → WP} {w : World} (h : bits_Writer_Bits v0 Kp K w) : Calls Try.prog 49 #[v0] w (after Kp K) :=
 calls_of_shape (calls_of_cev wide Try.func49 (an := bits_Writer_Bits_an) (args := [v0]) (cast (congrFun (bits_Writer_Bits_eq v0 Kp K) w).symm h))
theorem bits_Writer_Bits_cn {v0 : Value} {W : World} {α : Type} {A : List HP} {r : α → Value} {B : α → List HP} (h : ∀ F, Ent W (A ++ F) (bits_Writer_Bits v0 noP fun v w => ∃ x, v = r x ∧ sat W (B x ++ F) w)) : Cn Try.prog 49 [v0] W A r B :=
 Cn.of (shape := bits_Writer_Bits v0) Try.call49 (fun h => bits_Writer_Bits_calls h) h
def bits_Writer_none (v0 : Value) (Kp : PK) (K : Value → WP) : WP :=
 opN Try.prog (sEq .eql 55 (.tmp 3) (.const (.pointer none)) v0 (.pointer none)) Kp fun x4 =>
 gdK x4 false (fun k => k v0) fun x6 =>
 gdK x4 false (opN Try.prog (sNil x6) Kp) fun x7 =>
 gdK x4 false (opN Try.prog (sFA 84 x7 2) Kp) fun x8 =>
 gdK x4 false (opN Try.prog (sLoad 4 x8) Kp) fun x9 =>
 gdK x4 false (opN Try.prog (sUn .not x9) Kp) fun x10 =>
 opN Try.prog (sPick x4 (.bool true) x10) Kp fun x11 =>
 K x11
def bits_Writer_none_an : Ann := { cuts := [], blks := [], loops := [], drs := [] }
theorem bits_Writer_none_eq (v0 : Value) (Kp : PK) (K : Value → WP) : cevF Try.prog bits_Writer_none_an Try.f50 [v0] Kp K = bits_Writer_none v0 Kp K := by kernel_rfl
theorem bits_Writer_none_calls {v0 : Value} {Kp : PK} {K : Value → WP} {w : World} (h : bits_Writer_none v0 Kp K w) : Calls Try.prog 50 #[v0] w (after Kp K) :=
 calls_of_shape (calls_of_cev wide Try.func50 (an := bits_Writer_none_an) (args := [v0]) (cast (congrFun (bits_Writer_none_eq v0 Kp K) w).symm h))
theorem bits_Writer_none_cn {v0 : Value} {W : World} {α : Type} {A : List HP} {r : α → Value} {B : α → List HP} (h : ∀ F, Ent W (A ++ F) (bits_Writer_none v0 noP fun v w => ∃ x, v = r x ∧ sat W (B x ++ F) w)) : Cn Try.prog 50 [v0] W A r B :=
 Cn.of (shape := bits_Writer_none v0) Try.call50 (fun h => bits_Writer_none_calls h) h
def ref06_pieces (v0 v1 : Value) (Kp : PK) (K : Value → WP) : WP :=
  opN Try.prog (sEq .eql 3 (.tmp 9) (.const (.int .i64 0)) v1 (.int .i64 0)) Kp fun x10 =>
  condS x10
  (loop2 (fun I1 m1 _ y5 y6 =>
    opN Try.prog (sLen #[22] 3 [v0]) Kp fun x13 =>
    opN Try.prog (sBin .lss 3 y6 x13) Kp fun x14 =>
    condS x14
    (opN Try.prog (sIA 22 v0 y6) Kp fun x20 =>
     opN Try.prog (sLoad 5 x20) Kp fun x21 =>
     opN Try.prog (sBuild 97 [(2, x21)]) Kp fun x22 =>
     opN Try.prog (sBuildSl 70 1 [(0, x22)]) Kp fun x23 =>
     opN Try.prog (sApp #[70, 70] 70 [y5, x23]) Kp fun x24 =>
     opN Try.prog (sBin .add 3 y6 (.int .i64 1)) Kp fun x16 =>
     next2 I1 m1 x24 x16)
    (K y5)) (.slice none 0 0) (.int .i64 0))
  (opN Try.prog (sConv 3 87 v1) Kp fun x29 =>
   opN Try.prog (sBin .shl 3 (.int .i64 2) x29) Kp fun x30 =>
   opN Try.prog (sCall (fn 76) [v0, (.int .i64 32768), x30]) Kp fun x31 =>
   opN Try.prog (sExt x31 0) Kp fun x32 =>
   opN Try.prog (sExt x31 1) Kp fun x33 =>
   K x32)
def ref06_pieces_an : Ann := { cuts := [], blks := [], loops := [(4, [5, 6])], drs := [] }
theorem ref06_pieces_eq (v0 v1 : Value) (Kp : PK) (K : Value → WP) : cevF Try.prog ref06_pieces_an Try.f51 [v0, v1] Kp K = ref06_pieces v0 v1 Kp K := by kernel_rfl
theorem ref06_pieces_calls {v0 v1 : Value} {Kp : PK} {K : Value → WP} {w : World} (h : ref06_pieces v0 v1 Kp K w) : Calls Try.prog 51 #[v0, v1] w (after Kp K) :=
 calls_of_shape (calls_of_cev wide Try.func51 (an := ref06_pieces_an) (args := [v0, v1]) (cast (congrFun (ref06_pieces_eq v0 v1 Kp K) w).symm h))
theorem ref06_pieces_cn {v0 v1 : Value} {W : World} {α : Type} {A : List HP} {r : α → Value} {B : α → List HP} (h : ∀ F, Ent W (A ++ F) (ref06_pieces v0 v1 noP fun v w => ∃ x, v = r x ∧ sat W (B x ++ F) w)) : Cn Try.prog 51 [v0, v1] W A r B :=
 Cn.of (shape := ref06_pieces v0 v1) Try.call51 (fun h => ref06_pieces_calls h) h
def ref06_way (v0 v1 v2 : Value) (Kp : PK) (K : Value → WP) : WP :=
  opN Try.prog (sBox 72 v2) Kp fun x5 =>
  opN Try.prog (sBuild 66 []) Kp fun x12 =>
  opN Try.prog (sBox 66 x12) Kp fun x13 =>
  opN Try.prog (sCall (fn 53) [x13, v1, (.int .i64 1)]) Kp fun x16 =>
  opN Try.prog (sCall (fn 53) [x13, v0, (.int .i64 2)]) Kp fun x19 =>
  opN Try.prog (sEq .eql 3 (.tmp 20) (.const (.int .i64 1)) v0 (.int .i64 1)) Kp fun x22 =>
  condS x22
  (opN Try.prog (sCall (fn 77) []) Kp fun x24 =>
   opN Try.prog (sExt x24 0) Kp fun x25 =>
   opN Try.prog (sExt x24 1) Kp fun x26 =>
   opN Try.prog (sLoad 72 x5) Kp fun x28 =>
   opN Try.prog (sCall (fn 78) [x13, x28, x25, x26]) Kp fun x31 =>
   K x13)
  (opN Try.prog (sEq .eql 3 (.tmp 20) (.const (.int .i64 2)) v0 (.int .i64 2)) Kp fun x33 =>
   condS x33
   (opN Try.prog (sLoad 72 x5) Kp fun x35 =>
    opN Try.prog (sCall (fn 79) [x35]) Kp fun x36 =>
    opN Try.prog (sExt x36 0) Kp fun x37 =>
    opN Try.prog (sExt x36 1) Kp fun x38 =>
    opN Try.prog (sCall (fn 80) [x13, x37, x38]) Kp fun x42 =>
    opN Try.prog (sLoad 72 x5) Kp fun x44 =>
    opN Try.prog (sCall (fn 78) [x13, x44, x37, x38]) Kp fun x47 =>
    K x13)
   (K x13))
def ref06_way_an : Ann := { cuts := [], blks := [], loops := [], drs := [] }
theorem ref06_way_eq (v0 v1 v2 : Value) (Kp : PK) (K : Value → WP) : cevF Try.prog ref06_way_an Try.f52 [v0, v1, v2] Kp K = ref06_way v0 v1 v2 Kp K := by kernel_rfl
theorem ref06_way_calls {v0 v1 v2 : Value} {Kp : PK} {K : Value → WP} {w : World} (h : ref06_way v0 v1 v2 Kp K w) : Calls Try.prog 52 #[v0, v1, v2] w (after Kp K) :=
 calls_of_shape (calls_of_cev wide Try.func52 (an := ref06_way_an) (args := [v0, v1, v2]) (cast (congrFun (ref06_way_eq v0 v1 v2 Kp K) w).symm h))
theorem ref06_way_cn {v0 v1 v2 : Value} {W : World} {α : Type} {A : List HP} {r : α → Value} {B : α → List HP} (h : ∀ F, Ent W (A ++ F) (ref06_way v0 v1 v2 noP fun v w => ∃ x, v = r x ∧ sat W (B x ++ F) w)) : Cn Try.prog 52 [v0, v1, v2] W A r B :=
 Cn.of (shape := ref06_way v0 v1 v2) Try.call52 (fun h => ref06_way_calls h) h
def ref02_Writer_Put (v0 v1 v2 : Value) (Kp : PK) (K : Value → WP) : WP :=
  opN Try.prog (sBin .lss 3 v2 (.int .i64 0)) Kp fun x9 =>
  gdK x9 false (fun k => k v2) fun x11 =>
  gdK x9 false (opN Try.prog (sBin .gtr 3 x11 (.int .i64 32)) Kp) fun x12 =>
  opN Try.prog (sPick x9 (.bool true) x12) Kp fun x13 =>
  gdK x13 false (fun k => k v1) fun x15 =>
  gdK x13 false (opN Try.prog (sBin .lss 3 x15 (.int .i64 0)) Kp) fun x16 =>
  opN Try.prog (sPick x13 (.bool true) x16) Kp fun x17 =>
  gdK x17 false (fun k => k v1) fun x19 =>
  gdK x17 false (fun k => k v2) fun x20 =>
  gdK x17 false (opN Try.prog (sConv 3 87 x20) Kp) fun x21 =>
  gdK x17 false (opN Try.prog (sBin .shl 3 (.int .i64 1) x21) Kp) fun x22 =>
  gdK x17 false (opN Try.prog (sBin .geq 3 x19 x22) Kp) fun x23 =>
  opN Try.prog (sPick x17 (.bool true) x23) Kp fun x24 =>
  condS x24
  (K (.int .i64 1))
  (opN Try.prog (sNil v0) Kp fun x27 =>
   opN Try.prog (sFA 66 x27 0) Kp fun x28 =>
   opN Try.prog (sLoad 22 x28) Kp fun x29 =>
   opN Try.prog (sLen #[22] 3 [x29]) Kp fun x30 =>
   opN Try.prog (sBin .sub 3 (.int .i64 8388608) x30) Kp fun x31 =>
   opN Try.prog (sBin .gtr 3 v2 x31) Kp fun x32 =>
   condS x32
   (K (.int .i64 6))
   (loop1 (fun I1 m1 _ y7 =>
     opN Try.prog (sBin .lss 3 y7 v2) Kp fun x35 =>
     condS x35
     (opN Try.prog (sNil v0) Kp fun x40 =>
      opN Try.prog (sFA 66 x40 0) Kp fun x41 =>
      opN Try.prog (sLoad 22 x41) Kp fun x42 =>
      opN Try.prog (sConv 3 87 y7) Kp fun x45 =>
      opN Try.prog (sBin .shr 3 v1 x45) Kp fun x46 =>
      opN Try.prog (sBin .and 3 x46 (.int .i64 1)) Kp fun x47 =>
      opN Try.prog (sConv 3 5 x47) Kp fun x48 =>
      opN Try.prog (sBuildSl 22 1 [(0, x48)]) Kp fun x49 =>
      opN Try.prog (sApp #[22, 22] 22 [x42, x49]) Kp fun x50 =>
      opN Try.prog (sNil v0) Kp fun x51 =>
      opN Try.prog (sFA 66 x51 0) Kp fun x52 =>
      opN Try.prog (sStore 22 x52 x50) Kp fun _ =>
      opN Try.prog (sBin .add 3 y7 (.int .i64 1)) Kp fun x37 =>
      next1 I1 m1 x37)
     (K (.int .i64 0))) (.int .i64 0)))
def ref02_Writer_Put_an : Ann := { cuts := [], blks := [], loops := [(6, [7])], drs := [] }
theorem ref02_Writer_Put_eq (v0 v1 v2 : Value) (Kp : PK) (K : Value → WP) : cevF Try.prog ref02_Writer_Put_an Try.f53 [v0, v1, v2] Kp K = ref02_Writer_Put v0 v1 v2 Kp K := by kernel_rfl
theorem ref02_Writer_Put_calls {v0 v1 v2 : Value} {Kp : PK} {K : Value → WP} {w : World} (h : ref02_Writer_Put v0 v1 v2 Kp K w) : Calls Try.prog 53 #[v0, v1, v2] w (after Kp K) :=
 calls_of_shape (calls_of_cev wide Try.func53 (an := ref02_Writer_Put_an) (args := [v0, v1, v2]) (cast (congrFun (ref02_Writer_Put_eq v0 v1 v2 Kp K) w).symm h))
theorem ref02_Writer_Put_cn {v0 v1 v2 : Value} {W : World} {α : Type} {A : List HP} {r : α → Value} {B : α → List HP} (h : ∀ F, Ent W (A ++ F) (ref02_Writer_Put v0 v1 v2 noP fun v w => ∃ x, v = r x ∧ sat W (B x ++ F) w)) : Cn Try.prog 53 [v0, v1, v2] W A r B :=
 Cn.of (shape := ref02_Writer_Put v0 v1 v2) Try.call53 (fun h => ref02_Writer_Put_calls h) h
def ref06_stored (v0 v1 : Value) (Kp : PK) (K : Value → WP) : WP :=
 opN Try.prog (sCall (fn 81) [v0]) Kp fun x5 =>
 opN Try.prog (sLen #[22] 3 [v1]) Kp fun x8 =>
 opN Try.prog (sCall (fn 53) [v0, x8, (.int .i64 16)]) Kp fun x9 =>
 opN Try.prog (sLen #[22] 3 [v1]) Kp fun x12 =>
 opN Try.prog (sBin .sub 3 (.int .i64 65535) x12) Kp fun x13 =>
 opN Try.prog (sCall (fn 53) [v0, x13, (.int .i64 16)]) Kp fun x14 =>
 opN Try.prog (sCall (fn 82) [v0, v1]) Kp fun x17 =>
 K (.tuple #[])
def ref06_stored_an : Ann := { cuts := [], blks := [], loops := [], drs := [] }
theorem ref06_stored_eq (v0 v1 : Value) (Kp : PK) (K : Value → WP) : cevF Try.prog ref06_stored_an Try.f54 [v0, v1] Kp K = ref06_stored v0 v1 Kp K := by kernel_rfl
theorem ref06_stored_calls {v0 v1 : Value} {Kp : PK} {K : Value → WP} {w : World} (h : ref06_stored v0 v1 Kp K w) : Calls Try.prog 54 #[v0, v1] w (after Kp K) :=
 calls_of_shape (calls_of_cev wide Try.func54 (an := ref06_stored_an) (args := [v0, v1]) (cast (congrFun (ref06_stored_eq v0 v1 Kp K) w).symm h))
theorem ref06_stored_cn {v0 v1 : Value} {W : World} {α : Type} {A : List HP} {r : α → Value} {B : α → List HP} (h : ∀ F, Ent W (A ++ F) (ref06_stored v0 v1 noP fun v w => ∃ x, v = r x ∧ sat W (B x ++ F) w)) : Cn Try.prog 54 [v0, v1] W A r B :=
 Cn.of (shape := ref06_stored v0 v1) Try.call54 (fun h => ref06_stored_calls h) h
def bits_masks (Kp : PK) (K : Value → WP) : WP :=
 opN Try.prog (sAlloc 101) Kp fun x0 =>
 opN Try.prog (sBuild 101 [(0, (.int .u8 1)), (1, (.int .u8 2)), (2, (.int .u8 4)), (3, (.int .u8 8)), (4, (.int .u8 16)), (5, (.int .u8 32)), (6, (.int .u8 64)), (7, (.int .u8 128))]) Kp fun x1 =>
 opN Try.prog (sStore 101 x0 x1) Kp fun _ =>
 (stS Try.prog (sRes 101 x0) fun r0 => K r0)
def bits_masks_an : Ann := { cuts := [], blks := [], loops := [], drs := [] }
theorem bits_masks_eq (Kp : PK) (K : Value → WP) : cevF Try.prog bits_masks_an Try.f55 [] Kp K = bits_masks Kp K := by kernel_rfl
theorem bits_masks_calls  {Kp : PK} {K : Value → WP} {w : World} (h : bits_masks Kp K w) : Calls Try.prog 55 #[] w (after Kp K) :=
 calls_of_shape (calls_of_cev wide Try.func55 (an := bits_masks_an) (args := []) (cast (congrFun (bits_masks_eq Kp K) w).symm h))
theorem bits_masks_cn  {W : World} {α : Type} {A : List HP} {r : α → Value} {B : α → List HP} (h : ∀ F, Ent W (A ++ F) (bits_masks noP fun v w => ∃ x, v = r x ∧ sat W (B x ++ F) w)) : Cn Try.prog 55 [] W A r B :=
 Cn.of (shape := bits_masks) Try.call55 (fun h => bits_masks_calls h) h
def bits_Writer_Align (v0 : Value) (Kp : PK) (K : Value → WP) : WP :=
  opN Try.prog (sCall (fn 50) [v0]) Kp fun x3 =>
  opN Try.prog (sUn .not x3) Kp fun x4 =>
  condS x4
  (opN Try.prog (sNil v0) Kp fun x7 =>
   opN Try.prog (sFA 84 x7 0) Kp fun x8 =>
   opN Try.prog (sLoad 22 x8) Kp fun x9 =>
   opN Try.prog (sLen #[22] 3 [x9]) Kp fun x10 =>
   opN Try.prog (sBin .mul 3 (.int .i64 8) x10) Kp fun x11 =>
   opN Try.prog (sNil v0) Kp fun x12 =>
   opN Try.prog (sFA 84 x12 1) Kp fun x13 =>
   opN Try.prog (sStore 3 x13 x11) Kp fun _ =>
   K (.tuple #[]))
  (K (.tuple #[]))
def bits_Writer_Align_an : Ann := { cuts := [], blks := [], loops := [], drs := [] }
theorem bits_Writer_Align_eq (v0 : Value) (Kp : PK) (K : Value → WP) : cevF Try.prog bits_Writer_Align_an Try.f56 [v0] Kp K = bits_Writer_Align v0 Kp K := by kernel_rfl
theorem bits_Writer_Align_calls {v0 : Value} {Kp : PK} {K : Value → WP} {w : World} (h : bits_Writer_Align v0 Kp K w) : Calls Try.prog 56 #[v0] w (after Kp K) :=
 calls_of_shape (calls_of_cev wide Try.func56 (an := bits_Writer_Align_an) (args := [v0]) (cast (congrFun (bits_Writer_Align_eq v0 Kp K) w).symm h))
theorem bits_Writer_Align_cn {v0 : Value} {W : World} {α : Type} {A : List HP} {r : α → Value} {B : α → List HP} (h : ∀ F, Ent W (A ++ F) (bits_Writer_Align v0 noP fun v w => ∃ x, v = r x ∧ sat W (B x ++ F) w)) : Cn Try.prog 56 [v0] W A r B :=
 Cn.of (shape := bits_Writer_Align v0) Try.call56 (fun h => bits_Writer_Align_calls h) h
def bits_Writer_Raw (v0 v1 : Value) (Kp : PK) (K : Value → WP) : WP :=
  opN Try.prog (sCall (fn 50) [v0]) Kp fun x7 =>
  condS x7
  (K (.int .i64 1))
  (opN Try.prog (sLen #[22] 3 [v1]) Kp fun x10 =>
   opN Try.prog (sNil v0) Kp fun x12 =>
   opN Try.prog (sFA 84 x12 0) Kp fun x13 =>
   opN Try.prog (sLoad 22 x13) Kp fun x14 =>
   opN Try.prog (sLen #[22] 3 [x14]) Kp fun x15 =>
   opN Try.prog (sBin .sub 3 (.int .i64 1048576) x15) Kp fun x16 =>
   opN Try.prog (sBin .gtr 3 x10 x16) Kp fun x17 =>
   condS x17
   (K (.int .i64 6))
   (opN Try.prog (sNil v0) Kp fun x20 =>
    opN Try.prog (sFA 84 x20 0) Kp fun x21 =>
    opN Try.prog (sLoad 22 x21) Kp fun x22 =>
    opN Try.prog (sApp #[22, 22] 22 [x22, v1]) Kp fun x24 =>
    opN Try.prog (sNil v0) Kp fun x25 =>
    opN Try.prog (sFA 84 x25 0) Kp fun x26 =>
    opN Try.prog (sStore 22 x26 x24) Kp fun _ =>
    opN Try.prog (sCall (fn 56) [v0]) Kp fun x28 =>
    K (.int .i64 0)))
def bits_Writer_Raw_an : Ann := { cuts := [], blks := [], loops := [], drs := [] }
theorem bits_Writer_Raw_eq (v0 v1 : Value) (Kp : PK) (K : Value → WP) : cevF Try.prog bits_Writer_Raw_an Try.f57 [v0, v1] Kp K = bits_Writer_Raw v0 v1 Kp K := by kernel_rfl
theorem bits_Writer_Raw_calls {v0 v1 : Value} {Kp : PK} {K : Value → WP} {w : World} (h : bits_Writer_Raw v0 v1 Kp K w) : Calls Try.prog 57 #[v0, v1] w (after Kp K) :=
 calls_of_shape (calls_of_cev wide Try.func57 (an := bits_Writer_Raw_an) (args := [v0, v1]) (cast (congrFun (bits_Writer_Raw_eq v0 v1 Kp K) w).symm h))
theorem bits_Writer_Raw_cn {v0 v1 : Value} {W : World} {α : Type} {A : List HP} {r : α → Value} {B : α → List HP} (h : ∀ F, Ent W (A ++ F) (bits_Writer_Raw v0 v1 noP fun v w => ∃ x, v = r x ∧ sat W (B x ++ F) w)) : Cn Try.prog 57 [v0, v1] W A r B :=
 Cn.of (shape := bits_Writer_Raw v0 v1) Try.call57 (fun h => bits_Writer_Raw_calls h) h
def lz_finder_learn (v0 v1 : Value) (Kp : PK) (K : Value → WP) : WP :=
  loop0 (fun I1 m1 _  =>
   drS (stS Try.prog (sNil v0) fun x6 =>
    stS Try.prog (sFA 117 x6 2) fun x7 =>
    stS Try.prog (sLoad 3 x7) fun x8 =>
    stS Try.prog (sBin .lss 3 x8 v1) fun x10 =>
    gdK x10 true (fun k => k v0) fun x12 =>
    gdK x10 true (stS Try.prog (sNil x12)) fun x13 =>
    gdK x10 true (stS Try.prog (sFA 117 x13 2)) fun x14 =>
    gdK x10 true (stS Try.prog (sLoad 3 x14)) fun x15 =>
    gdK x10 true (stS Try.prog (sBin .add 3 x15 (.int .i64 3))) fun x16 =>
    gdK x10 true (fun k => k v0) fun x17 =>
    gdK x10 true (stS Try.prog (sNil x17)) fun x18 =>
    gdK x10 true (stS Try.prog (sFA 117 x18 0)) fun x19 =>
    gdK x10 true (stS Try.prog (sLoad 22 x19)) fun x20 =>
    gdK x10 true (stS Try.prog (sLen #[22] 3 [x20])) fun x21 =>
    gdK x10 true (stS Try.prog (sBin .leq 3 x16 x21)) fun x22 =>
    stS Try.prog (sPick x10 x22 (.bool false)) fun x23 =>
    condS x23
    (drS (stD Try.prog (sNil v0) fun D1 x32 =>
      stD Try.prog (sFA 117 x32 0) fun D2 x33 =>
      stD Try.prog (sLoad 22 x33) fun D3 x34 =>
      stD Try.prog (sNil v0) fun D5 x36 =>
      stD Try.prog (sFA 117 x36 2) fun D6 x37 =>
      stD Try.prog (sLoad 3 x37) fun D7 x38 =>
      stD Try.prog (sSl 22 x34 (some x38) none none) fun D8 x39 =>
      stD Try.prog (sArrP 153 x39) fun D9 x40 =>
      stD Try.prog (sLoad 153 x40) fun D10 x41 =>
      opN Try.prog (sAlloc 153) Kp fun x4 =>
      (fun w => D10 w ∧ (fun w => D9 w ∧ (fun w => D8 w ∧ (fun w => D7 w ∧ (fun w => D6 w ∧ (fun w => D5 w ∧ (fun w => D3 w ∧ (fun w => D2 w ∧ (fun w => D1 w ∧ (opN Try.prog (sStore 153 x4 x41) Kp fun _ =>
                drS (stD Try.prog (sNil v0) fun D1 x43 =>
                 stD Try.prog (sFA 117 x43 1) fun D2 x44 =>
                 stD Try.prog (sLoad 115 x44) fun D3 x45 =>
                 stD Try.prog (sLoad 153 x4) fun D4 x46 =>
                 stS Try.prog (sNil v0) fun x49 =>
                 stS Try.prog (sFA 117 x49 2) fun x50 =>
                 stS Try.prog (sLoad 3 x50) fun x51 =>
                 opN Try.prog (sBuildSl 119 1 [(0, x51)]) Kp fun x52 =>
                 (fun w => D4 w ∧ (fun w => D3 w ∧ (fun w => D2 w ∧ (fun w => D1 w ∧ (opN Try.prog (sMapEnt 115 x45 x46) Kp fun x53 =>
                      stS Try.prog (sExt x53 0) fun x47 =>
                      stD Try.prog (sExt x53 1) fun D13 x55 =>
                      opN Try.prog (sApp #[119, 119] 119 [x47, x52]) Kp fun x54 =>
                      (fun w => D13 w ∧ (opN Try.prog (sEntSt 115 x45 x55 x54) Kp fun _ =>
                      opN Try.prog (sNil v0) Kp fun x25 =>
                      opN Try.prog (sFA 117 x25 2) Kp fun x26 =>
                      opN Try.prog (sLoad 3 x26) Kp fun x27 =>
                      opN Try.prog (sBin .add 3 x27 (.int .i64 1)) Kp fun x28 =>
                      opN Try.prog (sNil v0) Kp fun x29 =>
                      opN Try.prog (sFA 117 x29 2) Kp fun x30 =>
                      opN Try.prog (sStore 3 x30 x28) Kp fun _ =>
                      next0 I1 m1) w)) w) w) w) w))) w) w) w) w) w) w) w) w) w)))
    (K (.tuple #[]))))
def lz_finder_learn_an : Ann := { cuts := [], blks := [], loops := [(0, [])], drs := [(0, .ofL [(0, 1), (1, 1), (2, 1), (3, 1), (4, 1), (5, 1), (6, 1), (7, 1), (8, 1), (9, 1), (10, 1), (11, 1), (12, 1), (13, 1), (14, 1), (15, 1), (16, 1), (17, 1), (18, 1)]), (2, .ofL [(0, 2), (1, 3), (2, 3), (3, 3), (4, 2), (5, 3), (6, 3), (7, 3), (8, 3), (9, 3), (10, 3), (11, 0), (12, 0)]), (3, .ofL [(0, 2), (1, 3), (2, 3), (3, 3), (4, 3), (5, 1), (6, 1), (7, 1), (8, 1), (9, 0), (10, 0), (11, 1), (13, 3), (12, 0), (14, 0)])] }
theorem lz_finder_learn_eq (v0 v1 : Value) (Kp : PK) (K : Value → WP) : cevF Try.prog lz_finder_learn_an Try.f68 [v0, v1] Kp K = lz_finder_learn v0 v1 Kp K := by kernel_rfl
theorem lz_finder_learn_calls {v0 v1 : Value} {Kp : PK} {K : Value → WP} {w : World} (h : lz_finder_learn v0 v1 Kp K w) : Calls Try.prog 68 #[v0, v1] w (after Kp K) :=
 calls_of_shape (calls_of_cev wide Try.func68 (an := lz_finder_learn_an) (args := [v0, v1]) (cast (congrFun (lz_finder_learn_eq v0 v1 Kp K) w).symm h))
theorem lz_finder_learn_cn {v0 v1 : Value} {W : World} {α : Type} {A : List HP} {r : α → Value} {B : α → List HP} (h : ∀ F, Ent W (A ++ F) (lz_finder_learn v0 v1 noP fun v w => ∃ x, v = r x ∧ sat W (B x ++ F) w)) : Cn Try.prog 68 [v0, v1] W A r B :=
 Cn.of (shape := lz_finder_learn v0 v1) Try.call68 (fun h => lz_finder_learn_calls h) h
def lz_finder_piece (v0 v1 : Value) (Kp : PK) (K : Value → WP) : WP :=
  opN Try.prog (sBox 114 v0) Kp fun x2 =>
  opN Try.prog (sBox 3 v1) Kp fun x3 =>
  opN Try.prog (sAlloc 89) Kp fun x4 =>
  drS (stD Try.prog (sLoad 114 x2) fun D0 x8 =>
   stD Try.prog (sNil x8) fun D1 x9 =>
   stD Try.prog (sFA 117 x9 0) fun D2 x10 =>
   stD Try.prog (sLoad 22 x10) fun D3 x11 =>
   stD Try.prog (sLoad 3 x3) fun D4 x12 =>
   stD Try.prog (sIA 22 x11 x12) fun D5 x13 =>
   stD Try.prog (sLoad 5 x13) fun D6 x14 =>
   stD Try.prog (sBuild 89 [(2, x14)]) fun D7 x15 =>
   opN Try.prog (sAlloc 89) Kp fun x5 =>
   (fun w => D7 w ∧ (fun w => D6 w ∧ (fun w => D5 w ∧ (fun w => D4 w ∧ (fun w => D3 w ∧ (fun w => D2 w ∧ (fun w => D1 w ∧ (fun w => D0 w ∧ (opN Try.prog (sStore 89 x5 x15) Kp fun _ =>
            opN Try.prog (sLoad 114 x2) Kp fun x16 =>
            opN Try.prog (sLoad 3 x3) Kp fun x17 =>
            opN Try.prog (sCall (fn 96) [x16, x17]) Kp fun x18 =>
            rfS Try.prog x18 1 (fun u19 B1 N1 J1r =>
             B1 (opN Try.prog (sLoad 114 x2) noK fun x20 =>
              opN Try.prog (sLoad 3 x3) noK fun x22 =>
              opN Try.prog (sCall (fn 97) [x20, u19, x22]) noK fun x23 =>
              opN Try.prog (sFA 89 x5 0) noK fun x25 =>
              opN Try.prog (sLoad 3 x25) noK fun x26 =>
              opN Try.prog (sBin .gtr 3 x23 x26) noK fun x27 =>
              condS x27
              (opN Try.prog (sLoad 3 x3) noK fun x29 =>
               opN Try.prog (sBin .sub 3 x29 u19) noK fun x31 =>
               opN Try.prog (sBuild 89 [(0, x23), (1, x31)]) noK fun x32 =>
               opN Try.prog (sStore 89 x5 x32) noK fun _ =>
               N1)
              (N1))) (fun d1 =>
             opN Try.prog (sLoad 89 x5) (KpM [d1] Kp) fun x33 =>
             opN Try.prog (sStore 89 x4 x33) (KpM [d1] Kp) fun _ =>
             (tkS d1 ((stS Try.prog (sRes 89 x4) fun r0 => K r0)))) (fun d1 => (tkS d1 ((stS Try.prog (sRes 89 x4) fun r0 => K r0)))) (fun d1 ch => (tkS d1 (Kp ch)))) w) w) w) w) w) w) w) w))
def lz_finder_piece_an : Ann := { cuts := [], blks := [], loops := [], drs := [(1, .ofL [(0, 3), (1, 3), (2, 3), (3, 3), (4, 3), (5, 3), (6, 3), (7, 3), (8, 0), (9, 0)])] }
theorem lz_finder_piece_eq (v0 v1 : Value) (Kp : PK) (K : Value → WP) : cevFT Try.prog lz_finder_piece_an Try.f69 [v0, v1] Kp K = lz_finder_piece v0 v1 Kp K := by kernel_rfl
theorem lz_finder_piece_calls {v0 v1 : Value} {Kp : PK} {K : Value → WP} {w : World} (h : lz_finder_piece v0 v1 Kp K w) : Calls Try.prog 69 #[v0, v1] w (after Kp K) :=
 calls_of_shape (calls_of_cevT wide Try.func69 (an := lz_finder_piece_an) (args := [v0, v1]) (cast (congrFun (lz_finder_piece_eq v0 v1 Kp K) w).symm h))
theorem lz_finder_piece_cn {v0 v1 : Value} {W : World} {α : Type} {A : List HP} {r : α → Value} {B : α → List HP} (h : ∀ F, Ent W (A ++ F) (lz_finder_piece v0 v1 noP fun v w => ∃ x, v = r x ∧ sat W (B x ++ F) w)) : Cn Try.prog 69 [v0, v1] W A r B :=
 Cn.of (shape := lz_finder_piece v0 v1) Try.call69 (fun h => lz_finder_piece_calls h) h
def inflate_Fixed (Kp : PK) (K : Value → WP) : WP :=
 opN Try.prog (sCall (fn 98) [(.slice none 0 0), (.int .i64 144), (.int .i64 8)]) Kp fun x7 =>
 opN Try.prog (sCall (fn 98) [x7, (.int .i64 112), (.int .i64 9)]) Kp fun x8 =>
 opN Try.prog (sCall (fn 98) [x8, (.int .i64 24), (.int .i64 7)]) Kp fun x9 =>
 opN Try.prog (sCall (fn 98) [x9, (.int .i64 8), (.int .i64 8)]) Kp fun x10 =>
 opN Try.prog (sCall (fn 98) [(.slice none 0 0), (.int .i64 32), (.int .i64 5)]) Kp fun x13 =>
 K (.tuple #[x10, x13])
def inflate_Fixed_an : Ann := { cuts := [], blks := [], loops := [], drs := [] }
theorem inflate_Fixed_eq (Kp : PK) (K : Value → WP) : cevF Try.prog inflate_Fixed_an Try.f70 [] Kp K = inflate_Fixed Kp K := by kernel_rfl
theorem inflate_Fixed_calls  {Kp : PK} {K : Value → WP} {w : World} (h : inflate_Fixed Kp K w) : Calls Try.prog 70 #[] w (after Kp K) :=
 calls_of_shape (calls_of_cev wide Try.func70 (an := inflate_Fixed_an) (args := []) (cast (congrFun (inflate_Fixed_eq Kp K) w).symm h))
theorem inflate_Fixed_cn  {W : World} {α : Type} {A : List HP} {r : α → Value} {B : α → List HP} (h : ∀ F, Ent W (A ++ F) (inflate_Fixed noP fun v w => ∃ x, v = r x ∧ sat W (B x ++ F) w)) : Cn Try.prog 70 [] W A r B :=
 Cn.of (shape := inflate_Fixed) Try.call70 (fun h => inflate_Fixed_calls h) h
def deflate_block_symbols (v0 v1 v2 v3 : Value) (Kp : PK) (K : Value → WP) : WP :=
  opN Try.prog (sBox 61 v0) Kp fun x4 =>
  opN Try.prog (sBox 124 v1) Kp fun x5 =>
  opN Try.prog (sBox 124 v2) Kp fun x6 =>
  opN Try.prog (sFA 61 x4 0) Kp fun x13 =>
  opN Try.prog (sLoad 59 x13) Kp fun x14 =>
  opN Try.prog (sLen #[59] 3 [x14]) Kp fun x15 =>
  loop1 (fun I1 m1 _ y16 =>
   opN Try.prog (sBin .lss 3 y16 x15) Kp fun x17 =>
   condS x17
   (opN Try.prog (sIA 59 x14 y16) Kp fun x18 =>
    opN Try.prog (sLoad 89 x18) Kp fun x19 =>
    opN Try.prog (sAlloc 89) Kp fun x9 =>
    opN Try.prog (sStore 89 x9 x19) Kp fun _ =>
    opN Try.prog (sFA 89 x9 0) Kp fun x20 =>
    opN Try.prog (sLoad 3 x20) Kp fun x21 =>
    opN Try.prog (sEq .eql 3 (.tmp 21) (.const (.int .i64 0)) x21 (.int .i64 0)) Kp fun x22 =>
    condS x22
    (opN Try.prog (sLoad 124 x5) Kp fun x24 =>
     opN Try.prog (sFA 89 x9 2) Kp fun x25 =>
     opN Try.prog (sLoad 5 x25) Kp fun x26 =>
     opN Try.prog (sConv 5 3 x26) Kp fun x27 =>
     opN Try.prog (sCall v3 [x24, x27, (.int .i64 0), (.int .i64 0)]) Kp fun x28 =>
     opN Try.prog (sBin .add 3 y16 (.int .i64 1)) Kp fun x55 =>
     next1 I1 m1 x55)
    (opN Try.prog (sFA 89 x9 0) Kp fun x30 =>
     opN Try.prog (sLoad 3 x30) Kp fun x31 =>
     opN Try.prog (sCall (fn 99) [x31]) Kp fun x32 =>
     opN Try.prog (sExt x32 0) Kp fun x33 =>
     opN Try.prog (sExt x32 1) Kp fun x34 =>
     opN Try.prog (sExt x32 2) Kp fun x35 =>
     opN Try.prog (sLoad 124 x5) Kp fun x37 =>
     opN Try.prog (sCall v3 [x37, x33, x34, x35]) Kp fun x41 =>
     opN Try.prog (sFA 89 x9 1) Kp fun x43 =>
     opN Try.prog (sLoad 3 x43) Kp fun x44 =>
     opN Try.prog (sCall (fn 100) [x44]) Kp fun x45 =>
     opN Try.prog (sExt x45 0) Kp fun x46 =>
     opN Try.prog (sExt x45 1) Kp fun x47 =>
     opN Try.prog (sExt x45 2) Kp fun x48 =>
     opN Try.prog (sLoad 124 x6) Kp fun x50 =>
     opN Try.prog (sCall v3 [x50, x46, x47, x48]) Kp fun x54 =>
     opN Try.prog (sBin .add 3 y16 (.int .i64 1)) Kp fun x55 =>
     next1 I1 m1 x55))
   (opN Try.prog (sLoad 124 x5) Kp fun x57 =>
    opN Try.prog (sCall v3 [x57, (.int .i64 256), (.int .i64 0), (.int .i64 0)]) Kp fun x58 =>
    K (.tuple #[]))) (.int .i64 0)
def deflate_block_symbols_an : Ann := { cuts := [], blks := [], loops := [(2, [16])], drs := [] }
theorem deflate_block_symbols_eq (v0 v1 v2 v3 : Value) (Kp : PK) (K : Value → WP) : cevF Try.prog deflate_block_symbols_an Try.f71 [v0, v1, v2, v3] Kp K = deflate_block_symbols v0 v1 v2 v3 Kp K := by kernel_rfl
theorem deflate_block_symbols_calls {v0 v1 v2 v3 : Value} {Kp : PK} {K : Value → WP} {w : World} (h : deflate_block_symbols v0 v1 v2 v3 Kp K w) : Calls Try.prog 71 #[v0, v1, v2, v3] w (after Kp K) :=
 calls_of_shape (calls_of_cev wide Try.func71 (an := deflate_block_symbols_an) (args := [v0, v1, v2, v3]) (cast (congrFun (deflate_block_symbols_eq v0 v1 v2 v3 Kp K) w).symm h))
theorem deflate_block_symbols_cn {v0 v1 v2 v3 : Value} {W : World} {α : Type} {A : List HP} {r : α → Value} {B : α → List HP} (h : ∀ F, Ent W (A ++ F) (deflate_block_symbols v0 v1 v2 v3 noP fun v w => ∃ x, v = r x ∧ sat W (B x ++ F) w)) : Cn Try.prog 71 [v0, v1, v2, v3] W A r B :=
 Cn.of (shape := deflate_block_symbols v0 v1 v2 v3) Try.call71 (fun h => deflate_block_symbols_calls h) h
def deflate_newSet (v0 : Value) (Kp : PK) (K : Value → WP) : WP :=
 opN Try.prog (sAlloc 124) Kp fun x2 =>
 opN Try.prog (sCall (fn 101) [v0]) Kp fun x7 =>
 opN Try.prog (sExt x7 0) Kp fun x8 =>
 opN Try.prog (sExt x7 1) Kp fun x9 =>
 opN Try.prog (sBuild 124 [(0, v0), (1, x8)]) Kp fun x12 =>
 opN Try.prog (sStore 124 x2 x12) Kp fun _ =>
 (stS Try.prog (sRes 124 x2) fun r0 => K r0)
def deflate_newSet_an : Ann := { cuts := [], blks := [], loops := [], drs := [] }
theorem deflate_newSet_eq (v0 : Value) (Kp : PK) (K : Value → WP) : cevF Try.prog deflate_newSet_an Try.f72 [v0] Kp K = deflate_newSet v0 Kp K := by kernel_rfl
theorem deflate_newSet_calls {v0 : Value} {Kp : PK} {K : Value → WP} {w : World} (h : deflate_newSet v0 Kp K w) : Calls Try.prog 72 #[v0] w (after Kp K) :=
 calls_of_shape (calls_of_cev wide Try.func72 (an := deflate_newSet_an) (args := [v0]) (cast (congrFun (deflate_newSet_eq v0 Kp K) w).symm h))
theorem deflate_newSet_cn {v0 : Value} {W : World} {α : Type} {A : List HP} {r : α → Value} {B : α → List HP} (h : ∀ F, Ent W (A ++ F) (deflate_newSet v0 noP fun v w => ∃ x, v = r x ∧ sat W (B x ++ F) w)) : Cn Try.prog 72 [v0] W A r B :=
 Cn.of (shape := deflate_newSet v0) Try.call72 (fun h => deflate_newSet_calls h) h
def deflate_into (v0 : Value) (Kp : PK) (K : Value → WP) : WP :=
 opN Try.prog (sBox 55 v0) Kp fun x1 =>
 opN Try.prog (sMkF (.func 102) [] [x1]) Kp fun x3 =>
 K x3
def deflate_into_an : Ann := { cuts := [], blks := [], loops := [], drs := [] }
theorem deflate_into_eq (v0 : Value) (Kp : PK) (K : Value → WP) : cevF Try.prog deflate_into_an Try.f73 [v0] Kp K = deflate_into v0 Kp K := by kernel_rfl
theorem deflate_into_calls {v0 : Value} {Kp : PK} {K : Value → WP} {w : World} (h : deflate_into v0 Kp K w) : Calls Try.prog 73 #[v0] w (after Kp K) :=
 calls_of_shape (calls_of_cev wide Try.func73 (an := deflate_into_an) (args := [v0]) (cast (congrFun (deflate_into_eq v0 Kp K) w).symm h))
theorem deflate_into_cn {v0 : Value} {W : World} {α : Type} {A : List HP} {r : α → Value} {B : α → List HP} (h : ∀ F, Ent W (A ++ F) (deflate_into v0 noP fun v w => ∃ x, v = r x ∧ sat W (B x ++ F) w)) : Cn Try.prog 73 [v0] W A r B :=
 Cn.of (shape := deflate_into v0) Try.call73 (fun h => deflate_into_calls h) h
def deflate_block_own (v0 : Value) (Kp : PK) (K : Value → WP) : WP :=
  opN Try.prog (sBox 61 v0) Kp fun x1 =>
  opN Try.prog (sAlloc 124) Kp fun x2 =>
  opN Try.prog (sAlloc 124) Kp fun x3 =>
  cut1 (fun J1 =>
   drS (andS (opN Try.prog (sMkSl 119 (.int .i64 286) (.int .i64 286)) Kp fun x9 =>
     andS (opN Try.prog (sMkSl 119 (.int .i64 30) (.int .i64 30)) Kp fun x10 =>
      stD Try.prog (sBuild 163 [(0, x9), (1, x10)]) fun D2 x11 =>
      opN Try.prog (sAlloc 163) Kp fun x4 =>
      (fun w => D2 w ∧ (opN Try.prog (sStore 163 x4 x11) Kp fun _ =>
        J1 x4) w))
     (opN Try.prog (sAlloc 163) Kp fun x4 =>
      opN Try.prog (sMkSl 119 (.int .i64 30) (.int .i64 30)) Kp fun x10 =>
      stS Try.prog (sBuild 163 [(0, x9), (1, x10)]) fun x11 =>
      opN Try.prog (sStore 163 x4 x11) Kp fun _ =>
      J1 x4))
    (andS (opN Try.prog (sMkSl 119 (.int .i64 30) (.int .i64 30)) Kp fun x10 =>
      andS (opN Try.prog (sMkSl 119 (.int .i64 286) (.int .i64 286)) Kp fun x9 =>
       stD Try.prog (sBuild 163 [(0, x9), (1, x10)]) fun D2 x11 =>
       opN Try.prog (sAlloc 163) Kp fun x4 =>
       (fun w => D2 w ∧ (opN Try.prog (sStore 163 x4 x11) Kp fun _ =>
         J1 x4) w))
      (opN Try.prog (sAlloc 163) Kp fun x4 =>
       opN Try.prog (sMkSl 119 (.int .i64 286) (.int .i64 286)) Kp fun x9 =>
       stS Try.prog (sBuild 163 [(0, x9), (1, x10)]) fun x11 =>
       opN Try.prog (sStore 163 x4 x11) Kp fun _ =>
       J1 x4))
     (opN Try.prog (sAlloc 163) Kp fun x4 =>
      andS (opN Try.prog (sMkSl 119 (.int .i64 286) (.int .i64 286)) Kp fun x9 =>
       opN Try.prog (sMkSl 119 (.int .i64 30) (.int .i64 30)) Kp fun x10 =>
       stS Try.prog (sBuild 163 [(0, x9), (1, x10)]) fun x11 =>
       opN Try.prog (sStore 163 x4 x11) Kp fun _ =>
       J1 x4)
      (opN Try.prog (sMkSl 119 (.int .i64 30) (.int .i64 30)) Kp fun x10 =>
       opN Try.prog (sMkSl 119 (.int .i64 286) (.int .i64 286)) Kp fun x9 =>
       stS Try.prog (sBuild 163 [(0, x9), (1, x10)]) fun x11 =>
       opN Try.prog (sStore 163 x4 x11) Kp fun _ =>
       J1 x4))))) fun _ z4 =>
  opN Try.prog (sLoad 61 x1) Kp fun x12 =>
  opN Try.prog (sIA 163 z4 (.int .i64 0)) Kp fun x13 =>
  opN Try.prog (sLoad 119 x13) Kp fun x14 =>
  opN Try.prog (sBuild 124 [(0, x14)]) Kp fun x15 =>
  opN Try.prog (sIA 163 z4 (.int .i64 1)) Kp fun x16 =>
  opN Try.prog (sLoad 119 x16) Kp fun x17 =>
  opN Try.prog (sBuild 124 [(0, x17)]) Kp fun x18 =>
  opN Try.prog (sCall (fn 71) [x12, x15, x18, (fn 104)]) Kp fun x19 =>
  opN Try.prog (sIA 163 z4 (.int .i64 0)) Kp fun x21 =>
  opN Try.prog (sLoad 119 x21) Kp fun x22 =>
  opN Try.prog (sCall (fn 105) [x22, (.int .i64 15)]) Kp fun x23 =>
  opN Try.prog (sExt x23 0) Kp fun x24 =>
  opN Try.prog (sExt x23 1) Kp fun x25 =>
  opN Try.prog (sIA 163 z4 (.int .i64 1)) Kp fun x27 =>
  opN Try.prog (sLoad 119 x27) Kp fun x28 =>
  opN Try.prog (sCall (fn 105) [x28, (.int .i64 15)]) Kp fun x29 =>
  opN Try.prog (sExt x29 0) Kp fun x30 =>
  opN Try.prog (sExt x29 1) Kp fun x31 =>
  opN Try.prog (sCall (fn 72) [x24]) Kp fun x33 =>
  opN Try.prog (sCall (fn 72) [x30]) Kp fun x35 =>
  opN Try.prog (sStore 124 x2 x33) Kp fun _ =>
  opN Try.prog (sStore 124 x3 x35) Kp fun _ =>
  (stS Try.prog (sRes 124 x2) fun r0 => (stS Try.prog (sRes 124 x3) fun r1 => K (.tuple #[r0, r1])))
def deflate_block_own_an : Ann := { cuts := [], blks := [], loops := [], drs := [(1, (.alt ((.op 0 0 (.alt (.ofL [(1, 0), (2, 3), (3, 0), (4, 0)]) (.ofL [(3, 0), (1, 0), (2, 1), (4, 0)])))) ((.alt ((.op 1 0 (.alt (.ofL [(0, 0), (2, 3), (3, 0), (4, 0)]) (.ofL [(3, 0), (0, 0), (2, 1), (4, 0)])))) ((.op 3 0 (.alt (.ofL [(0, 0), (1, 0), (2, 1), (4, 0)]) (.ofL [(1, 0), (0, 0), (2, 1), (4, 0)]))))))))], rcuts := [(2, [4])] }
theorem deflate_block_own_eq (v0 : Value) (Kp : PK) (K : Value → WP) : cevF Try.prog deflate_block_own_an Try.f74 [v0] Kp K = deflate_block_own v0 Kp K := by kernel_rfl
theorem deflate_block_own_calls {v0 : Value} {Kp : PK} {K : Value → WP} {w : World} (h : deflate_block_own v0 Kp K w) : Calls Try.prog 74 #[v0] w (after Kp K) :=
 calls_of_shape (calls_of_cev wide Try.func74 (an := deflate_block_own_an) (args := [v0]) (cast (congrFun (deflate_block_own_eq v0 Kp K) w).symm h))
theorem deflate_block_own_cn {v0 : Value} {W : World} {α : Type} {A : List HP} {r : α → Value} {B : α → List HP} (h : ∀ F, Ent W (A ++ F) (deflate_block_own v0 noP fun v w => ∃ x, v = r x ∧ sat W (B x ++ F) w)) : Cn Try.prog 74 [v0] W A r B :=
 Cn.of (shape := deflate_block_own v0) Try.call74 (fun h => deflate_block_own_calls h) h
def deflate_head (v0 v1 v2 : Value) (Kp : PK) (K : Value → WP) : WP :=
  opN Try.prog (sBox 55 v0) Kp fun x3 =>
  opN Try.prog (sBox 124 v1) Kp fun x4 =>
  opN Try.prog (sBox 124 v2) Kp fun x5 =>
  drS (stS Try.prog (sFA 124 x4 0) fun x23 =>
   stS Try.prog (sLoad 119 x23) fun x24 =>
   stD Try.prog (sFA 124 x5 0) fun D3 x26 =>
   stD Try.prog (sLoad 119 x26) fun D4 x27 =>
   opN Try.prog (sCall (fn 106) [x24, (.int .i64 257)]) Kp fun x25 =>
   (fun w => D4 w ∧ (fun w => D3 w ∧ (opN Try.prog (sCall (fn 106) [x27, (.int .i64 1)]) Kp fun x28 =>
      drS (stS Try.prog (sFA 124 x4 0) fun x29 =>
       stS Try.prog (sLoad 119 x29) fun x30 =>
       stS Try.prog (sSl 119 x30 none (some x25) none) fun x32 =>
       stD Try.prog (sFA 124 x5 0) fun D5 x34 =>
       stD Try.prog (sLoad 119 x34) fun D6 x35 =>
       stD Try.prog (sSl 119 x35 none (some x28) none) fun D8 x37 =>
       opN Try.prog (sApp #[119, 119] 119 [(.slice none 0 0), x32]) Kp fun x33 =>
       (fun w => D8 w ∧ (fun w => D6 w ∧ (fun w => D5 w ∧ (opN Try.prog (sApp #[119, 119] 119 [x33, x37]) Kp fun x38 =>
           opN Try.prog (sMkSl 119 (.int .i64 19) (.int .i64 19)) Kp fun x39 =>
           opN Try.prog (sAlloc 119) Kp fun x9 =>
           opN Try.prog (sStore 119 x9 x39) Kp fun _ =>
           opN Try.prog (sAlloc 3) Kp fun x10 =>
           opN Try.prog (sStore 3 x10 (.int .i64 0)) Kp fun _ =>
           opN Try.prog (sCall (fn 107) [x38]) Kp fun x41 =>
           rfS Try.prog x41 1 (fun u42 B1 N1 J1r =>
            opN Try.prog (sAlloc 170) noK fun x11 =>
            opN Try.prog (sStore 170 x11 u42) noK fun _ =>
            B1 (opN Try.prog (sLoad 119 x9) noK fun x43 =>
             opN Try.prog (sFA 170 x11 0) noK fun x44 =>
             opN Try.prog (sLoad 3 x44) noK fun x45 =>
             opN Try.prog (sIA 119 x43 x45) noK fun x46 =>
             opN Try.prog (sLoad 3 x46) noK fun x47 =>
             opN Try.prog (sBin .add 3 x47 (.int .i64 1)) noK fun x48 =>
             opN Try.prog (sIA 119 x43 x45) noK fun x49 =>
             opN Try.prog (sStore 3 x49 x48) noK fun _ =>
             opN Try.prog (sLoad 119 x9) noK fun x50 =>
             opN Try.prog (sFA 170 x11 0) noK fun x51 =>
             opN Try.prog (sLoad 3 x51) noK fun x52 =>
             opN Try.prog (sIA 119 x50 x52) noK fun x53 =>
             opN Try.prog (sLoad 3 x53) noK fun x54 =>
             opN Try.prog (sEq .eql 3 (.tmp 54) (.const (.int .i64 1)) x54 (.int .i64 1)) noK fun x55 =>
             condS x55
             (opN Try.prog (sLoad 3 x10) noK fun x56 =>
              opN Try.prog (sBin .add 3 x56 (.int .i64 1)) noK fun x57 =>
              opN Try.prog (sStore 3 x10 x57) noK fun _ =>
              N1)
             (N1))) (fun d1 =>
            cut0 (fun J1 =>
             opN Try.prog (sLoad 3 x10) (KpM [d1] Kp) fun x58 =>
             opN Try.prog (sEq .eql 3 (.tmp 58) (.const (.int .i64 1)) x58 (.int .i64 1)) (KpM [d1] Kp) fun x59 =>
             condS x59
             (cut1 (fun J2 =>
               opN Try.prog (sLoad 119 x9) (KpM [d1] Kp) fun x60 =>
               opN Try.prog (sIA 119 x60 (.int .i64 0)) (KpM [d1] Kp) fun x61 =>
               opN Try.prog (sLoad 3 x61) (KpM [d1] Kp) fun x62 =>
               opN Try.prog (sBin .gtr 3 x62 (.int .i64 0)) (KpM [d1] Kp) fun x63 =>
               condS x63
               (J2 (.int .i64 1))
               (J2 (.int .i64 0))) fun _ z12 =>
              opN Try.prog (sLoad 119 x9) (KpM [d1] Kp) fun x64 =>
              opN Try.prog (sIA 119 x64 z12) (KpM [d1] Kp) fun x66 =>
              opN Try.prog (sLoad 3 x66) (KpM [d1] Kp) fun x67 =>
              opN Try.prog (sBin .add 3 x67 (.int .i64 1)) (KpM [d1] Kp) fun x68 =>
              opN Try.prog (sIA 119 x64 z12) (KpM [d1] Kp) fun x69 =>
              opN Try.prog (sStore 3 x69 x68) (KpM [d1] Kp) fun _ =>
              J1)
             (J1)) fun _ =>
            opN Try.prog (sLoad 119 x9) (KpM [d1] Kp) fun x71 =>
            opN Try.prog (sCall (fn 105) [x71, (.int .i64 7)]) (KpM [d1] Kp) fun x72 =>
            opN Try.prog (sExt x72 0) (KpM [d1] Kp) fun x73 =>
            opN Try.prog (sExt x72 1) (KpM [d1] Kp) fun x74 =>
            opN Try.prog (sCall (fn 72) [x73]) (KpM [d1] Kp) fun x76 =>
            opN Try.prog (sAlloc 124) (KpM [d1] Kp) fun x15 =>
            opN Try.prog (sStore 124 x15 x76) (KpM [d1] Kp) fun _ =>
            opN Try.prog (sBuild 148 [(0, (.int .i64 16)), (1, (.int .i64 17)), (2, (.int .i64 18)), (3, (.int .i64 0)), (4, (.int .i64 8)), (5, (.int .i64 7)), (6, (.int .i64 9)), (7, (.int .i64 6)), (8, (.int .i64 10)), (9, (.int .i64 5)), (10, (.int .i64 11)), (11, (.int .i64 4)), (12, (.int .i64 12)), (13, (.int .i64 3)), (14, (.int .i64 13)), (15, (.int .i64 2)), (16, (.int .i64 14)), (17, (.int .i64 1)), (18, (.int .i64 15))]) (KpM [d1] Kp) fun x77 =>
            loop2 (fun I1 m1 _ y16 y78 =>
             opN Try.prog (sBin .lss 3 y78 (.int .i64 19)) (KpM [d1] Kp) fun x79 =>
             condS x79
             (opN Try.prog (sIx 148 x77 y78) (KpM [d1] Kp) fun x80 =>
              opN Try.prog (sIA 119 x73 x80) (KpM [d1] Kp) fun x84 =>
              opN Try.prog (sLoad 3 x84) (KpM [d1] Kp) fun x85 =>
              opN Try.prog (sBuildSl 119 1 [(0, x85)]) (KpM [d1] Kp) fun x86 =>
              opN Try.prog (sApp #[119, 119] 119 [y16, x86]) (KpM [d1] Kp) fun x87 =>
              opN Try.prog (sBin .add 3 y78 (.int .i64 1)) (KpM [d1] Kp) fun x88 =>
              next2 I1 m1 x87 x88)
             (opN Try.prog (sCall (fn 106) [y16, (.int .i64 4)]) (KpM [d1] Kp) fun x90 =>
              opN Try.prog (sLoad 55 x3) (KpM [d1] Kp) fun x91 =>
              opN Try.prog (sBin .sub 3 x25 (.int .i64 257)) (KpM [d1] Kp) fun x93 =>
              opN Try.prog (sCall (fn 35) [x91, x93, (.int .i64 5)]) (KpM [d1] Kp) fun x94 =>
              opN Try.prog (sLoad 55 x3) (KpM [d1] Kp) fun x95 =>
              opN Try.prog (sBin .sub 3 x28 (.int .i64 1)) (KpM [d1] Kp) fun x97 =>
              opN Try.prog (sCall (fn 35) [x95, x97, (.int .i64 5)]) (KpM [d1] Kp) fun x98 =>
              opN Try.prog (sLoad 55 x3) (KpM [d1] Kp) fun x99 =>
              opN Try.prog (sBin .sub 3 x90 (.int .i64 4)) (KpM [d1] Kp) fun x101 =>
              opN Try.prog (sCall (fn 35) [x99, x101, (.int .i64 4)]) (KpM [d1] Kp) fun x102 =>
              opN Try.prog (sSl 119 y16 none (some x90) none) (KpM [d1] Kp) fun x105 =>
              opN Try.prog (sLen #[119] 3 [x105]) (KpM [d1] Kp) fun x106 =>
              loop1 (fun I2 m2 _ y107 =>
               opN Try.prog (sBin .lss 3 y107 x106) (KpM [d1] Kp) fun x108 =>
               condS x108
               (opN Try.prog (sIA 119 x105 y107) (KpM [d1] Kp) fun x109 =>
                opN Try.prog (sLoad 3 x109) (KpM [d1] Kp) fun x110 =>
                opN Try.prog (sLoad 55 x3) (KpM [d1] Kp) fun x111 =>
                opN Try.prog (sCall (fn 35) [x111, x110, (.int .i64 3)]) (KpM [d1] Kp) fun x113 =>
                opN Try.prog (sBin .add 3 y107 (.int .i64 1)) (KpM [d1] Kp) fun x114 =>
                next1 I2 m2 x114)
               (opN Try.prog (sCall (fn 107) [x38]) (KpM [d1] Kp) fun x116 =>
                rfS Try.prog x116 1 (fun u117 B2 N2 J2r =>
                 opN Try.prog (sAlloc 170) noK fun x22 =>
                 opN Try.prog (sStore 170 x22 u117) noK fun _ =>
                 B2 (opN Try.prog (sLoad 55 x3) noK fun x118 =>
                  opN Try.prog (sFA 124 x15 1) noK fun x119 =>
                  opN Try.prog (sLoad 119 x119) noK fun x120 =>
                  opN Try.prog (sFA 124 x15 0) noK fun x121 =>
                  opN Try.prog (sLoad 119 x121) noK fun x122 =>
                  opN Try.prog (sFA 170 x22 0) noK fun x123 =>
                  opN Try.prog (sLoad 3 x123) noK fun x124 =>
                  opN Try.prog (sCall (fn 103) [x118, x120, x122, x124]) noK fun x125 =>
                  opN Try.prog (sLoad 55 x3) noK fun x126 =>
                  opN Try.prog (sFA 170 x22 2) noK fun x127 =>
                  opN Try.prog (sLoad 3 x127) noK fun x128 =>
                  opN Try.prog (sFA 170 x22 1) noK fun x129 =>
                  opN Try.prog (sLoad 3 x129) noK fun x130 =>
                  opN Try.prog (sCall (fn 35) [x126, x128, x130]) noK fun x131 =>
                  N2)) (fun d2 =>
                 (tkS d2 (tkS d1 (K (.tuple #[]))))) (fun d2 => (tkS d2 (tkS d1 (K (.tuple #[]))))) (fun d2 ch => (tkS d2 (tkS d1 (Kp ch)))))) (.int .i64 0))) (.slice none 0 0) (.int .i64 0)) (fun d1 => (tkS d1 (K (.tuple #[])))) (fun d1 ch => (tkS d1 (Kp ch)))) w) w) w))) w) w))
def deflate_head_an : Ann := { cuts := [(14, [12]), (15, [])], blks := [], loops := [(19, [16, 78]), (28, [107])], drs := [(1, .ofL [(0, 1), (1, 1), (3, 3), (4, 3), (2, 0), (5, 0), (6, 1), (7, 1)]), (2, .ofL [(0, 1), (1, 1), (2, 1), (3, 1), (5, 3), (6, 3), (7, 2), (8, 3), (4, 0), (9, 0), (10, 1)])] }
theorem deflate_head_eq (v0 v1 v2 : Value) (Kp : PK) (K : Value → WP) : cevFT Try.prog deflate_head_an Try.f75 [v0, v1, v2] Kp K = deflate_head v0 v1 v2 Kp K := by kernel_rfl
theorem deflate_head_calls {v0 v1 v2 : Value} {Kp : PK} {K : Value → WP} {w : World} (h : deflate_head v0 v1 v2 Kp K w) : Calls Try.prog 75 #[v0, v1, v2] w (after Kp K) :=
 calls_of_shape (calls_of_cevT wide Try.func75 (an := deflate_head_an) (args := [v0, v1, v2]) (cast (congrFun (deflate_head_eq v0 v1 v2 Kp K) w).symm h))
theorem deflate_head_cn {v0 v1 v2 : Value} {W : World} {α : Type} {A : List HP} {r : α → Value} {B : α → List HP} (h : ∀ F, Ent W (A ++ F) (deflate_head v0 v1 v2 noP fun v w => ∃ x, v = r x ∧ sat W (B x ++ F) w)) : Cn Try.prog 75 [v0, v1, v2] W A r B :=
 Cn.of (shape := deflate_head v0 v1 v2) Try.call75 (fun h => deflate_head_calls h) h
def ref04_Pieces (v0 v1 v2 : Value) (Kp : PK) (K : Value → WP) : WP :=
  opN Try.prog (sBin .lss 3 v1 (.int .i64 1)) Kp fun x12 =>
  gdK x12 false (fun k => k v1) fun x14 =>
  gdK x12 false (opN Try.prog (sBin .gtr 3 x14 (.int .i64 32768)) Kp) fun x15 =>
  opN Try.prog (sPick x12 (.bool true) x15) Kp fun x16 =>
  gdK x16 false (fun k => k v2) fun x18 =>
  gdK x16 false (opN Try.prog (sBin .lss 3 x18 (.int .i64 0)) Kp) fun x19 =>
  opN Try.prog (sPick x16 (.bool true) x19) Kp fun x20 =>
  gdK x20 false (fun k => k v2) fun x22 =>
  gdK x20 false (opN Try.prog (sBin .gtr 3 x22 (.int .i64 4096)) Kp) fun x23 =>
  opN Try.prog (sPick x20 (.bool true) x23) Kp fun x24 =>
  condS x24
  (K (.tuple #[(.slice none 0 0), (.int .i64 1)]))
  (opN Try.prog (sLen #[22] 3 [v0]) Kp fun x26 =>
   opN Try.prog (sBin .gtr 3 x26 (.int .i64 1048576)) Kp fun x27 =>
   condS x27
   (K (.tuple #[(.slice none 0 0), (.int .i64 6)]))
   (loop2 (fun I1 m1 _ y8 y9 =>
     opN Try.prog (sLen #[22] 3 [v0]) Kp fun x30 =>
     opN Try.prog (sBin .lss 3 y9 x30) Kp fun x31 =>
     condS x31
     (opN Try.prog (sCall (fn 108) [v0, y9, v1, v2]) Kp fun x36 =>
      opN Try.prog (sAlloc 97) Kp fun x10 =>
      opN Try.prog (sStore 97 x10 x36) Kp fun _ =>
      opN Try.prog (sLoad 97 x10) Kp fun x38 =>
      opN Try.prog (sBuildSl 70 1 [(0, x38)]) Kp fun x39 =>
      opN Try.prog (sApp #[70, 70] 70 [y8, x39]) Kp fun x40 =>
      opN Try.prog (sFA 97 x10 0) Kp fun x42 =>
      opN Try.prog (sLoad 3 x42) Kp fun x43 =>
      opN Try.prog (sMax #[3, 3] 3 [(.int .i64 1), x43]) Kp fun x44 =>
      opN Try.prog (sBin .add 3 y9 x44) Kp fun x45 =>
      next2 I1 m1 x40 x45)
     (K (.tuple #[y8, (.int .i64 0)]))) (.slice none 0 0) (.int .i64 0)))
def ref04_Pieces_an : Ann := { cuts := [], blks := [], loops := [(7, [8, 9])], drs := [] }
theorem ref04_Pieces_eq (v0 v1 v2 : Value) (Kp : PK) (K : Value → WP) : cevF Try.prog ref04_Pieces_an Try.f76 [v0, v1, v2] Kp K = ref04_Pieces v0 v1 v2 Kp K := by kernel_rfl
theorem ref04_Pieces_calls {v0 v1 v2 : Value} {Kp : PK} {K : Value → WP} {w : World} (h : ref04_Pieces v0 v1 v2 Kp K w) : Calls Try.prog 76 #[v0, v1, v2] w (after Kp K) :=
 calls_of_shape (calls_of_cev wide Try.func76 (an := ref04_Pieces_an) (args := [v0, v1, v2]) (cast (congrFun (ref04_Pieces_eq v0 v1 v2 Kp K) w).symm h))
theorem ref04_Pieces_cn {v0 v1 v2 : Value} {W : World} {α : Type} {A : List HP} {r : α → Value} {B : α → List HP} (h : ∀ F, Ent W (A ++ F) (ref04_Pieces v0 v1 v2 noP fun v w => ∃ x, v = r x ∧ sat W (B x ++ F) w)) : Cn Try.prog 76 [v0, v1, v2] W A r B :=
 Cn.of (shape := ref04_Pieces v0 v1 v2) Try.call76 (fun h => ref04_Pieces_calls h) h
def ref05_Fixed (Kp : PK) (K : Value → WP) : WP :=
  loop2 (fun I1 m1 _ y2 y4 =>
   opN Try.prog (sBin .lss 3 y4 (.int .i64 288)) Kp fun x8 =>
   condS x8
   (cut1 (fun J1 =>
     opN Try.prog (sBin .geq 3 y4 (.int .i64 144)) Kp fun x12 =>
     gdK x12 true (fun k => k y4) fun x14 =>
     gdK x12 true (opN Try.prog (sBin .lss 3 x14 (.int .i64 256)) Kp) fun x15 =>
     opN Try.prog (sPick x12 x15 (.bool false)) Kp fun x16 =>
     condS x16
     (J1 (.int .i64 9))
     (J1 (.int .i64 8))) fun _ z5 =>
    cut1 (fun J2 =>
     opN Try.prog (sBin .geq 3 y4 (.int .i64 256)) Kp fun x18 =>
     gdK x18 true (fun k => k y4) fun x20 =>
     gdK x18 true (opN Try.prog (sBin .lss 3 x20 (.int .i64 280)) Kp) fun x21 =>
     opN Try.prog (sPick x18 x21 (.bool false)) Kp fun x22 =>
     condS x22
     (J2 (.int .i64 7))
     (J2 z5)) fun _ z5 =>
    opN Try.prog (sBuildSl 119 1 [(0, z5)]) Kp fun x25 =>
    opN Try.prog (sApp #[119, 119] 119 [y2, x25]) Kp fun x26 =>
    opN Try.prog (sBin .add 3 y4 (.int .i64 1)) Kp fun x10 =>
    next2 I1 m1 x26 x10)
   (loop2 (fun I2 m2 _ y3 y6 =>
     opN Try.prog (sBin .lss 3 y6 (.int .i64 32)) Kp fun x28 =>
     condS x28
     (opN Try.prog (sBuildSl 119 1 [(0, (.int .i64 5))]) Kp fun x32 =>
      opN Try.prog (sApp #[119, 119] 119 [y3, x32]) Kp fun x33 =>
      opN Try.prog (sBin .add 3 y6 (.int .i64 1)) Kp fun x30 =>
      next2 I2 m2 x33 x30)
     (K (.tuple #[y2, y3]))) (.slice none 0 0) (.int .i64 0))) (.slice none 0 0) (.int .i64 0)
def ref05_Fixed_an : Ann := { cuts := [(9, [5]), (11, [5])], blks := [], loops := [(4, [2, 4]), (13, [3, 6])], drs := [] }
theorem ref05_Fixed_eq (Kp : PK) (K : Value → WP) : cevF Try.prog ref05_Fixed_an Try.f77 [] Kp K = ref05_Fixed Kp K := by kernel_rfl
theorem ref05_Fixed_calls  {Kp : PK} {K : Value → WP} {w : World} (h : ref05_Fixed Kp K w) : Calls Try.prog 77 #[] w (after Kp K) :=
 calls_of_shape (calls_of_cev wide Try.func77 (an := ref05_Fixed_an) (args := []) (cast (congrFun (ref05_Fixed_eq Kp K) w).symm h))
theorem ref05_Fixed_cn  {W : World} {α : Type} {A : List HP} {r : α → Value} {B : α → List HP} (h : ∀ F, Ent W (A ++ F) (ref05_Fixed noP fun v w => ∃ x, v = r x ∧ sat W (B x ++ F) w)) : Cn Try.prog 77 [] W A r B :=
 Cn.of (shape := ref05_Fixed) Try.call77 (fun h => ref05_Fixed_calls h) h
def ref06_symbols (v0 v1 v2 v3 : Value) (Kp : PK) (K : Value → WP) : WP :=
  opN Try.prog (sBox 72 v1) Kp fun x5 =>
  opN Try.prog (sCall (fn 109) [v2]) Kp fun x21 =>
  opN Try.prog (sExt x21 0) Kp fun x22 =>
  opN Try.prog (sExt x21 1) Kp fun x23 =>
  opN Try.prog (sCall (fn 109) [v3]) Kp fun x26 =>
  opN Try.prog (sExt x26 0) Kp fun x27 =>
  opN Try.prog (sExt x26 1) Kp fun x28 =>
  loop1 (fun I1 m1 _ y12 =>
   opN Try.prog (sFA 72 x5 0) Kp fun x30 =>
   opN Try.prog (sLoad 70 x30) Kp fun x31 =>
   opN Try.prog (sLen #[70] 3 [x31]) Kp fun x32 =>
   opN Try.prog (sBin .lss 3 y12 x32) Kp fun x33 =>
   condS x33
   (opN Try.prog (sFA 72 x5 0) Kp fun x36 =>
    opN Try.prog (sLoad 70 x36) Kp fun x37 =>
    opN Try.prog (sIA 70 x37 y12) Kp fun x39 =>
    opN Try.prog (sFA 97 x39 0) Kp fun x40 =>
    opN Try.prog (sLoad 3 x40) Kp fun x41 =>
    opN Try.prog (sEq .eql 3 (.tmp 41) (.const (.int .i64 0)) x41 (.int .i64 0)) Kp fun x42 =>
    condS x42
    (opN Try.prog (sFA 72 x5 0) Kp fun x46 =>
     opN Try.prog (sLoad 70 x46) Kp fun x47 =>
     opN Try.prog (sIA 70 x47 y12) Kp fun x49 =>
     opN Try.prog (sFA 97 x49 2) Kp fun x50 =>
     opN Try.prog (sLoad 5 x50) Kp fun x51 =>
     opN Try.prog (sConv 5 3 x51) Kp fun x52 =>
     opN Try.prog (sCall (fn 110) [v0, x22, v2, x52]) Kp fun x53 =>
     opN Try.prog (sBin .add 3 y12 (.int .i64 1)) Kp fun x35 =>
     next1 I1 m1 x35)
    (opN Try.prog (sFA 72 x5 0) Kp fun x55 =>
     opN Try.prog (sLoad 70 x55) Kp fun x56 =>
     opN Try.prog (sIA 70 x56 y12) Kp fun x58 =>
     opN Try.prog (sFA 97 x58 0) Kp fun x59 =>
     opN Try.prog (sLoad 3 x59) Kp fun x60 =>
     opN Try.prog (sCall (fn 111) [x60]) Kp fun x61 =>
     opN Try.prog (sExt x61 0) Kp fun x62 =>
     opN Try.prog (sExt x61 1) Kp fun x63 =>
     opN Try.prog (sExt x61 2) Kp fun x64 =>
     opN Try.prog (sFA 72 x5 0) Kp fun x66 =>
     opN Try.prog (sLoad 70 x66) Kp fun x67 =>
     opN Try.prog (sIA 70 x67 y12) Kp fun x69 =>
     opN Try.prog (sFA 97 x69 1) Kp fun x70 =>
     opN Try.prog (sLoad 3 x70) Kp fun x71 =>
     opN Try.prog (sCall (fn 112) [x71]) Kp fun x72 =>
     opN Try.prog (sExt x72 0) Kp fun x73 =>
     opN Try.prog (sExt x72 1) Kp fun x74 =>
     opN Try.prog (sExt x72 2) Kp fun x75 =>
     opN Try.prog (sCall (fn 110) [v0, x22, v2, x62]) Kp fun x80 =>
     opN Try.prog (sCall (fn 53) [v0, x64, x63]) Kp fun x84 =>
     opN Try.prog (sCall (fn 110) [v0, x27, v3, x73]) Kp fun x89 =>
     opN Try.prog (sCall (fn 53) [v0, x75, x74]) Kp fun x93 =>
     opN Try.prog (sBin .add 3 y12 (.int .i64 1)) Kp fun x35 =>
     next1 I1 m1 x35))
   (opN Try.prog (sCall (fn 110) [v0, x22, v2, (.int .i64 256)]) Kp fun x97 =>
    K (.tuple #[]))) (.int .i64 0)
def ref06_symbols_an : Ann := { cuts := [], blks := [], loops := [(4, [12])], drs := [] }
theorem ref06_symbols_eq (v0 v1 v2 v3 : Value) (Kp : PK) (K : Value → WP) : cevF Try.prog ref06_symbols_an Try.f78 [v0, v1, v2, v3] Kp K = ref06_symbols v0 v1 v2 v3 Kp K := by kernel_rfl
theorem ref06_symbols_calls {v0 v1 v2 v3 : Value} {Kp : PK} {K : Value → WP} {w : World} (h : ref06_symbols v0 v1 v2 v3 Kp K w) : Calls Try.prog 78 #[v0, v1, v2, v3] w (after Kp K) :=
 calls_of_shape (calls_of_cev wide Try.func78 (an := ref06_symbols_an) (args := [v0, v1, v2, v3]) (cast (congrFun (ref06_symbols_eq v0 v1 v2 v3 Kp K) w).symm h))
theorem ref06_symbols_cn {v0 v1 v2 v3 : Value} {W : World} {α : Type} {A : List HP} {r : α → Value} {B : α → List HP} (h : ∀ F, Ent W (A ++ F) (ref06_symbols v0 v1 v2 v3 noP fun v w => ∃ x, v = r x ∧ sat W (B x ++ F) w)) : Cn Try.prog 78 [v0, v1, v2, v3] W A r B :=
 Cn.of (shape := ref06_symbols v0 v1 v2 v3) Try.call78 (fun h => ref06_symbols_calls h) h
def ref06_own (v0 : Value) (Kp : PK) (K : Value → WP) : WP :=
  opN Try.prog (sBox 72 v0) Kp fun x1 =>
  opN Try.prog (sMkSl 119 (.int .i64 286) (.int .i64 286)) Kp fun x17 =>
  opN Try.prog (sMkSl 119 (.int .i64 30) (.int .i64 30)) Kp fun x18 =>
  opN Try.prog (sIA 119 x17 (.int .i64 256)) Kp fun x20 =>
  opN Try.prog (sStore 3 x20 (.int .i64 1)) Kp fun _ =>
  loop1 (fun I1 m1 _ y6 =>
   opN Try.prog (sFA 72 x1 0) Kp fun x22 =>
   opN Try.prog (sLoad 70 x22) Kp fun x23 =>
   opN Try.prog (sLen #[70] 3 [x23]) Kp fun x24 =>
   opN Try.prog (sBin .lss 3 y6 x24) Kp fun x25 =>
   condS x25
   (opN Try.prog (sFA 72 x1 0) Kp fun x28 =>
    opN Try.prog (sLoad 70 x28) Kp fun x29 =>
    opN Try.prog (sIA 70 x29 y6) Kp fun x31 =>
    opN Try.prog (sFA 97 x31 0) Kp fun x32 =>
    opN Try.prog (sLoad 3 x32) Kp fun x33 =>
    opN Try.prog (sEq .eql 3 (.tmp 33) (.const (.int .i64 0)) x33 (.int .i64 0)) Kp fun x34 =>
    condS x34
    (opN Try.prog (sFA 72 x1 0) Kp fun x36 =>
     opN Try.prog (sLoad 70 x36) Kp fun x37 =>
     opN Try.prog (sIA 70 x37 y6) Kp fun x39 =>
     opN Try.prog (sFA 97 x39 2) Kp fun x40 =>
     opN Try.prog (sLoad 5 x40) Kp fun x41 =>
     opN Try.prog (sIA 119 x17 x41) Kp fun x42 =>
     opN Try.prog (sLoad 3 x42) Kp fun x43 =>
     opN Try.prog (sBin .add 3 x43 (.int .i64 1)) Kp fun x44 =>
     opN Try.prog (sIA 119 x17 x41) Kp fun x45 =>
     opN Try.prog (sStore 3 x45 x44) Kp fun _ =>
     opN Try.prog (sBin .add 3 y6 (.int .i64 1)) Kp fun x27 =>
     next1 I1 m1 x27)
    (opN Try.prog (sFA 72 x1 0) Kp fun x47 =>
     opN Try.prog (sLoad 70 x47) Kp fun x48 =>
     opN Try.prog (sIA 70 x48 y6) Kp fun x50 =>
     opN Try.prog (sFA 97 x50 0) Kp fun x51 =>
     opN Try.prog (sLoad 3 x51) Kp fun x52 =>
     opN Try.prog (sCall (fn 111) [x52]) Kp fun x53 =>
     opN Try.prog (sExt x53 0) Kp fun x54 =>
     opN Try.prog (sExt x53 1) Kp fun x55 =>
     opN Try.prog (sExt x53 2) Kp fun x56 =>
     opN Try.prog (sFA 72 x1 0) Kp fun x58 =>
     opN Try.prog (sLoad 70 x58) Kp fun x59 =>
     opN Try.prog (sIA 70 x59 y6) Kp fun x61 =>
     opN Try.prog (sFA 97 x61 1) Kp fun x62 =>
     opN Try.prog (sLoad 3 x62) Kp fun x63 =>
     opN Try.prog (sCall (fn 112) [x63]) Kp fun x64 =>
     opN Try.prog (sExt x64 0) Kp fun x65 =>
     opN Try.prog (sExt x64 1) Kp fun x66 =>
     opN Try.prog (sExt x64 2) Kp fun x67 =>
     opN Try.prog (sIA 119 x17 x54) Kp fun x70 =>
     opN Try.prog (sLoad 3 x70) Kp fun x71 =>
     opN Try.prog (sBin .add 3 x71 (.int .i64 1)) Kp fun x72 =>
     opN Try.prog (sIA 119 x17 x54) Kp fun x73 =>
     opN Try.prog (sStore 3 x73 x72) Kp fun _ =>
     opN Try.prog (sIA 119 x18 x65) Kp fun x76 =>
     opN Try.prog (sLoad 3 x76) Kp fun x77 =>
     opN Try.prog (sBin .add 3 x77 (.int .i64 1)) Kp fun x78 =>
     opN Try.prog (sIA 119 x18 x65) Kp fun x79 =>
     opN Try.prog (sStore 3 x79 x78) Kp fun _ =>
     opN Try.prog (sBin .add 3 y6 (.int .i64 1)) Kp fun x27 =>
     next1 I1 m1 x27))
   (opN Try.prog (sCall (fn 113) [x17, (.int .i64 15)]) Kp fun x82 =>
    opN Try.prog (sExt x82 0) Kp fun x83 =>
    opN Try.prog (sExt x82 1) Kp fun x84 =>
    opN Try.prog (sCall (fn 113) [x18, (.int .i64 15)]) Kp fun x87 =>
    opN Try.prog (sExt x87 0) Kp fun x88 =>
    opN Try.prog (sExt x87 1) Kp fun x89 =>
    K (.tuple #[x83, x88]))) (.int .i64 0)
def ref06_own_an : Ann := { cuts := [], blks := [], loops := [(5, [6])], drs := [] }
theorem ref06_own_eq (v0 : Value) (Kp : PK) (K : Value → WP) : cevF Try.prog ref06_own_an Try.f79 [v0] Kp K = ref06_own v0 Kp K := by kernel_rfl
theorem ref06_own_calls {v0 : Value} {Kp : PK} {K : Value → WP} {w : World} (h : ref06_own v0 Kp K w) : Calls Try.prog 79 #[v0] w (after Kp K) :=
 calls_of_shape (calls_of_cev wide Try.func79 (an := ref06_own_an) (args := [v0]) (cast (congrFun (ref06_own_eq v0 Kp K) w).symm h))
theorem ref06_own_cn {v0 : Value} {W : World} {α : Type} {A : List HP} {r : α → Value} {B : α → List HP} (h : ∀ F, Ent W (A ++ F) (ref06_own v0 noP fun v w => ∃ x, v = r x ∧ sat W (B x ++ F) w)) : Cn Try.prog 79 [v0] W A r B :=
 Cn.of (shape := ref06_own v0) Try.call79 (fun h => ref06_own_calls h) h
def ref06_head (v0 v1 v2 : Value) (Kp : PK) (K : Value → WP) : WP :=
  opN Try.prog (sCall (fn 114) [v1, (.int .i64 257)]) Kp fun x23 =>
  opN Try.prog (sCall (fn 114) [v2, (.int .i64 1)]) Kp fun x25 =>
  drS (stD Try.prog (sSl 119 v1 none (some x23) none) fun D3 x29 =>
   stD Try.prog (sSl 119 v2 none (some x25) none) fun D7 x33 =>
   opN Try.prog (sBuildSl 119 0 []) Kp fun x26 =>
   (fun w => D7 w ∧ (fun w => D3 w ∧ (opN Try.prog (sApp #[119, 119] 119 [x26, x29]) Kp fun x30 =>
      (fun w => D7 w ∧ (opN Try.prog (sApp #[119, 119] 119 [x30, x33]) Kp fun x34 =>
        opN Try.prog (sCall (fn 115) [x34]) Kp fun x35 =>
        opN Try.prog (sMkSl 119 (.int .i64 19) (.int .i64 19)) Kp fun x36 =>
        loop2 (fun I1 m1 _ y10 y11 =>
         opN Try.prog (sLen #[176] 3 [x35]) Kp fun x39 =>
         opN Try.prog (sBin .lss 3 y11 x39) Kp fun x40 =>
         condS x40
         (cut1 (fun J1 =>
           opN Try.prog (sIA 176 x35 y11) Kp fun x46 =>
           opN Try.prog (sFA 179 x46 0) Kp fun x47 =>
           opN Try.prog (sLoad 3 x47) Kp fun x48 =>
           opN Try.prog (sIA 119 x36 x48) Kp fun x49 =>
           opN Try.prog (sLoad 3 x49) Kp fun x50 =>
           opN Try.prog (sEq .eql 3 (.tmp 50) (.const (.int .i64 0)) x50 (.int .i64 0)) Kp fun x51 =>
           condS x51
           (opN Try.prog (sBin .add 3 y10 (.int .i64 1)) Kp fun x53 =>
            J1 x53)
           (J1 y10)) fun _ z10 =>
          opN Try.prog (sIA 176 x35 y11) Kp fun x57 =>
          opN Try.prog (sFA 179 x57 0) Kp fun x58 =>
          opN Try.prog (sLoad 3 x58) Kp fun x59 =>
          opN Try.prog (sIA 119 x36 x59) Kp fun x60 =>
          opN Try.prog (sLoad 3 x60) Kp fun x61 =>
          opN Try.prog (sBin .add 3 x61 (.int .i64 1)) Kp fun x62 =>
          opN Try.prog (sIA 119 x36 x59) Kp fun x63 =>
          opN Try.prog (sStore 3 x63 x62) Kp fun _ =>
          opN Try.prog (sBin .add 3 y11 (.int .i64 1)) Kp fun x42 =>
          next2 I1 m1 z10 x42)
         (cut0 (fun J2 =>
           opN Try.prog (sEq .eql 3 (.tmp 64) (.const (.int .i64 1)) y10 (.int .i64 1)) Kp fun x65 =>
           gdK x65 true (fun k => k x36) fun x67 =>
           gdK x65 true (opN Try.prog (sIA 119 x67 (.int .i64 0)) Kp) fun x68 =>
           gdK x65 true (opN Try.prog (sLoad 3 x68) Kp) fun x69 =>
           gdK x65 true (opN Try.prog (sEq .eql 3 (.tmp 69) (.const (.int .i64 0)) x69 (.int .i64 0)) Kp) fun x70 =>
           opN Try.prog (sPick x65 x70 (.bool false)) Kp fun x71 =>
           condS x71
           (opN Try.prog (sIA 119 x36 (.int .i64 0)) Kp fun x73 =>
            opN Try.prog (sStore 3 x73 (.int .i64 1)) Kp fun _ =>
            J2)
           (opN Try.prog (sEq .eql 3 (.tmp 74) (.const (.int .i64 1)) y10 (.int .i64 1)) Kp fun x75 =>
            condS x75
            (opN Try.prog (sIA 119 x36 (.int .i64 1)) Kp fun x77 =>
             opN Try.prog (sStore 3 x77 (.int .i64 1)) Kp fun _ =>
             J2)
            (J2))) fun _ =>
          opN Try.prog (sCall (fn 113) [x36, (.int .i64 7)]) Kp fun x80 =>
          opN Try.prog (sExt x80 0) Kp fun x81 =>
          opN Try.prog (sExt x80 1) Kp fun x82 =>
          opN Try.prog (sCall (fn 109) [x81]) Kp fun x85 =>
          opN Try.prog (sExt x85 0) Kp fun x86 =>
          opN Try.prog (sExt x85 1) Kp fun x87 =>
          opN Try.prog (sCall (fn 116) []) Kp fun x88 =>
          loop2 (fun I2 m2 _ y17 y18 =>
           opN Try.prog (sBin .lss 3 y18 (.int .i64 19)) Kp fun x90 =>
           condS x90
           (opN Try.prog (sIA 119 x88 y18) Kp fun x97 =>
            opN Try.prog (sLoad 3 x97) Kp fun x98 =>
            opN Try.prog (sIA 119 x81 x98) Kp fun x99 =>
            opN Try.prog (sLoad 3 x99) Kp fun x100 =>
            opN Try.prog (sBuildSl 119 1 [(0, x100)]) Kp fun x101 =>
            opN Try.prog (sApp #[119, 119] 119 [y17, x101]) Kp fun x102 =>
            opN Try.prog (sBin .add 3 y18 (.int .i64 1)) Kp fun x92 =>
            next2 I2 m2 x102 x92)
           (opN Try.prog (sCall (fn 114) [y17, (.int .i64 4)]) Kp fun x104 =>
            opN Try.prog (sBin .sub 3 x23 (.int .i64 257)) Kp fun x107 =>
            opN Try.prog (sCall (fn 53) [v0, x107, (.int .i64 5)]) Kp fun x108 =>
            opN Try.prog (sBin .sub 3 x25 (.int .i64 1)) Kp fun x111 =>
            opN Try.prog (sCall (fn 53) [v0, x111, (.int .i64 5)]) Kp fun x112 =>
            opN Try.prog (sBin .sub 3 x104 (.int .i64 4)) Kp fun x115 =>
            opN Try.prog (sCall (fn 53) [v0, x115, (.int .i64 4)]) Kp fun x116 =>
            loop1 (fun I3 m3 _ y20 =>
             opN Try.prog (sBin .lss 3 y20 x104) Kp fun x119 =>
             condS x119
             (opN Try.prog (sIA 119 y17 y20) Kp fun x125 =>
              opN Try.prog (sLoad 3 x125) Kp fun x126 =>
              opN Try.prog (sCall (fn 53) [v0, x126, (.int .i64 3)]) Kp fun x127 =>
              opN Try.prog (sBin .add 3 y20 (.int .i64 1)) Kp fun x121 =>
              next1 I3 m3 x121)
             (loop1 (fun I4 m4 _ y21 =>
               opN Try.prog (sLen #[176] 3 [x35]) Kp fun x130 =>
               opN Try.prog (sBin .lss 3 y21 x130) Kp fun x131 =>
               condS x131
               (opN Try.prog (sIA 176 x35 y21) Kp fun x139 =>
                opN Try.prog (sFA 179 x139 0) Kp fun x140 =>
                opN Try.prog (sLoad 3 x140) Kp fun x141 =>
                opN Try.prog (sCall (fn 110) [v0, x86, x81, x141]) Kp fun x142 =>
                drS (stS Try.prog (sIA 176 x35 y21) fun x146 =>
                 stS Try.prog (sFA 179 x146 2) fun x147 =>
                 stS Try.prog (sLoad 3 x147) fun x148 =>
                 stS Try.prog (sIA 176 x35 y21) fun x151 =>
                 stS Try.prog (sFA 179 x151 1) fun x152 =>
                 stS Try.prog (sLoad 3 x152) fun x153 =>
                 opN Try.prog (sCall (fn 53) [v0, x148, x153]) Kp fun x154 =>
                 opN Try.prog (sBin .add 3 y21 (.int .i64 1)) Kp fun x133 =>
                 next1 I4 m4 x133))
               (K (.tuple #[]))) (.int .i64 0))) (.int .i64 0))) (.slice none 0 0) (.int .i64 0))) (.int .i64 0) (.int .i64 0)) w)) w) w))
def ref06_head_an : Ann := { cuts := [(10, [10]), (15, [])], blks := [], loops := [(6, [10, 11]), (20, [17, 18]), (28, [20]), (32, [21])], drs := [(2, .ofL [(1, 2), (2, 2), (3, 3), (5, 2), (6, 2), (7, 3), (0, 0), (4, 0), (8, 0), (9, 0), (10, 1)]), (35, .ofL [(0, 1), (1, 1), (2, 1), (3, 1), (4, 1), (5, 1), (6, 1), (7, 1), (8, 1), (9, 1), (10, 1), (11, 0)])] }
theorem ref06_head_eq (v0 v1 v2 : Value) (Kp : PK) (K : Value → WP) : cevF Try.prog ref06_head_an Try.f80 [v0, v1, v2] Kp K = ref06_head v0 v1 v2 Kp K := by kernel_rfl
theorem ref06_head_calls {v0 v1 v2 : Value} {Kp : PK} {K : Value → WP} {w : World} (h : ref06_head v0 v1 v2 Kp K w) : Calls Try.prog 80 #[v0, v1, v2] w (after Kp K) :=
 calls_of_shape (calls_of_cev wide Try.func80 (an := ref06_head_an) (args := [v0, v1, v2]) (cast (congrFun (ref06_head_eq v0 v1 v2 Kp K) w).symm h))
theorem ref06_head_cn {v0 v1 v2 : Value} {W : World} {α : Type} {A : List HP} {r : α → Value} {B : α → List HP} (h : ∀ F, Ent W (A ++ F) (ref06_head v0 v1 v2 noP fun v w => ∃ x, v = r x ∧ sat W (B x ++ F) w)) : Cn Try.prog 80 [v0, v1, v2] W A r B :=
 Cn.of (shape := ref06_head v0 v1 v2) Try.call80 (fun h => ref06_head_calls h) h
def ref02_Writer_Align (v0 : Value) (Kp : PK) (K : Value → WP) : WP :=
  loop0 (fun I1 m1 _  =>
   opN Try.prog (sNil v0) Kp fun x3 =>
   opN Try.prog (sFA 66 x3 0) Kp fun x4 =>
   opN Try.prog (sLoad 22 x4) Kp fun x5 =>
   opN Try.prog (sLen #[22] 3 [x5]) Kp fun x6 =>
   opN Try.prog (sBin .rem 3 x6 (.int .i64 8)) Kp fun x7 =>
   opN Try.prog (sEq .neq 3 (.tmp 7) (.const (.int .i64 0)) x7 (.int .i64 0)) Kp fun x8 =>
   condS x8
   (opN Try.prog (sNil v0) Kp fun x11 =>
    opN Try.prog (sFA 66 x11 0) Kp fun x12 =>
    opN Try.prog (sLoad 22 x12) Kp fun x13 =>
    opN Try.prog (sBuildSl 22 1 [(0, (.int .u8 0))]) Kp fun x14 =>
    opN Try.prog (sApp #[22, 22] 22 [x13, x14]) Kp fun x15 =>
    opN Try.prog (sNil v0) Kp fun x16 =>
    opN Try.prog (sFA 66 x16 0) Kp fun x17 =>
    opN Try.prog (sStore 22 x17 x15) Kp fun _ =>
    next0 I1 m1)
   (K (.tuple #[])))
def ref02_Writer_Align_an : Ann := { cuts := [], blks := [], loops := [(0, [])], drs := [] }
theorem ref02_Writer_Align_eq (v0 : Value) (Kp : PK) (K : Value → WP) : cevF Try.prog ref02_Writer_Align_an Try.f81 [v0] Kp K = ref02_Writer_Align v0 Kp K := by kernel_rfl
theorem ref02_Writer_Align_calls {v0 : Value} {Kp : PK} {K : Value → WP} {w : World} (h : ref02_Writer_Align v0 Kp K w) : Calls Try.prog 81 #[v0] w (after Kp K) :=
 calls_of_shape (calls_of_cev wide Try.func81 (an := ref02_Writer_Align_an) (args := [v0]) (cast (congrFun (ref02_Writer_Align_eq v0 Kp K) w).symm h))
theorem ref02_Writer_Align_cn {v0 : Value} {W : World} {α : Type} {A : List HP} {r : α → Value} {B : α → List HP} (h : ∀ F, Ent W (A ++ F) (ref02_Writer_Align v0 noP fun v w => ∃ x, v = r x ∧ sat W (B x ++ F) w)) : Cn Try.prog 81 [v0] W A r B :=
 Cn.of (shape := ref02_Writer_Align v0) Try.call81 (fun h => ref02_Writer_Align_calls h) h
def ref02_Writer_Raw (v0 v1 : Value) (Kp : PK) (K : Value → WP) : WP :=
  opN Try.prog (sNil v0) Kp fun x8 =>
  opN Try.prog (sFA 66 x8 0) Kp fun x9 =>
  opN Try.prog (sLoad 22 x9) Kp fun x10 =>
  opN Try.prog (sLen #[22] 3 [x10]) Kp fun x11 =>
  opN Try.prog (sBin .add 3 x11 (.int .i64 7)) Kp fun x12 =>
  opN Try.prog (sBin .quo 3 x12 (.int .i64 8)) Kp fun x13 =>
  opN Try.prog (sLen #[22] 3 [v1]) Kp fun x15 =>
  opN Try.prog (sBin .sub 3 (.int .i64 1048576) x13) Kp fun x17 =>
  opN Try.prog (sBin .gtr 3 x15 x17) Kp fun x18 =>
  condS x18
  (K (.int .i64 6))
  (opN Try.prog (sCall (fn 81) [v0]) Kp fun x20 =>
   loop1 (fun I1 m1 _ y6 =>
    opN Try.prog (sLen #[22] 3 [v1]) Kp fun x23 =>
    opN Try.prog (sBin .lss 3 y6 x23) Kp fun x24 =>
    condS x24
    (opN Try.prog (sIA 22 v1 y6) Kp fun x30 =>
     opN Try.prog (sLoad 5 x30) Kp fun x31 =>
     opN Try.prog (sConv 5 3 x31) Kp fun x32 =>
     opN Try.prog (sCall (fn 53) [v0, x32, (.int .i64 8)]) Kp fun x33 =>
     opN Try.prog (sBin .add 3 y6 (.int .i64 1)) Kp fun x26 =>
     next1 I1 m1 x26)
    (K (.int .i64 0))) (.int .i64 0))
def ref02_Writer_Raw_an : Ann := { cuts := [], blks := [], loops := [(6, [6])], drs := [] }
theorem ref02_Writer_Raw_eq (v0 v1 : Value) (Kp : PK) (K : Value → WP) : cevF Try.prog ref02_Writer_Raw_an Try.f82 [v0, v1] Kp K = ref02_Writer_Raw v0 v1 Kp K := by kernel_rfl
theorem ref02_Writer_Raw_calls {v0 v1 : Value} {Kp : PK} {K : Value → WP} {w : World} (h : ref02_Writer_Raw v0 v1 Kp K w) : Calls Try.prog 82 #[v0, v1] w (after Kp K) :=
 calls_of_shape (calls_of_cev wide Try.func82 (an := ref02_Writer_Raw_an) (args := [v0, v1]) (cast (congrFun (ref02_Writer_Raw_eq v0 v1 Kp K) w).symm h))
theorem ref02_Writer_Raw_cn {v0 v1 : Value} {W : World} {α : Type} {A : List HP} {r : α → Value} {B : α → List HP} (h : ∀ F, Ent W (A ++ F) (ref02_Writer_Raw v0 v1 noP fun v w => ∃ x, v = r x ∧ sat W (B x ++ F) w)) : Cn Try.prog 82 [v0, v1] W A r B :=
 Cn.of (shape := ref02_Writer_Raw v0 v1) Try.call82 (fun h => ref02_Writer_Raw_calls h) h
end Go.Proofs.Ythoeeahdkdcceaa.S
