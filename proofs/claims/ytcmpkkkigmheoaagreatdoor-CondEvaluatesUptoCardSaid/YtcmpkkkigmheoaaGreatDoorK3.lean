/- The shapes of functions of the loaded program, printed by a program of mine; each is proved to be what the model asks of the function. No conditions. (1 texts made one; each says below what it is.) -/
import Derived.Test.YtcmpkkkigmheoaaGreatDoorChecked
import Derived.Test.YtcmpkkkigmheoaaGreatDoorK2
import Derived.KernelRfl
set_option linter.unusedVariables false
set_option linter.unusedSimpArgs false
set_option linter.unusedSectionVars false
/-! The shapes of functions of the loaded program, printed by a program of mine; each is proved to be what the model asks of the function. No conditions. -/
namespace Go.Proofs.YtcmpkkkigmheoaaGreatDoor.S
open Go Go.Proofs.YtcmpkkkigmheoaaGreatDoor.Sh Go.Proofs.YtcmpkkkigmheoaaGreatDoor.Sl

theorem wide : Tryz.prog.follows .mixedOrders = true := by kernel_rfl

/-- law16_CondEvaluates -/
def law16_CondEvaluates (v0 v1 v2 v3 : Value) (Kp : PK) (K : Value → WP) : WP :=
  opN Tryz.prog (sBox 26 v2) Kp fun x6 =>
  opN Tryz.prog (sBuildSl 22 0 []) Kp fun x10 =>
  opN Tryz.prog (sApp #[22, 22] 22 [x10, v1]) Kp fun x12 =>
  drS (stS Tryz.prog (sLoad 26 x6) fun x15 =>
   stD Tryz.prog (sLoad 26 x6) fun D8 x21 =>
   opN Tryz.prog (sCall (fn 5) [x15]) Kp fun x16 =>
   (fun w => D8 w ∧ (opN Tryz.prog (sCall (fn 4) [v0, x12, x16, v3]) Kp fun x18 =>
     (fun w => D8 w ∧ (opN Tryz.prog (sCall (fn 6) [v0, v1, x21, v3]) Kp fun x23 =>
       stS Tryz.prog (sEq .eql 3 (.tmp 18) (.tmp 23) x18 x23) fun x24 =>
       gdK x24 true (fun k => k v0) fun x26 =>
       gdK x24 true (fun k => k x12) fun x27 =>
       gdK x24 true (stS Tryz.prog (sLoad 26 x6)) fun x28 =>
       gdK x24 true (fun k => k v3) fun x30 =>
       gdK x24 true (fun k => k v0) fun x32 =>
       gdK x24 true (fun k => k v1) fun x33 =>
       gdD x24 true (stD Tryz.prog (sLoad 26 x6)) fun D21 x34 =>
       gdK x24 true (fun k => k v3) fun x35 =>
       gdK x24 true (opN Tryz.prog (sCall (fn 5) [x28]) Kp) fun x29 =>
       (fun w => D21 w ∧ (gdK x24 true (opN Tryz.prog (sCall (fn 7) [x26, x27, x29, x30]) Kp) fun x31 =>
         (fun w => D21 w ∧ (gdK x24 true (opN Tryz.prog (sCall (fn 8) [x32, x33, x34, x35]) Kp) fun x36 =>
           gdK x24 true (stS Tryz.prog (sEq .eql 4 (.tmp 31) (.tmp 36) x31 x36)) fun x37 =>
           stS Tryz.prog (sPick x24 x37 (.bool false)) fun x38 =>
           gdK x38 true (fun k => k x12) fun x40 =>
           gdK x38 true (fun k => k v1) fun x41 =>
           gdK x38 true (opN Tryz.prog (sCall (fn 9) [x40, x41]) Kp) fun x42 =>
           stS Tryz.prog (sPick x38 x42 (.bool false)) fun x43 =>
           gdK x43 true (opN Tryz.prog (sCall (fn 10) []) Kp) fun x45 =>
           stS Tryz.prog (sPick x43 x45 (.bool false)) fun x46 =>
           K x46) w)) w)) w)) w))
def law16_CondEvaluates_an : Ann := { cuts := [], blks := [], loops := [], drs := [(2, [(0, 2), (1, 2), (2, 1), (4, 2), (6, 2), (7, 2), (8, 3), (9, 2), (3, 0), (5, 0), (10, 0), (11, 1), (12, 1), (13, 2), (14, 2), (15, 1), (17, 2), (19, 2), (20, 2), (21, 3), (22, 2), (16, 0), (18, 0), (23, 0), (24, 1), (25, 1), (26, 1), (27, 1), (28, 1), (29, 0), (30, 1), (31, 1), (32, 0), (33, 1), (34, 1)])] }
theorem law16_CondEvaluates_eq (v0 v1 v2 v3 : Value) (Kp : PK) (K : Value → WP) : cevF Tryz.prog law16_CondEvaluates_an Tryz.f3 [v0, v1, v2, v3] Kp K = law16_CondEvaluates v0 v1 v2 v3 Kp K := by kernel_rfl
theorem law16_CondEvaluates_calls {v0 v1 v2 v3 : Value} {Kp : PK} {K : Value → WP} {w : World} (h : law16_CondEvaluates v0 v1 v2 v3 Kp K w) : Calls Tryz.prog 3 #[v0, v1, v2, v3] w (after Kp K) :=
  calls_of_shape (calls_of_cev wide Tryz.func3 (an := law16_CondEvaluates_an) (args := [v0, v1, v2, v3]) (cast (congrFun (law16_CondEvaluates_eq v0 v1 v2 v3 Kp K) w).symm h))
theorem law16_CondEvaluates_cn {v0 v1 v2 v3 : Value} {W : World} {α : Type} {A : List HP} {r : α → Value} {B : α → List HP} (h : ∀ F, Ent W (A ++ F) (law16_CondEvaluates v0 v1 v2 v3 noP fun v w => ∃ x, v = r x ∧ sat W (B x ++ F) w)) : Cn Tryz.prog 3 [v0, v1, v2, v3] W A r B :=
  Cn.of (shape := law16_CondEvaluates v0 v1 v2 v3) Tryz.call3 (fun h => law16_CondEvaluates_calls h) h
theorem law16_CondEvaluates_cnP {v0 v1 v2 v3 : Value} {W : World} {α β : Type} {A : List HP} {r : α → Value} {B : α → List HP} {pc : β → List PanicEntry} {Bp : β → List HP} (h : ∀ F, Ent W (A ++ F) (law16_CondEvaluates v0 v1 v2 v3 (fun ch w => ∃ y, ch = pc y ∧ sat W (Bp y ++ F) w) fun v w => ∃ x, v = r x ∧ sat W (B x ++ F) w)) : CnP Tryz.prog 3 [v0, v1, v2, v3] W A r B pc Bp :=
  CnP.of (shape := law16_CondEvaluates v0 v1 v2 v3) Tryz.call3 (fun h => law16_CondEvaluates_calls h) h

/-- cond_Evaluate -/
def cond_Evaluate (v0 v1 v2 v3 : Value) (Kp : PK) (K : Value → WP) : WP :=
  opN Tryz.prog (sBox 30 v2) Kp fun x6 =>
  opN Tryz.prog (sBox 3 v3) Kp fun x7 =>
  opN Tryz.prog (sEq .eql 9 (.tmp 14) (.const (.string ⟨#[71, 69, 84]⟩)) v0 (.string ⟨#[71, 69, 84]⟩)) Kp fun x15 =>
  gdK x15 false (fun k => k v0) fun x17 =>
  gdK x15 false (opN Tryz.prog (sEq .eql 9 (.tmp 17) (.const (.string ⟨#[72, 69, 65, 68]⟩)) x17 (.string ⟨#[72, 69, 65, 68]⟩)) Kp) fun x18 =>
  opN Tryz.prog (sPick x15 (.bool true) x18) Kp fun x19 =>
  opN Tryz.prog (sLoad 30 x6) Kp fun x21 =>
  opN Tryz.prog (sLoad 3 x7) Kp fun x22 =>
  opN Tryz.prog (sBuild 38 [(0, x19), (1, v1), (2, x21), (3, x22)]) Kp fun x23 =>
  opN Tryz.prog (sAlloc 38) Kp fun x9 =>
  opN Tryz.prog (sStore 38 x9 x23) Kp fun _ =>
  opN Tryz.prog (sMkF (.func 11) [] [x9, x6]) Kp fun x24 =>
  opN Tryz.prog (sMkF (.func 15) [] [x9, x7, x6]) Kp fun x25 =>
  opN Tryz.prog (sBuild 45 [(0, x24), (1, x25)]) Kp fun x26 =>
  opN Tryz.prog (sAlloc 45) Kp fun x10 =>
  opN Tryz.prog (sStore 45 x10 x26) Kp fun _ =>
  opN Tryz.prog (sLoad 45 x10) Kp fun x27 =>
  loop1 (fun I1 m1 _ y28 =>
   opN Tryz.prog (sBin .lss 3 y28 (.int .i64 2)) Kp fun x29 =>
   condS x29
   (opN Tryz.prog (sIx 45 x27 y28) Kp fun x30 =>
    opN Tryz.prog (sCall x30 []) Kp fun x32 =>
    opN Tryz.prog (sBin .gtr 3 x32 (.int .i64 0)) Kp fun x34 =>
    condS x34
    (K x32)
    (opN Tryz.prog (sBin .add 3 y28 (.int .i64 1)) Kp fun x36 =>
     next1 I1 m1 x36))
   (K (.int .i64 200))) (.int .i64 0)
def cond_Evaluate_an : Ann := { cuts := [], blks := [], loops := [(4, [28])], drs := [] }
theorem cond_Evaluate_eq (v0 v1 v2 v3 : Value) (Kp : PK) (K : Value → WP) : cevF Tryz.prog cond_Evaluate_an Tryz.f4 [v0, v1, v2, v3] Kp K = cond_Evaluate v0 v1 v2 v3 Kp K := by kernel_rfl
theorem cond_Evaluate_calls {v0 v1 v2 v3 : Value} {Kp : PK} {K : Value → WP} {w : World} (h : cond_Evaluate v0 v1 v2 v3 Kp K w) : Calls Tryz.prog 4 #[v0, v1, v2, v3] w (after Kp K) :=
  calls_of_shape (calls_of_cev wide Tryz.func4 (an := cond_Evaluate_an) (args := [v0, v1, v2, v3]) (cast (congrFun (cond_Evaluate_eq v0 v1 v2 v3 Kp K) w).symm h))
theorem cond_Evaluate_cn {v0 v1 v2 v3 : Value} {W : World} {α : Type} {A : List HP} {r : α → Value} {B : α → List HP} (h : ∀ F, Ent W (A ++ F) (cond_Evaluate v0 v1 v2 v3 noP fun v w => ∃ x, v = r x ∧ sat W (B x ++ F) w)) : Cn Tryz.prog 4 [v0, v1, v2, v3] W A r B :=
  Cn.of (shape := cond_Evaluate v0 v1 v2 v3) Tryz.call4 (fun h => cond_Evaluate_calls h) h
theorem cond_Evaluate_cnP {v0 v1 v2 v3 : Value} {W : World} {α β : Type} {A : List HP} {r : α → Value} {B : α → List HP} {pc : β → List PanicEntry} {Bp : β → List HP} (h : ∀ F, Ent W (A ++ F) (cond_Evaluate v0 v1 v2 v3 (fun ch w => ∃ y, ch = pc y ∧ sat W (Bp y ++ F) w) fun v w => ∃ x, v = r x ∧ sat W (B x ++ F) w)) : CnP Tryz.prog 4 [v0, v1, v2, v3] W A r B pc Bp :=
  CnP.of (shape := cond_Evaluate v0 v1 v2 v3) Tryz.call4 (fun h => cond_Evaluate_calls h) h

/-- law16_Own -/
def law16_Own (v0 : Value) (Kp : PK) (K : Value → WP) : WP :=
  opN Tryz.prog (sBox 26 v0) Kp fun x1 =>
  opN Tryz.prog (sAlloc 30) Kp fun x2 =>
  opN Tryz.prog (sFA 26 x1 0) Kp fun x3 =>
  opN Tryz.prog (sFA 24 x3 0) Kp fun x4 =>
  opN Tryz.prog (sLoad 4 x4) Kp fun x5 =>
  opN Tryz.prog (sFA 26 x1 0) Kp fun x6 =>
  opN Tryz.prog (sFA 24 x6 1) Kp fun x7 =>
  opN Tryz.prog (sLoad 9 x7) Kp fun x8 =>
  opN Tryz.prog (sBuild 28 [(0, x5), (1, x8)]) Kp fun x9 =>
  opN Tryz.prog (sFA 26 x1 1) Kp fun x10 =>
  opN Tryz.prog (sLoad 3 x10) Kp fun x11 =>
  opN Tryz.prog (sFA 26 x1 2) Kp fun x12 =>
  opN Tryz.prog (sLoad 4 x12) Kp fun x13 =>
  opN Tryz.prog (sBuild 30 [(0, x9), (1, x11), (2, x13)]) Kp fun x14 =>
  opN Tryz.prog (sStore 30 x2 x14) Kp fun _ =>
  (stS Tryz.prog (sRes 30 x2) fun r0 => K r0)
def law16_Own_an : Ann := { cuts := [], blks := [], loops := [], drs := [] }
theorem law16_Own_eq (v0 : Value) (Kp : PK) (K : Value → WP) : cevF Tryz.prog law16_Own_an Tryz.f5 [v0] Kp K = law16_Own v0 Kp K := by kernel_rfl
theorem law16_Own_calls {v0 : Value} {Kp : PK} {K : Value → WP} {w : World} (h : law16_Own v0 Kp K w) : Calls Tryz.prog 5 #[v0] w (after Kp K) :=
  calls_of_shape (calls_of_cev wide Tryz.func5 (an := law16_Own_an) (args := [v0]) (cast (congrFun (law16_Own_eq v0 Kp K) w).symm h))
theorem law16_Own_cn {v0 : Value} {W : World} {α : Type} {A : List HP} {r : α → Value} {B : α → List HP} (h : ∀ F, Ent W (A ++ F) (law16_Own v0 noP fun v w => ∃ x, v = r x ∧ sat W (B x ++ F) w)) : Cn Tryz.prog 5 [v0] W A r B :=
  Cn.of (shape := law16_Own v0) Tryz.call5 (fun h => law16_Own_calls h) h
theorem law16_Own_cnP {v0 : Value} {W : World} {α β : Type} {A : List HP} {r : α → Value} {B : α → List HP} {pc : β → List PanicEntry} {Bp : β → List HP} (h : ∀ F, Ent W (A ++ F) (law16_Own v0 (fun ch w => ∃ y, ch = pc y ∧ sat W (Bp y ++ F) w) fun v w => ∃ x, v = r x ∧ sat W (B x ++ F) w)) : CnP Tryz.prog 5 [v0] W A r B pc Bp :=
  CnP.of (shape := law16_Own v0) Tryz.call5 (fun h => law16_Own_calls h) h

/-- ref16_Evaluate -/
def ref16_Evaluate (v0 v1 v2 v3 : Value) (Kp : PK) (K : Value → WP) : WP :=
  opN Tryz.prog (sBox 26 v2) Kp fun x6 =>
  opN Tryz.prog (sEq .eql 9 (.tmp 14) (.const (.string ⟨#[71, 69, 84]⟩)) v0 (.string ⟨#[71, 69, 84]⟩)) Kp fun x15 =>
  gdK x15 false (fun k => k v0) fun x17 =>
  gdK x15 false (opN Tryz.prog (sEq .eql 9 (.tmp 17) (.const (.string ⟨#[72, 69, 65, 68]⟩)) x17 (.string ⟨#[72, 69, 65, 68]⟩)) Kp) fun x18 =>
  opN Tryz.prog (sPick x15 (.bool true) x18) Kp fun x19 =>
  opN Tryz.prog (sLoad 26 x6) Kp fun x22 =>
  opN Tryz.prog (sCall (fn 17) [v1, (.string ⟨#[105, 102, 45, 109, 97, 116, 99, 104]⟩), x22, (.bool true)]) Kp fun x23 =>
  opN Tryz.prog (sExt x23 0) Kp fun x24 =>
  opN Tryz.prog (sExt x23 1) Kp fun x25 =>
  opN Tryz.prog (sCall (fn 18) [v1, (.string ⟨#[105, 102, 45, 117, 110, 109, 111, 100, 105, 102, 105, 101, 100, 45, 115, 105, 110, 99, 101]⟩), v3]) Kp fun x29 =>
  opN Tryz.prog (sExt x29 0) Kp fun x30 =>
  opN Tryz.prog (sExt x29 1) Kp fun x31 =>
  gdK x25 true (fun k => k x24) fun x34 =>
  gdK x25 true (opN Tryz.prog (sUn .not x34) Kp) fun x35 =>
  opN Tryz.prog (sPick x25 x35 (.bool false)) Kp fun x36 =>
  gdK x36 false (fun k => k x25) fun x38 =>
  gdK x36 false (opN Tryz.prog (sUn .not x38) Kp) fun x39 =>
  gdK x36 false (fun k => k x39) fun x40 =>
  gdK x40 true (fun k => k x31) fun x41 =>
  gdK x36 false (opN Tryz.prog (sPick x40 x41 (.bool false)) Kp) fun x42 =>
  gdK x36 false (fun k => k x42) fun x43 =>
  gdK x43 true (opN Tryz.prog (sFA 26 x6 2) Kp) fun x44 =>
  gdK x43 true (opN Tryz.prog (sLoad 4 x44) Kp) fun x45 =>
  gdK x43 true (opN Tryz.prog (sUn .not x45) Kp) fun x46 =>
  gdK x43 true (fun k => k x46) fun x47 =>
  gdK x47 false (opN Tryz.prog (sFA 26 x6 1) Kp) fun x48 =>
  gdK x47 false (opN Tryz.prog (sLoad 3 x48) Kp) fun x49 =>
  gdK x47 false (fun k => k x30) fun x50 =>
  gdK x47 false (opN Tryz.prog (sBin .gtr 3 x49 x50) Kp) fun x51 =>
  gdK x43 true (opN Tryz.prog (sPick x47 (.bool true) x51) Kp) fun x52 =>
  gdK x36 false (opN Tryz.prog (sPick x43 x52 (.bool false)) Kp) fun x53 =>
  opN Tryz.prog (sPick x36 (.bool true) x53) Kp fun x54 =>
  condS x54
  (K (.int .i64 412))
  (opN Tryz.prog (sLoad 26 x6) Kp fun x57 =>
   opN Tryz.prog (sCall (fn 17) [v1, (.string ⟨#[105, 102, 45, 110, 111, 110, 101, 45, 109, 97, 116, 99, 104]⟩), x57, (.bool false)]) Kp fun x58 =>
   opN Tryz.prog (sExt x58 0) Kp fun x59 =>
   opN Tryz.prog (sExt x58 1) Kp fun x60 =>
   opN Tryz.prog (sCall (fn 18) [v1, (.string ⟨#[105, 102, 45, 109, 111, 100, 105, 102, 105, 101, 100, 45, 115, 105, 110, 99, 101]⟩), v3]) Kp fun x64 =>
   opN Tryz.prog (sExt x64 0) Kp fun x65 =>
   opN Tryz.prog (sExt x64 1) Kp fun x66 =>
   gdK x59 true (fun k => k x19) fun x70 =>
   opN Tryz.prog (sPick x59 x70 (.bool false)) Kp fun x71 =>
   condS x71
   (K (.int .i64 304))
   (condS x59
    (K (.int .i64 412))
    (opN Tryz.prog (sUn .not x60) Kp fun x76 =>
     gdK x76 true (fun k => k x19) fun x78 =>
     opN Tryz.prog (sPick x76 x78 (.bool false)) Kp fun x79 =>
     gdK x79 true (fun k => k x66) fun x81 =>
     opN Tryz.prog (sPick x79 x81 (.bool false)) Kp fun x82 =>
     gdK x82 true (fun k => k x65) fun x84 =>
     gdK x82 true (fun k => k v3) fun x85 =>
     gdK x82 true (opN Tryz.prog (sBin .leq 3 x84 x85) Kp) fun x86 =>
     opN Tryz.prog (sPick x82 x86 (.bool false)) Kp fun x87 =>
     gdK x87 true (opN Tryz.prog (sFA 26 x6 2) Kp) fun x89 =>
     gdK x87 true (opN Tryz.prog (sLoad 4 x89) Kp) fun x90 =>
     opN Tryz.prog (sPick x87 x90 (.bool false)) Kp fun x91 =>
     gdK x91 true (opN Tryz.prog (sFA 26 x6 1) Kp) fun x93 =>
     gdK x91 true (opN Tryz.prog (sLoad 3 x93) Kp) fun x94 =>
     gdK x91 true (fun k => k x65) fun x95 =>
     gdK x91 true (opN Tryz.prog (sBin .leq 3 x94 x95) Kp) fun x96 =>
     opN Tryz.prog (sPick x91 x96 (.bool false)) Kp fun x97 =>
     condS x97
     (K (.int .i64 304))
     (K (.int .i64 200)))))
def ref16_Evaluate_an : Ann := { cuts := [], blks := [], loops := [], drs := [] }
theorem ref16_Evaluate_eq (v0 v1 v2 v3 : Value) (Kp : PK) (K : Value → WP) : cevF Tryz.prog ref16_Evaluate_an Tryz.f6 [v0, v1, v2, v3] Kp K = ref16_Evaluate v0 v1 v2 v3 Kp K := by kernel_rfl
theorem ref16_Evaluate_calls {v0 v1 v2 v3 : Value} {Kp : PK} {K : Value → WP} {w : World} (h : ref16_Evaluate v0 v1 v2 v3 Kp K w) : Calls Tryz.prog 6 #[v0, v1, v2, v3] w (after Kp K) :=
  calls_of_shape (calls_of_cev wide Tryz.func6 (an := ref16_Evaluate_an) (args := [v0, v1, v2, v3]) (cast (congrFun (ref16_Evaluate_eq v0 v1 v2 v3 Kp K) w).symm h))
theorem ref16_Evaluate_cn {v0 v1 v2 v3 : Value} {W : World} {α : Type} {A : List HP} {r : α → Value} {B : α → List HP} (h : ∀ F, Ent W (A ++ F) (ref16_Evaluate v0 v1 v2 v3 noP fun v w => ∃ x, v = r x ∧ sat W (B x ++ F) w)) : Cn Tryz.prog 6 [v0, v1, v2, v3] W A r B :=
  Cn.of (shape := ref16_Evaluate v0 v1 v2 v3) Tryz.call6 (fun h => ref16_Evaluate_calls h) h
theorem ref16_Evaluate_cnP {v0 v1 v2 v3 : Value} {W : World} {α β : Type} {A : List HP} {r : α → Value} {B : α → List HP} {pc : β → List PanicEntry} {Bp : β → List HP} (h : ∀ F, Ent W (A ++ F) (ref16_Evaluate v0 v1 v2 v3 (fun ch w => ∃ y, ch = pc y ∧ sat W (Bp y ++ F) w) fun v w => ∃ x, v = r x ∧ sat W (B x ++ F) w)) : CnP Tryz.prog 6 [v0, v1, v2, v3] W A r B pc Bp :=
  CnP.of (shape := ref16_Evaluate v0 v1 v2 v3) Tryz.call6 (fun h => ref16_Evaluate_calls h) h

/-- cond_InRange -/
def cond_InRange (v0 v1 v2 v3 : Value) (Kp : PK) (K : Value → WP) : WP :=
  opN Tryz.prog (sBox 30 v2) Kp fun x6 =>
  opN Tryz.prog (sCall (fn 19) [v1, (.string ⟨#[73, 102, 45, 82, 97, 110, 103, 101]⟩)]) Kp fun x18 =>
  opN Tryz.prog (sExt x18 0) Kp fun x19 =>
  opN Tryz.prog (sExt x18 1) Kp fun x20 =>
  opN Tryz.prog (sEq .neq 9 (.tmp 21) (.const (.string ⟨#[71, 69, 84]⟩)) v0 (.string ⟨#[71, 69, 84]⟩)) Kp fun x22 =>
  gdK x22 false (opN Tryz.prog (sFA 30 x6 2) Kp) fun x24 =>
  gdK x22 false (opN Tryz.prog (sLoad 4 x24) Kp) fun x25 =>
  gdK x22 false (opN Tryz.prog (sUn .not x25) Kp) fun x26 =>
  opN Tryz.prog (sPick x22 (.bool true) x26) Kp fun x27 =>
  condS x27
  (K (.bool false))
  (opN Tryz.prog (sUn .not x20) Kp fun x29 =>
   condS x29
   (K (.bool true))
   (opN Tryz.prog (sBuild 51 [(0, (fn 13)), (1, (.int .i64 60))]) Kp fun x30 =>
    opN Tryz.prog (sAlloc 51) Kp fun x11 =>
    opN Tryz.prog (sStore 51 x11 x30) Kp fun _ =>
    opN Tryz.prog (sCall (fn 20) [x19]) Kp fun x33 =>
    opN Tryz.prog (sExt x33 0) Kp fun x34 =>
    opN Tryz.prog (sExt x33 1) Kp fun x35 =>
    opN Tryz.prog (sAlloc 28) Kp fun x12 =>
    opN Tryz.prog (sStore 28 x12 x34) Kp fun _ =>
    opN Tryz.prog (sEq .eql 52 (.tmp 36) (.const (.int .i64 0)) x35 (.int .i64 0)) Kp fun x37 =>
    condS x37
    (opN Tryz.prog (sFA 51 x11 0) Kp fun x38 =>
     opN Tryz.prog (sLoad 41 x38) Kp fun x39 =>
     opN Tryz.prog (sLoad 28 x12) Kp fun x40 =>
     opN Tryz.prog (sFA 30 x6 0) Kp fun x41 =>
     opN Tryz.prog (sLoad 28 x41) Kp fun x42 =>
     opN Tryz.prog (sCall x39 [x40, x42]) Kp fun x43 =>
     K x43)
    (opN Tryz.prog (sCall (fn 21) [x19, v3]) Kp fun x47 =>
     opN Tryz.prog (sExt x47 0) Kp fun x48 =>
     opN Tryz.prog (sExt x47 1) Kp fun x49 =>
     opN Tryz.prog (sEq .eql 52 (.tmp 50) (.const (.int .i64 0)) x49 (.int .i64 0)) Kp fun x51 =>
     gdK x51 true (fun k => k x48) fun x53 =>
     gdK x51 true (opN Tryz.prog (sFA 30 x6 1) Kp) fun x54 =>
     gdK x51 true (opN Tryz.prog (sLoad 3 x54) Kp) fun x55 =>
     gdK x51 true (opN Tryz.prog (sEq .eql 3 (.tmp 53) (.tmp 55) x53 x55) Kp) fun x56 =>
     opN Tryz.prog (sPick x51 x56 (.bool false)) Kp fun x57 =>
     gdK x57 true (fun k => k x48) fun x59 =>
     gdK x57 true (opN Tryz.prog (sFA 51 x11 1) Kp) fun x60 =>
     gdK x57 true (opN Tryz.prog (sLoad 3 x60) Kp) fun x61 =>
     gdK x57 true (opN Tryz.prog (sBin .add 3 x59 x61) Kp) fun x62 =>
     gdK x57 true (fun k => k v3) fun x63 =>
     gdK x57 true (opN Tryz.prog (sBin .leq 3 x62 x63) Kp) fun x64 =>
     opN Tryz.prog (sPick x57 x64 (.bool false)) Kp fun x65 =>
     K x65)))
def cond_InRange_an : Ann := { cuts := [], blks := [], loops := [], drs := [] }
theorem cond_InRange_eq (v0 v1 v2 v3 : Value) (Kp : PK) (K : Value → WP) : cevF Tryz.prog cond_InRange_an Tryz.f7 [v0, v1, v2, v3] Kp K = cond_InRange v0 v1 v2 v3 Kp K := by kernel_rfl
theorem cond_InRange_calls {v0 v1 v2 v3 : Value} {Kp : PK} {K : Value → WP} {w : World} (h : cond_InRange v0 v1 v2 v3 Kp K w) : Calls Tryz.prog 7 #[v0, v1, v2, v3] w (after Kp K) :=
  calls_of_shape (calls_of_cev wide Tryz.func7 (an := cond_InRange_an) (args := [v0, v1, v2, v3]) (cast (congrFun (cond_InRange_eq v0 v1 v2 v3 Kp K) w).symm h))
theorem cond_InRange_cn {v0 v1 v2 v3 : Value} {W : World} {α : Type} {A : List HP} {r : α → Value} {B : α → List HP} (h : ∀ F, Ent W (A ++ F) (cond_InRange v0 v1 v2 v3 noP fun v w => ∃ x, v = r x ∧ sat W (B x ++ F) w)) : Cn Tryz.prog 7 [v0, v1, v2, v3] W A r B :=
  Cn.of (shape := cond_InRange v0 v1 v2 v3) Tryz.call7 (fun h => cond_InRange_calls h) h
theorem cond_InRange_cnP {v0 v1 v2 v3 : Value} {W : World} {α β : Type} {A : List HP} {r : α → Value} {B : α → List HP} {pc : β → List PanicEntry} {Bp : β → List HP} (h : ∀ F, Ent W (A ++ F) (cond_InRange v0 v1 v2 v3 (fun ch w => ∃ y, ch = pc y ∧ sat W (Bp y ++ F) w) fun v w => ∃ x, v = r x ∧ sat W (B x ++ F) w)) : CnP Tryz.prog 7 [v0, v1, v2, v3] W A r B pc Bp :=
  CnP.of (shape := cond_InRange v0 v1 v2 v3) Tryz.call7 (fun h => cond_InRange_calls h) h

/-- ref16_InRange -/
def ref16_InRange (v0 v1 v2 v3 : Value) (Kp : PK) (K : Value → WP) : WP :=
  opN Tryz.prog (sBox 26 v2) Kp fun x6 =>
  opN Tryz.prog (sEq .neq 9 (.tmp 14) (.const (.string ⟨#[71, 69, 84]⟩)) v0 (.string ⟨#[71, 69, 84]⟩)) Kp fun x15 =>
  gdK x15 false (opN Tryz.prog (sFA 26 x6 2) Kp) fun x17 =>
  gdK x15 false (opN Tryz.prog (sLoad 4 x17) Kp) fun x18 =>
  gdK x15 false (opN Tryz.prog (sUn .not x18) Kp) fun x19 =>
  opN Tryz.prog (sPick x15 (.bool true) x19) Kp fun x20 =>
  condS x20
  (K (.bool false))
  (opN Tryz.prog (sCall (fn 22) [v1, (.string ⟨#[105, 102, 45, 114, 97, 110, 103, 101]⟩)]) Kp fun x23 =>
   opN Tryz.prog (sExt x23 0) Kp fun x24 =>
   opN Tryz.prog (sExt x23 1) Kp fun x25 =>
   opN Tryz.prog (sUn .not x25) Kp fun x27 =>
   condS x27
   (K (.bool true))
   (opN Tryz.prog (sCall (fn 23) [x24]) Kp fun x30 =>
    opN Tryz.prog (sExt x30 0) Kp fun x31 =>
    opN Tryz.prog (sExt x30 1) Kp fun x32 =>
    opN Tryz.prog (sAlloc 24) Kp fun x11 =>
    opN Tryz.prog (sStore 24 x11 x31) Kp fun _ =>
    opN Tryz.prog (sEq .eql 3 (.tmp 33) (.const (.int .i64 0)) x32 (.int .i64 0)) Kp fun x34 =>
    condS x34
    (opN Tryz.prog (sLoad 24 x11) Kp fun x35 =>
     opN Tryz.prog (sFA 26 x6 0) Kp fun x36 =>
     opN Tryz.prog (sLoad 24 x36) Kp fun x37 =>
     opN Tryz.prog (sCall (fn 24) [x35, x37]) Kp fun x38 =>
     K x38)
    (opN Tryz.prog (sCall (fn 25) [x24, v3]) Kp fun x42 =>
     opN Tryz.prog (sExt x42 0) Kp fun x43 =>
     opN Tryz.prog (sExt x42 1) Kp fun x44 =>
     opN Tryz.prog (sEq .eql 3 (.tmp 45) (.const (.int .i64 0)) x44 (.int .i64 0)) Kp fun x46 =>
     gdK x46 true (fun k => k x43) fun x48 =>
     gdK x46 true (opN Tryz.prog (sFA 26 x6 1) Kp) fun x49 =>
     gdK x46 true (opN Tryz.prog (sLoad 3 x49) Kp) fun x50 =>
     gdK x46 true (opN Tryz.prog (sEq .eql 3 (.tmp 48) (.tmp 50) x48 x50) Kp) fun x51 =>
     opN Tryz.prog (sPick x46 x51 (.bool false)) Kp fun x52 =>
     gdK x52 true (fun k => k x43) fun x54 =>
     gdK x52 true (opN Tryz.prog (sBin .add 3 x54 (.int .i64 60)) Kp) fun x55 =>
     gdK x52 true (fun k => k v3) fun x56 =>
     gdK x52 true (opN Tryz.prog (sBin .leq 3 x55 x56) Kp) fun x57 =>
     opN Tryz.prog (sPick x52 x57 (.bool false)) Kp fun x58 =>
     K x58)))
def ref16_InRange_an : Ann := { cuts := [], blks := [], loops := [], drs := [] }
theorem ref16_InRange_eq (v0 v1 v2 v3 : Value) (Kp : PK) (K : Value → WP) : cevF Tryz.prog ref16_InRange_an Tryz.f8 [v0, v1, v2, v3] Kp K = ref16_InRange v0 v1 v2 v3 Kp K := by kernel_rfl
theorem ref16_InRange_calls {v0 v1 v2 v3 : Value} {Kp : PK} {K : Value → WP} {w : World} (h : ref16_InRange v0 v1 v2 v3 Kp K w) : Calls Tryz.prog 8 #[v0, v1, v2, v3] w (after Kp K) :=
  calls_of_shape (calls_of_cev wide Tryz.func8 (an := ref16_InRange_an) (args := [v0, v1, v2, v3]) (cast (congrFun (ref16_InRange_eq v0 v1 v2 v3 Kp K) w).symm h))
theorem ref16_InRange_cn {v0 v1 v2 v3 : Value} {W : World} {α : Type} {A : List HP} {r : α → Value} {B : α → List HP} (h : ∀ F, Ent W (A ++ F) (ref16_InRange v0 v1 v2 v3 noP fun v w => ∃ x, v = r x ∧ sat W (B x ++ F) w)) : Cn Tryz.prog 8 [v0, v1, v2, v3] W A r B :=
  Cn.of (shape := ref16_InRange v0 v1 v2 v3) Tryz.call8 (fun h => ref16_InRange_calls h) h
theorem ref16_InRange_cnP {v0 v1 v2 v3 : Value} {W : World} {α β : Type} {A : List HP} {r : α → Value} {B : α → List HP} {pc : β → List PanicEntry} {Bp : β → List HP} (h : ∀ F, Ent W (A ++ F) (ref16_InRange v0 v1 v2 v3 (fun ch w => ∃ y, ch = pc y ∧ sat W (Bp y ++ F) w) fun v w => ∃ x, v = r x ∧ sat W (B x ++ F) w)) : CnP Tryz.prog 8 [v0, v1, v2, v3] W A r B pc Bp :=
  CnP.of (shape := ref16_InRange v0 v1 v2 v3) Tryz.call8 (fun h => ref16_InRange_calls h) h

/-- law11_Fields -/
def law11_Fields (v0 v1 : Value) (Kp : PK) (K : Value → WP) : WP :=
  opN Tryz.prog (sLen #[22] 3 [v0]) Kp fun x7 =>
  opN Tryz.prog (sLen #[22] 3 [v1]) Kp fun x9 =>
  opN Tryz.prog (sEq .neq 3 (.tmp 7) (.tmp 9) x7 x9) Kp fun x10 =>
  condS x10
  (K (.bool false))
  (loop1 (fun I1 m1 _ y5 =>
    opN Tryz.prog (sLen #[22] 3 [v0]) Kp fun x13 =>
    opN Tryz.prog (sBin .lss 3 y5 x13) Kp fun x14 =>
    condS x14
    (drS (stS Tryz.prog (sIA 22 v0 y5) fun x19 =>
      stS Tryz.prog (sLoad 63 x19) fun x20 =>
      stS Tryz.prog (sIA 22 v1 y5) fun x23 =>
      stS Tryz.prog (sLoad 63 x23) fun x24 =>
      stS Tryz.prog (sEq .neq 63 (.tmp 20) (.tmp 24) x20 x24) fun x25 =>
      condS x25
      (K (.bool false))
      (opN Tryz.prog (sBin .add 3 y5 (.int .i64 1)) Kp fun x16 =>
       next1 I1 m1 x16)))
    (K (.bool true))) (.int .i64 0))
def law11_Fields_an : Ann := { cuts := [], blks := [], loops := [(4, [5])], drs := [(6, [(0, 1), (1, 1), (2, 1), (3, 1), (4, 1), (5, 1), (6, 1), (7, 1), (8, 1)])] }
theorem law11_Fields_eq (v0 v1 : Value) (Kp : PK) (K : Value → WP) : cevF Tryz.prog law11_Fields_an Tryz.f9 [v0, v1] Kp K = law11_Fields v0 v1 Kp K := by kernel_rfl
theorem law11_Fields_calls {v0 v1 : Value} {Kp : PK} {K : Value → WP} {w : World} (h : law11_Fields v0 v1 Kp K w) : Calls Tryz.prog 9 #[v0, v1] w (after Kp K) :=
  calls_of_shape (calls_of_cev wide Tryz.func9 (an := law11_Fields_an) (args := [v0, v1]) (cast (congrFun (law11_Fields_eq v0 v1 Kp K) w).symm h))
theorem law11_Fields_cn {v0 v1 : Value} {W : World} {α : Type} {A : List HP} {r : α → Value} {B : α → List HP} (h : ∀ F, Ent W (A ++ F) (law11_Fields v0 v1 noP fun v w => ∃ x, v = r x ∧ sat W (B x ++ F) w)) : Cn Tryz.prog 9 [v0, v1] W A r B :=
  Cn.of (shape := law11_Fields v0 v1) Tryz.call9 (fun h => law11_Fields_calls h) h
theorem law11_Fields_cnP {v0 v1 : Value} {W : World} {α β : Type} {A : List HP} {r : α → Value} {B : α → List HP} {pc : β → List PanicEntry} {Bp : β → List HP} (h : ∀ F, Ent W (A ++ F) (law11_Fields v0 v1 (fun ch w => ∃ y, ch = pc y ∧ sat W (Bp y ++ F) w) fun v w => ∃ x, v = r x ∧ sat W (B x ++ F) w)) : CnP Tryz.prog 9 [v0, v1] W A r B pc Bp :=
  CnP.of (shape := law11_Fields v0 v1) Tryz.call9 (fun h => law11_Fields_calls h) h

/-- law16_knows -/
def law16_knows (Kp : PK) (K : Value → WP) : WP :=
  opN Tryz.prog (sBuild 28 [(1, (.string ⟨#[97]⟩))]) Kp fun x3 =>
  opN Tryz.prog (sBuild 30 [(0, x3), (2, (.bool true))]) Kp fun x4 =>
  opN Tryz.prog (sAlloc 30) Kp fun x1 =>
  opN Tryz.prog (sStore 30 x1 x4) Kp fun _ =>
  opN Tryz.prog (sFA 30 x1 0) Kp fun x5 =>
  opN Tryz.prog (sLoad 28 x5) Kp fun x6 =>
  opN Tryz.prog (sCall (fn 26) [x6]) Kp fun x7 =>
  drS (stD Tryz.prog (sLoad 30 x1) fun D2 x10 =>
   opN Tryz.prog (sCall (fn 27) [(.string ⟨#[73, 102, 45, 78, 111, 110, 101, 45, 77, 97, 116, 99, 104]⟩), x7]) Kp fun x9 =>
   (fun w => D2 w ∧ (opN Tryz.prog (sCall (fn 4) [(.string ⟨#[71, 69, 84]⟩), x9, x10, (.int .i64 9)]) Kp fun x11 =>
     stS Tryz.prog (sEq .eql 3 (.tmp 11) (.const (.int .i64 304)) x11 (.int .i64 304)) fun x12 =>
     gdK x12 true (fun k => k x7) fun x14 =>
     gdD x12 true (stD Tryz.prog (sLoad 30 x1)) fun D8 x16 =>
     gdK x12 true (opN Tryz.prog (sCall (fn 27) [(.string ⟨#[73, 102, 45, 78, 111, 110, 101, 45, 77, 97, 116, 99, 104]⟩), x14]) Kp) fun x15 =>
     (fun w => D8 w ∧ (gdK x12 true (opN Tryz.prog (sCall (fn 4) [(.string ⟨#[80, 85, 84]⟩), x15, x16, (.int .i64 9)]) Kp) fun x17 =>
       gdK x12 true (stS Tryz.prog (sEq .eql 3 (.tmp 17) (.const (.int .i64 412)) x17 (.int .i64 412))) fun x18 =>
       stS Tryz.prog (sPick x12 x18 (.bool false)) fun x19 =>
       gdK x19 true (fun k => k x7) fun x21 =>
       gdD x19 true (stD Tryz.prog (sLoad 30 x1)) fun D15 x23 =>
       gdK x19 true (opN Tryz.prog (sCall (fn 27) [(.string ⟨#[73, 102, 45, 77, 97, 116, 99, 104]⟩), x21]) Kp) fun x22 =>
       (fun w => D15 w ∧ (gdK x19 true (opN Tryz.prog (sCall (fn 4) [(.string ⟨#[71, 69, 84]⟩), x22, x23, (.int .i64 9)]) Kp) fun x24 =>
         gdK x19 true (stS Tryz.prog (sEq .eql 3 (.tmp 24) (.const (.int .i64 200)) x24 (.int .i64 200))) fun x25 =>
         stS Tryz.prog (sPick x19 x25 (.bool false)) fun x26 =>
         gdK x26 true (stS Tryz.prog (sLoad 30 x1)) fun x28 =>
         gdK x26 true (opN Tryz.prog (sCall (fn 7) [(.string ⟨#[71, 69, 84]⟩), (.slice none 0 0), x28, (.int .i64 9)]) Kp) fun x29 =>
         stS Tryz.prog (sPick x26 x29 (.bool false)) fun x30 =>
         K x30) w)) w)) w))
def law16_knows_an : Ann := { cuts := [], blks := [], loops := [], drs := [(3, [(0, 1), (2, 3), (1, 0), (3, 0), (4, 1), (5, 1), (6, 1), (8, 3), (7, 0), (9, 0), (10, 1), (11, 1), (12, 1), (13, 1), (15, 3), (14, 0), (16, 0), (17, 1), (18, 1), (19, 1), (20, 1), (21, 0), (22, 1), (23, 1)])] }
theorem law16_knows_eq (Kp : PK) (K : Value → WP) : cevF Tryz.prog law16_knows_an Tryz.f10 [] Kp K = law16_knows Kp K := by kernel_rfl
theorem law16_knows_calls  {Kp : PK} {K : Value → WP} {w : World} (h : law16_knows Kp K w) : Calls Tryz.prog 10 #[] w (after Kp K) :=
  calls_of_shape (calls_of_cev wide Tryz.func10 (an := law16_knows_an) (args := []) (cast (congrFun (law16_knows_eq Kp K) w).symm h))
theorem law16_knows_cn  {W : World} {α : Type} {A : List HP} {r : α → Value} {B : α → List HP} (h : ∀ F, Ent W (A ++ F) (law16_knows noP fun v w => ∃ x, v = r x ∧ sat W (B x ++ F) w)) : Cn Tryz.prog 10 [] W A r B :=
  Cn.of (shape := law16_knows) Tryz.call10 (fun h => law16_knows_calls h) h
theorem law16_knows_cnP  {W : World} {α β : Type} {A : List HP} {r : α → Value} {B : α → List HP} {pc : β → List PanicEntry} {Bp : β → List HP} (h : ∀ F, Ent W (A ++ F) (law16_knows (fun ch w => ∃ y, ch = pc y ∧ sat W (Bp y ++ F) w) fun v w => ∃ x, v = r x ∧ sat W (B x ++ F) w)) : CnP Tryz.prog 10 [] W A r B pc Bp :=
  CnP.of (shape := law16_knows) Tryz.call10 (fun h => law16_knows_calls h) h

/-- cond_Evaluate_1 -/
def cond_Evaluate_1 (v0 v1 : Value) (Kp : PK) (K : Value → WP) : WP :=
  opN Tryz.prog (sLoad 38 v0) Kp fun x8 =>
  opN Tryz.prog (sCall (fn 12) [x8, (.string ⟨#[73, 102, 45, 77, 97, 116, 99, 104]⟩), (fn 13)]) Kp fun x9 =>
  opN Tryz.prog (sExt x9 0) Kp fun x10 =>
  opN Tryz.prog (sExt x9 1) Kp fun x11 =>
  opN Tryz.prog (sLoad 38 v0) Kp fun x13 =>
  opN Tryz.prog (sCall (fn 14) [x13, (.string ⟨#[73, 102, 45, 85, 110, 109, 111, 100, 105, 102, 105, 101, 100, 45, 83, 105, 110, 99, 101]⟩)]) Kp fun x14 =>
  opN Tryz.prog (sExt x14 0) Kp fun x15 =>
  opN Tryz.prog (sExt x14 1) Kp fun x16 =>
  gdK x11 true (fun k => k x10) fun x19 =>
  gdK x11 true (opN Tryz.prog (sUn .not x19) Kp) fun x20 =>
  opN Tryz.prog (sPick x11 x20 (.bool false)) Kp fun x21 =>
  gdK x21 false (fun k => k x11) fun x23 =>
  gdK x21 false (opN Tryz.prog (sUn .not x23) Kp) fun x24 =>
  gdK x21 false (fun k => k x24) fun x25 =>
  gdK x25 true (fun k => k x16) fun x26 =>
  gdK x21 false (opN Tryz.prog (sPick x25 x26 (.bool false)) Kp) fun x27 =>
  gdK x21 false (fun k => k x27) fun x28 =>
  gdK x28 true (opN Tryz.prog (sFA 30 v1 2) Kp) fun x29 =>
  gdK x28 true (opN Tryz.prog (sLoad 4 x29) Kp) fun x30 =>
  gdK x28 true (opN Tryz.prog (sUn .not x30) Kp) fun x31 =>
  gdK x28 true (fun k => k x31) fun x32 =>
  gdK x32 false (opN Tryz.prog (sFA 30 v1 1) Kp) fun x33 =>
  gdK x32 false (opN Tryz.prog (sLoad 3 x33) Kp) fun x34 =>
  gdK x32 false (fun k => k x15) fun x35 =>
  gdK x32 false (opN Tryz.prog (sBin .gtr 3 x34 x35) Kp) fun x36 =>
  gdK x28 true (opN Tryz.prog (sPick x32 (.bool true) x36) Kp) fun x37 =>
  gdK x21 false (opN Tryz.prog (sPick x28 x37 (.bool false)) Kp) fun x38 =>
  opN Tryz.prog (sPick x21 (.bool true) x38) Kp fun x39 =>
  condS x39
  (K (.int .i64 412))
  (K (.int .i64 0))
def cond_Evaluate_1_an : Ann := { cuts := [], blks := [], loops := [], drs := [] }
theorem cond_Evaluate_1_eq (v0 v1 : Value) (Kp : PK) (K : Value → WP) : cevF Tryz.prog cond_Evaluate_1_an Tryz.f11 [v0, v1] Kp K = cond_Evaluate_1 v0 v1 Kp K := by kernel_rfl
theorem cond_Evaluate_1_calls {v0 v1 : Value} {Kp : PK} {K : Value → WP} {w : World} (h : cond_Evaluate_1 v0 v1 Kp K w) : Calls Tryz.prog 11 #[v0, v1] w (after Kp K) :=
  calls_of_shape (calls_of_cev wide Tryz.func11 (an := cond_Evaluate_1_an) (args := [v0, v1]) (cast (congrFun (cond_Evaluate_1_eq v0 v1 Kp K) w).symm h))
theorem cond_Evaluate_1_cn {v0 v1 : Value} {W : World} {α : Type} {A : List HP} {r : α → Value} {B : α → List HP} (h : ∀ F, Ent W (A ++ F) (cond_Evaluate_1 v0 v1 noP fun v w => ∃ x, v = r x ∧ sat W (B x ++ F) w)) : Cn Tryz.prog 11 [v0, v1] W A r B :=
  Cn.of (shape := cond_Evaluate_1 v0 v1) Tryz.call11 (fun h => cond_Evaluate_1_calls h) h
theorem cond_Evaluate_1_cnP {v0 v1 : Value} {W : World} {α β : Type} {A : List HP} {r : α → Value} {B : α → List HP} {pc : β → List PanicEntry} {Bp : β → List HP} (h : ∀ F, Ent W (A ++ F) (cond_Evaluate_1 v0 v1 (fun ch w => ∃ y, ch = pc y ∧ sat W (Bp y ++ F) w) fun v w => ∃ x, v = r x ∧ sat W (B x ++ F) w)) : CnP Tryz.prog 11 [v0, v1] W A r B pc Bp :=
  CnP.of (shape := cond_Evaluate_1 v0 v1) Tryz.call11 (fun h => cond_Evaluate_1_calls h) h

/-- cond_asked_tags -/
def cond_asked_tags (v0 v1 v2 : Value) (Kp : PK) (K : Value → WP) : WP :=
  opN Tryz.prog (sBox 38 v0) Kp fun x3 =>
  opN Tryz.prog (sFA 38 x3 1) Kp fun x14 =>
  opN Tryz.prog (sLoad 22 x14) Kp fun x15 =>
  opN Tryz.prog (sCall (fn 28) [x15, v1]) Kp fun x17 =>
  opN Tryz.prog (sLen #[66] 3 [x17]) Kp fun x19 =>
  opN Tryz.prog (sEq .eql 3 (.tmp 19) (.const (.int .i64 0)) x19 (.int .i64 0)) Kp fun x20 =>
  condS x20
  (K (.tuple #[(.bool false), (.bool false)]))
  (opN Tryz.prog (sCall (fn 30) [x17, (.string ⟨#[44]⟩)]) Kp fun x23 =>
   opN Tryz.prog (sCall (fn 29) [x23]) Kp fun x24 =>
   opN Tryz.prog (sExt x24 0) Kp fun x25 =>
   opN Tryz.prog (sExt x24 1) Kp fun x26 =>
   opN Tryz.prog (sExt x24 2) Kp fun x27 =>
   opN Tryz.prog (sEq .neq 52 (.tmp 28) (.const (.int .i64 0)) x27 (.int .i64 0)) Kp fun x29 =>
   gdK x29 false (opN Tryz.prog (sFA 38 x3 2) Kp) fun x31 =>
   gdK x29 false (opN Tryz.prog (sFA 30 x31 2) Kp) fun x32 =>
   gdK x29 false (opN Tryz.prog (sLoad 4 x32) Kp) fun x33 =>
   gdK x29 false (opN Tryz.prog (sUn .not x33) Kp) fun x34 =>
   opN Tryz.prog (sPick x29 (.bool true) x34) Kp fun x35 =>
   condS x35
   (K (.tuple #[(.bool false), (.bool true)]))
   (opN Tryz.prog (sLen #[68] 3 [x25]) Kp fun x38 =>
    loop2 (fun I1 m1 _ y6 y39 =>
     opN Tryz.prog (sBin .lss 3 y39 x38) Kp fun x40 =>
     condS x40
     (opN Tryz.prog (sIA 68 x25 y39) Kp fun x41 =>
      opN Tryz.prog (sLoad 28 x41) Kp fun x42 =>
      opN Tryz.prog (sAlloc 28) Kp fun x13 =>
      opN Tryz.prog (sStore 28 x13 x42) Kp fun _ =>
      gdK y6 false (fun k => k v2) fun x45 =>
      gdK y6 false (opN Tryz.prog (sLoad 28 x13) Kp) fun x46 =>
      gdK y6 false (opN Tryz.prog (sFA 38 x3 2) Kp) fun x47 =>
      gdK y6 false (opN Tryz.prog (sFA 30 x47 0) Kp) fun x48 =>
      gdK y6 false (opN Tryz.prog (sLoad 28 x48) Kp) fun x49 =>
      gdK y6 false (opN Tryz.prog (sCall x45 [x46, x49]) Kp) fun x50 =>
      opN Tryz.prog (sPick y6 (.bool true) x50) Kp fun x51 =>
      opN Tryz.prog (sBin .add 3 y39 (.int .i64 1)) Kp fun x52 =>
      next2 I1 m1 x51 x52)
     (K (.tuple #[y6, (.bool true)]))) x26 (.int .i64 0)))
def cond_asked_tags_an : Ann := { cuts := [], blks := [], loops := [(9, [6, 39])], drs := [] }
theorem cond_asked_tags_eq (v0 v1 v2 : Value) (Kp : PK) (K : Value → WP) : cevF Tryz.prog cond_asked_tags_an Tryz.f12 [v0, v1, v2] Kp K = cond_asked_tags v0 v1 v2 Kp K := by kernel_rfl
theorem cond_asked_tags_calls {v0 v1 v2 : Value} {Kp : PK} {K : Value → WP} {w : World} (h : cond_asked_tags v0 v1 v2 Kp K w) : Calls Tryz.prog 12 #[v0, v1, v2] w (after Kp K) :=
  calls_of_shape (calls_of_cev wide Tryz.func12 (an := cond_asked_tags_an) (args := [v0, v1, v2]) (cast (congrFun (cond_asked_tags_eq v0 v1 v2 Kp K) w).symm h))
theorem cond_asked_tags_cn {v0 v1 v2 : Value} {W : World} {α : Type} {A : List HP} {r : α → Value} {B : α → List HP} (h : ∀ F, Ent W (A ++ F) (cond_asked_tags v0 v1 v2 noP fun v w => ∃ x, v = r x ∧ sat W (B x ++ F) w)) : Cn Tryz.prog 12 [v0, v1, v2] W A r B :=
  Cn.of (shape := cond_asked_tags v0 v1 v2) Tryz.call12 (fun h => cond_asked_tags_calls h) h
theorem cond_asked_tags_cnP {v0 v1 v2 : Value} {W : World} {α β : Type} {A : List HP} {r : α → Value} {B : α → List HP} {pc : β → List PanicEntry} {Bp : β → List HP} (h : ∀ F, Ent W (A ++ F) (cond_asked_tags v0 v1 v2 (fun ch w => ∃ y, ch = pc y ∧ sat W (Bp y ++ F) w) fun v w => ∃ x, v = r x ∧ sat W (B x ++ F) w)) : CnP Tryz.prog 12 [v0, v1, v2] W A r B pc Bp :=
  CnP.of (shape := cond_asked_tags v0 v1 v2) Tryz.call12 (fun h => cond_asked_tags_calls h) h

/-- fields_Strong -/
def fields_Strong (v0 v1 : Value) (Kp : PK) (K : Value → WP) : WP :=
  opN Tryz.prog (sBox 28 v0) Kp fun x2 =>
  opN Tryz.prog (sBox 28 v1) Kp fun x3 =>
  opN Tryz.prog (sLoad 28 x2) Kp fun x5 =>
  opN Tryz.prog (sLoad 28 x3) Kp fun x6 =>
  opN Tryz.prog (sEq .eql 28 (.tmp 5) (.tmp 6) x5 x6) Kp fun x7 =>
  gdK x7 true (opN Tryz.prog (sFA 28 x2 0) Kp) fun x9 =>
  gdK x7 true (opN Tryz.prog (sLoad 4 x9) Kp) fun x10 =>
  gdK x7 true (opN Tryz.prog (sUn .not x10) Kp) fun x11 =>
  opN Tryz.prog (sPick x7 x11 (.bool false)) Kp fun x12 =>
  K x12
def fields_Strong_an : Ann := { cuts := [], blks := [], loops := [], drs := [] }
theorem fields_Strong_eq (v0 v1 : Value) (Kp : PK) (K : Value → WP) : cevF Tryz.prog fields_Strong_an Tryz.f13 [v0, v1] Kp K = fields_Strong v0 v1 Kp K := by kernel_rfl
theorem fields_Strong_calls {v0 v1 : Value} {Kp : PK} {K : Value → WP} {w : World} (h : fields_Strong v0 v1 Kp K w) : Calls Tryz.prog 13 #[v0, v1] w (after Kp K) :=
  calls_of_shape (calls_of_cev wide Tryz.func13 (an := fields_Strong_an) (args := [v0, v1]) (cast (congrFun (fields_Strong_eq v0 v1 Kp K) w).symm h))
theorem fields_Strong_cn {v0 v1 : Value} {W : World} {α : Type} {A : List HP} {r : α → Value} {B : α → List HP} (h : ∀ F, Ent W (A ++ F) (fields_Strong v0 v1 noP fun v w => ∃ x, v = r x ∧ sat W (B x ++ F) w)) : Cn Tryz.prog 13 [v0, v1] W A r B :=
  Cn.of (shape := fields_Strong v0 v1) Tryz.call13 (fun h => fields_Strong_calls h) h
theorem fields_Strong_cnP {v0 v1 : Value} {W : World} {α β : Type} {A : List HP} {r : α → Value} {B : α → List HP} {pc : β → List PanicEntry} {Bp : β → List HP} (h : ∀ F, Ent W (A ++ F) (fields_Strong v0 v1 (fun ch w => ∃ y, ch = pc y ∧ sat W (Bp y ++ F) w) fun v w => ∃ x, v = r x ∧ sat W (B x ++ F) w)) : CnP Tryz.prog 13 [v0, v1] W A r B pc Bp :=
  CnP.of (shape := fields_Strong v0 v1) Tryz.call13 (fun h => fields_Strong_calls h) h

/-- cond_asked_date -/
def cond_asked_date (v0 v1 : Value) (Kp : PK) (K : Value → WP) : WP :=
  opN Tryz.prog (sBox 38 v0) Kp fun x2 =>
  opN Tryz.prog (sFA 38 x2 1) Kp fun x11 =>
  opN Tryz.prog (sLoad 22 x11) Kp fun x12 =>
  opN Tryz.prog (sCall (fn 19) [x12, v1]) Kp fun x14 =>
  opN Tryz.prog (sExt x14 0) Kp fun x15 =>
  opN Tryz.prog (sExt x14 1) Kp fun x16 =>
  opN Tryz.prog (sFA 38 x2 3) Kp fun x19 =>
  opN Tryz.prog (sLoad 3 x19) Kp fun x20 =>
  opN Tryz.prog (sCall (fn 21) [x15, x20]) Kp fun x21 =>
  opN Tryz.prog (sExt x21 0) Kp fun x22 =>
  opN Tryz.prog (sExt x21 1) Kp fun x23 =>
  gdK x16 true (fun k => k x23) fun x27 =>
  gdK x16 true (opN Tryz.prog (sEq .eql 52 (.tmp 27) (.const (.int .i64 0)) x27 (.int .i64 0)) Kp) fun x28 =>
  opN Tryz.prog (sPick x16 x28 (.bool false)) Kp fun x29 =>
  K (.tuple #[x22, x29])
def cond_asked_date_an : Ann := { cuts := [], blks := [], loops := [], drs := [] }
theorem cond_asked_date_eq (v0 v1 : Value) (Kp : PK) (K : Value → WP) : cevF Tryz.prog cond_asked_date_an Tryz.f14 [v0, v1] Kp K = cond_asked_date v0 v1 Kp K := by kernel_rfl
theorem cond_asked_date_calls {v0 v1 : Value} {Kp : PK} {K : Value → WP} {w : World} (h : cond_asked_date v0 v1 Kp K w) : Calls Tryz.prog 14 #[v0, v1] w (after Kp K) :=
  calls_of_shape (calls_of_cev wide Tryz.func14 (an := cond_asked_date_an) (args := [v0, v1]) (cast (congrFun (cond_asked_date_eq v0 v1 Kp K) w).symm h))
theorem cond_asked_date_cn {v0 v1 : Value} {W : World} {α : Type} {A : List HP} {r : α → Value} {B : α → List HP} (h : ∀ F, Ent W (A ++ F) (cond_asked_date v0 v1 noP fun v w => ∃ x, v = r x ∧ sat W (B x ++ F) w)) : Cn Tryz.prog 14 [v0, v1] W A r B :=
  Cn.of (shape := cond_asked_date v0 v1) Tryz.call14 (fun h => cond_asked_date_calls h) h
theorem cond_asked_date_cnP {v0 v1 : Value} {W : World} {α β : Type} {A : List HP} {r : α → Value} {B : α → List HP} {pc : β → List PanicEntry} {Bp : β → List HP} (h : ∀ F, Ent W (A ++ F) (cond_asked_date v0 v1 (fun ch w => ∃ y, ch = pc y ∧ sat W (Bp y ++ F) w) fun v w => ∃ x, v = r x ∧ sat W (B x ++ F) w)) : CnP Tryz.prog 14 [v0, v1] W A r B pc Bp :=
  CnP.of (shape := cond_asked_date v0 v1) Tryz.call14 (fun h => cond_asked_date_calls h) h

/-- cond_Evaluate_2 -/
def cond_Evaluate_2 (v0 v1 v2 : Value) (Kp : PK) (K : Value → WP) : WP :=
  opN Tryz.prog (sLoad 38 v0) Kp fun x9 =>
  opN Tryz.prog (sCall (fn 12) [x9, (.string ⟨#[73, 102, 45, 78, 111, 110, 101, 45, 77, 97, 116, 99, 104]⟩), (fn 16)]) Kp fun x10 =>
  opN Tryz.prog (sExt x10 0) Kp fun x11 =>
  opN Tryz.prog (sExt x10 1) Kp fun x12 =>
  opN Tryz.prog (sLoad 38 v0) Kp fun x14 =>
  opN Tryz.prog (sCall (fn 14) [x14, (.string ⟨#[73, 102, 45, 77, 111, 100, 105, 102, 105, 101, 100, 45, 83, 105, 110, 99, 101]⟩)]) Kp fun x15 =>
  opN Tryz.prog (sExt x15 0) Kp fun x16 =>
  opN Tryz.prog (sExt x15 1) Kp fun x17 =>
  gdK x11 true (opN Tryz.prog (sFA 38 v0 0) Kp) fun x21 =>
  gdK x11 true (opN Tryz.prog (sLoad 4 x21) Kp) fun x22 =>
  gdK x11 true (opN Tryz.prog (sUn .not x22) Kp) fun x23 =>
  opN Tryz.prog (sPick x11 x23 (.bool false)) Kp fun x24 =>
  condS x24
  (K (.int .i64 412))
  (condS x11
   (condS x11
    (K (.int .i64 304))
    (K (.int .i64 0)))
   (opN Tryz.prog (sUn .not x12) Kp fun x28 =>
    gdK x28 true (opN Tryz.prog (sFA 38 v0 0) Kp) fun x30 =>
    gdK x28 true (opN Tryz.prog (sLoad 4 x30) Kp) fun x31 =>
    opN Tryz.prog (sPick x28 x31 (.bool false)) Kp fun x32 =>
    gdK x32 true (fun k => k x17) fun x34 =>
    opN Tryz.prog (sPick x32 x34 (.bool false)) Kp fun x35 =>
    gdK x35 true (fun k => k x16) fun x37 =>
    gdK x35 true (opN Tryz.prog (sLoad 3 v1) Kp) fun x38 =>
    gdK x35 true (opN Tryz.prog (sBin .leq 3 x37 x38) Kp) fun x39 =>
    opN Tryz.prog (sPick x35 x39 (.bool false)) Kp fun x40 =>
    gdK x40 true (opN Tryz.prog (sFA 30 v2 2) Kp) fun x42 =>
    gdK x40 true (opN Tryz.prog (sLoad 4 x42) Kp) fun x43 =>
    opN Tryz.prog (sPick x40 x43 (.bool false)) Kp fun x44 =>
    gdK x44 true (opN Tryz.prog (sFA 30 v2 1) Kp) fun x46 =>
    gdK x44 true (opN Tryz.prog (sLoad 3 x46) Kp) fun x47 =>
    gdK x44 true (fun k => k x16) fun x48 =>
    gdK x44 true (opN Tryz.prog (sBin .leq 3 x47 x48) Kp) fun x49 =>
    opN Tryz.prog (sPick x44 x49 (.bool false)) Kp fun x50 =>
    condS x50
    (K (.int .i64 304))
    (K (.int .i64 0))))
def cond_Evaluate_2_an : Ann := { cuts := [], blks := [], loops := [], drs := [] }
theorem cond_Evaluate_2_eq (v0 v1 v2 : Value) (Kp : PK) (K : Value → WP) : cevF Tryz.prog cond_Evaluate_2_an Tryz.f15 [v0, v1, v2] Kp K = cond_Evaluate_2 v0 v1 v2 Kp K := by kernel_rfl
theorem cond_Evaluate_2_calls {v0 v1 v2 : Value} {Kp : PK} {K : Value → WP} {w : World} (h : cond_Evaluate_2 v0 v1 v2 Kp K w) : Calls Tryz.prog 15 #[v0, v1, v2] w (after Kp K) :=
  calls_of_shape (calls_of_cev wide Tryz.func15 (an := cond_Evaluate_2_an) (args := [v0, v1, v2]) (cast (congrFun (cond_Evaluate_2_eq v0 v1 v2 Kp K) w).symm h))
theorem cond_Evaluate_2_cn {v0 v1 v2 : Value} {W : World} {α : Type} {A : List HP} {r : α → Value} {B : α → List HP} (h : ∀ F, Ent W (A ++ F) (cond_Evaluate_2 v0 v1 v2 noP fun v w => ∃ x, v = r x ∧ sat W (B x ++ F) w)) : Cn Tryz.prog 15 [v0, v1, v2] W A r B :=
  Cn.of (shape := cond_Evaluate_2 v0 v1 v2) Tryz.call15 (fun h => cond_Evaluate_2_calls h) h
theorem cond_Evaluate_2_cnP {v0 v1 v2 : Value} {W : World} {α β : Type} {A : List HP} {r : α → Value} {B : α → List HP} {pc : β → List PanicEntry} {Bp : β → List HP} (h : ∀ F, Ent W (A ++ F) (cond_Evaluate_2 v0 v1 v2 (fun ch w => ∃ y, ch = pc y ∧ sat W (Bp y ++ F) w) fun v w => ∃ x, v = r x ∧ sat W (B x ++ F) w)) : CnP Tryz.prog 15 [v0, v1, v2] W A r B pc Bp :=
  CnP.of (shape := cond_Evaluate_2 v0 v1 v2) Tryz.call15 (fun h => cond_Evaluate_2_calls h) h

/-- fields_Weak -/
def fields_Weak (v0 v1 : Value) (Kp : PK) (K : Value → WP) : WP :=
  opN Tryz.prog (sBox 28 v0) Kp fun x2 =>
  opN Tryz.prog (sBox 28 v1) Kp fun x3 =>
  opN Tryz.prog (sFA 28 x2 1) Kp fun x5 =>
  opN Tryz.prog (sLoad 9 x5) Kp fun x6 =>
  opN Tryz.prog (sFA 28 x3 1) Kp fun x7 =>
  opN Tryz.prog (sLoad 9 x7) Kp fun x8 =>
  opN Tryz.prog (sEq .eql 9 (.tmp 6) (.tmp 8) x6 x8) Kp fun x9 =>
  K x9
def fields_Weak_an : Ann := { cuts := [], blks := [], loops := [], drs := [] }
theorem fields_Weak_eq (v0 v1 : Value) (Kp : PK) (K : Value → WP) : cevF Tryz.prog fields_Weak_an Tryz.f16 [v0, v1] Kp K = fields_Weak v0 v1 Kp K := by kernel_rfl
theorem fields_Weak_calls {v0 v1 : Value} {Kp : PK} {K : Value → WP} {w : World} (h : fields_Weak v0 v1 Kp K w) : Calls Tryz.prog 16 #[v0, v1] w (after Kp K) :=
  calls_of_shape (calls_of_cev wide Tryz.func16 (an := fields_Weak_an) (args := [v0, v1]) (cast (congrFun (fields_Weak_eq v0 v1 Kp K) w).symm h))
theorem fields_Weak_cn {v0 v1 : Value} {W : World} {α : Type} {A : List HP} {r : α → Value} {B : α → List HP} (h : ∀ F, Ent W (A ++ F) (fields_Weak v0 v1 noP fun v w => ∃ x, v = r x ∧ sat W (B x ++ F) w)) : Cn Tryz.prog 16 [v0, v1] W A r B :=
  Cn.of (shape := fields_Weak v0 v1) Tryz.call16 (fun h => fields_Weak_calls h) h
theorem fields_Weak_cnP {v0 v1 : Value} {W : World} {α β : Type} {A : List HP} {r : α → Value} {B : α → List HP} {pc : β → List PanicEntry} {Bp : β → List HP} (h : ∀ F, Ent W (A ++ F) (fields_Weak v0 v1 (fun ch w => ∃ y, ch = pc y ∧ sat W (Bp y ++ F) w) fun v w => ∃ x, v = r x ∧ sat W (B x ++ F) w)) : CnP Tryz.prog 16 [v0, v1] W A r B pc Bp :=
  CnP.of (shape := fields_Weak v0 v1) Tryz.call16 (fun h => fields_Weak_calls h) h

/-- ref16_tags -/
def ref16_tags (v0 v1 v2 v3 : Value) (Kp : PK) (K : Value → WP) : WP :=
  opN Tryz.prog (sBox 26 v2) Kp fun x6 =>
  opN Tryz.prog (sCall (fn 31) [v0, v1]) Kp fun x19 =>
  opN Tryz.prog (sLen #[66] 3 [x19]) Kp fun x21 =>
  opN Tryz.prog (sEq .eql 3 (.tmp 21) (.const (.int .i64 0)) x21 (.int .i64 0)) Kp fun x22 =>
  condS x22
  (K (.tuple #[(.bool false), (.bool false)]))
  (opN Tryz.prog (sIA 66 x19 (.int .i64 0)) Kp fun x24 =>
   opN Tryz.prog (sLoad 9 x24) Kp fun x25 =>
   loop2 (fun I1 m1 _ y11 y12 =>
    opN Tryz.prog (sLen #[66] 3 [x19]) Kp fun x28 =>
    opN Tryz.prog (sBin .lss 3 y12 x28) Kp fun x29 =>
    condS x29
    (opN Tryz.prog (sBin .add 9 y11 (.string ⟨#[44]⟩)) Kp fun x33 =>
     opN Tryz.prog (sIA 66 x19 y12) Kp fun x36 =>
     opN Tryz.prog (sLoad 9 x36) Kp fun x37 =>
     opN Tryz.prog (sBin .add 9 x33 x37) Kp fun x38 =>
     opN Tryz.prog (sBin .add 3 y12 (.int .i64 1)) Kp fun x31 =>
     next2 I1 m1 x38 x31)
    (opN Tryz.prog (sCall (fn 32) [y11]) Kp fun x41 =>
     opN Tryz.prog (sExt x41 0) Kp fun x42 =>
     opN Tryz.prog (sExt x41 1) Kp fun x43 =>
     opN Tryz.prog (sExt x41 2) Kp fun x44 =>
     opN Tryz.prog (sEq .neq 3 (.tmp 45) (.const (.int .i64 0)) x44 (.int .i64 0)) Kp fun x46 =>
     gdK x46 false (opN Tryz.prog (sFA 26 x6 2) Kp) fun x48 =>
     gdK x46 false (opN Tryz.prog (sLoad 4 x48) Kp) fun x49 =>
     gdK x46 false (opN Tryz.prog (sUn .not x49) Kp) fun x50 =>
     opN Tryz.prog (sPick x46 (.bool true) x50) Kp fun x51 =>
     condS x51
     (K (.tuple #[(.bool false), (.bool true)]))
     (loop1 (fun I2 m2 _ y16 =>
       opN Tryz.prog (sLen #[72] 3 [x42]) Kp fun x54 =>
       opN Tryz.prog (sBin .lss 3 y16 x54) Kp fun x55 =>
       condS x55
       (drS (gdK v3 true (fun k => k x42) fun x60 =>
         gdK v3 true (fun k => k y16) fun x61 =>
         gdK v3 true (stS Tryz.prog (sIA 72 x60 x61)) fun x62 =>
         gdK v3 true (stS Tryz.prog (sLoad 24 x62)) fun x63 =>
         gdK v3 true (stS Tryz.prog (sFA 26 x6 0)) fun x64 =>
         gdK v3 true (stS Tryz.prog (sLoad 24 x64)) fun x65 =>
         gdK v3 true (opN Tryz.prog (sCall (fn 24) [x63, x65]) Kp) fun x66 =>
         stS Tryz.prog (sPick v3 x66 (.bool false)) fun x67 =>
         gdK x67 false (fun k => k v3) fun x69 =>
         gdK x67 false (stS Tryz.prog (sUn .not x69)) fun x70 =>
         gdK x67 false (fun k => k x70) fun x71 =>
         gdK x71 true (fun k => k x42) fun x72 =>
         gdK x71 true (fun k => k y16) fun x73 =>
         gdK x71 true (stS Tryz.prog (sIA 72 x72 x73)) fun x74 =>
         gdK x71 true (stS Tryz.prog (sLoad 24 x74)) fun x75 =>
         gdK x71 true (stS Tryz.prog (sFA 26 x6 0)) fun x76 =>
         gdK x71 true (stS Tryz.prog (sLoad 24 x76)) fun x77 =>
         gdK x71 true (opN Tryz.prog (sCall (fn 33) [x75, x77]) Kp) fun x78 =>
         gdK x67 false (stS Tryz.prog (sPick x71 x78 (.bool false))) fun x79 =>
         stS Tryz.prog (sPick x67 (.bool true) x79) fun x80 =>
         condS x80
         (K (.tuple #[(.bool true), (.bool true)]))
         (opN Tryz.prog (sBin .add 3 y16 (.int .i64 1)) Kp fun x57 =>
          next1 I2 m2 x57)))
       (K (.tuple #[x43, (.bool true)]))) (.int .i64 0)))) x25 (.int .i64 1))
def ref16_tags_an : Ann := { cuts := [], blks := [], loops := [(6, [11, 12]), (13, [16])], drs := [(15, [(0, 1), (1, 1), (2, 1), (3, 1), (4, 1), (5, 1), (6, 1), (7, 1), (8, 0), (9, 1), (10, 1), (11, 1), (12, 1), (13, 1), (14, 1), (15, 1), (16, 1), (17, 1), (18, 1), (19, 1), (20, 0), (21, 1), (22, 1)])] }
theorem ref16_tags_eq (v0 v1 v2 v3 : Value) (Kp : PK) (K : Value → WP) : cevF Tryz.prog ref16_tags_an Tryz.f17 [v0, v1, v2, v3] Kp K = ref16_tags v0 v1 v2 v3 Kp K := by kernel_rfl
theorem ref16_tags_calls {v0 v1 v2 v3 : Value} {Kp : PK} {K : Value → WP} {w : World} (h : ref16_tags v0 v1 v2 v3 Kp K w) : Calls Tryz.prog 17 #[v0, v1, v2, v3] w (after Kp K) :=
  calls_of_shape (calls_of_cev wide Tryz.func17 (an := ref16_tags_an) (args := [v0, v1, v2, v3]) (cast (congrFun (ref16_tags_eq v0 v1 v2 v3 Kp K) w).symm h))
theorem ref16_tags_cn {v0 v1 v2 v3 : Value} {W : World} {α : Type} {A : List HP} {r : α → Value} {B : α → List HP} (h : ∀ F, Ent W (A ++ F) (ref16_tags v0 v1 v2 v3 noP fun v w => ∃ x, v = r x ∧ sat W (B x ++ F) w)) : Cn Tryz.prog 17 [v0, v1, v2, v3] W A r B :=
  Cn.of (shape := ref16_tags v0 v1 v2 v3) Tryz.call17 (fun h => ref16_tags_calls h) h
theorem ref16_tags_cnP {v0 v1 v2 v3 : Value} {W : World} {α β : Type} {A : List HP} {r : α → Value} {B : α → List HP} {pc : β → List PanicEntry} {Bp : β → List HP} (h : ∀ F, Ent W (A ++ F) (ref16_tags v0 v1 v2 v3 (fun ch w => ∃ y, ch = pc y ∧ sat W (Bp y ++ F) w) fun v w => ∃ x, v = r x ∧ sat W (B x ++ F) w)) : CnP Tryz.prog 17 [v0, v1, v2, v3] W A r B pc Bp :=
  CnP.of (shape := ref16_tags v0 v1 v2 v3) Tryz.call17 (fun h => ref16_tags_calls h) h

/-- ref16_date -/
def ref16_date (v0 v1 v2 : Value) (Kp : PK) (K : Value → WP) : WP :=
  opN Tryz.prog (sCall (fn 22) [v0, v1]) Kp fun x15 =>
  opN Tryz.prog (sExt x15 0) Kp fun x16 =>
  opN Tryz.prog (sExt x15 1) Kp fun x17 =>
  opN Tryz.prog (sCall (fn 25) [x16, v2]) Kp fun x21 =>
  opN Tryz.prog (sExt x21 0) Kp fun x22 =>
  opN Tryz.prog (sExt x21 1) Kp fun x23 =>
  gdK x17 true (fun k => k x23) fun x27 =>
  gdK x17 true (opN Tryz.prog (sEq .eql 3 (.tmp 27) (.const (.int .i64 0)) x27 (.int .i64 0)) Kp) fun x28 =>
  opN Tryz.prog (sPick x17 x28 (.bool false)) Kp fun x29 =>
  K (.tuple #[x22, x29])
def ref16_date_an : Ann := { cuts := [], blks := [], loops := [], drs := [] }
theorem ref16_date_eq (v0 v1 v2 : Value) (Kp : PK) (K : Value → WP) : cevF Tryz.prog ref16_date_an Tryz.f18 [v0, v1, v2] Kp K = ref16_date v0 v1 v2 Kp K := by kernel_rfl
theorem ref16_date_calls {v0 v1 v2 : Value} {Kp : PK} {K : Value → WP} {w : World} (h : ref16_date v0 v1 v2 Kp K w) : Calls Tryz.prog 18 #[v0, v1, v2] w (after Kp K) :=
  calls_of_shape (calls_of_cev wide Tryz.func18 (an := ref16_date_an) (args := [v0, v1, v2]) (cast (congrFun (ref16_date_eq v0 v1 v2 Kp K) w).symm h))
theorem ref16_date_cn {v0 v1 v2 : Value} {W : World} {α : Type} {A : List HP} {r : α → Value} {B : α → List HP} (h : ∀ F, Ent W (A ++ F) (ref16_date v0 v1 v2 noP fun v w => ∃ x, v = r x ∧ sat W (B x ++ F) w)) : Cn Tryz.prog 18 [v0, v1, v2] W A r B :=
  Cn.of (shape := ref16_date v0 v1 v2) Tryz.call18 (fun h => ref16_date_calls h) h
theorem ref16_date_cnP {v0 v1 v2 : Value} {W : World} {α β : Type} {A : List HP} {r : α → Value} {B : α → List HP} {pc : β → List PanicEntry} {Bp : β → List HP} (h : ∀ F, Ent W (A ++ F) (ref16_date v0 v1 v2 (fun ch w => ∃ y, ch = pc y ∧ sat W (Bp y ++ F) w) fun v w => ∃ x, v = r x ∧ sat W (B x ++ F) w)) : CnP Tryz.prog 18 [v0, v1, v2] W A r B pc Bp :=
  CnP.of (shape := ref16_date v0 v1 v2) Tryz.call18 (fun h => ref16_date_calls h) h

/-- head_First -/
def head_First (v0 v1 : Value) (Kp : PK) (K : Value → WP) : WP :=
  opN Tryz.prog (sCall (fn 28) [v0, v1]) Kp fun x10 =>
  opN Tryz.prog (sLen #[66] 3 [x10]) Kp fun x11 =>
  loop1 (fun I1 m1 _ y12 =>
   opN Tryz.prog (sBin .lss 3 y12 x11) Kp fun x13 =>
   condS x13
   (opN Tryz.prog (sIA 66 x10 y12) Kp fun x14 =>
    opN Tryz.prog (sLoad 9 x14) Kp fun x15 =>
    K (.tuple #[x15, (.bool true)]))
   (K (.tuple #[(.string ⟨#[]⟩), (.bool false)]))) (.int .i64 0)
def head_First_an : Ann := { cuts := [], blks := [], loops := [(2, [12])], drs := [] }
theorem head_First_eq (v0 v1 : Value) (Kp : PK) (K : Value → WP) : cevF Tryz.prog head_First_an Tryz.f19 [v0, v1] Kp K = head_First v0 v1 Kp K := by kernel_rfl
theorem head_First_calls {v0 v1 : Value} {Kp : PK} {K : Value → WP} {w : World} (h : head_First v0 v1 Kp K w) : Calls Tryz.prog 19 #[v0, v1] w (after Kp K) :=
  calls_of_shape (calls_of_cev wide Tryz.func19 (an := head_First_an) (args := [v0, v1]) (cast (congrFun (head_First_eq v0 v1 Kp K) w).symm h))
theorem head_First_cn {v0 v1 : Value} {W : World} {α : Type} {A : List HP} {r : α → Value} {B : α → List HP} (h : ∀ F, Ent W (A ++ F) (head_First v0 v1 noP fun v w => ∃ x, v = r x ∧ sat W (B x ++ F) w)) : Cn Tryz.prog 19 [v0, v1] W A r B :=
  Cn.of (shape := head_First v0 v1) Tryz.call19 (fun h => head_First_calls h) h
theorem head_First_cnP {v0 v1 : Value} {W : World} {α β : Type} {A : List HP} {r : α → Value} {B : α → List HP} {pc : β → List PanicEntry} {Bp : β → List HP} (h : ∀ F, Ent W (A ++ F) (head_First v0 v1 (fun ch w => ∃ y, ch = pc y ∧ sat W (Bp y ++ F) w) fun v w => ∃ x, v = r x ∧ sat W (B x ++ F) w)) : CnP Tryz.prog 19 [v0, v1] W A r B pc Bp :=
  CnP.of (shape := head_First v0 v1) Tryz.call19 (fun h => head_First_calls h) h

/-- fields_ParseTag -/
def fields_ParseTag (v0 : Value) (Kp : PK) (K : Value → WP) : WP :=
  opN Tryz.prog (sAlloc 28) Kp fun x2 =>
  opN Tryz.prog (sCall (fn 34) [v0]) Kp fun x8 =>
  opN Tryz.prog (sExt x8 0) Kp fun x9 =>
  opN Tryz.prog (sExt x8 1) Kp fun x10 =>
  opN Tryz.prog (sAlloc 28) Kp fun x4 =>
  opN Tryz.prog (sStore 28 x4 x9) Kp fun _ =>
  opN Tryz.prog (sUn .not x10) Kp fun x12 =>
  condS x12
  (opN Tryz.prog (sBuild 28 []) Kp fun x13 =>
   opN Tryz.prog (sStore 28 x2 x13) Kp fun _ =>
   (stS Tryz.prog (sRes 28 x2) fun r0 => K (.tuple #[r0, (.int .i64 42)])))
  (opN Tryz.prog (sLoad 28 x4) Kp fun x14 =>
   opN Tryz.prog (sStore 28 x2 x14) Kp fun _ =>
   (stS Tryz.prog (sRes 28 x2) fun r0 => K (.tuple #[r0, (.int .i64 0)])))
def fields_ParseTag_an : Ann := { cuts := [], blks := [], loops := [], drs := [] }
theorem fields_ParseTag_eq (v0 : Value) (Kp : PK) (K : Value → WP) : cevF Tryz.prog fields_ParseTag_an Tryz.f20 [v0] Kp K = fields_ParseTag v0 Kp K := by kernel_rfl
theorem fields_ParseTag_calls {v0 : Value} {Kp : PK} {K : Value → WP} {w : World} (h : fields_ParseTag v0 Kp K w) : Calls Tryz.prog 20 #[v0] w (after Kp K) :=
  calls_of_shape (calls_of_cev wide Tryz.func20 (an := fields_ParseTag_an) (args := [v0]) (cast (congrFun (fields_ParseTag_eq v0 Kp K) w).symm h))
theorem fields_ParseTag_cn {v0 : Value} {W : World} {α : Type} {A : List HP} {r : α → Value} {B : α → List HP} (h : ∀ F, Ent W (A ++ F) (fields_ParseTag v0 noP fun v w => ∃ x, v = r x ∧ sat W (B x ++ F) w)) : Cn Tryz.prog 20 [v0] W A r B :=
  Cn.of (shape := fields_ParseTag v0) Tryz.call20 (fun h => fields_ParseTag_calls h) h
theorem fields_ParseTag_cnP {v0 : Value} {W : World} {α β : Type} {A : List HP} {r : α → Value} {B : α → List HP} {pc : β → List PanicEntry} {Bp : β → List HP} (h : ∀ F, Ent W (A ++ F) (fields_ParseTag v0 (fun ch w => ∃ y, ch = pc y ∧ sat W (Bp y ++ F) w) fun v w => ∃ x, v = r x ∧ sat W (B x ++ F) w)) : CnP Tryz.prog 20 [v0] W A r B pc Bp :=
  CnP.of (shape := fields_ParseTag v0) Tryz.call20 (fun h => fields_ParseTag_calls h) h

/-- dates_Parse -/
def dates_Parse (v0 v1 : Value) (Kp : PK) (K : Value → WP) : WP :=
  opN Tryz.prog (sBuild 80 [(0, (fn 35)), (1, (fn 36)), (2, (fn 37))]) Kp fun x12 =>
  loop3 (fun I1 m1 _ y6 y7 y13 =>
   opN Tryz.prog (sBin .lss 3 y13 (.int .i64 3)) Kp fun x14 =>
   condS x14
   (opN Tryz.prog (sIx 80 x12 y13) Kp fun x16 =>
    opN Tryz.prog (sCall (fn 38) [v0, y13, v1, x16]) Kp fun x22 =>
    opN Tryz.prog (sExt x22 0) Kp fun x23 =>
    opN Tryz.prog (sExt x22 1) Kp fun x24 =>
    condS x24
    (K (.tuple #[x23, (.int .i64 0)]))
    (opN Tryz.prog (sBin .add 3 y13 (.int .i64 1)) Kp fun x27 =>
     next3 I1 m1 y6 y7 x27))
   (K (.tuple #[y6, y7]))) (.int .i64 0) (.int .i64 41) (.int .i64 0)
def dates_Parse_an : Ann := { cuts := [], blks := [], loops := [(3, [6, 7, 13])], drs := [] }
theorem dates_Parse_eq (v0 v1 : Value) (Kp : PK) (K : Value → WP) : cevF Tryz.prog dates_Parse_an Tryz.f21 [v0, v1] Kp K = dates_Parse v0 v1 Kp K := by kernel_rfl
theorem dates_Parse_calls {v0 v1 : Value} {Kp : PK} {K : Value → WP} {w : World} (h : dates_Parse v0 v1 Kp K w) : Calls Tryz.prog 21 #[v0, v1] w (after Kp K) :=
  calls_of_shape (calls_of_cev wide Tryz.func21 (an := dates_Parse_an) (args := [v0, v1]) (cast (congrFun (dates_Parse_eq v0 v1 Kp K) w).symm h))
theorem dates_Parse_cn {v0 v1 : Value} {W : World} {α : Type} {A : List HP} {r : α → Value} {B : α → List HP} (h : ∀ F, Ent W (A ++ F) (dates_Parse v0 v1 noP fun v w => ∃ x, v = r x ∧ sat W (B x ++ F) w)) : Cn Tryz.prog 21 [v0, v1] W A r B :=
  Cn.of (shape := dates_Parse v0 v1) Tryz.call21 (fun h => dates_Parse_calls h) h
theorem dates_Parse_cnP {v0 v1 : Value} {W : World} {α β : Type} {A : List HP} {r : α → Value} {B : α → List HP} {pc : β → List PanicEntry} {Bp : β → List HP} (h : ∀ F, Ent W (A ++ F) (dates_Parse v0 v1 (fun ch w => ∃ y, ch = pc y ∧ sat W (Bp y ++ F) w) fun v w => ∃ x, v = r x ∧ sat W (B x ++ F) w)) : CnP Tryz.prog 21 [v0, v1] W A r B pc Bp :=
  CnP.of (shape := dates_Parse v0 v1) Tryz.call21 (fun h => dates_Parse_calls h) h

/-- ref11_First -/
def ref11_First (v0 v1 : Value) (Kp : PK) (K : Value → WP) : WP :=
  opN Tryz.prog (sCall (fn 31) [v0, v1]) Kp fun x9 =>
  opN Tryz.prog (sLen #[66] 3 [x9]) Kp fun x11 =>
  opN Tryz.prog (sEq .eql 3 (.tmp 11) (.const (.int .i64 0)) x11 (.int .i64 0)) Kp fun x12 =>
  condS x12
  (K (.tuple #[(.string ⟨#[]⟩), (.bool false)]))
  (opN Tryz.prog (sIA 66 x9 (.int .i64 0)) Kp fun x14 =>
   opN Tryz.prog (sLoad 9 x14) Kp fun x15 =>
   K (.tuple #[x15, (.bool true)]))
def ref11_First_an : Ann := { cuts := [], blks := [], loops := [], drs := [] }
theorem ref11_First_eq (v0 v1 : Value) (Kp : PK) (K : Value → WP) : cevF Tryz.prog ref11_First_an Tryz.f22 [v0, v1] Kp K = ref11_First v0 v1 Kp K := by kernel_rfl
theorem ref11_First_calls {v0 v1 : Value} {Kp : PK} {K : Value → WP} {w : World} (h : ref11_First v0 v1 Kp K w) : Calls Tryz.prog 22 #[v0, v1] w (after Kp K) :=
  calls_of_shape (calls_of_cev wide Tryz.func22 (an := ref11_First_an) (args := [v0, v1]) (cast (congrFun (ref11_First_eq v0 v1 Kp K) w).symm h))
theorem ref11_First_cn {v0 v1 : Value} {W : World} {α : Type} {A : List HP} {r : α → Value} {B : α → List HP} (h : ∀ F, Ent W (A ++ F) (ref11_First v0 v1 noP fun v w => ∃ x, v = r x ∧ sat W (B x ++ F) w)) : Cn Tryz.prog 22 [v0, v1] W A r B :=
  Cn.of (shape := ref11_First v0 v1) Tryz.call22 (fun h => ref11_First_calls h) h
theorem ref11_First_cnP {v0 v1 : Value} {W : World} {α β : Type} {A : List HP} {r : α → Value} {B : α → List HP} {pc : β → List PanicEntry} {Bp : β → List HP} (h : ∀ F, Ent W (A ++ F) (ref11_First v0 v1 (fun ch w => ∃ y, ch = pc y ∧ sat W (Bp y ++ F) w) fun v w => ∃ x, v = r x ∧ sat W (B x ++ F) w)) : CnP Tryz.prog 22 [v0, v1] W A r B pc Bp :=
  CnP.of (shape := ref11_First v0 v1) Tryz.call22 (fun h => ref11_First_calls h) h

/-- ref10_ParseTag -/
def ref10_ParseTag (v0 : Value) (Kp : PK) (K : Value → WP) : WP :=
  opN Tryz.prog (sAlloc 24) Kp fun x2 =>
  opN Tryz.prog (sBuild 24 []) Kp fun x7 =>
  opN Tryz.prog (sAlloc 24) Kp fun x4 =>
  opN Tryz.prog (sStore 24 x4 x7) Kp fun _ =>
  cut1 (fun J1 =>
   opN Tryz.prog (sLen #[9] 3 [v0]) Kp fun x9 =>
   opN Tryz.prog (sBin .geq 3 x9 (.int .i64 2)) Kp fun x10 =>
   gdK x10 true (fun k => k v0) fun x12 =>
   gdK x10 true (opN Tryz.prog (sSl 9 x12 none (some (.int .i64 2)) none) Kp) fun x13 =>
   gdK x10 true (opN Tryz.prog (sEq .eql 9 (.tmp 13) (.const (.string ⟨#[87, 47]⟩)) x13 (.string ⟨#[87, 47]⟩)) Kp) fun x14 =>
   opN Tryz.prog (sPick x10 x14 (.bool false)) Kp fun x15 =>
   condS x15
   (opN Tryz.prog (sFA 24 x4 0) Kp fun x16 =>
    opN Tryz.prog (sStore 4 x16 (.bool true)) Kp fun _ =>
    opN Tryz.prog (sSl 9 v0 (some (.int .i64 2)) none none) Kp fun x18 =>
    J1 x18)
   (J1 v0)) fun _ z0 =>
  opN Tryz.prog (sLen #[9] 3 [z0]) Kp fun x20 =>
  opN Tryz.prog (sBin .lss 3 x20 (.int .i64 2)) Kp fun x21 =>
  gdK x21 false (fun k => k z0) fun x23 =>
  gdK x21 false (opN Tryz.prog (sIx 9 x23 (.int .i64 0)) Kp) fun x24 =>
  gdK x21 false (opN Tryz.prog (sEq .neq 5 (.tmp 24) (.const (.int .u8 34)) x24 (.int .u8 34)) Kp) fun x25 =>
  opN Tryz.prog (sPick x21 (.bool true) x25) Kp fun x26 =>
  gdK x26 false (fun k => k z0) fun x28 =>
  gdK x26 false (fun k => k z0) fun x29 =>
  gdK x26 false (opN Tryz.prog (sLen #[9] 3 [x29]) Kp) fun x30 =>
  gdK x26 false (opN Tryz.prog (sBin .sub 3 x30 (.int .i64 1)) Kp) fun x31 =>
  gdK x26 false (opN Tryz.prog (sIx 9 x28 x31) Kp) fun x32 =>
  gdK x26 false (opN Tryz.prog (sEq .neq 5 (.tmp 32) (.const (.int .u8 34)) x32 (.int .u8 34)) Kp) fun x33 =>
  opN Tryz.prog (sPick x26 (.bool true) x33) Kp fun x34 =>
  condS x34
  (opN Tryz.prog (sBuild 24 []) Kp fun x35 =>
   opN Tryz.prog (sStore 24 x2 x35) Kp fun _ =>
   (stS Tryz.prog (sRes 24 x2) fun r0 => K (.tuple #[r0, (.int .i64 42)])))
  (opN Tryz.prog (sLen #[9] 3 [z0]) Kp fun x38 =>
   opN Tryz.prog (sBin .sub 3 x38 (.int .i64 1)) Kp fun x39 =>
   opN Tryz.prog (sSl 9 z0 (some (.int .i64 1)) (some x39) none) Kp fun x40 =>
   opN Tryz.prog (sFA 24 x4 1) Kp fun x41 =>
   opN Tryz.prog (sStore 9 x41 x40) Kp fun _ =>
   loop1 (fun I1 m1 _ y5 =>
    opN Tryz.prog (sFA 24 x4 1) Kp fun x43 =>
    opN Tryz.prog (sLoad 9 x43) Kp fun x44 =>
    opN Tryz.prog (sLen #[9] 3 [x44]) Kp fun x45 =>
    opN Tryz.prog (sBin .lss 3 y5 x45) Kp fun x46 =>
    condS x46
    (opN Tryz.prog (sFA 24 x4 1) Kp fun x49 =>
     opN Tryz.prog (sLoad 9 x49) Kp fun x50 =>
     opN Tryz.prog (sIx 9 x50 y5) Kp fun x52 =>
     opN Tryz.prog (sBin .lss 5 x52 (.int .u8 33)) Kp fun x54 =>
     gdK x54 false (fun k => k x52) fun x56 =>
     gdK x54 false (opN Tryz.prog (sEq .eql 5 (.tmp 56) (.const (.int .u8 34)) x56 (.int .u8 34)) Kp) fun x57 =>
     opN Tryz.prog (sPick x54 (.bool true) x57) Kp fun x58 =>
     gdK x58 false (fun k => k x52) fun x60 =>
     gdK x58 false (opN Tryz.prog (sEq .eql 5 (.tmp 60) (.const (.int .u8 127)) x60 (.int .u8 127)) Kp) fun x61 =>
     opN Tryz.prog (sPick x58 (.bool true) x61) Kp fun x62 =>
     condS x62
     (opN Tryz.prog (sBuild 24 []) Kp fun x63 =>
      opN Tryz.prog (sStore 24 x2 x63) Kp fun _ =>
      (stS Tryz.prog (sRes 24 x2) fun r0 => K (.tuple #[r0, (.int .i64 42)])))
     (opN Tryz.prog (sBin .add 3 y5 (.int .i64 1)) Kp fun x48 =>
      next1 I1 m1 x48))
    (opN Tryz.prog (sLoad 24 x4) Kp fun x64 =>
     opN Tryz.prog (sStore 24 x2 x64) Kp fun _ =>
     (stS Tryz.prog (sRes 24 x2) fun r0 => K (.tuple #[r0, (.int .i64 0)])))) (.int .i64 0))
def ref10_ParseTag_an : Ann := { cuts := [(5, [0])], blks := [], loops := [(9, [5])], drs := [] }
theorem ref10_ParseTag_eq (v0 : Value) (Kp : PK) (K : Value → WP) : cevF Tryz.prog ref10_ParseTag_an Tryz.f23 [v0] Kp K = ref10_ParseTag v0 Kp K := by kernel_rfl
theorem ref10_ParseTag_calls {v0 : Value} {Kp : PK} {K : Value → WP} {w : World} (h : ref10_ParseTag v0 Kp K w) : Calls Tryz.prog 23 #[v0] w (after Kp K) :=
  calls_of_shape (calls_of_cev wide Tryz.func23 (an := ref10_ParseTag_an) (args := [v0]) (cast (congrFun (ref10_ParseTag_eq v0 Kp K) w).symm h))
theorem ref10_ParseTag_cn {v0 : Value} {W : World} {α : Type} {A : List HP} {r : α → Value} {B : α → List HP} (h : ∀ F, Ent W (A ++ F) (ref10_ParseTag v0 noP fun v w => ∃ x, v = r x ∧ sat W (B x ++ F) w)) : Cn Tryz.prog 23 [v0] W A r B :=
  Cn.of (shape := ref10_ParseTag v0) Tryz.call23 (fun h => ref10_ParseTag_calls h) h
theorem ref10_ParseTag_cnP {v0 : Value} {W : World} {α β : Type} {A : List HP} {r : α → Value} {B : α → List HP} {pc : β → List PanicEntry} {Bp : β → List HP} (h : ∀ F, Ent W (A ++ F) (ref10_ParseTag v0 (fun ch w => ∃ y, ch = pc y ∧ sat W (Bp y ++ F) w) fun v w => ∃ x, v = r x ∧ sat W (B x ++ F) w)) : CnP Tryz.prog 23 [v0] W A r B pc Bp :=
  CnP.of (shape := ref10_ParseTag v0) Tryz.call23 (fun h => ref10_ParseTag_calls h) h

/-- ref10_Strong -/
def ref10_Strong (v0 v1 : Value) (Kp : PK) (K : Value → WP) : WP :=
  opN Tryz.prog (sBox 24 v0) Kp fun x2 =>
  opN Tryz.prog (sBox 24 v1) Kp fun x3 =>
  opN Tryz.prog (sFA 24 x2 0) Kp fun x5 =>
  opN Tryz.prog (sLoad 4 x5) Kp fun x6 =>
  opN Tryz.prog (sUn .not x6) Kp fun x7 =>
  gdK x7 true (opN Tryz.prog (sFA 24 x3 0) Kp) fun x9 =>
  gdK x7 true (opN Tryz.prog (sLoad 4 x9) Kp) fun x10 =>
  gdK x7 true (opN Tryz.prog (sUn .not x10) Kp) fun x11 =>
  opN Tryz.prog (sPick x7 x11 (.bool false)) Kp fun x12 =>
  gdK x12 true (opN Tryz.prog (sFA 24 x2 1) Kp) fun x14 =>
  gdK x12 true (opN Tryz.prog (sLoad 9 x14) Kp) fun x15 =>
  gdK x12 true (opN Tryz.prog (sFA 24 x3 1) Kp) fun x16 =>
  gdK x12 true (opN Tryz.prog (sLoad 9 x16) Kp) fun x17 =>
  gdK x12 true (opN Tryz.prog (sEq .eql 9 (.tmp 15) (.tmp 17) x15 x17) Kp) fun x18 =>
  opN Tryz.prog (sPick x12 x18 (.bool false)) Kp fun x19 =>
  K x19
def ref10_Strong_an : Ann := { cuts := [], blks := [], loops := [], drs := [] }
theorem ref10_Strong_eq (v0 v1 : Value) (Kp : PK) (K : Value → WP) : cevF Tryz.prog ref10_Strong_an Tryz.f24 [v0, v1] Kp K = ref10_Strong v0 v1 Kp K := by kernel_rfl
theorem ref10_Strong_calls {v0 v1 : Value} {Kp : PK} {K : Value → WP} {w : World} (h : ref10_Strong v0 v1 Kp K w) : Calls Tryz.prog 24 #[v0, v1] w (after Kp K) :=
  calls_of_shape (calls_of_cev wide Tryz.func24 (an := ref10_Strong_an) (args := [v0, v1]) (cast (congrFun (ref10_Strong_eq v0 v1 Kp K) w).symm h))
theorem ref10_Strong_cn {v0 v1 : Value} {W : World} {α : Type} {A : List HP} {r : α → Value} {B : α → List HP} (h : ∀ F, Ent W (A ++ F) (ref10_Strong v0 v1 noP fun v w => ∃ x, v = r x ∧ sat W (B x ++ F) w)) : Cn Tryz.prog 24 [v0, v1] W A r B :=
  Cn.of (shape := ref10_Strong v0 v1) Tryz.call24 (fun h => ref10_Strong_calls h) h
theorem ref10_Strong_cnP {v0 v1 : Value} {W : World} {α β : Type} {A : List HP} {r : α → Value} {B : α → List HP} {pc : β → List PanicEntry} {Bp : β → List HP} (h : ∀ F, Ent W (A ++ F) (ref10_Strong v0 v1 (fun ch w => ∃ y, ch = pc y ∧ sat W (Bp y ++ F) w) fun v w => ∃ x, v = r x ∧ sat W (B x ++ F) w)) : CnP Tryz.prog 24 [v0, v1] W A r B pc Bp :=
  CnP.of (shape := ref10_Strong v0 v1) Tryz.call24 (fun h => ref10_Strong_calls h) h

/-- ref09_Parse -/
def ref09_Parse (v0 v1 : Value) (Kp : PK) (K : Value → WP) : WP :=
  opN Tryz.prog (sCall (fn 41) [v0, (.int .i64 12), (.int .i64 4)]) Kp fun x15 =>
  opN Tryz.prog (sCall (fn 40) [v0, (.int .i64 5), (.int .i64 8), (.int .i64 17), x15]) Kp fun x16 =>
  opN Tryz.prog (sCall (fn 39) [v0, x16, (.int .i64 1)]) Kp fun x17 =>
  opN Tryz.prog (sExt x17 0) Kp fun x18 =>
  opN Tryz.prog (sExt x17 1) Kp fun x19 =>
  opN Tryz.prog (sEq .eql 3 (.tmp 20) (.const (.int .i64 0)) x19 (.int .i64 0)) Kp fun x21 =>
  condS x21
  (K (.tuple #[x18, (.int .i64 0)]))
  (loop1 (fun I1 m1 _ y8 =>
    opN Tryz.prog (sLen #[9] 3 [v0]) Kp fun x25 =>
    opN Tryz.prog (sBin .lss 3 y8 x25) Kp fun x26 =>
    gdK x26 true (fun k => k v0) fun x28 =>
    gdK x26 true (fun k => k y8) fun x29 =>
    gdK x26 true (opN Tryz.prog (sIx 9 x28 x29) Kp) fun x30 =>
    gdK x26 true (opN Tryz.prog (sEq .neq 5 (.tmp 30) (.const (.int .u8 44)) x30 (.int .u8 44)) Kp) fun x31 =>
    opN Tryz.prog (sPick x26 x31 (.bool false)) Kp fun x32 =>
    condS x32
    (opN Tryz.prog (sBin .add 3 y8 (.int .i64 1)) Kp fun x34 =>
     next1 I1 m1 x34)
    (opN Tryz.prog (sBin .add 3 y8 (.int .i64 9)) Kp fun x37 =>
     opN Tryz.prog (sCall (fn 41) [v0, x37, (.int .i64 2)]) Kp fun x38 =>
     cut0 (fun J1 =>
      opN Tryz.prog (sBin .geq 3 x38 (.int .i64 0)) Kp fun x40 =>
      condS x40
      (opN Tryz.prog (sBin .add 3 y8 (.int .i64 2)) Kp fun x45 =>
       opN Tryz.prog (sBin .add 3 y8 (.int .i64 5)) Kp fun x47 =>
       opN Tryz.prog (sBin .add 3 y8 (.int .i64 12)) Kp fun x49 =>
       opN Tryz.prog (sCall (fn 42) [x38, v1]) Kp fun x52 =>
       opN Tryz.prog (sCall (fn 40) [v0, x45, x47, x49, x52]) Kp fun x53 =>
       opN Tryz.prog (sCall (fn 39) [v0, x53, (.int .i64 2)]) Kp fun x54 =>
       opN Tryz.prog (sExt x54 0) Kp fun x55 =>
       opN Tryz.prog (sExt x54 1) Kp fun x56 =>
       opN Tryz.prog (sEq .eql 3 (.tmp 57) (.const (.int .i64 0)) x56 (.int .i64 0)) Kp fun x58 =>
       condS x58
       (K (.tuple #[x55, (.int .i64 0)]))
       (J1))
      (J1)) fun _ =>
     opN Tryz.prog (sCall (fn 41) [v0, (.int .i64 20), (.int .i64 4)]) Kp fun x62 =>
     opN Tryz.prog (sCall (fn 40) [v0, (.int .i64 8), (.int .i64 4), (.int .i64 11), x62]) Kp fun x63 =>
     opN Tryz.prog (sAlloc 84) Kp fun x10 =>
     opN Tryz.prog (sStore 84 x10 x63) Kp fun _ =>
     cut0 (fun J2 =>
      opN Tryz.prog (sLen #[9] 3 [v0]) Kp fun x65 =>
      opN Tryz.prog (sBin .gtr 3 x65 (.int .i64 9)) Kp fun x66 =>
      gdK x66 true (fun k => k v0) fun x68 =>
      gdK x66 true (opN Tryz.prog (sIx 9 x68 (.int .i64 8)) Kp) fun x69 =>
      gdK x66 true (opN Tryz.prog (sEq .eql 5 (.tmp 69) (.const (.int .u8 32)) x69 (.int .u8 32)) Kp) fun x70 =>
      opN Tryz.prog (sPick x66 x70 (.bool false)) Kp fun x71 =>
      condS x71
      (opN Tryz.prog (sCall (fn 41) [v0, (.int .i64 9), (.int .i64 1)]) Kp fun x73 =>
       opN Tryz.prog (sFA 84 x10 2) Kp fun x74 =>
       opN Tryz.prog (sStore 3 x74 x73) Kp fun _ =>
       J2)
      (J2)) fun _ =>
     opN Tryz.prog (sLoad 84 x10) Kp fun x76 =>
     opN Tryz.prog (sCall (fn 39) [v0, x76, (.int .i64 3)]) Kp fun x77 =>
     opN Tryz.prog (sExt x77 0) Kp fun x78 =>
     opN Tryz.prog (sExt x77 1) Kp fun x79 =>
     K (.tuple #[x78, x79]))) (.int .i64 0))
def ref09_Parse_an : Ann := { cuts := [(12, []), (15, [])], blks := [], loops := [(5, [8])], drs := [] }
theorem ref09_Parse_eq (v0 v1 : Value) (Kp : PK) (K : Value → WP) : cevF Tryz.prog ref09_Parse_an Tryz.f25 [v0, v1] Kp K = ref09_Parse v0 v1 Kp K := by kernel_rfl
theorem ref09_Parse_calls {v0 v1 : Value} {Kp : PK} {K : Value → WP} {w : World} (h : ref09_Parse v0 v1 Kp K w) : Calls Tryz.prog 25 #[v0, v1] w (after Kp K) :=
  calls_of_shape (calls_of_cev wide Tryz.func25 (an := ref09_Parse_an) (args := [v0, v1]) (cast (congrFun (ref09_Parse_eq v0 v1 Kp K) w).symm h))
theorem ref09_Parse_cn {v0 v1 : Value} {W : World} {α : Type} {A : List HP} {r : α → Value} {B : α → List HP} (h : ∀ F, Ent W (A ++ F) (ref09_Parse v0 v1 noP fun v w => ∃ x, v = r x ∧ sat W (B x ++ F) w)) : Cn Tryz.prog 25 [v0, v1] W A r B :=
  Cn.of (shape := ref09_Parse v0 v1) Tryz.call25 (fun h => ref09_Parse_calls h) h
theorem ref09_Parse_cnP {v0 v1 : Value} {W : World} {α β : Type} {A : List HP} {r : α → Value} {B : α → List HP} {pc : β → List PanicEntry} {Bp : β → List HP} (h : ∀ F, Ent W (A ++ F) (ref09_Parse v0 v1 (fun ch w => ∃ y, ch = pc y ∧ sat W (Bp y ++ F) w) fun v w => ∃ x, v = r x ∧ sat W (B x ++ F) w)) : CnP Tryz.prog 25 [v0, v1] W A r B pc Bp :=
  CnP.of (shape := ref09_Parse v0 v1) Tryz.call25 (fun h => ref09_Parse_calls h) h

/-- fields_TagText -/
def fields_TagText (v0 : Value) (Kp : PK) (K : Value → WP) : WP :=
  opN Tryz.prog (sBox 28 v0) Kp fun x1 =>
  cut1 (fun J1 =>
   opN Tryz.prog (sFA 28 x1 0) Kp fun x4 =>
   opN Tryz.prog (sLoad 4 x4) Kp fun x5 =>
   condS x5
   (J1 (.string ⟨#[87, 47]⟩))
   (J1 (.string ⟨#[]⟩))) fun _ z3 =>
  opN Tryz.prog (sBin .add 9 z3 (.string ⟨#[34]⟩)) Kp fun x7 =>
  opN Tryz.prog (sFA 28 x1 1) Kp fun x8 =>
  opN Tryz.prog (sLoad 9 x8) Kp fun x9 =>
  opN Tryz.prog (sBin .add 9 x7 x9) Kp fun x10 =>
  opN Tryz.prog (sBin .add 9 x10 (.string ⟨#[34]⟩)) Kp fun x11 =>
  K x11
def fields_TagText_an : Ann := { cuts := [(4, [3])], blks := [], loops := [], drs := [] }
theorem fields_TagText_eq (v0 : Value) (Kp : PK) (K : Value → WP) : cevF Tryz.prog fields_TagText_an Tryz.f26 [v0] Kp K = fields_TagText v0 Kp K := by kernel_rfl
theorem fields_TagText_calls {v0 : Value} {Kp : PK} {K : Value → WP} {w : World} (h : fields_TagText v0 Kp K w) : Calls Tryz.prog 26 #[v0] w (after Kp K) :=
  calls_of_shape (calls_of_cev wide Tryz.func26 (an := fields_TagText_an) (args := [v0]) (cast (congrFun (fields_TagText_eq v0 Kp K) w).symm h))
theorem fields_TagText_cn {v0 : Value} {W : World} {α : Type} {A : List HP} {r : α → Value} {B : α → List HP} (h : ∀ F, Ent W (A ++ F) (fields_TagText v0 noP fun v w => ∃ x, v = r x ∧ sat W (B x ++ F) w)) : Cn Tryz.prog 26 [v0] W A r B :=
  Cn.of (shape := fields_TagText v0) Tryz.call26 (fun h => fields_TagText_calls h) h
theorem fields_TagText_cnP {v0 : Value} {W : World} {α β : Type} {A : List HP} {r : α → Value} {B : α → List HP} {pc : β → List PanicEntry} {Bp : β → List HP} (h : ∀ F, Ent W (A ++ F) (fields_TagText v0 (fun ch w => ∃ y, ch = pc y ∧ sat W (Bp y ++ F) w) fun v w => ∃ x, v = r x ∧ sat W (B x ++ F) w)) : CnP Tryz.prog 26 [v0] W A r B pc Bp :=
  CnP.of (shape := fields_TagText v0) Tryz.call26 (fun h => fields_TagText_calls h) h

/-- law16_one -/
def law16_one (v0 v1 : Value) (Kp : PK) (K : Value → WP) : WP :=
  opN Tryz.prog (sBuild 63 [(0, v0), (1, v1)]) Kp fun x7 =>
  opN Tryz.prog (sBuildSl 22 1 [(0, x7)]) Kp fun x8 =>
  K x8
def law16_one_an : Ann := { cuts := [], blks := [], loops := [], drs := [] }
theorem law16_one_eq (v0 v1 : Value) (Kp : PK) (K : Value → WP) : cevF Tryz.prog law16_one_an Tryz.f27 [v0, v1] Kp K = law16_one v0 v1 Kp K := by kernel_rfl
theorem law16_one_calls {v0 v1 : Value} {Kp : PK} {K : Value → WP} {w : World} (h : law16_one v0 v1 Kp K w) : Calls Tryz.prog 27 #[v0, v1] w (after Kp K) :=
  calls_of_shape (calls_of_cev wide Tryz.func27 (an := law16_one_an) (args := [v0, v1]) (cast (congrFun (law16_one_eq v0 v1 Kp K) w).symm h))
theorem law16_one_cn {v0 v1 : Value} {W : World} {α : Type} {A : List HP} {r : α → Value} {B : α → List HP} (h : ∀ F, Ent W (A ++ F) (law16_one v0 v1 noP fun v w => ∃ x, v = r x ∧ sat W (B x ++ F) w)) : Cn Tryz.prog 27 [v0, v1] W A r B :=
  Cn.of (shape := law16_one v0 v1) Tryz.call27 (fun h => law16_one_calls h) h
theorem law16_one_cnP {v0 v1 : Value} {W : World} {α β : Type} {A : List HP} {r : α → Value} {B : α → List HP} {pc : β → List PanicEntry} {Bp : β → List HP} (h : ∀ F, Ent W (A ++ F) (law16_one v0 v1 (fun ch w => ∃ y, ch = pc y ∧ sat W (Bp y ++ F) w) fun v w => ∃ x, v = r x ∧ sat W (B x ++ F) w)) : CnP Tryz.prog 27 [v0, v1] W A r B pc Bp :=
  CnP.of (shape := law16_one v0 v1) Tryz.call27 (fun h => law16_one_calls h) h

/-- head_Values -/
def head_Values (v0 v1 : Value) (Kp : PK) (K : Value → WP) : WP :=
  opN Tryz.prog (sLen #[22] 3 [v0]) Kp fun x9 =>
  loop2 (fun I1 m1 _ y5 y10 =>
   opN Tryz.prog (sBin .lss 3 y10 x9) Kp fun x11 =>
   condS x11
   (opN Tryz.prog (sIA 22 v0 y10) Kp fun x12 =>
    opN Tryz.prog (sLoad 63 x12) Kp fun x13 =>
    opN Tryz.prog (sAlloc 63) Kp fun x7 =>
    opN Tryz.prog (sStore 63 x7 x13) Kp fun _ =>
    opN Tryz.prog (sFA 63 x7 0) Kp fun x14 =>
    opN Tryz.prog (sLoad 9 x14) Kp fun x15 =>
    opN Tryz.prog (sCall (fn 43) [x15, v1]) Kp fun x17 =>
    condS x17
    (opN Tryz.prog (sFA 63 x7 1) Kp fun x19 =>
     opN Tryz.prog (sLoad 9 x19) Kp fun x20 =>
     opN Tryz.prog (sBuildSl 66 1 [(0, x20)]) Kp fun x21 =>
     opN Tryz.prog (sApp #[66, 66] 66 [y5, x21]) Kp fun x22 =>
     opN Tryz.prog (sBin .add 3 y10 (.int .i64 1)) Kp fun x23 =>
     next2 I1 m1 x22 x23)
    (opN Tryz.prog (sBin .add 3 y10 (.int .i64 1)) Kp fun x23 =>
     next2 I1 m1 y5 x23))
   (K y5)) (.slice none 0 0) (.int .i64 0)
def head_Values_an : Ann := { cuts := [], blks := [], loops := [(3, [5, 10])], drs := [] }
theorem head_Values_eq (v0 v1 : Value) (Kp : PK) (K : Value → WP) : cevF Tryz.prog head_Values_an Tryz.f28 [v0, v1] Kp K = head_Values v0 v1 Kp K := by kernel_rfl
theorem head_Values_calls {v0 v1 : Value} {Kp : PK} {K : Value → WP} {w : World} (h : head_Values v0 v1 Kp K w) : Calls Tryz.prog 28 #[v0, v1] w (after Kp K) :=
  calls_of_shape (calls_of_cev wide Tryz.func28 (an := head_Values_an) (args := [v0, v1]) (cast (congrFun (head_Values_eq v0 v1 Kp K) w).symm h))
theorem head_Values_cn {v0 v1 : Value} {W : World} {α : Type} {A : List HP} {r : α → Value} {B : α → List HP} (h : ∀ F, Ent W (A ++ F) (head_Values v0 v1 noP fun v w => ∃ x, v = r x ∧ sat W (B x ++ F) w)) : Cn Tryz.prog 28 [v0, v1] W A r B :=
  Cn.of (shape := head_Values v0 v1) Tryz.call28 (fun h => head_Values_calls h) h
theorem head_Values_cnP {v0 v1 : Value} {W : World} {α β : Type} {A : List HP} {r : α → Value} {B : α → List HP} {pc : β → List PanicEntry} {Bp : β → List HP} (h : ∀ F, Ent W (A ++ F) (head_Values v0 v1 (fun ch w => ∃ y, ch = pc y ∧ sat W (Bp y ++ F) w) fun v w => ∃ x, v = r x ∧ sat W (B x ++ F) w)) : CnP Tryz.prog 28 [v0, v1] W A r B pc Bp :=
  CnP.of (shape := head_Values v0 v1) Tryz.call28 (fun h => head_Values_calls h) h

/-- fields_Tags -/
def fields_Tags (v0 : Value) (Kp : PK) (K : Value → WP) : WP :=
  opN Tryz.prog (sCall (fn 44) [v0]) Kp fun x6 =>
  opN Tryz.prog (sEq .eql 9 (.tmp 6) (.const (.string ⟨#[42]⟩)) x6 (.string ⟨#[42]⟩)) Kp fun x7 =>
  condS x7
  (K (.tuple #[(.slice none 0 0), (.bool true), (.int .i64 0)]))
  (opN Tryz.prog (sBuild 93 [(0, (.bool true)), (2, (fn 34))]) Kp fun x10 =>
   opN Tryz.prog (sCall (fn 45) [v0, x10]) Kp fun x11 =>
   opN Tryz.prog (sExt x11 0) Kp fun x12 =>
   opN Tryz.prog (sExt x11 1) Kp fun x13 =>
   opN Tryz.prog (sEq .eql 52 (.tmp 14) (.const (.int .i64 0)) x13 (.int .i64 0)) Kp fun x15 =>
   gdK x15 true (fun k => k x12) fun x17 =>
   gdK x15 true (opN Tryz.prog (sLen #[68] 3 [x17]) Kp) fun x18 =>
   gdK x15 true (opN Tryz.prog (sEq .eql 3 (.tmp 18) (.const (.int .i64 0)) x18 (.int .i64 0)) Kp) fun x19 =>
   opN Tryz.prog (sPick x15 x19 (.bool false)) Kp fun x20 =>
   condS x20
   (K (.tuple #[x12, (.bool false), (.int .i64 42)]))
   (K (.tuple #[x12, (.bool false), x13])))
def fields_Tags_an : Ann := { cuts := [], blks := [], loops := [], drs := [] }
theorem fields_Tags_eq (v0 : Value) (Kp : PK) (K : Value → WP) : cevF Tryz.prog fields_Tags_an Tryz.f29 [v0] Kp K = fields_Tags v0 Kp K := by kernel_rfl
theorem fields_Tags_calls {v0 : Value} {Kp : PK} {K : Value → WP} {w : World} (h : fields_Tags v0 Kp K w) : Calls Tryz.prog 29 #[v0] w (after Kp K) :=
  calls_of_shape (calls_of_cev wide Tryz.func29 (an := fields_Tags_an) (args := [v0]) (cast (congrFun (fields_Tags_eq v0 Kp K) w).symm h))
theorem fields_Tags_cn {v0 : Value} {W : World} {α : Type} {A : List HP} {r : α → Value} {B : α → List HP} (h : ∀ F, Ent W (A ++ F) (fields_Tags v0 noP fun v w => ∃ x, v = r x ∧ sat W (B x ++ F) w)) : Cn Tryz.prog 29 [v0] W A r B :=
  Cn.of (shape := fields_Tags v0) Tryz.call29 (fun h => fields_Tags_calls h) h
theorem fields_Tags_cnP {v0 : Value} {W : World} {α β : Type} {A : List HP} {r : α → Value} {B : α → List HP} {pc : β → List PanicEntry} {Bp : β → List HP} (h : ∀ F, Ent W (A ++ F) (fields_Tags v0 (fun ch w => ∃ y, ch = pc y ∧ sat W (Bp y ++ F) w) fun v w => ∃ x, v = r x ∧ sat W (B x ++ F) w)) : CnP Tryz.prog 29 [v0] W A r B pc Bp :=
  CnP.of (shape := fields_Tags v0) Tryz.call29 (fun h => fields_Tags_calls h) h

/-- strings_Join -/
def strings_Join (v0 v1 : Value) (Kp : PK) (K : Value → WP) : WP :=
  opN Tryz.prog (sLen #[66] 3 [v0]) Kp fun x12 =>
  opN Tryz.prog (sEq .eql 3 (.tmp 12) (.const (.int .i64 0)) x12 (.int .i64 0)) Kp fun x14 =>
  condS x14
  (K (.string ⟨#[]⟩))
  (opN Tryz.prog (sEq .eql 3 (.tmp 12) (.const (.int .i64 1)) x12 (.int .i64 1)) Kp fun x16 =>
   condS x16
   (opN Tryz.prog (sIA 66 v0 (.int .i64 0)) Kp fun x18 =>
    opN Tryz.prog (sLoad 9 x18) Kp fun x19 =>
    K x19)
   (cut1 (fun J1 =>
     opN Tryz.prog (sLen #[9] 3 [v1]) Kp fun x21 =>
     opN Tryz.prog (sBin .gtr 3 x21 (.int .i64 0)) Kp fun x22 =>
     condS x22
     (cut0 (fun J2 =>
       opN Tryz.prog (sLen #[9] 3 [v1]) Kp fun x24 =>
       opN Tryz.prog (sLen #[66] 3 [v0]) Kp fun x26 =>
       opN Tryz.prog (sBin .sub 3 x26 (.int .i64 1)) Kp fun x27 =>
       opN Tryz.prog (sBin .quo 3 (.int .i64 9223372036854775807) x27) Kp fun x28 =>
       opN Tryz.prog (sBin .geq 3 x24 x28) Kp fun x29 =>
       condS x29
       (opN Tryz.prog (sMkI 9 (.string ⟨#[115, 116, 114, 105, 110, 103, 115, 58, 32, 74, 111, 105, 110, 32, 111, 117, 116, 112, 117, 116, 32, 108, 101, 110, 103, 116, 104, 32, 111, 118, 101, 114, 102, 108, 111, 119]⟩)) Kp fun x30 =>
        opN Tryz.prog (sPanic x30) Kp fun _ =>
        J2)
       (J2)) fun _ =>
      opN Tryz.prog (sLen #[9] 3 [v1]) Kp fun x33 =>
      opN Tryz.prog (sLen #[66] 3 [v0]) Kp fun x35 =>
      opN Tryz.prog (sBin .sub 3 x35 (.int .i64 1)) Kp fun x36 =>
      opN Tryz.prog (sBin .mul 3 x33 x36) Kp fun x37 =>
      opN Tryz.prog (sBin .add 3 (.int .i64 0) x37) Kp fun x38 =>
      J1 x38)
     (J1 (.int .i64 0))) fun _ z5 =>
    opN Tryz.prog (sLen #[66] 3 [v0]) Kp fun x40 =>
    loop2 (fun I1 m1 _ y5 y41 =>
     opN Tryz.prog (sBin .lss 3 y41 x40) Kp fun x42 =>
     condS x42
     (opN Tryz.prog (sIA 66 v0 y41) Kp fun x43 =>
      opN Tryz.prog (sLoad 9 x43) Kp fun x44 =>
      cut0 (fun J3 =>
       opN Tryz.prog (sLen #[9] 3 [x44]) Kp fun x46 =>
       opN Tryz.prog (sBin .sub 3 (.int .i64 9223372036854775807) y5) Kp fun x48 =>
       opN Tryz.prog (sBin .gtr 3 x46 x48) Kp fun x49 =>
       condS x49
       (opN Tryz.prog (sMkI 9 (.string ⟨#[115, 116, 114, 105, 110, 103, 115, 58, 32, 74, 111, 105, 110, 32, 111, 117, 116, 112, 117, 116, 32, 108, 101, 110, 103, 116, 104, 32, 111, 118, 101, 114, 102, 108, 111, 119]⟩)) Kp fun x50 =>
        opN Tryz.prog (sPanic x50) Kp fun _ =>
        J3)
       (J3)) fun _ =>
      opN Tryz.prog (sLen #[9] 3 [x44]) Kp fun x53 =>
      opN Tryz.prog (sBin .add 3 y5 x53) Kp fun x54 =>
      opN Tryz.prog (sBin .add 3 y41 (.int .i64 1)) Kp fun x55 =>
      next2 I1 m1 x54 x55)
     (opN Tryz.prog (sAlloc 97) Kp fun x8 =>
      opN Tryz.prog (sCall (fn 46) [x8, y5]) Kp fun x57 =>
      opN Tryz.prog (sIA 66 v0 (.int .i64 0)) Kp fun x59 =>
      opN Tryz.prog (sLoad 9 x59) Kp fun x60 =>
      opN Tryz.prog (sCall (fn 47) [x8, x60]) Kp fun x61 =>
      opN Tryz.prog (sSl 66 v0 (some (.int .i64 1)) none none) Kp fun x63 =>
      opN Tryz.prog (sLen #[66] 3 [x63]) Kp fun x64 =>
      loop1 (fun I2 m2 _ y65 =>
       opN Tryz.prog (sBin .lss 3 y65 x64) Kp fun x66 =>
       condS x66
       (opN Tryz.prog (sIA 66 x63 y65) Kp fun x67 =>
        opN Tryz.prog (sLoad 9 x67) Kp fun x68 =>
        opN Tryz.prog (sCall (fn 47) [x8, v1]) Kp fun x70 =>
        opN Tryz.prog (sCall (fn 47) [x8, x68]) Kp fun x72 =>
        opN Tryz.prog (sBin .add 3 y65 (.int .i64 1)) Kp fun x73 =>
        next1 I2 m2 x73)
       (opN Tryz.prog (sCall (fn 48) [x8]) Kp fun x74 =>
        K x74)) (.int .i64 0))) z5 (.int .i64 0)))
def strings_Join_an : Ann := { cuts := [(10, []), (11, [5]), (16, [])], blks := [], loops := [(12, [5, 41]), (22, [65])], drs := [] }
theorem strings_Join_eq (v0 v1 : Value) (Kp : PK) (K : Value → WP) : cevF Tryz.prog strings_Join_an Tryz.f30 [v0, v1] Kp K = strings_Join v0 v1 Kp K := by kernel_rfl
theorem strings_Join_calls {v0 v1 : Value} {Kp : PK} {K : Value → WP} {w : World} (h : strings_Join v0 v1 Kp K w) : Calls Tryz.prog 30 #[v0, v1] w (after Kp K) :=
  calls_of_shape (calls_of_cev wide Tryz.func30 (an := strings_Join_an) (args := [v0, v1]) (cast (congrFun (strings_Join_eq v0 v1 Kp K) w).symm h))
theorem strings_Join_cn {v0 v1 : Value} {W : World} {α : Type} {A : List HP} {r : α → Value} {B : α → List HP} (h : ∀ F, Ent W (A ++ F) (strings_Join v0 v1 noP fun v w => ∃ x, v = r x ∧ sat W (B x ++ F) w)) : Cn Tryz.prog 30 [v0, v1] W A r B :=
  Cn.of (shape := strings_Join v0 v1) Tryz.call30 (fun h => strings_Join_calls h) h
theorem strings_Join_cnP {v0 v1 : Value} {W : World} {α β : Type} {A : List HP} {r : α → Value} {B : α → List HP} {pc : β → List PanicEntry} {Bp : β → List HP} (h : ∀ F, Ent W (A ++ F) (strings_Join v0 v1 (fun ch w => ∃ y, ch = pc y ∧ sat W (Bp y ++ F) w) fun v w => ∃ x, v = r x ∧ sat W (B x ++ F) w)) : CnP Tryz.prog 30 [v0, v1] W A r B pc Bp :=
  CnP.of (shape := strings_Join v0 v1) Tryz.call30 (fun h => strings_Join_calls h) h

/-- ref11_Values -/
def ref11_Values (v0 v1 : Value) (Kp : PK) (K : Value → WP) : WP :=
  loop2 (fun I1 m1 _ y5 y6 =>
   opN Tryz.prog (sLen #[22] 3 [v0]) Kp fun x9 =>
   opN Tryz.prog (sBin .lss 3 y6 x9) Kp fun x10 =>
   condS x10
   (opN Tryz.prog (sIA 22 v0 y6) Kp fun x15 =>
    opN Tryz.prog (sFA 63 x15 0) Kp fun x16 =>
    opN Tryz.prog (sLoad 9 x16) Kp fun x17 =>
    opN Tryz.prog (sCall (fn 49) [x17, v1]) Kp fun x19 =>
    condS x19
    (opN Tryz.prog (sIA 22 v0 y6) Kp fun x23 =>
     opN Tryz.prog (sFA 63 x23 1) Kp fun x24 =>
     opN Tryz.prog (sLoad 9 x24) Kp fun x25 =>
     opN Tryz.prog (sBuildSl 66 1 [(0, x25)]) Kp fun x26 =>
     opN Tryz.prog (sApp #[66, 66] 66 [y5, x26]) Kp fun x27 =>
     opN Tryz.prog (sBin .add 3 y6 (.int .i64 1)) Kp fun x12 =>
     next2 I1 m1 x27 x12)
    (opN Tryz.prog (sBin .add 3 y6 (.int .i64 1)) Kp fun x12 =>
     next2 I1 m1 y5 x12))
   (K y5)) (.slice none 0 0) (.int .i64 0)
def ref11_Values_an : Ann := { cuts := [], blks := [], loops := [(3, [5, 6])], drs := [] }
theorem ref11_Values_eq (v0 v1 : Value) (Kp : PK) (K : Value → WP) : cevF Tryz.prog ref11_Values_an Tryz.f31 [v0, v1] Kp K = ref11_Values v0 v1 Kp K := by kernel_rfl
theorem ref11_Values_calls {v0 v1 : Value} {Kp : PK} {K : Value → WP} {w : World} (h : ref11_Values v0 v1 Kp K w) : Calls Tryz.prog 31 #[v0, v1] w (after Kp K) :=
  calls_of_shape (calls_of_cev wide Tryz.func31 (an := ref11_Values_an) (args := [v0, v1]) (cast (congrFun (ref11_Values_eq v0 v1 Kp K) w).symm h))
theorem ref11_Values_cn {v0 v1 : Value} {W : World} {α : Type} {A : List HP} {r : α → Value} {B : α → List HP} (h : ∀ F, Ent W (A ++ F) (ref11_Values v0 v1 noP fun v w => ∃ x, v = r x ∧ sat W (B x ++ F) w)) : Cn Tryz.prog 31 [v0, v1] W A r B :=
  Cn.of (shape := ref11_Values v0 v1) Tryz.call31 (fun h => ref11_Values_calls h) h
theorem ref11_Values_cnP {v0 v1 : Value} {W : World} {α β : Type} {A : List HP} {r : α → Value} {B : α → List HP} {pc : β → List PanicEntry} {Bp : β → List HP} (h : ∀ F, Ent W (A ++ F) (ref11_Values v0 v1 (fun ch w => ∃ y, ch = pc y ∧ sat W (Bp y ++ F) w) fun v w => ∃ x, v = r x ∧ sat W (B x ++ F) w)) : CnP Tryz.prog 31 [v0, v1] W A r B pc Bp :=
  CnP.of (shape := ref11_Values v0 v1) Tryz.call31 (fun h => ref11_Values_calls h) h

/-- ref10_Tags -/
def ref10_Tags (v0 : Value) (Kp : PK) (K : Value → WP) : WP :=
  opN Tryz.prog (sCall (fn 50) [v0]) Kp fun x11 =>
  opN Tryz.prog (sEq .eql 9 (.tmp 11) (.const (.string ⟨#[42]⟩)) x11 (.string ⟨#[42]⟩)) Kp fun x12 =>
  condS x12
  (K (.tuple #[(.slice none 0 0), (.bool true), (.int .i64 0)]))
  (opN Tryz.prog (sCall (fn 51) [v0, (.bool true), (.bool false)]) Kp fun x14 =>
   loop2 (fun I1 m1 _ y6 y7 =>
    opN Tryz.prog (sLen #[66] 3 [x14]) Kp fun x17 =>
    opN Tryz.prog (sBin .lss 3 y7 x17) Kp fun x18 =>
    condS x18
    (opN Tryz.prog (sIA 66 x14 y7) Kp fun x24 =>
     opN Tryz.prog (sLoad 9 x24) Kp fun x25 =>
     opN Tryz.prog (sCall (fn 23) [x25]) Kp fun x26 =>
     opN Tryz.prog (sExt x26 0) Kp fun x27 =>
     opN Tryz.prog (sExt x26 1) Kp fun x28 =>
     opN Tryz.prog (sAlloc 24) Kp fun x8 =>
     opN Tryz.prog (sStore 24 x8 x27) Kp fun _ =>
     opN Tryz.prog (sEq .neq 3 (.tmp 29) (.const (.int .i64 0)) x28 (.int .i64 0)) Kp fun x30 =>
     condS x30
     (K (.tuple #[(.slice none 0 0), (.bool false), x28]))
     (opN Tryz.prog (sLoad 24 x8) Kp fun x33 =>
      opN Tryz.prog (sBuildSl 72 1 [(0, x33)]) Kp fun x34 =>
      opN Tryz.prog (sApp #[72, 72] 72 [y6, x34]) Kp fun x35 =>
      opN Tryz.prog (sBin .add 3 y7 (.int .i64 1)) Kp fun x20 =>
      next2 I1 m1 x35 x20))
    (opN Tryz.prog (sLen #[72] 3 [y6]) Kp fun x37 =>
     opN Tryz.prog (sEq .eql 3 (.tmp 37) (.const (.int .i64 0)) x37 (.int .i64 0)) Kp fun x38 =>
     condS x38
     (K (.tuple #[(.slice none 0 0), (.bool false), (.int .i64 42)]))
     (K (.tuple #[y6, (.bool false), (.int .i64 0)])))) (.slice none 0 0) (.int .i64 0))
def ref10_Tags_an : Ann := { cuts := [], blks := [], loops := [(6, [6, 7])], drs := [] }
theorem ref10_Tags_eq (v0 : Value) (Kp : PK) (K : Value → WP) : cevF Tryz.prog ref10_Tags_an Tryz.f32 [v0] Kp K = ref10_Tags v0 Kp K := by kernel_rfl
theorem ref10_Tags_calls {v0 : Value} {Kp : PK} {K : Value → WP} {w : World} (h : ref10_Tags v0 Kp K w) : Calls Tryz.prog 32 #[v0] w (after Kp K) :=
  calls_of_shape (calls_of_cev wide Tryz.func32 (an := ref10_Tags_an) (args := [v0]) (cast (congrFun (ref10_Tags_eq v0 Kp K) w).symm h))
theorem ref10_Tags_cn {v0 : Value} {W : World} {α : Type} {A : List HP} {r : α → Value} {B : α → List HP} (h : ∀ F, Ent W (A ++ F) (ref10_Tags v0 noP fun v w => ∃ x, v = r x ∧ sat W (B x ++ F) w)) : Cn Tryz.prog 32 [v0] W A r B :=
  Cn.of (shape := ref10_Tags v0) Tryz.call32 (fun h => ref10_Tags_calls h) h
theorem ref10_Tags_cnP {v0 : Value} {W : World} {α β : Type} {A : List HP} {r : α → Value} {B : α → List HP} {pc : β → List PanicEntry} {Bp : β → List HP} (h : ∀ F, Ent W (A ++ F) (ref10_Tags v0 (fun ch w => ∃ y, ch = pc y ∧ sat W (Bp y ++ F) w) fun v w => ∃ x, v = r x ∧ sat W (B x ++ F) w)) : CnP Tryz.prog 32 [v0] W A r B pc Bp :=
  CnP.of (shape := ref10_Tags v0) Tryz.call32 (fun h => ref10_Tags_calls h) h

/-- ref10_Weak -/
def ref10_Weak (v0 v1 : Value) (Kp : PK) (K : Value → WP) : WP :=
  opN Tryz.prog (sBox 24 v0) Kp fun x2 =>
  opN Tryz.prog (sBox 24 v1) Kp fun x3 =>
  opN Tryz.prog (sFA 24 x2 1) Kp fun x5 =>
  opN Tryz.prog (sLoad 9 x5) Kp fun x6 =>
  opN Tryz.prog (sFA 24 x3 1) Kp fun x7 =>
  opN Tryz.prog (sLoad 9 x7) Kp fun x8 =>
  opN Tryz.prog (sEq .eql 9 (.tmp 6) (.tmp 8) x6 x8) Kp fun x9 =>
  K x9
def ref10_Weak_an : Ann := { cuts := [], blks := [], loops := [], drs := [] }
theorem ref10_Weak_eq (v0 v1 : Value) (Kp : PK) (K : Value → WP) : cevF Tryz.prog ref10_Weak_an Tryz.f33 [v0, v1] Kp K = ref10_Weak v0 v1 Kp K := by kernel_rfl
theorem ref10_Weak_calls {v0 v1 : Value} {Kp : PK} {K : Value → WP} {w : World} (h : ref10_Weak v0 v1 Kp K w) : Calls Tryz.prog 33 #[v0, v1] w (after Kp K) :=
  calls_of_shape (calls_of_cev wide Tryz.func33 (an := ref10_Weak_an) (args := [v0, v1]) (cast (congrFun (ref10_Weak_eq v0 v1 Kp K) w).symm h))
theorem ref10_Weak_cn {v0 v1 : Value} {W : World} {α : Type} {A : List HP} {r : α → Value} {B : α → List HP} (h : ∀ F, Ent W (A ++ F) (ref10_Weak v0 v1 noP fun v w => ∃ x, v = r x ∧ sat W (B x ++ F) w)) : Cn Tryz.prog 33 [v0, v1] W A r B :=
  Cn.of (shape := ref10_Weak v0 v1) Tryz.call33 (fun h => ref10_Weak_calls h) h
theorem ref10_Weak_cnP {v0 v1 : Value} {W : World} {α β : Type} {A : List HP} {r : α → Value} {B : α → List HP} {pc : β → List PanicEntry} {Bp : β → List HP} (h : ∀ F, Ent W (A ++ F) (ref10_Weak v0 v1 (fun ch w => ∃ y, ch = pc y ∧ sat W (Bp y ++ F) w) fun v w => ∃ x, v = r x ∧ sat W (B x ++ F) w)) : CnP Tryz.prog 33 [v0, v1] W A r B pc Bp :=
  CnP.of (shape := ref10_Weak v0 v1) Tryz.call33 (fun h => ref10_Weak_calls h) h

/-- fields_tag -/
def fields_tag (v0 : Value) (Kp : PK) (K : Value → WP) : WP :=
  opN Tryz.prog (sAlloc 28) Kp fun x2 =>
  opN Tryz.prog (sCall (fn 52) [v0, (.string ⟨#[87, 47]⟩)]) Kp fun x10 =>
  opN Tryz.prog (sExt x10 0) Kp fun x11 =>
  opN Tryz.prog (sExt x10 1) Kp fun x12 =>
  opN Tryz.prog (sLen #[9] 3 [x11]) Kp fun x14 =>
  opN Tryz.prog (sBin .lss 3 x14 (.int .i64 2)) Kp fun x15 =>
  gdK x15 false (fun k => k x11) fun x17 =>
  gdK x15 false (opN Tryz.prog (sIx 9 x17 (.int .i64 0)) Kp) fun x18 =>
  gdK x15 false (opN Tryz.prog (sEq .neq 5 (.tmp 18) (.const (.int .u8 34)) x18 (.int .u8 34)) Kp) fun x19 =>
  opN Tryz.prog (sPick x15 (.bool true) x19) Kp fun x20 =>
  gdK x20 false (fun k => k x11) fun x22 =>
  gdK x20 false (fun k => k x11) fun x23 =>
  gdK x20 false (opN Tryz.prog (sLen #[9] 3 [x23]) Kp) fun x24 =>
  gdK x20 false (opN Tryz.prog (sBin .sub 3 x24 (.int .i64 1)) Kp) fun x25 =>
  gdK x20 false (opN Tryz.prog (sIx 9 x22 x25) Kp) fun x26 =>
  gdK x20 false (opN Tryz.prog (sEq .neq 5 (.tmp 26) (.const (.int .u8 34)) x26 (.int .u8 34)) Kp) fun x27 =>
  opN Tryz.prog (sPick x20 (.bool true) x27) Kp fun x28 =>
  condS x28
  (opN Tryz.prog (sBuild 28 []) Kp fun x29 =>
   opN Tryz.prog (sStore 28 x2 x29) Kp fun _ =>
   (stS Tryz.prog (sRes 28 x2) fun r0 => K (.tuple #[r0, (.bool false)])))
  (opN Tryz.prog (sLen #[9] 3 [x11]) Kp fun x32 =>
   opN Tryz.prog (sBin .sub 3 x32 (.int .i64 1)) Kp fun x33 =>
   opN Tryz.prog (sSl 9 x11 (some (.int .i64 1)) (some x33) none) Kp fun x34 =>
   opN Tryz.prog (sConv 9 95 x34) Kp fun x36 =>
   opN Tryz.prog (sLen #[95] 3 [x36]) Kp fun x37 =>
   loop1 (fun I1 m1 _ y38 =>
    opN Tryz.prog (sBin .lss 3 y38 x37) Kp fun x39 =>
    condS x39
    (opN Tryz.prog (sIA 95 x36 y38) Kp fun x40 =>
     opN Tryz.prog (sLoad 5 x40) Kp fun x41 =>
     opN Tryz.prog (sBin .leq 5 x41 (.int .u8 32)) Kp fun x43 =>
     gdK x43 false (fun k => k x41) fun x45 =>
     gdK x43 false (opN Tryz.prog (sEq .eql 5 (.tmp 45) (.const (.int .u8 34)) x45 (.int .u8 34)) Kp) fun x46 =>
     opN Tryz.prog (sPick x43 (.bool true) x46) Kp fun x47 =>
     gdK x47 false (fun k => k x41) fun x49 =>
     gdK x47 false (opN Tryz.prog (sEq .eql 5 (.tmp 49) (.const (.int .u8 127)) x49 (.int .u8 127)) Kp) fun x50 =>
     opN Tryz.prog (sPick x47 (.bool true) x50) Kp fun x51 =>
     condS x51
     (opN Tryz.prog (sBuild 28 []) Kp fun x52 =>
      opN Tryz.prog (sStore 28 x2 x52) Kp fun _ =>
      (stS Tryz.prog (sRes 28 x2) fun r0 => K (.tuple #[r0, (.bool false)])))
     (opN Tryz.prog (sBin .add 3 y38 (.int .i64 1)) Kp fun x53 =>
      next1 I1 m1 x53))
    (opN Tryz.prog (sBuild 28 [(0, x12), (1, x34)]) Kp fun x56 =>
     opN Tryz.prog (sStore 28 x2 x56) Kp fun _ =>
     (stS Tryz.prog (sRes 28 x2) fun r0 => K (.tuple #[r0, (.bool true)])))) (.int .i64 0))
def fields_tag_an : Ann := { cuts := [], blks := [], loops := [(6, [38])], drs := [] }
theorem fields_tag_eq (v0 : Value) (Kp : PK) (K : Value → WP) : cevF Tryz.prog fields_tag_an Tryz.f34 [v0] Kp K = fields_tag v0 Kp K := by kernel_rfl
theorem fields_tag_calls {v0 : Value} {Kp : PK} {K : Value → WP} {w : World} (h : fields_tag v0 Kp K w) : Calls Tryz.prog 34 #[v0] w (after Kp K) :=
  calls_of_shape (calls_of_cev wide Tryz.func34 (an := fields_tag_an) (args := [v0]) (cast (congrFun (fields_tag_eq v0 Kp K) w).symm h))
theorem fields_tag_cn {v0 : Value} {W : World} {α : Type} {A : List HP} {r : α → Value} {B : α → List HP} (h : ∀ F, Ent W (A ++ F) (fields_tag v0 noP fun v w => ∃ x, v = r x ∧ sat W (B x ++ F) w)) : Cn Tryz.prog 34 [v0] W A r B :=
  Cn.of (shape := fields_tag v0) Tryz.call34 (fun h => fields_tag_calls h) h
theorem fields_tag_cnP {v0 : Value} {W : World} {α β : Type} {A : List HP} {r : α → Value} {B : α → List HP} {pc : β → List PanicEntry} {Bp : β → List HP} (h : ∀ F, Ent W (A ++ F) (fields_tag v0 (fun ch w => ∃ y, ch = pc y ∧ sat W (Bp y ++ F) w) fun v w => ∃ x, v = r x ∧ sat W (B x ++ F) w)) : CnP Tryz.prog 34 [v0] W A r B pc Bp :=
  CnP.of (shape := fields_tag v0) Tryz.call34 (fun h => fields_tag_calls h) h

/-- dates_reader_first -/
def dates_reader_first (v0 v1 : Value) (Kp : PK) (K : Value → WP) : WP :=
  opN Tryz.prog (sAlloc 106) Kp fun x4 =>
  opN Tryz.prog (sCall (fn 53) [v0, (.int .i64 5)]) Kp fun x6 =>
  opN Tryz.prog (sCall (fn 54) [v0, (.int .i64 2)]) Kp fun x8 =>
  opN Tryz.prog (sFA 106 x4 2) Kp fun x9 =>
  opN Tryz.prog (sStore 3 x9 x8) Kp fun _ =>
  opN Tryz.prog (sCall (fn 53) [v0, (.int .i64 1)]) Kp fun x11 =>
  opN Tryz.prog (sCall (fn 55) [v0]) Kp fun x13 =>
  opN Tryz.prog (sFA 106 x4 1) Kp fun x14 =>
  opN Tryz.prog (sStore 3 x14 x13) Kp fun _ =>
  opN Tryz.prog (sCall (fn 53) [v0, (.int .i64 1)]) Kp fun x16 =>
  opN Tryz.prog (sCall (fn 54) [v0, (.int .i64 4)]) Kp fun x18 =>
  opN Tryz.prog (sFA 106 x4 0) Kp fun x19 =>
  opN Tryz.prog (sStore 3 x19 x18) Kp fun _ =>
  opN Tryz.prog (sCall (fn 53) [v0, (.int .i64 1)]) Kp fun x21 =>
  opN Tryz.prog (sCall (fn 56) [v0, x4]) Kp fun x23 =>
  opN Tryz.prog (sLoad 106 x4) Kp fun x24 =>
  opN Tryz.prog (sStore 106 x4 x24) Kp fun _ =>
  (stS Tryz.prog (sRes 106 x4) fun r0 => K r0)
def dates_reader_first_an : Ann := { cuts := [], blks := [], loops := [], drs := [] }
theorem dates_reader_first_eq (v0 v1 : Value) (Kp : PK) (K : Value → WP) : cevF Tryz.prog dates_reader_first_an Tryz.f35 [v0, v1] Kp K = dates_reader_first v0 v1 Kp K := by kernel_rfl
theorem dates_reader_first_calls {v0 v1 : Value} {Kp : PK} {K : Value → WP} {w : World} (h : dates_reader_first v0 v1 Kp K w) : Calls Tryz.prog 35 #[v0, v1] w (after Kp K) :=
  calls_of_shape (calls_of_cev wide Tryz.func35 (an := dates_reader_first_an) (args := [v0, v1]) (cast (congrFun (dates_reader_first_eq v0 v1 Kp K) w).symm h))
theorem dates_reader_first_cn {v0 v1 : Value} {W : World} {α : Type} {A : List HP} {r : α → Value} {B : α → List HP} (h : ∀ F, Ent W (A ++ F) (dates_reader_first v0 v1 noP fun v w => ∃ x, v = r x ∧ sat W (B x ++ F) w)) : Cn Tryz.prog 35 [v0, v1] W A r B :=
  Cn.of (shape := dates_reader_first v0 v1) Tryz.call35 (fun h => dates_reader_first_calls h) h
theorem dates_reader_first_cnP {v0 v1 : Value} {W : World} {α β : Type} {A : List HP} {r : α → Value} {B : α → List HP} {pc : β → List PanicEntry} {Bp : β → List HP} (h : ∀ F, Ent W (A ++ F) (dates_reader_first v0 v1 (fun ch w => ∃ y, ch = pc y ∧ sat W (Bp y ++ F) w) fun v w => ∃ x, v = r x ∧ sat W (B x ++ F) w)) : CnP Tryz.prog 35 [v0, v1] W A r B pc Bp :=
  CnP.of (shape := dates_reader_first v0 v1) Tryz.call35 (fun h => dates_reader_first_calls h) h

/-- dates_reader_second -/
def dates_reader_second (v0 v1 : Value) (Kp : PK) (K : Value → WP) : WP :=
  opN Tryz.prog (sAlloc 106) Kp fun x4 =>
  opN Tryz.prog (sNil v0) Kp fun x12 =>
  opN Tryz.prog (sFA 113 x12 0) Kp fun x13 =>
  opN Tryz.prog (sLoad 9 x13) Kp fun x14 =>
  opN Tryz.prog (sBin .add 9 x14 (.string ⟨#[44]⟩)) Kp fun x15 =>
  opN Tryz.prog (sCall (fn 57) [x15, (.int .u8 44)]) Kp fun x16 =>
  opN Tryz.prog (sBin .add 3 x16 (.int .i64 2)) Kp fun x17 =>
  opN Tryz.prog (sCall (fn 53) [v0, x17]) Kp fun x18 =>
  opN Tryz.prog (sCall (fn 54) [v0, (.int .i64 2)]) Kp fun x20 =>
  opN Tryz.prog (sFA 106 x4 2) Kp fun x21 =>
  opN Tryz.prog (sStore 3 x21 x20) Kp fun _ =>
  opN Tryz.prog (sCall (fn 53) [v0, (.int .i64 1)]) Kp fun x23 =>
  opN Tryz.prog (sCall (fn 55) [v0]) Kp fun x25 =>
  opN Tryz.prog (sFA 106 x4 1) Kp fun x26 =>
  opN Tryz.prog (sStore 3 x26 x25) Kp fun _ =>
  opN Tryz.prog (sCall (fn 53) [v0, (.int .i64 1)]) Kp fun x28 =>
  opN Tryz.prog (sCall (fn 54) [v0, (.int .i64 2)]) Kp fun x30 =>
  opN Tryz.prog (sCall (fn 53) [v0, (.int .i64 1)]) Kp fun x32 =>
  opN Tryz.prog (sCall (fn 56) [v0, x4]) Kp fun x34 =>
  cut1 (fun J1 =>
   opN Tryz.prog (sCall (fn 58) [v1]) Kp fun x37 =>
   opN Tryz.prog (sExt x37 0) Kp fun x38 =>
   opN Tryz.prog (sExt x37 1) Kp fun x39 =>
   opN Tryz.prog (sAlloc 106) Kp fun x7 =>
   opN Tryz.prog (sStore 106 x7 x38) Kp fun _ =>
   opN Tryz.prog (sEq .eql 52 (.tmp 40) (.const (.int .i64 0)) x39 (.int .i64 0)) Kp fun x41 =>
   condS x41
   (opN Tryz.prog (sFA 106 x7 0) Kp fun x42 =>
    opN Tryz.prog (sLoad 3 x42) Kp fun x43 =>
    J1 x43)
   (J1 (.int .i64 1970))) fun _ z6 =>
  opN Tryz.prog (sBin .add 3 z6 (.int .i64 50)) Kp fun x45 =>
  opN Tryz.prog (sMin #[3, 3] 3 [x45, (.int .i64 9999)]) Kp fun x46 =>
  opN Tryz.prog (sBin .sub 3 x46 x30) Kp fun x50 =>
  opN Tryz.prog (sBin .add 3 x50 (.int .i64 10000)) Kp fun x51 =>
  opN Tryz.prog (sBin .rem 3 x51 (.int .i64 100)) Kp fun x52 =>
  opN Tryz.prog (sBin .sub 3 x46 x52) Kp fun x53 =>
  opN Tryz.prog (sFA 106 x4 0) Kp fun x54 =>
  opN Tryz.prog (sStore 3 x54 x53) Kp fun _ =>
  opN Tryz.prog (sLoad 106 x4) Kp fun x55 =>
  opN Tryz.prog (sStore 106 x4 x55) Kp fun _ =>
  (stS Tryz.prog (sRes 106 x4) fun r0 => K r0)
def dates_reader_second_an : Ann := { cuts := [(13, [6])], blks := [], loops := [], drs := [] }
theorem dates_reader_second_eq (v0 v1 : Value) (Kp : PK) (K : Value → WP) : cevF Tryz.prog dates_reader_second_an Tryz.f36 [v0, v1] Kp K = dates_reader_second v0 v1 Kp K := by kernel_rfl
theorem dates_reader_second_calls {v0 v1 : Value} {Kp : PK} {K : Value → WP} {w : World} (h : dates_reader_second v0 v1 Kp K w) : Calls Tryz.prog 36 #[v0, v1] w (after Kp K) :=
  calls_of_shape (calls_of_cev wide Tryz.func36 (an := dates_reader_second_an) (args := [v0, v1]) (cast (congrFun (dates_reader_second_eq v0 v1 Kp K) w).symm h))
theorem dates_reader_second_cn {v0 v1 : Value} {W : World} {α : Type} {A : List HP} {r : α → Value} {B : α → List HP} (h : ∀ F, Ent W (A ++ F) (dates_reader_second v0 v1 noP fun v w => ∃ x, v = r x ∧ sat W (B x ++ F) w)) : Cn Tryz.prog 36 [v0, v1] W A r B :=
  Cn.of (shape := dates_reader_second v0 v1) Tryz.call36 (fun h => dates_reader_second_calls h) h
theorem dates_reader_second_cnP {v0 v1 : Value} {W : World} {α β : Type} {A : List HP} {r : α → Value} {B : α → List HP} {pc : β → List PanicEntry} {Bp : β → List HP} (h : ∀ F, Ent W (A ++ F) (dates_reader_second v0 v1 (fun ch w => ∃ y, ch = pc y ∧ sat W (Bp y ++ F) w) fun v w => ∃ x, v = r x ∧ sat W (B x ++ F) w)) : CnP Tryz.prog 36 [v0, v1] W A r B pc Bp :=
  CnP.of (shape := dates_reader_second v0 v1) Tryz.call36 (fun h => dates_reader_second_calls h) h

/-- dates_reader_third -/
def dates_reader_third (v0 v1 : Value) (Kp : PK) (K : Value → WP) : WP :=
  opN Tryz.prog (sAlloc 106) Kp fun x4 =>
  opN Tryz.prog (sCall (fn 53) [v0, (.int .i64 4)]) Kp fun x6 =>
  opN Tryz.prog (sCall (fn 55) [v0]) Kp fun x8 =>
  opN Tryz.prog (sFA 106 x4 1) Kp fun x9 =>
  opN Tryz.prog (sStore 3 x9 x8) Kp fun _ =>
  opN Tryz.prog (sCall (fn 53) [v0, (.int .i64 1)]) Kp fun x11 =>
  opN Tryz.prog (sCall (fn 54) [v0, (.int .i64 2)]) Kp fun x13 =>
  opN Tryz.prog (sFA 106 x4 2) Kp fun x14 =>
  opN Tryz.prog (sStore 3 x14 x13) Kp fun _ =>
  opN Tryz.prog (sCall (fn 53) [v0, (.int .i64 1)]) Kp fun x16 =>
  opN Tryz.prog (sCall (fn 56) [v0, x4]) Kp fun x18 =>
  opN Tryz.prog (sCall (fn 53) [v0, (.int .i64 1)]) Kp fun x20 =>
  opN Tryz.prog (sCall (fn 54) [v0, (.int .i64 4)]) Kp fun x22 =>
  opN Tryz.prog (sFA 106 x4 0) Kp fun x23 =>
  opN Tryz.prog (sStore 3 x23 x22) Kp fun _ =>
  opN Tryz.prog (sLoad 106 x4) Kp fun x24 =>
  opN Tryz.prog (sStore 106 x4 x24) Kp fun _ =>
  (stS Tryz.prog (sRes 106 x4) fun r0 => K r0)
def dates_reader_third_an : Ann := { cuts := [], blks := [], loops := [], drs := [] }
theorem dates_reader_third_eq (v0 v1 : Value) (Kp : PK) (K : Value → WP) : cevF Tryz.prog dates_reader_third_an Tryz.f37 [v0, v1] Kp K = dates_reader_third v0 v1 Kp K := by kernel_rfl
theorem dates_reader_third_calls {v0 v1 : Value} {Kp : PK} {K : Value → WP} {w : World} (h : dates_reader_third v0 v1 Kp K w) : Calls Tryz.prog 37 #[v0, v1] w (after Kp K) :=
  calls_of_shape (calls_of_cev wide Tryz.func37 (an := dates_reader_third_an) (args := [v0, v1]) (cast (congrFun (dates_reader_third_eq v0 v1 Kp K) w).symm h))
theorem dates_reader_third_cn {v0 v1 : Value} {W : World} {α : Type} {A : List HP} {r : α → Value} {B : α → List HP} (h : ∀ F, Ent W (A ++ F) (dates_reader_third v0 v1 noP fun v w => ∃ x, v = r x ∧ sat W (B x ++ F) w)) : Cn Tryz.prog 37 [v0, v1] W A r B :=
  Cn.of (shape := dates_reader_third v0 v1) Tryz.call37 (fun h => dates_reader_third_calls h) h
theorem dates_reader_third_cnP {v0 v1 : Value} {W : World} {α β : Type} {A : List HP} {r : α → Value} {B : α → List HP} {pc : β → List PanicEntry} {Bp : β → List HP} (h : ∀ F, Ent W (A ++ F) (dates_reader_third v0 v1 (fun ch w => ∃ y, ch = pc y ∧ sat W (Bp y ++ F) w) fun v w => ∃ x, v = r x ∧ sat W (B x ++ F) w)) : CnP Tryz.prog 37 [v0, v1] W A r B pc Bp :=
  CnP.of (shape := dates_reader_third v0 v1) Tryz.call37 (fun h => dates_reader_third_calls h) h

/-- dates_try -/
def dates_try_ret (p0 p1 : Value) (K : Value → WP) : WP :=
  (stS Tryz.prog (sRes 3 p0) fun r0 => (stS Tryz.prog (sRes 4 p1) fun r1 => K (.tuple #[r0, r1])))
def dates_try (v0 v1 v2 v3 : Value) (Kp : PK) (K : Value → WP) : WP :=
  opN Tryz.prog (sAlloc 3) Kp fun x8 =>
  opN Tryz.prog (sAlloc 4) Kp fun x9 =>
  opN Tryz.prog (sMkF (.func 59) [] [x8, x9]) Kp fun x13 =>
  opDf x13 [] fun d1 =>
  opN Tryz.prog (sBuild 113 [(0, v0)]) (KpD Tryz.prog d1 (dates_try_ret x8 x9 K) Kp) fun x17 =>
  opN Tryz.prog (sBox 113 x17) (KpD Tryz.prog d1 (dates_try_ret x8 x9 K) Kp) fun x18 =>
  opN Tryz.prog (sCall v3 [x18, v2]) (KpD Tryz.prog d1 (dates_try_ret x8 x9 K) Kp) fun x20 =>
  opN Tryz.prog (sCall (fn 60) [x20]) (KpD Tryz.prog d1 (dates_try_ret x8 x9 K) Kp) fun x21 =>
  opN Tryz.prog (sExt x21 0) (KpD Tryz.prog d1 (dates_try_ret x8 x9 K) Kp) fun x22 =>
  opN Tryz.prog (sExt x21 1) (KpD Tryz.prog d1 (dates_try_ret x8 x9 K) Kp) fun x23 =>
  opN Tryz.prog (sStore 3 x8 x22) (KpD Tryz.prog d1 (dates_try_ret x8 x9 K) Kp) fun _ =>
  opN Tryz.prog (sLoad 3 x8) (KpD Tryz.prog d1 (dates_try_ret x8 x9 K) Kp) fun x25 =>
  opN Tryz.prog (sCall (fn 58) [x25]) (KpD Tryz.prog d1 (dates_try_ret x8 x9 K) Kp) fun x26 =>
  opN Tryz.prog (sExt x26 0) (KpD Tryz.prog d1 (dates_try_ret x8 x9 K) Kp) fun x27 =>
  opN Tryz.prog (sExt x26 1) (KpD Tryz.prog d1 (dates_try_ret x8 x9 K) Kp) fun x28 =>
  opN Tryz.prog (sAlloc 106) (KpD Tryz.prog d1 (dates_try_ret x8 x9 K) Kp) fun x11 =>
  opN Tryz.prog (sStore 106 x11 x27) (KpD Tryz.prog d1 (dates_try_ret x8 x9 K) Kp) fun _ =>
  opN Tryz.prog (sEq .neq 52 (.tmp 29) (.const (.int .i64 0)) x23 (.int .i64 0)) (KpD Tryz.prog d1 (dates_try_ret x8 x9 K) Kp) fun x30 =>
  gdK x30 false (opN Tryz.prog (sLoad 106 x11) (KpD Tryz.prog d1 (dates_try_ret x8 x9 K) Kp)) fun x32 =>
  gdK x30 false (fun k => k v1) fun x33 =>
  gdK x30 false (opN Tryz.prog (sCall (fn 61) [x32, x33]) (KpD Tryz.prog d1 (dates_try_ret x8 x9 K) Kp)) fun x34 =>
  gdK x30 false (fun k => k v0) fun x35 =>
  gdK x30 false (opN Tryz.prog (sEq .neq 9 (.tmp 34) (.tmp 35) x34 x35) (KpD Tryz.prog d1 (dates_try_ret x8 x9 K) Kp)) fun x36 =>
  opN Tryz.prog (sPick x30 (.bool true) x36) (KpD Tryz.prog d1 (dates_try_ret x8 x9 K) Kp) fun x37 =>
  condS x37
  (opN Tryz.prog (sStore 3 x8 (.int .i64 0)) (KpD Tryz.prog d1 (dates_try_ret x8 x9 K) Kp) fun _ =>
   opN Tryz.prog (sStore 4 x9 (.bool false)) (KpD Tryz.prog d1 (dates_try_ret x8 x9 K) Kp) fun _ =>
   dfS Tryz.prog d1 .returning (dates_try_ret x8 x9 K) Kp)
  (opN Tryz.prog (sLoad 3 x8) (KpD Tryz.prog d1 (dates_try_ret x8 x9 K) Kp) fun x38 =>
   opN Tryz.prog (sStore 3 x8 x38) (KpD Tryz.prog d1 (dates_try_ret x8 x9 K) Kp) fun _ =>
   opN Tryz.prog (sStore 4 x9 (.bool true)) (KpD Tryz.prog d1 (dates_try_ret x8 x9 K) Kp) fun _ =>
   dfS Tryz.prog d1 .returning (dates_try_ret x8 x9 K) Kp)
def dates_try_an : Ann := { cuts := [], blks := [], loops := [], drs := [] }
theorem dates_try_eq (v0 v1 v2 v3 : Value) (Kp : PK) (K : Value → WP) : cevFD Tryz.prog dates_try_an Tryz.f38 [v0, v1, v2, v3] Kp K = dates_try v0 v1 v2 v3 Kp K := by kernel_rfl
theorem dates_try_calls {v0 v1 v2 v3 : Value} {Kp : PK} {K : Value → WP} {w : World} (h : dates_try v0 v1 v2 v3 Kp K w) : Calls Tryz.prog 38 #[v0, v1, v2, v3] w (after Kp K) :=
  calls_of_shape (calls_of_cevD wide Tryz.func38 (an := dates_try_an) (args := [v0, v1, v2, v3]) (cast (congrFun (dates_try_eq v0 v1 v2 v3 Kp K) w).symm h))
theorem dates_try_cn {v0 v1 v2 v3 : Value} {W : World} {α : Type} {A : List HP} {r : α → Value} {B : α → List HP} (h : ∀ F, Ent W (A ++ F) (dates_try v0 v1 v2 v3 noP fun v w => ∃ x, v = r x ∧ sat W (B x ++ F) w)) : Cn Tryz.prog 38 [v0, v1, v2, v3] W A r B :=
  Cn.of (shape := dates_try v0 v1 v2 v3) Tryz.call38 (fun h => dates_try_calls h) h
theorem dates_try_cnP {v0 v1 v2 v3 : Value} {W : World} {α β : Type} {A : List HP} {r : α → Value} {B : α → List HP} {pc : β → List PanicEntry} {Bp : β → List HP} (h : ∀ F, Ent W (A ++ F) (dates_try v0 v1 v2 v3 (fun ch w => ∃ y, ch = pc y ∧ sat W (Bp y ++ F) w) fun v w => ∃ x, v = r x ∧ sat W (B x ++ F) w)) : CnP Tryz.prog 38 [v0, v1, v2, v3] W A r B pc Bp :=
  CnP.of (shape := dates_try v0 v1 v2 v3) Tryz.call38 (fun h => dates_try_calls h) h

/-- ref09_same -/
def ref09_same (v0 v1 v2 : Value) (Kp : PK) (K : Value → WP) : WP :=
  opN Tryz.prog (sBox 84 v1) Kp fun x4 =>
  opN Tryz.prog (sLoad 84 x4) Kp fun x14 =>
  opN Tryz.prog (sCall (fn 62) [x14]) Kp fun x15 =>
  opN Tryz.prog (sExt x15 0) Kp fun x16 =>
  opN Tryz.prog (sExt x15 1) Kp fun x17 =>
  opN Tryz.prog (sEq .neq 3 (.tmp 18) (.const (.int .i64 0)) x17 (.int .i64 0)) Kp fun x19 =>
  condS x19
  (K (.tuple #[(.int .i64 0), (.int .i64 41)]))
  (opN Tryz.prog (sCall (fn 63) [x16]) Kp fun x22 =>
   opN Tryz.prog (sExt x22 0) Kp fun x23 =>
   opN Tryz.prog (sExt x22 1) Kp fun x24 =>
   opN Tryz.prog (sStore 84 x4 x23) Kp fun _ =>
   opN Tryz.prog (sLoad 84 x4) Kp fun x26 =>
   opN Tryz.prog (sCall (fn 64) [x26]) Kp fun x27 =>
   opN Tryz.prog (sExt x27 0) Kp fun x28 =>
   opN Tryz.prog (sExt x27 1) Kp fun x29 =>
   opN Tryz.prog (sExt x27 2) Kp fun x30 =>
   opN Tryz.prog (sEq .eql 3 (.tmp 31) (.const (.int .i64 1)) v2 (.int .i64 1)) Kp fun x32 =>
   gdK x32 true (fun k => k v0) fun x34 =>
   gdK x32 true (fun k => k x28) fun x35 =>
   gdK x32 true (opN Tryz.prog (sEq .neq 9 (.tmp 34) (.tmp 35) x34 x35) Kp) fun x36 =>
   opN Tryz.prog (sPick x32 x36 (.bool false)) Kp fun x37 =>
   gdK x37 false (fun k => k v2) fun x39 =>
   gdK x37 false (opN Tryz.prog (sEq .eql 3 (.tmp 39) (.const (.int .i64 2)) x39 (.int .i64 2)) Kp) fun x40 =>
   gdK x37 false (fun k => k x40) fun x41 =>
   gdK x41 true (fun k => k v0) fun x42 =>
   gdK x41 true (fun k => k x29) fun x43 =>
   gdK x41 true (opN Tryz.prog (sEq .neq 9 (.tmp 42) (.tmp 43) x42 x43) Kp) fun x44 =>
   gdK x37 false (opN Tryz.prog (sPick x41 x44 (.bool false)) Kp) fun x45 =>
   opN Tryz.prog (sPick x37 (.bool true) x45) Kp fun x46 =>
   gdK x46 false (fun k => k v2) fun x48 =>
   gdK x46 false (opN Tryz.prog (sEq .eql 3 (.tmp 48) (.const (.int .i64 3)) x48 (.int .i64 3)) Kp) fun x49 =>
   gdK x46 false (fun k => k x49) fun x50 =>
   gdK x50 true (fun k => k v0) fun x51 =>
   gdK x50 true (fun k => k x30) fun x52 =>
   gdK x50 true (opN Tryz.prog (sEq .neq 9 (.tmp 51) (.tmp 52) x51 x52) Kp) fun x53 =>
   gdK x46 false (opN Tryz.prog (sPick x50 x53 (.bool false)) Kp) fun x54 =>
   opN Tryz.prog (sPick x46 (.bool true) x54) Kp fun x55 =>
   condS x55
   (K (.tuple #[(.int .i64 0), (.int .i64 41)]))
   (K (.tuple #[x16, (.int .i64 0)])))
def ref09_same_an : Ann := { cuts := [], blks := [], loops := [], drs := [] }
theorem ref09_same_eq (v0 v1 v2 : Value) (Kp : PK) (K : Value → WP) : cevF Tryz.prog ref09_same_an Tryz.f39 [v0, v1, v2] Kp K = ref09_same v0 v1 v2 Kp K := by kernel_rfl
theorem ref09_same_calls {v0 v1 v2 : Value} {Kp : PK} {K : Value → WP} {w : World} (h : ref09_same v0 v1 v2 Kp K w) : Calls Tryz.prog 39 #[v0, v1, v2] w (after Kp K) :=
  calls_of_shape (calls_of_cev wide Tryz.func39 (an := ref09_same_an) (args := [v0, v1, v2]) (cast (congrFun (ref09_same_eq v0 v1 v2 Kp K) w).symm h))
theorem ref09_same_cn {v0 v1 v2 : Value} {W : World} {α : Type} {A : List HP} {r : α → Value} {B : α → List HP} (h : ∀ F, Ent W (A ++ F) (ref09_same v0 v1 v2 noP fun v w => ∃ x, v = r x ∧ sat W (B x ++ F) w)) : Cn Tryz.prog 39 [v0, v1, v2] W A r B :=
  Cn.of (shape := ref09_same v0 v1 v2) Tryz.call39 (fun h => ref09_same_calls h) h
theorem ref09_same_cnP {v0 v1 v2 : Value} {W : World} {α β : Type} {A : List HP} {r : α → Value} {B : α → List HP} {pc : β → List PanicEntry} {Bp : β → List HP} (h : ∀ F, Ent W (A ++ F) (ref09_same v0 v1 v2 (fun ch w => ∃ y, ch = pc y ∧ sat W (Bp y ++ F) w) fun v w => ∃ x, v = r x ∧ sat W (B x ++ F) w)) : CnP Tryz.prog 39 [v0, v1, v2] W A r B pc Bp :=
  CnP.of (shape := ref09_same v0 v1 v2) Tryz.call39 (fun h => ref09_same_calls h) h

/-- ref09_read -/
def ref09_read (v0 v1 v2 v3 v4 : Value) (Kp : PK) (K : Value → WP) : WP :=
  opN Tryz.prog (sAlloc 84) Kp fun x10 =>
  opN Tryz.prog (sCall (fn 65) [v0, v2]) Kp fun x14 =>
  opN Tryz.prog (sCall (fn 41) [v0, v1, (.int .i64 2)]) Kp fun x17 =>
  opN Tryz.prog (sCall (fn 41) [v0, v3, (.int .i64 2)]) Kp fun x20 =>
  opN Tryz.prog (sBin .add 3 v3 (.int .i64 3)) Kp fun x23 =>
  opN Tryz.prog (sCall (fn 41) [v0, x23, (.int .i64 2)]) Kp fun x24 =>
  opN Tryz.prog (sBin .add 3 v3 (.int .i64 6)) Kp fun x27 =>
  opN Tryz.prog (sCall (fn 41) [v0, x27, (.int .i64 2)]) Kp fun x28 =>
  opN Tryz.prog (sBuild 84 [(0, v4), (1, x14), (2, x17), (3, x20), (4, x24), (5, x28)]) Kp fun x29 =>
  opN Tryz.prog (sStore 84 x10 x29) Kp fun _ =>
  (stS Tryz.prog (sRes 84 x10) fun r0 => K r0)
def ref09_read_an : Ann := { cuts := [], blks := [], loops := [], drs := [] }
theorem ref09_read_eq (v0 v1 v2 v3 v4 : Value) (Kp : PK) (K : Value → WP) : cevF Tryz.prog ref09_read_an Tryz.f40 [v0, v1, v2, v3, v4] Kp K = ref09_read v0 v1 v2 v3 v4 Kp K := by kernel_rfl
theorem ref09_read_calls {v0 v1 v2 v3 v4 : Value} {Kp : PK} {K : Value → WP} {w : World} (h : ref09_read v0 v1 v2 v3 v4 Kp K w) : Calls Tryz.prog 40 #[v0, v1, v2, v3, v4] w (after Kp K) :=
  calls_of_shape (calls_of_cev wide Tryz.func40 (an := ref09_read_an) (args := [v0, v1, v2, v3, v4]) (cast (congrFun (ref09_read_eq v0 v1 v2 v3 v4 Kp K) w).symm h))
theorem ref09_read_cn {v0 v1 v2 v3 v4 : Value} {W : World} {α : Type} {A : List HP} {r : α → Value} {B : α → List HP} (h : ∀ F, Ent W (A ++ F) (ref09_read v0 v1 v2 v3 v4 noP fun v w => ∃ x, v = r x ∧ sat W (B x ++ F) w)) : Cn Tryz.prog 40 [v0, v1, v2, v3, v4] W A r B :=
  Cn.of (shape := ref09_read v0 v1 v2 v3 v4) Tryz.call40 (fun h => ref09_read_calls h) h
theorem ref09_read_cnP {v0 v1 v2 v3 v4 : Value} {W : World} {α β : Type} {A : List HP} {r : α → Value} {B : α → List HP} {pc : β → List PanicEntry} {Bp : β → List HP} (h : ∀ F, Ent W (A ++ F) (ref09_read v0 v1 v2 v3 v4 (fun ch w => ∃ y, ch = pc y ∧ sat W (Bp y ++ F) w) fun v w => ∃ x, v = r x ∧ sat W (B x ++ F) w)) : CnP Tryz.prog 40 [v0, v1, v2, v3, v4] W A r B pc Bp :=
  CnP.of (shape := ref09_read v0 v1 v2 v3 v4) Tryz.call40 (fun h => ref09_read_calls h) h

/-- ref09_digits -/
def ref09_digits (v0 v1 v2 : Value) (Kp : PK) (K : Value → WP) : WP :=
  opN Tryz.prog (sBin .lss 3 v1 (.int .i64 0)) Kp fun x10 =>
  gdK x10 false (fun k => k v1) fun x12 =>
  gdK x10 false (fun k => k v2) fun x13 =>
  gdK x10 false (opN Tryz.prog (sBin .add 3 x12 x13) Kp) fun x14 =>
  gdK x10 false (fun k => k v0) fun x15 =>
  gdK x10 false (opN Tryz.prog (sLen #[9] 3 [x15]) Kp) fun x16 =>
  gdK x10 false (opN Tryz.prog (sBin .gtr 3 x14 x16) Kp) fun x17 =>
  opN Tryz.prog (sPick x10 (.bool true) x17) Kp fun x18 =>
  condS x18
  (K (.int .i64 (-1)))
  (loop2 (fun I1 m1 _ y7 y8 =>
    opN Tryz.prog (sBin .add 3 v1 v2) Kp fun x23 =>
    opN Tryz.prog (sBin .lss 3 y8 x23) Kp fun x24 =>
    condS x24
    (opN Tryz.prog (sIx 9 v0 y8) Kp fun x29 =>
     opN Tryz.prog (sBin .lss 5 x29 (.int .u8 48)) Kp fun x30 =>
     gdK x30 false (fun k => k v0) fun x32 =>
     gdK x30 false (fun k => k y8) fun x33 =>
     gdK x30 false (opN Tryz.prog (sIx 9 x32 x33) Kp) fun x34 =>
     gdK x30 false (opN Tryz.prog (sBin .gtr 5 x34 (.int .u8 57)) Kp) fun x35 =>
     opN Tryz.prog (sPick x30 (.bool true) x35) Kp fun x36 =>
     condS x36
     (K (.int .i64 (-1)))
     (opN Tryz.prog (sBin .mul 3 (.int .i64 10) y7) Kp fun x38 =>
      opN Tryz.prog (sIx 9 v0 y8) Kp fun x41 =>
      opN Tryz.prog (sBin .sub 5 x41 (.int .u8 48)) Kp fun x42 =>
      opN Tryz.prog (sConv 5 3 x42) Kp fun x43 =>
      opN Tryz.prog (sBin .add 3 x38 x43) Kp fun x44 =>
      opN Tryz.prog (sBin .add 3 y8 (.int .i64 1)) Kp fun x26 =>
      next2 I1 m1 x44 x26))
    (K y7)) (.int .i64 0) v1)
def ref09_digits_an : Ann := { cuts := [], blks := [], loops := [(5, [7, 8])], drs := [] }
theorem ref09_digits_eq (v0 v1 v2 : Value) (Kp : PK) (K : Value → WP) : cevF Tryz.prog ref09_digits_an Tryz.f41 [v0, v1, v2] Kp K = ref09_digits v0 v1 v2 Kp K := by kernel_rfl
theorem ref09_digits_calls {v0 v1 v2 : Value} {Kp : PK} {K : Value → WP} {w : World} (h : ref09_digits v0 v1 v2 Kp K w) : Calls Tryz.prog 41 #[v0, v1, v2] w (after Kp K) :=
  calls_of_shape (calls_of_cev wide Tryz.func41 (an := ref09_digits_an) (args := [v0, v1, v2]) (cast (congrFun (ref09_digits_eq v0 v1 v2 Kp K) w).symm h))
theorem ref09_digits_cn {v0 v1 v2 : Value} {W : World} {α : Type} {A : List HP} {r : α → Value} {B : α → List HP} (h : ∀ F, Ent W (A ++ F) (ref09_digits v0 v1 v2 noP fun v w => ∃ x, v = r x ∧ sat W (B x ++ F) w)) : Cn Tryz.prog 41 [v0, v1, v2] W A r B :=
  Cn.of (shape := ref09_digits v0 v1 v2) Tryz.call41 (fun h => ref09_digits_calls h) h
theorem ref09_digits_cnP {v0 v1 v2 : Value} {W : World} {α β : Type} {A : List HP} {r : α → Value} {B : α → List HP} {pc : β → List PanicEntry} {Bp : β → List HP} (h : ∀ F, Ent W (A ++ F) (ref09_digits v0 v1 v2 (fun ch w => ∃ y, ch = pc y ∧ sat W (Bp y ++ F) w) fun v w => ∃ x, v = r x ∧ sat W (B x ++ F) w)) : CnP Tryz.prog 41 [v0, v1, v2] W A r B pc Bp :=
  CnP.of (shape := ref09_digits v0 v1 v2) Tryz.call41 (fun h => ref09_digits_calls h) h

/-- ref09_century -/
def ref09_century (v0 v1 : Value) (Kp : PK) (K : Value → WP) : WP :=
  opN Tryz.prog (sCall (fn 63) [v1]) Kp fun x11 =>
  opN Tryz.prog (sExt x11 0) Kp fun x12 =>
  opN Tryz.prog (sExt x11 1) Kp fun x13 =>
  opN Tryz.prog (sAlloc 84) Kp fun x6 =>
  opN Tryz.prog (sStore 84 x6 x12) Kp fun _ =>
  cut1 (fun J1 =>
   opN Tryz.prog (sEq .eql 3 (.tmp 14) (.const (.int .i64 0)) x13 (.int .i64 0)) Kp fun x15 =>
   condS x15
   (opN Tryz.prog (sFA 84 x6 0) Kp fun x16 =>
    opN Tryz.prog (sLoad 3 x16) Kp fun x17 =>
    J1 x17)
   (J1 (.int .i64 1970))) fun _ z5 =>
  opN Tryz.prog (sBin .add 3 z5 (.int .i64 50)) Kp fun x19 =>
  opN Tryz.prog (sMin #[3, 3] 3 [x19, (.int .i64 9999)]) Kp fun x20 =>
  loop1 (fun I1 m1 _ y8 =>
   opN Tryz.prog (sBin .geq 3 y8 (.int .i64 1970)) Kp fun x22 =>
   condS x22
   (opN Tryz.prog (sBin .rem 3 y8 (.int .i64 100)) Kp fun x26 =>
    opN Tryz.prog (sEq .eql 3 (.tmp 26) (.tmp 27) x26 v0) Kp fun x28 =>
    condS x28
    (K y8)
    (opN Tryz.prog (sBin .sub 3 y8 (.int .i64 1)) Kp fun x24 =>
     next1 I1 m1 x24))
   (K (.int .i64 (-1)))) x20
def ref09_century_an : Ann := { cuts := [(5, [5])], blks := [], loops := [(6, [8])], drs := [] }
theorem ref09_century_eq (v0 v1 : Value) (Kp : PK) (K : Value → WP) : cevF Tryz.prog ref09_century_an Tryz.f42 [v0, v1] Kp K = ref09_century v0 v1 Kp K := by kernel_rfl
theorem ref09_century_calls {v0 v1 : Value} {Kp : PK} {K : Value → WP} {w : World} (h : ref09_century v0 v1 Kp K w) : Calls Tryz.prog 42 #[v0, v1] w (after Kp K) :=
  calls_of_shape (calls_of_cev wide Tryz.func42 (an := ref09_century_an) (args := [v0, v1]) (cast (congrFun (ref09_century_eq v0 v1 Kp K) w).symm h))
theorem ref09_century_cn {v0 v1 : Value} {W : World} {α : Type} {A : List HP} {r : α → Value} {B : α → List HP} (h : ∀ F, Ent W (A ++ F) (ref09_century v0 v1 noP fun v w => ∃ x, v = r x ∧ sat W (B x ++ F) w)) : Cn Tryz.prog 42 [v0, v1] W A r B :=
  Cn.of (shape := ref09_century v0 v1) Tryz.call42 (fun h => ref09_century_calls h) h
theorem ref09_century_cnP {v0 v1 : Value} {W : World} {α β : Type} {A : List HP} {r : α → Value} {B : α → List HP} {pc : β → List PanicEntry} {Bp : β → List HP} (h : ∀ F, Ent W (A ++ F) (ref09_century v0 v1 (fun ch w => ∃ y, ch = pc y ∧ sat W (Bp y ++ F) w) fun v w => ∃ x, v = r x ∧ sat W (B x ++ F) w)) : CnP Tryz.prog 42 [v0, v1] W A r B pc Bp :=
  CnP.of (shape := ref09_century v0 v1) Tryz.call42 (fun h => ref09_century_calls h) h

/-- ascii_Equal -/
def ascii_Equal (v0 v1 : Value) (Kp : PK) (K : Value → WP) : WP :=
  opN Tryz.prog (sLen #[9] 3 [v0]) Kp fun x6 =>
  opN Tryz.prog (sLen #[9] 3 [v1]) Kp fun x8 =>
  opN Tryz.prog (sEq .eql 3 (.tmp 6) (.tmp 8) x6 x8) Kp fun x9 =>
  gdK x9 true (fun k => k v0) fun x11 =>
  gdK x9 true (opN Tryz.prog (sCall (fn 66) [x11]) Kp) fun x12 =>
  gdK x9 true (fun k => k v1) fun x13 =>
  gdK x9 true (opN Tryz.prog (sCall (fn 66) [x13]) Kp) fun x14 =>
  gdK x9 true (opN Tryz.prog (sEq .eql 9 (.tmp 12) (.tmp 14) x12 x14) Kp) fun x15 =>
  opN Tryz.prog (sPick x9 x15 (.bool false)) Kp fun x16 =>
  K x16
def ascii_Equal_an : Ann := { cuts := [], blks := [], loops := [], drs := [] }
theorem ascii_Equal_eq (v0 v1 : Value) (Kp : PK) (K : Value → WP) : cevF Tryz.prog ascii_Equal_an Tryz.f43 [v0, v1] Kp K = ascii_Equal v0 v1 Kp K := by kernel_rfl
theorem ascii_Equal_calls {v0 v1 : Value} {Kp : PK} {K : Value → WP} {w : World} (h : ascii_Equal v0 v1 Kp K w) : Calls Tryz.prog 43 #[v0, v1] w (after Kp K) :=
  calls_of_shape (calls_of_cev wide Tryz.func43 (an := ascii_Equal_an) (args := [v0, v1]) (cast (congrFun (ascii_Equal_eq v0 v1 Kp K) w).symm h))
theorem ascii_Equal_cn {v0 v1 : Value} {W : World} {α : Type} {A : List HP} {r : α → Value} {B : α → List HP} (h : ∀ F, Ent W (A ++ F) (ascii_Equal v0 v1 noP fun v w => ∃ x, v = r x ∧ sat W (B x ++ F) w)) : Cn Tryz.prog 43 [v0, v1] W A r B :=
  Cn.of (shape := ascii_Equal v0 v1) Tryz.call43 (fun h => ascii_Equal_calls h) h
theorem ascii_Equal_cnP {v0 v1 : Value} {W : World} {α β : Type} {A : List HP} {r : α → Value} {B : α → List HP} {pc : β → List PanicEntry} {Bp : β → List HP} (h : ∀ F, Ent W (A ++ F) (ascii_Equal v0 v1 (fun ch w => ∃ y, ch = pc y ∧ sat W (Bp y ++ F) w) fun v w => ∃ x, v = r x ∧ sat W (B x ++ F) w)) : CnP Tryz.prog 43 [v0, v1] W A r B pc Bp :=
  CnP.of (shape := ascii_Equal v0 v1) Tryz.call43 (fun h => ascii_Equal_calls h) h

/-- ascii_Trim -/
def ascii_Trim (v0 : Value) (Kp : PK) (K : Value → WP) : WP :=
  opN Tryz.prog (sCall (fn 67) [v0, (.string ⟨#[32, 9]⟩)]) Kp fun x4 =>
  K x4
def ascii_Trim_an : Ann := { cuts := [], blks := [], loops := [], drs := [] }
theorem ascii_Trim_eq (v0 : Value) (Kp : PK) (K : Value → WP) : cevF Tryz.prog ascii_Trim_an Tryz.f44 [v0] Kp K = ascii_Trim v0 Kp K := by kernel_rfl
theorem ascii_Trim_calls {v0 : Value} {Kp : PK} {K : Value → WP} {w : World} (h : ascii_Trim v0 Kp K w) : Calls Tryz.prog 44 #[v0] w (after Kp K) :=
  calls_of_shape (calls_of_cev wide Tryz.func44 (an := ascii_Trim_an) (args := [v0]) (cast (congrFun (ascii_Trim_eq v0 Kp K) w).symm h))
theorem ascii_Trim_cn {v0 : Value} {W : World} {α : Type} {A : List HP} {r : α → Value} {B : α → List HP} (h : ∀ F, Ent W (A ++ F) (ascii_Trim v0 noP fun v w => ∃ x, v = r x ∧ sat W (B x ++ F) w)) : Cn Tryz.prog 44 [v0] W A r B :=
  Cn.of (shape := ascii_Trim v0) Tryz.call44 (fun h => ascii_Trim_calls h) h
theorem ascii_Trim_cnP {v0 : Value} {W : World} {α β : Type} {A : List HP} {r : α → Value} {B : α → List HP} {pc : β → List PanicEntry} {Bp : β → List HP} (h : ∀ F, Ent W (A ++ F) (ascii_Trim v0 (fun ch w => ∃ y, ch = pc y ∧ sat W (Bp y ++ F) w) fun v w => ∃ x, v = r x ∧ sat W (B x ++ F) w)) : CnP Tryz.prog 44 [v0] W A r B pc Bp :=
  CnP.of (shape := ascii_Trim v0) Tryz.call44 (fun h => ascii_Trim_calls h) h

/-- fields_list_fields_Tag -/
def fields_list_fields_Tag (v0 v1 : Value) (Kp : PK) (K : Value → WP) : WP :=
  opN Tryz.prog (sBox 93 v1) Kp fun x3 =>
  opN Tryz.prog (sAlloc 68) Kp fun x4 =>
  opN Tryz.prog (sAlloc 52) Kp fun x5 =>
  opN Tryz.prog (sAlloc 68) Kp fun x6 =>
  opN Tryz.prog (sLoad 93 x3) Kp fun x10 =>
  opN Tryz.prog (sCall (fn 68) [x10, v0]) Kp fun x12 =>
  rfS Tryz.prog x12 1 (fun u13 B1 N1 J1r =>
   B1 (opN Tryz.prog (sFA 93 x3 2) noK fun x15 =>
    opN Tryz.prog (sLoad 76 x15) noK fun x16 =>
    opN Tryz.prog (sCall x16 [u13]) noK fun x18 =>
    opN Tryz.prog (sExt x18 0) noK fun x19 =>
    opN Tryz.prog (sExt x18 1) noK fun x20 =>
    opN Tryz.prog (sAlloc 28) noK fun x8 =>
    opN Tryz.prog (sStore 28 x8 x19) noK fun _ =>
    opN Tryz.prog (sUn .not x20) noK fun x22 =>
    condS x22
    (opN Tryz.prog (sStore 68 x4 (.slice none 0 0)) noK fun _ =>
     opN Tryz.prog (sStore 52 x5 (.int .i64 42)) noK fun _ =>
     J1r)
    (opN Tryz.prog (sLoad 68 x6) noK fun x23 =>
     opN Tryz.prog (sLoad 28 x8) noK fun x24 =>
     opN Tryz.prog (sBuildSl 68 1 [(0, x24)]) noK fun x25 =>
     opN Tryz.prog (sApp #[68, 68] 68 [x23, x25]) noK fun x26 =>
     opN Tryz.prog (sStore 68 x6 x26) noK fun _ =>
     N1))) (fun d1 =>
   opN Tryz.prog (sLoad 68 x6) (KpM [d1] Kp) fun x27 =>
   opN Tryz.prog (sStore 68 x4 x27) (KpM [d1] Kp) fun _ =>
   opN Tryz.prog (sStore 52 x5 (.int .i64 0)) (KpM [d1] Kp) fun _ =>
   (tkS d1 ((stS Tryz.prog (sRes 68 x4) fun r0 => (stS Tryz.prog (sRes 52 x5) fun r1 => K (.tuple #[r0, r1])))))) (fun d1 => (tkS d1 ((stS Tryz.prog (sRes 68 x4) fun r0 => (stS Tryz.prog (sRes 52 x5) fun r1 => K (.tuple #[r0, r1])))))) (fun d1 ch => (tkS d1 (Kp ch)))
def fields_list_fields_Tag_an : Ann := { cuts := [], blks := [], loops := [], drs := [] }
theorem fields_list_fields_Tag_eq (v0 v1 : Value) (Kp : PK) (K : Value → WP) : cevFT Tryz.prog fields_list_fields_Tag_an Tryz.f45 [v0, v1] Kp K = fields_list_fields_Tag v0 v1 Kp K := by kernel_rfl
theorem fields_list_fields_Tag_calls {v0 v1 : Value} {Kp : PK} {K : Value → WP} {w : World} (h : fields_list_fields_Tag v0 v1 Kp K w) : Calls Tryz.prog 45 #[v0, v1] w (after Kp K) :=
  calls_of_shape (calls_of_cevT wide Tryz.func45 (an := fields_list_fields_Tag_an) (args := [v0, v1]) (cast (congrFun (fields_list_fields_Tag_eq v0 v1 Kp K) w).symm h))
theorem fields_list_fields_Tag_cn {v0 v1 : Value} {W : World} {α : Type} {A : List HP} {r : α → Value} {B : α → List HP} (h : ∀ F, Ent W (A ++ F) (fields_list_fields_Tag v0 v1 noP fun v w => ∃ x, v = r x ∧ sat W (B x ++ F) w)) : Cn Tryz.prog 45 [v0, v1] W A r B :=
  Cn.of (shape := fields_list_fields_Tag v0 v1) Tryz.call45 (fun h => fields_list_fields_Tag_calls h) h
theorem fields_list_fields_Tag_cnP {v0 v1 : Value} {W : World} {α β : Type} {A : List HP} {r : α → Value} {B : α → List HP} {pc : β → List PanicEntry} {Bp : β → List HP} (h : ∀ F, Ent W (A ++ F) (fields_list_fields_Tag v0 v1 (fun ch w => ∃ y, ch = pc y ∧ sat W (Bp y ++ F) w) fun v w => ∃ x, v = r x ∧ sat W (B x ++ F) w)) : CnP Tryz.prog 45 [v0, v1] W A r B pc Bp :=
  CnP.of (shape := fields_list_fields_Tag v0 v1) Tryz.call45 (fun h => fields_list_fields_Tag_calls h) h

/-- strings_Builder_Grow -/
def strings_Builder_Grow (v0 v1 : Value) (Kp : PK) (K : Value → WP) : WP :=
  opN Tryz.prog (sCall (fn 69) [v0]) Kp fun x5 =>
  cut0 (fun J1 =>
   opN Tryz.prog (sBin .lss 3 v1 (.int .i64 0)) Kp fun x7 =>
   condS x7
   (opN Tryz.prog (sMkI 9 (.string ⟨#[115, 116, 114, 105, 110, 103, 115, 46, 66, 117, 105, 108, 100, 101, 114, 46, 71, 114, 111, 119, 58, 32, 110, 101, 103, 97, 116, 105, 118, 101, 32, 99, 111, 117, 110, 116]⟩)) Kp fun x8 =>
    opN Tryz.prog (sPanic x8) Kp fun _ =>
    J1)
   (J1)) fun _ =>
  drS (stS Tryz.prog (sNil v0) fun x10 =>
   stS Tryz.prog (sFA 97 x10 1) fun x11 =>
   stS Tryz.prog (sLoad 95 x11) fun x12 =>
   stS Tryz.prog (sCap #[95] 3 [x12]) fun x13 =>
   stS Tryz.prog (sNil v0) fun x15 =>
   stS Tryz.prog (sFA 97 x15 1) fun x16 =>
   stS Tryz.prog (sLoad 95 x16) fun x17 =>
   stS Tryz.prog (sLen #[95] 3 [x17]) fun x18 =>
   stS Tryz.prog (sBin .sub 3 x13 x18) fun x19 =>
   stS Tryz.prog (sBin .lss 3 x19 v1) fun x21 =>
   condS x21
   (opN Tryz.prog (sCall (fn 70) [v0, v1]) Kp fun x24 =>
    K (.tuple #[]))
   (K (.tuple #[])))
def strings_Builder_Grow_an : Ann := { cuts := [(3, [])], blks := [], loops := [], drs := [(3, [(0, 1), (1, 1), (2, 1), (3, 1), (4, 1), (5, 1), (6, 1), (7, 1), (8, 1), (9, 1), (10, 1), (11, 1), (12, 1)])] }
theorem strings_Builder_Grow_eq (v0 v1 : Value) (Kp : PK) (K : Value → WP) : cevF Tryz.prog strings_Builder_Grow_an Tryz.f46 [v0, v1] Kp K = strings_Builder_Grow v0 v1 Kp K := by kernel_rfl
theorem strings_Builder_Grow_calls {v0 v1 : Value} {Kp : PK} {K : Value → WP} {w : World} (h : strings_Builder_Grow v0 v1 Kp K w) : Calls Tryz.prog 46 #[v0, v1] w (after Kp K) :=
  calls_of_shape (calls_of_cev wide Tryz.func46 (an := strings_Builder_Grow_an) (args := [v0, v1]) (cast (congrFun (strings_Builder_Grow_eq v0 v1 Kp K) w).symm h))
theorem strings_Builder_Grow_cn {v0 v1 : Value} {W : World} {α : Type} {A : List HP} {r : α → Value} {B : α → List HP} (h : ∀ F, Ent W (A ++ F) (strings_Builder_Grow v0 v1 noP fun v w => ∃ x, v = r x ∧ sat W (B x ++ F) w)) : Cn Tryz.prog 46 [v0, v1] W A r B :=
  Cn.of (shape := strings_Builder_Grow v0 v1) Tryz.call46 (fun h => strings_Builder_Grow_calls h) h
theorem strings_Builder_Grow_cnP {v0 v1 : Value} {W : World} {α β : Type} {A : List HP} {r : α → Value} {B : α → List HP} {pc : β → List PanicEntry} {Bp : β → List HP} (h : ∀ F, Ent W (A ++ F) (strings_Builder_Grow v0 v1 (fun ch w => ∃ y, ch = pc y ∧ sat W (Bp y ++ F) w) fun v w => ∃ x, v = r x ∧ sat W (B x ++ F) w)) : CnP Tryz.prog 46 [v0, v1] W A r B pc Bp :=
  CnP.of (shape := strings_Builder_Grow v0 v1) Tryz.call46 (fun h => strings_Builder_Grow_calls h) h

/-- strings_Builder_WriteString -/
def strings_Builder_WriteString (v0 v1 : Value) (Kp : PK) (K : Value → WP) : WP :=
  opN Tryz.prog (sCall (fn 69) [v0]) Kp fun x7 =>
  opN Tryz.prog (sNil v0) Kp fun x10 =>
  opN Tryz.prog (sFA 97 x10 1) Kp fun x11 =>
  opN Tryz.prog (sLoad 95 x11) Kp fun x12 =>
  opN Tryz.prog (sApp #[95, 9] 95 [x12, v1]) Kp fun x14 =>
  opN Tryz.prog (sNil v0) Kp fun x15 =>
  opN Tryz.prog (sFA 97 x15 1) Kp fun x16 =>
  opN Tryz.prog (sStore 95 x16 x14) Kp fun _ =>
  opN Tryz.prog (sLen #[9] 3 [v1]) Kp fun x18 =>
  K (.tuple #[x18, .nilIface])
def strings_Builder_WriteString_an : Ann := { cuts := [], blks := [], loops := [], drs := [] }
theorem strings_Builder_WriteString_eq (v0 v1 : Value) (Kp : PK) (K : Value → WP) : cevF Tryz.prog strings_Builder_WriteString_an Tryz.f47 [v0, v1] Kp K = strings_Builder_WriteString v0 v1 Kp K := by kernel_rfl
theorem strings_Builder_WriteString_calls {v0 v1 : Value} {Kp : PK} {K : Value → WP} {w : World} (h : strings_Builder_WriteString v0 v1 Kp K w) : Calls Tryz.prog 47 #[v0, v1] w (after Kp K) :=
  calls_of_shape (calls_of_cev wide Tryz.func47 (an := strings_Builder_WriteString_an) (args := [v0, v1]) (cast (congrFun (strings_Builder_WriteString_eq v0 v1 Kp K) w).symm h))
theorem strings_Builder_WriteString_cn {v0 v1 : Value} {W : World} {α : Type} {A : List HP} {r : α → Value} {B : α → List HP} (h : ∀ F, Ent W (A ++ F) (strings_Builder_WriteString v0 v1 noP fun v w => ∃ x, v = r x ∧ sat W (B x ++ F) w)) : Cn Tryz.prog 47 [v0, v1] W A r B :=
  Cn.of (shape := strings_Builder_WriteString v0 v1) Tryz.call47 (fun h => strings_Builder_WriteString_calls h) h
theorem strings_Builder_WriteString_cnP {v0 v1 : Value} {W : World} {α β : Type} {A : List HP} {r : α → Value} {B : α → List HP} {pc : β → List PanicEntry} {Bp : β → List HP} (h : ∀ F, Ent W (A ++ F) (strings_Builder_WriteString v0 v1 (fun ch w => ∃ y, ch = pc y ∧ sat W (Bp y ++ F) w) fun v w => ∃ x, v = r x ∧ sat W (B x ++ F) w)) : CnP Tryz.prog 47 [v0, v1] W A r B pc Bp :=
  CnP.of (shape := strings_Builder_WriteString v0 v1) Tryz.call47 (fun h => strings_Builder_WriteString_calls h) h

/-- ref01_Equal -/
def ref01_Equal (v0 v1 : Value) (Kp : PK) (K : Value → WP) : WP :=
  opN Tryz.prog (sCall (fn 71) [v0]) Kp fun x6 =>
  opN Tryz.prog (sCall (fn 71) [v1]) Kp fun x8 =>
  opN Tryz.prog (sEq .eql 9 (.tmp 6) (.tmp 8) x6 x8) Kp fun x9 =>
  K x9
def ref01_Equal_an : Ann := { cuts := [], blks := [], loops := [], drs := [] }
theorem ref01_Equal_eq (v0 v1 : Value) (Kp : PK) (K : Value → WP) : cevF Tryz.prog ref01_Equal_an Tryz.f49 [v0, v1] Kp K = ref01_Equal v0 v1 Kp K := by kernel_rfl
theorem ref01_Equal_calls {v0 v1 : Value} {Kp : PK} {K : Value → WP} {w : World} (h : ref01_Equal v0 v1 Kp K w) : Calls Tryz.prog 49 #[v0, v1] w (after Kp K) :=
  calls_of_shape (calls_of_cev wide Tryz.func49 (an := ref01_Equal_an) (args := [v0, v1]) (cast (congrFun (ref01_Equal_eq v0 v1 Kp K) w).symm h))
theorem ref01_Equal_cn {v0 v1 : Value} {W : World} {α : Type} {A : List HP} {r : α → Value} {B : α → List HP} (h : ∀ F, Ent W (A ++ F) (ref01_Equal v0 v1 noP fun v w => ∃ x, v = r x ∧ sat W (B x ++ F) w)) : Cn Tryz.prog 49 [v0, v1] W A r B :=
  Cn.of (shape := ref01_Equal v0 v1) Tryz.call49 (fun h => ref01_Equal_calls h) h
theorem ref01_Equal_cnP {v0 v1 : Value} {W : World} {α β : Type} {A : List HP} {r : α → Value} {B : α → List HP} {pc : β → List PanicEntry} {Bp : β → List HP} (h : ∀ F, Ent W (A ++ F) (ref01_Equal v0 v1 (fun ch w => ∃ y, ch = pc y ∧ sat W (Bp y ++ F) w) fun v w => ∃ x, v = r x ∧ sat W (B x ++ F) w)) : CnP Tryz.prog 49 [v0, v1] W A r B pc Bp :=
  CnP.of (shape := ref01_Equal v0 v1) Tryz.call49 (fun h => ref01_Equal_calls h) h

/-- ref01_Trim -/
def ref01_Trim (v0 : Value) (Kp : PK) (K : Value → WP) : WP :=
  loop1 (fun I1 m1 _ y0 =>
   opN Tryz.prog (sLen #[9] 3 [y0]) Kp fun x4 =>
   opN Tryz.prog (sBin .gtr 3 x4 (.int .i64 0)) Kp fun x5 =>
   gdK x5 true (fun k => k y0) fun x7 =>
   gdK x5 true (opN Tryz.prog (sIx 9 x7 (.int .i64 0)) Kp) fun x8 =>
   gdK x5 true (opN Tryz.prog (sCall (fn 72) [x8]) Kp) fun x9 =>
   opN Tryz.prog (sPick x5 x9 (.bool false)) Kp fun x10 =>
   condS x10
   (opN Tryz.prog (sSl 9 y0 (some (.int .i64 1)) none none) Kp fun x12 =>
    next1 I1 m1 x12)
   (loop1 (fun I2 m2 _ y0_2 =>
     opN Tryz.prog (sLen #[9] 3 [y0_2]) Kp fun x14 =>
     opN Tryz.prog (sBin .gtr 3 x14 (.int .i64 0)) Kp fun x15 =>
     gdK x15 true (fun k => k y0_2) fun x17 =>
     gdK x15 true (fun k => k y0_2) fun x18 =>
     gdK x15 true (opN Tryz.prog (sLen #[9] 3 [x18]) Kp) fun x19 =>
     gdK x15 true (opN Tryz.prog (sBin .sub 3 x19 (.int .i64 1)) Kp) fun x20 =>
     gdK x15 true (opN Tryz.prog (sIx 9 x17 x20) Kp) fun x21 =>
     gdK x15 true (opN Tryz.prog (sCall (fn 72) [x21]) Kp) fun x22 =>
     opN Tryz.prog (sPick x15 x22 (.bool false)) Kp fun x23 =>
     condS x23
     (opN Tryz.prog (sLen #[9] 3 [y0_2]) Kp fun x26 =>
      opN Tryz.prog (sBin .sub 3 x26 (.int .i64 1)) Kp fun x27 =>
      opN Tryz.prog (sSl 9 y0_2 none (some x27) none) Kp fun x28 =>
      next1 I2 m2 x28)
     (K y0_2)) y0)) v0
def ref01_Trim_an : Ann := { cuts := [], blks := [], loops := [(1, [0]), (3, [0])], drs := [] }
theorem ref01_Trim_eq (v0 : Value) (Kp : PK) (K : Value → WP) : cevF Tryz.prog ref01_Trim_an Tryz.f50 [v0] Kp K = ref01_Trim v0 Kp K := by kernel_rfl
theorem ref01_Trim_calls {v0 : Value} {Kp : PK} {K : Value → WP} {w : World} (h : ref01_Trim v0 Kp K w) : Calls Tryz.prog 50 #[v0] w (after Kp K) :=
  calls_of_shape (calls_of_cev wide Tryz.func50 (an := ref01_Trim_an) (args := [v0]) (cast (congrFun (ref01_Trim_eq v0 Kp K) w).symm h))
theorem ref01_Trim_cn {v0 : Value} {W : World} {α : Type} {A : List HP} {r : α → Value} {B : α → List HP} (h : ∀ F, Ent W (A ++ F) (ref01_Trim v0 noP fun v w => ∃ x, v = r x ∧ sat W (B x ++ F) w)) : Cn Tryz.prog 50 [v0] W A r B :=
  Cn.of (shape := ref01_Trim v0) Tryz.call50 (fun h => ref01_Trim_calls h) h
theorem ref01_Trim_cnP {v0 : Value} {W : World} {α β : Type} {A : List HP} {r : α → Value} {B : α → List HP} {pc : β → List PanicEntry} {Bp : β → List HP} (h : ∀ F, Ent W (A ++ F) (ref01_Trim v0 (fun ch w => ∃ y, ch = pc y ∧ sat W (Bp y ++ F) w) fun v w => ∃ x, v = r x ∧ sat W (B x ++ F) w)) : CnP Tryz.prog 50 [v0] W A r B pc Bp :=
  CnP.of (shape := ref01_Trim v0) Tryz.call50 (fun h => ref01_Trim_calls h) h

/-- ref10_elements -/
def ref10_elements (v0 v1 v2 : Value) (Kp : PK) (K : Value → WP) : WP :=
  loop4 (fun I1 m1 _ y7 y8 y9 y10 =>
   opN Tryz.prog (sLen #[9] 3 [v0]) Kp fun x14 =>
   opN Tryz.prog (sBin .leq 3 y10 x14) Kp fun x15 =>
   condS x15
   (cut1 (fun J1 =>
     opN Tryz.prog (sLen #[9] 3 [v0]) Kp fun x20 =>
     opN Tryz.prog (sBin .lss 3 y10 x20) Kp fun x21 =>
     gdK x21 true (fun k => k y8) fun x23 =>
     opN Tryz.prog (sPick x21 x23 (.bool false)) Kp fun x24 =>
     gdK x24 true (fun k => k v2) fun x26 =>
     opN Tryz.prog (sPick x24 x26 (.bool false)) Kp fun x27 =>
     gdK x27 true (fun k => k v0) fun x29 =>
     gdK x27 true (fun k => k y10) fun x30 =>
     gdK x27 true (opN Tryz.prog (sIx 9 x29 x30) Kp) fun x31 =>
     gdK x27 true (opN Tryz.prog (sEq .eql 5 (.tmp 31) (.const (.int .u8 92)) x31 (.int .u8 92)) Kp) fun x32 =>
     opN Tryz.prog (sPick x27 x32 (.bool false)) Kp fun x33 =>
     condS x33
     (opN Tryz.prog (sBin .add 3 y10 (.int .i64 1)) Kp fun x35 =>
      opN Tryz.prog (sLen #[9] 3 [v0]) Kp fun x38 =>
      opN Tryz.prog (sBin .lss 3 x35 x38) Kp fun x39 =>
      condS x39
      (opN Tryz.prog (sBin .add 3 x35 (.int .i64 1)) Kp fun x17 =>
       next4 I1 m1 y7 y8 y9 x17)
      (J1 x35))
     (J1 y10)) fun _ z10 =>
    cut1 (fun J2 =>
     opN Tryz.prog (sLen #[9] 3 [v0]) Kp fun x42 =>
     opN Tryz.prog (sBin .lss 3 z10 x42) Kp fun x43 =>
     gdK x43 true (fun k => k v1) fun x45 =>
     opN Tryz.prog (sPick x43 x45 (.bool false)) Kp fun x46 =>
     gdK x46 true (fun k => k v0) fun x48 =>
     gdK x46 true (fun k => k z10) fun x49 =>
     gdK x46 true (opN Tryz.prog (sIx 9 x48 x49) Kp) fun x50 =>
     gdK x46 true (opN Tryz.prog (sEq .eql 5 (.tmp 50) (.const (.int .u8 34)) x50 (.int .u8 34)) Kp) fun x51 =>
     opN Tryz.prog (sPick x46 x51 (.bool false)) Kp fun x52 =>
     condS x52
     (opN Tryz.prog (sUn .not y8) Kp fun x54 =>
      J2 x54)
     (J2 y8)) fun _ z8 =>
    opN Tryz.prog (sLen #[9] 3 [v0]) Kp fun x57 =>
    opN Tryz.prog (sBin .lss 3 z10 x57) Kp fun x58 =>
    gdK x58 true (fun k => k v0) fun x60 =>
    gdK x58 true (fun k => k z10) fun x61 =>
    gdK x58 true (opN Tryz.prog (sIx 9 x60 x61) Kp) fun x62 =>
    gdK x58 true (opN Tryz.prog (sEq .neq 5 (.tmp 62) (.const (.int .u8 44)) x62 (.int .u8 44)) Kp) fun x63 =>
    gdK x58 true (fun k => k x63) fun x64 =>
    gdK x64 false (fun k => k z8) fun x65 =>
    gdK x58 true (opN Tryz.prog (sPick x64 (.bool true) x65) Kp) fun x66 =>
    opN Tryz.prog (sPick x58 x66 (.bool false)) Kp fun x67 =>
    condS x67
    (opN Tryz.prog (sBin .add 3 z10 (.int .i64 1)) Kp fun x17 =>
     next4 I1 m1 y7 z8 y9 x17)
    (opN Tryz.prog (sLen #[9] 3 [v0]) Kp fun x72 =>
     opN Tryz.prog (sMin #[3, 3] 3 [z10, x72]) Kp fun x73 =>
     opN Tryz.prog (sSl 9 v0 (some y9) (some x73) none) Kp fun x74 =>
     opN Tryz.prog (sCall (fn 50) [x74]) Kp fun x75 =>
     cut1 (fun J3 =>
      opN Tryz.prog (sEq .neq 9 (.tmp 76) (.const (.string ⟨#[]⟩)) x75 (.string ⟨#[]⟩)) Kp fun x77 =>
      condS x77
      (opN Tryz.prog (sBuildSl 66 1 [(0, x75)]) Kp fun x80 =>
       opN Tryz.prog (sApp #[66, 66] 66 [y7, x80]) Kp fun x81 =>
       J3 x81)
      (J3 y7)) fun _ z7 =>
     opN Tryz.prog (sBin .add 3 z10 (.int .i64 1)) Kp fun x83 =>
     opN Tryz.prog (sBin .add 3 z10 (.int .i64 1)) Kp fun x17 =>
     next4 I1 m1 z7 z8 x83 x17))
   (K y7)) (.slice none 0 0) (.bool false) (.int .i64 0) (.int .i64 0)
def ref10_elements_an : Ann := { cuts := [(10, [10]), (12, [8]), (16, [7])], blks := [], loops := [(5, [7, 8, 9, 10])], drs := [] }
theorem ref10_elements_eq (v0 v1 v2 : Value) (Kp : PK) (K : Value → WP) : cevF Tryz.prog ref10_elements_an Tryz.f51 [v0, v1, v2] Kp K = ref10_elements v0 v1 v2 Kp K := by kernel_rfl
theorem ref10_elements_calls {v0 v1 v2 : Value} {Kp : PK} {K : Value → WP} {w : World} (h : ref10_elements v0 v1 v2 Kp K w) : Calls Tryz.prog 51 #[v0, v1, v2] w (after Kp K) :=
  calls_of_shape (calls_of_cev wide Tryz.func51 (an := ref10_elements_an) (args := [v0, v1, v2]) (cast (congrFun (ref10_elements_eq v0 v1 v2 Kp K) w).symm h))
theorem ref10_elements_cn {v0 v1 v2 : Value} {W : World} {α : Type} {A : List HP} {r : α → Value} {B : α → List HP} (h : ∀ F, Ent W (A ++ F) (ref10_elements v0 v1 v2 noP fun v w => ∃ x, v = r x ∧ sat W (B x ++ F) w)) : Cn Tryz.prog 51 [v0, v1, v2] W A r B :=
  Cn.of (shape := ref10_elements v0 v1 v2) Tryz.call51 (fun h => ref10_elements_calls h) h
theorem ref10_elements_cnP {v0 v1 v2 : Value} {W : World} {α β : Type} {A : List HP} {r : α → Value} {B : α → List HP} {pc : β → List PanicEntry} {Bp : β → List HP} (h : ∀ F, Ent W (A ++ F) (ref10_elements v0 v1 v2 (fun ch w => ∃ y, ch = pc y ∧ sat W (Bp y ++ F) w) fun v w => ∃ x, v = r x ∧ sat W (B x ++ F) w)) : CnP Tryz.prog 51 [v0, v1, v2] W A r B pc Bp :=
  CnP.of (shape := ref10_elements v0 v1 v2) Tryz.call51 (fun h => ref10_elements_calls h) h

/-- strings_CutPrefix -/
def strings_CutPrefix (v0 v1 : Value) (Kp : PK) (K : Value → WP) : WP :=
  opN Tryz.prog (sCall (fn 73) [v0, v1]) Kp fun x8 =>
  opN Tryz.prog (sExt x8 0) Kp fun x9 =>
  opN Tryz.prog (sExt x8 1) Kp fun x10 =>
  K (.tuple #[x9, x10])
def strings_CutPrefix_an : Ann := { cuts := [], blks := [], loops := [], drs := [] }
theorem strings_CutPrefix_eq (v0 v1 : Value) (Kp : PK) (K : Value → WP) : cevF Tryz.prog strings_CutPrefix_an Tryz.f52 [v0, v1] Kp K = strings_CutPrefix v0 v1 Kp K := by kernel_rfl
theorem strings_CutPrefix_calls {v0 v1 : Value} {Kp : PK} {K : Value → WP} {w : World} (h : strings_CutPrefix v0 v1 Kp K w) : Calls Tryz.prog 52 #[v0, v1] w (after Kp K) :=
  calls_of_shape (calls_of_cev wide Tryz.func52 (an := strings_CutPrefix_an) (args := [v0, v1]) (cast (congrFun (strings_CutPrefix_eq v0 v1 Kp K) w).symm h))
theorem strings_CutPrefix_cn {v0 v1 : Value} {W : World} {α : Type} {A : List HP} {r : α → Value} {B : α → List HP} (h : ∀ F, Ent W (A ++ F) (strings_CutPrefix v0 v1 noP fun v w => ∃ x, v = r x ∧ sat W (B x ++ F) w)) : Cn Tryz.prog 52 [v0, v1] W A r B :=
  Cn.of (shape := strings_CutPrefix v0 v1) Tryz.call52 (fun h => strings_CutPrefix_calls h) h
theorem strings_CutPrefix_cnP {v0 v1 : Value} {W : World} {α β : Type} {A : List HP} {r : α → Value} {B : α → List HP} {pc : β → List PanicEntry} {Bp : β → List HP} (h : ∀ F, Ent W (A ++ F) (strings_CutPrefix v0 v1 (fun ch w => ∃ y, ch = pc y ∧ sat W (Bp y ++ F) w) fun v w => ∃ x, v = r x ∧ sat W (B x ++ F) w)) : CnP Tryz.prog 52 [v0, v1] W A r B pc Bp :=
  CnP.of (shape := strings_CutPrefix v0 v1) Tryz.call52 (fun h => strings_CutPrefix_calls h) h

/-- dates_reader_take -/
def dates_reader_take (v0 v1 : Value) (Kp : PK) (K : Value → WP) : WP :=
  cut0 (fun J1 =>
   opN Tryz.prog (sNil v0) Kp fun x8 =>
   opN Tryz.prog (sFA 113 x8 0) Kp fun x9 =>
   opN Tryz.prog (sLoad 9 x9) Kp fun x10 =>
   opN Tryz.prog (sLen #[9] 3 [x10]) Kp fun x11 =>
   opN Tryz.prog (sBin .gtr 3 v1 x11) Kp fun x12 =>
   condS x12
   (opN Tryz.prog (sMkI 52 (.int .i64 41)) Kp fun x13 =>
    opN Tryz.prog (sPanic x13) Kp fun _ =>
    J1)
   (J1)) fun _ =>
  opN Tryz.prog (sNil v0) Kp fun x15 =>
  opN Tryz.prog (sFA 113 x15 0) Kp fun x16 =>
  opN Tryz.prog (sLoad 9 x16) Kp fun x17 =>
  opN Tryz.prog (sSl 9 x17 none (some v1) none) Kp fun x19 =>
  opN Tryz.prog (sNil v0) Kp fun x22 =>
  opN Tryz.prog (sFA 113 x22 0) Kp fun x23 =>
  opN Tryz.prog (sLoad 9 x23) Kp fun x24 =>
  opN Tryz.prog (sSl 9 x24 (some v1) none none) Kp fun x26 =>
  opN Tryz.prog (sNil v0) Kp fun x27 =>
  opN Tryz.prog (sFA 113 x27 0) Kp fun x28 =>
  opN Tryz.prog (sStore 9 x28 x26) Kp fun _ =>
  K x19
def dates_reader_take_an : Ann := { cuts := [(3, [])], blks := [], loops := [], drs := [] }
theorem dates_reader_take_eq (v0 v1 : Value) (Kp : PK) (K : Value → WP) : cevF Tryz.prog dates_reader_take_an Tryz.f53 [v0, v1] Kp K = dates_reader_take v0 v1 Kp K := by kernel_rfl
theorem dates_reader_take_calls {v0 v1 : Value} {Kp : PK} {K : Value → WP} {w : World} (h : dates_reader_take v0 v1 Kp K w) : Calls Tryz.prog 53 #[v0, v1] w (after Kp K) :=
  calls_of_shape (calls_of_cev wide Tryz.func53 (an := dates_reader_take_an) (args := [v0, v1]) (cast (congrFun (dates_reader_take_eq v0 v1 Kp K) w).symm h))
theorem dates_reader_take_cn {v0 v1 : Value} {W : World} {α : Type} {A : List HP} {r : α → Value} {B : α → List HP} (h : ∀ F, Ent W (A ++ F) (dates_reader_take v0 v1 noP fun v w => ∃ x, v = r x ∧ sat W (B x ++ F) w)) : Cn Tryz.prog 53 [v0, v1] W A r B :=
  Cn.of (shape := dates_reader_take v0 v1) Tryz.call53 (fun h => dates_reader_take_calls h) h
theorem dates_reader_take_cnP {v0 v1 : Value} {W : World} {α β : Type} {A : List HP} {r : α → Value} {B : α → List HP} {pc : β → List PanicEntry} {Bp : β → List HP} (h : ∀ F, Ent W (A ++ F) (dates_reader_take v0 v1 (fun ch w => ∃ y, ch = pc y ∧ sat W (Bp y ++ F) w) fun v w => ∃ x, v = r x ∧ sat W (B x ++ F) w)) : CnP Tryz.prog 53 [v0, v1] W A r B pc Bp :=
  CnP.of (shape := dates_reader_take v0 v1) Tryz.call53 (fun h => dates_reader_take_calls h) h

/-- dates_reader_number -/
def dates_reader_number (v0 v1 : Value) (Kp : PK) (K : Value → WP) : WP :=
  opN Tryz.prog (sCall (fn 53) [v0, v1]) Kp fun x10 =>
  opN Tryz.prog (sConv 9 95 x10) Kp fun x11 =>
  opN Tryz.prog (sLen #[95] 3 [x11]) Kp fun x12 =>
  loop2 (fun I1 m1 _ y5 y13 =>
   opN Tryz.prog (sBin .lss 3 y13 x12) Kp fun x14 =>
   condS x14
   (opN Tryz.prog (sIA 95 x11 y13) Kp fun x16 =>
    opN Tryz.prog (sLoad 5 x16) Kp fun x17 =>
    cut1 (fun J1 =>
     opN Tryz.prog (sEq .eql 5 (.tmp 18) (.const (.int .u8 32)) x17 (.int .u8 32)) Kp fun x19 =>
     gdK x19 true (fun k => k y13) fun x21 =>
     gdK x19 true (opN Tryz.prog (sEq .eql 3 (.tmp 21) (.const (.int .i64 0)) x21 (.int .i64 0)) Kp) fun x22 =>
     opN Tryz.prog (sPick x19 x22 (.bool false)) Kp fun x23 =>
     condS x23
     (J1 (.int .u8 48))
     (J1 x17)) fun _ z7 =>
    cut0 (fun J2 =>
     opN Tryz.prog (sBin .lss 5 z7 (.int .u8 48)) Kp fun x25 =>
     gdK x25 false (fun k => k z7) fun x27 =>
     gdK x25 false (opN Tryz.prog (sBin .gtr 5 x27 (.int .u8 57)) Kp) fun x28 =>
     opN Tryz.prog (sPick x25 (.bool true) x28) Kp fun x29 =>
     condS x29
     (opN Tryz.prog (sMkI 52 (.int .i64 41)) Kp fun x30 =>
      opN Tryz.prog (sPanic x30) Kp fun _ =>
      J2)
     (J2)) fun _ =>
    opN Tryz.prog (sBin .mul 3 (.int .i64 10) y5) Kp fun x32 =>
    opN Tryz.prog (sBin .sub 5 z7 (.int .u8 48)) Kp fun x34 =>
    opN Tryz.prog (sConv 5 3 x34) Kp fun x35 =>
    opN Tryz.prog (sBin .add 3 x32 x35) Kp fun x36 =>
    opN Tryz.prog (sBin .add 3 y13 (.int .i64 1)) Kp fun x37 =>
    next2 I1 m1 x36 x37)
   (K y5)) (.int .i64 0) (.int .i64 0)
def dates_reader_number_an : Ann := { cuts := [(7, [7]), (9, [])], blks := [], loops := [(3, [5, 13])], drs := [] }
theorem dates_reader_number_eq (v0 v1 : Value) (Kp : PK) (K : Value → WP) : cevF Tryz.prog dates_reader_number_an Tryz.f54 [v0, v1] Kp K = dates_reader_number v0 v1 Kp K := by kernel_rfl
theorem dates_reader_number_calls {v0 v1 : Value} {Kp : PK} {K : Value → WP} {w : World} (h : dates_reader_number v0 v1 Kp K w) : Calls Tryz.prog 54 #[v0, v1] w (after Kp K) :=
  calls_of_shape (calls_of_cev wide Tryz.func54 (an := dates_reader_number_an) (args := [v0, v1]) (cast (congrFun (dates_reader_number_eq v0 v1 Kp K) w).symm h))
theorem dates_reader_number_cn {v0 v1 : Value} {W : World} {α : Type} {A : List HP} {r : α → Value} {B : α → List HP} (h : ∀ F, Ent W (A ++ F) (dates_reader_number v0 v1 noP fun v w => ∃ x, v = r x ∧ sat W (B x ++ F) w)) : Cn Tryz.prog 54 [v0, v1] W A r B :=
  Cn.of (shape := dates_reader_number v0 v1) Tryz.call54 (fun h => dates_reader_number_calls h) h
theorem dates_reader_number_cnP {v0 v1 : Value} {W : World} {α β : Type} {A : List HP} {r : α → Value} {B : α → List HP} {pc : β → List PanicEntry} {Bp : β → List HP} (h : ∀ F, Ent W (A ++ F) (dates_reader_number v0 v1 (fun ch w => ∃ y, ch = pc y ∧ sat W (Bp y ++ F) w) fun v w => ∃ x, v = r x ∧ sat W (B x ++ F) w)) : CnP Tryz.prog 54 [v0, v1] W A r B pc Bp :=
  CnP.of (shape := dates_reader_number v0 v1) Tryz.call54 (fun h => dates_reader_number_calls h) h

/-- dates_reader_month -/
def dates_reader_month (v0 : Value) (Kp : PK) (K : Value → WP) : WP :=
  opN Tryz.prog (sCall (fn 53) [v0, (.int .i64 3)]) Kp fun x7 =>
  opN Tryz.prog (sCall (fn 74) []) Kp fun x8 =>
  loop2 (fun I1 m1 _ y2 y9 =>
   opN Tryz.prog (sBin .lss 3 y9 (.int .i64 12)) Kp fun x10 =>
   condS x10
   (opN Tryz.prog (sIx 129 x8 y9) Kp fun x12 =>
    opN Tryz.prog (sEq .eql 9 (.tmp 13) (.tmp 14) x12 x7) Kp fun x15 =>
    condS x15
    (opN Tryz.prog (sBin .add 3 y9 (.int .i64 1)) Kp fun x17 =>
     K x17)
    (opN Tryz.prog (sBin .add 3 y9 (.int .i64 1)) Kp fun x18 =>
     next2 I1 m1 y2 x18))
   (opN Tryz.prog (sMkI 52 (.int .i64 41)) Kp fun x19 =>
    opN Tryz.prog (sPanic x19) Kp fun _ =>
    K y2)) (.int .i64 0) (.int .i64 0)
def dates_reader_month_an : Ann := { cuts := [], blks := [], loops := [(3, [2, 9])], drs := [] }
theorem dates_reader_month_eq (v0 : Value) (Kp : PK) (K : Value → WP) : cevF Tryz.prog dates_reader_month_an Tryz.f55 [v0] Kp K = dates_reader_month v0 Kp K := by kernel_rfl
theorem dates_reader_month_calls {v0 : Value} {Kp : PK} {K : Value → WP} {w : World} (h : dates_reader_month v0 Kp K w) : Calls Tryz.prog 55 #[v0] w (after Kp K) :=
  calls_of_shape (calls_of_cev wide Tryz.func55 (an := dates_reader_month_an) (args := [v0]) (cast (congrFun (dates_reader_month_eq v0 Kp K) w).symm h))
theorem dates_reader_month_cn {v0 : Value} {W : World} {α : Type} {A : List HP} {r : α → Value} {B : α → List HP} (h : ∀ F, Ent W (A ++ F) (dates_reader_month v0 noP fun v w => ∃ x, v = r x ∧ sat W (B x ++ F) w)) : Cn Tryz.prog 55 [v0] W A r B :=
  Cn.of (shape := dates_reader_month v0) Tryz.call55 (fun h => dates_reader_month_calls h) h
theorem dates_reader_month_cnP {v0 : Value} {W : World} {α β : Type} {A : List HP} {r : α → Value} {B : α → List HP} {pc : β → List PanicEntry} {Bp : β → List HP} (h : ∀ F, Ent W (A ++ F) (dates_reader_month v0 (fun ch w => ∃ y, ch = pc y ∧ sat W (Bp y ++ F) w) fun v w => ∃ x, v = r x ∧ sat W (B x ++ F) w)) : CnP Tryz.prog 55 [v0] W A r B pc Bp :=
  CnP.of (shape := dates_reader_month v0) Tryz.call55 (fun h => dates_reader_month_calls h) h

/-- dates_reader_clock -/
def dates_reader_clock (v0 v1 : Value) (Kp : PK) (K : Value → WP) : WP :=
  opN Tryz.prog (sCall (fn 54) [v0, (.int .i64 2)]) Kp fun x6 =>
  opN Tryz.prog (sNil v1) Kp fun x7 =>
  opN Tryz.prog (sFA 106 x7 3) Kp fun x8 =>
  opN Tryz.prog (sStore 3 x8 x6) Kp fun _ =>
  opN Tryz.prog (sCall (fn 53) [v0, (.int .i64 1)]) Kp fun x10 =>
  opN Tryz.prog (sCall (fn 54) [v0, (.int .i64 2)]) Kp fun x13 =>
  opN Tryz.prog (sNil v1) Kp fun x14 =>
  opN Tryz.prog (sFA 106 x14 4) Kp fun x15 =>
  opN Tryz.prog (sStore 3 x15 x13) Kp fun _ =>
  opN Tryz.prog (sCall (fn 53) [v0, (.int .i64 1)]) Kp fun x17 =>
  opN Tryz.prog (sCall (fn 54) [v0, (.int .i64 2)]) Kp fun x20 =>
  opN Tryz.prog (sNil v1) Kp fun x21 =>
  opN Tryz.prog (sFA 106 x21 5) Kp fun x22 =>
  opN Tryz.prog (sStore 3 x22 x20) Kp fun _ =>
  K (.tuple #[])
def dates_reader_clock_an : Ann := { cuts := [], blks := [], loops := [], drs := [] }
theorem dates_reader_clock_eq (v0 v1 : Value) (Kp : PK) (K : Value → WP) : cevF Tryz.prog dates_reader_clock_an Tryz.f56 [v0, v1] Kp K = dates_reader_clock v0 v1 Kp K := by kernel_rfl
theorem dates_reader_clock_calls {v0 v1 : Value} {Kp : PK} {K : Value → WP} {w : World} (h : dates_reader_clock v0 v1 Kp K w) : Calls Tryz.prog 56 #[v0, v1] w (after Kp K) :=
  calls_of_shape (calls_of_cev wide Tryz.func56 (an := dates_reader_clock_an) (args := [v0, v1]) (cast (congrFun (dates_reader_clock_eq v0 v1 Kp K) w).symm h))
theorem dates_reader_clock_cn {v0 v1 : Value} {W : World} {α : Type} {A : List HP} {r : α → Value} {B : α → List HP} (h : ∀ F, Ent W (A ++ F) (dates_reader_clock v0 v1 noP fun v w => ∃ x, v = r x ∧ sat W (B x ++ F) w)) : Cn Tryz.prog 56 [v0, v1] W A r B :=
  Cn.of (shape := dates_reader_clock v0 v1) Tryz.call56 (fun h => dates_reader_clock_calls h) h
theorem dates_reader_clock_cnP {v0 v1 : Value} {W : World} {α β : Type} {A : List HP} {r : α → Value} {B : α → List HP} {pc : β → List PanicEntry} {Bp : β → List HP} (h : ∀ F, Ent W (A ++ F) (dates_reader_clock v0 v1 (fun ch w => ∃ y, ch = pc y ∧ sat W (Bp y ++ F) w) fun v w => ∃ x, v = r x ∧ sat W (B x ++ F) w)) : CnP Tryz.prog 56 [v0, v1] W A r B pc Bp :=
  CnP.of (shape := dates_reader_clock v0 v1) Tryz.call56 (fun h => dates_reader_clock_calls h) h

/-- strings_IndexByte -/
def strings_IndexByte (v0 v1 : Value) (Kp : PK) (K : Value → WP) : WP :=
  opN Tryz.prog (sCall (fn 75) [v0, v1]) Kp fun x7 =>
  K x7
def strings_IndexByte_an : Ann := { cuts := [], blks := [], loops := [], drs := [] }
theorem strings_IndexByte_eq (v0 v1 : Value) (Kp : PK) (K : Value → WP) : cevF Tryz.prog strings_IndexByte_an Tryz.f57 [v0, v1] Kp K = strings_IndexByte v0 v1 Kp K := by kernel_rfl
theorem strings_IndexByte_calls {v0 v1 : Value} {Kp : PK} {K : Value → WP} {w : World} (h : strings_IndexByte v0 v1 Kp K w) : Calls Tryz.prog 57 #[v0, v1] w (after Kp K) :=
  calls_of_shape (calls_of_cev wide Tryz.func57 (an := strings_IndexByte_an) (args := [v0, v1]) (cast (congrFun (strings_IndexByte_eq v0 v1 Kp K) w).symm h))
theorem strings_IndexByte_cn {v0 v1 : Value} {W : World} {α : Type} {A : List HP} {r : α → Value} {B : α → List HP} (h : ∀ F, Ent W (A ++ F) (strings_IndexByte v0 v1 noP fun v w => ∃ x, v = r x ∧ sat W (B x ++ F) w)) : Cn Tryz.prog 57 [v0, v1] W A r B :=
  Cn.of (shape := strings_IndexByte v0 v1) Tryz.call57 (fun h => strings_IndexByte_calls h) h
theorem strings_IndexByte_cnP {v0 v1 : Value} {W : World} {α β : Type} {A : List HP} {r : α → Value} {B : α → List HP} {pc : β → List PanicEntry} {Bp : β → List HP} (h : ∀ F, Ent W (A ++ F) (strings_IndexByte v0 v1 (fun ch w => ∃ y, ch = pc y ∧ sat W (Bp y ++ F) w) fun v w => ∃ x, v = r x ∧ sat W (B x ++ F) w)) : CnP Tryz.prog 57 [v0, v1] W A r B pc Bp :=
  CnP.of (shape := strings_IndexByte v0 v1) Tryz.call57 (fun h => strings_IndexByte_calls h) h

/-- dates_Split -/
def dates_Split (v0 : Value) (Kp : PK) (K : Value → WP) : WP :=
  opN Tryz.prog (sAlloc 106) Kp fun x2 =>
  opN Tryz.prog (sBin .lss 3 v0 (.int .i64 0)) Kp fun x6 =>
  gdK x6 false (fun k => k v0) fun x8 =>
  gdK x6 false (opN Tryz.prog (sBin .gtr 3 x8 (.int .i64 253402300799)) Kp) fun x9 =>
  opN Tryz.prog (sPick x6 (.bool true) x9) Kp fun x10 =>
  condS x10
  (opN Tryz.prog (sBuild 106 []) Kp fun x11 =>
   opN Tryz.prog (sStore 106 x2 x11) Kp fun _ =>
   (stS Tryz.prog (sRes 106 x2) fun r0 => K (.tuple #[r0, (.int .i64 11)])))
  (opN Tryz.prog (sBin .quo 3 v0 (.int .i64 86400)) Kp fun x13 =>
   opN Tryz.prog (sBin .add 3 x13 (.int .i64 4)) Kp fun x14 =>
   opN Tryz.prog (sBin .rem 3 x14 (.int .i64 7)) Kp fun x15 =>
   opN Tryz.prog (sBin .rem 3 v0 (.int .i64 86400)) Kp fun x17 =>
   opN Tryz.prog (sBin .quo 3 x17 (.int .i64 3600)) Kp fun x18 =>
   opN Tryz.prog (sBin .rem 3 v0 (.int .i64 3600)) Kp fun x20 =>
   opN Tryz.prog (sBin .quo 3 x20 (.int .i64 60)) Kp fun x21 =>
   opN Tryz.prog (sBin .rem 3 v0 (.int .i64 60)) Kp fun x23 =>
   opN Tryz.prog (sBuild 106 [(6, x15), (3, x18), (4, x21), (5, x23)]) Kp fun x24 =>
   opN Tryz.prog (sAlloc 106) Kp fun x4 =>
   opN Tryz.prog (sStore 106 x4 x24) Kp fun _ =>
   opN Tryz.prog (sBin .quo 3 v0 (.int .i64 86400)) Kp fun x27 =>
   opN Tryz.prog (sCall (fn 76) [x27]) Kp fun x28 =>
   opN Tryz.prog (sExt x28 0) Kp fun x29 =>
   opN Tryz.prog (sExt x28 1) Kp fun x30 =>
   opN Tryz.prog (sExt x28 2) Kp fun x31 =>
   opN Tryz.prog (sFA 106 x4 0) Kp fun x32 =>
   opN Tryz.prog (sStore 3 x32 x29) Kp fun _ =>
   opN Tryz.prog (sFA 106 x4 1) Kp fun x33 =>
   opN Tryz.prog (sStore 3 x33 x30) Kp fun _ =>
   opN Tryz.prog (sFA 106 x4 2) Kp fun x34 =>
   opN Tryz.prog (sStore 3 x34 x31) Kp fun _ =>
   opN Tryz.prog (sLoad 106 x4) Kp fun x35 =>
   opN Tryz.prog (sStore 106 x2 x35) Kp fun _ =>
   (stS Tryz.prog (sRes 106 x2) fun r0 => K (.tuple #[r0, (.int .i64 0)])))
def dates_Split_an : Ann := { cuts := [], blks := [], loops := [], drs := [] }
theorem dates_Split_eq (v0 : Value) (Kp : PK) (K : Value → WP) : cevF Tryz.prog dates_Split_an Tryz.f58 [v0] Kp K = dates_Split v0 Kp K := by kernel_rfl
theorem dates_Split_calls {v0 : Value} {Kp : PK} {K : Value → WP} {w : World} (h : dates_Split v0 Kp K w) : Calls Tryz.prog 58 #[v0] w (after Kp K) :=
  calls_of_shape (calls_of_cev wide Tryz.func58 (an := dates_Split_an) (args := [v0]) (cast (congrFun (dates_Split_eq v0 Kp K) w).symm h))
theorem dates_Split_cn {v0 : Value} {W : World} {α : Type} {A : List HP} {r : α → Value} {B : α → List HP} (h : ∀ F, Ent W (A ++ F) (dates_Split v0 noP fun v w => ∃ x, v = r x ∧ sat W (B x ++ F) w)) : Cn Tryz.prog 58 [v0] W A r B :=
  Cn.of (shape := dates_Split v0) Tryz.call58 (fun h => dates_Split_calls h) h
theorem dates_Split_cnP {v0 : Value} {W : World} {α β : Type} {A : List HP} {r : α → Value} {B : α → List HP} {pc : β → List PanicEntry} {Bp : β → List HP} (h : ∀ F, Ent W (A ++ F) (dates_Split v0 (fun ch w => ∃ y, ch = pc y ∧ sat W (Bp y ++ F) w) fun v w => ∃ x, v = r x ∧ sat W (B x ++ F) w)) : CnP Tryz.prog 58 [v0] W A r B pc Bp :=
  CnP.of (shape := dates_Split v0) Tryz.call58 (fun h => dates_Split_calls h) h

/-- dates_try_1: rv: what recover hands out -/
def dates_try_1 (v0 v1 : Value) (rv : Value) (Kp : PK) (K : Value → WP) : WP :=
  stS Tryz.prog (sEq .neq 20 (.tmp 2) (.const .nilIface) rv .nilIface) fun x3 =>
  condS x3
  (opN Tryz.prog (sStore 3 v0 (.int .i64 0)) Kp fun _ =>
   opN Tryz.prog (sStore 4 v1 (.bool false)) Kp fun _ =>
   K (.tuple #[]))
  (K (.tuple #[]))
def dates_try_1_an : Ann := { cuts := [], blks := [], loops := [], drs := [] }
theorem dates_try_1_eq (v0 v1 : Value) (rv : Value) (Kp : PK) (K : Value → WP) : cevR Tryz.prog dates_try_1_an Tryz.f59 [v0, v1] rv Kp K = dates_try_1 v0 v1 rv Kp K := by kernel_rfl
theorem dates_try_1_d {v0 v1 : Value} {u : FrameMode} {Kp : PK} {K : Value → WP} {w : World} (h : dates_try_1 v0 v1 (recV u).1 Kp K w) : CallsD Tryz.prog 59 ([v0, v1] : List Value).toArray u w fun
      | .returned v, u', w' => u' = (recV u).2 ∧ K v w'
      | .panicked ch, u', w' => u' = (recV u).2 ∧ Kp ch w'
      | .outgrown, _, _ => False :=
  callsD_of_cevR wide Tryz.func59 (an := dates_try_1_an) (args := [v0, v1]) (cast (congrFun (dates_try_1_eq v0 v1 _ Kp K) w).symm h)

/-- dates_Join -/
def dates_Join (v0 : Value) (Kp : PK) (K : Value → WP) : WP :=
  opN Tryz.prog (sBox 106 v0) Kp fun x1 =>
  opN Tryz.prog (sFA 106 x1 0) Kp fun x10 =>
  opN Tryz.prog (sLoad 3 x10) Kp fun x11 =>
  opN Tryz.prog (sCall (fn 77) [x11, (.int .i64 1970), (.int .i64 9999)]) Kp fun x12 =>
  opN Tryz.prog (sUn .not x12) Kp fun x13 =>
  gdK x13 false (fun k => k (fn 77)) fun x15 =>
  gdK x13 false (opN Tryz.prog (sFA 106 x1 1) Kp) fun x16 =>
  gdK x13 false (opN Tryz.prog (sLoad 3 x16) Kp) fun x17 =>
  gdK x13 false (opN Tryz.prog (sCall x15 [x17, (.int .i64 1), (.int .i64 12)]) Kp) fun x18 =>
  gdK x13 false (opN Tryz.prog (sUn .not x18) Kp) fun x19 =>
  opN Tryz.prog (sPick x13 (.bool true) x19) Kp fun x20 =>
  gdK x20 false (fun k => k (fn 77)) fun x22 =>
  gdK x20 false (opN Tryz.prog (sFA 106 x1 2) Kp) fun x23 =>
  gdK x20 false (opN Tryz.prog (sLoad 3 x23) Kp) fun x24 =>
  gdK x20 false (opN Tryz.prog (sCall x22 [x24, (.int .i64 1), (.int .i64 31)]) Kp) fun x25 =>
  gdK x20 false (opN Tryz.prog (sUn .not x25) Kp) fun x26 =>
  opN Tryz.prog (sPick x20 (.bool true) x26) Kp fun x27 =>
  gdK x27 false (fun k => k (fn 77)) fun x29 =>
  gdK x27 false (opN Tryz.prog (sFA 106 x1 3) Kp) fun x30 =>
  gdK x27 false (opN Tryz.prog (sLoad 3 x30) Kp) fun x31 =>
  gdK x27 false (opN Tryz.prog (sCall x29 [x31, (.int .i64 0), (.int .i64 23)]) Kp) fun x32 =>
  gdK x27 false (opN Tryz.prog (sUn .not x32) Kp) fun x33 =>
  opN Tryz.prog (sPick x27 (.bool true) x33) Kp fun x34 =>
  gdK x34 false (fun k => k (fn 77)) fun x36 =>
  gdK x34 false (opN Tryz.prog (sFA 106 x1 4) Kp) fun x37 =>
  gdK x34 false (opN Tryz.prog (sLoad 3 x37) Kp) fun x38 =>
  gdK x34 false (opN Tryz.prog (sCall x36 [x38, (.int .i64 0), (.int .i64 59)]) Kp) fun x39 =>
  gdK x34 false (opN Tryz.prog (sUn .not x39) Kp) fun x40 =>
  opN Tryz.prog (sPick x34 (.bool true) x40) Kp fun x41 =>
  gdK x41 false (fun k => k (fn 77)) fun x43 =>
  gdK x41 false (opN Tryz.prog (sFA 106 x1 5) Kp) fun x44 =>
  gdK x41 false (opN Tryz.prog (sLoad 3 x44) Kp) fun x45 =>
  gdK x41 false (opN Tryz.prog (sCall x43 [x45, (.int .i64 0), (.int .i64 59)]) Kp) fun x46 =>
  gdK x41 false (opN Tryz.prog (sUn .not x46) Kp) fun x47 =>
  opN Tryz.prog (sPick x41 (.bool true) x47) Kp fun x48 =>
  condS x48
  (K (.tuple #[(.int .i64 0), (.int .i64 41)]))
  (opN Tryz.prog (sFA 106 x1 0) Kp fun x49 =>
   opN Tryz.prog (sLoad 3 x49) Kp fun x50 =>
   opN Tryz.prog (sFA 106 x1 1) Kp fun x51 =>
   opN Tryz.prog (sLoad 3 x51) Kp fun x52 =>
   opN Tryz.prog (sFA 106 x1 2) Kp fun x53 =>
   opN Tryz.prog (sLoad 3 x53) Kp fun x54 =>
   opN Tryz.prog (sCall (fn 78) [x50, x52, x54]) Kp fun x55 =>
   opN Tryz.prog (sCall (fn 76) [x55]) Kp fun x58 =>
   opN Tryz.prog (sExt x58 0) Kp fun x59 =>
   opN Tryz.prog (sExt x58 1) Kp fun x60 =>
   opN Tryz.prog (sExt x58 2) Kp fun x61 =>
   opN Tryz.prog (sFA 106 x1 1) Kp fun x63 =>
   opN Tryz.prog (sLoad 3 x63) Kp fun x64 =>
   opN Tryz.prog (sEq .neq 3 (.tmp 62) (.tmp 64) x60 x64) Kp fun x65 =>
   condS x65
   (K (.tuple #[(.int .i64 0), (.int .i64 41)]))
   (opN Tryz.prog (sBin .mul 3 x55 (.int .i64 86400)) Kp fun x67 =>
    opN Tryz.prog (sFA 106 x1 3) Kp fun x68 =>
    opN Tryz.prog (sLoad 3 x68) Kp fun x69 =>
    opN Tryz.prog (sBin .mul 3 x69 (.int .i64 3600)) Kp fun x70 =>
    opN Tryz.prog (sBin .add 3 x67 x70) Kp fun x71 =>
    opN Tryz.prog (sFA 106 x1 4) Kp fun x72 =>
    opN Tryz.prog (sLoad 3 x72) Kp fun x73 =>
    opN Tryz.prog (sBin .mul 3 x73 (.int .i64 60)) Kp fun x74 =>
    opN Tryz.prog (sBin .add 3 x71 x74) Kp fun x75 =>
    opN Tryz.prog (sFA 106 x1 5) Kp fun x76 =>
    opN Tryz.prog (sLoad 3 x76) Kp fun x77 =>
    opN Tryz.prog (sBin .add 3 x75 x77) Kp fun x78 =>
    K (.tuple #[x78, (.int .i64 0)])))
def dates_Join_an : Ann := { cuts := [], blks := [], loops := [], drs := [] }
theorem dates_Join_eq (v0 : Value) (Kp : PK) (K : Value → WP) : cevF Tryz.prog dates_Join_an Tryz.f60 [v0] Kp K = dates_Join v0 Kp K := by kernel_rfl
theorem dates_Join_calls {v0 : Value} {Kp : PK} {K : Value → WP} {w : World} (h : dates_Join v0 Kp K w) : Calls Tryz.prog 60 #[v0] w (after Kp K) :=
  calls_of_shape (calls_of_cev wide Tryz.func60 (an := dates_Join_an) (args := [v0]) (cast (congrFun (dates_Join_eq v0 Kp K) w).symm h))
theorem dates_Join_cn {v0 : Value} {W : World} {α : Type} {A : List HP} {r : α → Value} {B : α → List HP} (h : ∀ F, Ent W (A ++ F) (dates_Join v0 noP fun v w => ∃ x, v = r x ∧ sat W (B x ++ F) w)) : Cn Tryz.prog 60 [v0] W A r B :=
  Cn.of (shape := dates_Join v0) Tryz.call60 (fun h => dates_Join_calls h) h
theorem dates_Join_cnP {v0 : Value} {W : World} {α β : Type} {A : List HP} {r : α → Value} {B : α → List HP} {pc : β → List PanicEntry} {Bp : β → List HP} (h : ∀ F, Ent W (A ++ F) (dates_Join v0 (fun ch w => ∃ y, ch = pc y ∧ sat W (Bp y ++ F) w) fun v w => ∃ x, v = r x ∧ sat W (B x ++ F) w)) : CnP Tryz.prog 60 [v0] W A r B pc Bp :=
  CnP.of (shape := dates_Join v0) Tryz.call60 (fun h => dates_Join_calls h) h

/-- dates_Date_form -/
def dates_Date_form (v0 v1 : Value) (Kp : PK) (K : Value → WP) : WP :=
  opN Tryz.prog (sBox 106 v0) Kp fun x2 =>
  drS (stD Tryz.prog (sFA 106 x2 6) fun D1 x8 =>
   stD Tryz.prog (sLoad 3 x8) fun D2 x9 =>
   stD Tryz.prog (sFA 106 x2 1) fun D5 x12 =>
   stD Tryz.prog (sLoad 3 x12) fun D6 x13 =>
   stD Tryz.prog (sBin .sub 3 x13 (.int .i64 1)) fun D7 x14 =>
   opN Tryz.prog (sCall (fn 79) []) Kp fun x7 =>
   (fun w => D7 w ∧ (fun w => D6 w ∧ (fun w => D5 w ∧ (fun w => D2 w ∧ (fun w => D1 w ∧ (stD Tryz.prog (sIx 135 x7 x9) fun D3 x10 =>
         opN Tryz.prog (sCall (fn 74) []) Kp fun x11 =>
         (fun w => D3 w ∧ (fun w => D7 w ∧ (fun w => D6 w ∧ (fun w => D5 w ∧ (fun w => D2 w ∧ (fun w => D1 w ∧ (stS Tryz.prog (sIx 129 x11 x14) fun x15 =>
                opN Tryz.prog (sEq .eql 3 (.tmp 16) (.const (.int .i64 0)) v1 (.int .i64 0)) Kp fun x18 =>
                condS x18
                (drS (stD Tryz.prog (sSl 9 x10 none (some (.int .i64 3)) none) fun D1 x20 =>
                  stD Tryz.prog (sBin .add 9 x20 (.string ⟨#[44, 32]⟩)) fun D2 x21 =>
                  stS Tryz.prog (sFA 106 x2 2) fun x22 =>
                  stS Tryz.prog (sLoad 3 x22) fun x23 =>
                  stD Tryz.prog (sFA 106 x2 0) fun D11 x30 =>
                  stD Tryz.prog (sLoad 3 x30) fun D12 x31 =>
                  stD Tryz.prog (sLoad 106 x2) fun D16 x35 =>
                  opN Tryz.prog (sCall (fn 80) [x23, (.int .i64 2), (.int .u8 48)]) Kp fun x24 =>
                  (fun w => D16 w ∧ (fun w => D12 w ∧ (fun w => D11 w ∧ (fun w => D2 w ∧ (fun w => D1 w ∧ (stD Tryz.prog (sBin .add 9 x21 x24) fun D6 x25 =>
                      stD Tryz.prog (sBin .add 9 x25 (.string ⟨#[32]⟩)) fun D7 x26 =>
                      stD Tryz.prog (sBin .add 9 x26 x15) fun D9 x28 =>
                      stD Tryz.prog (sBin .add 9 x28 (.string ⟨#[32]⟩)) fun D10 x29 =>
                      opN Tryz.prog (sCall (fn 80) [x31, (.int .i64 4), (.int .u8 48)]) Kp fun x32 =>
                      (fun w => D10 w ∧ (fun w => D9 w ∧ (fun w => D7 w ∧ (fun w => D6 w ∧ (fun w => D16 w ∧ (fun w => D2 w ∧ (fun w => D1 w ∧ (stD Tryz.prog (sBin .add 9 x29 x32) fun D14 x33 =>
                      stD Tryz.prog (sBin .add 9 x33 (.string ⟨#[32]⟩)) fun D15 x34 =>
                      opN Tryz.prog (sCall (fn 81) [x35]) Kp fun x36 =>
                      (fun w => D15 w ∧ (fun w => D14 w ∧ (fun w => D10 w ∧ (fun w => D9 w ∧ (fun w => D7 w ∧ (fun w => D6 w ∧ (fun w => D2 w ∧ (fun w => D1 w ∧ (stS Tryz.prog (sBin .add 9 x34 x36) fun x37 =>
                      stS Tryz.prog (sBin .add 9 x37 (.string ⟨#[32, 71, 77, 84]⟩)) fun x38 =>
                      K x38) w) w) w) w) w) w) w) w)) w) w) w) w) w) w) w)) w) w) w) w) w)))
                (opN Tryz.prog (sEq .eql 3 (.tmp 16) (.const (.int .i64 1)) v1 (.int .i64 1)) Kp fun x40 =>
                 condS x40
                 (drS (stD Tryz.prog (sBin .add 9 x10 (.string ⟨#[44, 32]⟩)) fun D1 x42 =>
                   stS Tryz.prog (sFA 106 x2 2) fun x43 =>
                   stS Tryz.prog (sLoad 3 x43) fun x44 =>
                   stD Tryz.prog (sFA 106 x2 0) fun D10 x51 =>
                   stD Tryz.prog (sLoad 3 x51) fun D11 x52 =>
                   stD Tryz.prog (sBin .rem 3 x52 (.int .i64 100)) fun D12 x53 =>
                   stD Tryz.prog (sLoad 106 x2) fun D16 x57 =>
                   opN Tryz.prog (sCall (fn 80) [x44, (.int .i64 2), (.int .u8 48)]) Kp fun x45 =>
                   (fun w => D16 w ∧ (fun w => D12 w ∧ (fun w => D11 w ∧ (fun w => D10 w ∧ (fun w => D1 w ∧ (stD Tryz.prog (sBin .add 9 x42 x45) fun D5 x46 =>
                      stD Tryz.prog (sBin .add 9 x46 (.string ⟨#[45]⟩)) fun D6 x47 =>
                      stD Tryz.prog (sBin .add 9 x47 x15) fun D8 x49 =>
                      stD Tryz.prog (sBin .add 9 x49 (.string ⟨#[45]⟩)) fun D9 x50 =>
                      opN Tryz.prog (sCall (fn 80) [x53, (.int .i64 2), (.int .u8 48)]) Kp fun x54 =>
                      (fun w => D9 w ∧ (fun w => D8 w ∧ (fun w => D6 w ∧ (fun w => D5 w ∧ (fun w => D16 w ∧ (fun w => D1 w ∧ (stD Tryz.prog (sBin .add 9 x50 x54) fun D14 x55 =>
                      stD Tryz.prog (sBin .add 9 x55 (.string ⟨#[32]⟩)) fun D15 x56 =>
                      opN Tryz.prog (sCall (fn 81) [x57]) Kp fun x58 =>
                      (fun w => D15 w ∧ (fun w => D14 w ∧ (fun w => D9 w ∧ (fun w => D8 w ∧ (fun w => D6 w ∧ (fun w => D5 w ∧ (fun w => D1 w ∧ (stS Tryz.prog (sBin .add 9 x56 x58) fun x59 =>
                      stS Tryz.prog (sBin .add 9 x59 (.string ⟨#[32, 71, 77, 84]⟩)) fun x60 =>
                      K x60) w) w) w) w) w) w) w)) w) w) w) w) w) w)) w) w) w) w) w)))
                 (drS (stD Tryz.prog (sSl 9 x10 none (some (.int .i64 3)) none) fun D1 x62 =>
                   stD Tryz.prog (sBin .add 9 x62 (.string ⟨#[32]⟩)) fun D2 x63 =>
                   stD Tryz.prog (sBin .add 9 x63 x15) fun D4 x65 =>
                   stD Tryz.prog (sBin .add 9 x65 (.string ⟨#[32]⟩)) fun D5 x66 =>
                   stS Tryz.prog (sFA 106 x2 2) fun x67 =>
                   stS Tryz.prog (sLoad 3 x67) fun x68 =>
                   stD Tryz.prog (sLoad 106 x2) fun D11 x72 =>
                   stD Tryz.prog (sFA 106 x2 0) fun D15 x76 =>
                   stD Tryz.prog (sLoad 3 x76) fun D16 x77 =>
                   opN Tryz.prog (sCall (fn 80) [x68, (.int .i64 2), (.int .u8 32)]) Kp fun x69 =>
                   (fun w => D16 w ∧ (fun w => D15 w ∧ (fun w => D11 w ∧ (fun w => D5 w ∧ (fun w => D4 w ∧ (fun w => D2 w ∧ (fun w => D1 w ∧ (stD Tryz.prog (sBin .add 9 x66 x69) fun D9 x70 =>
                      stD Tryz.prog (sBin .add 9 x70 (.string ⟨#[32]⟩)) fun D10 x71 =>
                      opN Tryz.prog (sCall (fn 81) [x72]) Kp fun x73 =>
                      (fun w => D10 w ∧ (fun w => D9 w ∧ (fun w => D16 w ∧ (fun w => D15 w ∧ (fun w => D5 w ∧ (fun w => D4 w ∧ (fun w => D2 w ∧ (fun w => D1 w ∧ (stD Tryz.prog (sBin .add 9 x71 x73) fun D13 x74 =>
                      stD Tryz.prog (sBin .add 9 x74 (.string ⟨#[32]⟩)) fun D14 x75 =>
                      opN Tryz.prog (sCall (fn 80) [x77, (.int .i64 4), (.int .u8 48)]) Kp fun x78 =>
                      (fun w => D14 w ∧ (fun w => D13 w ∧ (fun w => D10 w ∧ (fun w => D9 w ∧ (fun w => D5 w ∧ (fun w => D4 w ∧ (fun w => D2 w ∧ (fun w => D1 w ∧ (stS Tryz.prog (sBin .add 9 x75 x78) fun x79 =>
                      K x79) w) w) w) w) w) w) w) w)) w) w) w) w) w) w) w) w)) w) w) w) w) w) w) w))))) w) w) w) w) w) w)) w) w) w) w) w))
def dates_Date_form_an : Ann := { cuts := [], blks := [], loops := [], drs := [(1, [(1, 3), (2, 3), (5, 3), (6, 3), (7, 3), (0, 0), (3, 3), (4, 0), (8, 1), (9, 1), (10, 1)]), (4, [(0, 2), (1, 3), (2, 3), (3, 1), (4, 1), (8, 2), (11, 3), (12, 3), (16, 3), (5, 0), (6, 3), (7, 3), (9, 3), (10, 3), (13, 0), (14, 3), (15, 3), (17, 0), (18, 1), (19, 1), (20, 1)]), (6, [(0, 2), (1, 3), (2, 1), (3, 1), (7, 2), (10, 3), (11, 3), (12, 3), (16, 3), (4, 0), (5, 3), (6, 3), (8, 3), (9, 3), (13, 0), (14, 3), (15, 3), (17, 0), (18, 1), (19, 1), (20, 1)]), (7, [(0, 2), (1, 3), (2, 3), (3, 2), (4, 3), (5, 3), (6, 1), (7, 1), (11, 3), (15, 3), (16, 3), (8, 0), (9, 3), (10, 3), (12, 0), (13, 3), (14, 3), (17, 0), (18, 1), (19, 1)])] }
theorem dates_Date_form_eq (v0 v1 : Value) (Kp : PK) (K : Value → WP) : cevF Tryz.prog dates_Date_form_an Tryz.f61 [v0, v1] Kp K = dates_Date_form v0 v1 Kp K := by kernel_rfl
theorem dates_Date_form_calls {v0 v1 : Value} {Kp : PK} {K : Value → WP} {w : World} (h : dates_Date_form v0 v1 Kp K w) : Calls Tryz.prog 61 #[v0, v1] w (after Kp K) :=
  calls_of_shape (calls_of_cev wide Tryz.func61 (an := dates_Date_form_an) (args := [v0, v1]) (cast (congrFun (dates_Date_form_eq v0 v1 Kp K) w).symm h))
theorem dates_Date_form_cn {v0 v1 : Value} {W : World} {α : Type} {A : List HP} {r : α → Value} {B : α → List HP} (h : ∀ F, Ent W (A ++ F) (dates_Date_form v0 v1 noP fun v w => ∃ x, v = r x ∧ sat W (B x ++ F) w)) : Cn Tryz.prog 61 [v0, v1] W A r B :=
  Cn.of (shape := dates_Date_form v0 v1) Tryz.call61 (fun h => dates_Date_form_calls h) h
theorem dates_Date_form_cnP {v0 v1 : Value} {W : World} {α β : Type} {A : List HP} {r : α → Value} {B : α → List HP} {pc : β → List PanicEntry} {Bp : β → List HP} (h : ∀ F, Ent W (A ++ F) (dates_Date_form v0 v1 (fun ch w => ∃ y, ch = pc y ∧ sat W (Bp y ++ F) w) fun v w => ∃ x, v = r x ∧ sat W (B x ++ F) w)) : CnP Tryz.prog 61 [v0, v1] W A r B pc Bp :=
  CnP.of (shape := dates_Date_form v0 v1) Tryz.call61 (fun h => dates_Date_form_calls h) h

/-- ref09_Join -/
def ref09_Join (v0 : Value) (Kp : PK) (K : Value → WP) : WP :=
  opN Tryz.prog (sBox 84 v0) Kp fun x1 =>
  drS (stS Tryz.prog (sFA 84 x1 0) fun x7 =>
   stS Tryz.prog (sLoad 3 x7) fun x8 =>
   stS Tryz.prog (sBin .lss 3 x8 (.int .i64 1970)) fun x9 =>
   gdK x9 false (stS Tryz.prog (sFA 84 x1 0)) fun x11 =>
   gdK x9 false (stS Tryz.prog (sLoad 3 x11)) fun x12 =>
   gdK x9 false (stS Tryz.prog (sBin .gtr 3 x12 (.int .i64 9999))) fun x13 =>
   stS Tryz.prog (sPick x9 (.bool true) x13) fun x14 =>
   gdK x14 false (stS Tryz.prog (sFA 84 x1 1)) fun x16 =>
   gdK x14 false (stS Tryz.prog (sLoad 3 x16)) fun x17 =>
   gdK x14 false (stS Tryz.prog (sBin .lss 3 x17 (.int .i64 1))) fun x18 =>
   stS Tryz.prog (sPick x14 (.bool true) x18) fun x19 =>
   gdK x19 false (stS Tryz.prog (sFA 84 x1 1)) fun x21 =>
   gdK x19 false (stS Tryz.prog (sLoad 3 x21)) fun x22 =>
   gdK x19 false (stS Tryz.prog (sBin .gtr 3 x22 (.int .i64 12))) fun x23 =>
   stS Tryz.prog (sPick x19 (.bool true) x23) fun x24 =>
   gdK x24 false (stS Tryz.prog (sFA 84 x1 2)) fun x26 =>
   gdK x24 false (stS Tryz.prog (sLoad 3 x26)) fun x27 =>
   gdK x24 false (stS Tryz.prog (sBin .lss 3 x27 (.int .i64 1))) fun x28 =>
   stS Tryz.prog (sPick x24 (.bool true) x28) fun x29 =>
   gdD x29 false (stD Tryz.prog (sFA 84 x1 2)) fun D24 x31 =>
   gdD x29 false (stD Tryz.prog (sLoad 3 x31)) fun D25 x32 =>
   gdK x29 false (stS Tryz.prog (sFA 84 x1 0)) fun x33 =>
   gdK x29 false (stS Tryz.prog (sLoad 3 x33)) fun x34 =>
   gdK x29 false (stS Tryz.prog (sFA 84 x1 1)) fun x35 =>
   gdK x29 false (stS Tryz.prog (sLoad 3 x35)) fun x36 =>
   gdK x29 false (opN Tryz.prog (sCall (fn 82) [x34, x36]) Kp) fun x37 =>
   (fun w => D25 w ∧ (fun w => D24 w ∧ (gdK x29 false (stS Tryz.prog (sBin .gtr 3 x32 x37)) fun x38 =>
      stS Tryz.prog (sPick x29 (.bool true) x38) fun x39 =>
      condS x39
      (K (.tuple #[(.int .i64 0), (.int .i64 41)]))
      (opN Tryz.prog (sFA 84 x1 3) Kp fun x40 =>
       opN Tryz.prog (sLoad 3 x40) Kp fun x41 =>
       opN Tryz.prog (sBin .lss 3 x41 (.int .i64 0)) Kp fun x42 =>
       gdK x42 false (opN Tryz.prog (sFA 84 x1 3) Kp) fun x44 =>
       gdK x42 false (opN Tryz.prog (sLoad 3 x44) Kp) fun x45 =>
       gdK x42 false (opN Tryz.prog (sBin .gtr 3 x45 (.int .i64 23)) Kp) fun x46 =>
       opN Tryz.prog (sPick x42 (.bool true) x46) Kp fun x47 =>
       gdK x47 false (opN Tryz.prog (sFA 84 x1 4) Kp) fun x49 =>
       gdK x47 false (opN Tryz.prog (sLoad 3 x49) Kp) fun x50 =>
       gdK x47 false (opN Tryz.prog (sBin .lss 3 x50 (.int .i64 0)) Kp) fun x51 =>
       opN Tryz.prog (sPick x47 (.bool true) x51) Kp fun x52 =>
       gdK x52 false (opN Tryz.prog (sFA 84 x1 4) Kp) fun x54 =>
       gdK x52 false (opN Tryz.prog (sLoad 3 x54) Kp) fun x55 =>
       gdK x52 false (opN Tryz.prog (sBin .gtr 3 x55 (.int .i64 59)) Kp) fun x56 =>
       opN Tryz.prog (sPick x52 (.bool true) x56) Kp fun x57 =>
       gdK x57 false (opN Tryz.prog (sFA 84 x1 5) Kp) fun x59 =>
       gdK x57 false (opN Tryz.prog (sLoad 3 x59) Kp) fun x60 =>
       gdK x57 false (opN Tryz.prog (sBin .lss 3 x60 (.int .i64 0)) Kp) fun x61 =>
       opN Tryz.prog (sPick x57 (.bool true) x61) Kp fun x62 =>
       gdK x62 false (opN Tryz.prog (sFA 84 x1 5) Kp) fun x64 =>
       gdK x62 false (opN Tryz.prog (sLoad 3 x64) Kp) fun x65 =>
       gdK x62 false (opN Tryz.prog (sBin .gtr 3 x65 (.int .i64 59)) Kp) fun x66 =>
       opN Tryz.prog (sPick x62 (.bool true) x66) Kp fun x67 =>
       condS x67
       (K (.tuple #[(.int .i64 0), (.int .i64 41)]))
       (opN Tryz.prog (sFA 84 x1 2) Kp fun x68 =>
        opN Tryz.prog (sLoad 3 x68) Kp fun x69 =>
        opN Tryz.prog (sBin .sub 3 x69 (.int .i64 1)) Kp fun x70 =>
        loop2 (fun I1 m1 _ y4 y5 =>
         opN Tryz.prog (sFA 84 x1 0) Kp fun x72 =>
         opN Tryz.prog (sLoad 3 x72) Kp fun x73 =>
         opN Tryz.prog (sBin .lss 3 y5 x73) Kp fun x74 =>
         condS x74
         (opN Tryz.prog (sCall (fn 83) [y5]) Kp fun x79 =>
          opN Tryz.prog (sBin .add 3 y4 x79) Kp fun x80 =>
          opN Tryz.prog (sBin .add 3 y5 (.int .i64 1)) Kp fun x76 =>
          next2 I1 m1 x80 x76)
         (loop2 (fun I2 m2 _ y4 y6 =>
           opN Tryz.prog (sFA 84 x1 1) Kp fun x82 =>
           opN Tryz.prog (sLoad 3 x82) Kp fun x83 =>
           opN Tryz.prog (sBin .lss 3 y6 x83) Kp fun x84 =>
           condS x84
           (opN Tryz.prog (sFA 84 x1 0) Kp fun x88 =>
            opN Tryz.prog (sLoad 3 x88) Kp fun x89 =>
            opN Tryz.prog (sCall (fn 82) [x89, y6]) Kp fun x91 =>
            opN Tryz.prog (sBin .add 3 y4 x91) Kp fun x92 =>
            opN Tryz.prog (sBin .add 3 y6 (.int .i64 1)) Kp fun x86 =>
            next2 I2 m2 x92 x86)
           (opN Tryz.prog (sBin .mul 3 y4 (.int .i64 86400)) Kp fun x94 =>
            opN Tryz.prog (sFA 84 x1 3) Kp fun x95 =>
            opN Tryz.prog (sLoad 3 x95) Kp fun x96 =>
            opN Tryz.prog (sBin .mul 3 x96 (.int .i64 3600)) Kp fun x97 =>
            opN Tryz.prog (sBin .add 3 x94 x97) Kp fun x98 =>
            opN Tryz.prog (sFA 84 x1 4) Kp fun x99 =>
            opN Tryz.prog (sLoad 3 x99) Kp fun x100 =>
            opN Tryz.prog (sBin .mul 3 x100 (.int .i64 60)) Kp fun x101 =>
            opN Tryz.prog (sBin .add 3 x98 x101) Kp fun x102 =>
            opN Tryz.prog (sFA 84 x1 5) Kp fun x103 =>
            opN Tryz.prog (sLoad 3 x103) Kp fun x104 =>
            opN Tryz.prog (sBin .add 3 x102 x104) Kp fun x105 =>
            K (.tuple #[x105, (.int .i64 0)]))) y4 (.int .i64 1))) x70 (.int .i64 1970)))) w) w))
def ref09_Join_an : Ann := { cuts := [], blks := [], loops := [(7, [4, 5]), (11, [4, 6])], drs := [(1, [(0, 1), (1, 1), (2, 1), (3, 1), (4, 1), (5, 1), (6, 1), (7, 1), (8, 1), (9, 1), (10, 1), (11, 1), (12, 1), (13, 1), (14, 1), (15, 1), (16, 1), (17, 1), (18, 1), (19, 1), (20, 1), (21, 1), (22, 1), (23, 1), (24, 3), (25, 3), (26, 1), (27, 1), (28, 1), (29, 1), (30, 0), (31, 1), (32, 1)])] }
theorem ref09_Join_eq (v0 : Value) (Kp : PK) (K : Value → WP) : cevF Tryz.prog ref09_Join_an Tryz.f62 [v0] Kp K = ref09_Join v0 Kp K := by kernel_rfl
theorem ref09_Join_calls {v0 : Value} {Kp : PK} {K : Value → WP} {w : World} (h : ref09_Join v0 Kp K w) : Calls Tryz.prog 62 #[v0] w (after Kp K) :=
  calls_of_shape (calls_of_cev wide Tryz.func62 (an := ref09_Join_an) (args := [v0]) (cast (congrFun (ref09_Join_eq v0 Kp K) w).symm h))
theorem ref09_Join_cn {v0 : Value} {W : World} {α : Type} {A : List HP} {r : α → Value} {B : α → List HP} (h : ∀ F, Ent W (A ++ F) (ref09_Join v0 noP fun v w => ∃ x, v = r x ∧ sat W (B x ++ F) w)) : Cn Tryz.prog 62 [v0] W A r B :=
  Cn.of (shape := ref09_Join v0) Tryz.call62 (fun h => ref09_Join_calls h) h
theorem ref09_Join_cnP {v0 : Value} {W : World} {α β : Type} {A : List HP} {r : α → Value} {B : α → List HP} {pc : β → List PanicEntry} {Bp : β → List HP} (h : ∀ F, Ent W (A ++ F) (ref09_Join v0 (fun ch w => ∃ y, ch = pc y ∧ sat W (Bp y ++ F) w) fun v w => ∃ x, v = r x ∧ sat W (B x ++ F) w)) : CnP Tryz.prog 62 [v0] W A r B pc Bp :=
  CnP.of (shape := ref09_Join v0) Tryz.call62 (fun h => ref09_Join_calls h) h

/-- ref09_Split -/
def ref09_Split (v0 : Value) (Kp : PK) (K : Value → WP) : WP :=
  opN Tryz.prog (sAlloc 84) Kp fun x2 =>
  opN Tryz.prog (sBin .lss 3 v0 (.int .i64 0)) Kp fun x7 =>
  gdK x7 false (fun k => k v0) fun x9 =>
  gdK x7 false (opN Tryz.prog (sBin .gtr 3 x9 (.int .i64 253402300799)) Kp) fun x10 =>
  opN Tryz.prog (sPick x7 (.bool true) x10) Kp fun x11 =>
  condS x11
  (opN Tryz.prog (sBuild 84 []) Kp fun x12 =>
   opN Tryz.prog (sStore 84 x2 x12) Kp fun _ =>
   (stS Tryz.prog (sRes 84 x2) fun r0 => K (.tuple #[r0, (.int .i64 11)])))
  (opN Tryz.prog (sBin .quo 3 v0 (.int .i64 3600)) Kp fun x14 =>
   opN Tryz.prog (sBin .rem 3 x14 (.int .i64 24)) Kp fun x15 =>
   opN Tryz.prog (sBin .quo 3 v0 (.int .i64 60)) Kp fun x17 =>
   opN Tryz.prog (sBin .rem 3 x17 (.int .i64 60)) Kp fun x18 =>
   opN Tryz.prog (sBin .rem 3 v0 (.int .i64 60)) Kp fun x20 =>
   opN Tryz.prog (sBuild 84 [(0, (.int .i64 1970)), (1, (.int .i64 1)), (3, x15), (4, x18), (5, x20)]) Kp fun x21 =>
   opN Tryz.prog (sAlloc 84) Kp fun x4 =>
   opN Tryz.prog (sStore 84 x4 x21) Kp fun _ =>
   opN Tryz.prog (sBin .quo 3 v0 (.int .i64 86400)) Kp fun x23 =>
   opN Tryz.prog (sBin .add 3 x23 (.int .i64 4)) Kp fun x25 =>
   opN Tryz.prog (sBin .rem 3 x25 (.int .i64 7)) Kp fun x26 =>
   opN Tryz.prog (sFA 84 x4 6) Kp fun x27 =>
   opN Tryz.prog (sStore 3 x27 x26) Kp fun _ =>
   loop1 (fun I1 m1 _ y5 =>
    opN Tryz.prog (sFA 84 x4 0) Kp fun x29 =>
    opN Tryz.prog (sLoad 3 x29) Kp fun x30 =>
    opN Tryz.prog (sCall (fn 83) [x30]) Kp fun x31 =>
    opN Tryz.prog (sBin .geq 3 y5 x31) Kp fun x32 =>
    condS x32
    (opN Tryz.prog (sFA 84 x4 0) Kp fun x34 =>
     opN Tryz.prog (sLoad 3 x34) Kp fun x35 =>
     opN Tryz.prog (sCall (fn 83) [x35]) Kp fun x36 =>
     opN Tryz.prog (sBin .sub 3 y5 x36) Kp fun x37 =>
     opN Tryz.prog (sFA 84 x4 0) Kp fun x38 =>
     opN Tryz.prog (sLoad 3 x38) Kp fun x39 =>
     opN Tryz.prog (sBin .add 3 x39 (.int .i64 1)) Kp fun x40 =>
     opN Tryz.prog (sFA 84 x4 0) Kp fun x41 =>
     opN Tryz.prog (sStore 3 x41 x40) Kp fun _ =>
     next1 I1 m1 x37)
    (loop1 (fun I2 m2 _ y5_2 =>
      opN Tryz.prog (sFA 84 x4 0) Kp fun x43 =>
      opN Tryz.prog (sLoad 3 x43) Kp fun x44 =>
      opN Tryz.prog (sFA 84 x4 1) Kp fun x45 =>
      opN Tryz.prog (sLoad 3 x45) Kp fun x46 =>
      opN Tryz.prog (sCall (fn 82) [x44, x46]) Kp fun x47 =>
      opN Tryz.prog (sBin .geq 3 y5_2 x47) Kp fun x48 =>
      condS x48
      (opN Tryz.prog (sFA 84 x4 0) Kp fun x50 =>
       opN Tryz.prog (sLoad 3 x50) Kp fun x51 =>
       opN Tryz.prog (sFA 84 x4 1) Kp fun x52 =>
       opN Tryz.prog (sLoad 3 x52) Kp fun x53 =>
       opN Tryz.prog (sCall (fn 82) [x51, x53]) Kp fun x54 =>
       opN Tryz.prog (sBin .sub 3 y5_2 x54) Kp fun x55 =>
       opN Tryz.prog (sFA 84 x4 1) Kp fun x56 =>
       opN Tryz.prog (sLoad 3 x56) Kp fun x57 =>
       opN Tryz.prog (sBin .add 3 x57 (.int .i64 1)) Kp fun x58 =>
       opN Tryz.prog (sFA 84 x4 1) Kp fun x59 =>
       opN Tryz.prog (sStore 3 x59 x58) Kp fun _ =>
       next1 I2 m2 x55)
      (opN Tryz.prog (sBin .add 3 y5_2 (.int .i64 1)) Kp fun x61 =>
       opN Tryz.prog (sFA 84 x4 2) Kp fun x62 =>
       opN Tryz.prog (sStore 3 x62 x61) Kp fun _ =>
       opN Tryz.prog (sLoad 84 x4) Kp fun x63 =>
       opN Tryz.prog (sStore 84 x2 x63) Kp fun _ =>
       (stS Tryz.prog (sRes 84 x2) fun r0 => K (.tuple #[r0, (.int .i64 0)])))) y5)) x23)
def ref09_Split_an : Ann := { cuts := [], blks := [], loops := [(6, [5]), (9, [5])], drs := [] }
theorem ref09_Split_eq (v0 : Value) (Kp : PK) (K : Value → WP) : cevF Tryz.prog ref09_Split_an Tryz.f63 [v0] Kp K = ref09_Split v0 Kp K := by kernel_rfl
theorem ref09_Split_calls {v0 : Value} {Kp : PK} {K : Value → WP} {w : World} (h : ref09_Split v0 Kp K w) : Calls Tryz.prog 63 #[v0] w (after Kp K) :=
  calls_of_shape (calls_of_cev wide Tryz.func63 (an := ref09_Split_an) (args := [v0]) (cast (congrFun (ref09_Split_eq v0 Kp K) w).symm h))
theorem ref09_Split_cn {v0 : Value} {W : World} {α : Type} {A : List HP} {r : α → Value} {B : α → List HP} (h : ∀ F, Ent W (A ++ F) (ref09_Split v0 noP fun v w => ∃ x, v = r x ∧ sat W (B x ++ F) w)) : Cn Tryz.prog 63 [v0] W A r B :=
  Cn.of (shape := ref09_Split v0) Tryz.call63 (fun h => ref09_Split_calls h) h
theorem ref09_Split_cnP {v0 : Value} {W : World} {α β : Type} {A : List HP} {r : α → Value} {B : α → List HP} {pc : β → List PanicEntry} {Bp : β → List HP} (h : ∀ F, Ent W (A ++ F) (ref09_Split v0 (fun ch w => ∃ y, ch = pc y ∧ sat W (Bp y ++ F) w) fun v w => ∃ x, v = r x ∧ sat W (B x ++ F) w)) : CnP Tryz.prog 63 [v0] W A r B pc Bp :=
  CnP.of (shape := ref09_Split v0) Tryz.call63 (fun h => ref09_Split_calls h) h

/-- ref09_Forms -/
def ref09_Forms (v0 : Value) (Kp : PK) (K : Value → WP) : WP :=
  opN Tryz.prog (sBox 84 v0) Kp fun x1 =>
  opN Tryz.prog (sCall (fn 84) []) Kp fun x15 =>
  opN Tryz.prog (sExt x15 0) Kp fun x16 =>
  opN Tryz.prog (sExt x15 1) Kp fun x17 =>
  opN Tryz.prog (sExt x15 2) Kp fun x18 =>
  opN Tryz.prog (sFA 84 x1 1) Kp fun x20 =>
  opN Tryz.prog (sLoad 3 x20) Kp fun x21 =>
  opN Tryz.prog (sBin .sub 3 x21 (.int .i64 1)) Kp fun x22 =>
  opN Tryz.prog (sIA 66 x18 x22) Kp fun x23 =>
  opN Tryz.prog (sLoad 9 x23) Kp fun x24 =>
  opN Tryz.prog (sFA 84 x1 2) Kp fun x25 =>
  opN Tryz.prog (sLoad 3 x25) Kp fun x26 =>
  opN Tryz.prog (sCall (fn 85) [x26]) Kp fun x27 =>
  cut1 (fun J1 =>
   opN Tryz.prog (sFA 84 x1 2) Kp fun x28 =>
   opN Tryz.prog (sLoad 3 x28) Kp fun x29 =>
   opN Tryz.prog (sBin .lss 3 x29 (.int .i64 10)) Kp fun x30 =>
   condS x30
   (opN Tryz.prog (sSl 9 x27 (some (.int .i64 1)) none none) Kp fun x32 =>
    opN Tryz.prog (sBin .add 9 (.string ⟨#[32]⟩) x32) Kp fun x33 =>
    J1 x33)
   (J1 x27)) fun _ z9 =>
  drS (stS Tryz.prog (sFA 84 x1 0) fun x34 =>
   stS Tryz.prog (sLoad 3 x34) fun x35 =>
   stS Tryz.prog (sBin .quo 3 x35 (.int .i64 100)) fun x36 =>
   stD Tryz.prog (sFA 84 x1 0) fun D4 x38 =>
   stD Tryz.prog (sLoad 3 x38) fun D5 x39 =>
   opN Tryz.prog (sCall (fn 85) [x36]) Kp fun x37 =>
   (fun w => D5 w ∧ (fun w => D4 w ∧ (opN Tryz.prog (sCall (fn 85) [x39]) Kp fun x40 =>
      stS Tryz.prog (sBin .add 9 x37 x40) fun x41 =>
      drS (stD Tryz.prog (sFA 84 x1 6) fun D1 x43 =>
       stD Tryz.prog (sLoad 3 x43) fun D2 x44 =>
       stD Tryz.prog (sIA 66 x16 x44) fun D3 x45 =>
       stD Tryz.prog (sLoad 9 x45) fun D4 x46 =>
       stD Tryz.prog (sBin .add 9 x46 (.string ⟨#[44, 32]⟩)) fun D5 x47 =>
       stS Tryz.prog (sFA 84 x1 2) fun x48 =>
       stS Tryz.prog (sLoad 3 x48) fun x49 =>
       stD Tryz.prog (sLoad 84 x1) fun D17 x59 =>
       opN Tryz.prog (sCall (fn 85) [x49]) Kp fun x50 =>
       (fun w => D17 w ∧ (fun w => D5 w ∧ (fun w => D4 w ∧ (fun w => D3 w ∧ (fun w => D2 w ∧ (fun w => D1 w ∧ (stD Tryz.prog (sBin .add 9 x47 x50) fun D9 x51 =>
              stD Tryz.prog (sBin .add 9 x51 (.string ⟨#[32]⟩)) fun D10 x52 =>
              stD Tryz.prog (sBin .add 9 x52 x24) fun D12 x54 =>
              stD Tryz.prog (sBin .add 9 x54 (.string ⟨#[32]⟩)) fun D13 x55 =>
              stD Tryz.prog (sBin .add 9 x55 x41) fun D15 x57 =>
              stD Tryz.prog (sBin .add 9 x57 (.string ⟨#[32]⟩)) fun D16 x58 =>
              opN Tryz.prog (sCall (fn 86) [x59]) Kp fun x60 =>
              (fun w => D16 w ∧ (fun w => D15 w ∧ (fun w => D13 w ∧ (fun w => D12 w ∧ (fun w => D10 w ∧ (fun w => D9 w ∧ (fun w => D5 w ∧ (fun w => D4 w ∧ (fun w => D3 w ∧ (fun w => D2 w ∧ (fun w => D1 w ∧ (stS Tryz.prog (sBin .add 9 x58 x60) fun x61 =>
                      stS Tryz.prog (sBin .add 9 x61 (.string ⟨#[32, 71, 77, 84]⟩)) fun x62 =>
                      drS (stD Tryz.prog (sFA 84 x1 6) fun D1 x64 =>
                      stD Tryz.prog (sLoad 3 x64) fun D2 x65 =>
                      stD Tryz.prog (sIA 66 x17 x65) fun D3 x66 =>
                      stD Tryz.prog (sLoad 9 x66) fun D4 x67 =>
                      stD Tryz.prog (sBin .add 9 x67 (.string ⟨#[44, 32]⟩)) fun D5 x68 =>
                      stS Tryz.prog (sFA 84 x1 2) fun x69 =>
                      stS Tryz.prog (sLoad 3 x69) fun x70 =>
                      stD Tryz.prog (sFA 84 x1 0) fun D14 x77 =>
                      stD Tryz.prog (sLoad 3 x77) fun D15 x78 =>
                      stD Tryz.prog (sLoad 84 x1) fun D19 x82 =>
                      opN Tryz.prog (sCall (fn 85) [x70]) Kp fun x71 =>
                      (fun w => D19 w ∧ (fun w => D15 w ∧ (fun w => D14 w ∧ (fun w => D5 w ∧ (fun w => D4 w ∧ (fun w => D3 w ∧ (fun w => D2 w ∧ (fun w => D1 w ∧ (stD Tryz.prog (sBin .add 9 x68 x71) fun D9 x72 =>
                      stD Tryz.prog (sBin .add 9 x72 (.string ⟨#[45]⟩)) fun D10 x73 =>
                      stD Tryz.prog (sBin .add 9 x73 x24) fun D12 x75 =>
                      stD Tryz.prog (sBin .add 9 x75 (.string ⟨#[45]⟩)) fun D13 x76 =>
                      opN Tryz.prog (sCall (fn 85) [x78]) Kp fun x79 =>
                      (fun w => D13 w ∧ (fun w => D12 w ∧ (fun w => D10 w ∧ (fun w => D9 w ∧ (fun w => D19 w ∧ (fun w => D5 w ∧ (fun w => D4 w ∧ (fun w => D3 w ∧ (fun w => D2 w ∧ (fun w => D1 w ∧ (stD Tryz.prog (sBin .add 9 x76 x79) fun D17 x80 =>
                      stD Tryz.prog (sBin .add 9 x80 (.string ⟨#[32]⟩)) fun D18 x81 =>
                      opN Tryz.prog (sCall (fn 86) [x82]) Kp fun x83 =>
                      (fun w => D18 w ∧ (fun w => D17 w ∧ (fun w => D13 w ∧ (fun w => D12 w ∧ (fun w => D10 w ∧ (fun w => D9 w ∧ (fun w => D5 w ∧ (fun w => D4 w ∧ (fun w => D3 w ∧ (fun w => D2 w ∧ (fun w => D1 w ∧ (stS Tryz.prog (sBin .add 9 x81 x83) fun x84 =>
                      stS Tryz.prog (sBin .add 9 x84 (.string ⟨#[32, 71, 77, 84]⟩)) fun x85 =>
                      drS (stD Tryz.prog (sFA 84 x1 6) fun D1 x87 =>
                      stD Tryz.prog (sLoad 3 x87) fun D2 x88 =>
                      stD Tryz.prog (sIA 66 x16 x88) fun D3 x89 =>
                      stD Tryz.prog (sLoad 9 x89) fun D4 x90 =>
                      stD Tryz.prog (sBin .add 9 x90 (.string ⟨#[32]⟩)) fun D5 x91 =>
                      stD Tryz.prog (sBin .add 9 x91 x24) fun D7 x93 =>
                      stD Tryz.prog (sBin .add 9 x93 (.string ⟨#[32]⟩)) fun D8 x94 =>
                      stD Tryz.prog (sBin .add 9 x94 z9) fun D10 x96 =>
                      stD Tryz.prog (sBin .add 9 x96 (.string ⟨#[32]⟩)) fun D11 x97 =>
                      stS Tryz.prog (sLoad 84 x1) fun x98 =>
                      opN Tryz.prog (sCall (fn 86) [x98]) Kp fun x99 =>
                      (fun w => D11 w ∧ (fun w => D10 w ∧ (fun w => D8 w ∧ (fun w => D7 w ∧ (fun w => D5 w ∧ (fun w => D4 w ∧ (fun w => D3 w ∧ (fun w => D2 w ∧ (fun w => D1 w ∧ (stS Tryz.prog (sBin .add 9 x97 x99) fun x100 =>
                      stS Tryz.prog (sBin .add 9 x100 (.string ⟨#[32]⟩)) fun x101 =>
                      stS Tryz.prog (sBin .add 9 x101 x41) fun x103 =>
                      K (.tuple #[x62, x85, x103])) w) w) w) w) w) w) w) w) w))) w) w) w) w) w) w) w) w) w) w) w)) w) w) w) w) w) w) w) w) w) w)) w) w) w) w) w) w) w) w))) w) w) w) w) w) w) w) w) w) w) w)) w) w) w) w) w) w))) w) w))
def ref09_Forms_an : Ann := { cuts := [(6, [9])], blks := [], loops := [], drs := [(6, [(0, 1), (1, 1), (2, 1), (4, 3), (5, 3), (3, 0), (6, 0), (7, 1), (8, 1)]), (7, [(0, 2), (1, 3), (2, 3), (3, 3), (4, 3), (5, 3), (6, 1), (7, 1), (11, 2), (14, 2), (17, 3), (8, 0), (9, 3), (10, 3), (12, 3), (13, 3), (15, 3), (16, 3), (18, 0), (19, 1), (20, 1), (21, 1)]), (8, [(0, 2), (1, 3), (2, 3), (3, 3), (4, 3), (5, 3), (6, 1), (7, 1), (11, 2), (14, 3), (15, 3), (19, 3), (8, 0), (9, 3), (10, 3), (12, 3), (13, 3), (16, 0), (17, 3), (18, 3), (20, 0), (21, 1), (22, 1), (23, 1)]), (9, [(0, 2), (1, 3), (2, 3), (3, 3), (4, 3), (5, 3), (6, 2), (7, 3), (8, 3), (9, 2), (10, 3), (11, 3), (12, 1), (16, 2), (13, 0), (14, 1), (15, 1), (17, 1), (18, 1)])] }
theorem ref09_Forms_eq (v0 : Value) (Kp : PK) (K : Value → WP) : cevF Tryz.prog ref09_Forms_an Tryz.f64 [v0] Kp K = ref09_Forms v0 Kp K := by kernel_rfl
theorem ref09_Forms_calls {v0 : Value} {Kp : PK} {K : Value → WP} {w : World} (h : ref09_Forms v0 Kp K w) : Calls Tryz.prog 64 #[v0] w (after Kp K) :=
  calls_of_shape (calls_of_cev wide Tryz.func64 (an := ref09_Forms_an) (args := [v0]) (cast (congrFun (ref09_Forms_eq v0 Kp K) w).symm h))
theorem ref09_Forms_cn {v0 : Value} {W : World} {α : Type} {A : List HP} {r : α → Value} {B : α → List HP} (h : ∀ F, Ent W (A ++ F) (ref09_Forms v0 noP fun v w => ∃ x, v = r x ∧ sat W (B x ++ F) w)) : Cn Tryz.prog 64 [v0] W A r B :=
  Cn.of (shape := ref09_Forms v0) Tryz.call64 (fun h => ref09_Forms_calls h) h
theorem ref09_Forms_cnP {v0 : Value} {W : World} {α β : Type} {A : List HP} {r : α → Value} {B : α → List HP} {pc : β → List PanicEntry} {Bp : β → List HP} (h : ∀ F, Ent W (A ++ F) (ref09_Forms v0 (fun ch w => ∃ y, ch = pc y ∧ sat W (Bp y ++ F) w) fun v w => ∃ x, v = r x ∧ sat W (B x ++ F) w)) : CnP Tryz.prog 64 [v0] W A r B pc Bp :=
  CnP.of (shape := ref09_Forms v0) Tryz.call64 (fun h => ref09_Forms_calls h) h

/-- ref09_month -/
def ref09_month (v0 v1 : Value) (Kp : PK) (K : Value → WP) : WP :=
  opN Tryz.prog (sCall (fn 84) []) Kp fun x10 =>
  opN Tryz.prog (sExt x10 0) Kp fun x11 =>
  opN Tryz.prog (sExt x10 1) Kp fun x12 =>
  opN Tryz.prog (sExt x10 2) Kp fun x13 =>
  loop1 (fun I1 m1 _ y8 =>
   opN Tryz.prog (sBin .lss 3 y8 (.int .i64 12)) Kp fun x15 =>
   condS x15
   (drS (stS Tryz.prog (sBin .add 3 v1 (.int .i64 3)) fun x19 =>
     stS Tryz.prog (sLen #[9] 3 [v0]) fun x21 =>
     stS Tryz.prog (sBin .leq 3 x19 x21) fun x22 =>
     gdK x22 true (fun k => k v0) fun x24 =>
     gdK x22 true (fun k => k v1) fun x25 =>
     gdK x22 true (fun k => k v1) fun x26 =>
     gdK x22 true (stS Tryz.prog (sBin .add 3 x26 (.int .i64 3))) fun x27 =>
     gdK x22 true (stS Tryz.prog (sSl 9 x24 (some x25) (some x27) none)) fun x28 =>
     gdK x22 true (fun k => k x13) fun x29 =>
     gdK x22 true (fun k => k y8) fun x30 =>
     gdK x22 true (stS Tryz.prog (sIA 66 x29 x30)) fun x31 =>
     gdK x22 true (stS Tryz.prog (sLoad 9 x31)) fun x32 =>
     gdK x22 true (stS Tryz.prog (sEq .eql 9 (.tmp 28) (.tmp 32) x28 x32)) fun x33 =>
     stS Tryz.prog (sPick x22 x33 (.bool false)) fun x34 =>
     condS x34
     (opN Tryz.prog (sBin .add 3 y8 (.int .i64 1)) Kp fun x36 =>
      K x36)
     (opN Tryz.prog (sBin .add 3 y8 (.int .i64 1)) Kp fun x17 =>
      next1 I1 m1 x17)))
   (K (.int .i64 0))) (.int .i64 0)
def ref09_month_an : Ann := { cuts := [], blks := [], loops := [(3, [8])], drs := [(5, [(0, 1), (1, 1), (2, 1), (3, 1), (4, 1), (5, 1), (6, 1), (7, 1), (8, 1), (9, 1), (10, 1), (11, 1), (12, 1), (13, 1), (14, 1), (15, 1), (16, 1)])] }
theorem ref09_month_eq (v0 v1 : Value) (Kp : PK) (K : Value → WP) : cevF Tryz.prog ref09_month_an Tryz.f65 [v0, v1] Kp K = ref09_month v0 v1 Kp K := by kernel_rfl
theorem ref09_month_calls {v0 v1 : Value} {Kp : PK} {K : Value → WP} {w : World} (h : ref09_month v0 v1 Kp K w) : Calls Tryz.prog 65 #[v0, v1] w (after Kp K) :=
  calls_of_shape (calls_of_cev wide Tryz.func65 (an := ref09_month_an) (args := [v0, v1]) (cast (congrFun (ref09_month_eq v0 v1 Kp K) w).symm h))
theorem ref09_month_cn {v0 v1 : Value} {W : World} {α : Type} {A : List HP} {r : α → Value} {B : α → List HP} (h : ∀ F, Ent W (A ++ F) (ref09_month v0 v1 noP fun v w => ∃ x, v = r x ∧ sat W (B x ++ F) w)) : Cn Tryz.prog 65 [v0, v1] W A r B :=
  Cn.of (shape := ref09_month v0 v1) Tryz.call65 (fun h => ref09_month_calls h) h
theorem ref09_month_cnP {v0 v1 : Value} {W : World} {α β : Type} {A : List HP} {r : α → Value} {B : α → List HP} {pc : β → List PanicEntry} {Bp : β → List HP} (h : ∀ F, Ent W (A ++ F) (ref09_month v0 v1 (fun ch w => ∃ y, ch = pc y ∧ sat W (Bp y ++ F) w) fun v w => ∃ x, v = r x ∧ sat W (B x ++ F) w)) : CnP Tryz.prog 65 [v0, v1] W A r B pc Bp :=
  CnP.of (shape := ref09_month v0 v1) Tryz.call65 (fun h => ref09_month_calls h) h

/-- ascii_Lower -/
def ascii_Lower (v0 : Value) (Kp : PK) (K : Value → WP) : WP :=
  opN Tryz.prog (sCall (fn 87) []) Kp fun x7 =>
  opN Tryz.prog (sAlloc 141) Kp fun x3 =>
  opN Tryz.prog (sStore 141 x3 x7) Kp fun _ =>
  opN Tryz.prog (sConv 9 95 v0) Kp fun x9 =>
  opN Tryz.prog (sLen #[95] 3 [x9]) Kp fun x11 =>
  loop1 (fun I1 m1 _ y12 =>
   opN Tryz.prog (sBin .lss 3 y12 x11) Kp fun x13 =>
   condS x13
   (opN Tryz.prog (sIA 95 x9 y12) Kp fun x15 =>
    opN Tryz.prog (sLoad 5 x15) Kp fun x16 =>
    opN Tryz.prog (sIA 141 x3 x16) Kp fun x18 =>
    opN Tryz.prog (sLoad 3 x18) Kp fun x19 =>
    opN Tryz.prog (sBin .and 3 x19 (.int .i64 4)) Kp fun x20 =>
    opN Tryz.prog (sEq .neq 3 (.tmp 20) (.const (.int .i64 0)) x20 (.int .i64 0)) Kp fun x21 =>
    condS x21
    (opN Tryz.prog (sBin .add 5 x16 (.int .u8 32)) Kp fun x25 =>
     opN Tryz.prog (sIA 95 x9 y12) Kp fun x26 =>
     opN Tryz.prog (sStore 5 x26 x25) Kp fun _ =>
     opN Tryz.prog (sBin .add 3 y12 (.int .i64 1)) Kp fun x27 =>
     next1 I1 m1 x27)
    (opN Tryz.prog (sBin .add 3 y12 (.int .i64 1)) Kp fun x27 =>
     next1 I1 m1 x27))
   (opN Tryz.prog (sConv 95 9 x9) Kp fun x29 =>
    K x29)) (.int .i64 0)
def ascii_Lower_an : Ann := { cuts := [], blks := [], loops := [(4, [12])], drs := [] }
theorem ascii_Lower_eq (v0 : Value) (Kp : PK) (K : Value → WP) : cevF Tryz.prog ascii_Lower_an Tryz.f66 [v0] Kp K = ascii_Lower v0 Kp K := by kernel_rfl
theorem ascii_Lower_calls {v0 : Value} {Kp : PK} {K : Value → WP} {w : World} (h : ascii_Lower v0 Kp K w) : Calls Tryz.prog 66 #[v0] w (after Kp K) :=
  calls_of_shape (calls_of_cev wide Tryz.func66 (an := ascii_Lower_an) (args := [v0]) (cast (congrFun (ascii_Lower_eq v0 Kp K) w).symm h))
theorem ascii_Lower_cn {v0 : Value} {W : World} {α : Type} {A : List HP} {r : α → Value} {B : α → List HP} (h : ∀ F, Ent W (A ++ F) (ascii_Lower v0 noP fun v w => ∃ x, v = r x ∧ sat W (B x ++ F) w)) : Cn Tryz.prog 66 [v0] W A r B :=
  Cn.of (shape := ascii_Lower v0) Tryz.call66 (fun h => ascii_Lower_calls h) h
theorem ascii_Lower_cnP {v0 : Value} {W : World} {α β : Type} {A : List HP} {r : α → Value} {B : α → List HP} {pc : β → List PanicEntry} {Bp : β → List HP} (h : ∀ F, Ent W (A ++ F) (ascii_Lower v0 (fun ch w => ∃ y, ch = pc y ∧ sat W (Bp y ++ F) w) fun v w => ∃ x, v = r x ∧ sat W (B x ++ F) w)) : CnP Tryz.prog 66 [v0] W A r B pc Bp :=
  CnP.of (shape := ascii_Lower v0) Tryz.call66 (fun h => ascii_Lower_calls h) h

/-- strings_Trim -/
def strings_Trim (v0 v1 : Value) (Kp : PK) (K : Value → WP) : WP :=
  opN Tryz.prog (sEq .eql 9 (.tmp 7) (.const (.string ⟨#[]⟩)) v0 (.string ⟨#[]⟩)) Kp fun x8 =>
  gdK x8 false (fun k => k v1) fun x10 =>
  gdK x8 false (opN Tryz.prog (sEq .eql 9 (.tmp 10) (.const (.string ⟨#[]⟩)) x10 (.string ⟨#[]⟩)) Kp) fun x11 =>
  opN Tryz.prog (sPick x8 (.bool true) x11) Kp fun x12 =>
  condS x12
  (K v0)
  (opN Tryz.prog (sLen #[9] 3 [v1]) Kp fun x15 =>
   opN Tryz.prog (sEq .eql 3 (.tmp 15) (.const (.int .i64 1)) x15 (.int .i64 1)) Kp fun x16 =>
   gdK x16 true (fun k => k v1) fun x18 =>
   gdK x16 true (opN Tryz.prog (sIx 9 x18 (.int .i64 0)) Kp) fun x19 =>
   gdK x16 true (opN Tryz.prog (sBin .lss 5 x19 (.int .u8 128)) Kp) fun x20 =>
   opN Tryz.prog (sPick x16 x20 (.bool false)) Kp fun x21 =>
   condS x21
   (drS (stS Tryz.prog (sIx 9 v1 (.int .i64 0)) fun x24 =>
     stD Tryz.prog (sIx 9 v1 (.int .i64 0)) fun D5 x27 =>
     opN Tryz.prog (sCall (fn 89) [v0, x24]) Kp fun x25 =>
     (fun w => D5 w ∧ (opN Tryz.prog (sCall (fn 88) [x25, x27]) Kp fun x28 =>
       K x28) w)))
   (opN Tryz.prog (sCall (fn 90) [v1]) Kp fun x31 =>
    opN Tryz.prog (sExt x31 0) Kp fun x32 =>
    opN Tryz.prog (sExt x31 1) Kp fun x33 =>
    opN Tryz.prog (sAlloc 145) Kp fun x5 =>
    opN Tryz.prog (sStore 145 x5 x32) Kp fun _ =>
    condS x33
    (opN Tryz.prog (sCall (fn 92) [v0, x5]) Kp fun x36 =>
     opN Tryz.prog (sCall (fn 91) [x36, x5]) Kp fun x37 =>
     K x37)
    (opN Tryz.prog (sCall (fn 94) [v0, v1]) Kp fun x40 =>
     opN Tryz.prog (sCall (fn 93) [x40, v1]) Kp fun x42 =>
     K x42)))
def strings_Trim_an : Ann := { cuts := [], blks := [], loops := [], drs := [(4, [(0, 1), (1, 1), (2, 1), (4, 2), (5, 3), (3, 0), (6, 0), (7, 1)])] }
theorem strings_Trim_eq (v0 v1 : Value) (Kp : PK) (K : Value → WP) : cevF Tryz.prog strings_Trim_an Tryz.f67 [v0, v1] Kp K = strings_Trim v0 v1 Kp K := by kernel_rfl
theorem strings_Trim_calls {v0 v1 : Value} {Kp : PK} {K : Value → WP} {w : World} (h : strings_Trim v0 v1 Kp K w) : Calls Tryz.prog 67 #[v0, v1] w (after Kp K) :=
  calls_of_shape (calls_of_cev wide Tryz.func67 (an := strings_Trim_an) (args := [v0, v1]) (cast (congrFun (strings_Trim_eq v0 v1 Kp K) w).symm h))
theorem strings_Trim_cn {v0 v1 : Value} {W : World} {α : Type} {A : List HP} {r : α → Value} {B : α → List HP} (h : ∀ F, Ent W (A ++ F) (strings_Trim v0 v1 noP fun v w => ∃ x, v = r x ∧ sat W (B x ++ F) w)) : Cn Tryz.prog 67 [v0, v1] W A r B :=
  Cn.of (shape := strings_Trim v0 v1) Tryz.call67 (fun h => strings_Trim_calls h) h
theorem strings_Trim_cnP {v0 v1 : Value} {W : World} {α β : Type} {A : List HP} {r : α → Value} {B : α → List HP} {pc : β → List PanicEntry} {Bp : β → List HP} (h : ∀ F, Ent W (A ++ F) (strings_Trim v0 v1 (fun ch w => ∃ y, ch = pc y ∧ sat W (Bp y ++ F) w) fun v w => ∃ x, v = r x ∧ sat W (B x ++ F) w)) : CnP Tryz.prog 67 [v0, v1] W A r B pc Bp :=
  CnP.of (shape := strings_Trim v0 v1) Tryz.call67 (fun h => strings_Trim_calls h) h

/-- fields_kind_fields_Tag_elements -/
def fields_kind_fields_Tag_elements (v0 v1 : Value) (Kp : PK) (K : Value → WP) : WP :=
  opN Tryz.prog (sBox 93 v0) Kp fun x2 =>
  opN Tryz.prog (sBox 9 v1) Kp fun x3 =>
  opN Tryz.prog (sMkF (.func 95) [] [x3, x2]) Kp fun x5 =>
  K x5
def fields_kind_fields_Tag_elements_an : Ann := { cuts := [], blks := [], loops := [], drs := [] }
theorem fields_kind_fields_Tag_elements_eq (v0 v1 : Value) (Kp : PK) (K : Value → WP) : cevF Tryz.prog fields_kind_fields_Tag_elements_an Tryz.f68 [v0, v1] Kp K = fields_kind_fields_Tag_elements v0 v1 Kp K := by kernel_rfl
theorem fields_kind_fields_Tag_elements_calls {v0 v1 : Value} {Kp : PK} {K : Value → WP} {w : World} (h : fields_kind_fields_Tag_elements v0 v1 Kp K w) : Calls Tryz.prog 68 #[v0, v1] w (after Kp K) :=
  calls_of_shape (calls_of_cev wide Tryz.func68 (an := fields_kind_fields_Tag_elements_an) (args := [v0, v1]) (cast (congrFun (fields_kind_fields_Tag_elements_eq v0 v1 Kp K) w).symm h))
theorem fields_kind_fields_Tag_elements_cn {v0 v1 : Value} {W : World} {α : Type} {A : List HP} {r : α → Value} {B : α → List HP} (h : ∀ F, Ent W (A ++ F) (fields_kind_fields_Tag_elements v0 v1 noP fun v w => ∃ x, v = r x ∧ sat W (B x ++ F) w)) : Cn Tryz.prog 68 [v0, v1] W A r B :=
  Cn.of (shape := fields_kind_fields_Tag_elements v0 v1) Tryz.call68 (fun h => fields_kind_fields_Tag_elements_calls h) h
theorem fields_kind_fields_Tag_elements_cnP {v0 v1 : Value} {W : World} {α β : Type} {A : List HP} {r : α → Value} {B : α → List HP} {pc : β → List PanicEntry} {Bp : β → List HP} (h : ∀ F, Ent W (A ++ F) (fields_kind_fields_Tag_elements v0 v1 (fun ch w => ∃ y, ch = pc y ∧ sat W (Bp y ++ F) w) fun v w => ∃ x, v = r x ∧ sat W (B x ++ F) w)) : CnP Tryz.prog 68 [v0, v1] W A r B pc Bp :=
  CnP.of (shape := fields_kind_fields_Tag_elements v0 v1) Tryz.call68 (fun h => fields_kind_fields_Tag_elements_calls h) h

/-- strings_Builder_grow -/
def strings_Builder_grow (v0 v1 : Value) (Kp : PK) (K : Value → WP) : WP :=
  drS (stS Tryz.prog (sNil v0) fun x6 =>
   stS Tryz.prog (sFA 97 x6 1) fun x7 =>
   stS Tryz.prog (sLoad 95 x7) fun x8 =>
   stS Tryz.prog (sCap #[95] 3 [x8]) fun x9 =>
   stS Tryz.prog (sBin .mul 3 (.int .i64 2) x9) fun x10 =>
   stS Tryz.prog (sBin .add 3 x10 v1) fun x12 =>
   stD Tryz.prog (sNil v0) fun D10 x15 =>
   stD Tryz.prog (sFA 97 x15 1) fun D11 x16 =>
   stD Tryz.prog (sLoad 95 x16) fun D12 x17 =>
   stD Tryz.prog (sLen #[95] 3 [x17]) fun D13 x18 =>
   opN Tryz.prog (sCall (fn 97) [x12]) Kp fun x13 =>
   (fun w => D13 w ∧ (fun w => D12 w ∧ (fun w => D11 w ∧ (fun w => D10 w ∧ (stS Tryz.prog (sSl 95 x13 none (some x18) none) fun x19 =>
        opN Tryz.prog (sNil v0) Kp fun x22 =>
        opN Tryz.prog (sFA 97 x22 1) Kp fun x23 =>
        opN Tryz.prog (sLoad 95 x23) Kp fun x24 =>
        opN Tryz.prog (sCopy #[95, 95] 3 [x19, x24]) Kp fun x25 =>
        opN Tryz.prog (sNil v0) Kp fun x28 =>
        opN Tryz.prog (sFA 97 x28 1) Kp fun x29 =>
        opN Tryz.prog (sStore 95 x29 x19) Kp fun _ =>
        K (.tuple #[])) w) w) w) w))
def strings_Builder_grow_an : Ann := { cuts := [], blks := [], loops := [], drs := [(0, [(0, 1), (1, 1), (2, 1), (3, 1), (4, 1), (5, 1), (6, 1), (7, 1), (9, 2), (10, 3), (11, 3), (12, 3), (13, 3), (8, 0), (14, 1), (15, 1)])] }
theorem strings_Builder_grow_eq (v0 v1 : Value) (Kp : PK) (K : Value → WP) : cevF Tryz.prog strings_Builder_grow_an Tryz.f70 [v0, v1] Kp K = strings_Builder_grow v0 v1 Kp K := by kernel_rfl
theorem strings_Builder_grow_calls {v0 v1 : Value} {Kp : PK} {K : Value → WP} {w : World} (h : strings_Builder_grow v0 v1 Kp K w) : Calls Tryz.prog 70 #[v0, v1] w (after Kp K) :=
  calls_of_shape (calls_of_cev wide Tryz.func70 (an := strings_Builder_grow_an) (args := [v0, v1]) (cast (congrFun (strings_Builder_grow_eq v0 v1 Kp K) w).symm h))
theorem strings_Builder_grow_cn {v0 v1 : Value} {W : World} {α : Type} {A : List HP} {r : α → Value} {B : α → List HP} (h : ∀ F, Ent W (A ++ F) (strings_Builder_grow v0 v1 noP fun v w => ∃ x, v = r x ∧ sat W (B x ++ F) w)) : Cn Tryz.prog 70 [v0, v1] W A r B :=
  Cn.of (shape := strings_Builder_grow v0 v1) Tryz.call70 (fun h => strings_Builder_grow_calls h) h
theorem strings_Builder_grow_cnP {v0 v1 : Value} {W : World} {α β : Type} {A : List HP} {r : α → Value} {B : α → List HP} {pc : β → List PanicEntry} {Bp : β → List HP} (h : ∀ F, Ent W (A ++ F) (strings_Builder_grow v0 v1 (fun ch w => ∃ y, ch = pc y ∧ sat W (Bp y ++ F) w) fun v w => ∃ x, v = r x ∧ sat W (B x ++ F) w)) : CnP Tryz.prog 70 [v0, v1] W A r B pc Bp :=
  CnP.of (shape := strings_Builder_grow v0 v1) Tryz.call70 (fun h => strings_Builder_grow_calls h) h

/-- ref01_Lower -/
def ref01_Lower (v0 : Value) (Kp : PK) (K : Value → WP) : WP :=
  opN Tryz.prog (sConv 9 95 v0) Kp fun x6 =>
  loop1 (fun I1 m1 _ y4 =>
   opN Tryz.prog (sLen #[95] 3 [x6]) Kp fun x9 =>
   opN Tryz.prog (sBin .lss 3 y4 x9) Kp fun x10 =>
   condS x10
   (opN Tryz.prog (sIA 95 x6 y4) Kp fun x15 =>
    opN Tryz.prog (sLoad 5 x15) Kp fun x16 =>
    opN Tryz.prog (sBin .geq 5 x16 (.int .u8 65)) Kp fun x17 =>
    gdK x17 true (fun k => k x6) fun x19 =>
    gdK x17 true (fun k => k y4) fun x20 =>
    gdK x17 true (opN Tryz.prog (sIA 95 x19 x20) Kp) fun x21 =>
    gdK x17 true (opN Tryz.prog (sLoad 5 x21) Kp) fun x22 =>
    gdK x17 true (opN Tryz.prog (sBin .leq 5 x22 (.int .u8 90)) Kp) fun x23 =>
    opN Tryz.prog (sPick x17 x23 (.bool false)) Kp fun x24 =>
    condS x24
    (opN Tryz.prog (sIA 95 x6 y4) Kp fun x29 =>
     opN Tryz.prog (sLoad 5 x29) Kp fun x30 =>
     opN Tryz.prog (sBin .add 5 x30 (.int .u8 32)) Kp fun x31 =>
     opN Tryz.prog (sIA 95 x6 y4) Kp fun x32 =>
     opN Tryz.prog (sStore 5 x32 x31) Kp fun _ =>
     opN Tryz.prog (sBin .add 3 y4 (.int .i64 1)) Kp fun x12 =>
     next1 I1 m1 x12)
    (opN Tryz.prog (sBin .add 3 y4 (.int .i64 1)) Kp fun x12 =>
     next1 I1 m1 x12))
   (opN Tryz.prog (sConv 95 9 x6) Kp fun x34 =>
    K x34)) (.int .i64 0)
def ref01_Lower_an : Ann := { cuts := [], blks := [], loops := [(3, [4])], drs := [] }
theorem ref01_Lower_eq (v0 : Value) (Kp : PK) (K : Value → WP) : cevF Tryz.prog ref01_Lower_an Tryz.f71 [v0] Kp K = ref01_Lower v0 Kp K := by kernel_rfl
theorem ref01_Lower_calls {v0 : Value} {Kp : PK} {K : Value → WP} {w : World} (h : ref01_Lower v0 Kp K w) : Calls Tryz.prog 71 #[v0] w (after Kp K) :=
  calls_of_shape (calls_of_cev wide Tryz.func71 (an := ref01_Lower_an) (args := [v0]) (cast (congrFun (ref01_Lower_eq v0 Kp K) w).symm h))
theorem ref01_Lower_cn {v0 : Value} {W : World} {α : Type} {A : List HP} {r : α → Value} {B : α → List HP} (h : ∀ F, Ent W (A ++ F) (ref01_Lower v0 noP fun v w => ∃ x, v = r x ∧ sat W (B x ++ F) w)) : Cn Tryz.prog 71 [v0] W A r B :=
  Cn.of (shape := ref01_Lower v0) Tryz.call71 (fun h => ref01_Lower_calls h) h
theorem ref01_Lower_cnP {v0 : Value} {W : World} {α β : Type} {A : List HP} {r : α → Value} {B : α → List HP} {pc : β → List PanicEntry} {Bp : β → List HP} (h : ∀ F, Ent W (A ++ F) (ref01_Lower v0 (fun ch w => ∃ y, ch = pc y ∧ sat W (Bp y ++ F) w) fun v w => ∃ x, v = r x ∧ sat W (B x ++ F) w)) : CnP Tryz.prog 71 [v0] W A r B pc Bp :=
  CnP.of (shape := ref01_Lower v0) Tryz.call71 (fun h => ref01_Lower_calls h) h

/-- ref01_blank -/
def ref01_blank (v0 : Value) (Kp : PK) (K : Value → WP) : WP :=
  opN Tryz.prog (sEq .eql 5 (.tmp 3) (.const (.int .u8 9)) v0 (.int .u8 9)) Kp fun x4 =>
  gdK x4 false (fun k => k v0) fun x6 =>
  gdK x4 false (opN Tryz.prog (sEq .eql 5 (.tmp 6) (.const (.int .u8 32)) x6 (.int .u8 32)) Kp) fun x7 =>
  opN Tryz.prog (sPick x4 (.bool true) x7) Kp fun x8 =>
  K x8
def ref01_blank_an : Ann := { cuts := [], blks := [], loops := [], drs := [] }
theorem ref01_blank_eq (v0 : Value) (Kp : PK) (K : Value → WP) : cevF Tryz.prog ref01_blank_an Tryz.f72 [v0] Kp K = ref01_blank v0 Kp K := by kernel_rfl
theorem ref01_blank_calls {v0 : Value} {Kp : PK} {K : Value → WP} {w : World} (h : ref01_blank v0 Kp K w) : Calls Tryz.prog 72 #[v0] w (after Kp K) :=
  calls_of_shape (calls_of_cev wide Tryz.func72 (an := ref01_blank_an) (args := [v0]) (cast (congrFun (ref01_blank_eq v0 Kp K) w).symm h))
theorem ref01_blank_cn {v0 : Value} {W : World} {α : Type} {A : List HP} {r : α → Value} {B : α → List HP} (h : ∀ F, Ent W (A ++ F) (ref01_blank v0 noP fun v w => ∃ x, v = r x ∧ sat W (B x ++ F) w)) : Cn Tryz.prog 72 [v0] W A r B :=
  Cn.of (shape := ref01_blank v0) Tryz.call72 (fun h => ref01_blank_calls h) h
theorem ref01_blank_cnP {v0 : Value} {W : World} {α β : Type} {A : List HP} {r : α → Value} {B : α → List HP} {pc : β → List PanicEntry} {Bp : β → List HP} (h : ∀ F, Ent W (A ++ F) (ref01_blank v0 (fun ch w => ∃ y, ch = pc y ∧ sat W (Bp y ++ F) w) fun v w => ∃ x, v = r x ∧ sat W (B x ++ F) w)) : CnP Tryz.prog 72 [v0] W A r B pc Bp :=
  CnP.of (shape := ref01_blank v0) Tryz.call72 (fun h => ref01_blank_calls h) h

/-- stringslite_CutPrefix -/
def stringslite_CutPrefix (v0 v1 : Value) (Kp : PK) (K : Value → WP) : WP :=
  opN Tryz.prog (sCall (fn 98) [v0, v1]) Kp fun x8 =>
  opN Tryz.prog (sUn .not x8) Kp fun x9 =>
  condS x9
  (K (.tuple #[v0, (.bool false)]))
  (opN Tryz.prog (sLen #[9] 3 [v1]) Kp fun x13 =>
   opN Tryz.prog (sSl 9 v0 (some x13) none none) Kp fun x14 =>
   K (.tuple #[x14, (.bool true)]))
def stringslite_CutPrefix_an : Ann := { cuts := [], blks := [], loops := [], drs := [] }
theorem stringslite_CutPrefix_eq (v0 v1 : Value) (Kp : PK) (K : Value → WP) : cevF Tryz.prog stringslite_CutPrefix_an Tryz.f73 [v0, v1] Kp K = stringslite_CutPrefix v0 v1 Kp K := by kernel_rfl
theorem stringslite_CutPrefix_calls {v0 v1 : Value} {Kp : PK} {K : Value → WP} {w : World} (h : stringslite_CutPrefix v0 v1 Kp K w) : Calls Tryz.prog 73 #[v0, v1] w (after Kp K) :=
  calls_of_shape (calls_of_cev wide Tryz.func73 (an := stringslite_CutPrefix_an) (args := [v0, v1]) (cast (congrFun (stringslite_CutPrefix_eq v0 v1 Kp K) w).symm h))
theorem stringslite_CutPrefix_cn {v0 v1 : Value} {W : World} {α : Type} {A : List HP} {r : α → Value} {B : α → List HP} (h : ∀ F, Ent W (A ++ F) (stringslite_CutPrefix v0 v1 noP fun v w => ∃ x, v = r x ∧ sat W (B x ++ F) w)) : Cn Tryz.prog 73 [v0, v1] W A r B :=
  Cn.of (shape := stringslite_CutPrefix v0 v1) Tryz.call73 (fun h => stringslite_CutPrefix_calls h) h
theorem stringslite_CutPrefix_cnP {v0 v1 : Value} {W : World} {α β : Type} {A : List HP} {r : α → Value} {B : α → List HP} {pc : β → List PanicEntry} {Bp : β → List HP} (h : ∀ F, Ent W (A ++ F) (stringslite_CutPrefix v0 v1 (fun ch w => ∃ y, ch = pc y ∧ sat W (Bp y ++ F) w) fun v w => ∃ x, v = r x ∧ sat W (B x ++ F) w)) : CnP Tryz.prog 73 [v0, v1] W A r B pc Bp :=
  CnP.of (shape := stringslite_CutPrefix v0 v1) Tryz.call73 (fun h => stringslite_CutPrefix_calls h) h

/-- dates_months -/
def dates_months (Kp : PK) (K : Value → WP) : WP :=
  opN Tryz.prog (sAlloc 129) Kp fun x0 =>
  opN Tryz.prog (sBuild 129 [(0, (.string ⟨#[74, 97, 110]⟩)), (1, (.string ⟨#[70, 101, 98]⟩)), (2, (.string ⟨#[77, 97, 114]⟩)), (3, (.string ⟨#[65, 112, 114]⟩)), (4, (.string ⟨#[77, 97, 121]⟩)), (5, (.string ⟨#[74, 117, 110]⟩)), (6, (.string ⟨#[74, 117, 108]⟩)), (7, (.string ⟨#[65, 117, 103]⟩)), (8, (.string ⟨#[83, 101, 112]⟩)), (9, (.string ⟨#[79, 99, 116]⟩)), (10, (.string ⟨#[78, 111, 118]⟩)), (11, (.string ⟨#[68, 101, 99]⟩))]) Kp fun x1 =>
  opN Tryz.prog (sStore 129 x0 x1) Kp fun _ =>
  (stS Tryz.prog (sRes 129 x0) fun r0 => K r0)
def dates_months_an : Ann := { cuts := [], blks := [], loops := [], drs := [] }
theorem dates_months_eq (Kp : PK) (K : Value → WP) : cevF Tryz.prog dates_months_an Tryz.f74 [] Kp K = dates_months Kp K := by kernel_rfl
theorem dates_months_calls  {Kp : PK} {K : Value → WP} {w : World} (h : dates_months Kp K w) : Calls Tryz.prog 74 #[] w (after Kp K) :=
  calls_of_shape (calls_of_cev wide Tryz.func74 (an := dates_months_an) (args := []) (cast (congrFun (dates_months_eq Kp K) w).symm h))
theorem dates_months_cn  {W : World} {α : Type} {A : List HP} {r : α → Value} {B : α → List HP} (h : ∀ F, Ent W (A ++ F) (dates_months noP fun v w => ∃ x, v = r x ∧ sat W (B x ++ F) w)) : Cn Tryz.prog 74 [] W A r B :=
  Cn.of (shape := dates_months) Tryz.call74 (fun h => dates_months_calls h) h
theorem dates_months_cnP  {W : World} {α β : Type} {A : List HP} {r : α → Value} {B : α → List HP} {pc : β → List PanicEntry} {Bp : β → List HP} (h : ∀ F, Ent W (A ++ F) (dates_months (fun ch w => ∃ y, ch = pc y ∧ sat W (Bp y ++ F) w) fun v w => ∃ x, v = r x ∧ sat W (B x ++ F) w)) : CnP Tryz.prog 74 [] W A r B pc Bp :=
  CnP.of (shape := dates_months) Tryz.call74 (fun h => dates_months_calls h) h

/-- stringslite_IndexByte -/
def stringslite_IndexByte (v0 v1 : Value) (Kp : PK) (K : Value → WP) : WP :=
  opN Tryz.prog (sCall (fn 99) [v0, v1]) Kp fun x7 =>
  K x7
def stringslite_IndexByte_an : Ann := { cuts := [], blks := [], loops := [], drs := [] }
theorem stringslite_IndexByte_eq (v0 v1 : Value) (Kp : PK) (K : Value → WP) : cevF Tryz.prog stringslite_IndexByte_an Tryz.f75 [v0, v1] Kp K = stringslite_IndexByte v0 v1 Kp K := by kernel_rfl
theorem stringslite_IndexByte_calls {v0 v1 : Value} {Kp : PK} {K : Value → WP} {w : World} (h : stringslite_IndexByte v0 v1 Kp K w) : Calls Tryz.prog 75 #[v0, v1] w (after Kp K) :=
  calls_of_shape (calls_of_cev wide Tryz.func75 (an := stringslite_IndexByte_an) (args := [v0, v1]) (cast (congrFun (stringslite_IndexByte_eq v0 v1 Kp K) w).symm h))
theorem stringslite_IndexByte_cn {v0 v1 : Value} {W : World} {α : Type} {A : List HP} {r : α → Value} {B : α → List HP} (h : ∀ F, Ent W (A ++ F) (stringslite_IndexByte v0 v1 noP fun v w => ∃ x, v = r x ∧ sat W (B x ++ F) w)) : Cn Tryz.prog 75 [v0, v1] W A r B :=
  Cn.of (shape := stringslite_IndexByte v0 v1) Tryz.call75 (fun h => stringslite_IndexByte_calls h) h
theorem stringslite_IndexByte_cnP {v0 v1 : Value} {W : World} {α β : Type} {A : List HP} {r : α → Value} {B : α → List HP} {pc : β → List PanicEntry} {Bp : β → List HP} (h : ∀ F, Ent W (A ++ F) (stringslite_IndexByte v0 v1 (fun ch w => ∃ y, ch = pc y ∧ sat W (Bp y ++ F) w) fun v w => ∃ x, v = r x ∧ sat W (B x ++ F) w)) : CnP Tryz.prog 75 [v0, v1] W A r B pc Bp :=
  CnP.of (shape := stringslite_IndexByte v0 v1) Tryz.call75 (fun h => stringslite_IndexByte_calls h) h

/-- dates_civil -/
def dates_civil (v0 : Value) (Kp : PK) (K : Value → WP) : WP :=
  opN Tryz.prog (sBin .add 3 v0 (.int .i64 719468)) Kp fun x11 =>
  opN Tryz.prog (sBin .quo 3 x11 (.int .i64 146097)) Kp fun x13 =>
  opN Tryz.prog (sBin .rem 3 x11 (.int .i64 146097)) Kp fun x15 =>
  opN Tryz.prog (sBin .quo 3 x15 (.int .i64 1460)) Kp fun x18 =>
  opN Tryz.prog (sBin .sub 3 x15 x18) Kp fun x19 =>
  opN Tryz.prog (sBin .quo 3 x15 (.int .i64 36524)) Kp fun x21 =>
  opN Tryz.prog (sBin .add 3 x19 x21) Kp fun x22 =>
  opN Tryz.prog (sBin .quo 3 x15 (.int .i64 146096)) Kp fun x24 =>
  opN Tryz.prog (sBin .sub 3 x22 x24) Kp fun x25 =>
  opN Tryz.prog (sBin .quo 3 x25 (.int .i64 365)) Kp fun x26 =>
  opN Tryz.prog (sBin .mul 3 (.int .i64 365) x26) Kp fun x29 =>
  opN Tryz.prog (sBin .quo 3 x26 (.int .i64 4)) Kp fun x31 =>
  opN Tryz.prog (sBin .add 3 x29 x31) Kp fun x32 =>
  opN Tryz.prog (sBin .quo 3 x26 (.int .i64 100)) Kp fun x34 =>
  opN Tryz.prog (sBin .sub 3 x32 x34) Kp fun x35 =>
  opN Tryz.prog (sBin .sub 3 x15 x35) Kp fun x36 =>
  opN Tryz.prog (sBin .mul 3 (.int .i64 5) x36) Kp fun x38 =>
  opN Tryz.prog (sBin .add 3 x38 (.int .i64 2)) Kp fun x39 =>
  opN Tryz.prog (sBin .quo 3 x39 (.int .i64 153)) Kp fun x40 =>
  opN Tryz.prog (sBin .mul 3 x13 (.int .i64 400)) Kp fun x42 =>
  opN Tryz.prog (sBin .add 3 x42 x26) Kp fun x44 =>
  opN Tryz.prog (sBin .add 3 x40 (.int .i64 2)) Kp fun x46 =>
  opN Tryz.prog (sBin .rem 3 x46 (.int .i64 12)) Kp fun x47 =>
  opN Tryz.prog (sBin .add 3 x47 (.int .i64 1)) Kp fun x48 =>
  opN Tryz.prog (sBin .mul 3 (.int .i64 153) x40) Kp fun x51 =>
  opN Tryz.prog (sBin .add 3 x51 (.int .i64 2)) Kp fun x52 =>
  opN Tryz.prog (sBin .quo 3 x52 (.int .i64 5)) Kp fun x53 =>
  opN Tryz.prog (sBin .sub 3 x36 x53) Kp fun x54 =>
  opN Tryz.prog (sBin .add 3 x54 (.int .i64 1)) Kp fun x55 =>
  cut1 (fun J1 =>
   opN Tryz.prog (sBin .leq 3 x48 (.int .i64 2)) Kp fun x57 =>
   condS x57
   (opN Tryz.prog (sBin .add 3 x44 (.int .i64 1)) Kp fun x59 =>
    J1 x59)
   (J1 x44)) fun _ z2 =>
  K (.tuple #[z2, x48, x55])
def dates_civil_an : Ann := { cuts := [(9, [2])], blks := [], loops := [], drs := [] }
theorem dates_civil_eq (v0 : Value) (Kp : PK) (K : Value → WP) : cevF Tryz.prog dates_civil_an Tryz.f76 [v0] Kp K = dates_civil v0 Kp K := by kernel_rfl
theorem dates_civil_calls {v0 : Value} {Kp : PK} {K : Value → WP} {w : World} (h : dates_civil v0 Kp K w) : Calls Tryz.prog 76 #[v0] w (after Kp K) :=
  calls_of_shape (calls_of_cev wide Tryz.func76 (an := dates_civil_an) (args := [v0]) (cast (congrFun (dates_civil_eq v0 Kp K) w).symm h))
theorem dates_civil_cn {v0 : Value} {W : World} {α : Type} {A : List HP} {r : α → Value} {B : α → List HP} (h : ∀ F, Ent W (A ++ F) (dates_civil v0 noP fun v w => ∃ x, v = r x ∧ sat W (B x ++ F) w)) : Cn Tryz.prog 76 [v0] W A r B :=
  Cn.of (shape := dates_civil v0) Tryz.call76 (fun h => dates_civil_calls h) h
theorem dates_civil_cnP {v0 : Value} {W : World} {α β : Type} {A : List HP} {r : α → Value} {B : α → List HP} {pc : β → List PanicEntry} {Bp : β → List HP} (h : ∀ F, Ent W (A ++ F) (dates_civil v0 (fun ch w => ∃ y, ch = pc y ∧ sat W (Bp y ++ F) w) fun v w => ∃ x, v = r x ∧ sat W (B x ++ F) w)) : CnP Tryz.prog 76 [v0] W A r B pc Bp :=
  CnP.of (shape := dates_civil v0) Tryz.call76 (fun h => dates_civil_calls h) h

/-- dates_Join_1 -/
def dates_Join_1 (v0 v1 v2 : Value) (Kp : PK) (K : Value → WP) : WP :=
  opN Tryz.prog (sBin .geq 3 v0 v1) Kp fun x9 =>
  gdK x9 true (fun k => k v0) fun x11 =>
  gdK x9 true (fun k => k v2) fun x12 =>
  gdK x9 true (opN Tryz.prog (sBin .leq 3 x11 x12) Kp) fun x13 =>
  opN Tryz.prog (sPick x9 x13 (.bool false)) Kp fun x14 =>
  K x14
def dates_Join_1_an : Ann := { cuts := [], blks := [], loops := [], drs := [] }
theorem dates_Join_1_eq (v0 v1 v2 : Value) (Kp : PK) (K : Value → WP) : cevF Tryz.prog dates_Join_1_an Tryz.f77 [v0, v1, v2] Kp K = dates_Join_1 v0 v1 v2 Kp K := by kernel_rfl
theorem dates_Join_1_calls {v0 v1 v2 : Value} {Kp : PK} {K : Value → WP} {w : World} (h : dates_Join_1 v0 v1 v2 Kp K w) : Calls Tryz.prog 77 #[v0, v1, v2] w (after Kp K) :=
  calls_of_shape (calls_of_cev wide Tryz.func77 (an := dates_Join_1_an) (args := [v0, v1, v2]) (cast (congrFun (dates_Join_1_eq v0 v1 v2 Kp K) w).symm h))
theorem dates_Join_1_cn {v0 v1 v2 : Value} {W : World} {α : Type} {A : List HP} {r : α → Value} {B : α → List HP} (h : ∀ F, Ent W (A ++ F) (dates_Join_1 v0 v1 v2 noP fun v w => ∃ x, v = r x ∧ sat W (B x ++ F) w)) : Cn Tryz.prog 77 [v0, v1, v2] W A r B :=
  Cn.of (shape := dates_Join_1 v0 v1 v2) Tryz.call77 (fun h => dates_Join_1_calls h) h
theorem dates_Join_1_cnP {v0 v1 v2 : Value} {W : World} {α β : Type} {A : List HP} {r : α → Value} {B : α → List HP} {pc : β → List PanicEntry} {Bp : β → List HP} (h : ∀ F, Ent W (A ++ F) (dates_Join_1 v0 v1 v2 (fun ch w => ∃ y, ch = pc y ∧ sat W (Bp y ++ F) w) fun v w => ∃ x, v = r x ∧ sat W (B x ++ F) w)) : CnP Tryz.prog 77 [v0, v1, v2] W A r B pc Bp :=
  CnP.of (shape := dates_Join_1 v0 v1 v2) Tryz.call77 (fun h => dates_Join_1_calls h) h

/-- dates_days -/
def dates_days (v0 v1 v2 : Value) (Kp : PK) (K : Value → WP) : WP :=
  cut1 (fun J1 =>
   opN Tryz.prog (sBin .leq 3 v1 (.int .i64 2)) Kp fun x11 =>
   condS x11
   (opN Tryz.prog (sBin .sub 3 v0 (.int .i64 1)) Kp fun x13 =>
    J1 x13)
   (J1 v0)) fun _ z0 =>
  opN Tryz.prog (sBin .quo 3 z0 (.int .i64 400)) Kp fun x15 =>
  opN Tryz.prog (sBin .rem 3 z0 (.int .i64 400)) Kp fun x17 =>
  opN Tryz.prog (sBin .add 3 v1 (.int .i64 9)) Kp fun x19 =>
  opN Tryz.prog (sBin .rem 3 x19 (.int .i64 12)) Kp fun x20 =>
  opN Tryz.prog (sBin .mul 3 (.int .i64 153) x20) Kp fun x21 =>
  opN Tryz.prog (sBin .add 3 x21 (.int .i64 2)) Kp fun x22 =>
  opN Tryz.prog (sBin .quo 3 x22 (.int .i64 5)) Kp fun x23 =>
  opN Tryz.prog (sBin .add 3 x23 v2) Kp fun x25 =>
  opN Tryz.prog (sBin .sub 3 x25 (.int .i64 1)) Kp fun x26 =>
  opN Tryz.prog (sBin .mul 3 x15 (.int .i64 146097)) Kp fun x28 =>
  opN Tryz.prog (sBin .mul 3 x17 (.int .i64 365)) Kp fun x30 =>
  opN Tryz.prog (sBin .add 3 x28 x30) Kp fun x31 =>
  opN Tryz.prog (sBin .quo 3 x17 (.int .i64 4)) Kp fun x33 =>
  opN Tryz.prog (sBin .add 3 x31 x33) Kp fun x34 =>
  opN Tryz.prog (sBin .quo 3 x17 (.int .i64 100)) Kp fun x36 =>
  opN Tryz.prog (sBin .sub 3 x34 x36) Kp fun x37 =>
  opN Tryz.prog (sBin .add 3 x37 x26) Kp fun x39 =>
  opN Tryz.prog (sBin .sub 3 x39 (.int .i64 719468)) Kp fun x40 =>
  K x40
def dates_days_an : Ann := { cuts := [(3, [0])], blks := [], loops := [], drs := [] }
theorem dates_days_eq (v0 v1 v2 : Value) (Kp : PK) (K : Value → WP) : cevF Tryz.prog dates_days_an Tryz.f78 [v0, v1, v2] Kp K = dates_days v0 v1 v2 Kp K := by kernel_rfl
theorem dates_days_calls {v0 v1 v2 : Value} {Kp : PK} {K : Value → WP} {w : World} (h : dates_days v0 v1 v2 Kp K w) : Calls Tryz.prog 78 #[v0, v1, v2] w (after Kp K) :=
  calls_of_shape (calls_of_cev wide Tryz.func78 (an := dates_days_an) (args := [v0, v1, v2]) (cast (congrFun (dates_days_eq v0 v1 v2 Kp K) w).symm h))
theorem dates_days_cn {v0 v1 v2 : Value} {W : World} {α : Type} {A : List HP} {r : α → Value} {B : α → List HP} (h : ∀ F, Ent W (A ++ F) (dates_days v0 v1 v2 noP fun v w => ∃ x, v = r x ∧ sat W (B x ++ F) w)) : Cn Tryz.prog 78 [v0, v1, v2] W A r B :=
  Cn.of (shape := dates_days v0 v1 v2) Tryz.call78 (fun h => dates_days_calls h) h
theorem dates_days_cnP {v0 v1 v2 : Value} {W : World} {α β : Type} {A : List HP} {r : α → Value} {B : α → List HP} {pc : β → List PanicEntry} {Bp : β → List HP} (h : ∀ F, Ent W (A ++ F) (dates_days v0 v1 v2 (fun ch w => ∃ y, ch = pc y ∧ sat W (Bp y ++ F) w) fun v w => ∃ x, v = r x ∧ sat W (B x ++ F) w)) : CnP Tryz.prog 78 [v0, v1, v2] W A r B pc Bp :=
  CnP.of (shape := dates_days v0 v1 v2) Tryz.call78 (fun h => dates_days_calls h) h

/-- dates_weekdays -/
def dates_weekdays (Kp : PK) (K : Value → WP) : WP :=
  opN Tryz.prog (sAlloc 135) Kp fun x0 =>
  opN Tryz.prog (sBuild 135 [(0, (.string ⟨#[83, 117, 110, 100, 97, 121]⟩)), (1, (.string ⟨#[77, 111, 110, 100, 97, 121]⟩)), (2, (.string ⟨#[84, 117, 101, 115, 100, 97, 121]⟩)), (3, (.string ⟨#[87, 101, 100, 110, 101, 115, 100, 97, 121]⟩)), (4, (.string ⟨#[84, 104, 117, 114, 115, 100, 97, 121]⟩)), (5, (.string ⟨#[70, 114, 105, 100, 97, 121]⟩)), (6, (.string ⟨#[83, 97, 116, 117, 114, 100, 97, 121]⟩))]) Kp fun x1 =>
  opN Tryz.prog (sStore 135 x0 x1) Kp fun _ =>
  (stS Tryz.prog (sRes 135 x0) fun r0 => K r0)
def dates_weekdays_an : Ann := { cuts := [], blks := [], loops := [], drs := [] }
theorem dates_weekdays_eq (Kp : PK) (K : Value → WP) : cevF Tryz.prog dates_weekdays_an Tryz.f79 [] Kp K = dates_weekdays Kp K := by kernel_rfl
theorem dates_weekdays_calls  {Kp : PK} {K : Value → WP} {w : World} (h : dates_weekdays Kp K w) : Calls Tryz.prog 79 #[] w (after Kp K) :=
  calls_of_shape (calls_of_cev wide Tryz.func79 (an := dates_weekdays_an) (args := []) (cast (congrFun (dates_weekdays_eq Kp K) w).symm h))
theorem dates_weekdays_cn  {W : World} {α : Type} {A : List HP} {r : α → Value} {B : α → List HP} (h : ∀ F, Ent W (A ++ F) (dates_weekdays noP fun v w => ∃ x, v = r x ∧ sat W (B x ++ F) w)) : Cn Tryz.prog 79 [] W A r B :=
  Cn.of (shape := dates_weekdays) Tryz.call79 (fun h => dates_weekdays_calls h) h
theorem dates_weekdays_cnP  {W : World} {α β : Type} {A : List HP} {r : α → Value} {B : α → List HP} {pc : β → List PanicEntry} {Bp : β → List HP} (h : ∀ F, Ent W (A ++ F) (dates_weekdays (fun ch w => ∃ y, ch = pc y ∧ sat W (Bp y ++ F) w) fun v w => ∃ x, v = r x ∧ sat W (B x ++ F) w)) : CnP Tryz.prog 79 [] W A r B pc Bp :=
  CnP.of (shape := dates_weekdays) Tryz.call79 (fun h => dates_weekdays_calls h) h

/-- dates_digits -/
def dates_digits (v0 v1 v2 : Value) (Kp : PK) (K : Value → WP) : WP :=
  opN Tryz.prog (sMkSl 95 v1 v1) Kp fun x10 =>
  opN Tryz.prog (sBin .sub 3 v1 (.int .i64 1)) Kp fun x12 =>
  loop2 (fun I1 m1 _ y0 y8 =>
   opN Tryz.prog (sBin .geq 3 y8 (.int .i64 0)) Kp fun x14 =>
   condS x14
   (opN Tryz.prog (sBin .rem 3 y0 (.int .i64 10)) Kp fun x20 =>
    opN Tryz.prog (sBin .add 3 (.int .i64 48) x20) Kp fun x21 =>
    opN Tryz.prog (sConv 3 5 x21) Kp fun x22 =>
    opN Tryz.prog (sIA 95 x10 y8) Kp fun x23 =>
    opN Tryz.prog (sStore 5 x23 x22) Kp fun _ =>
    cut0 (fun J1 =>
     opN Tryz.prog (sEq .eql 3 (.tmp 24) (.const (.int .i64 0)) y0 (.int .i64 0)) Kp fun x25 =>
     gdK x25 true (fun k => k y8) fun x27 =>
     gdK x25 true (fun k => k v1) fun x28 =>
     gdK x25 true (opN Tryz.prog (sBin .sub 3 x28 (.int .i64 1)) Kp) fun x29 =>
     gdK x25 true (opN Tryz.prog (sBin .lss 3 x27 x29) Kp) fun x30 =>
     opN Tryz.prog (sPick x25 x30 (.bool false)) Kp fun x31 =>
     condS x31
     (opN Tryz.prog (sIA 95 x10 y8) Kp fun x35 =>
      opN Tryz.prog (sStore 5 x35 v2) Kp fun _ =>
      J1)
     (J1)) fun _ =>
    opN Tryz.prog (sBin .quo 3 y0 (.int .i64 10)) Kp fun x37 =>
    opN Tryz.prog (sBin .sub 3 y8 (.int .i64 1)) Kp fun x16 =>
    next2 I1 m1 x37 x16)
   (opN Tryz.prog (sConv 95 9 x10) Kp fun x39 =>
    K x39)) v0 x12
def dates_digits_an : Ann := { cuts := [(8, [])], blks := [], loops := [(3, [0, 8])], drs := [] }
theorem dates_digits_eq (v0 v1 v2 : Value) (Kp : PK) (K : Value → WP) : cevF Tryz.prog dates_digits_an Tryz.f80 [v0, v1, v2] Kp K = dates_digits v0 v1 v2 Kp K := by kernel_rfl
theorem dates_digits_calls {v0 v1 v2 : Value} {Kp : PK} {K : Value → WP} {w : World} (h : dates_digits v0 v1 v2 Kp K w) : Calls Tryz.prog 80 #[v0, v1, v2] w (after Kp K) :=
  calls_of_shape (calls_of_cev wide Tryz.func80 (an := dates_digits_an) (args := [v0, v1, v2]) (cast (congrFun (dates_digits_eq v0 v1 v2 Kp K) w).symm h))
theorem dates_digits_cn {v0 v1 v2 : Value} {W : World} {α : Type} {A : List HP} {r : α → Value} {B : α → List HP} (h : ∀ F, Ent W (A ++ F) (dates_digits v0 v1 v2 noP fun v w => ∃ x, v = r x ∧ sat W (B x ++ F) w)) : Cn Tryz.prog 80 [v0, v1, v2] W A r B :=
  Cn.of (shape := dates_digits v0 v1 v2) Tryz.call80 (fun h => dates_digits_calls h) h
theorem dates_digits_cnP {v0 v1 v2 : Value} {W : World} {α β : Type} {A : List HP} {r : α → Value} {B : α → List HP} {pc : β → List PanicEntry} {Bp : β → List HP} (h : ∀ F, Ent W (A ++ F) (dates_digits v0 v1 v2 (fun ch w => ∃ y, ch = pc y ∧ sat W (Bp y ++ F) w) fun v w => ∃ x, v = r x ∧ sat W (B x ++ F) w)) : CnP Tryz.prog 80 [v0, v1, v2] W A r B pc Bp :=
  CnP.of (shape := dates_digits v0 v1 v2) Tryz.call80 (fun h => dates_digits_calls h) h

/-- dates_Date_clock -/
def dates_Date_clock (v0 : Value) (Kp : PK) (K : Value → WP) : WP :=
  opN Tryz.prog (sBox 106 v0) Kp fun x1 =>
  drS (stS Tryz.prog (sFA 106 x1 3) fun x3 =>
   stS Tryz.prog (sLoad 3 x3) fun x4 =>
   stD Tryz.prog (sFA 106 x1 4) fun D4 x7 =>
   stD Tryz.prog (sLoad 3 x7) fun D5 x8 =>
   stD Tryz.prog (sFA 106 x1 5) fun D9 x12 =>
   stD Tryz.prog (sLoad 3 x12) fun D10 x13 =>
   opN Tryz.prog (sCall (fn 80) [x4, (.int .i64 2), (.int .u8 48)]) Kp fun x5 =>
   (fun w => D10 w ∧ (fun w => D9 w ∧ (fun w => D5 w ∧ (fun w => D4 w ∧ (stD Tryz.prog (sBin .add 9 x5 (.string ⟨#[58]⟩)) fun D3 x6 =>
        opN Tryz.prog (sCall (fn 80) [x8, (.int .i64 2), (.int .u8 48)]) Kp fun x9 =>
        (fun w => D3 w ∧ (fun w => D10 w ∧ (fun w => D9 w ∧ (stD Tryz.prog (sBin .add 9 x6 x9) fun D7 x10 =>
            stD Tryz.prog (sBin .add 9 x10 (.string ⟨#[58]⟩)) fun D8 x11 =>
            opN Tryz.prog (sCall (fn 80) [x13, (.int .i64 2), (.int .u8 48)]) Kp fun x14 =>
            (fun w => D8 w ∧ (fun w => D7 w ∧ (fun w => D3 w ∧ (stS Tryz.prog (sBin .add 9 x11 x14) fun x15 =>
                K x15) w) w) w)) w) w) w)) w) w) w) w))
def dates_Date_clock_an : Ann := { cuts := [], blks := [], loops := [], drs := [(1, [(0, 1), (1, 1), (4, 3), (5, 3), (9, 3), (10, 3), (2, 0), (3, 3), (6, 0), (7, 3), (8, 3), (11, 0), (12, 1), (13, 1)])] }
theorem dates_Date_clock_eq (v0 : Value) (Kp : PK) (K : Value → WP) : cevF Tryz.prog dates_Date_clock_an Tryz.f81 [v0] Kp K = dates_Date_clock v0 Kp K := by kernel_rfl
theorem dates_Date_clock_calls {v0 : Value} {Kp : PK} {K : Value → WP} {w : World} (h : dates_Date_clock v0 Kp K w) : Calls Tryz.prog 81 #[v0] w (after Kp K) :=
  calls_of_shape (calls_of_cev wide Tryz.func81 (an := dates_Date_clock_an) (args := [v0]) (cast (congrFun (dates_Date_clock_eq v0 Kp K) w).symm h))
theorem dates_Date_clock_cn {v0 : Value} {W : World} {α : Type} {A : List HP} {r : α → Value} {B : α → List HP} (h : ∀ F, Ent W (A ++ F) (dates_Date_clock v0 noP fun v w => ∃ x, v = r x ∧ sat W (B x ++ F) w)) : Cn Tryz.prog 81 [v0] W A r B :=
  Cn.of (shape := dates_Date_clock v0) Tryz.call81 (fun h => dates_Date_clock_calls h) h
theorem dates_Date_clock_cnP {v0 : Value} {W : World} {α β : Type} {A : List HP} {r : α → Value} {B : α → List HP} {pc : β → List PanicEntry} {Bp : β → List HP} (h : ∀ F, Ent W (A ++ F) (dates_Date_clock v0 (fun ch w => ∃ y, ch = pc y ∧ sat W (Bp y ++ F) w) fun v w => ∃ x, v = r x ∧ sat W (B x ++ F) w)) : CnP Tryz.prog 81 [v0] W A r B pc Bp :=
  CnP.of (shape := dates_Date_clock v0) Tryz.call81 (fun h => dates_Date_clock_calls h) h

/-- ref09_days -/
def ref09_days (v0 v1 : Value) (Kp : PK) (K : Value → WP) : WP :=
  opN Tryz.prog (sEq .eql 3 (.tmp 5) (.const (.int .i64 2)) v1 (.int .i64 2)) Kp fun x7 =>
  condS x7
  (opN Tryz.prog (sCall (fn 100) [v0]) Kp fun x9 =>
   condS x9
   (K (.int .i64 29))
   (K (.int .i64 28)))
  (opN Tryz.prog (sEq .eql 3 (.tmp 5) (.const (.int .i64 4)) v1 (.int .i64 4)) Kp fun x11 =>
   condS x11
   (condS x11
    (K (.int .i64 30))
    (K (.int .i64 31)))
   (opN Tryz.prog (sEq .eql 3 (.tmp 5) (.const (.int .i64 6)) v1 (.int .i64 6)) Kp fun x12 =>
    condS x12
    (condS x12
     (K (.int .i64 30))
     (K (.int .i64 31)))
    (opN Tryz.prog (sEq .eql 3 (.tmp 5) (.const (.int .i64 9)) v1 (.int .i64 9)) Kp fun x13 =>
     condS x13
     (condS x13
      (K (.int .i64 30))
      (K (.int .i64 31)))
     (opN Tryz.prog (sEq .eql 3 (.tmp 5) (.const (.int .i64 11)) v1 (.int .i64 11)) Kp fun x14 =>
      condS x14
      (K (.int .i64 30))
      (K (.int .i64 31))))))
def ref09_days_an : Ann := { cuts := [], blks := [], loops := [], drs := [] }
theorem ref09_days_eq (v0 v1 : Value) (Kp : PK) (K : Value → WP) : cevF Tryz.prog ref09_days_an Tryz.f82 [v0, v1] Kp K = ref09_days v0 v1 Kp K := by kernel_rfl
theorem ref09_days_calls {v0 v1 : Value} {Kp : PK} {K : Value → WP} {w : World} (h : ref09_days v0 v1 Kp K w) : Calls Tryz.prog 82 #[v0, v1] w (after Kp K) :=
  calls_of_shape (calls_of_cev wide Tryz.func82 (an := ref09_days_an) (args := [v0, v1]) (cast (congrFun (ref09_days_eq v0 v1 Kp K) w).symm h))
theorem ref09_days_cn {v0 v1 : Value} {W : World} {α : Type} {A : List HP} {r : α → Value} {B : α → List HP} (h : ∀ F, Ent W (A ++ F) (ref09_days v0 v1 noP fun v w => ∃ x, v = r x ∧ sat W (B x ++ F) w)) : Cn Tryz.prog 82 [v0, v1] W A r B :=
  Cn.of (shape := ref09_days v0 v1) Tryz.call82 (fun h => ref09_days_calls h) h
theorem ref09_days_cnP {v0 v1 : Value} {W : World} {α β : Type} {A : List HP} {r : α → Value} {B : α → List HP} {pc : β → List PanicEntry} {Bp : β → List HP} (h : ∀ F, Ent W (A ++ F) (ref09_days v0 v1 (fun ch w => ∃ y, ch = pc y ∧ sat W (Bp y ++ F) w) fun v w => ∃ x, v = r x ∧ sat W (B x ++ F) w)) : CnP Tryz.prog 82 [v0, v1] W A r B pc Bp :=
  CnP.of (shape := ref09_days v0 v1) Tryz.call82 (fun h => ref09_days_calls h) h

/-- ref09_year -/
def ref09_year (v0 : Value) (Kp : PK) (K : Value → WP) : WP :=
  opN Tryz.prog (sCall (fn 100) [v0]) Kp fun x4 =>
  condS x4
  (K (.int .i64 366))
  (K (.int .i64 365))
def ref09_year_an : Ann := { cuts := [], blks := [], loops := [], drs := [] }
theorem ref09_year_eq (v0 : Value) (Kp : PK) (K : Value → WP) : cevF Tryz.prog ref09_year_an Tryz.f83 [v0] Kp K = ref09_year v0 Kp K := by kernel_rfl
theorem ref09_year_calls {v0 : Value} {Kp : PK} {K : Value → WP} {w : World} (h : ref09_year v0 Kp K w) : Calls Tryz.prog 83 #[v0] w (after Kp K) :=
  calls_of_shape (calls_of_cev wide Tryz.func83 (an := ref09_year_an) (args := [v0]) (cast (congrFun (ref09_year_eq v0 Kp K) w).symm h))
theorem ref09_year_cn {v0 : Value} {W : World} {α : Type} {A : List HP} {r : α → Value} {B : α → List HP} (h : ∀ F, Ent W (A ++ F) (ref09_year v0 noP fun v w => ∃ x, v = r x ∧ sat W (B x ++ F) w)) : Cn Tryz.prog 83 [v0] W A r B :=
  Cn.of (shape := ref09_year v0) Tryz.call83 (fun h => ref09_year_calls h) h
theorem ref09_year_cnP {v0 : Value} {W : World} {α β : Type} {A : List HP} {r : α → Value} {B : α → List HP} {pc : β → List PanicEntry} {Bp : β → List HP} (h : ∀ F, Ent W (A ++ F) (ref09_year v0 (fun ch w => ∃ y, ch = pc y ∧ sat W (Bp y ++ F) w) fun v w => ∃ x, v = r x ∧ sat W (B x ++ F) w)) : CnP Tryz.prog 83 [v0] W A r B pc Bp :=
  CnP.of (shape := ref09_year v0) Tryz.call83 (fun h => ref09_year_calls h) h

/-- ref09_names -/
def ref09_names (Kp : PK) (K : Value → WP) : WP :=
  opN Tryz.prog (sBuildSl 66 7 [(0, (.string ⟨#[83, 117, 110, 100, 97, 121]⟩)), (1, (.string ⟨#[77, 111, 110, 100, 97, 121]⟩)), (2, (.string ⟨#[84, 117, 101, 115, 100, 97, 121]⟩)), (3, (.string ⟨#[87, 101, 100, 110, 101, 115, 100, 97, 121]⟩)), (4, (.string ⟨#[84, 104, 117, 114, 115, 100, 97, 121]⟩)), (5, (.string ⟨#[70, 114, 105, 100, 97, 121]⟩)), (6, (.string ⟨#[83, 97, 116, 117, 114, 100, 97, 121]⟩))]) Kp fun x6 =>
  loop2 (fun I1 m1 _ y4 y5 =>
   opN Tryz.prog (sBin .lss 3 y5 (.int .i64 7)) Kp fun x8 =>
   condS x8
   (opN Tryz.prog (sIA 66 x6 y5) Kp fun x14 =>
    opN Tryz.prog (sLoad 9 x14) Kp fun x15 =>
    opN Tryz.prog (sSl 9 x15 none (some (.int .i64 3)) none) Kp fun x16 =>
    opN Tryz.prog (sBuildSl 66 1 [(0, x16)]) Kp fun x17 =>
    opN Tryz.prog (sApp #[66, 66] 66 [y4, x17]) Kp fun x18 =>
    opN Tryz.prog (sBin .add 3 y5 (.int .i64 1)) Kp fun x10 =>
    next2 I1 m1 x18 x10)
   (opN Tryz.prog (sBuildSl 66 12 [(0, (.string ⟨#[74, 97, 110]⟩)), (1, (.string ⟨#[70, 101, 98]⟩)), (2, (.string ⟨#[77, 97, 114]⟩)), (3, (.string ⟨#[65, 112, 114]⟩)), (4, (.string ⟨#[77, 97, 121]⟩)), (5, (.string ⟨#[74, 117, 110]⟩)), (6, (.string ⟨#[74, 117, 108]⟩)), (7, (.string ⟨#[65, 117, 103]⟩)), (8, (.string ⟨#[83, 101, 112]⟩)), (9, (.string ⟨#[79, 99, 116]⟩)), (10, (.string ⟨#[78, 111, 118]⟩)), (11, (.string ⟨#[68, 101, 99]⟩))]) Kp fun x21 =>
    K (.tuple #[y4, x6, x21]))) (.slice none 0 0) (.int .i64 0)
def ref09_names_an : Ann := { cuts := [], blks := [], loops := [(4, [4, 5])], drs := [] }
theorem ref09_names_eq (Kp : PK) (K : Value → WP) : cevF Tryz.prog ref09_names_an Tryz.f84 [] Kp K = ref09_names Kp K := by kernel_rfl
theorem ref09_names_calls  {Kp : PK} {K : Value → WP} {w : World} (h : ref09_names Kp K w) : Calls Tryz.prog 84 #[] w (after Kp K) :=
  calls_of_shape (calls_of_cev wide Tryz.func84 (an := ref09_names_an) (args := []) (cast (congrFun (ref09_names_eq Kp K) w).symm h))
theorem ref09_names_cn  {W : World} {α : Type} {A : List HP} {r : α → Value} {B : α → List HP} (h : ∀ F, Ent W (A ++ F) (ref09_names noP fun v w => ∃ x, v = r x ∧ sat W (B x ++ F) w)) : Cn Tryz.prog 84 [] W A r B :=
  Cn.of (shape := ref09_names) Tryz.call84 (fun h => ref09_names_calls h) h
theorem ref09_names_cnP  {W : World} {α β : Type} {A : List HP} {r : α → Value} {B : α → List HP} {pc : β → List PanicEntry} {Bp : β → List HP} (h : ∀ F, Ent W (A ++ F) (ref09_names (fun ch w => ∃ y, ch = pc y ∧ sat W (Bp y ++ F) w) fun v w => ∃ x, v = r x ∧ sat W (B x ++ F) w)) : CnP Tryz.prog 84 [] W A r B pc Bp :=
  CnP.of (shape := ref09_names) Tryz.call84 (fun h => ref09_names_calls h) h

/-- ref09_two -/
def ref09_two (v0 : Value) (Kp : PK) (K : Value → WP) : WP :=
  opN Tryz.prog (sBin .quo 3 v0 (.int .i64 10)) Kp fun x4 =>
  opN Tryz.prog (sBin .rem 3 x4 (.int .i64 10)) Kp fun x5 =>
  opN Tryz.prog (sBin .add 3 (.int .i64 48) x5) Kp fun x6 =>
  opN Tryz.prog (sConv 3 5 x6) Kp fun x7 =>
  opN Tryz.prog (sBin .rem 3 v0 (.int .i64 10)) Kp fun x9 =>
  opN Tryz.prog (sBin .add 3 (.int .i64 48) x9) Kp fun x10 =>
  opN Tryz.prog (sConv 3 5 x10) Kp fun x11 =>
  opN Tryz.prog (sBuildSl 95 2 [(0, x7), (1, x11)]) Kp fun x12 =>
  opN Tryz.prog (sConv 95 9 x12) Kp fun x13 =>
  K x13
def ref09_two_an : Ann := { cuts := [], blks := [], loops := [], drs := [] }
theorem ref09_two_eq (v0 : Value) (Kp : PK) (K : Value → WP) : cevF Tryz.prog ref09_two_an Tryz.f85 [v0] Kp K = ref09_two v0 Kp K := by kernel_rfl
theorem ref09_two_calls {v0 : Value} {Kp : PK} {K : Value → WP} {w : World} (h : ref09_two v0 Kp K w) : Calls Tryz.prog 85 #[v0] w (after Kp K) :=
  calls_of_shape (calls_of_cev wide Tryz.func85 (an := ref09_two_an) (args := [v0]) (cast (congrFun (ref09_two_eq v0 Kp K) w).symm h))
theorem ref09_two_cn {v0 : Value} {W : World} {α : Type} {A : List HP} {r : α → Value} {B : α → List HP} (h : ∀ F, Ent W (A ++ F) (ref09_two v0 noP fun v w => ∃ x, v = r x ∧ sat W (B x ++ F) w)) : Cn Tryz.prog 85 [v0] W A r B :=
  Cn.of (shape := ref09_two v0) Tryz.call85 (fun h => ref09_two_calls h) h
theorem ref09_two_cnP {v0 : Value} {W : World} {α β : Type} {A : List HP} {r : α → Value} {B : α → List HP} {pc : β → List PanicEntry} {Bp : β → List HP} (h : ∀ F, Ent W (A ++ F) (ref09_two v0 (fun ch w => ∃ y, ch = pc y ∧ sat W (Bp y ++ F) w) fun v w => ∃ x, v = r x ∧ sat W (B x ++ F) w)) : CnP Tryz.prog 85 [v0] W A r B pc Bp :=
  CnP.of (shape := ref09_two v0) Tryz.call85 (fun h => ref09_two_calls h) h

/-- ref09_clock -/
def ref09_clock (v0 : Value) (Kp : PK) (K : Value → WP) : WP :=
  opN Tryz.prog (sBox 84 v0) Kp fun x1 =>
  drS (stS Tryz.prog (sFA 84 x1 3) fun x3 =>
   stS Tryz.prog (sLoad 3 x3) fun x4 =>
   stD Tryz.prog (sFA 84 x1 4) fun D4 x7 =>
   stD Tryz.prog (sLoad 3 x7) fun D5 x8 =>
   stD Tryz.prog (sFA 84 x1 5) fun D9 x12 =>
   stD Tryz.prog (sLoad 3 x12) fun D10 x13 =>
   opN Tryz.prog (sCall (fn 85) [x4]) Kp fun x5 =>
   (fun w => D10 w ∧ (fun w => D9 w ∧ (fun w => D5 w ∧ (fun w => D4 w ∧ (stD Tryz.prog (sBin .add 9 x5 (.string ⟨#[58]⟩)) fun D3 x6 =>
        opN Tryz.prog (sCall (fn 85) [x8]) Kp fun x9 =>
        (fun w => D3 w ∧ (fun w => D10 w ∧ (fun w => D9 w ∧ (stD Tryz.prog (sBin .add 9 x6 x9) fun D7 x10 =>
            stD Tryz.prog (sBin .add 9 x10 (.string ⟨#[58]⟩)) fun D8 x11 =>
            opN Tryz.prog (sCall (fn 85) [x13]) Kp fun x14 =>
            (fun w => D8 w ∧ (fun w => D7 w ∧ (fun w => D3 w ∧ (stS Tryz.prog (sBin .add 9 x11 x14) fun x15 =>
                K x15) w) w) w)) w) w) w)) w) w) w) w))
def ref09_clock_an : Ann := { cuts := [], blks := [], loops := [], drs := [(1, [(0, 1), (1, 1), (4, 3), (5, 3), (9, 3), (10, 3), (2, 0), (3, 3), (6, 0), (7, 3), (8, 3), (11, 0), (12, 1), (13, 1)])] }
theorem ref09_clock_eq (v0 : Value) (Kp : PK) (K : Value → WP) : cevF Tryz.prog ref09_clock_an Tryz.f86 [v0] Kp K = ref09_clock v0 Kp K := by kernel_rfl
theorem ref09_clock_calls {v0 : Value} {Kp : PK} {K : Value → WP} {w : World} (h : ref09_clock v0 Kp K w) : Calls Tryz.prog 86 #[v0] w (after Kp K) :=
  calls_of_shape (calls_of_cev wide Tryz.func86 (an := ref09_clock_an) (args := [v0]) (cast (congrFun (ref09_clock_eq v0 Kp K) w).symm h))
theorem ref09_clock_cn {v0 : Value} {W : World} {α : Type} {A : List HP} {r : α → Value} {B : α → List HP} (h : ∀ F, Ent W (A ++ F) (ref09_clock v0 noP fun v w => ∃ x, v = r x ∧ sat W (B x ++ F) w)) : Cn Tryz.prog 86 [v0] W A r B :=
  Cn.of (shape := ref09_clock v0) Tryz.call86 (fun h => ref09_clock_calls h) h
theorem ref09_clock_cnP {v0 : Value} {W : World} {α β : Type} {A : List HP} {r : α → Value} {B : α → List HP} {pc : β → List PanicEntry} {Bp : β → List HP} (h : ∀ F, Ent W (A ++ F) (ref09_clock v0 (fun ch w => ∃ y, ch = pc y ∧ sat W (Bp y ++ F) w) fun v w => ∃ x, v = r x ∧ sat W (B x ++ F) w)) : CnP Tryz.prog 86 [v0] W A r B pc Bp :=
  CnP.of (shape := ref09_clock v0) Tryz.call86 (fun h => ref09_clock_calls h) h

end Go.Proofs.YtcmpkkkigmheoaaGreatDoor.S
