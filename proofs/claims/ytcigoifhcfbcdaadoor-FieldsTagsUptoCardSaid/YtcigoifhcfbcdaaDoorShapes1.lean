/- The shapes of functions of the loaded program, printed by a program of mine; each is proved to be what the model asks of the function. No conditions. -/
import Derived.Test.YtcigoifhcfbcdaaDoorChecked
import Derived.Test.YtcigoifhcfbcdaaDoorIter
import Derived.KernelRfl
set_option linter.unusedVariables false
namespace Go.Proofs.YtcigoifhcfbcdaaDoor.S
open Go Go.Proofs.YtcigoifhcfbcdaaDoor.Sh Go.Proofs.YtcigoifhcfbcdaaDoor.Sl

theorem wide : Tryd.prog.follows .mixedOrders = true := by kernel_rfl

/-- law10_FieldsSpans -/
def law10_FieldsSpans (v0 : Value) (Kp : PK) (K : Value → WP) : WP :=
  opN Tryd.prog (sCall (fn 9) [v0]) Kp fun x10 =>
  opN Tryd.prog (sExt x10 0) Kp fun x11 =>
  opN Tryd.prog (sExt x10 1) Kp fun x12 =>
  opN Tryd.prog (sCall (fn 10) [v0]) Kp fun x15 =>
  opN Tryd.prog (sExt x15 0) Kp fun x16 =>
  opN Tryd.prog (sExt x15 1) Kp fun x17 =>
  opN Tryd.prog (sLen #[22] 3 [x11]) Kp fun x19 =>
  opN Tryd.prog (sLen #[26] 3 [x16]) Kp fun x21 =>
  opN Tryd.prog (sEq .neq 3 (.tmp 19) (.tmp 21) x19 x21) Kp fun x22 =>
  gdK x22 false (fun k => k x12) fun x24 =>
  gdK x22 false (opN Tryd.prog (sCall (fn 11) [x24]) Kp) fun x25 =>
  gdK x22 false (fun k => k x17) fun x26 =>
  gdK x22 false (opN Tryd.prog (sEq .neq 3 (.tmp 25) (.tmp 26) x25 x26) Kp) fun x27 =>
  opN Tryd.prog (sPick x22 (.bool true) x27) Kp fun x28 =>
  condS x28
  (K (.bool false))
  (loop1 (fun I1 m1 _ y7 =>
    opN Tryd.prog (sLen #[22] 3 [x11]) Kp fun x31 =>
    opN Tryd.prog (sBin .lss 3 y7 x31) Kp fun x32 =>
    condS x32
    (drS (stS Tryd.prog (sIA 22 x11 y7) fun x37 =>
      stS Tryd.prog (sFA 31 x37 0) fun x38 =>
      stS Tryd.prog (sLoad 3 x38) fun x39 =>
      stS Tryd.prog (sIA 26 x16 y7) fun x42 =>
      stS Tryd.prog (sFA 32 x42 0) fun x43 =>
      stS Tryd.prog (sLoad 3 x43) fun x44 =>
      stS Tryd.prog (sEq .neq 3 (.tmp 39) (.tmp 44) x39 x44) fun x45 =>
      gdK x45 false (fun k => k x11) fun x47 =>
      gdK x45 false (fun k => k y7) fun x48 =>
      gdK x45 false (stS Tryd.prog (sIA 22 x47 x48)) fun x49 =>
      gdK x45 false (stS Tryd.prog (sFA 31 x49 1)) fun x50 =>
      gdK x45 false (stS Tryd.prog (sLoad 3 x50)) fun x51 =>
      gdK x45 false (fun k => k x16) fun x52 =>
      gdK x45 false (fun k => k y7) fun x53 =>
      gdK x45 false (stS Tryd.prog (sIA 26 x52 x53)) fun x54 =>
      gdK x45 false (stS Tryd.prog (sFA 32 x54 1)) fun x55 =>
      gdK x45 false (stS Tryd.prog (sLoad 3 x55)) fun x56 =>
      gdK x45 false (stS Tryd.prog (sEq .neq 3 (.tmp 51) (.tmp 56) x51 x56)) fun x57 =>
      stS Tryd.prog (sPick x45 (.bool true) x57) fun x58 =>
      condS x58
      (K (.bool false))
      (opN Tryd.prog (sBin .add 3 y7 (.int .i64 1)) Kp fun x34 =>
       next1 I1 m1 x34)))
    (opN Tryd.prog (sCall (fn 12) []) Kp fun x59 =>
     K x59)) (.int .i64 0))
def law10_FieldsSpans_an : Ann := { cuts := [], blks := [], loops := [(6, [7])], drs := [(8, [(0, 1), (1, 1), (2, 1), (3, 1), (4, 1), (5, 1), (6, 1), (7, 1), (8, 1), (9, 1), (10, 1), (11, 1), (12, 1), (13, 1), (14, 1), (15, 1), (16, 1), (17, 1), (18, 1), (19, 1), (20, 1), (21, 1), (22, 1), (23, 1)])] }
theorem law10_FieldsSpans_eq (v0 : Value) (Kp : PK) (K : Value → WP) : cevF Tryd.prog law10_FieldsSpans_an Tryd.f3 [v0] Kp K = law10_FieldsSpans v0 Kp K := by kernel_rfl
theorem law10_FieldsSpans_calls {v0 : Value} {Kp : PK} {K : Value → WP} {w : World} (h : law10_FieldsSpans v0 Kp K w) : Calls Tryd.prog 3 #[v0] w (after Kp K) :=
  calls_of_shape (calls_of_cev wide Tryd.func3 (an := law10_FieldsSpans_an) (args := [v0]) (cast (congrFun (law10_FieldsSpans_eq v0 Kp K) w).symm h))
theorem law10_FieldsSpans_cn {v0 : Value} {W : World} {α : Type} {A : List HP} {r : α → Value} {B : α → List HP} (h : ∀ F, Ent W (A ++ F) (law10_FieldsSpans v0 noP fun v w => ∃ x, v = r x ∧ sat W (B x ++ F) w)) : Cn Tryd.prog 3 [v0] W A r B :=
  Cn.of (shape := law10_FieldsSpans v0) Tryd.call3 (fun h => law10_FieldsSpans_calls h) h
theorem law10_FieldsSpans_cnP {v0 : Value} {W : World} {α β : Type} {A : List HP} {r : α → Value} {B : α → List HP} {pc : β → List PanicEntry} {Bp : β → List HP} (h : ∀ F, Ent W (A ++ F) (law10_FieldsSpans v0 (fun ch w => ∃ y, ch = pc y ∧ sat W (Bp y ++ F) w) fun v w => ∃ x, v = r x ∧ sat W (B x ++ F) w)) : CnP Tryd.prog 3 [v0] W A r B pc Bp :=
  CnP.of (shape := law10_FieldsSpans v0) Tryd.call3 (fun h => law10_FieldsSpans_calls h) h

/-- law10_FieldsAlike -/
def law10_FieldsAlike (v0 v1 : Value) (Kp : PK) (K : Value → WP) : WP :=
  opN Tryd.prog (sBox 36 v0) Kp fun x2 =>
  opN Tryd.prog (sBox 36 v1) Kp fun x3 =>
  opN Tryd.prog (sFA 36 x2 0) Kp fun x7 =>
  opN Tryd.prog (sLoad 4 x7) Kp fun x8 =>
  opN Tryd.prog (sFA 36 x2 1) Kp fun x9 =>
  opN Tryd.prog (sLoad 9 x9) Kp fun x10 =>
  opN Tryd.prog (sBuild 37 [(0, x8), (1, x10)]) Kp fun x11 =>
  opN Tryd.prog (sAlloc 37) Kp fun x5 =>
  opN Tryd.prog (sStore 37 x5 x11) Kp fun _ =>
  opN Tryd.prog (sFA 36 x3 0) Kp fun x12 =>
  opN Tryd.prog (sLoad 4 x12) Kp fun x13 =>
  opN Tryd.prog (sFA 36 x3 1) Kp fun x14 =>
  opN Tryd.prog (sLoad 9 x14) Kp fun x15 =>
  opN Tryd.prog (sBuild 37 [(0, x13), (1, x15)]) Kp fun x16 =>
  opN Tryd.prog (sAlloc 37) Kp fun x6 =>
  opN Tryd.prog (sStore 37 x6 x16) Kp fun _ =>
  drS (stS Tryd.prog (sLoad 37 x5) fun x17 =>
   stS Tryd.prog (sLoad 37 x6) fun x18 =>
   stD Tryd.prog (sLoad 37 x6) fun D3 x20 =>
   stD Tryd.prog (sLoad 37 x5) fun D4 x21 =>
   opN Tryd.prog (sCall (fn 13) [x17, x18]) Kp fun x19 =>
   (fun w => D4 w ∧ (fun w => D3 w ∧ (opN Tryd.prog (sCall (fn 13) [x20, x21]) Kp fun x22 =>
      stS Tryd.prog (sEq .neq 4 (.tmp 19) (.tmp 22) x19 x22) fun x23 =>
      gdK x23 false (stS Tryd.prog (sLoad 37 x5)) fun x25 =>
      gdK x23 false (stS Tryd.prog (sLoad 37 x6)) fun x26 =>
      gdD x23 false (stD Tryd.prog (sLoad 37 x6)) fun D11 x28 =>
      gdD x23 false (stD Tryd.prog (sLoad 37 x5)) fun D12 x29 =>
      gdK x23 false (opN Tryd.prog (sCall (fn 14) [x25, x26]) Kp) fun x27 =>
      (fun w => D12 w ∧ (fun w => D11 w ∧ (gdK x23 false (opN Tryd.prog (sCall (fn 14) [x28, x29]) Kp) fun x30 =>
         gdK x23 false (stS Tryd.prog (sEq .neq 4 (.tmp 27) (.tmp 30) x27 x30)) fun x31 =>
         stS Tryd.prog (sPick x23 (.bool true) x31) fun x32 =>
         gdK x32 false (stS Tryd.prog (sLoad 37 x5)) fun x34 =>
         gdK x32 false (stS Tryd.prog (sLoad 37 x6)) fun x35 =>
         gdK x32 false (opN Tryd.prog (sCall (fn 13) [x34, x35]) Kp) fun x36 =>
         gdK x32 false (fun k => k x36) fun x37 =>
         gdK x37 true (stS Tryd.prog (sLoad 37 x5)) fun x38 =>
         gdK x37 true (stS Tryd.prog (sLoad 37 x6)) fun x39 =>
         gdK x37 true (opN Tryd.prog (sCall (fn 14) [x38, x39]) Kp) fun x40 =>
         gdK x37 true (stS Tryd.prog (sUn .not x40)) fun x41 =>
         gdK x32 false (stS Tryd.prog (sPick x37 x41 (.bool false))) fun x42 =>
         stS Tryd.prog (sPick x32 (.bool true) x42) fun x43 =>
         condS x43
         (K (.bool false))
         (drS (stS Tryd.prog (sLoad 37 x5) fun x44 =>
           stS Tryd.prog (sLoad 37 x5) fun x45 =>
           stD Tryd.prog (sFA 37 x5 0) fun D3 x47 =>
           stD Tryd.prog (sLoad 4 x47) fun D4 x48 =>
           stD Tryd.prog (sUn .not x48) fun D5 x49 =>
           opN Tryd.prog (sCall (fn 13) [x44, x45]) Kp fun x46 =>
           (fun w => D5 w ∧ (fun w => D4 w ∧ (fun w => D3 w ∧ (stS Tryd.prog (sEq .eql 4 (.tmp 46) (.tmp 49) x46 x49) fun x50 =>
               gdK x50 true (stS Tryd.prog (sLoad 37 x5)) fun x52 =>
               gdK x50 true (stS Tryd.prog (sLoad 37 x5)) fun x53 =>
               gdK x50 true (opN Tryd.prog (sCall (fn 14) [x52, x53]) Kp) fun x54 =>
               stS Tryd.prog (sPick x50 x54 (.bool false)) fun x55 =>
               gdK x55 true (opN Tryd.prog (sCall (fn 12) []) Kp) fun x57 =>
               stS Tryd.prog (sPick x55 x57 (.bool false)) fun x58 =>
               K x58) w) w) w)))) w) w)) w) w))
def law10_FieldsAlike_an : Ann := { cuts := [], blks := [], loops := [], drs := [(3, [(0, 1), (1, 1), (3, 3), (4, 3), (2, 0), (5, 0), (6, 1), (7, 1), (8, 1), (9, 1), (11, 3), (12, 3), (10, 0), (13, 0), (14, 1), (15, 1), (16, 1), (17, 1), (18, 1), (19, 0), (20, 1), (21, 1), (22, 1), (23, 0), (24, 1), (25, 1), (26, 1)]), (5, [(0, 1), (1, 1), (3, 3), (4, 3), (5, 3), (2, 0), (6, 1), (7, 1), (8, 1), (9, 1), (10, 0), (11, 1), (12, 1), (13, 0), (14, 1), (15, 1)])] }
theorem law10_FieldsAlike_eq (v0 v1 : Value) (Kp : PK) (K : Value → WP) : cevF Tryd.prog law10_FieldsAlike_an Tryd.f4 [v0, v1] Kp K = law10_FieldsAlike v0 v1 Kp K := by kernel_rfl
theorem law10_FieldsAlike_calls {v0 v1 : Value} {Kp : PK} {K : Value → WP} {w : World} (h : law10_FieldsAlike v0 v1 Kp K w) : Calls Tryd.prog 4 #[v0, v1] w (after Kp K) :=
  calls_of_shape (calls_of_cev wide Tryd.func4 (an := law10_FieldsAlike_an) (args := [v0, v1]) (cast (congrFun (law10_FieldsAlike_eq v0 v1 Kp K) w).symm h))
theorem law10_FieldsAlike_cn {v0 v1 : Value} {W : World} {α : Type} {A : List HP} {r : α → Value} {B : α → List HP} (h : ∀ F, Ent W (A ++ F) (law10_FieldsAlike v0 v1 noP fun v w => ∃ x, v = r x ∧ sat W (B x ++ F) w)) : Cn Tryd.prog 4 [v0, v1] W A r B :=
  Cn.of (shape := law10_FieldsAlike v0 v1) Tryd.call4 (fun h => law10_FieldsAlike_calls h) h
theorem law10_FieldsAlike_cnP {v0 v1 : Value} {W : World} {α β : Type} {A : List HP} {r : α → Value} {B : α → List HP} {pc : β → List PanicEntry} {Bp : β → List HP} (h : ∀ F, Ent W (A ++ F) (law10_FieldsAlike v0 v1 (fun ch w => ∃ y, ch = pc y ∧ sat W (Bp y ++ F) w) fun v w => ∃ x, v = r x ∧ sat W (B x ++ F) w)) : CnP Tryd.prog 4 [v0, v1] W A r B pc Bp :=
  CnP.of (shape := law10_FieldsAlike v0 v1) Tryd.call4 (fun h => law10_FieldsAlike_calls h) h

/-- law10_FieldsTokens -/
def law10_FieldsTokens (v0 : Value) (Kp : PK) (K : Value → WP) : WP :=
  opN Tryd.prog (sCall (fn 15) [v0]) Kp fun x13 =>
  opN Tryd.prog (sExt x13 0) Kp fun x14 =>
  opN Tryd.prog (sExt x13 1) Kp fun x15 =>
  opN Tryd.prog (sCall (fn 16) [v0]) Kp fun x18 =>
  opN Tryd.prog (sExt x18 0) Kp fun x19 =>
  opN Tryd.prog (sExt x18 1) Kp fun x20 =>
  opN Tryd.prog (sCall (fn 17) [v0]) Kp fun x23 =>
  opN Tryd.prog (sExt x23 0) Kp fun x24 =>
  opN Tryd.prog (sExt x23 1) Kp fun x25 =>
  opN Tryd.prog (sCall (fn 18) [v0]) Kp fun x28 =>
  opN Tryd.prog (sExt x28 0) Kp fun x29 =>
  opN Tryd.prog (sExt x28 1) Kp fun x30 =>
  opN Tryd.prog (sCall (fn 19) [x14, x19]) Kp fun x33 =>
  gdK x33 true (fun k => k x15) fun x35 =>
  gdK x33 true (opN Tryd.prog (sCall (fn 11) [x35]) Kp) fun x36 =>
  gdK x33 true (fun k => k x20) fun x37 =>
  gdK x33 true (opN Tryd.prog (sEq .eql 3 (.tmp 36) (.tmp 37) x36 x37) Kp) fun x38 =>
  opN Tryd.prog (sPick x33 x38 (.bool false)) Kp fun x39 =>
  gdK x39 true (fun k => k x24) fun x41 =>
  gdK x39 true (fun k => k x29) fun x42 =>
  gdK x39 true (opN Tryd.prog (sCall (fn 20) [x41, x42]) Kp) fun x43 =>
  opN Tryd.prog (sPick x39 x43 (.bool false)) Kp fun x44 =>
  gdK x44 true (fun k => k x25) fun x46 =>
  gdK x44 true (opN Tryd.prog (sCall (fn 11) [x46]) Kp) fun x47 =>
  gdK x44 true (fun k => k x30) fun x48 =>
  gdK x44 true (opN Tryd.prog (sEq .eql 3 (.tmp 47) (.tmp 48) x47 x48) Kp) fun x49 =>
  opN Tryd.prog (sPick x44 x49 (.bool false)) Kp fun x50 =>
  gdK x50 true (opN Tryd.prog (sCall (fn 12) []) Kp) fun x52 =>
  opN Tryd.prog (sPick x50 x52 (.bool false)) Kp fun x53 =>
  K x53
def law10_FieldsTokens_an : Ann := { cuts := [], blks := [], loops := [], drs := [] }
theorem law10_FieldsTokens_eq (v0 : Value) (Kp : PK) (K : Value → WP) : cevF Tryd.prog law10_FieldsTokens_an Tryd.f5 [v0] Kp K = law10_FieldsTokens v0 Kp K := by kernel_rfl
theorem law10_FieldsTokens_calls {v0 : Value} {Kp : PK} {K : Value → WP} {w : World} (h : law10_FieldsTokens v0 Kp K w) : Calls Tryd.prog 5 #[v0] w (after Kp K) :=
  calls_of_shape (calls_of_cev wide Tryd.func5 (an := law10_FieldsTokens_an) (args := [v0]) (cast (congrFun (law10_FieldsTokens_eq v0 Kp K) w).symm h))
theorem law10_FieldsTokens_cn {v0 : Value} {W : World} {α : Type} {A : List HP} {r : α → Value} {B : α → List HP} (h : ∀ F, Ent W (A ++ F) (law10_FieldsTokens v0 noP fun v w => ∃ x, v = r x ∧ sat W (B x ++ F) w)) : Cn Tryd.prog 5 [v0] W A r B :=
  Cn.of (shape := law10_FieldsTokens v0) Tryd.call5 (fun h => law10_FieldsTokens_calls h) h
theorem law10_FieldsTokens_cnP {v0 : Value} {W : World} {α β : Type} {A : List HP} {r : α → Value} {B : α → List HP} {pc : β → List PanicEntry} {Bp : β → List HP} (h : ∀ F, Ent W (A ++ F) (law10_FieldsTokens v0 (fun ch w => ∃ y, ch = pc y ∧ sat W (Bp y ++ F) w) fun v w => ∃ x, v = r x ∧ sat W (B x ++ F) w)) : CnP Tryd.prog 5 [v0] W A r B pc Bp :=
  CnP.of (shape := law10_FieldsTokens v0) Tryd.call5 (fun h => law10_FieldsTokens_calls h) h

/-- law10_FieldsJoined -/
def law10_FieldsJoined (v0 v1 : Value) (Kp : PK) (K : Value → WP) : WP :=
  opN Tryd.prog (sBin .add 9 v0 (.string ⟨#[44]⟩)) Kp fun x21 =>
  opN Tryd.prog (sBin .add 9 x21 v1) Kp fun x23 =>
  opN Tryd.prog (sCall (fn 17) [v0]) Kp fun x26 =>
  opN Tryd.prog (sExt x26 0) Kp fun x27 =>
  opN Tryd.prog (sExt x26 1) Kp fun x28 =>
  opN Tryd.prog (sCall (fn 17) [v1]) Kp fun x31 =>
  opN Tryd.prog (sExt x31 0) Kp fun x32 =>
  opN Tryd.prog (sExt x31 1) Kp fun x33 =>
  opN Tryd.prog (sCall (fn 17) [x23]) Kp fun x36 =>
  opN Tryd.prog (sExt x36 0) Kp fun x37 =>
  opN Tryd.prog (sExt x36 1) Kp fun x38 =>
  cut0 (fun J1 =>
   opN Tryd.prog (sCall (fn 11) [x28]) Kp fun x40 =>
   opN Tryd.prog (sEq .eql 3 (.tmp 40) (.const (.int .i64 0)) x40 (.int .i64 0)) Kp fun x41 =>
   gdK x41 true (fun k => k x33) fun x43 =>
   gdK x41 true (opN Tryd.prog (sCall (fn 11) [x43]) Kp) fun x44 =>
   gdK x41 true (opN Tryd.prog (sEq .eql 3 (.tmp 44) (.const (.int .i64 0)) x44 (.int .i64 0)) Kp) fun x45 =>
   opN Tryd.prog (sPick x41 x45 (.bool false)) Kp fun x46 =>
   condS x46
   (opN Tryd.prog (sCall (fn 11) [x38]) Kp fun x48 =>
    opN Tryd.prog (sEq .neq 3 (.tmp 48) (.const (.int .i64 0)) x48 (.int .i64 0)) Kp fun x49 =>
    gdK x49 false (fun k => k x37) fun x51 =>
    gdK x49 false (opN Tryd.prog (sLen #[45] 3 [x51]) Kp) fun x52 =>
    gdK x49 false (fun k => k x27) fun x53 =>
    gdK x49 false (opN Tryd.prog (sLen #[45] 3 [x53]) Kp) fun x54 =>
    gdK x49 false (fun k => k x32) fun x55 =>
    gdK x49 false (opN Tryd.prog (sLen #[45] 3 [x55]) Kp) fun x56 =>
    gdK x49 false (opN Tryd.prog (sBin .add 3 x54 x56) Kp) fun x57 =>
    gdK x49 false (opN Tryd.prog (sEq .neq 3 (.tmp 52) (.tmp 57) x52 x57) Kp) fun x58 =>
    opN Tryd.prog (sPick x49 (.bool true) x58) Kp fun x59 =>
    condS x59
    (K (.bool false))
    (loop1 (fun I1 m1 _ y12 =>
      opN Tryd.prog (sLen #[45] 3 [x37]) Kp fun x62 =>
      opN Tryd.prog (sBin .lss 3 y12 x62) Kp fun x63 =>
      condS x63
      (drS (stS Tryd.prog (sLen #[45] 3 [x27]) fun x68 =>
        stS Tryd.prog (sBin .lss 3 y12 x68) fun x69 =>
        gdK x69 true (fun k => k x37) fun x71 =>
        gdK x69 true (fun k => k y12) fun x72 =>
        gdK x69 true (stS Tryd.prog (sIA 45 x71 x72)) fun x73 =>
        gdK x69 true (stS Tryd.prog (sLoad 54 x73)) fun x74 =>
        gdK x69 true (fun k => k x27) fun x75 =>
        gdK x69 true (fun k => k y12) fun x76 =>
        gdK x69 true (stS Tryd.prog (sIA 45 x75 x76)) fun x77 =>
        gdK x69 true (stS Tryd.prog (sLoad 54 x77)) fun x78 =>
        gdK x69 true (stS Tryd.prog (sEq .neq 54 (.tmp 74) (.tmp 78) x74 x78)) fun x79 =>
        stS Tryd.prog (sPick x69 x79 (.bool false)) fun x80 =>
        gdK x80 false (fun k => k y12) fun x82 =>
        gdK x80 false (fun k => k x27) fun x83 =>
        gdK x80 false (stS Tryd.prog (sLen #[45] 3 [x83])) fun x84 =>
        gdK x80 false (stS Tryd.prog (sBin .geq 3 x82 x84)) fun x85 =>
        gdK x80 false (fun k => k x85) fun x86 =>
        gdK x86 true (fun k => k x37) fun x87 =>
        gdK x86 true (fun k => k y12) fun x88 =>
        gdK x86 true (stS Tryd.prog (sIA 45 x87 x88)) fun x89 =>
        gdK x86 true (stS Tryd.prog (sLoad 54 x89)) fun x90 =>
        gdK x86 true (fun k => k x32) fun x91 =>
        gdK x86 true (fun k => k y12) fun x92 =>
        gdK x86 true (fun k => k x27) fun x93 =>
        gdK x86 true (stS Tryd.prog (sLen #[45] 3 [x93])) fun x94 =>
        gdK x86 true (stS Tryd.prog (sBin .sub 3 x92 x94)) fun x95 =>
        gdK x86 true (stS Tryd.prog (sIA 45 x91 x95)) fun x96 =>
        gdK x86 true (stS Tryd.prog (sLoad 54 x96)) fun x97 =>
        gdK x86 true (stS Tryd.prog (sEq .neq 54 (.tmp 90) (.tmp 97) x90 x97)) fun x98 =>
        gdK x80 false (stS Tryd.prog (sPick x86 x98 (.bool false))) fun x99 =>
        stS Tryd.prog (sPick x80 (.bool true) x99) fun x100 =>
        condS x100
        (K (.bool false))
        (opN Tryd.prog (sBin .add 3 y12 (.int .i64 1)) Kp fun x65 =>
         next1 I1 m1 x65)))
      (J1)) (.int .i64 0)))
   (J1)) fun _ =>
  opN Tryd.prog (sCall (fn 21) [v0]) Kp fun x103 =>
  opN Tryd.prog (sExt x103 0) Kp fun x104 =>
  opN Tryd.prog (sExt x103 1) Kp fun x105 =>
  opN Tryd.prog (sCall (fn 21) [v1]) Kp fun x108 =>
  opN Tryd.prog (sExt x108 0) Kp fun x109 =>
  opN Tryd.prog (sExt x108 1) Kp fun x110 =>
  opN Tryd.prog (sCall (fn 21) [x23]) Kp fun x113 =>
  opN Tryd.prog (sExt x113 0) Kp fun x114 =>
  opN Tryd.prog (sExt x113 1) Kp fun x115 =>
  opN Tryd.prog (sCall (fn 11) [x105]) Kp fun x117 =>
  opN Tryd.prog (sEq .neq 3 (.tmp 117) (.const (.int .i64 0)) x117 (.int .i64 0)) Kp fun x118 =>
  gdK x118 false (fun k => k x110) fun x120 =>
  gdK x118 false (opN Tryd.prog (sCall (fn 11) [x120]) Kp) fun x121 =>
  gdK x118 false (opN Tryd.prog (sEq .neq 3 (.tmp 121) (.const (.int .i64 0)) x121 (.int .i64 0)) Kp) fun x122 =>
  opN Tryd.prog (sPick x118 (.bool true) x122) Kp fun x123 =>
  condS x123
  (opN Tryd.prog (sCall (fn 12) []) Kp fun x124 =>
   K x124)
  (opN Tryd.prog (sCall (fn 11) [x115]) Kp fun x126 =>
   opN Tryd.prog (sEq .neq 3 (.tmp 126) (.const (.int .i64 0)) x126 (.int .i64 0)) Kp fun x127 =>
   gdK x127 false (fun k => k x114) fun x129 =>
   gdK x127 false (opN Tryd.prog (sLen #[55] 3 [x129]) Kp) fun x130 =>
   gdK x127 false (fun k => k x104) fun x131 =>
   gdK x127 false (opN Tryd.prog (sLen #[55] 3 [x131]) Kp) fun x132 =>
   gdK x127 false (fun k => k x109) fun x133 =>
   gdK x127 false (opN Tryd.prog (sLen #[55] 3 [x133]) Kp) fun x134 =>
   gdK x127 false (opN Tryd.prog (sBin .add 3 x132 x134) Kp) fun x135 =>
   gdK x127 false (opN Tryd.prog (sEq .neq 3 (.tmp 130) (.tmp 135) x130 x135) Kp) fun x136 =>
   opN Tryd.prog (sPick x127 (.bool true) x136) Kp fun x137 =>
   condS x137
   (K (.bool false))
   (loop1 (fun I2 m2 _ y19 =>
     opN Tryd.prog (sLen #[55] 3 [x114]) Kp fun x140 =>
     opN Tryd.prog (sBin .lss 3 y19 x140) Kp fun x141 =>
     condS x141
     (drS (stS Tryd.prog (sLen #[55] 3 [x104]) fun x146 =>
       stS Tryd.prog (sBin .lss 3 y19 x146) fun x147 =>
       gdK x147 true (fun k => k x114) fun x149 =>
       gdK x147 true (fun k => k y19) fun x150 =>
       gdK x147 true (stS Tryd.prog (sIA 55 x149 x150)) fun x151 =>
       gdK x147 true (stS Tryd.prog (sLoad 59 x151)) fun x152 =>
       gdK x147 true (fun k => k x104) fun x153 =>
       gdK x147 true (fun k => k y19) fun x154 =>
       gdK x147 true (stS Tryd.prog (sIA 55 x153 x154)) fun x155 =>
       gdK x147 true (stS Tryd.prog (sLoad 59 x155)) fun x156 =>
       gdK x147 true (stS Tryd.prog (sEq .neq 59 (.tmp 152) (.tmp 156) x152 x156)) fun x157 =>
       stS Tryd.prog (sPick x147 x157 (.bool false)) fun x158 =>
       gdK x158 false (fun k => k y19) fun x160 =>
       gdK x158 false (fun k => k x104) fun x161 =>
       gdK x158 false (stS Tryd.prog (sLen #[55] 3 [x161])) fun x162 =>
       gdK x158 false (stS Tryd.prog (sBin .geq 3 x160 x162)) fun x163 =>
       gdK x158 false (fun k => k x163) fun x164 =>
       gdK x164 true (fun k => k x114) fun x165 =>
       gdK x164 true (fun k => k y19) fun x166 =>
       gdK x164 true (stS Tryd.prog (sIA 55 x165 x166)) fun x167 =>
       gdK x164 true (stS Tryd.prog (sLoad 59 x167)) fun x168 =>
       gdK x164 true (fun k => k x109) fun x169 =>
       gdK x164 true (fun k => k y19) fun x170 =>
       gdK x164 true (fun k => k x104) fun x171 =>
       gdK x164 true (stS Tryd.prog (sLen #[55] 3 [x171])) fun x172 =>
       gdK x164 true (stS Tryd.prog (sBin .sub 3 x170 x172)) fun x173 =>
       gdK x164 true (stS Tryd.prog (sIA 55 x169 x173)) fun x174 =>
       gdK x164 true (stS Tryd.prog (sLoad 59 x174)) fun x175 =>
       gdK x164 true (stS Tryd.prog (sEq .neq 59 (.tmp 168) (.tmp 175) x168 x175)) fun x176 =>
       gdK x158 false (stS Tryd.prog (sPick x164 x176 (.bool false))) fun x177 =>
       stS Tryd.prog (sPick x158 (.bool true) x177) fun x178 =>
       condS x178
       (K (.bool false))
       (opN Tryd.prog (sBin .add 3 y19 (.int .i64 1)) Kp fun x143 =>
        next1 I2 m2 x143)))
     (opN Tryd.prog (sCall (fn 12) []) Kp fun x179 =>
      K x179)) (.int .i64 0)))
def law10_FieldsJoined_an : Ann := { cuts := [(13, [])], blks := [], loops := [(9, [12]), (21, [19])], drs := [(11, [(0, 1), (1, 1), (2, 1), (3, 1), (4, 1), (5, 1), (6, 1), (7, 1), (8, 1), (9, 1), (10, 1), (11, 1), (12, 1), (13, 1), (14, 1), (15, 1), (16, 1), (17, 1), (18, 1), (19, 1), (20, 1), (21, 1), (22, 1), (23, 1), (24, 1), (25, 1), (26, 1), (27, 1), (28, 1), (29, 1), (30, 1), (31, 1), (32, 1), (33, 1), (34, 1)]), (23, [(0, 1), (1, 1), (2, 1), (3, 1), (4, 1), (5, 1), (6, 1), (7, 1), (8, 1), (9, 1), (10, 1), (11, 1), (12, 1), (13, 1), (14, 1), (15, 1), (16, 1), (17, 1), (18, 1), (19, 1), (20, 1), (21, 1), (22, 1), (23, 1), (24, 1), (25, 1), (26, 1), (27, 1), (28, 1), (29, 1), (30, 1), (31, 1), (32, 1), (33, 1), (34, 1)])] }
theorem law10_FieldsJoined_eq (v0 v1 : Value) (Kp : PK) (K : Value → WP) : cevF Tryd.prog law10_FieldsJoined_an Tryd.f6 [v0, v1] Kp K = law10_FieldsJoined v0 v1 Kp K := by kernel_rfl
theorem law10_FieldsJoined_calls {v0 v1 : Value} {Kp : PK} {K : Value → WP} {w : World} (h : law10_FieldsJoined v0 v1 Kp K w) : Calls Tryd.prog 6 #[v0, v1] w (after Kp K) :=
  calls_of_shape (calls_of_cev wide Tryd.func6 (an := law10_FieldsJoined_an) (args := [v0, v1]) (cast (congrFun (law10_FieldsJoined_eq v0 v1 Kp K) w).symm h))
theorem law10_FieldsJoined_cn {v0 v1 : Value} {W : World} {α : Type} {A : List HP} {r : α → Value} {B : α → List HP} (h : ∀ F, Ent W (A ++ F) (law10_FieldsJoined v0 v1 noP fun v w => ∃ x, v = r x ∧ sat W (B x ++ F) w)) : Cn Tryd.prog 6 [v0, v1] W A r B :=
  Cn.of (shape := law10_FieldsJoined v0 v1) Tryd.call6 (fun h => law10_FieldsJoined_calls h) h
theorem law10_FieldsJoined_cnP {v0 v1 : Value} {W : World} {α β : Type} {A : List HP} {r : α → Value} {B : α → List HP} {pc : β → List PanicEntry} {Bp : β → List HP} (h : ∀ F, Ent W (A ++ F) (law10_FieldsJoined v0 v1 (fun ch w => ∃ y, ch = pc y ∧ sat W (Bp y ++ F) w) fun v w => ∃ x, v = r x ∧ sat W (B x ++ F) w)) : CnP Tryd.prog 6 [v0, v1] W A r B pc Bp :=
  CnP.of (shape := law10_FieldsJoined v0 v1) Tryd.call6 (fun h => law10_FieldsJoined_calls h) h

/-- law10_FieldsTags -/
def law10_FieldsTags (v0 v1 v2 : Value) (Kp : PK) (K : Value → WP) : WP :=
  opN Tryd.prog (sBox 36 v1) Kp fun x4 =>
  opN Tryd.prog (sBox 36 v2) Kp fun x5 =>
  opN Tryd.prog (sCall (fn 22) [v0]) Kp fun x21 =>
  opN Tryd.prog (sExt x21 0) Kp fun x22 =>
  opN Tryd.prog (sExt x21 1) Kp fun x23 =>
  opN Tryd.prog (sAlloc 37) Kp fun x7 =>
  opN Tryd.prog (sStore 37 x7 x22) Kp fun _ =>
  opN Tryd.prog (sCall (fn 23) [v0]) Kp fun x26 =>
  opN Tryd.prog (sExt x26 0) Kp fun x27 =>
  opN Tryd.prog (sExt x26 1) Kp fun x28 =>
  opN Tryd.prog (sAlloc 36) Kp fun x9 =>
  opN Tryd.prog (sStore 36 x9 x27) Kp fun _ =>
  opN Tryd.prog (sCall (fn 24) [v0]) Kp fun x31 =>
  opN Tryd.prog (sExt x31 0) Kp fun x32 =>
  opN Tryd.prog (sExt x31 1) Kp fun x33 =>
  opN Tryd.prog (sExt x31 2) Kp fun x34 =>
  opN Tryd.prog (sCall (fn 25) [v0]) Kp fun x37 =>
  opN Tryd.prog (sExt x37 0) Kp fun x38 =>
  opN Tryd.prog (sExt x37 1) Kp fun x39 =>
  opN Tryd.prog (sExt x37 2) Kp fun x40 =>
  opN Tryd.prog (sFA 36 x4 0) Kp fun x41 =>
  opN Tryd.prog (sLoad 4 x41) Kp fun x42 =>
  opN Tryd.prog (sFA 36 x4 1) Kp fun x43 =>
  opN Tryd.prog (sLoad 9 x43) Kp fun x44 =>
  opN Tryd.prog (sBuild 37 [(0, x42), (1, x44)]) Kp fun x45 =>
  opN Tryd.prog (sAlloc 37) Kp fun x17 =>
  opN Tryd.prog (sStore 37 x17 x45) Kp fun _ =>
  opN Tryd.prog (sFA 36 x5 0) Kp fun x46 =>
  opN Tryd.prog (sLoad 4 x46) Kp fun x47 =>
  opN Tryd.prog (sFA 36 x5 1) Kp fun x48 =>
  opN Tryd.prog (sLoad 9 x48) Kp fun x49 =>
  opN Tryd.prog (sBuild 37 [(0, x47), (1, x49)]) Kp fun x50 =>
  opN Tryd.prog (sAlloc 37) Kp fun x18 =>
  opN Tryd.prog (sStore 37 x18 x50) Kp fun _ =>
  opN Tryd.prog (sFA 37 x7 0) Kp fun x51 =>
  opN Tryd.prog (sLoad 4 x51) Kp fun x52 =>
  opN Tryd.prog (sFA 36 x9 0) Kp fun x53 =>
  opN Tryd.prog (sLoad 4 x53) Kp fun x54 =>
  opN Tryd.prog (sEq .neq 4 (.tmp 52) (.tmp 54) x52 x54) Kp fun x55 =>
  gdK x55 false (opN Tryd.prog (sFA 37 x7 1) Kp) fun x57 =>
  gdK x55 false (opN Tryd.prog (sLoad 9 x57) Kp) fun x58 =>
  gdK x55 false (opN Tryd.prog (sFA 36 x9 1) Kp) fun x59 =>
  gdK x55 false (opN Tryd.prog (sLoad 9 x59) Kp) fun x60 =>
  gdK x55 false (opN Tryd.prog (sEq .neq 9 (.tmp 58) (.tmp 60) x58 x60) Kp) fun x61 =>
  opN Tryd.prog (sPick x55 (.bool true) x61) Kp fun x62 =>
  gdK x62 false (fun k => k x23) fun x64 =>
  gdK x62 false (opN Tryd.prog (sCall (fn 11) [x64]) Kp) fun x65 =>
  gdK x62 false (fun k => k x28) fun x66 =>
  gdK x62 false (opN Tryd.prog (sEq .neq 3 (.tmp 65) (.tmp 66) x65 x66) Kp) fun x67 =>
  opN Tryd.prog (sPick x62 (.bool true) x67) Kp fun x68 =>
  gdK x68 false (fun k => k x32) fun x70 =>
  gdK x68 false (fun k => k x38) fun x71 =>
  gdK x68 false (opN Tryd.prog (sCall (fn 26) [x70, x71]) Kp) fun x72 =>
  gdK x68 false (opN Tryd.prog (sUn .not x72) Kp) fun x73 =>
  opN Tryd.prog (sPick x68 (.bool true) x73) Kp fun x74 =>
  gdK x74 false (fun k => k x33) fun x76 =>
  gdK x74 false (fun k => k x39) fun x77 =>
  gdK x74 false (opN Tryd.prog (sEq .neq 4 (.tmp 76) (.tmp 77) x76 x77) Kp) fun x78 =>
  opN Tryd.prog (sPick x74 (.bool true) x78) Kp fun x79 =>
  gdK x79 false (fun k => k x34) fun x81 =>
  gdK x79 false (opN Tryd.prog (sCall (fn 11) [x81]) Kp) fun x82 =>
  gdK x79 false (fun k => k x40) fun x83 =>
  gdK x79 false (opN Tryd.prog (sEq .neq 3 (.tmp 82) (.tmp 83) x82 x83) Kp) fun x84 =>
  opN Tryd.prog (sPick x79 (.bool true) x84) Kp fun x85 =>
  condS x85
  (K (.bool false))
  (drS (stS Tryd.prog (sLoad 37 x17) fun x86 =>
    stD Tryd.prog (sLoad 36 x4) fun D2 x88 =>
    opN Tryd.prog (sCall (fn 27) [x86]) Kp fun x87 =>
    (fun w => D2 w ∧ (opN Tryd.prog (sCall (fn 28) [x88]) Kp fun x89 =>
      stS Tryd.prog (sEq .eql 9 (.tmp 87) (.tmp 89) x87 x89) fun x90 =>
      gdK x90 true (stS Tryd.prog (sLoad 37 x17)) fun x92 =>
      gdK x90 true (stS Tryd.prog (sLoad 37 x18)) fun x93 =>
      gdD x90 true (stD Tryd.prog (sLoad 36 x4)) fun D9 x95 =>
      gdD x90 true (stD Tryd.prog (sLoad 36 x5)) fun D10 x96 =>
      gdK x90 true (opN Tryd.prog (sCall (fn 13) [x92, x93]) Kp) fun x94 =>
      (fun w => D10 w ∧ (fun w => D9 w ∧ (gdK x90 true (opN Tryd.prog (sCall (fn 29) [x95, x96]) Kp) fun x97 =>
         gdK x90 true (stS Tryd.prog (sEq .eql 4 (.tmp 94) (.tmp 97) x94 x97)) fun x98 =>
         stS Tryd.prog (sPick x90 x98 (.bool false)) fun x99 =>
         gdK x99 true (stS Tryd.prog (sLoad 37 x17)) fun x101 =>
         gdK x99 true (stS Tryd.prog (sLoad 37 x18)) fun x102 =>
         gdD x99 true (stD Tryd.prog (sLoad 36 x4)) fun D18 x104 =>
         gdD x99 true (stD Tryd.prog (sLoad 36 x5)) fun D19 x105 =>
         gdK x99 true (opN Tryd.prog (sCall (fn 14) [x101, x102]) Kp) fun x103 =>
         (fun w => D19 w ∧ (fun w => D18 w ∧ (gdK x99 true (opN Tryd.prog (sCall (fn 30) [x104, x105]) Kp) fun x106 =>
            gdK x99 true (stS Tryd.prog (sEq .eql 4 (.tmp 103) (.tmp 106) x103 x106)) fun x107 =>
            stS Tryd.prog (sPick x99 x107 (.bool false)) fun x108 =>
            gdK x108 true (opN Tryd.prog (sCall (fn 12) []) Kp) fun x110 =>
            stS Tryd.prog (sPick x108 x110 (.bool false)) fun x111 =>
            K x111) w) w)) w) w)) w)))
def law10_FieldsTags_an : Ann := { cuts := [], blks := [], loops := [], drs := [(9, [(0, 1), (2, 3), (1, 0), (3, 0), (4, 1), (5, 1), (6, 1), (7, 1), (9, 3), (10, 3), (8, 0), (11, 0), (12, 1), (13, 1), (14, 1), (15, 1), (16, 1), (18, 3), (19, 3), (17, 0), (20, 0), (21, 1), (22, 1), (23, 1), (24, 0), (25, 1), (26, 1)])] }
theorem law10_FieldsTags_eq (v0 v1 v2 : Value) (Kp : PK) (K : Value → WP) : cevF Tryd.prog law10_FieldsTags_an Tryd.f7 [v0, v1, v2] Kp K = law10_FieldsTags v0 v1 v2 Kp K := by kernel_rfl
theorem law10_FieldsTags_calls {v0 v1 v2 : Value} {Kp : PK} {K : Value → WP} {w : World} (h : law10_FieldsTags v0 v1 v2 Kp K w) : Calls Tryd.prog 7 #[v0, v1, v2] w (after Kp K) :=
  calls_of_shape (calls_of_cev wide Tryd.func7 (an := law10_FieldsTags_an) (args := [v0, v1, v2]) (cast (congrFun (law10_FieldsTags_eq v0 v1 v2 Kp K) w).symm h))
theorem law10_FieldsTags_cn {v0 v1 v2 : Value} {W : World} {α : Type} {A : List HP} {r : α → Value} {B : α → List HP} (h : ∀ F, Ent W (A ++ F) (law10_FieldsTags v0 v1 v2 noP fun v w => ∃ x, v = r x ∧ sat W (B x ++ F) w)) : Cn Tryd.prog 7 [v0, v1, v2] W A r B :=
  Cn.of (shape := law10_FieldsTags v0 v1 v2) Tryd.call7 (fun h => law10_FieldsTags_calls h) h
theorem law10_FieldsTags_cnP {v0 v1 v2 : Value} {W : World} {α β : Type} {A : List HP} {r : α → Value} {B : α → List HP} {pc : β → List PanicEntry} {Bp : β → List HP} (h : ∀ F, Ent W (A ++ F) (law10_FieldsTags v0 v1 v2 (fun ch w => ∃ y, ch = pc y ∧ sat W (Bp y ++ F) w) fun v w => ∃ x, v = r x ∧ sat W (B x ++ F) w)) : CnP Tryd.prog 7 [v0, v1, v2] W A r B pc Bp :=
  CnP.of (shape := law10_FieldsTags v0 v1 v2) Tryd.call7 (fun h => law10_FieldsTags_calls h) h

/-- law22_PoolPrivate -/
def law22_PoolPrivate (v0 v1 v2 v3 : Value) (Kp : PK) (K : Value → WP) : WP :=
  opN Tryd.prog (sBox 77 v0) Kp fun x4 =>
  opN Tryd.prog (sBox 79 v1) Kp fun x5 =>
  opN Tryd.prog (sFA 79 x5 0) Kp fun x15 =>
  opN Tryd.prog (sLoad 3 x15) Kp fun x16 =>
  opN Tryd.prog (sFA 79 x5 1) Kp fun x17 =>
  opN Tryd.prog (sLoad 9 x17) Kp fun x18 =>
  opN Tryd.prog (sFA 79 x5 2) Kp fun x19 =>
  opN Tryd.prog (sLoad 3 x19) Kp fun x20 =>
  opN Tryd.prog (sFA 79 x5 3) Kp fun x21 =>
  opN Tryd.prog (sLoad 9 x21) Kp fun x22 =>
  opN Tryd.prog (sFA 79 x5 4) Kp fun x23 =>
  opN Tryd.prog (sLoad 9 x23) Kp fun x24 =>
  opN Tryd.prog (sFA 79 x5 5) Kp fun x25 =>
  opN Tryd.prog (sLoad 4 x25) Kp fun x26 =>
  opN Tryd.prog (sBuild 80 [(0, x16), (1, x18), (2, x20), (3, x22), (4, x24), (5, x26)]) Kp fun x27 =>
  opN Tryd.prog (sAlloc 80) Kp fun x9 =>
  opN Tryd.prog (sStore 80 x9 x27) Kp fun _ =>
  opN Tryd.prog (sLoad 77 x4) Kp fun x28 =>
  opN Tryd.prog (sLoad 80 x9) Kp fun x29 =>
  opN Tryd.prog (sCall (fn 31) [x28, x29, v2, v3]) Kp fun x32 =>
  opN Tryd.prog (sAlloc 77) Kp fun x10 =>
  opN Tryd.prog (sStore 77 x10 x32) Kp fun _ =>
  opN Tryd.prog (sBuildSl 40 8 [(0, (.string ⟨#[67, 111, 110, 110, 101, 99, 116, 105, 111, 110]⟩)), (1, (.string ⟨#[75, 101, 101, 112, 45, 65, 108, 105, 118, 101]⟩)), (2, (.string ⟨#[84, 69]⟩)), (3, (.string ⟨#[84, 114, 97, 105, 108, 101, 114]⟩)), (4, (.string ⟨#[84, 114, 97, 110, 115, 102, 101, 114, 45, 69, 110, 99, 111, 100, 105, 110, 103]⟩)), (5, (.string ⟨#[85, 112, 103, 114, 97, 100, 101]⟩)), (6, (.string ⟨#[80, 114, 111, 120, 121, 45, 67, 111, 110, 110, 101, 99, 116, 105, 111, 110]⟩)), (7, (.string ⟨#[69, 120, 112, 101, 99, 116]⟩))]) Kp fun x33 =>
  loop1 (fun I1 m1 _ y12 =>
   opN Tryd.prog (sLen #[40] 3 [x33]) Kp fun x36 =>
   opN Tryd.prog (sBin .lss 3 y12 x36) Kp fun x37 =>
   condS x37
   (drS (stS Tryd.prog (sFA 77 x10 3) fun x40 =>
     stS Tryd.prog (sLoad 75 x40) fun x41 =>
     stS Tryd.prog (sIA 40 x33 y12) fun x44 =>
     stS Tryd.prog (sLoad 9 x44) fun x45 =>
     opN Tryd.prog (sCall (fn 32) [x41, x45]) Kp fun x46 =>
     stS Tryd.prog (sLen #[40] 3 [x46]) fun x47 =>
     stS Tryd.prog (sBin .gtr 3 x47 (.int .i64 0)) fun x48 =>
     condS x48
     (K (.bool false))
     (opN Tryd.prog (sBin .add 3 y12 (.int .i64 1)) Kp fun x39 =>
      next1 I1 m1 x39)))
   (opN Tryd.prog (sFA 77 x10 3) Kp fun x49 =>
    opN Tryd.prog (sLoad 75 x49) Kp fun x50 =>
    opN Tryd.prog (sCall (fn 32) [x50, (.string ⟨#[99, 111, 110, 116, 101, 110, 116, 45, 108, 101, 110, 103, 116, 104]⟩)]) Kp fun x51 =>
    opN Tryd.prog (sFA 77 x10 3) Kp fun x52 =>
    opN Tryd.prog (sLoad 75 x52) Kp fun x53 =>
    opN Tryd.prog (sCall (fn 32) [x53, (.string ⟨#[118, 105, 97]⟩)]) Kp fun x54 =>
    drS (stS Tryd.prog (sLen #[40] 3 [x54]) fun x56 =>
     stS Tryd.prog (sEq .neq 3 (.tmp 56) (.const (.int .i64 1)) x56 (.int .i64 1)) fun x57 =>
     gdK x57 false (fun k => k x54) fun x59 =>
     gdK x57 false (stS Tryd.prog (sIA 40 x59 (.int .i64 0))) fun x60 =>
     gdK x57 false (stS Tryd.prog (sLoad 9 x60)) fun x61 =>
     gdK x57 false (stS Tryd.prog (sLen #[9] 3 [x61])) fun x62 =>
     gdK x57 false (stS Tryd.prog (sBin .lss 3 x62 (.int .i64 9))) fun x63 =>
     stS Tryd.prog (sPick x57 (.bool true) x63) fun x64 =>
     gdK x64 false (fun k => k x54) fun x66 =>
     gdK x64 false (stS Tryd.prog (sIA 40 x66 (.int .i64 0))) fun x67 =>
     gdK x64 false (stS Tryd.prog (sLoad 9 x67)) fun x68 =>
     gdK x64 false (fun k => k x54) fun x69 =>
     gdK x64 false (stS Tryd.prog (sIA 40 x69 (.int .i64 0))) fun x70 =>
     gdK x64 false (stS Tryd.prog (sLoad 9 x70)) fun x71 =>
     gdK x64 false (stS Tryd.prog (sLen #[9] 3 [x71])) fun x72 =>
     gdK x64 false (stS Tryd.prog (sBin .sub 3 x72 (.int .i64 9))) fun x73 =>
     gdK x64 false (stS Tryd.prog (sSl 9 x68 (some x73) none none)) fun x74 =>
     gdK x64 false (stS Tryd.prog (sEq .neq 9 (.tmp 74) (.const (.string ⟨#[103, 97, 116, 101, 104, 111, 117, 115, 101]⟩)) x74 (.string ⟨#[103, 97, 116, 101, 104, 111, 117, 115, 101]⟩))) fun x75 =>
     stS Tryd.prog (sPick x64 (.bool true) x75) fun x76 =>
     gdK x76 false (stS Tryd.prog (sFA 77 x10 3)) fun x78 =>
     gdK x76 false (stS Tryd.prog (sLoad 75 x78)) fun x79 =>
     gdK x76 false (opN Tryd.prog (sCall (fn 32) [x79, (.string ⟨#[104, 111, 115, 116]⟩)]) Kp) fun x80 =>
     gdK x76 false (stS Tryd.prog (sLen #[40] 3 [x80])) fun x81 =>
     gdK x76 false (stS Tryd.prog (sEq .neq 3 (.tmp 81) (.const (.int .i64 1)) x81 (.int .i64 1))) fun x82 =>
     stS Tryd.prog (sPick x76 (.bool true) x82) fun x83 =>
     condS x83
     (K (.bool false))
     (drS (gdK v3 true (fun k => k x51) fun x86 =>
       gdK v3 true (stS Tryd.prog (sLen #[40] 3 [x86])) fun x87 =>
       gdK v3 true (stS Tryd.prog (sEq .eql 3 (.tmp 87) (.const (.int .i64 1)) x87 (.int .i64 1))) fun x88 =>
       stS Tryd.prog (sPick v3 x88 (.bool false)) fun x89 =>
       gdK x89 true (fun k => k x51) fun x91 =>
       gdD x89 true (stD Tryd.prog (sIA 40 x91 (.int .i64 0))) fun D8 x92 =>
       gdD x89 true (stD Tryd.prog (sLoad 9 x92)) fun D9 x93 =>
       gdK x89 true (fun k => k v2) fun x94 =>
       gdK x89 true (opN Tryd.prog (sCall (fn 33) [x94]) Kp) fun x95 =>
       (fun w => D9 w ∧ (fun w => D8 w ∧ (gdK x89 true (stS Tryd.prog (sEq .eql 9 (.tmp 93) (.tmp 95) x93 x95)) fun x96 =>
          stS Tryd.prog (sPick x89 x96 (.bool false)) fun x97 =>
          gdK x97 false (fun k => k v3) fun x99 =>
          gdK x97 false (stS Tryd.prog (sUn .not x99)) fun x100 =>
          gdK x97 false (fun k => k x100) fun x101 =>
          gdK x101 true (fun k => k x51) fun x102 =>
          gdK x101 true (stS Tryd.prog (sLen #[40] 3 [x102])) fun x103 =>
          gdK x101 true (stS Tryd.prog (sEq .eql 3 (.tmp 103) (.const (.int .i64 0)) x103 (.int .i64 0))) fun x104 =>
          gdK x97 false (stS Tryd.prog (sPick x101 x104 (.bool false))) fun x105 =>
          stS Tryd.prog (sPick x97 (.bool true) x105) fun x106 =>
          gdK x106 true (stS Tryd.prog (sFA 77 x10 2)) fun x108 =>
          gdK x106 true (stS Tryd.prog (sLoad 3 x108)) fun x109 =>
          gdK x106 true (stS Tryd.prog (sEq .eql 3 (.tmp 109) (.const (.int .i64 1)) x109 (.int .i64 1))) fun x110 =>
          stS Tryd.prog (sPick x106 x110 (.bool false)) fun x111 =>
          gdK x111 true (stS Tryd.prog (sFA 77 x10 0)) fun x113 =>
          gdK x111 true (stS Tryd.prog (sLoad 9 x113)) fun x114 =>
          gdK x111 true (stS Tryd.prog (sFA 77 x4 0)) fun x115 =>
          gdK x111 true (stS Tryd.prog (sLoad 9 x115)) fun x116 =>
          gdK x111 true (stS Tryd.prog (sEq .eql 9 (.tmp 114) (.tmp 116) x114 x116)) fun x117 =>
          stS Tryd.prog (sPick x111 x117 (.bool false)) fun x118 =>
          gdK x118 true (opN Tryd.prog (sCall (fn 34) []) Kp) fun x120 =>
          stS Tryd.prog (sPick x118 x120 (.bool false)) fun x121 =>
          K x121) w) w)))))) (.int .i64 0)
def law22_PoolPrivate_an : Ann := { cuts := [], blks := [], loops := [(5, [12])], drs := [(7, [(0, 1), (1, 1), (2, 1), (3, 1), (4, 1), (5, 1), (6, 0), (7, 1), (8, 1)]), (11, [(0, 1), (1, 1), (2, 1), (3, 1), (4, 1), (5, 1), (6, 1), (7, 1), (8, 1), (9, 1), (10, 1), (11, 1), (12, 1), (13, 1), (14, 1), (15, 1), (16, 1), (17, 1), (18, 1), (19, 1), (20, 1), (21, 1), (22, 1), (23, 1), (24, 1), (25, 0), (26, 1), (27, 1), (28, 1)]), (13, [(0, 1), (1, 1), (2, 1), (3, 1), (4, 1), (5, 1), (6, 1), (7, 2), (8, 3), (9, 3), (10, 1), (11, 0), (12, 1), (13, 1), (14, 1), (15, 1), (16, 1), (17, 1), (18, 1), (19, 1), (20, 1), (21, 1), (22, 1), (23, 1), (24, 1), (25, 1), (26, 1), (27, 1), (28, 1), (29, 1), (30, 1), (31, 1), (32, 1), (33, 1), (34, 1), (35, 1), (36, 0), (37, 1), (38, 1)])] }
theorem law22_PoolPrivate_eq (v0 v1 v2 v3 : Value) (Kp : PK) (K : Value → WP) : cevF Tryd.prog law22_PoolPrivate_an Tryd.f8 [v0, v1, v2, v3] Kp K = law22_PoolPrivate v0 v1 v2 v3 Kp K := by kernel_rfl
theorem law22_PoolPrivate_calls {v0 v1 v2 v3 : Value} {Kp : PK} {K : Value → WP} {w : World} (h : law22_PoolPrivate v0 v1 v2 v3 Kp K w) : Calls Tryd.prog 8 #[v0, v1, v2, v3] w (after Kp K) :=
  calls_of_shape (calls_of_cev wide Tryd.func8 (an := law22_PoolPrivate_an) (args := [v0, v1, v2, v3]) (cast (congrFun (law22_PoolPrivate_eq v0 v1 v2 v3 Kp K) w).symm h))
theorem law22_PoolPrivate_cn {v0 v1 v2 v3 : Value} {W : World} {α : Type} {A : List HP} {r : α → Value} {B : α → List HP} (h : ∀ F, Ent W (A ++ F) (law22_PoolPrivate v0 v1 v2 v3 noP fun v w => ∃ x, v = r x ∧ sat W (B x ++ F) w)) : Cn Tryd.prog 8 [v0, v1, v2, v3] W A r B :=
  Cn.of (shape := law22_PoolPrivate v0 v1 v2 v3) Tryd.call8 (fun h => law22_PoolPrivate_calls h) h
theorem law22_PoolPrivate_cnP {v0 v1 v2 v3 : Value} {W : World} {α β : Type} {A : List HP} {r : α → Value} {B : α → List HP} {pc : β → List PanicEntry} {Bp : β → List HP} (h : ∀ F, Ent W (A ++ F) (law22_PoolPrivate v0 v1 v2 v3 (fun ch w => ∃ y, ch = pc y ∧ sat W (Bp y ++ F) w) fun v w => ∃ x, v = r x ∧ sat W (B x ++ F) w)) : CnP Tryd.prog 8 [v0, v1, v2, v3] W A r B pc Bp :=
  CnP.of (shape := law22_PoolPrivate v0 v1 v2 v3) Tryd.call8 (fun h => law22_PoolPrivate_calls h) h

/-- fields_Spans -/
def fields_Spans (v0 : Value) (Kp : PK) (K : Value → WP) : WP :=
  opN Tryd.prog (sLen #[9] 3 [v0]) Kp fun x7 =>
  opN Tryd.prog (sBin .lss 3 x7 (.int .i64 6)) Kp fun x8 =>
  gdK x8 false (fun k => k v0) fun x10 =>
  gdK x8 false (opN Tryd.prog (sSl 9 x10 none (some (.int .i64 6)) none) Kp) fun x11 =>
  gdK x8 false (opN Tryd.prog (sCall (fn 35) [x11, (.string ⟨#[98, 121, 116, 101, 115, 61]⟩)]) Kp) fun x12 =>
  gdK x8 false (opN Tryd.prog (sUn .not x12) Kp) fun x13 =>
  opN Tryd.prog (sPick x8 (.bool true) x13) Kp fun x14 =>
  condS x14
  (K (.tuple #[(.slice none 0 0), (.int .i64 42)]))
  (opN Tryd.prog (sSl 9 v0 (some (.int .i64 6)) none none) Kp fun x17 =>
   opN Tryd.prog (sBuild 88 [(2, (fn 37))]) Kp fun x18 =>
   opN Tryd.prog (sCall (fn 36) [x17, x18]) Kp fun x19 =>
   opN Tryd.prog (sExt x19 0) Kp fun x20 =>
   opN Tryd.prog (sExt x19 1) Kp fun x21 =>
   cut1 (fun J1 =>
    opN Tryd.prog (sEq .neq 23 (.tmp 23) (.const (.int .i64 0)) x21 (.int .i64 0)) Kp fun x24 =>
    condS x24
    (J1 x24)
    (opN Tryd.prog (sLen #[22] 3 [x20]) Kp fun x26 =>
     opN Tryd.prog (sEq .eql 3 (.tmp 26) (.const (.int .i64 0)) x26 (.int .i64 0)) Kp fun x27 =>
     J1 x27)) fun _ z22 =>
   condS z22
   (K (.tuple #[(.slice none 0 0), (.int .i64 42)]))
   (opN Tryd.prog (sLen #[22] 3 [x20]) Kp fun x30 =>
    opN Tryd.prog (sBin .gtr 3 x30 (.int .i64 16)) Kp fun x31 =>
    condS x31
    (K (.tuple #[(.slice none 0 0), (.int .i64 6)]))
    (K (.tuple #[x20, (.int .i64 0)]))))
def fields_Spans_an : Ann := { cuts := [(6, [22])], blks := [], loops := [], drs := [] }
theorem fields_Spans_eq (v0 : Value) (Kp : PK) (K : Value → WP) : cevF Tryd.prog fields_Spans_an Tryd.f9 [v0] Kp K = fields_Spans v0 Kp K := by kernel_rfl
theorem fields_Spans_calls {v0 : Value} {Kp : PK} {K : Value → WP} {w : World} (h : fields_Spans v0 Kp K w) : Calls Tryd.prog 9 #[v0] w (after Kp K) :=
  calls_of_shape (calls_of_cev wide Tryd.func9 (an := fields_Spans_an) (args := [v0]) (cast (congrFun (fields_Spans_eq v0 Kp K) w).symm h))
theorem fields_Spans_cn {v0 : Value} {W : World} {α : Type} {A : List HP} {r : α → Value} {B : α → List HP} (h : ∀ F, Ent W (A ++ F) (fields_Spans v0 noP fun v w => ∃ x, v = r x ∧ sat W (B x ++ F) w)) : Cn Tryd.prog 9 [v0] W A r B :=
  Cn.of (shape := fields_Spans v0) Tryd.call9 (fun h => fields_Spans_calls h) h
theorem fields_Spans_cnP {v0 : Value} {W : World} {α β : Type} {A : List HP} {r : α → Value} {B : α → List HP} {pc : β → List PanicEntry} {Bp : β → List HP} (h : ∀ F, Ent W (A ++ F) (fields_Spans v0 (fun ch w => ∃ y, ch = pc y ∧ sat W (Bp y ++ F) w) fun v w => ∃ x, v = r x ∧ sat W (B x ++ F) w)) : CnP Tryd.prog 9 [v0] W A r B pc Bp :=
  CnP.of (shape := fields_Spans v0) Tryd.call9 (fun h => fields_Spans_calls h) h

/-- ref10_Spans -/
def ref10_Spans (v0 : Value) (Kp : PK) (K : Value → WP) : WP :=
  opN Tryd.prog (sLen #[9] 3 [v0]) Kp fun x10 =>
  opN Tryd.prog (sBin .lss 3 x10 (.int .i64 6)) Kp fun x11 =>
  gdK x11 false (fun k => k v0) fun x13 =>
  gdK x11 false (opN Tryd.prog (sSl 9 x13 none (some (.int .i64 6)) none) Kp) fun x14 =>
  gdK x11 false (opN Tryd.prog (sCall (fn 38) [x14]) Kp) fun x15 =>
  gdK x11 false (opN Tryd.prog (sEq .neq 9 (.tmp 15) (.const (.string ⟨#[98, 121, 116, 101, 115, 61]⟩)) x15 (.string ⟨#[98, 121, 116, 101, 115, 61]⟩)) Kp) fun x16 =>
  opN Tryd.prog (sPick x11 (.bool true) x16) Kp fun x17 =>
  condS x17
  (K (.tuple #[(.slice none 0 0), (.int .i64 42)]))
  (opN Tryd.prog (sSl 9 v0 (some (.int .i64 6)) none none) Kp fun x19 =>
   opN Tryd.prog (sCall (fn 39) [x19, (.bool false), (.bool false)]) Kp fun x20 =>
   loop2 (fun I1 m1 _ y5 y6 =>
    opN Tryd.prog (sLen #[40] 3 [x20]) Kp fun x23 =>
    opN Tryd.prog (sBin .lss 3 y6 x23) Kp fun x24 =>
    condS x24
    (opN Tryd.prog (sIA 40 x20 y6) Kp fun x30 =>
     opN Tryd.prog (sLoad 9 x30) Kp fun x31 =>
     opN Tryd.prog (sCall (fn 40) [x31]) Kp fun x32 =>
     opN Tryd.prog (sExt x32 0) Kp fun x33 =>
     opN Tryd.prog (sExt x32 1) Kp fun x34 =>
     opN Tryd.prog (sAlloc 32) Kp fun x7 =>
     opN Tryd.prog (sStore 32 x7 x33) Kp fun _ =>
     opN Tryd.prog (sUn .not x34) Kp fun x36 =>
     condS x36
     (K (.tuple #[(.slice none 0 0), (.int .i64 42)]))
     (opN Tryd.prog (sLoad 32 x7) Kp fun x38 =>
      opN Tryd.prog (sBuildSl 26 1 [(0, x38)]) Kp fun x39 =>
      opN Tryd.prog (sApp #[26, 26] 26 [y5, x39]) Kp fun x40 =>
      opN Tryd.prog (sBin .add 3 y6 (.int .i64 1)) Kp fun x26 =>
      next2 I1 m1 x40 x26))
    (opN Tryd.prog (sLen #[26] 3 [y5]) Kp fun x42 =>
     opN Tryd.prog (sEq .eql 3 (.tmp 42) (.const (.int .i64 0)) x42 (.int .i64 0)) Kp fun x43 =>
     condS x43
     (K (.tuple #[(.slice none 0 0), (.int .i64 42)]))
     (opN Tryd.prog (sLen #[26] 3 [y5]) Kp fun x45 =>
      opN Tryd.prog (sBin .gtr 3 x45 (.int .i64 16)) Kp fun x46 =>
      condS x46
      (K (.tuple #[(.slice none 0 0), (.int .i64 6)]))
      (K (.tuple #[y5, (.int .i64 0)]))))) (.slice none 0 0) (.int .i64 0))
def ref10_Spans_an : Ann := { cuts := [], blks := [], loops := [(6, [5, 6])], drs := [] }
theorem ref10_Spans_eq (v0 : Value) (Kp : PK) (K : Value → WP) : cevF Tryd.prog ref10_Spans_an Tryd.f10 [v0] Kp K = ref10_Spans v0 Kp K := by kernel_rfl
theorem ref10_Spans_calls {v0 : Value} {Kp : PK} {K : Value → WP} {w : World} (h : ref10_Spans v0 Kp K w) : Calls Tryd.prog 10 #[v0] w (after Kp K) :=
  calls_of_shape (calls_of_cev wide Tryd.func10 (an := ref10_Spans_an) (args := [v0]) (cast (congrFun (ref10_Spans_eq v0 Kp K) w).symm h))
theorem ref10_Spans_cn {v0 : Value} {W : World} {α : Type} {A : List HP} {r : α → Value} {B : α → List HP} (h : ∀ F, Ent W (A ++ F) (ref10_Spans v0 noP fun v w => ∃ x, v = r x ∧ sat W (B x ++ F) w)) : Cn Tryd.prog 10 [v0] W A r B :=
  Cn.of (shape := ref10_Spans v0) Tryd.call10 (fun h => ref10_Spans_calls h) h
theorem ref10_Spans_cnP {v0 : Value} {W : World} {α β : Type} {A : List HP} {r : α → Value} {B : α → List HP} {pc : β → List PanicEntry} {Bp : β → List HP} (h : ∀ F, Ent W (A ++ F) (ref10_Spans v0 (fun ch w => ∃ y, ch = pc y ∧ sat W (Bp y ++ F) w) fun v w => ∃ x, v = r x ∧ sat W (B x ++ F) w)) : CnP Tryd.prog 10 [v0] W A r B pc Bp :=
  CnP.of (shape := ref10_Spans v0) Tryd.call10 (fun h => ref10_Spans_calls h) h

/-- law10_num -/
def law10_num (v0 : Value) (Kp : PK) (K : Value → WP) : WP :=
  K v0
def law10_num_an : Ann := { cuts := [], blks := [], loops := [], drs := [] }
theorem law10_num_eq (v0 : Value) (Kp : PK) (K : Value → WP) : cevF Tryd.prog law10_num_an Tryd.f11 [v0] Kp K = law10_num v0 Kp K := by kernel_rfl
theorem law10_num_calls {v0 : Value} {Kp : PK} {K : Value → WP} {w : World} (h : law10_num v0 Kp K w) : Calls Tryd.prog 11 #[v0] w (after Kp K) :=
  calls_of_shape (calls_of_cev wide Tryd.func11 (an := law10_num_an) (args := [v0]) (cast (congrFun (law10_num_eq v0 Kp K) w).symm h))
theorem law10_num_cn {v0 : Value} {W : World} {α : Type} {A : List HP} {r : α → Value} {B : α → List HP} (h : ∀ F, Ent W (A ++ F) (law10_num v0 noP fun v w => ∃ x, v = r x ∧ sat W (B x ++ F) w)) : Cn Tryd.prog 11 [v0] W A r B :=
  Cn.of (shape := law10_num v0) Tryd.call11 (fun h => law10_num_calls h) h
theorem law10_num_cnP {v0 : Value} {W : World} {α β : Type} {A : List HP} {r : α → Value} {B : α → List HP} {pc : β → List PanicEntry} {Bp : β → List HP} (h : ∀ F, Ent W (A ++ F) (law10_num v0 (fun ch w => ∃ y, ch = pc y ∧ sat W (Bp y ++ F) w) fun v w => ∃ x, v = r x ∧ sat W (B x ++ F) w)) : CnP Tryd.prog 11 [v0] W A r B pc Bp :=
  CnP.of (shape := law10_num v0) Tryd.call11 (fun h => law10_num_calls h) h

/-- law10_knows -/
def law10_knows (Kp : PK) (K : Value → WP) : WP :=
  opN Tryd.prog (sCall (fn 17) [(.string ⟨#[103, 122, 105, 112, 59, 113, 61, 48, 46, 53, 44, 32, 98, 114]⟩)]) Kp fun x6 =>
  opN Tryd.prog (sExt x6 0) Kp fun x7 =>
  opN Tryd.prog (sExt x6 1) Kp fun x8 =>
  opN Tryd.prog (sCall (fn 9) [(.string ⟨#[98, 121, 116, 101, 115, 61, 48, 45, 52, 44, 32, 45, 51]⟩)]) Kp fun x10 =>
  opN Tryd.prog (sExt x10 0) Kp fun x11 =>
  opN Tryd.prog (sExt x10 1) Kp fun x12 =>
  opN Tryd.prog (sCall (fn 11) [x8]) Kp fun x14 =>
  opN Tryd.prog (sCall (fn 11) [x12]) Kp fun x16 =>
  opN Tryd.prog (sBin .add 3 x14 x16) Kp fun x17 =>
  opN Tryd.prog (sEq .eql 3 (.tmp 17) (.const (.int .i64 0)) x17 (.int .i64 0)) Kp fun x18 =>
  gdK x18 true (fun k => k x7) fun x20 =>
  gdK x18 true (opN Tryd.prog (sLen #[45] 3 [x20]) Kp) fun x21 =>
  gdK x18 true (opN Tryd.prog (sEq .eql 3 (.tmp 21) (.const (.int .i64 2)) x21 (.int .i64 2)) Kp) fun x22 =>
  opN Tryd.prog (sPick x18 x22 (.bool false)) Kp fun x23 =>
  gdK x23 true (fun k => k x7) fun x25 =>
  gdK x23 true (opN Tryd.prog (sIA 45 x25 (.int .i64 0)) Kp) fun x26 =>
  gdK x23 true (opN Tryd.prog (sFA 54 x26 1) Kp) fun x27 =>
  gdK x23 true (opN Tryd.prog (sLoad 3 x27) Kp) fun x28 =>
  gdK x23 true (opN Tryd.prog (sEq .eql 3 (.tmp 28) (.const (.int .i64 500)) x28 (.int .i64 500)) Kp) fun x29 =>
  opN Tryd.prog (sPick x23 x29 (.bool false)) Kp fun x30 =>
  gdK x30 true (fun k => k x7) fun x32 =>
  gdK x30 true (opN Tryd.prog (sIA 45 x32 (.int .i64 1)) Kp) fun x33 =>
  gdK x30 true (opN Tryd.prog (sFA 54 x33 0) Kp) fun x34 =>
  gdK x30 true (opN Tryd.prog (sLoad 9 x34) Kp) fun x35 =>
  gdK x30 true (opN Tryd.prog (sEq .eql 9 (.tmp 35) (.const (.string ⟨#[98, 114]⟩)) x35 (.string ⟨#[98, 114]⟩)) Kp) fun x36 =>
  opN Tryd.prog (sPick x30 x36 (.bool false)) Kp fun x37 =>
  gdK x37 true (fun k => k x11) fun x39 =>
  gdK x37 true (opN Tryd.prog (sLen #[22] 3 [x39]) Kp) fun x40 =>
  gdK x37 true (opN Tryd.prog (sEq .eql 3 (.tmp 40) (.const (.int .i64 2)) x40 (.int .i64 2)) Kp) fun x41 =>
  opN Tryd.prog (sPick x37 x41 (.bool false)) Kp fun x42 =>
  gdK x42 true (fun k => k x11) fun x44 =>
  gdK x42 true (opN Tryd.prog (sIA 22 x44 (.int .i64 1)) Kp) fun x45 =>
  gdK x42 true (opN Tryd.prog (sFA 31 x45 0) Kp) fun x46 =>
  gdK x42 true (opN Tryd.prog (sLoad 3 x46) Kp) fun x47 =>
  gdK x42 true (opN Tryd.prog (sEq .eql 3 (.tmp 47) (.const (.int .i64 (-1))) x47 (.int .i64 (-1))) Kp) fun x48 =>
  opN Tryd.prog (sPick x42 x48 (.bool false)) Kp fun x49 =>
  gdK x49 true (fun k => k x11) fun x51 =>
  gdK x49 true (opN Tryd.prog (sIA 22 x51 (.int .i64 1)) Kp) fun x52 =>
  gdK x49 true (opN Tryd.prog (sFA 31 x52 1) Kp) fun x53 =>
  gdK x49 true (opN Tryd.prog (sLoad 3 x53) Kp) fun x54 =>
  gdK x49 true (opN Tryd.prog (sEq .eql 3 (.tmp 54) (.const (.int .i64 3)) x54 (.int .i64 3)) Kp) fun x55 =>
  opN Tryd.prog (sPick x49 x55 (.bool false)) Kp fun x56 =>
  K x56
def law10_knows_an : Ann := { cuts := [], blks := [], loops := [], drs := [] }
theorem law10_knows_eq (Kp : PK) (K : Value → WP) : cevF Tryd.prog law10_knows_an Tryd.f12 [] Kp K = law10_knows Kp K := by kernel_rfl
theorem law10_knows_calls  {Kp : PK} {K : Value → WP} {w : World} (h : law10_knows Kp K w) : Calls Tryd.prog 12 #[] w (after Kp K) :=
  calls_of_shape (calls_of_cev wide Tryd.func12 (an := law10_knows_an) (args := []) (cast (congrFun (law10_knows_eq Kp K) w).symm h))
theorem law10_knows_cn  {W : World} {α : Type} {A : List HP} {r : α → Value} {B : α → List HP} (h : ∀ F, Ent W (A ++ F) (law10_knows noP fun v w => ∃ x, v = r x ∧ sat W (B x ++ F) w)) : Cn Tryd.prog 12 [] W A r B :=
  Cn.of (shape := law10_knows) Tryd.call12 (fun h => law10_knows_calls h) h
theorem law10_knows_cnP  {W : World} {α β : Type} {A : List HP} {r : α → Value} {B : α → List HP} {pc : β → List PanicEntry} {Bp : β → List HP} (h : ∀ F, Ent W (A ++ F) (law10_knows (fun ch w => ∃ y, ch = pc y ∧ sat W (Bp y ++ F) w) fun v w => ∃ x, v = r x ∧ sat W (B x ++ F) w)) : CnP Tryd.prog 12 [] W A r B pc Bp :=
  CnP.of (shape := law10_knows) Tryd.call12 (fun h => law10_knows_calls h) h

/-- fields_Strong -/
def fields_Strong (v0 v1 : Value) (Kp : PK) (K : Value → WP) : WP :=
  opN Tryd.prog (sBox 37 v0) Kp fun x2 =>
  opN Tryd.prog (sBox 37 v1) Kp fun x3 =>
  opN Tryd.prog (sLoad 37 x2) Kp fun x5 =>
  opN Tryd.prog (sLoad 37 x3) Kp fun x6 =>
  opN Tryd.prog (sEq .eql 37 (.tmp 5) (.tmp 6) x5 x6) Kp fun x7 =>
  gdK x7 true (opN Tryd.prog (sFA 37 x2 0) Kp) fun x9 =>
  gdK x7 true (opN Tryd.prog (sLoad 4 x9) Kp) fun x10 =>
  gdK x7 true (opN Tryd.prog (sUn .not x10) Kp) fun x11 =>
  opN Tryd.prog (sPick x7 x11 (.bool false)) Kp fun x12 =>
  K x12
def fields_Strong_an : Ann := { cuts := [], blks := [], loops := [], drs := [] }
theorem fields_Strong_eq (v0 v1 : Value) (Kp : PK) (K : Value → WP) : cevF Tryd.prog fields_Strong_an Tryd.f13 [v0, v1] Kp K = fields_Strong v0 v1 Kp K := by kernel_rfl
theorem fields_Strong_calls {v0 v1 : Value} {Kp : PK} {K : Value → WP} {w : World} (h : fields_Strong v0 v1 Kp K w) : Calls Tryd.prog 13 #[v0, v1] w (after Kp K) :=
  calls_of_shape (calls_of_cev wide Tryd.func13 (an := fields_Strong_an) (args := [v0, v1]) (cast (congrFun (fields_Strong_eq v0 v1 Kp K) w).symm h))
theorem fields_Strong_cn {v0 v1 : Value} {W : World} {α : Type} {A : List HP} {r : α → Value} {B : α → List HP} (h : ∀ F, Ent W (A ++ F) (fields_Strong v0 v1 noP fun v w => ∃ x, v = r x ∧ sat W (B x ++ F) w)) : Cn Tryd.prog 13 [v0, v1] W A r B :=
  Cn.of (shape := fields_Strong v0 v1) Tryd.call13 (fun h => fields_Strong_calls h) h
theorem fields_Strong_cnP {v0 v1 : Value} {W : World} {α β : Type} {A : List HP} {r : α → Value} {B : α → List HP} {pc : β → List PanicEntry} {Bp : β → List HP} (h : ∀ F, Ent W (A ++ F) (fields_Strong v0 v1 (fun ch w => ∃ y, ch = pc y ∧ sat W (Bp y ++ F) w) fun v w => ∃ x, v = r x ∧ sat W (B x ++ F) w)) : CnP Tryd.prog 13 [v0, v1] W A r B pc Bp :=
  CnP.of (shape := fields_Strong v0 v1) Tryd.call13 (fun h => fields_Strong_calls h) h

/-- fields_Weak -/
def fields_Weak (v0 v1 : Value) (Kp : PK) (K : Value → WP) : WP :=
  opN Tryd.prog (sBox 37 v0) Kp fun x2 =>
  opN Tryd.prog (sBox 37 v1) Kp fun x3 =>
  opN Tryd.prog (sFA 37 x2 1) Kp fun x5 =>
  opN Tryd.prog (sLoad 9 x5) Kp fun x6 =>
  opN Tryd.prog (sFA 37 x3 1) Kp fun x7 =>
  opN Tryd.prog (sLoad 9 x7) Kp fun x8 =>
  opN Tryd.prog (sEq .eql 9 (.tmp 6) (.tmp 8) x6 x8) Kp fun x9 =>
  K x9
def fields_Weak_an : Ann := { cuts := [], blks := [], loops := [], drs := [] }
theorem fields_Weak_eq (v0 v1 : Value) (Kp : PK) (K : Value → WP) : cevF Tryd.prog fields_Weak_an Tryd.f14 [v0, v1] Kp K = fields_Weak v0 v1 Kp K := by kernel_rfl
theorem fields_Weak_calls {v0 v1 : Value} {Kp : PK} {K : Value → WP} {w : World} (h : fields_Weak v0 v1 Kp K w) : Calls Tryd.prog 14 #[v0, v1] w (after Kp K) :=
  calls_of_shape (calls_of_cev wide Tryd.func14 (an := fields_Weak_an) (args := [v0, v1]) (cast (congrFun (fields_Weak_eq v0 v1 Kp K) w).symm h))
theorem fields_Weak_cn {v0 v1 : Value} {W : World} {α : Type} {A : List HP} {r : α → Value} {B : α → List HP} (h : ∀ F, Ent W (A ++ F) (fields_Weak v0 v1 noP fun v w => ∃ x, v = r x ∧ sat W (B x ++ F) w)) : Cn Tryd.prog 14 [v0, v1] W A r B :=
  Cn.of (shape := fields_Weak v0 v1) Tryd.call14 (fun h => fields_Weak_calls h) h
theorem fields_Weak_cnP {v0 v1 : Value} {W : World} {α β : Type} {A : List HP} {r : α → Value} {B : α → List HP} {pc : β → List PanicEntry} {Bp : β → List HP} (h : ∀ F, Ent W (A ++ F) (fields_Weak v0 v1 (fun ch w => ∃ y, ch = pc y ∧ sat W (Bp y ++ F) w) fun v w => ∃ x, v = r x ∧ sat W (B x ++ F) w)) : CnP Tryd.prog 14 [v0, v1] W A r B pc Bp :=
  CnP.of (shape := fields_Weak v0 v1) Tryd.call14 (fun h => fields_Weak_calls h) h

/-- fields_Tokens -/
def fields_Tokens (v0 : Value) (Kp : PK) (K : Value → WP) : WP :=
  opN Tryd.prog (sBuild 96 [(2, (fn 42))]) Kp fun x5 =>
  opN Tryd.prog (sCall (fn 41) [v0, x5]) Kp fun x6 =>
  opN Tryd.prog (sExt x6 0) Kp fun x7 =>
  opN Tryd.prog (sExt x6 1) Kp fun x8 =>
  K (.tuple #[x7, x8])
def fields_Tokens_an : Ann := { cuts := [], blks := [], loops := [], drs := [] }
theorem fields_Tokens_eq (v0 : Value) (Kp : PK) (K : Value → WP) : cevF Tryd.prog fields_Tokens_an Tryd.f15 [v0] Kp K = fields_Tokens v0 Kp K := by kernel_rfl
theorem fields_Tokens_calls {v0 : Value} {Kp : PK} {K : Value → WP} {w : World} (h : fields_Tokens v0 Kp K w) : Calls Tryd.prog 15 #[v0] w (after Kp K) :=
  calls_of_shape (calls_of_cev wide Tryd.func15 (an := fields_Tokens_an) (args := [v0]) (cast (congrFun (fields_Tokens_eq v0 Kp K) w).symm h))
theorem fields_Tokens_cn {v0 : Value} {W : World} {α : Type} {A : List HP} {r : α → Value} {B : α → List HP} (h : ∀ F, Ent W (A ++ F) (fields_Tokens v0 noP fun v w => ∃ x, v = r x ∧ sat W (B x ++ F) w)) : Cn Tryd.prog 15 [v0] W A r B :=
  Cn.of (shape := fields_Tokens v0) Tryd.call15 (fun h => fields_Tokens_calls h) h
theorem fields_Tokens_cnP {v0 : Value} {W : World} {α β : Type} {A : List HP} {r : α → Value} {B : α → List HP} {pc : β → List PanicEntry} {Bp : β → List HP} (h : ∀ F, Ent W (A ++ F) (fields_Tokens v0 (fun ch w => ∃ y, ch = pc y ∧ sat W (Bp y ++ F) w) fun v w => ∃ x, v = r x ∧ sat W (B x ++ F) w)) : CnP Tryd.prog 15 [v0] W A r B pc Bp :=
  CnP.of (shape := fields_Tokens v0) Tryd.call15 (fun h => fields_Tokens_calls h) h

/-- ref10_Tokens -/
def ref10_Tokens (v0 : Value) (Kp : PK) (K : Value → WP) : WP :=
  opN Tryd.prog (sCall (fn 39) [v0, (.bool false), (.bool false)]) Kp fun x8 =>
  loop2 (fun I1 m1 _ y5 y6 =>
   opN Tryd.prog (sLen #[40] 3 [x8]) Kp fun x11 =>
   opN Tryd.prog (sBin .lss 3 y6 x11) Kp fun x12 =>
   condS x12
   (opN Tryd.prog (sIA 40 x8 y6) Kp fun x17 =>
    opN Tryd.prog (sLoad 9 x17) Kp fun x18 =>
    opN Tryd.prog (sCall (fn 45) [x18]) Kp fun x19 =>
    opN Tryd.prog (sUn .not x19) Kp fun x20 =>
    condS x20
    (K (.tuple #[(.slice none 0 0), (.int .i64 42)]))
    (opN Tryd.prog (sIA 40 x8 y6) Kp fun x24 =>
     opN Tryd.prog (sLoad 9 x24) Kp fun x25 =>
     opN Tryd.prog (sCall (fn 38) [x25]) Kp fun x26 =>
     opN Tryd.prog (sBuildSl 40 1 [(0, x26)]) Kp fun x27 =>
     opN Tryd.prog (sApp #[40, 40] 40 [y5, x27]) Kp fun x28 =>
     opN Tryd.prog (sBin .add 3 y6 (.int .i64 1)) Kp fun x14 =>
     next2 I1 m1 x28 x14))
   (K (.tuple #[y5, (.int .i64 0)]))) (.slice none 0 0) (.int .i64 0)
def ref10_Tokens_an : Ann := { cuts := [], blks := [], loops := [(4, [5, 6])], drs := [] }
theorem ref10_Tokens_eq (v0 : Value) (Kp : PK) (K : Value → WP) : cevF Tryd.prog ref10_Tokens_an Tryd.f16 [v0] Kp K = ref10_Tokens v0 Kp K := by kernel_rfl
theorem ref10_Tokens_calls {v0 : Value} {Kp : PK} {K : Value → WP} {w : World} (h : ref10_Tokens v0 Kp K w) : Calls Tryd.prog 16 #[v0] w (after Kp K) :=
  calls_of_shape (calls_of_cev wide Tryd.func16 (an := ref10_Tokens_an) (args := [v0]) (cast (congrFun (ref10_Tokens_eq v0 Kp K) w).symm h))
theorem ref10_Tokens_cn {v0 : Value} {W : World} {α : Type} {A : List HP} {r : α → Value} {B : α → List HP} (h : ∀ F, Ent W (A ++ F) (ref10_Tokens v0 noP fun v w => ∃ x, v = r x ∧ sat W (B x ++ F) w)) : Cn Tryd.prog 16 [v0] W A r B :=
  Cn.of (shape := ref10_Tokens v0) Tryd.call16 (fun h => ref10_Tokens_calls h) h
theorem ref10_Tokens_cnP {v0 : Value} {W : World} {α β : Type} {A : List HP} {r : α → Value} {B : α → List HP} {pc : β → List PanicEntry} {Bp : β → List HP} (h : ∀ F, Ent W (A ++ F) (ref10_Tokens v0 (fun ch w => ∃ y, ch = pc y ∧ sat W (Bp y ++ F) w) fun v w => ∃ x, v = r x ∧ sat W (B x ++ F) w)) : CnP Tryd.prog 16 [v0] W A r B pc Bp :=
  CnP.of (shape := ref10_Tokens v0) Tryd.call16 (fun h => ref10_Tokens_calls h) h

/-- fields_Choices -/
def fields_Choices (v0 : Value) (Kp : PK) (K : Value → WP) : WP :=
  opN Tryd.prog (sBuild 100 [(2, (fn 47))]) Kp fun x5 =>
  opN Tryd.prog (sCall (fn 46) [v0, x5]) Kp fun x6 =>
  opN Tryd.prog (sExt x6 0) Kp fun x7 =>
  opN Tryd.prog (sExt x6 1) Kp fun x8 =>
  K (.tuple #[x7, x8])
def fields_Choices_an : Ann := { cuts := [], blks := [], loops := [], drs := [] }
theorem fields_Choices_eq (v0 : Value) (Kp : PK) (K : Value → WP) : cevF Tryd.prog fields_Choices_an Tryd.f17 [v0] Kp K = fields_Choices v0 Kp K := by kernel_rfl
theorem fields_Choices_calls {v0 : Value} {Kp : PK} {K : Value → WP} {w : World} (h : fields_Choices v0 Kp K w) : Calls Tryd.prog 17 #[v0] w (after Kp K) :=
  calls_of_shape (calls_of_cev wide Tryd.func17 (an := fields_Choices_an) (args := [v0]) (cast (congrFun (fields_Choices_eq v0 Kp K) w).symm h))
theorem fields_Choices_cn {v0 : Value} {W : World} {α : Type} {A : List HP} {r : α → Value} {B : α → List HP} (h : ∀ F, Ent W (A ++ F) (fields_Choices v0 noP fun v w => ∃ x, v = r x ∧ sat W (B x ++ F) w)) : Cn Tryd.prog 17 [v0] W A r B :=
  Cn.of (shape := fields_Choices v0) Tryd.call17 (fun h => fields_Choices_calls h) h
theorem fields_Choices_cnP {v0 : Value} {W : World} {α β : Type} {A : List HP} {r : α → Value} {B : α → List HP} {pc : β → List PanicEntry} {Bp : β → List HP} (h : ∀ F, Ent W (A ++ F) (fields_Choices v0 (fun ch w => ∃ y, ch = pc y ∧ sat W (Bp y ++ F) w) fun v w => ∃ x, v = r x ∧ sat W (B x ++ F) w)) : CnP Tryd.prog 17 [v0] W A r B pc Bp :=
  CnP.of (shape := fields_Choices v0) Tryd.call17 (fun h => fields_Choices_calls h) h

/-- ref10_Choices -/
def ref10_Choices (v0 : Value) (Kp : PK) (K : Value → WP) : WP :=
  opN Tryd.prog (sCall (fn 39) [v0, (.bool false), (.bool false)]) Kp fun x10 =>
  loop2 (fun I1 m1 _ y5 y6 =>
   opN Tryd.prog (sLen #[40] 3 [x10]) Kp fun x13 =>
   opN Tryd.prog (sBin .lss 3 y6 x13) Kp fun x14 =>
   condS x14
   (opN Tryd.prog (sIA 40 x10 y6) Kp fun x20 =>
    opN Tryd.prog (sLoad 9 x20) Kp fun x21 =>
    opN Tryd.prog (sCall (fn 48) [x21]) Kp fun x22 =>
    opN Tryd.prog (sExt x22 0) Kp fun x23 =>
    opN Tryd.prog (sExt x22 1) Kp fun x24 =>
    opN Tryd.prog (sAlloc 101) Kp fun x7 =>
    opN Tryd.prog (sStore 101 x7 x23) Kp fun _ =>
    opN Tryd.prog (sUn .not x24) Kp fun x26 =>
    condS x26
    (K (.tuple #[(.slice none 0 0), (.int .i64 42)]))
    (opN Tryd.prog (sLoad 101 x7) Kp fun x28 =>
     opN Tryd.prog (sBuildSl 48 1 [(0, x28)]) Kp fun x29 =>
     opN Tryd.prog (sApp #[48, 48] 48 [y5, x29]) Kp fun x30 =>
     opN Tryd.prog (sBin .add 3 y6 (.int .i64 1)) Kp fun x16 =>
     next2 I1 m1 x30 x16))
   (K (.tuple #[y5, (.int .i64 0)]))) (.slice none 0 0) (.int .i64 0)
def ref10_Choices_an : Ann := { cuts := [], blks := [], loops := [(4, [5, 6])], drs := [] }
theorem ref10_Choices_eq (v0 : Value) (Kp : PK) (K : Value → WP) : cevF Tryd.prog ref10_Choices_an Tryd.f18 [v0] Kp K = ref10_Choices v0 Kp K := by kernel_rfl
theorem ref10_Choices_calls {v0 : Value} {Kp : PK} {K : Value → WP} {w : World} (h : ref10_Choices v0 Kp K w) : Calls Tryd.prog 18 #[v0] w (after Kp K) :=
  calls_of_shape (calls_of_cev wide Tryd.func18 (an := ref10_Choices_an) (args := [v0]) (cast (congrFun (ref10_Choices_eq v0 Kp K) w).symm h))
theorem ref10_Choices_cn {v0 : Value} {W : World} {α : Type} {A : List HP} {r : α → Value} {B : α → List HP} (h : ∀ F, Ent W (A ++ F) (ref10_Choices v0 noP fun v w => ∃ x, v = r x ∧ sat W (B x ++ F) w)) : Cn Tryd.prog 18 [v0] W A r B :=
  Cn.of (shape := ref10_Choices v0) Tryd.call18 (fun h => ref10_Choices_calls h) h
theorem ref10_Choices_cnP {v0 : Value} {W : World} {α β : Type} {A : List HP} {r : α → Value} {B : α → List HP} {pc : β → List PanicEntry} {Bp : β → List HP} (h : ∀ F, Ent W (A ++ F) (ref10_Choices v0 (fun ch w => ∃ y, ch = pc y ∧ sat W (Bp y ++ F) w) fun v w => ∃ x, v = r x ∧ sat W (B x ++ F) w)) : CnP Tryd.prog 18 [v0] W A r B pc Bp :=
  CnP.of (shape := ref10_Choices v0) Tryd.call18 (fun h => ref10_Choices_calls h) h

/-- law01_SameStrings -/
def law01_SameStrings (v0 v1 : Value) (Kp : PK) (K : Value → WP) : WP :=
  opN Tryd.prog (sLen #[40] 3 [v0]) Kp fun x7 =>
  opN Tryd.prog (sLen #[40] 3 [v1]) Kp fun x9 =>
  opN Tryd.prog (sEq .neq 3 (.tmp 7) (.tmp 9) x7 x9) Kp fun x10 =>
  condS x10
  (K (.bool false))
  (loop1 (fun I1 m1 _ y5 =>
    opN Tryd.prog (sLen #[40] 3 [v0]) Kp fun x13 =>
    opN Tryd.prog (sBin .lss 3 y5 x13) Kp fun x14 =>
    condS x14
    (drS (stS Tryd.prog (sIA 40 v0 y5) fun x19 =>
      stS Tryd.prog (sLoad 9 x19) fun x20 =>
      stS Tryd.prog (sIA 40 v1 y5) fun x23 =>
      stS Tryd.prog (sLoad 9 x23) fun x24 =>
      stS Tryd.prog (sEq .neq 9 (.tmp 20) (.tmp 24) x20 x24) fun x25 =>
      condS x25
      (K (.bool false))
      (opN Tryd.prog (sBin .add 3 y5 (.int .i64 1)) Kp fun x16 =>
       next1 I1 m1 x16)))
    (K (.bool true))) (.int .i64 0))
def law01_SameStrings_an : Ann := { cuts := [], blks := [], loops := [(4, [5])], drs := [(6, [(0, 1), (1, 1), (2, 1), (3, 1), (4, 1), (5, 1), (6, 1), (7, 1), (8, 1)])] }
theorem law01_SameStrings_eq (v0 v1 : Value) (Kp : PK) (K : Value → WP) : cevF Tryd.prog law01_SameStrings_an Tryd.f19 [v0, v1] Kp K = law01_SameStrings v0 v1 Kp K := by kernel_rfl
theorem law01_SameStrings_calls {v0 v1 : Value} {Kp : PK} {K : Value → WP} {w : World} (h : law01_SameStrings v0 v1 Kp K w) : Calls Tryd.prog 19 #[v0, v1] w (after Kp K) :=
  calls_of_shape (calls_of_cev wide Tryd.func19 (an := law01_SameStrings_an) (args := [v0, v1]) (cast (congrFun (law01_SameStrings_eq v0 v1 Kp K) w).symm h))
theorem law01_SameStrings_cn {v0 v1 : Value} {W : World} {α : Type} {A : List HP} {r : α → Value} {B : α → List HP} (h : ∀ F, Ent W (A ++ F) (law01_SameStrings v0 v1 noP fun v w => ∃ x, v = r x ∧ sat W (B x ++ F) w)) : Cn Tryd.prog 19 [v0, v1] W A r B :=
  Cn.of (shape := law01_SameStrings v0 v1) Tryd.call19 (fun h => law01_SameStrings_calls h) h
theorem law01_SameStrings_cnP {v0 v1 : Value} {W : World} {α β : Type} {A : List HP} {r : α → Value} {B : α → List HP} {pc : β → List PanicEntry} {Bp : β → List HP} (h : ∀ F, Ent W (A ++ F) (law01_SameStrings v0 v1 (fun ch w => ∃ y, ch = pc y ∧ sat W (Bp y ++ F) w) fun v w => ∃ x, v = r x ∧ sat W (B x ++ F) w)) : CnP Tryd.prog 19 [v0, v1] W A r B pc Bp :=
  CnP.of (shape := law01_SameStrings v0 v1) Tryd.call19 (fun h => law01_SameStrings_calls h) h

/-- law10_choices -/
def law10_choices (v0 v1 : Value) (Kp : PK) (K : Value → WP) : WP :=
  opN Tryd.prog (sLen #[45] 3 [v0]) Kp fun x7 =>
  opN Tryd.prog (sLen #[48] 3 [v1]) Kp fun x9 =>
  opN Tryd.prog (sEq .neq 3 (.tmp 7) (.tmp 9) x7 x9) Kp fun x10 =>
  condS x10
  (K (.bool false))
  (loop1 (fun I1 m1 _ y5 =>
    opN Tryd.prog (sLen #[45] 3 [v0]) Kp fun x13 =>
    opN Tryd.prog (sBin .lss 3 y5 x13) Kp fun x14 =>
    condS x14
    (drS (stS Tryd.prog (sIA 45 v0 y5) fun x19 =>
      stS Tryd.prog (sFA 54 x19 0) fun x20 =>
      stS Tryd.prog (sLoad 9 x20) fun x21 =>
      stS Tryd.prog (sIA 48 v1 y5) fun x24 =>
      stS Tryd.prog (sFA 101 x24 0) fun x25 =>
      stS Tryd.prog (sLoad 9 x25) fun x26 =>
      stS Tryd.prog (sEq .neq 9 (.tmp 21) (.tmp 26) x21 x26) fun x27 =>
      gdK x27 false (fun k => k v0) fun x29 =>
      gdK x27 false (fun k => k y5) fun x30 =>
      gdK x27 false (stS Tryd.prog (sIA 45 x29 x30)) fun x31 =>
      gdK x27 false (stS Tryd.prog (sFA 54 x31 1)) fun x32 =>
      gdK x27 false (stS Tryd.prog (sLoad 3 x32)) fun x33 =>
      gdK x27 false (fun k => k v1) fun x34 =>
      gdK x27 false (fun k => k y5) fun x35 =>
      gdK x27 false (stS Tryd.prog (sIA 48 x34 x35)) fun x36 =>
      gdK x27 false (stS Tryd.prog (sFA 101 x36 1)) fun x37 =>
      gdK x27 false (stS Tryd.prog (sLoad 3 x37)) fun x38 =>
      gdK x27 false (stS Tryd.prog (sEq .neq 3 (.tmp 33) (.tmp 38) x33 x38)) fun x39 =>
      stS Tryd.prog (sPick x27 (.bool true) x39) fun x40 =>
      condS x40
      (K (.bool false))
      (opN Tryd.prog (sBin .add 3 y5 (.int .i64 1)) Kp fun x16 =>
       next1 I1 m1 x16)))
    (K (.bool true))) (.int .i64 0))
def law10_choices_an : Ann := { cuts := [], blks := [], loops := [(4, [5])], drs := [(6, [(0, 1), (1, 1), (2, 1), (3, 1), (4, 1), (5, 1), (6, 1), (7, 1), (8, 1), (9, 1), (10, 1), (11, 1), (12, 1), (13, 1), (14, 1), (15, 1), (16, 1), (17, 1), (18, 1), (19, 1), (20, 1), (21, 1), (22, 1), (23, 1)])] }
theorem law10_choices_eq (v0 v1 : Value) (Kp : PK) (K : Value → WP) : cevF Tryd.prog law10_choices_an Tryd.f20 [v0, v1] Kp K = law10_choices v0 v1 Kp K := by kernel_rfl
theorem law10_choices_calls {v0 v1 : Value} {Kp : PK} {K : Value → WP} {w : World} (h : law10_choices v0 v1 Kp K w) : Calls Tryd.prog 20 #[v0, v1] w (after Kp K) :=
  calls_of_shape (calls_of_cev wide Tryd.func20 (an := law10_choices_an) (args := [v0, v1]) (cast (congrFun (law10_choices_eq v0 v1 Kp K) w).symm h))
theorem law10_choices_cn {v0 v1 : Value} {W : World} {α : Type} {A : List HP} {r : α → Value} {B : α → List HP} (h : ∀ F, Ent W (A ++ F) (law10_choices v0 v1 noP fun v w => ∃ x, v = r x ∧ sat W (B x ++ F) w)) : Cn Tryd.prog 20 [v0, v1] W A r B :=
  Cn.of (shape := law10_choices v0 v1) Tryd.call20 (fun h => law10_choices_calls h) h
theorem law10_choices_cnP {v0 v1 : Value} {W : World} {α β : Type} {A : List HP} {r : α → Value} {B : α → List HP} {pc : β → List PanicEntry} {Bp : β → List HP} (h : ∀ F, Ent W (A ++ F) (law10_choices v0 v1 (fun ch w => ∃ y, ch = pc y ∧ sat W (Bp y ++ F) w) fun v w => ∃ x, v = r x ∧ sat W (B x ++ F) w)) : CnP Tryd.prog 20 [v0, v1] W A r B pc Bp :=
  CnP.of (shape := law10_choices v0 v1) Tryd.call20 (fun h => law10_choices_calls h) h

/-- fields_Directives -/
def fields_Directives (v0 : Value) (Kp : PK) (K : Value → WP) : WP :=
  opN Tryd.prog (sBuild 107 [(0, (.bool true)), (1, (.bool true)), (2, (fn 50))]) Kp fun x5 =>
  opN Tryd.prog (sCall (fn 49) [v0, x5]) Kp fun x6 =>
  opN Tryd.prog (sExt x6 0) Kp fun x7 =>
  opN Tryd.prog (sExt x6 1) Kp fun x8 =>
  K (.tuple #[x7, x8])
def fields_Directives_an : Ann := { cuts := [], blks := [], loops := [], drs := [] }
theorem fields_Directives_eq (v0 : Value) (Kp : PK) (K : Value → WP) : cevF Tryd.prog fields_Directives_an Tryd.f21 [v0] Kp K = fields_Directives v0 Kp K := by kernel_rfl
theorem fields_Directives_calls {v0 : Value} {Kp : PK} {K : Value → WP} {w : World} (h : fields_Directives v0 Kp K w) : Calls Tryd.prog 21 #[v0] w (after Kp K) :=
  calls_of_shape (calls_of_cev wide Tryd.func21 (an := fields_Directives_an) (args := [v0]) (cast (congrFun (fields_Directives_eq v0 Kp K) w).symm h))
theorem fields_Directives_cn {v0 : Value} {W : World} {α : Type} {A : List HP} {r : α → Value} {B : α → List HP} (h : ∀ F, Ent W (A ++ F) (fields_Directives v0 noP fun v w => ∃ x, v = r x ∧ sat W (B x ++ F) w)) : Cn Tryd.prog 21 [v0] W A r B :=
  Cn.of (shape := fields_Directives v0) Tryd.call21 (fun h => fields_Directives_calls h) h
theorem fields_Directives_cnP {v0 : Value} {W : World} {α β : Type} {A : List HP} {r : α → Value} {B : α → List HP} {pc : β → List PanicEntry} {Bp : β → List HP} (h : ∀ F, Ent W (A ++ F) (fields_Directives v0 (fun ch w => ∃ y, ch = pc y ∧ sat W (Bp y ++ F) w) fun v w => ∃ x, v = r x ∧ sat W (B x ++ F) w)) : CnP Tryd.prog 21 [v0] W A r B pc Bp :=
  CnP.of (shape := fields_Directives v0) Tryd.call21 (fun h => fields_Directives_calls h) h

/-- fields_ParseTag -/
def fields_ParseTag (v0 : Value) (Kp : PK) (K : Value → WP) : WP :=
  opN Tryd.prog (sAlloc 37) Kp fun x2 =>
  opN Tryd.prog (sCall (fn 51) [v0]) Kp fun x8 =>
  opN Tryd.prog (sExt x8 0) Kp fun x9 =>
  opN Tryd.prog (sExt x8 1) Kp fun x10 =>
  opN Tryd.prog (sAlloc 37) Kp fun x4 =>
  opN Tryd.prog (sStore 37 x4 x9) Kp fun _ =>
  opN Tryd.prog (sUn .not x10) Kp fun x12 =>
  condS x12
  (opN Tryd.prog (sBuild 37 []) Kp fun x13 =>
   opN Tryd.prog (sStore 37 x2 x13) Kp fun _ =>
   (stS Tryd.prog (sRes 37 x2) fun r0 => K (.tuple #[r0, (.int .i64 42)])))
  (opN Tryd.prog (sLoad 37 x4) Kp fun x14 =>
   opN Tryd.prog (sStore 37 x2 x14) Kp fun _ =>
   (stS Tryd.prog (sRes 37 x2) fun r0 => K (.tuple #[r0, (.int .i64 0)])))
def fields_ParseTag_an : Ann := { cuts := [], blks := [], loops := [], drs := [] }
theorem fields_ParseTag_eq (v0 : Value) (Kp : PK) (K : Value → WP) : cevF Tryd.prog fields_ParseTag_an Tryd.f22 [v0] Kp K = fields_ParseTag v0 Kp K := by kernel_rfl
theorem fields_ParseTag_calls {v0 : Value} {Kp : PK} {K : Value → WP} {w : World} (h : fields_ParseTag v0 Kp K w) : Calls Tryd.prog 22 #[v0] w (after Kp K) :=
  calls_of_shape (calls_of_cev wide Tryd.func22 (an := fields_ParseTag_an) (args := [v0]) (cast (congrFun (fields_ParseTag_eq v0 Kp K) w).symm h))
theorem fields_ParseTag_cn {v0 : Value} {W : World} {α : Type} {A : List HP} {r : α → Value} {B : α → List HP} (h : ∀ F, Ent W (A ++ F) (fields_ParseTag v0 noP fun v w => ∃ x, v = r x ∧ sat W (B x ++ F) w)) : Cn Tryd.prog 22 [v0] W A r B :=
  Cn.of (shape := fields_ParseTag v0) Tryd.call22 (fun h => fields_ParseTag_calls h) h
theorem fields_ParseTag_cnP {v0 : Value} {W : World} {α β : Type} {A : List HP} {r : α → Value} {B : α → List HP} {pc : β → List PanicEntry} {Bp : β → List HP} (h : ∀ F, Ent W (A ++ F) (fields_ParseTag v0 (fun ch w => ∃ y, ch = pc y ∧ sat W (Bp y ++ F) w) fun v w => ∃ x, v = r x ∧ sat W (B x ++ F) w)) : CnP Tryd.prog 22 [v0] W A r B pc Bp :=
  CnP.of (shape := fields_ParseTag v0) Tryd.call22 (fun h => fields_ParseTag_calls h) h

/-- ref10_ParseTag -/
def ref10_ParseTag (v0 : Value) (Kp : PK) (K : Value → WP) : WP :=
  opN Tryd.prog (sAlloc 36) Kp fun x2 =>
  opN Tryd.prog (sBuild 36 []) Kp fun x7 =>
  opN Tryd.prog (sAlloc 36) Kp fun x4 =>
  opN Tryd.prog (sStore 36 x4 x7) Kp fun _ =>
  cut1 (fun J1 =>
   opN Tryd.prog (sLen #[9] 3 [v0]) Kp fun x9 =>
   opN Tryd.prog (sBin .geq 3 x9 (.int .i64 2)) Kp fun x10 =>
   gdK x10 true (fun k => k v0) fun x12 =>
   gdK x10 true (opN Tryd.prog (sSl 9 x12 none (some (.int .i64 2)) none) Kp) fun x13 =>
   gdK x10 true (opN Tryd.prog (sEq .eql 9 (.tmp 13) (.const (.string ⟨#[87, 47]⟩)) x13 (.string ⟨#[87, 47]⟩)) Kp) fun x14 =>
   opN Tryd.prog (sPick x10 x14 (.bool false)) Kp fun x15 =>
   condS x15
   (opN Tryd.prog (sFA 36 x4 0) Kp fun x16 =>
    opN Tryd.prog (sStore 4 x16 (.bool true)) Kp fun _ =>
    opN Tryd.prog (sSl 9 v0 (some (.int .i64 2)) none none) Kp fun x18 =>
    J1 x18)
   (J1 v0)) fun _ z0 =>
  opN Tryd.prog (sLen #[9] 3 [z0]) Kp fun x20 =>
  opN Tryd.prog (sBin .lss 3 x20 (.int .i64 2)) Kp fun x21 =>
  gdK x21 false (fun k => k z0) fun x23 =>
  gdK x21 false (opN Tryd.prog (sIx 9 x23 (.int .i64 0)) Kp) fun x24 =>
  gdK x21 false (opN Tryd.prog (sEq .neq 5 (.tmp 24) (.const (.int .u8 34)) x24 (.int .u8 34)) Kp) fun x25 =>
  opN Tryd.prog (sPick x21 (.bool true) x25) Kp fun x26 =>
  gdK x26 false (fun k => k z0) fun x28 =>
  gdK x26 false (fun k => k z0) fun x29 =>
  gdK x26 false (opN Tryd.prog (sLen #[9] 3 [x29]) Kp) fun x30 =>
  gdK x26 false (opN Tryd.prog (sBin .sub 3 x30 (.int .i64 1)) Kp) fun x31 =>
  gdK x26 false (opN Tryd.prog (sIx 9 x28 x31) Kp) fun x32 =>
  gdK x26 false (opN Tryd.prog (sEq .neq 5 (.tmp 32) (.const (.int .u8 34)) x32 (.int .u8 34)) Kp) fun x33 =>
  opN Tryd.prog (sPick x26 (.bool true) x33) Kp fun x34 =>
  condS x34
  (opN Tryd.prog (sBuild 36 []) Kp fun x35 =>
   opN Tryd.prog (sStore 36 x2 x35) Kp fun _ =>
   (stS Tryd.prog (sRes 36 x2) fun r0 => K (.tuple #[r0, (.int .i64 42)])))
  (opN Tryd.prog (sLen #[9] 3 [z0]) Kp fun x38 =>
   opN Tryd.prog (sBin .sub 3 x38 (.int .i64 1)) Kp fun x39 =>
   opN Tryd.prog (sSl 9 z0 (some (.int .i64 1)) (some x39) none) Kp fun x40 =>
   opN Tryd.prog (sFA 36 x4 1) Kp fun x41 =>
   opN Tryd.prog (sStore 9 x41 x40) Kp fun _ =>
   loop1 (fun I1 m1 _ y5 =>
    opN Tryd.prog (sFA 36 x4 1) Kp fun x43 =>
    opN Tryd.prog (sLoad 9 x43) Kp fun x44 =>
    opN Tryd.prog (sLen #[9] 3 [x44]) Kp fun x45 =>
    opN Tryd.prog (sBin .lss 3 y5 x45) Kp fun x46 =>
    condS x46
    (opN Tryd.prog (sFA 36 x4 1) Kp fun x49 =>
     opN Tryd.prog (sLoad 9 x49) Kp fun x50 =>
     opN Tryd.prog (sIx 9 x50 y5) Kp fun x52 =>
     opN Tryd.prog (sBin .lss 5 x52 (.int .u8 33)) Kp fun x54 =>
     gdK x54 false (fun k => k x52) fun x56 =>
     gdK x54 false (opN Tryd.prog (sEq .eql 5 (.tmp 56) (.const (.int .u8 34)) x56 (.int .u8 34)) Kp) fun x57 =>
     opN Tryd.prog (sPick x54 (.bool true) x57) Kp fun x58 =>
     gdK x58 false (fun k => k x52) fun x60 =>
     gdK x58 false (opN Tryd.prog (sEq .eql 5 (.tmp 60) (.const (.int .u8 127)) x60 (.int .u8 127)) Kp) fun x61 =>
     opN Tryd.prog (sPick x58 (.bool true) x61) Kp fun x62 =>
     condS x62
     (opN Tryd.prog (sBuild 36 []) Kp fun x63 =>
      opN Tryd.prog (sStore 36 x2 x63) Kp fun _ =>
      (stS Tryd.prog (sRes 36 x2) fun r0 => K (.tuple #[r0, (.int .i64 42)])))
     (opN Tryd.prog (sBin .add 3 y5 (.int .i64 1)) Kp fun x48 =>
      next1 I1 m1 x48))
    (opN Tryd.prog (sLoad 36 x4) Kp fun x64 =>
     opN Tryd.prog (sStore 36 x2 x64) Kp fun _ =>
     (stS Tryd.prog (sRes 36 x2) fun r0 => K (.tuple #[r0, (.int .i64 0)])))) (.int .i64 0))
def ref10_ParseTag_an : Ann := { cuts := [(5, [0])], blks := [], loops := [(9, [5])], drs := [] }
theorem ref10_ParseTag_eq (v0 : Value) (Kp : PK) (K : Value → WP) : cevF Tryd.prog ref10_ParseTag_an Tryd.f23 [v0] Kp K = ref10_ParseTag v0 Kp K := by kernel_rfl
theorem ref10_ParseTag_calls {v0 : Value} {Kp : PK} {K : Value → WP} {w : World} (h : ref10_ParseTag v0 Kp K w) : Calls Tryd.prog 23 #[v0] w (after Kp K) :=
  calls_of_shape (calls_of_cev wide Tryd.func23 (an := ref10_ParseTag_an) (args := [v0]) (cast (congrFun (ref10_ParseTag_eq v0 Kp K) w).symm h))
theorem ref10_ParseTag_cn {v0 : Value} {W : World} {α : Type} {A : List HP} {r : α → Value} {B : α → List HP} (h : ∀ F, Ent W (A ++ F) (ref10_ParseTag v0 noP fun v w => ∃ x, v = r x ∧ sat W (B x ++ F) w)) : Cn Tryd.prog 23 [v0] W A r B :=
  Cn.of (shape := ref10_ParseTag v0) Tryd.call23 (fun h => ref10_ParseTag_calls h) h
theorem ref10_ParseTag_cnP {v0 : Value} {W : World} {α β : Type} {A : List HP} {r : α → Value} {B : α → List HP} {pc : β → List PanicEntry} {Bp : β → List HP} (h : ∀ F, Ent W (A ++ F) (ref10_ParseTag v0 (fun ch w => ∃ y, ch = pc y ∧ sat W (Bp y ++ F) w) fun v w => ∃ x, v = r x ∧ sat W (B x ++ F) w)) : CnP Tryd.prog 23 [v0] W A r B pc Bp :=
  CnP.of (shape := ref10_ParseTag v0) Tryd.call23 (fun h => ref10_ParseTag_calls h) h

/-- fields_Tags -/
def fields_Tags (v0 : Value) (Kp : PK) (K : Value → WP) : WP :=
  opN Tryd.prog (sCall (fn 52) [v0]) Kp fun x6 =>
  opN Tryd.prog (sEq .eql 9 (.tmp 6) (.const (.string ⟨#[42]⟩)) x6 (.string ⟨#[42]⟩)) Kp fun x7 =>
  condS x7
  (K (.tuple #[(.slice none 0 0), (.bool true), (.int .i64 0)]))
  (opN Tryd.prog (sBuild 113 [(0, (.bool true)), (2, (fn 51))]) Kp fun x10 =>
   opN Tryd.prog (sCall (fn 53) [v0, x10]) Kp fun x11 =>
   opN Tryd.prog (sExt x11 0) Kp fun x12 =>
   opN Tryd.prog (sExt x11 1) Kp fun x13 =>
   opN Tryd.prog (sEq .eql 23 (.tmp 14) (.const (.int .i64 0)) x13 (.int .i64 0)) Kp fun x15 =>
   gdK x15 true (fun k => k x12) fun x17 =>
   gdK x15 true (opN Tryd.prog (sLen #[65] 3 [x17]) Kp) fun x18 =>
   gdK x15 true (opN Tryd.prog (sEq .eql 3 (.tmp 18) (.const (.int .i64 0)) x18 (.int .i64 0)) Kp) fun x19 =>
   opN Tryd.prog (sPick x15 x19 (.bool false)) Kp fun x20 =>
   condS x20
   (K (.tuple #[x12, (.bool false), (.int .i64 42)]))
   (K (.tuple #[x12, (.bool false), x13])))
def fields_Tags_an : Ann := { cuts := [], blks := [], loops := [], drs := [] }
theorem fields_Tags_eq (v0 : Value) (Kp : PK) (K : Value → WP) : cevF Tryd.prog fields_Tags_an Tryd.f24 [v0] Kp K = fields_Tags v0 Kp K := by kernel_rfl
theorem fields_Tags_calls {v0 : Value} {Kp : PK} {K : Value → WP} {w : World} (h : fields_Tags v0 Kp K w) : Calls Tryd.prog 24 #[v0] w (after Kp K) :=
  calls_of_shape (calls_of_cev wide Tryd.func24 (an := fields_Tags_an) (args := [v0]) (cast (congrFun (fields_Tags_eq v0 Kp K) w).symm h))
theorem fields_Tags_cn {v0 : Value} {W : World} {α : Type} {A : List HP} {r : α → Value} {B : α → List HP} (h : ∀ F, Ent W (A ++ F) (fields_Tags v0 noP fun v w => ∃ x, v = r x ∧ sat W (B x ++ F) w)) : Cn Tryd.prog 24 [v0] W A r B :=
  Cn.of (shape := fields_Tags v0) Tryd.call24 (fun h => fields_Tags_calls h) h
theorem fields_Tags_cnP {v0 : Value} {W : World} {α β : Type} {A : List HP} {r : α → Value} {B : α → List HP} {pc : β → List PanicEntry} {Bp : β → List HP} (h : ∀ F, Ent W (A ++ F) (fields_Tags v0 (fun ch w => ∃ y, ch = pc y ∧ sat W (Bp y ++ F) w) fun v w => ∃ x, v = r x ∧ sat W (B x ++ F) w)) : CnP Tryd.prog 24 [v0] W A r B pc Bp :=
  CnP.of (shape := fields_Tags v0) Tryd.call24 (fun h => fields_Tags_calls h) h

/-- ref10_Tags -/
def ref10_Tags (v0 : Value) (Kp : PK) (K : Value → WP) : WP :=
  opN Tryd.prog (sCall (fn 54) [v0]) Kp fun x11 =>
  opN Tryd.prog (sEq .eql 9 (.tmp 11) (.const (.string ⟨#[42]⟩)) x11 (.string ⟨#[42]⟩)) Kp fun x12 =>
  condS x12
  (K (.tuple #[(.slice none 0 0), (.bool true), (.int .i64 0)]))
  (opN Tryd.prog (sCall (fn 39) [v0, (.bool true), (.bool false)]) Kp fun x14 =>
   loop2 (fun I1 m1 _ y6 y7 =>
    opN Tryd.prog (sLen #[40] 3 [x14]) Kp fun x17 =>
    opN Tryd.prog (sBin .lss 3 y7 x17) Kp fun x18 =>
    condS x18
    (opN Tryd.prog (sIA 40 x14 y7) Kp fun x24 =>
     opN Tryd.prog (sLoad 9 x24) Kp fun x25 =>
     opN Tryd.prog (sCall (fn 23) [x25]) Kp fun x26 =>
     opN Tryd.prog (sExt x26 0) Kp fun x27 =>
     opN Tryd.prog (sExt x26 1) Kp fun x28 =>
     opN Tryd.prog (sAlloc 36) Kp fun x8 =>
     opN Tryd.prog (sStore 36 x8 x27) Kp fun _ =>
     opN Tryd.prog (sEq .neq 3 (.tmp 29) (.const (.int .i64 0)) x28 (.int .i64 0)) Kp fun x30 =>
     condS x30
     (K (.tuple #[(.slice none 0 0), (.bool false), x28]))
     (opN Tryd.prog (sLoad 36 x8) Kp fun x33 =>
      opN Tryd.prog (sBuildSl 68 1 [(0, x33)]) Kp fun x34 =>
      opN Tryd.prog (sApp #[68, 68] 68 [y6, x34]) Kp fun x35 =>
      opN Tryd.prog (sBin .add 3 y7 (.int .i64 1)) Kp fun x20 =>
      next2 I1 m1 x35 x20))
    (opN Tryd.prog (sLen #[68] 3 [y6]) Kp fun x37 =>
     opN Tryd.prog (sEq .eql 3 (.tmp 37) (.const (.int .i64 0)) x37 (.int .i64 0)) Kp fun x38 =>
     condS x38
     (K (.tuple #[(.slice none 0 0), (.bool false), (.int .i64 42)]))
     (K (.tuple #[y6, (.bool false), (.int .i64 0)])))) (.slice none 0 0) (.int .i64 0))
def ref10_Tags_an : Ann := { cuts := [], blks := [], loops := [(6, [6, 7])], drs := [] }
theorem ref10_Tags_eq (v0 : Value) (Kp : PK) (K : Value → WP) : cevF Tryd.prog ref10_Tags_an Tryd.f25 [v0] Kp K = ref10_Tags v0 Kp K := by kernel_rfl
theorem ref10_Tags_calls {v0 : Value} {Kp : PK} {K : Value → WP} {w : World} (h : ref10_Tags v0 Kp K w) : Calls Tryd.prog 25 #[v0] w (after Kp K) :=
  calls_of_shape (calls_of_cev wide Tryd.func25 (an := ref10_Tags_an) (args := [v0]) (cast (congrFun (ref10_Tags_eq v0 Kp K) w).symm h))
theorem ref10_Tags_cn {v0 : Value} {W : World} {α : Type} {A : List HP} {r : α → Value} {B : α → List HP} (h : ∀ F, Ent W (A ++ F) (ref10_Tags v0 noP fun v w => ∃ x, v = r x ∧ sat W (B x ++ F) w)) : Cn Tryd.prog 25 [v0] W A r B :=
  Cn.of (shape := ref10_Tags v0) Tryd.call25 (fun h => ref10_Tags_calls h) h
theorem ref10_Tags_cnP {v0 : Value} {W : World} {α β : Type} {A : List HP} {r : α → Value} {B : α → List HP} {pc : β → List PanicEntry} {Bp : β → List HP} (h : ∀ F, Ent W (A ++ F) (ref10_Tags v0 (fun ch w => ∃ y, ch = pc y ∧ sat W (Bp y ++ F) w) fun v w => ∃ x, v = r x ∧ sat W (B x ++ F) w)) : CnP Tryd.prog 25 [v0] W A r B pc Bp :=
  CnP.of (shape := ref10_Tags v0) Tryd.call25 (fun h => ref10_Tags_calls h) h

/-- law10_tags -/
def law10_tags (v0 v1 : Value) (Kp : PK) (K : Value → WP) : WP :=
  opN Tryd.prog (sLen #[65] 3 [v0]) Kp fun x7 =>
  opN Tryd.prog (sLen #[68] 3 [v1]) Kp fun x9 =>
  opN Tryd.prog (sEq .neq 3 (.tmp 7) (.tmp 9) x7 x9) Kp fun x10 =>
  condS x10
  (K (.bool false))
  (loop1 (fun I1 m1 _ y5 =>
    opN Tryd.prog (sLen #[65] 3 [v0]) Kp fun x13 =>
    opN Tryd.prog (sBin .lss 3 y5 x13) Kp fun x14 =>
    condS x14
    (drS (stS Tryd.prog (sIA 65 v0 y5) fun x19 =>
      stS Tryd.prog (sFA 37 x19 0) fun x20 =>
      stS Tryd.prog (sLoad 4 x20) fun x21 =>
      stS Tryd.prog (sIA 68 v1 y5) fun x24 =>
      stS Tryd.prog (sFA 36 x24 0) fun x25 =>
      stS Tryd.prog (sLoad 4 x25) fun x26 =>
      stS Tryd.prog (sEq .neq 4 (.tmp 21) (.tmp 26) x21 x26) fun x27 =>
      gdK x27 false (fun k => k v0) fun x29 =>
      gdK x27 false (fun k => k y5) fun x30 =>
      gdK x27 false (stS Tryd.prog (sIA 65 x29 x30)) fun x31 =>
      gdK x27 false (stS Tryd.prog (sFA 37 x31 1)) fun x32 =>
      gdK x27 false (stS Tryd.prog (sLoad 9 x32)) fun x33 =>
      gdK x27 false (fun k => k v1) fun x34 =>
      gdK x27 false (fun k => k y5) fun x35 =>
      gdK x27 false (stS Tryd.prog (sIA 68 x34 x35)) fun x36 =>
      gdK x27 false (stS Tryd.prog (sFA 36 x36 1)) fun x37 =>
      gdK x27 false (stS Tryd.prog (sLoad 9 x37)) fun x38 =>
      gdK x27 false (stS Tryd.prog (sEq .neq 9 (.tmp 33) (.tmp 38) x33 x38)) fun x39 =>
      stS Tryd.prog (sPick x27 (.bool true) x39) fun x40 =>
      condS x40
      (K (.bool false))
      (opN Tryd.prog (sBin .add 3 y5 (.int .i64 1)) Kp fun x16 =>
       next1 I1 m1 x16)))
    (K (.bool true))) (.int .i64 0))
def law10_tags_an : Ann := { cuts := [], blks := [], loops := [(4, [5])], drs := [(6, [(0, 1), (1, 1), (2, 1), (3, 1), (4, 1), (5, 1), (6, 1), (7, 1), (8, 1), (9, 1), (10, 1), (11, 1), (12, 1), (13, 1), (14, 1), (15, 1), (16, 1), (17, 1), (18, 1), (19, 1), (20, 1), (21, 1), (22, 1), (23, 1)])] }
theorem law10_tags_eq (v0 v1 : Value) (Kp : PK) (K : Value → WP) : cevF Tryd.prog law10_tags_an Tryd.f26 [v0, v1] Kp K = law10_tags v0 v1 Kp K := by kernel_rfl
theorem law10_tags_calls {v0 v1 : Value} {Kp : PK} {K : Value → WP} {w : World} (h : law10_tags v0 v1 Kp K w) : Calls Tryd.prog 26 #[v0, v1] w (after Kp K) :=
  calls_of_shape (calls_of_cev wide Tryd.func26 (an := law10_tags_an) (args := [v0, v1]) (cast (congrFun (law10_tags_eq v0 v1 Kp K) w).symm h))
theorem law10_tags_cn {v0 v1 : Value} {W : World} {α : Type} {A : List HP} {r : α → Value} {B : α → List HP} (h : ∀ F, Ent W (A ++ F) (law10_tags v0 v1 noP fun v w => ∃ x, v = r x ∧ sat W (B x ++ F) w)) : Cn Tryd.prog 26 [v0, v1] W A r B :=
  Cn.of (shape := law10_tags v0 v1) Tryd.call26 (fun h => law10_tags_calls h) h
theorem law10_tags_cnP {v0 v1 : Value} {W : World} {α β : Type} {A : List HP} {r : α → Value} {B : α → List HP} {pc : β → List PanicEntry} {Bp : β → List HP} (h : ∀ F, Ent W (A ++ F) (law10_tags v0 v1 (fun ch w => ∃ y, ch = pc y ∧ sat W (Bp y ++ F) w) fun v w => ∃ x, v = r x ∧ sat W (B x ++ F) w)) : CnP Tryd.prog 26 [v0, v1] W A r B pc Bp :=
  CnP.of (shape := law10_tags v0 v1) Tryd.call26 (fun h => law10_tags_calls h) h

/-- fields_TagText -/
def fields_TagText (v0 : Value) (Kp : PK) (K : Value → WP) : WP :=
  opN Tryd.prog (sBox 37 v0) Kp fun x1 =>
  cut1 (fun J1 =>
   opN Tryd.prog (sFA 37 x1 0) Kp fun x4 =>
   opN Tryd.prog (sLoad 4 x4) Kp fun x5 =>
   condS x5
   (J1 (.string ⟨#[87, 47]⟩))
   (J1 (.string ⟨#[]⟩))) fun _ z3 =>
  opN Tryd.prog (sBin .add 9 z3 (.string ⟨#[34]⟩)) Kp fun x7 =>
  opN Tryd.prog (sFA 37 x1 1) Kp fun x8 =>
  opN Tryd.prog (sLoad 9 x8) Kp fun x9 =>
  opN Tryd.prog (sBin .add 9 x7 x9) Kp fun x10 =>
  opN Tryd.prog (sBin .add 9 x10 (.string ⟨#[34]⟩)) Kp fun x11 =>
  K x11
def fields_TagText_an : Ann := { cuts := [(4, [3])], blks := [], loops := [], drs := [] }
theorem fields_TagText_eq (v0 : Value) (Kp : PK) (K : Value → WP) : cevF Tryd.prog fields_TagText_an Tryd.f27 [v0] Kp K = fields_TagText v0 Kp K := by kernel_rfl
theorem fields_TagText_calls {v0 : Value} {Kp : PK} {K : Value → WP} {w : World} (h : fields_TagText v0 Kp K w) : Calls Tryd.prog 27 #[v0] w (after Kp K) :=
  calls_of_shape (calls_of_cev wide Tryd.func27 (an := fields_TagText_an) (args := [v0]) (cast (congrFun (fields_TagText_eq v0 Kp K) w).symm h))
theorem fields_TagText_cn {v0 : Value} {W : World} {α : Type} {A : List HP} {r : α → Value} {B : α → List HP} (h : ∀ F, Ent W (A ++ F) (fields_TagText v0 noP fun v w => ∃ x, v = r x ∧ sat W (B x ++ F) w)) : Cn Tryd.prog 27 [v0] W A r B :=
  Cn.of (shape := fields_TagText v0) Tryd.call27 (fun h => fields_TagText_calls h) h
theorem fields_TagText_cnP {v0 : Value} {W : World} {α β : Type} {A : List HP} {r : α → Value} {B : α → List HP} {pc : β → List PanicEntry} {Bp : β → List HP} (h : ∀ F, Ent W (A ++ F) (fields_TagText v0 (fun ch w => ∃ y, ch = pc y ∧ sat W (Bp y ++ F) w) fun v w => ∃ x, v = r x ∧ sat W (B x ++ F) w)) : CnP Tryd.prog 27 [v0] W A r B pc Bp :=
  CnP.of (shape := fields_TagText v0) Tryd.call27 (fun h => fields_TagText_calls h) h

/-- ref10_TagText -/
def ref10_TagText (v0 : Value) (Kp : PK) (K : Value → WP) : WP :=
  opN Tryd.prog (sBox 36 v0) Kp fun x1 =>
  drS (stD Tryd.prog (sFA 36 x1 1) fun D1 x5 =>
   stD Tryd.prog (sLoad 9 x5) fun D2 x6 =>
   opN Tryd.prog (sCall (fn 55) []) Kp fun x4 =>
   (fun w => D2 w ∧ (fun w => D1 w ∧ (stD Tryd.prog (sBin .add 9 x4 x6) fun D3 x7 =>
      opN Tryd.prog (sCall (fn 55) []) Kp fun x8 =>
      (fun w => D3 w ∧ (fun w => D2 w ∧ (fun w => D1 w ∧ (stS Tryd.prog (sBin .add 9 x7 x8) fun x9 =>
          opN Tryd.prog (sFA 36 x1 0) Kp fun x10 =>
          opN Tryd.prog (sLoad 4 x10) Kp fun x11 =>
          condS x11
          (opN Tryd.prog (sBin .add 9 (.string ⟨#[87, 47]⟩) x9) Kp fun x13 =>
           K x13)
          (K x9)) w) w) w)) w) w))
def ref10_TagText_an : Ann := { cuts := [], blks := [], loops := [], drs := [(1, [(1, 3), (2, 3), (0, 0), (3, 3), (4, 0), (5, 1), (6, 1)])] }
theorem ref10_TagText_eq (v0 : Value) (Kp : PK) (K : Value → WP) : cevF Tryd.prog ref10_TagText_an Tryd.f28 [v0] Kp K = ref10_TagText v0 Kp K := by kernel_rfl
theorem ref10_TagText_calls {v0 : Value} {Kp : PK} {K : Value → WP} {w : World} (h : ref10_TagText v0 Kp K w) : Calls Tryd.prog 28 #[v0] w (after Kp K) :=
  calls_of_shape (calls_of_cev wide Tryd.func28 (an := ref10_TagText_an) (args := [v0]) (cast (congrFun (ref10_TagText_eq v0 Kp K) w).symm h))
theorem ref10_TagText_cn {v0 : Value} {W : World} {α : Type} {A : List HP} {r : α → Value} {B : α → List HP} (h : ∀ F, Ent W (A ++ F) (ref10_TagText v0 noP fun v w => ∃ x, v = r x ∧ sat W (B x ++ F) w)) : Cn Tryd.prog 28 [v0] W A r B :=
  Cn.of (shape := ref10_TagText v0) Tryd.call28 (fun h => ref10_TagText_calls h) h
theorem ref10_TagText_cnP {v0 : Value} {W : World} {α β : Type} {A : List HP} {r : α → Value} {B : α → List HP} {pc : β → List PanicEntry} {Bp : β → List HP} (h : ∀ F, Ent W (A ++ F) (ref10_TagText v0 (fun ch w => ∃ y, ch = pc y ∧ sat W (Bp y ++ F) w) fun v w => ∃ x, v = r x ∧ sat W (B x ++ F) w)) : CnP Tryd.prog 28 [v0] W A r B pc Bp :=
  CnP.of (shape := ref10_TagText v0) Tryd.call28 (fun h => ref10_TagText_calls h) h

/-- ref10_Strong -/
def ref10_Strong (v0 v1 : Value) (Kp : PK) (K : Value → WP) : WP :=
  opN Tryd.prog (sBox 36 v0) Kp fun x2 =>
  opN Tryd.prog (sBox 36 v1) Kp fun x3 =>
  opN Tryd.prog (sFA 36 x2 0) Kp fun x5 =>
  opN Tryd.prog (sLoad 4 x5) Kp fun x6 =>
  opN Tryd.prog (sUn .not x6) Kp fun x7 =>
  gdK x7 true (opN Tryd.prog (sFA 36 x3 0) Kp) fun x9 =>
  gdK x7 true (opN Tryd.prog (sLoad 4 x9) Kp) fun x10 =>
  gdK x7 true (opN Tryd.prog (sUn .not x10) Kp) fun x11 =>
  opN Tryd.prog (sPick x7 x11 (.bool false)) Kp fun x12 =>
  gdK x12 true (opN Tryd.prog (sFA 36 x2 1) Kp) fun x14 =>
  gdK x12 true (opN Tryd.prog (sLoad 9 x14) Kp) fun x15 =>
  gdK x12 true (opN Tryd.prog (sFA 36 x3 1) Kp) fun x16 =>
  gdK x12 true (opN Tryd.prog (sLoad 9 x16) Kp) fun x17 =>
  gdK x12 true (opN Tryd.prog (sEq .eql 9 (.tmp 15) (.tmp 17) x15 x17) Kp) fun x18 =>
  opN Tryd.prog (sPick x12 x18 (.bool false)) Kp fun x19 =>
  K x19
def ref10_Strong_an : Ann := { cuts := [], blks := [], loops := [], drs := [] }
theorem ref10_Strong_eq (v0 v1 : Value) (Kp : PK) (K : Value → WP) : cevF Tryd.prog ref10_Strong_an Tryd.f29 [v0, v1] Kp K = ref10_Strong v0 v1 Kp K := by kernel_rfl
theorem ref10_Strong_calls {v0 v1 : Value} {Kp : PK} {K : Value → WP} {w : World} (h : ref10_Strong v0 v1 Kp K w) : Calls Tryd.prog 29 #[v0, v1] w (after Kp K) :=
  calls_of_shape (calls_of_cev wide Tryd.func29 (an := ref10_Strong_an) (args := [v0, v1]) (cast (congrFun (ref10_Strong_eq v0 v1 Kp K) w).symm h))
theorem ref10_Strong_cn {v0 v1 : Value} {W : World} {α : Type} {A : List HP} {r : α → Value} {B : α → List HP} (h : ∀ F, Ent W (A ++ F) (ref10_Strong v0 v1 noP fun v w => ∃ x, v = r x ∧ sat W (B x ++ F) w)) : Cn Tryd.prog 29 [v0, v1] W A r B :=
  Cn.of (shape := ref10_Strong v0 v1) Tryd.call29 (fun h => ref10_Strong_calls h) h
theorem ref10_Strong_cnP {v0 v1 : Value} {W : World} {α β : Type} {A : List HP} {r : α → Value} {B : α → List HP} {pc : β → List PanicEntry} {Bp : β → List HP} (h : ∀ F, Ent W (A ++ F) (ref10_Strong v0 v1 (fun ch w => ∃ y, ch = pc y ∧ sat W (Bp y ++ F) w) fun v w => ∃ x, v = r x ∧ sat W (B x ++ F) w)) : CnP Tryd.prog 29 [v0, v1] W A r B pc Bp :=
  CnP.of (shape := ref10_Strong v0 v1) Tryd.call29 (fun h => ref10_Strong_calls h) h

/-- ref10_Weak -/
def ref10_Weak (v0 v1 : Value) (Kp : PK) (K : Value → WP) : WP :=
  opN Tryd.prog (sBox 36 v0) Kp fun x2 =>
  opN Tryd.prog (sBox 36 v1) Kp fun x3 =>
  opN Tryd.prog (sFA 36 x2 1) Kp fun x5 =>
  opN Tryd.prog (sLoad 9 x5) Kp fun x6 =>
  opN Tryd.prog (sFA 36 x3 1) Kp fun x7 =>
  opN Tryd.prog (sLoad 9 x7) Kp fun x8 =>
  opN Tryd.prog (sEq .eql 9 (.tmp 6) (.tmp 8) x6 x8) Kp fun x9 =>
  K x9
def ref10_Weak_an : Ann := { cuts := [], blks := [], loops := [], drs := [] }
theorem ref10_Weak_eq (v0 v1 : Value) (Kp : PK) (K : Value → WP) : cevF Tryd.prog ref10_Weak_an Tryd.f30 [v0, v1] Kp K = ref10_Weak v0 v1 Kp K := by kernel_rfl
theorem ref10_Weak_calls {v0 v1 : Value} {Kp : PK} {K : Value → WP} {w : World} (h : ref10_Weak v0 v1 Kp K w) : Calls Tryd.prog 30 #[v0, v1] w (after Kp K) :=
  calls_of_shape (calls_of_cev wide Tryd.func30 (an := ref10_Weak_an) (args := [v0, v1]) (cast (congrFun (ref10_Weak_eq v0 v1 Kp K) w).symm h))
theorem ref10_Weak_cn {v0 v1 : Value} {W : World} {α : Type} {A : List HP} {r : α → Value} {B : α → List HP} (h : ∀ F, Ent W (A ++ F) (ref10_Weak v0 v1 noP fun v w => ∃ x, v = r x ∧ sat W (B x ++ F) w)) : Cn Tryd.prog 30 [v0, v1] W A r B :=
  Cn.of (shape := ref10_Weak v0 v1) Tryd.call30 (fun h => ref10_Weak_calls h) h
theorem ref10_Weak_cnP {v0 v1 : Value} {W : World} {α β : Type} {A : List HP} {r : α → Value} {B : α → List HP} {pc : β → List PanicEntry} {Bp : β → List HP} (h : ∀ F, Ent W (A ++ F) (ref10_Weak v0 v1 (fun ch w => ∃ y, ch = pc y ∧ sat W (Bp y ++ F) w) fun v w => ∃ x, v = r x ∧ sat W (B x ++ F) w)) : CnP Tryd.prog 30 [v0, v1] W A r B pc Bp :=
  CnP.of (shape := ref10_Weak v0 v1) Tryd.call30 (fun h => ref10_Weak_calls h) h

/-- ref11_Values -/
def ref11_Values (v0 v1 : Value) (Kp : PK) (K : Value → WP) : WP :=
  loop2 (fun I1 m1 _ y5 y6 =>
   opN Tryd.prog (sLen #[75] 3 [v0]) Kp fun x9 =>
   opN Tryd.prog (sBin .lss 3 y6 x9) Kp fun x10 =>
   condS x10
   (opN Tryd.prog (sIA 75 v0 y6) Kp fun x15 =>
    opN Tryd.prog (sFA 116 x15 0) Kp fun x16 =>
    opN Tryd.prog (sLoad 9 x16) Kp fun x17 =>
    opN Tryd.prog (sCall (fn 62) [x17, v1]) Kp fun x19 =>
    condS x19
    (opN Tryd.prog (sIA 75 v0 y6) Kp fun x23 =>
     opN Tryd.prog (sFA 116 x23 1) Kp fun x24 =>
     opN Tryd.prog (sLoad 9 x24) Kp fun x25 =>
     opN Tryd.prog (sBuildSl 40 1 [(0, x25)]) Kp fun x26 =>
     opN Tryd.prog (sApp #[40, 40] 40 [y5, x26]) Kp fun x27 =>
     opN Tryd.prog (sBin .add 3 y6 (.int .i64 1)) Kp fun x12 =>
     next2 I1 m1 x27 x12)
    (opN Tryd.prog (sBin .add 3 y6 (.int .i64 1)) Kp fun x12 =>
     next2 I1 m1 y5 x12))
   (K y5)) (.slice none 0 0) (.int .i64 0)
def ref11_Values_an : Ann := { cuts := [], blks := [], loops := [(3, [5, 6])], drs := [] }
theorem ref11_Values_eq (v0 v1 : Value) (Kp : PK) (K : Value → WP) : cevF Tryd.prog ref11_Values_an Tryd.f32 [v0, v1] Kp K = ref11_Values v0 v1 Kp K := by kernel_rfl
theorem ref11_Values_calls {v0 v1 : Value} {Kp : PK} {K : Value → WP} {w : World} (h : ref11_Values v0 v1 Kp K w) : Calls Tryd.prog 32 #[v0, v1] w (after Kp K) :=
  calls_of_shape (calls_of_cev wide Tryd.func32 (an := ref11_Values_an) (args := [v0, v1]) (cast (congrFun (ref11_Values_eq v0 v1 Kp K) w).symm h))
theorem ref11_Values_cn {v0 v1 : Value} {W : World} {α : Type} {A : List HP} {r : α → Value} {B : α → List HP} (h : ∀ F, Ent W (A ++ F) (ref11_Values v0 v1 noP fun v w => ∃ x, v = r x ∧ sat W (B x ++ F) w)) : Cn Tryd.prog 32 [v0, v1] W A r B :=
  Cn.of (shape := ref11_Values v0 v1) Tryd.call32 (fun h => ref11_Values_calls h) h
theorem ref11_Values_cnP {v0 v1 : Value} {W : World} {α β : Type} {A : List HP} {r : α → Value} {B : α → List HP} {pc : β → List PanicEntry} {Bp : β → List HP} (h : ∀ F, Ent W (A ++ F) (ref11_Values v0 v1 (fun ch w => ∃ y, ch = pc y ∧ sat W (Bp y ++ F) w) fun v w => ∃ x, v = r x ∧ sat W (B x ++ F) w)) : CnP Tryd.prog 32 [v0, v1] W A r B pc Bp :=
  CnP.of (shape := ref11_Values v0 v1) Tryd.call32 (fun h => ref11_Values_calls h) h

/-- ascii_Digits -/
def ascii_Digits (v0 : Value) (Kp : PK) (K : Value → WP) : WP :=
  opN Tryd.prog (sCall (fn 63) [v0]) Kp fun x4 =>
  K x4
def ascii_Digits_an : Ann := { cuts := [], blks := [], loops := [], drs := [] }
theorem ascii_Digits_eq (v0 : Value) (Kp : PK) (K : Value → WP) : cevF Tryd.prog ascii_Digits_an Tryd.f33 [v0] Kp K = ascii_Digits v0 Kp K := by kernel_rfl
theorem ascii_Digits_calls {v0 : Value} {Kp : PK} {K : Value → WP} {w : World} (h : ascii_Digits v0 Kp K w) : Calls Tryd.prog 33 #[v0] w (after Kp K) :=
  calls_of_shape (calls_of_cev wide Tryd.func33 (an := ascii_Digits_an) (args := [v0]) (cast (congrFun (ascii_Digits_eq v0 Kp K) w).symm h))
theorem ascii_Digits_cn {v0 : Value} {W : World} {α : Type} {A : List HP} {r : α → Value} {B : α → List HP} (h : ∀ F, Ent W (A ++ F) (ascii_Digits v0 noP fun v w => ∃ x, v = r x ∧ sat W (B x ++ F) w)) : Cn Tryd.prog 33 [v0] W A r B :=
  Cn.of (shape := ascii_Digits v0) Tryd.call33 (fun h => ascii_Digits_calls h) h
theorem ascii_Digits_cnP {v0 : Value} {W : World} {α β : Type} {A : List HP} {r : α → Value} {B : α → List HP} {pc : β → List PanicEntry} {Bp : β → List HP} (h : ∀ F, Ent W (A ++ F) (ascii_Digits v0 (fun ch w => ∃ y, ch = pc y ∧ sat W (Bp y ++ F) w) fun v w => ∃ x, v = r x ∧ sat W (B x ++ F) w)) : CnP Tryd.prog 33 [v0] W A r B pc Bp :=
  CnP.of (shape := ascii_Digits v0) Tryd.call33 (fun h => ascii_Digits_calls h) h

/-- law22_knows -/
def law22_knows (Kp : PK) (K : Value → WP) : WP :=
  opN Tryd.prog (sCall (fn 66) []) Kp fun x17 =>
  opN Tryd.prog (sCall (fn 65) [x17]) Kp fun x18 =>
  opN Tryd.prog (sCall (fn 64) [x18]) Kp fun x19 =>
  opN Tryd.prog (sExt x19 0) Kp fun x20 =>
  opN Tryd.prog (sExt x19 1) Kp fun x21 =>
  opN Tryd.prog (sCall (fn 67) [x21]) Kp fun x23 =>
  opN Tryd.prog (sEq .neq 3 (.tmp 23) (.const (.int .i64 0)) x23 (.int .i64 0)) Kp fun x24 =>
  gdK x24 false (fun k => k x20) fun x26 =>
  gdK x24 false (opN Tryd.prog (sEq .eql 123 (.tmp 26) (.const (.pointer none)) x26 (.pointer none)) Kp) fun x27 =>
  opN Tryd.prog (sPick x24 (.bool true) x27) Kp fun x28 =>
  condS x28
  (K (.bool false))
  (opN Tryd.prog (sCall (fn 68) [x20, (.int .i64 0)]) Kp fun x31 =>
   opN Tryd.prog (sExt x31 0) Kp fun x32 =>
   opN Tryd.prog (sExt x31 1) Kp fun x33 =>
   opN Tryd.prog (sExt x31 2) Kp fun x34 =>
   opN Tryd.prog (sAlloc 135) Kp fun x3 =>
   opN Tryd.prog (sStore 135 x3 x32) Kp fun _ =>
   opN Tryd.prog (sCall (fn 68) [x20, (.int .i64 0)]) Kp fun x37 =>
   opN Tryd.prog (sExt x37 0) Kp fun x38 =>
   opN Tryd.prog (sExt x37 1) Kp fun x39 =>
   opN Tryd.prog (sExt x37 2) Kp fun x40 =>
   opN Tryd.prog (sAlloc 135) Kp fun x6 =>
   opN Tryd.prog (sStore 135 x6 x38) Kp fun _ =>
   opN Tryd.prog (sCall (fn 68) [x20, (.int .i64 0)]) Kp fun x43 =>
   opN Tryd.prog (sExt x43 0) Kp fun x44 =>
   opN Tryd.prog (sExt x43 1) Kp fun x45 =>
   opN Tryd.prog (sExt x43 2) Kp fun x46 =>
   opN Tryd.prog (sAlloc 135) Kp fun x9 =>
   opN Tryd.prog (sStore 135 x9 x44) Kp fun _ =>
   opN Tryd.prog (sCall (fn 69) [x20, (.int .i64 0), (.bool true)]) Kp fun x48 =>
   opN Tryd.prog (sCall (fn 68) [x20, (.int .i64 0)]) Kp fun x51 =>
   opN Tryd.prog (sExt x51 0) Kp fun x52 =>
   opN Tryd.prog (sExt x51 1) Kp fun x53 =>
   opN Tryd.prog (sExt x51 2) Kp fun x54 =>
   opN Tryd.prog (sAlloc 135) Kp fun x13 =>
   opN Tryd.prog (sStore 135 x13 x52) Kp fun _ =>
   opN Tryd.prog (sFA 135 x3 0) Kp fun x55 =>
   opN Tryd.prog (sLoad 3 x55) Kp fun x56 =>
   opN Tryd.prog (sEq .eql 3 (.tmp 56) (.const (.int .i64 1)) x56 (.int .i64 1)) Kp fun x57 =>
   gdK x57 true (fun k => k x33) fun x59 =>
   opN Tryd.prog (sPick x57 x59 (.bool false)) Kp fun x60 =>
   gdK x60 true (opN Tryd.prog (sFA 135 x6 0) Kp) fun x62 =>
   gdK x60 true (opN Tryd.prog (sLoad 3 x62) Kp) fun x63 =>
   gdK x60 true (opN Tryd.prog (sEq .eql 3 (.tmp 63) (.const (.int .i64 2)) x63 (.int .i64 2)) Kp) fun x64 =>
   opN Tryd.prog (sPick x60 x64 (.bool false)) Kp fun x65 =>
   gdK x65 true (opN Tryd.prog (sFA 135 x6 1) Kp) fun x67 =>
   gdK x65 true (opN Tryd.prog (sLoad 3 x67) Kp) fun x68 =>
   gdK x65 true (opN Tryd.prog (sEq .eql 3 (.tmp 68) (.const (.int .i64 1)) x68 (.int .i64 1)) Kp) fun x69 =>
   opN Tryd.prog (sPick x65 x69 (.bool false)) Kp fun x70 =>
   gdK x70 true (fun k => k x39) fun x72 =>
   opN Tryd.prog (sPick x70 x72 (.bool false)) Kp fun x73 =>
   gdK x73 true (fun k => k x46) fun x75 =>
   gdK x73 true (opN Tryd.prog (sCall (fn 67) [x75]) Kp) fun x76 =>
   gdK x73 true (opN Tryd.prog (sEq .eql 3 (.tmp 76) (.const (.int .i64 63)) x76 (.int .i64 63)) Kp) fun x77 =>
   opN Tryd.prog (sPick x73 x77 (.bool false)) Kp fun x78 =>
   gdK x78 true (fun k => k x48) fun x80 =>
   gdK x78 true (opN Tryd.prog (sCall (fn 67) [x80]) Kp) fun x81 =>
   gdK x78 true (opN Tryd.prog (sEq .eql 3 (.tmp 81) (.const (.int .i64 0)) x81 (.int .i64 0)) Kp) fun x82 =>
   opN Tryd.prog (sPick x78 x82 (.bool false)) Kp fun x83 =>
   gdK x83 true (opN Tryd.prog (sFA 135 x13 1) Kp) fun x85 =>
   gdK x83 true (opN Tryd.prog (sLoad 3 x85) Kp) fun x86 =>
   gdK x83 true (opN Tryd.prog (sEq .eql 3 (.tmp 86) (.const (.int .i64 0)) x86 (.int .i64 0)) Kp) fun x87 =>
   opN Tryd.prog (sPick x83 x87 (.bool false)) Kp fun x88 =>
   gdK x88 true (fun k => k x53) fun x90 =>
   gdK x88 true (opN Tryd.prog (sUn .not x90) Kp) fun x91 =>
   opN Tryd.prog (sPick x88 x91 (.bool false)) Kp fun x92 =>
   K x92)
def law22_knows_an : Ann := { cuts := [], blks := [], loops := [], drs := [] }
theorem law22_knows_eq (Kp : PK) (K : Value → WP) : cevF Tryd.prog law22_knows_an Tryd.f34 [] Kp K = law22_knows Kp K := by kernel_rfl
theorem law22_knows_calls  {Kp : PK} {K : Value → WP} {w : World} (h : law22_knows Kp K w) : Calls Tryd.prog 34 #[] w (after Kp K) :=
  calls_of_shape (calls_of_cev wide Tryd.func34 (an := law22_knows_an) (args := []) (cast (congrFun (law22_knows_eq Kp K) w).symm h))
theorem law22_knows_cn  {W : World} {α : Type} {A : List HP} {r : α → Value} {B : α → List HP} (h : ∀ F, Ent W (A ++ F) (law22_knows noP fun v w => ∃ x, v = r x ∧ sat W (B x ++ F) w)) : Cn Tryd.prog 34 [] W A r B :=
  Cn.of (shape := law22_knows) Tryd.call34 (fun h => law22_knows_calls h) h
theorem law22_knows_cnP  {W : World} {α β : Type} {A : List HP} {r : α → Value} {B : α → List HP} {pc : β → List PanicEntry} {Bp : β → List HP} (h : ∀ F, Ent W (A ++ F) (law22_knows (fun ch w => ∃ y, ch = pc y ∧ sat W (Bp y ++ F) w) fun v w => ∃ x, v = r x ∧ sat W (B x ++ F) w)) : CnP Tryd.prog 34 [] W A r B pc Bp :=
  CnP.of (shape := law22_knows) Tryd.call34 (fun h => law22_knows_calls h) h

/-- ascii_Equal -/
def ascii_Equal (v0 v1 : Value) (Kp : PK) (K : Value → WP) : WP :=
  opN Tryd.prog (sLen #[9] 3 [v0]) Kp fun x6 =>
  opN Tryd.prog (sLen #[9] 3 [v1]) Kp fun x8 =>
  opN Tryd.prog (sEq .eql 3 (.tmp 6) (.tmp 8) x6 x8) Kp fun x9 =>
  gdK x9 true (fun k => k v0) fun x11 =>
  gdK x9 true (opN Tryd.prog (sCall (fn 43) [x11]) Kp) fun x12 =>
  gdK x9 true (fun k => k v1) fun x13 =>
  gdK x9 true (opN Tryd.prog (sCall (fn 43) [x13]) Kp) fun x14 =>
  gdK x9 true (opN Tryd.prog (sEq .eql 9 (.tmp 12) (.tmp 14) x12 x14) Kp) fun x15 =>
  opN Tryd.prog (sPick x9 x15 (.bool false)) Kp fun x16 =>
  K x16
def ascii_Equal_an : Ann := { cuts := [], blks := [], loops := [], drs := [] }
theorem ascii_Equal_eq (v0 v1 : Value) (Kp : PK) (K : Value → WP) : cevF Tryd.prog ascii_Equal_an Tryd.f35 [v0, v1] Kp K = ascii_Equal v0 v1 Kp K := by kernel_rfl
theorem ascii_Equal_calls {v0 v1 : Value} {Kp : PK} {K : Value → WP} {w : World} (h : ascii_Equal v0 v1 Kp K w) : Calls Tryd.prog 35 #[v0, v1] w (after Kp K) :=
  calls_of_shape (calls_of_cev wide Tryd.func35 (an := ascii_Equal_an) (args := [v0, v1]) (cast (congrFun (ascii_Equal_eq v0 v1 Kp K) w).symm h))
theorem ascii_Equal_cn {v0 v1 : Value} {W : World} {α : Type} {A : List HP} {r : α → Value} {B : α → List HP} (h : ∀ F, Ent W (A ++ F) (ascii_Equal v0 v1 noP fun v w => ∃ x, v = r x ∧ sat W (B x ++ F) w)) : Cn Tryd.prog 35 [v0, v1] W A r B :=
  Cn.of (shape := ascii_Equal v0 v1) Tryd.call35 (fun h => ascii_Equal_calls h) h
theorem ascii_Equal_cnP {v0 v1 : Value} {W : World} {α β : Type} {A : List HP} {r : α → Value} {B : α → List HP} {pc : β → List PanicEntry} {Bp : β → List HP} (h : ∀ F, Ent W (A ++ F) (ascii_Equal v0 v1 (fun ch w => ∃ y, ch = pc y ∧ sat W (Bp y ++ F) w) fun v w => ∃ x, v = r x ∧ sat W (B x ++ F) w)) : CnP Tryd.prog 35 [v0, v1] W A r B pc Bp :=
  CnP.of (shape := ascii_Equal v0 v1) Tryd.call35 (fun h => ascii_Equal_calls h) h

/-- fields_list_fields_Span -/
def fields_list_fields_Span (v0 v1 : Value) (Kp : PK) (K : Value → WP) : WP :=
  opN Tryd.prog (sBox 88 v1) Kp fun x3 =>
  opN Tryd.prog (sAlloc 22) Kp fun x4 =>
  opN Tryd.prog (sAlloc 23) Kp fun x5 =>
  opN Tryd.prog (sAlloc 22) Kp fun x6 =>
  opN Tryd.prog (sLoad 88 x3) Kp fun x10 =>
  opN Tryd.prog (sCall (fn 70) [x10, v0]) Kp fun x12 =>
  rfS Tryd.prog x12 1 (fun u13 B1 N1 J1r =>
   B1 (opN Tryd.prog (sFA 88 x3 2) noK fun x15 =>
    opN Tryd.prog (sLoad 86 x15) noK fun x16 =>
    opN Tryd.prog (sCall x16 [u13]) noK fun x18 =>
    opN Tryd.prog (sExt x18 0) noK fun x19 =>
    opN Tryd.prog (sExt x18 1) noK fun x20 =>
    opN Tryd.prog (sAlloc 31) noK fun x8 =>
    opN Tryd.prog (sStore 31 x8 x19) noK fun _ =>
    opN Tryd.prog (sUn .not x20) noK fun x22 =>
    condS x22
    (opN Tryd.prog (sStore 22 x4 (.slice none 0 0)) noK fun _ =>
     opN Tryd.prog (sStore 23 x5 (.int .i64 42)) noK fun _ =>
     J1r)
    (opN Tryd.prog (sLoad 22 x6) noK fun x23 =>
     opN Tryd.prog (sLoad 31 x8) noK fun x24 =>
     opN Tryd.prog (sBuildSl 22 1 [(0, x24)]) noK fun x25 =>
     opN Tryd.prog (sApp #[22, 22] 22 [x23, x25]) noK fun x26 =>
     opN Tryd.prog (sStore 22 x6 x26) noK fun _ =>
     N1))) (fun d1 =>
   opN Tryd.prog (sLoad 22 x6) (KpM [d1] Kp) fun x27 =>
   opN Tryd.prog (sStore 22 x4 x27) (KpM [d1] Kp) fun _ =>
   opN Tryd.prog (sStore 23 x5 (.int .i64 0)) (KpM [d1] Kp) fun _ =>
   (tkS d1 ((stS Tryd.prog (sRes 22 x4) fun r0 => (stS Tryd.prog (sRes 23 x5) fun r1 => K (.tuple #[r0, r1])))))) (fun d1 => (tkS d1 ((stS Tryd.prog (sRes 22 x4) fun r0 => (stS Tryd.prog (sRes 23 x5) fun r1 => K (.tuple #[r0, r1])))))) (fun d1 ch => (tkS d1 (Kp ch)))
def fields_list_fields_Span_an : Ann := { cuts := [], blks := [], loops := [], drs := [] }
theorem fields_list_fields_Span_eq (v0 v1 : Value) (Kp : PK) (K : Value → WP) : cevFT Tryd.prog fields_list_fields_Span_an Tryd.f36 [v0, v1] Kp K = fields_list_fields_Span v0 v1 Kp K := by kernel_rfl
theorem fields_list_fields_Span_calls {v0 v1 : Value} {Kp : PK} {K : Value → WP} {w : World} (h : fields_list_fields_Span v0 v1 Kp K w) : Calls Tryd.prog 36 #[v0, v1] w (after Kp K) :=
  calls_of_shape (calls_of_cevT wide Tryd.func36 (an := fields_list_fields_Span_an) (args := [v0, v1]) (cast (congrFun (fields_list_fields_Span_eq v0 v1 Kp K) w).symm h))
theorem fields_list_fields_Span_cn {v0 v1 : Value} {W : World} {α : Type} {A : List HP} {r : α → Value} {B : α → List HP} (h : ∀ F, Ent W (A ++ F) (fields_list_fields_Span v0 v1 noP fun v w => ∃ x, v = r x ∧ sat W (B x ++ F) w)) : Cn Tryd.prog 36 [v0, v1] W A r B :=
  Cn.of (shape := fields_list_fields_Span v0 v1) Tryd.call36 (fun h => fields_list_fields_Span_calls h) h
theorem fields_list_fields_Span_cnP {v0 v1 : Value} {W : World} {α β : Type} {A : List HP} {r : α → Value} {B : α → List HP} {pc : β → List PanicEntry} {Bp : β → List HP} (h : ∀ F, Ent W (A ++ F) (fields_list_fields_Span v0 v1 (fun ch w => ∃ y, ch = pc y ∧ sat W (Bp y ++ F) w) fun v w => ∃ x, v = r x ∧ sat W (B x ++ F) w)) : CnP Tryd.prog 36 [v0, v1] W A r B pc Bp :=
  CnP.of (shape := fields_list_fields_Span v0 v1) Tryd.call36 (fun h => fields_list_fields_Span_calls h) h

/-- fields_span -/
def fields_span (v0 : Value) (Kp : PK) (K : Value → WP) : WP :=
  opN Tryd.prog (sAlloc 31) Kp fun x2 =>
  opN Tryd.prog (sCall (fn 71) [v0, (.string ⟨#[45]⟩)]) Kp fun x14 =>
  opN Tryd.prog (sExt x14 0) Kp fun x15 =>
  opN Tryd.prog (sExt x14 1) Kp fun x16 =>
  opN Tryd.prog (sExt x14 2) Kp fun x17 =>
  opN Tryd.prog (sBuild 31 [(0, (.int .i64 (-1))), (1, (.int .i64 (-1)))]) Kp fun x18 =>
  opN Tryd.prog (sAlloc 31) Kp fun x7 =>
  opN Tryd.prog (sStore 31 x7 x18) Kp fun _ =>
  opN Tryd.prog (sFA 31 x7 0) Kp fun x20 =>
  opN Tryd.prog (sBuild 146 [(0, x15), (1, x20)]) Kp fun x21 =>
  opN Tryd.prog (sFA 31 x7 1) Kp fun x23 =>
  opN Tryd.prog (sBuild 146 [(0, x16), (1, x23)]) Kp fun x24 =>
  opN Tryd.prog (sBuild 147 [(0, x21), (1, x24)]) Kp fun x25 =>
  loop2 (fun I1 m1 _ y6 y26 =>
   opN Tryd.prog (sBin .lss 3 y26 (.int .i64 2)) Kp fun x27 =>
   condS x27
   (opN Tryd.prog (sIx 147 x25 y26) Kp fun x28 =>
    opN Tryd.prog (sAlloc 146) Kp fun x9 =>
    opN Tryd.prog (sStore 146 x9 x28) Kp fun _ =>
    opN Tryd.prog (sFA 146 x9 0) Kp fun x29 =>
    opN Tryd.prog (sLoad 9 x29) Kp fun x30 =>
    opN Tryd.prog (sEq .eql 9 (.tmp 30) (.const (.string ⟨#[]⟩)) x30 (.string ⟨#[]⟩)) Kp fun x31 =>
    condS x31
    (opN Tryd.prog (sBin .add 3 y26 (.int .i64 1)) Kp fun x47 =>
     next2 I1 m1 y6 x47)
    (opN Tryd.prog (sFA 146 x9 0) Kp fun x33 =>
     opN Tryd.prog (sLoad 9 x33) Kp fun x34 =>
     opN Tryd.prog (sCall (fn 72) [x34]) Kp fun x35 =>
     opN Tryd.prog (sExt x35 0) Kp fun x36 =>
     opN Tryd.prog (sExt x35 1) Kp fun x37 =>
     gdK y6 true (fun k => k x37) fun x40 =>
     gdK y6 true (opN Tryd.prog (sEq .eql 23 (.tmp 40) (.const (.int .i64 0)) x40 (.int .i64 0)) Kp) fun x41 =>
     opN Tryd.prog (sPick y6 x41 (.bool false)) Kp fun x42 =>
     opN Tryd.prog (sFA 146 x9 1) Kp fun x43 =>
     opN Tryd.prog (sLoad 145 x43) Kp fun x44 =>
     opN Tryd.prog (sNil x44) Kp fun x46 =>
     opN Tryd.prog (sStore 3 x46 x36) Kp fun _ =>
     opN Tryd.prog (sBin .add 3 y26 (.int .i64 1)) Kp fun x47 =>
     next2 I1 m1 x42 x47))
   (drS (stS Tryd.prog (sLoad 31 x7) fun x48 =>
     gdK y6 true (stS Tryd.prog (sLoad 31 x7)) fun x51 =>
     gdK y6 true (stS Tryd.prog (sBuild 31 [(0, (.int .i64 (-1))), (1, (.int .i64 (-1)))])) fun x52 =>
     gdK y6 true (stS Tryd.prog (sEq .neq 31 (.tmp 51) (.tmp 52) x51 x52)) fun x53 =>
     stS Tryd.prog (sPick y6 x53 (.bool false)) fun x54 =>
     gdK x54 true (stS Tryd.prog (sFA 31 x7 0)) fun x56 =>
     gdK x54 true (stS Tryd.prog (sLoad 3 x56)) fun x57 =>
     gdK x54 true (stS Tryd.prog (sBin .lss 3 x57 (.int .i64 0))) fun x58 =>
     gdK x54 true (fun k => k x58) fun x59 =>
     gdK x59 false (stS Tryd.prog (sFA 31 x7 1)) fun x60 =>
     gdK x59 false (stS Tryd.prog (sLoad 3 x60)) fun x61 =>
     gdK x59 false (stS Tryd.prog (sBin .lss 3 x61 (.int .i64 0))) fun x62 =>
     gdK x54 true (stS Tryd.prog (sPick x59 (.bool true) x62)) fun x63 =>
     gdK x54 true (fun k => k x63) fun x64 =>
     gdD x64 false (stD Tryd.prog (sFA 31 x7 0)) fun D17 x65 =>
     gdD x64 false (stD Tryd.prog (sLoad 3 x65)) fun D18 x66 =>
     gdD x64 false (stD Tryd.prog (sFA 31 x7 1)) fun D19 x67 =>
     gdD x64 false (stD Tryd.prog (sLoad 3 x67)) fun D20 x68 =>
     gdD x64 false (stD Tryd.prog (sBin .leq 3 x66 x68)) fun D21 x69 =>
     gdD x54 true (stD Tryd.prog (sPick x64 (.bool true) x69)) fun D22 x70 =>
     stD Tryd.prog (sPick x54 x70 (.bool false)) fun D23 x71 =>
     opN Tryd.prog (sStore 31 x2 x48) Kp fun _ =>
     (fun w => D23 w ∧ (fun w => D22 w ∧ (fun w => D21 w ∧ (fun w => D20 w ∧ (fun w => D19 w ∧ (fun w => D18 w ∧ (fun w => D17 w ∧ ((stS Tryd.prog (sRes 31 x2) fun r0 => K (.tuple #[r0, x71]))) w) w) w) w) w) w) w)))) x17 (.int .i64 0)
def fields_span_an : Ann := { cuts := [], blks := [], loops := [(4, [6, 26])], drs := [(11, [(0, 1), (1, 1), (2, 1), (3, 1), (4, 1), (5, 1), (6, 1), (7, 1), (8, 1), (9, 1), (10, 1), (11, 1), (12, 1), (13, 1), (14, 1), (15, 1), (16, 1), (17, 3), (18, 3), (19, 3), (20, 3), (21, 3), (22, 3), (23, 3), (24, 0), (25, 1)])] }
theorem fields_span_eq (v0 : Value) (Kp : PK) (K : Value → WP) : cevF Tryd.prog fields_span_an Tryd.f37 [v0] Kp K = fields_span v0 Kp K := by kernel_rfl
theorem fields_span_calls {v0 : Value} {Kp : PK} {K : Value → WP} {w : World} (h : fields_span v0 Kp K w) : Calls Tryd.prog 37 #[v0] w (after Kp K) :=
  calls_of_shape (calls_of_cev wide Tryd.func37 (an := fields_span_an) (args := [v0]) (cast (congrFun (fields_span_eq v0 Kp K) w).symm h))
theorem fields_span_cn {v0 : Value} {W : World} {α : Type} {A : List HP} {r : α → Value} {B : α → List HP} (h : ∀ F, Ent W (A ++ F) (fields_span v0 noP fun v w => ∃ x, v = r x ∧ sat W (B x ++ F) w)) : Cn Tryd.prog 37 [v0] W A r B :=
  Cn.of (shape := fields_span v0) Tryd.call37 (fun h => fields_span_calls h) h
theorem fields_span_cnP {v0 : Value} {W : World} {α β : Type} {A : List HP} {r : α → Value} {B : α → List HP} {pc : β → List PanicEntry} {Bp : β → List HP} (h : ∀ F, Ent W (A ++ F) (fields_span v0 (fun ch w => ∃ y, ch = pc y ∧ sat W (Bp y ++ F) w) fun v w => ∃ x, v = r x ∧ sat W (B x ++ F) w)) : CnP Tryd.prog 37 [v0] W A r B pc Bp :=
  CnP.of (shape := fields_span v0) Tryd.call37 (fun h => fields_span_calls h) h

/-- ref01_Lower -/
def ref01_Lower (v0 : Value) (Kp : PK) (K : Value → WP) : WP :=
  opN Tryd.prog (sConv 9 150 v0) Kp fun x6 =>
  loop1 (fun I1 m1 _ y4 =>
   opN Tryd.prog (sLen #[150] 3 [x6]) Kp fun x9 =>
   opN Tryd.prog (sBin .lss 3 y4 x9) Kp fun x10 =>
   condS x10
   (opN Tryd.prog (sIA 150 x6 y4) Kp fun x15 =>
    opN Tryd.prog (sLoad 5 x15) Kp fun x16 =>
    opN Tryd.prog (sBin .geq 5 x16 (.int .u8 65)) Kp fun x17 =>
    gdK x17 true (fun k => k x6) fun x19 =>
    gdK x17 true (fun k => k y4) fun x20 =>
    gdK x17 true (opN Tryd.prog (sIA 150 x19 x20) Kp) fun x21 =>
    gdK x17 true (opN Tryd.prog (sLoad 5 x21) Kp) fun x22 =>
    gdK x17 true (opN Tryd.prog (sBin .leq 5 x22 (.int .u8 90)) Kp) fun x23 =>
    opN Tryd.prog (sPick x17 x23 (.bool false)) Kp fun x24 =>
    condS x24
    (opN Tryd.prog (sIA 150 x6 y4) Kp fun x29 =>
     opN Tryd.prog (sLoad 5 x29) Kp fun x30 =>
     opN Tryd.prog (sBin .add 5 x30 (.int .u8 32)) Kp fun x31 =>
     opN Tryd.prog (sIA 150 x6 y4) Kp fun x32 =>
     opN Tryd.prog (sStore 5 x32 x31) Kp fun _ =>
     opN Tryd.prog (sBin .add 3 y4 (.int .i64 1)) Kp fun x12 =>
     next1 I1 m1 x12)
    (opN Tryd.prog (sBin .add 3 y4 (.int .i64 1)) Kp fun x12 =>
     next1 I1 m1 x12))
   (opN Tryd.prog (sConv 150 9 x6) Kp fun x34 =>
    K x34)) (.int .i64 0)
def ref01_Lower_an : Ann := { cuts := [], blks := [], loops := [(3, [4])], drs := [] }
theorem ref01_Lower_eq (v0 : Value) (Kp : PK) (K : Value → WP) : cevF Tryd.prog ref01_Lower_an Tryd.f38 [v0] Kp K = ref01_Lower v0 Kp K := by kernel_rfl
theorem ref01_Lower_calls {v0 : Value} {Kp : PK} {K : Value → WP} {w : World} (h : ref01_Lower v0 Kp K w) : Calls Tryd.prog 38 #[v0] w (after Kp K) :=
  calls_of_shape (calls_of_cev wide Tryd.func38 (an := ref01_Lower_an) (args := [v0]) (cast (congrFun (ref01_Lower_eq v0 Kp K) w).symm h))
theorem ref01_Lower_cn {v0 : Value} {W : World} {α : Type} {A : List HP} {r : α → Value} {B : α → List HP} (h : ∀ F, Ent W (A ++ F) (ref01_Lower v0 noP fun v w => ∃ x, v = r x ∧ sat W (B x ++ F) w)) : Cn Tryd.prog 38 [v0] W A r B :=
  Cn.of (shape := ref01_Lower v0) Tryd.call38 (fun h => ref01_Lower_calls h) h
theorem ref01_Lower_cnP {v0 : Value} {W : World} {α β : Type} {A : List HP} {r : α → Value} {B : α → List HP} {pc : β → List PanicEntry} {Bp : β → List HP} (h : ∀ F, Ent W (A ++ F) (ref01_Lower v0 (fun ch w => ∃ y, ch = pc y ∧ sat W (Bp y ++ F) w) fun v w => ∃ x, v = r x ∧ sat W (B x ++ F) w)) : CnP Tryd.prog 38 [v0] W A r B pc Bp :=
  CnP.of (shape := ref01_Lower v0) Tryd.call38 (fun h => ref01_Lower_calls h) h

/-- ref10_elements -/
def ref10_elements (v0 v1 v2 : Value) (Kp : PK) (K : Value → WP) : WP :=
  loop4 (fun I1 m1 _ y7 y8 y9 y10 =>
   opN Tryd.prog (sLen #[9] 3 [v0]) Kp fun x14 =>
   opN Tryd.prog (sBin .leq 3 y10 x14) Kp fun x15 =>
   condS x15
   (cut1 (fun J1 =>
     opN Tryd.prog (sLen #[9] 3 [v0]) Kp fun x20 =>
     opN Tryd.prog (sBin .lss 3 y10 x20) Kp fun x21 =>
     gdK x21 true (fun k => k y8) fun x23 =>
     opN Tryd.prog (sPick x21 x23 (.bool false)) Kp fun x24 =>
     gdK x24 true (fun k => k v2) fun x26 =>
     opN Tryd.prog (sPick x24 x26 (.bool false)) Kp fun x27 =>
     gdK x27 true (fun k => k v0) fun x29 =>
     gdK x27 true (fun k => k y10) fun x30 =>
     gdK x27 true (opN Tryd.prog (sIx 9 x29 x30) Kp) fun x31 =>
     gdK x27 true (opN Tryd.prog (sEq .eql 5 (.tmp 31) (.const (.int .u8 92)) x31 (.int .u8 92)) Kp) fun x32 =>
     opN Tryd.prog (sPick x27 x32 (.bool false)) Kp fun x33 =>
     condS x33
     (opN Tryd.prog (sBin .add 3 y10 (.int .i64 1)) Kp fun x35 =>
      opN Tryd.prog (sLen #[9] 3 [v0]) Kp fun x38 =>
      opN Tryd.prog (sBin .lss 3 x35 x38) Kp fun x39 =>
      condS x39
      (opN Tryd.prog (sBin .add 3 x35 (.int .i64 1)) Kp fun x17 =>
       next4 I1 m1 y7 y8 y9 x17)
      (J1 x35))
     (J1 y10)) fun _ z10 =>
    cut1 (fun J2 =>
     opN Tryd.prog (sLen #[9] 3 [v0]) Kp fun x42 =>
     opN Tryd.prog (sBin .lss 3 z10 x42) Kp fun x43 =>
     gdK x43 true (fun k => k v1) fun x45 =>
     opN Tryd.prog (sPick x43 x45 (.bool false)) Kp fun x46 =>
     gdK x46 true (fun k => k v0) fun x48 =>
     gdK x46 true (fun k => k z10) fun x49 =>
     gdK x46 true (opN Tryd.prog (sIx 9 x48 x49) Kp) fun x50 =>
     gdK x46 true (opN Tryd.prog (sEq .eql 5 (.tmp 50) (.const (.int .u8 34)) x50 (.int .u8 34)) Kp) fun x51 =>
     opN Tryd.prog (sPick x46 x51 (.bool false)) Kp fun x52 =>
     condS x52
     (opN Tryd.prog (sUn .not y8) Kp fun x54 =>
      J2 x54)
     (J2 y8)) fun _ z8 =>
    opN Tryd.prog (sLen #[9] 3 [v0]) Kp fun x57 =>
    opN Tryd.prog (sBin .lss 3 z10 x57) Kp fun x58 =>
    gdK x58 true (fun k => k v0) fun x60 =>
    gdK x58 true (fun k => k z10) fun x61 =>
    gdK x58 true (opN Tryd.prog (sIx 9 x60 x61) Kp) fun x62 =>
    gdK x58 true (opN Tryd.prog (sEq .neq 5 (.tmp 62) (.const (.int .u8 44)) x62 (.int .u8 44)) Kp) fun x63 =>
    gdK x58 true (fun k => k x63) fun x64 =>
    gdK x64 false (fun k => k z8) fun x65 =>
    gdK x58 true (opN Tryd.prog (sPick x64 (.bool true) x65) Kp) fun x66 =>
    opN Tryd.prog (sPick x58 x66 (.bool false)) Kp fun x67 =>
    condS x67
    (opN Tryd.prog (sBin .add 3 z10 (.int .i64 1)) Kp fun x17 =>
     next4 I1 m1 y7 z8 y9 x17)
    (opN Tryd.prog (sLen #[9] 3 [v0]) Kp fun x72 =>
     opN Tryd.prog (sMin #[3, 3] 3 [z10, x72]) Kp fun x73 =>
     opN Tryd.prog (sSl 9 v0 (some y9) (some x73) none) Kp fun x74 =>
     opN Tryd.prog (sCall (fn 54) [x74]) Kp fun x75 =>
     cut1 (fun J3 =>
      opN Tryd.prog (sEq .neq 9 (.tmp 76) (.const (.string ⟨#[]⟩)) x75 (.string ⟨#[]⟩)) Kp fun x77 =>
      condS x77
      (opN Tryd.prog (sBuildSl 40 1 [(0, x75)]) Kp fun x80 =>
       opN Tryd.prog (sApp #[40, 40] 40 [y7, x80]) Kp fun x81 =>
       J3 x81)
      (J3 y7)) fun _ z7 =>
     opN Tryd.prog (sBin .add 3 z10 (.int .i64 1)) Kp fun x83 =>
     opN Tryd.prog (sBin .add 3 z10 (.int .i64 1)) Kp fun x17 =>
     next4 I1 m1 z7 z8 x83 x17))
   (K y7)) (.slice none 0 0) (.bool false) (.int .i64 0) (.int .i64 0)
def ref10_elements_an : Ann := { cuts := [(10, [10]), (12, [8]), (16, [7])], blks := [], loops := [(5, [7, 8, 9, 10])], drs := [] }
theorem ref10_elements_eq (v0 v1 v2 : Value) (Kp : PK) (K : Value → WP) : cevF Tryd.prog ref10_elements_an Tryd.f39 [v0, v1, v2] Kp K = ref10_elements v0 v1 v2 Kp K := by kernel_rfl
theorem ref10_elements_calls {v0 v1 v2 : Value} {Kp : PK} {K : Value → WP} {w : World} (h : ref10_elements v0 v1 v2 Kp K w) : Calls Tryd.prog 39 #[v0, v1, v2] w (after Kp K) :=
  calls_of_shape (calls_of_cev wide Tryd.func39 (an := ref10_elements_an) (args := [v0, v1, v2]) (cast (congrFun (ref10_elements_eq v0 v1 v2 Kp K) w).symm h))
theorem ref10_elements_cn {v0 v1 v2 : Value} {W : World} {α : Type} {A : List HP} {r : α → Value} {B : α → List HP} (h : ∀ F, Ent W (A ++ F) (ref10_elements v0 v1 v2 noP fun v w => ∃ x, v = r x ∧ sat W (B x ++ F) w)) : Cn Tryd.prog 39 [v0, v1, v2] W A r B :=
  Cn.of (shape := ref10_elements v0 v1 v2) Tryd.call39 (fun h => ref10_elements_calls h) h
theorem ref10_elements_cnP {v0 v1 v2 : Value} {W : World} {α β : Type} {A : List HP} {r : α → Value} {B : α → List HP} {pc : β → List PanicEntry} {Bp : β → List HP} (h : ∀ F, Ent W (A ++ F) (ref10_elements v0 v1 v2 (fun ch w => ∃ y, ch = pc y ∧ sat W (Bp y ++ F) w) fun v w => ∃ x, v = r x ∧ sat W (B x ++ F) w)) : CnP Tryd.prog 39 [v0, v1, v2] W A r B pc Bp :=
  CnP.of (shape := ref10_elements v0 v1 v2) Tryd.call39 (fun h => ref10_elements_calls h) h

/-- ref10_span -/
def ref10_span (v0 : Value) (Kp : PK) (K : Value → WP) : WP :=
  opN Tryd.prog (sAlloc 32) Kp fun x2 =>
  loop1 (fun I1 m1 _ y4 =>
   opN Tryd.prog (sLen #[9] 3 [v0]) Kp fun x12 =>
   opN Tryd.prog (sBin .lss 3 y4 x12) Kp fun x13 =>
   gdK x13 true (fun k => k v0) fun x15 =>
   gdK x13 true (fun k => k y4) fun x16 =>
   gdK x13 true (opN Tryd.prog (sIx 9 x15 x16) Kp) fun x17 =>
   gdK x13 true (opN Tryd.prog (sEq .neq 5 (.tmp 17) (.const (.int .u8 45)) x17 (.int .u8 45)) Kp) fun x18 =>
   opN Tryd.prog (sPick x13 x18 (.bool false)) Kp fun x19 =>
   condS x19
   (opN Tryd.prog (sBin .add 3 y4 (.int .i64 1)) Kp fun x21 =>
    next1 I1 m1 x21)
   (opN Tryd.prog (sLen #[9] 3 [v0]) Kp fun x24 =>
    opN Tryd.prog (sEq .eql 3 (.tmp 22) (.tmp 24) y4 x24) Kp fun x25 =>
    gdK x25 false (fun k => k v0) fun x27 =>
    gdK x25 false (opN Tryd.prog (sLen #[9] 3 [x27]) Kp) fun x28 =>
    gdK x25 false (opN Tryd.prog (sEq .eql 3 (.tmp 28) (.const (.int .i64 1)) x28 (.int .i64 1)) Kp) fun x29 =>
    opN Tryd.prog (sPick x25 (.bool true) x29) Kp fun x30 =>
    condS x30
    (opN Tryd.prog (sBuild 32 []) Kp fun x31 =>
     opN Tryd.prog (sStore 32 x2 x31) Kp fun _ =>
     (stS Tryd.prog (sRes 32 x2) fun r0 => K (.tuple #[r0, (.bool false)])))
    (opN Tryd.prog (sBuild 32 [(0, (.int .i64 (-1))), (1, (.int .i64 (-1)))]) Kp fun x32 =>
     opN Tryd.prog (sAlloc 32) Kp fun x5 =>
     opN Tryd.prog (sStore 32 x5 x32) Kp fun _ =>
     cut0 (fun J1 =>
      opN Tryd.prog (sBin .gtr 3 y4 (.int .i64 0)) Kp fun x34 =>
      condS x34
      (opN Tryd.prog (sSl 9 v0 none (some y4) none) Kp fun x38 =>
       opN Tryd.prog (sCall (fn 73) [x38]) Kp fun x39 =>
       opN Tryd.prog (sExt x39 0) Kp fun x40 =>
       opN Tryd.prog (sExt x39 1) Kp fun x41 =>
       opN Tryd.prog (sEq .neq 3 (.tmp 42) (.const (.int .i64 0)) x41 (.int .i64 0)) Kp fun x43 =>
       condS x43
       (opN Tryd.prog (sLoad 32 x5) Kp fun x44 =>
        opN Tryd.prog (sStore 32 x2 x44) Kp fun _ =>
        (stS Tryd.prog (sRes 32 x2) fun r0 => K (.tuple #[r0, (.bool false)])))
       (opN Tryd.prog (sFA 32 x5 0) Kp fun x46 =>
        opN Tryd.prog (sStore 3 x46 x40) Kp fun _ =>
        J1))
      (J1)) fun _ =>
     cut0 (fun J2 =>
      opN Tryd.prog (sBin .add 3 y4 (.int .i64 1)) Kp fun x48 =>
      opN Tryd.prog (sLen #[9] 3 [v0]) Kp fun x50 =>
      opN Tryd.prog (sBin .lss 3 x48 x50) Kp fun x51 =>
      condS x51
      (opN Tryd.prog (sBin .add 3 y4 (.int .i64 1)) Kp fun x55 =>
       opN Tryd.prog (sSl 9 v0 (some x55) none none) Kp fun x56 =>
       opN Tryd.prog (sCall (fn 73) [x56]) Kp fun x57 =>
       opN Tryd.prog (sExt x57 0) Kp fun x58 =>
       opN Tryd.prog (sExt x57 1) Kp fun x59 =>
       opN Tryd.prog (sEq .neq 3 (.tmp 60) (.const (.int .i64 0)) x59 (.int .i64 0)) Kp fun x61 =>
       condS x61
       (opN Tryd.prog (sLoad 32 x5) Kp fun x62 =>
        opN Tryd.prog (sStore 32 x2 x62) Kp fun _ =>
        (stS Tryd.prog (sRes 32 x2) fun r0 => K (.tuple #[r0, (.bool false)])))
       (opN Tryd.prog (sFA 32 x5 1) Kp fun x64 =>
        opN Tryd.prog (sStore 3 x64 x58) Kp fun _ =>
        J2))
      (J2)) fun _ =>
     drS (stS Tryd.prog (sLoad 32 x5) fun x65 =>
      stS Tryd.prog (sFA 32 x5 0) fun x66 =>
      stS Tryd.prog (sLoad 3 x66) fun x67 =>
      stS Tryd.prog (sBin .lss 3 x67 (.int .i64 0)) fun x68 =>
      gdK x68 false (stS Tryd.prog (sFA 32 x5 1)) fun x70 =>
      gdK x68 false (stS Tryd.prog (sLoad 3 x70)) fun x71 =>
      gdK x68 false (stS Tryd.prog (sBin .lss 3 x71 (.int .i64 0))) fun x72 =>
      stS Tryd.prog (sPick x68 (.bool true) x72) fun x73 =>
      gdD x73 false (stD Tryd.prog (sFA 32 x5 0)) fun D10 x75 =>
      gdD x73 false (stD Tryd.prog (sLoad 3 x75)) fun D11 x76 =>
      gdD x73 false (stD Tryd.prog (sFA 32 x5 1)) fun D12 x77 =>
      gdD x73 false (stD Tryd.prog (sLoad 3 x77)) fun D13 x78 =>
      gdD x73 false (stD Tryd.prog (sBin .leq 3 x76 x78)) fun D14 x79 =>
      stD Tryd.prog (sPick x73 (.bool true) x79) fun D15 x80 =>
      opN Tryd.prog (sStore 32 x2 x65) Kp fun _ =>
      (fun w => D15 w ∧ (fun w => D14 w ∧ (fun w => D13 w ∧ (fun w => D12 w ∧ (fun w => D11 w ∧ (fun w => D10 w ∧ ((stS Tryd.prog (sRes 32 x2) fun r0 => K (.tuple #[r0, x80]))) w) w) w) w) w) w))))) (.int .i64 0)
def ref10_span_an : Ann := { cuts := [(12, []), (17, [])], blks := [], loops := [(2, [4])], drs := [(17, [(0, 1), (1, 1), (2, 1), (3, 1), (4, 1), (5, 1), (6, 1), (7, 1), (8, 1), (9, 1), (10, 3), (11, 3), (12, 3), (13, 3), (14, 3), (15, 3), (16, 0), (17, 1)])] }
theorem ref10_span_eq (v0 : Value) (Kp : PK) (K : Value → WP) : cevF Tryd.prog ref10_span_an Tryd.f40 [v0] Kp K = ref10_span v0 Kp K := by kernel_rfl
theorem ref10_span_calls {v0 : Value} {Kp : PK} {K : Value → WP} {w : World} (h : ref10_span v0 Kp K w) : Calls Tryd.prog 40 #[v0] w (after Kp K) :=
  calls_of_shape (calls_of_cev wide Tryd.func40 (an := ref10_span_an) (args := [v0]) (cast (congrFun (ref10_span_eq v0 Kp K) w).symm h))
theorem ref10_span_cn {v0 : Value} {W : World} {α : Type} {A : List HP} {r : α → Value} {B : α → List HP} (h : ∀ F, Ent W (A ++ F) (ref10_span v0 noP fun v w => ∃ x, v = r x ∧ sat W (B x ++ F) w)) : Cn Tryd.prog 40 [v0] W A r B :=
  Cn.of (shape := ref10_span v0) Tryd.call40 (fun h => ref10_span_calls h) h
theorem ref10_span_cnP {v0 : Value} {W : World} {α β : Type} {A : List HP} {r : α → Value} {B : α → List HP} {pc : β → List PanicEntry} {Bp : β → List HP} (h : ∀ F, Ent W (A ++ F) (ref10_span v0 (fun ch w => ∃ y, ch = pc y ∧ sat W (Bp y ++ F) w) fun v w => ∃ x, v = r x ∧ sat W (B x ++ F) w)) : CnP Tryd.prog 40 [v0] W A r B pc Bp :=
  CnP.of (shape := ref10_span v0) Tryd.call40 (fun h => ref10_span_calls h) h

/-- fields_list_string -/
def fields_list_string (v0 v1 : Value) (Kp : PK) (K : Value → WP) : WP :=
  opN Tryd.prog (sBox 96 v1) Kp fun x3 =>
  opN Tryd.prog (sAlloc 40) Kp fun x4 =>
  opN Tryd.prog (sAlloc 23) Kp fun x5 =>
  opN Tryd.prog (sAlloc 40) Kp fun x6 =>
  opN Tryd.prog (sLoad 96 x3) Kp fun x10 =>
  opN Tryd.prog (sCall (fn 74) [x10, v0]) Kp fun x12 =>
  rfS Tryd.prog x12 1 (fun u13 B1 N1 J1r =>
   B1 (opN Tryd.prog (sFA 96 x3 2) noK fun x15 =>
    opN Tryd.prog (sLoad 94 x15) noK fun x16 =>
    opN Tryd.prog (sCall x16 [u13]) noK fun x18 =>
    opN Tryd.prog (sExt x18 0) noK fun x19 =>
    opN Tryd.prog (sExt x18 1) noK fun x20 =>
    opN Tryd.prog (sUn .not x20) noK fun x22 =>
    condS x22
    (opN Tryd.prog (sStore 40 x4 (.slice none 0 0)) noK fun _ =>
     opN Tryd.prog (sStore 23 x5 (.int .i64 42)) noK fun _ =>
     J1r)
    (opN Tryd.prog (sLoad 40 x6) noK fun x23 =>
     opN Tryd.prog (sBuildSl 40 1 [(0, x19)]) noK fun x25 =>
     opN Tryd.prog (sApp #[40, 40] 40 [x23, x25]) noK fun x26 =>
     opN Tryd.prog (sStore 40 x6 x26) noK fun _ =>
     N1))) (fun d1 =>
   opN Tryd.prog (sLoad 40 x6) (KpM [d1] Kp) fun x27 =>
   opN Tryd.prog (sStore 40 x4 x27) (KpM [d1] Kp) fun _ =>
   opN Tryd.prog (sStore 23 x5 (.int .i64 0)) (KpM [d1] Kp) fun _ =>
   (tkS d1 ((stS Tryd.prog (sRes 40 x4) fun r0 => (stS Tryd.prog (sRes 23 x5) fun r1 => K (.tuple #[r0, r1])))))) (fun d1 => (tkS d1 ((stS Tryd.prog (sRes 40 x4) fun r0 => (stS Tryd.prog (sRes 23 x5) fun r1 => K (.tuple #[r0, r1])))))) (fun d1 ch => (tkS d1 (Kp ch)))
def fields_list_string_an : Ann := { cuts := [], blks := [], loops := [], drs := [] }
theorem fields_list_string_eq (v0 v1 : Value) (Kp : PK) (K : Value → WP) : cevFT Tryd.prog fields_list_string_an Tryd.f41 [v0, v1] Kp K = fields_list_string v0 v1 Kp K := by kernel_rfl
theorem fields_list_string_calls {v0 v1 : Value} {Kp : PK} {K : Value → WP} {w : World} (h : fields_list_string v0 v1 Kp K w) : Calls Tryd.prog 41 #[v0, v1] w (after Kp K) :=
  calls_of_shape (calls_of_cevT wide Tryd.func41 (an := fields_list_string_an) (args := [v0, v1]) (cast (congrFun (fields_list_string_eq v0 v1 Kp K) w).symm h))
theorem fields_list_string_cn {v0 v1 : Value} {W : World} {α : Type} {A : List HP} {r : α → Value} {B : α → List HP} (h : ∀ F, Ent W (A ++ F) (fields_list_string v0 v1 noP fun v w => ∃ x, v = r x ∧ sat W (B x ++ F) w)) : Cn Tryd.prog 41 [v0, v1] W A r B :=
  Cn.of (shape := fields_list_string v0 v1) Tryd.call41 (fun h => fields_list_string_calls h) h
theorem fields_list_string_cnP {v0 v1 : Value} {W : World} {α β : Type} {A : List HP} {r : α → Value} {B : α → List HP} {pc : β → List PanicEntry} {Bp : β → List HP} (h : ∀ F, Ent W (A ++ F) (fields_list_string v0 v1 (fun ch w => ∃ y, ch = pc y ∧ sat W (Bp y ++ F) w) fun v w => ∃ x, v = r x ∧ sat W (B x ++ F) w)) : CnP Tryd.prog 41 [v0, v1] W A r B pc Bp :=
  CnP.of (shape := fields_list_string v0 v1) Tryd.call41 (fun h => fields_list_string_calls h) h

/-- fields_Tokens_1 -/
def fields_Tokens_1 (v0 : Value) (Kp : PK) (K : Value → WP) : WP :=
  opN Tryd.prog (sCall (fn 43) [v0]) Kp fun x5 =>
  opN Tryd.prog (sCall (fn 44) [v0]) Kp fun x7 =>
  K (.tuple #[x5, x7])
def fields_Tokens_1_an : Ann := { cuts := [], blks := [], loops := [], drs := [] }
theorem fields_Tokens_1_eq (v0 : Value) (Kp : PK) (K : Value → WP) : cevF Tryd.prog fields_Tokens_1_an Tryd.f42 [v0] Kp K = fields_Tokens_1 v0 Kp K := by kernel_rfl
theorem fields_Tokens_1_calls {v0 : Value} {Kp : PK} {K : Value → WP} {w : World} (h : fields_Tokens_1 v0 Kp K w) : Calls Tryd.prog 42 #[v0] w (after Kp K) :=
  calls_of_shape (calls_of_cev wide Tryd.func42 (an := fields_Tokens_1_an) (args := [v0]) (cast (congrFun (fields_Tokens_1_eq v0 Kp K) w).symm h))
theorem fields_Tokens_1_cn {v0 : Value} {W : World} {α : Type} {A : List HP} {r : α → Value} {B : α → List HP} (h : ∀ F, Ent W (A ++ F) (fields_Tokens_1 v0 noP fun v w => ∃ x, v = r x ∧ sat W (B x ++ F) w)) : Cn Tryd.prog 42 [v0] W A r B :=
  Cn.of (shape := fields_Tokens_1 v0) Tryd.call42 (fun h => fields_Tokens_1_calls h) h
theorem fields_Tokens_1_cnP {v0 : Value} {W : World} {α β : Type} {A : List HP} {r : α → Value} {B : α → List HP} {pc : β → List PanicEntry} {Bp : β → List HP} (h : ∀ F, Ent W (A ++ F) (fields_Tokens_1 v0 (fun ch w => ∃ y, ch = pc y ∧ sat W (Bp y ++ F) w) fun v w => ∃ x, v = r x ∧ sat W (B x ++ F) w)) : CnP Tryd.prog 42 [v0] W A r B pc Bp :=
  CnP.of (shape := fields_Tokens_1 v0) Tryd.call42 (fun h => fields_Tokens_1_calls h) h

/-- ascii_Lower -/
def ascii_Lower (v0 : Value) (Kp : PK) (K : Value → WP) : WP :=
  opN Tryd.prog (sCall (fn 75) []) Kp fun x7 =>
  opN Tryd.prog (sAlloc 153) Kp fun x3 =>
  opN Tryd.prog (sStore 153 x3 x7) Kp fun _ =>
  opN Tryd.prog (sConv 9 150 v0) Kp fun x9 =>
  opN Tryd.prog (sLen #[150] 3 [x9]) Kp fun x11 =>
  loop1 (fun I1 m1 _ y12 =>
   opN Tryd.prog (sBin .lss 3 y12 x11) Kp fun x13 =>
   condS x13
   (opN Tryd.prog (sIA 150 x9 y12) Kp fun x15 =>
    opN Tryd.prog (sLoad 5 x15) Kp fun x16 =>
    opN Tryd.prog (sIA 153 x3 x16) Kp fun x18 =>
    opN Tryd.prog (sLoad 3 x18) Kp fun x19 =>
    opN Tryd.prog (sBin .and 3 x19 (.int .i64 4)) Kp fun x20 =>
    opN Tryd.prog (sEq .neq 3 (.tmp 20) (.const (.int .i64 0)) x20 (.int .i64 0)) Kp fun x21 =>
    condS x21
    (opN Tryd.prog (sBin .add 5 x16 (.int .u8 32)) Kp fun x25 =>
     opN Tryd.prog (sIA 150 x9 y12) Kp fun x26 =>
     opN Tryd.prog (sStore 5 x26 x25) Kp fun _ =>
     opN Tryd.prog (sBin .add 3 y12 (.int .i64 1)) Kp fun x27 =>
     next1 I1 m1 x27)
    (opN Tryd.prog (sBin .add 3 y12 (.int .i64 1)) Kp fun x27 =>
     next1 I1 m1 x27))
   (opN Tryd.prog (sConv 150 9 x9) Kp fun x29 =>
    K x29)) (.int .i64 0)
def ascii_Lower_an : Ann := { cuts := [], blks := [], loops := [(4, [12])], drs := [] }
theorem ascii_Lower_eq (v0 : Value) (Kp : PK) (K : Value → WP) : cevF Tryd.prog ascii_Lower_an Tryd.f43 [v0] Kp K = ascii_Lower v0 Kp K := by kernel_rfl
theorem ascii_Lower_calls {v0 : Value} {Kp : PK} {K : Value → WP} {w : World} (h : ascii_Lower v0 Kp K w) : Calls Tryd.prog 43 #[v0] w (after Kp K) :=
  calls_of_shape (calls_of_cev wide Tryd.func43 (an := ascii_Lower_an) (args := [v0]) (cast (congrFun (ascii_Lower_eq v0 Kp K) w).symm h))
theorem ascii_Lower_cn {v0 : Value} {W : World} {α : Type} {A : List HP} {r : α → Value} {B : α → List HP} (h : ∀ F, Ent W (A ++ F) (ascii_Lower v0 noP fun v w => ∃ x, v = r x ∧ sat W (B x ++ F) w)) : Cn Tryd.prog 43 [v0] W A r B :=
  Cn.of (shape := ascii_Lower v0) Tryd.call43 (fun h => ascii_Lower_calls h) h
theorem ascii_Lower_cnP {v0 : Value} {W : World} {α β : Type} {A : List HP} {r : α → Value} {B : α → List HP} {pc : β → List PanicEntry} {Bp : β → List HP} (h : ∀ F, Ent W (A ++ F) (ascii_Lower v0 (fun ch w => ∃ y, ch = pc y ∧ sat W (Bp y ++ F) w) fun v w => ∃ x, v = r x ∧ sat W (B x ++ F) w)) : CnP Tryd.prog 43 [v0] W A r B pc Bp :=
  CnP.of (shape := ascii_Lower v0) Tryd.call43 (fun h => ascii_Lower_calls h) h

/-- ascii_Token -/
def ascii_Token (v0 : Value) (Kp : PK) (K : Value → WP) : WP :=
  opN Tryd.prog (sEq .neq 9 (.tmp 3) (.const (.string ⟨#[]⟩)) v0 (.string ⟨#[]⟩)) Kp fun x4 =>
  gdK x4 true (fun k => k v0) fun x6 =>
  gdK x4 true (opN Tryd.prog (sCall (fn 76) [x6, (.int .i64 1)]) Kp) fun x7 =>
  opN Tryd.prog (sPick x4 x7 (.bool false)) Kp fun x8 =>
  K x8
def ascii_Token_an : Ann := { cuts := [], blks := [], loops := [], drs := [] }
theorem ascii_Token_eq (v0 : Value) (Kp : PK) (K : Value → WP) : cevF Tryd.prog ascii_Token_an Tryd.f44 [v0] Kp K = ascii_Token v0 Kp K := by kernel_rfl
theorem ascii_Token_calls {v0 : Value} {Kp : PK} {K : Value → WP} {w : World} (h : ascii_Token v0 Kp K w) : Calls Tryd.prog 44 #[v0] w (after Kp K) :=
  calls_of_shape (calls_of_cev wide Tryd.func44 (an := ascii_Token_an) (args := [v0]) (cast (congrFun (ascii_Token_eq v0 Kp K) w).symm h))
theorem ascii_Token_cn {v0 : Value} {W : World} {α : Type} {A : List HP} {r : α → Value} {B : α → List HP} (h : ∀ F, Ent W (A ++ F) (ascii_Token v0 noP fun v w => ∃ x, v = r x ∧ sat W (B x ++ F) w)) : Cn Tryd.prog 44 [v0] W A r B :=
  Cn.of (shape := ascii_Token v0) Tryd.call44 (fun h => ascii_Token_calls h) h
theorem ascii_Token_cnP {v0 : Value} {W : World} {α β : Type} {A : List HP} {r : α → Value} {B : α → List HP} {pc : β → List PanicEntry} {Bp : β → List HP} (h : ∀ F, Ent W (A ++ F) (ascii_Token v0 (fun ch w => ∃ y, ch = pc y ∧ sat W (Bp y ++ F) w) fun v w => ∃ x, v = r x ∧ sat W (B x ++ F) w)) : CnP Tryd.prog 44 [v0] W A r B pc Bp :=
  CnP.of (shape := ascii_Token v0) Tryd.call44 (fun h => ascii_Token_calls h) h

/-- ref01_Token -/
def ref01_Token (v0 : Value) (Kp : PK) (K : Value → WP) : WP :=
  loop1 (fun I1 m1 _ y3 =>
   opN Tryd.prog (sLen #[9] 3 [v0]) Kp fun x6 =>
   opN Tryd.prog (sBin .lss 3 y3 x6) Kp fun x7 =>
   condS x7
   (opN Tryd.prog (sIx 9 v0 y3) Kp fun x12 =>
    cut1 (fun J1 =>
     opN Tryd.prog (sEq .eql 5 (.tmp 12) (.const (.int .u8 33)) x12 (.int .u8 33)) Kp fun x19 =>
     condS x19
     (J1 x19)
     (opN Tryd.prog (sEq .eql 5 (.tmp 12) (.const (.int .u8 35)) x12 (.int .u8 35)) Kp fun x20 =>
      condS x20
      (J1 x20)
      (opN Tryd.prog (sEq .eql 5 (.tmp 12) (.const (.int .u8 36)) x12 (.int .u8 36)) Kp fun x21 =>
       condS x21
       (J1 x21)
       (opN Tryd.prog (sEq .eql 5 (.tmp 12) (.const (.int .u8 37)) x12 (.int .u8 37)) Kp fun x22 =>
        condS x22
        (J1 x22)
        (opN Tryd.prog (sEq .eql 5 (.tmp 12) (.const (.int .u8 38)) x12 (.int .u8 38)) Kp fun x23 =>
         condS x23
         (J1 x23)
         (opN Tryd.prog (sEq .eql 5 (.tmp 12) (.const (.int .u8 39)) x12 (.int .u8 39)) Kp fun x24 =>
          condS x24
          (J1 x24)
          (opN Tryd.prog (sEq .eql 5 (.tmp 12) (.const (.int .u8 42)) x12 (.int .u8 42)) Kp fun x25 =>
           condS x25
           (J1 x25)
           (opN Tryd.prog (sEq .eql 5 (.tmp 12) (.const (.int .u8 43)) x12 (.int .u8 43)) Kp fun x26 =>
            condS x26
            (J1 x26)
            (opN Tryd.prog (sEq .eql 5 (.tmp 12) (.const (.int .u8 45)) x12 (.int .u8 45)) Kp fun x27 =>
             condS x27
             (J1 x27)
             (opN Tryd.prog (sEq .eql 5 (.tmp 12) (.const (.int .u8 46)) x12 (.int .u8 46)) Kp fun x28 =>
              condS x28
              (J1 x28)
              (opN Tryd.prog (sEq .eql 5 (.tmp 12) (.const (.int .u8 94)) x12 (.int .u8 94)) Kp fun x29 =>
               condS x29
               (J1 x29)
               (opN Tryd.prog (sEq .eql 5 (.tmp 12) (.const (.int .u8 95)) x12 (.int .u8 95)) Kp fun x30 =>
                condS x30
                (J1 x30)
                (opN Tryd.prog (sEq .eql 5 (.tmp 12) (.const (.int .u8 96)) x12 (.int .u8 96)) Kp fun x31 =>
                 condS x31
                 (J1 x31)
                 (opN Tryd.prog (sEq .eql 5 (.tmp 12) (.const (.int .u8 124)) x12 (.int .u8 124)) Kp fun x32 =>
                  condS x32
                  (J1 x32)
                  (opN Tryd.prog (sEq .eql 5 (.tmp 12) (.const (.int .u8 126)) x12 (.int .u8 126)) Kp fun x33 =>
                   J1 x33))))))))))))))) fun _ z18 =>
    condS z18
    (opN Tryd.prog (sBin .add 3 y3 (.int .i64 1)) Kp fun x9 =>
     next1 I1 m1 x9)
    (opN Tryd.prog (sIx 9 v0 y3) Kp fun x15 =>
     opN Tryd.prog (sCall (fn 77) [x15]) Kp fun x16 =>
     opN Tryd.prog (sUn .not x16) Kp fun x17 =>
     condS x17
     (K (.bool false))
     (opN Tryd.prog (sBin .add 3 y3 (.int .i64 1)) Kp fun x9 =>
      next1 I1 m1 x9)))
   (opN Tryd.prog (sLen #[9] 3 [v0]) Kp fun x35 =>
    opN Tryd.prog (sBin .gtr 3 x35 (.int .i64 0)) Kp fun x36 =>
    K x36)) (.int .i64 0)
def ref01_Token_an : Ann := { cuts := [(5, [18])], blks := [], loops := [(2, [3])], drs := [] }
theorem ref01_Token_eq (v0 : Value) (Kp : PK) (K : Value → WP) : cevF Tryd.prog ref01_Token_an Tryd.f45 [v0] Kp K = ref01_Token v0 Kp K := by kernel_rfl
theorem ref01_Token_calls {v0 : Value} {Kp : PK} {K : Value → WP} {w : World} (h : ref01_Token v0 Kp K w) : Calls Tryd.prog 45 #[v0] w (after Kp K) :=
  calls_of_shape (calls_of_cev wide Tryd.func45 (an := ref01_Token_an) (args := [v0]) (cast (congrFun (ref01_Token_eq v0 Kp K) w).symm h))
theorem ref01_Token_cn {v0 : Value} {W : World} {α : Type} {A : List HP} {r : α → Value} {B : α → List HP} (h : ∀ F, Ent W (A ++ F) (ref01_Token v0 noP fun v w => ∃ x, v = r x ∧ sat W (B x ++ F) w)) : Cn Tryd.prog 45 [v0] W A r B :=
  Cn.of (shape := ref01_Token v0) Tryd.call45 (fun h => ref01_Token_calls h) h
theorem ref01_Token_cnP {v0 : Value} {W : World} {α β : Type} {A : List HP} {r : α → Value} {B : α → List HP} {pc : β → List PanicEntry} {Bp : β → List HP} (h : ∀ F, Ent W (A ++ F) (ref01_Token v0 (fun ch w => ∃ y, ch = pc y ∧ sat W (Bp y ++ F) w) fun v w => ∃ x, v = r x ∧ sat W (B x ++ F) w)) : CnP Tryd.prog 45 [v0] W A r B pc Bp :=
  CnP.of (shape := ref01_Token v0) Tryd.call45 (fun h => ref01_Token_calls h) h

/-- fields_list_fields_Choice -/
def fields_list_fields_Choice (v0 v1 : Value) (Kp : PK) (K : Value → WP) : WP :=
  opN Tryd.prog (sBox 100 v1) Kp fun x3 =>
  opN Tryd.prog (sAlloc 45) Kp fun x4 =>
  opN Tryd.prog (sAlloc 23) Kp fun x5 =>
  opN Tryd.prog (sAlloc 45) Kp fun x6 =>
  opN Tryd.prog (sLoad 100 x3) Kp fun x10 =>
  opN Tryd.prog (sCall (fn 78) [x10, v0]) Kp fun x12 =>
  rfS Tryd.prog x12 1 (fun u13 B1 N1 J1r =>
   B1 (opN Tryd.prog (sFA 100 x3 2) noK fun x15 =>
    opN Tryd.prog (sLoad 98 x15) noK fun x16 =>
    opN Tryd.prog (sCall x16 [u13]) noK fun x18 =>
    opN Tryd.prog (sExt x18 0) noK fun x19 =>
    opN Tryd.prog (sExt x18 1) noK fun x20 =>
    opN Tryd.prog (sAlloc 54) noK fun x8 =>
    opN Tryd.prog (sStore 54 x8 x19) noK fun _ =>
    opN Tryd.prog (sUn .not x20) noK fun x22 =>
    condS x22
    (opN Tryd.prog (sStore 45 x4 (.slice none 0 0)) noK fun _ =>
     opN Tryd.prog (sStore 23 x5 (.int .i64 42)) noK fun _ =>
     J1r)
    (opN Tryd.prog (sLoad 45 x6) noK fun x23 =>
     opN Tryd.prog (sLoad 54 x8) noK fun x24 =>
     opN Tryd.prog (sBuildSl 45 1 [(0, x24)]) noK fun x25 =>
     opN Tryd.prog (sApp #[45, 45] 45 [x23, x25]) noK fun x26 =>
     opN Tryd.prog (sStore 45 x6 x26) noK fun _ =>
     N1))) (fun d1 =>
   opN Tryd.prog (sLoad 45 x6) (KpM [d1] Kp) fun x27 =>
   opN Tryd.prog (sStore 45 x4 x27) (KpM [d1] Kp) fun _ =>
   opN Tryd.prog (sStore 23 x5 (.int .i64 0)) (KpM [d1] Kp) fun _ =>
   (tkS d1 ((stS Tryd.prog (sRes 45 x4) fun r0 => (stS Tryd.prog (sRes 23 x5) fun r1 => K (.tuple #[r0, r1])))))) (fun d1 => (tkS d1 ((stS Tryd.prog (sRes 45 x4) fun r0 => (stS Tryd.prog (sRes 23 x5) fun r1 => K (.tuple #[r0, r1])))))) (fun d1 ch => (tkS d1 (Kp ch)))
def fields_list_fields_Choice_an : Ann := { cuts := [], blks := [], loops := [], drs := [] }
theorem fields_list_fields_Choice_eq (v0 v1 : Value) (Kp : PK) (K : Value → WP) : cevFT Tryd.prog fields_list_fields_Choice_an Tryd.f46 [v0, v1] Kp K = fields_list_fields_Choice v0 v1 Kp K := by kernel_rfl
theorem fields_list_fields_Choice_calls {v0 v1 : Value} {Kp : PK} {K : Value → WP} {w : World} (h : fields_list_fields_Choice v0 v1 Kp K w) : Calls Tryd.prog 46 #[v0, v1] w (after Kp K) :=
  calls_of_shape (calls_of_cevT wide Tryd.func46 (an := fields_list_fields_Choice_an) (args := [v0, v1]) (cast (congrFun (fields_list_fields_Choice_eq v0 v1 Kp K) w).symm h))
theorem fields_list_fields_Choice_cn {v0 v1 : Value} {W : World} {α : Type} {A : List HP} {r : α → Value} {B : α → List HP} (h : ∀ F, Ent W (A ++ F) (fields_list_fields_Choice v0 v1 noP fun v w => ∃ x, v = r x ∧ sat W (B x ++ F) w)) : Cn Tryd.prog 46 [v0, v1] W A r B :=
  Cn.of (shape := fields_list_fields_Choice v0 v1) Tryd.call46 (fun h => fields_list_fields_Choice_calls h) h
theorem fields_list_fields_Choice_cnP {v0 v1 : Value} {W : World} {α β : Type} {A : List HP} {r : α → Value} {B : α → List HP} {pc : β → List PanicEntry} {Bp : β → List HP} (h : ∀ F, Ent W (A ++ F) (fields_list_fields_Choice v0 v1 (fun ch w => ∃ y, ch = pc y ∧ sat W (Bp y ++ F) w) fun v w => ∃ x, v = r x ∧ sat W (B x ++ F) w)) : CnP Tryd.prog 46 [v0, v1] W A r B pc Bp :=
  CnP.of (shape := fields_list_fields_Choice v0 v1) Tryd.call46 (fun h => fields_list_fields_Choice_calls h) h

/-- fields_choice -/
def fields_choice (v0 : Value) (Kp : PK) (K : Value → WP) : WP :=
  opN Tryd.prog (sAlloc 54) Kp fun x2 =>
  opN Tryd.prog (sCall (fn 71) [v0, (.string ⟨#[59]⟩)]) Kp fun x12 =>
  opN Tryd.prog (sExt x12 0) Kp fun x13 =>
  opN Tryd.prog (sExt x12 1) Kp fun x14 =>
  opN Tryd.prog (sExt x12 2) Kp fun x15 =>
  opN Tryd.prog (sCall (fn 52) [x13]) Kp fun x17 =>
  opN Tryd.prog (sCall (fn 43) [x17]) Kp fun x18 =>
  opN Tryd.prog (sBuild 54 [(0, x18), (1, (.int .i64 1000))]) Kp fun x19 =>
  opN Tryd.prog (sAlloc 54) Kp fun x7 =>
  opN Tryd.prog (sStore 54 x7 x19) Kp fun _ =>
  opN Tryd.prog (sFA 54 x7 0) Kp fun x20 =>
  opN Tryd.prog (sLoad 9 x20) Kp fun x21 =>
  opN Tryd.prog (sCall (fn 44) [x21]) Kp fun x22 =>
  condS x15
  (opN Tryd.prog (sCall (fn 52) [x14]) Kp fun x25 =>
   opN Tryd.prog (sLen #[9] 3 [x25]) Kp fun x27 =>
   opN Tryd.prog (sBin .lss 3 x27 (.int .i64 2)) Kp fun x28 =>
   gdK x28 false (fun k => k x25) fun x30 =>
   gdK x28 false (opN Tryd.prog (sSl 9 x30 none (some (.int .i64 2)) none) Kp) fun x31 =>
   gdK x28 false (opN Tryd.prog (sCall (fn 35) [x31, (.string ⟨#[113, 61]⟩)]) Kp) fun x32 =>
   gdK x28 false (opN Tryd.prog (sUn .not x32) Kp) fun x33 =>
   opN Tryd.prog (sPick x28 (.bool true) x33) Kp fun x34 =>
   condS x34
   (opN Tryd.prog (sBuild 54 []) Kp fun x35 =>
    opN Tryd.prog (sStore 54 x2 x35) Kp fun _ =>
    (stS Tryd.prog (sRes 54 x2) fun r0 => K (.tuple #[r0, (.bool false)])))
   (opN Tryd.prog (sSl 9 x25 (some (.int .i64 2)) none none) Kp fun x38 =>
    opN Tryd.prog (sCall (fn 79) [x38]) Kp fun x39 =>
    opN Tryd.prog (sExt x39 0) Kp fun x40 =>
    opN Tryd.prog (sExt x39 1) Kp fun x41 =>
    opN Tryd.prog (sFA 54 x7 1) Kp fun x42 =>
    opN Tryd.prog (sStore 3 x42 x40) Kp fun _ =>
    gdK x22 true (fun k => k x41) fun x45 =>
    opN Tryd.prog (sPick x22 x45 (.bool false)) Kp fun x46 =>
    opN Tryd.prog (sLoad 54 x7) Kp fun x47 =>
    opN Tryd.prog (sStore 54 x2 x47) Kp fun _ =>
    (stS Tryd.prog (sRes 54 x2) fun r0 => K (.tuple #[r0, x46]))))
  (opN Tryd.prog (sLoad 54 x7) Kp fun x47 =>
   opN Tryd.prog (sStore 54 x2 x47) Kp fun _ =>
   (stS Tryd.prog (sRes 54 x2) fun r0 => K (.tuple #[r0, x22])))
def fields_choice_an : Ann := { cuts := [], blks := [], loops := [], drs := [] }
theorem fields_choice_eq (v0 : Value) (Kp : PK) (K : Value → WP) : cevF Tryd.prog fields_choice_an Tryd.f47 [v0] Kp K = fields_choice v0 Kp K := by kernel_rfl
theorem fields_choice_calls {v0 : Value} {Kp : PK} {K : Value → WP} {w : World} (h : fields_choice v0 Kp K w) : Calls Tryd.prog 47 #[v0] w (after Kp K) :=
  calls_of_shape (calls_of_cev wide Tryd.func47 (an := fields_choice_an) (args := [v0]) (cast (congrFun (fields_choice_eq v0 Kp K) w).symm h))
theorem fields_choice_cn {v0 : Value} {W : World} {α : Type} {A : List HP} {r : α → Value} {B : α → List HP} (h : ∀ F, Ent W (A ++ F) (fields_choice v0 noP fun v w => ∃ x, v = r x ∧ sat W (B x ++ F) w)) : Cn Tryd.prog 47 [v0] W A r B :=
  Cn.of (shape := fields_choice v0) Tryd.call47 (fun h => fields_choice_calls h) h
theorem fields_choice_cnP {v0 : Value} {W : World} {α β : Type} {A : List HP} {r : α → Value} {B : α → List HP} {pc : β → List PanicEntry} {Bp : β → List HP} (h : ∀ F, Ent W (A ++ F) (fields_choice v0 (fun ch w => ∃ y, ch = pc y ∧ sat W (Bp y ++ F) w) fun v w => ∃ x, v = r x ∧ sat W (B x ++ F) w)) : CnP Tryd.prog 47 [v0] W A r B pc Bp :=
  CnP.of (shape := fields_choice v0) Tryd.call47 (fun h => fields_choice_calls h) h

/-- ref10_choice -/
def ref10_choice (v0 : Value) (Kp : PK) (K : Value → WP) : WP :=
  opN Tryd.prog (sAlloc 101) Kp fun x2 =>
  loop1 (fun I1 m1 _ y4 =>
   opN Tryd.prog (sLen #[9] 3 [v0]) Kp fun x9 =>
   opN Tryd.prog (sBin .lss 3 y4 x9) Kp fun x10 =>
   gdK x10 true (fun k => k v0) fun x12 =>
   gdK x10 true (fun k => k y4) fun x13 =>
   gdK x10 true (opN Tryd.prog (sIx 9 x12 x13) Kp) fun x14 =>
   gdK x10 true (opN Tryd.prog (sEq .neq 5 (.tmp 14) (.const (.int .u8 59)) x14 (.int .u8 59)) Kp) fun x15 =>
   opN Tryd.prog (sPick x10 x15 (.bool false)) Kp fun x16 =>
   condS x16
   (opN Tryd.prog (sBin .add 3 y4 (.int .i64 1)) Kp fun x18 =>
    next1 I1 m1 x18)
   (opN Tryd.prog (sSl 9 v0 none (some y4) none) Kp fun x21 =>
    opN Tryd.prog (sCall (fn 54) [x21]) Kp fun x22 =>
    opN Tryd.prog (sCall (fn 38) [x22]) Kp fun x23 =>
    opN Tryd.prog (sBuild 101 [(0, x23), (1, (.int .i64 1000))]) Kp fun x24 =>
    opN Tryd.prog (sAlloc 101) Kp fun x5 =>
    opN Tryd.prog (sStore 101 x5 x24) Kp fun _ =>
    cut0 (fun J1 =>
     opN Tryd.prog (sLen #[9] 3 [v0]) Kp fun x27 =>
     opN Tryd.prog (sBin .lss 3 y4 x27) Kp fun x28 =>
     condS x28
     (opN Tryd.prog (sBin .add 3 y4 (.int .i64 1)) Kp fun x31 =>
      opN Tryd.prog (sSl 9 v0 (some x31) none none) Kp fun x32 =>
      opN Tryd.prog (sCall (fn 54) [x32]) Kp fun x33 =>
      opN Tryd.prog (sLen #[9] 3 [x33]) Kp fun x35 =>
      opN Tryd.prog (sBin .lss 3 x35 (.int .i64 2)) Kp fun x36 =>
      gdK x36 false (fun k => k x33) fun x38 =>
      gdK x36 false (opN Tryd.prog (sIx 9 x38 (.int .i64 0)) Kp) fun x39 =>
      gdK x36 false (opN Tryd.prog (sEq .neq 5 (.tmp 39) (.const (.int .u8 113)) x39 (.int .u8 113)) Kp) fun x40 =>
      gdK x36 false (fun k => k x40) fun x41 =>
      gdK x41 true (fun k => k x33) fun x42 =>
      gdK x41 true (opN Tryd.prog (sIx 9 x42 (.int .i64 0)) Kp) fun x43 =>
      gdK x41 true (opN Tryd.prog (sEq .neq 5 (.tmp 43) (.const (.int .u8 81)) x43 (.int .u8 81)) Kp) fun x44 =>
      gdK x36 false (opN Tryd.prog (sPick x41 x44 (.bool false)) Kp) fun x45 =>
      opN Tryd.prog (sPick x36 (.bool true) x45) Kp fun x46 =>
      gdK x46 false (fun k => k x33) fun x48 =>
      gdK x46 false (opN Tryd.prog (sIx 9 x48 (.int .i64 1)) Kp) fun x49 =>
      gdK x46 false (opN Tryd.prog (sEq .neq 5 (.tmp 49) (.const (.int .u8 61)) x49 (.int .u8 61)) Kp) fun x50 =>
      opN Tryd.prog (sPick x46 (.bool true) x50) Kp fun x51 =>
      condS x51
      (opN Tryd.prog (sLoad 101 x5) Kp fun x52 =>
       opN Tryd.prog (sStore 101 x2 x52) Kp fun _ =>
       (stS Tryd.prog (sRes 101 x2) fun r0 => K (.tuple #[r0, (.bool false)])))
      (opN Tryd.prog (sSl 9 x33 (some (.int .i64 2)) none none) Kp fun x54 =>
       opN Tryd.prog (sCall (fn 80) [x54]) Kp fun x55 =>
       opN Tryd.prog (sFA 101 x5 1) Kp fun x56 =>
       opN Tryd.prog (sStore 3 x56 x55) Kp fun _ =>
       J1))
     (J1)) fun _ =>
    drS (stD Tryd.prog (sLoad 101 x5) fun D0 x57 =>
     stS Tryd.prog (sFA 101 x5 0) fun x58 =>
     stS Tryd.prog (sLoad 9 x58) fun x59 =>
     opN Tryd.prog (sCall (fn 45) [x59]) Kp fun x60 =>
     (fun w => D0 w ∧ (gdD x60 true (stD Tryd.prog (sFA 101 x5 1)) fun D5 x62 =>
       gdD x60 true (stD Tryd.prog (sLoad 3 x62)) fun D6 x63 =>
       gdD x60 true (stD Tryd.prog (sBin .geq 3 x63 (.int .i64 0))) fun D7 x64 =>
       stD Tryd.prog (sPick x60 x64 (.bool false)) fun D8 x65 =>
       opN Tryd.prog (sStore 101 x2 x57) Kp fun _ =>
       (fun w => D8 w ∧ (fun w => D7 w ∧ (fun w => D6 w ∧ (fun w => D5 w ∧ ((stS Tryd.prog (sRes 101 x2) fun r0 => K (.tuple #[r0, x65]))) w) w) w) w)) w)))) (.int .i64 0)
def ref10_choice_an : Ann := { cuts := [(10, [])], blks := [], loops := [(2, [4])], drs := [(10, [(0, 3), (1, 1), (2, 1), (3, 0), (4, 1), (5, 3), (6, 3), (7, 3), (8, 3), (9, 0), (10, 1)])] }
theorem ref10_choice_eq (v0 : Value) (Kp : PK) (K : Value → WP) : cevF Tryd.prog ref10_choice_an Tryd.f48 [v0] Kp K = ref10_choice v0 Kp K := by kernel_rfl
theorem ref10_choice_calls {v0 : Value} {Kp : PK} {K : Value → WP} {w : World} (h : ref10_choice v0 Kp K w) : Calls Tryd.prog 48 #[v0] w (after Kp K) :=
  calls_of_shape (calls_of_cev wide Tryd.func48 (an := ref10_choice_an) (args := [v0]) (cast (congrFun (ref10_choice_eq v0 Kp K) w).symm h))
theorem ref10_choice_cn {v0 : Value} {W : World} {α : Type} {A : List HP} {r : α → Value} {B : α → List HP} (h : ∀ F, Ent W (A ++ F) (ref10_choice v0 noP fun v w => ∃ x, v = r x ∧ sat W (B x ++ F) w)) : Cn Tryd.prog 48 [v0] W A r B :=
  Cn.of (shape := ref10_choice v0) Tryd.call48 (fun h => ref10_choice_calls h) h
theorem ref10_choice_cnP {v0 : Value} {W : World} {α β : Type} {A : List HP} {r : α → Value} {B : α → List HP} {pc : β → List PanicEntry} {Bp : β → List HP} (h : ∀ F, Ent W (A ++ F) (ref10_choice v0 (fun ch w => ∃ y, ch = pc y ∧ sat W (Bp y ++ F) w) fun v w => ∃ x, v = r x ∧ sat W (B x ++ F) w)) : CnP Tryd.prog 48 [v0] W A r B pc Bp :=
  CnP.of (shape := ref10_choice v0) Tryd.call48 (fun h => ref10_choice_calls h) h

/-- fields_list_fields_Directive -/
def fields_list_fields_Directive (v0 v1 : Value) (Kp : PK) (K : Value → WP) : WP :=
  opN Tryd.prog (sBox 107 v1) Kp fun x3 =>
  opN Tryd.prog (sAlloc 55) Kp fun x4 =>
  opN Tryd.prog (sAlloc 23) Kp fun x5 =>
  opN Tryd.prog (sAlloc 55) Kp fun x6 =>
  opN Tryd.prog (sLoad 107 x3) Kp fun x10 =>
  opN Tryd.prog (sCall (fn 81) [x10, v0]) Kp fun x12 =>
  rfS Tryd.prog x12 1 (fun u13 B1 N1 J1r =>
   B1 (opN Tryd.prog (sFA 107 x3 2) noK fun x15 =>
    opN Tryd.prog (sLoad 105 x15) noK fun x16 =>
    opN Tryd.prog (sCall x16 [u13]) noK fun x18 =>
    opN Tryd.prog (sExt x18 0) noK fun x19 =>
    opN Tryd.prog (sExt x18 1) noK fun x20 =>
    opN Tryd.prog (sAlloc 59) noK fun x8 =>
    opN Tryd.prog (sStore 59 x8 x19) noK fun _ =>
    opN Tryd.prog (sUn .not x20) noK fun x22 =>
    condS x22
    (opN Tryd.prog (sStore 55 x4 (.slice none 0 0)) noK fun _ =>
     opN Tryd.prog (sStore 23 x5 (.int .i64 42)) noK fun _ =>
     J1r)
    (opN Tryd.prog (sLoad 55 x6) noK fun x23 =>
     opN Tryd.prog (sLoad 59 x8) noK fun x24 =>
     opN Tryd.prog (sBuildSl 55 1 [(0, x24)]) noK fun x25 =>
     opN Tryd.prog (sApp #[55, 55] 55 [x23, x25]) noK fun x26 =>
     opN Tryd.prog (sStore 55 x6 x26) noK fun _ =>
     N1))) (fun d1 =>
   opN Tryd.prog (sLoad 55 x6) (KpM [d1] Kp) fun x27 =>
   opN Tryd.prog (sStore 55 x4 x27) (KpM [d1] Kp) fun _ =>
   opN Tryd.prog (sStore 23 x5 (.int .i64 0)) (KpM [d1] Kp) fun _ =>
   (tkS d1 ((stS Tryd.prog (sRes 55 x4) fun r0 => (stS Tryd.prog (sRes 23 x5) fun r1 => K (.tuple #[r0, r1])))))) (fun d1 => (tkS d1 ((stS Tryd.prog (sRes 55 x4) fun r0 => (stS Tryd.prog (sRes 23 x5) fun r1 => K (.tuple #[r0, r1])))))) (fun d1 ch => (tkS d1 (Kp ch)))
def fields_list_fields_Directive_an : Ann := { cuts := [], blks := [], loops := [], drs := [] }
theorem fields_list_fields_Directive_eq (v0 v1 : Value) (Kp : PK) (K : Value → WP) : cevFT Tryd.prog fields_list_fields_Directive_an Tryd.f49 [v0, v1] Kp K = fields_list_fields_Directive v0 v1 Kp K := by kernel_rfl
theorem fields_list_fields_Directive_calls {v0 v1 : Value} {Kp : PK} {K : Value → WP} {w : World} (h : fields_list_fields_Directive v0 v1 Kp K w) : Calls Tryd.prog 49 #[v0, v1] w (after Kp K) :=
  calls_of_shape (calls_of_cevT wide Tryd.func49 (an := fields_list_fields_Directive_an) (args := [v0, v1]) (cast (congrFun (fields_list_fields_Directive_eq v0 v1 Kp K) w).symm h))
theorem fields_list_fields_Directive_cn {v0 v1 : Value} {W : World} {α : Type} {A : List HP} {r : α → Value} {B : α → List HP} (h : ∀ F, Ent W (A ++ F) (fields_list_fields_Directive v0 v1 noP fun v w => ∃ x, v = r x ∧ sat W (B x ++ F) w)) : Cn Tryd.prog 49 [v0, v1] W A r B :=
  Cn.of (shape := fields_list_fields_Directive v0 v1) Tryd.call49 (fun h => fields_list_fields_Directive_calls h) h
theorem fields_list_fields_Directive_cnP {v0 v1 : Value} {W : World} {α β : Type} {A : List HP} {r : α → Value} {B : α → List HP} {pc : β → List PanicEntry} {Bp : β → List HP} (h : ∀ F, Ent W (A ++ F) (fields_list_fields_Directive v0 v1 (fun ch w => ∃ y, ch = pc y ∧ sat W (Bp y ++ F) w) fun v w => ∃ x, v = r x ∧ sat W (B x ++ F) w)) : CnP Tryd.prog 49 [v0, v1] W A r B pc Bp :=
  CnP.of (shape := fields_list_fields_Directive v0 v1) Tryd.call49 (fun h => fields_list_fields_Directive_calls h) h

/-- fields_directive -/
def fields_directive (v0 : Value) (Kp : PK) (K : Value → WP) : WP :=
  opN Tryd.prog (sAlloc 59) Kp fun x2 =>
  opN Tryd.prog (sCall (fn 71) [v0, (.string ⟨#[61]⟩)]) Kp fun x7 =>
  opN Tryd.prog (sExt x7 0) Kp fun x8 =>
  opN Tryd.prog (sExt x7 1) Kp fun x9 =>
  opN Tryd.prog (sExt x7 2) Kp fun x10 =>
  opN Tryd.prog (sFA 59 x2 0) Kp fun x11 =>
  opN Tryd.prog (sStore 9 x11 x8) Kp fun _ =>
  opN Tryd.prog (sFA 59 x2 1) Kp fun x12 =>
  opN Tryd.prog (sStore 9 x12 x9) Kp fun _ =>
  opN Tryd.prog (sFA 59 x2 2) Kp fun x13 =>
  opN Tryd.prog (sStore 4 x13 x10) Kp fun _ =>
  opN Tryd.prog (sFA 59 x2 0) Kp fun x14 =>
  opN Tryd.prog (sLoad 9 x14) Kp fun x15 =>
  opN Tryd.prog (sCall (fn 44) [x15]) Kp fun x16 =>
  opN Tryd.prog (sFA 59 x2 0) Kp fun x17 =>
  opN Tryd.prog (sLoad 9 x17) Kp fun x18 =>
  opN Tryd.prog (sCall (fn 43) [x18]) Kp fun x19 =>
  opN Tryd.prog (sFA 59 x2 0) Kp fun x20 =>
  opN Tryd.prog (sStore 9 x20 x19) Kp fun _ =>
  opN Tryd.prog (sFA 59 x2 2) Kp fun x21 =>
  opN Tryd.prog (sLoad 4 x21) Kp fun x22 =>
  gdK x22 true (opN Tryd.prog (sFA 59 x2 1) Kp) fun x24 =>
  gdK x22 true (opN Tryd.prog (sLoad 9 x24) Kp) fun x25 =>
  gdK x22 true (opN Tryd.prog (sCall (fn 44) [x25]) Kp) fun x26 =>
  gdK x22 true (opN Tryd.prog (sUn .not x26) Kp) fun x27 =>
  opN Tryd.prog (sPick x22 x27 (.bool false)) Kp fun x28 =>
  condS x28
  (opN Tryd.prog (sFA 59 x2 1) Kp fun x30 =>
   opN Tryd.prog (sLoad 9 x30) Kp fun x31 =>
   opN Tryd.prog (sCall (fn 82) [x31]) Kp fun x32 =>
   opN Tryd.prog (sExt x32 0) Kp fun x33 =>
   opN Tryd.prog (sExt x32 1) Kp fun x34 =>
   opN Tryd.prog (sFA 59 x2 1) Kp fun x35 =>
   opN Tryd.prog (sStore 9 x35 x33) Kp fun _ =>
   gdK x16 true (fun k => k x34) fun x38 =>
   opN Tryd.prog (sPick x16 x38 (.bool false)) Kp fun x39 =>
   opN Tryd.prog (sLoad 59 x2) Kp fun x40 =>
   opN Tryd.prog (sStore 59 x2 x40) Kp fun _ =>
   (stS Tryd.prog (sRes 59 x2) fun r0 => K (.tuple #[r0, x39])))
  (opN Tryd.prog (sLoad 59 x2) Kp fun x40 =>
   opN Tryd.prog (sStore 59 x2 x40) Kp fun _ =>
   (stS Tryd.prog (sRes 59 x2) fun r0 => K (.tuple #[r0, x16])))
def fields_directive_an : Ann := { cuts := [], blks := [], loops := [], drs := [] }
theorem fields_directive_eq (v0 : Value) (Kp : PK) (K : Value → WP) : cevF Tryd.prog fields_directive_an Tryd.f50 [v0] Kp K = fields_directive v0 Kp K := by kernel_rfl
theorem fields_directive_calls {v0 : Value} {Kp : PK} {K : Value → WP} {w : World} (h : fields_directive v0 Kp K w) : Calls Tryd.prog 50 #[v0] w (after Kp K) :=
  calls_of_shape (calls_of_cev wide Tryd.func50 (an := fields_directive_an) (args := [v0]) (cast (congrFun (fields_directive_eq v0 Kp K) w).symm h))
theorem fields_directive_cn {v0 : Value} {W : World} {α : Type} {A : List HP} {r : α → Value} {B : α → List HP} (h : ∀ F, Ent W (A ++ F) (fields_directive v0 noP fun v w => ∃ x, v = r x ∧ sat W (B x ++ F) w)) : Cn Tryd.prog 50 [v0] W A r B :=
  Cn.of (shape := fields_directive v0) Tryd.call50 (fun h => fields_directive_calls h) h
theorem fields_directive_cnP {v0 : Value} {W : World} {α β : Type} {A : List HP} {r : α → Value} {B : α → List HP} {pc : β → List PanicEntry} {Bp : β → List HP} (h : ∀ F, Ent W (A ++ F) (fields_directive v0 (fun ch w => ∃ y, ch = pc y ∧ sat W (Bp y ++ F) w) fun v w => ∃ x, v = r x ∧ sat W (B x ++ F) w)) : CnP Tryd.prog 50 [v0] W A r B pc Bp :=
  CnP.of (shape := fields_directive v0) Tryd.call50 (fun h => fields_directive_calls h) h

/-- fields_tag -/
def fields_tag (v0 : Value) (Kp : PK) (K : Value → WP) : WP :=
  opN Tryd.prog (sAlloc 37) Kp fun x2 =>
  opN Tryd.prog (sCall (fn 83) [v0, (.string ⟨#[87, 47]⟩)]) Kp fun x10 =>
  opN Tryd.prog (sExt x10 0) Kp fun x11 =>
  opN Tryd.prog (sExt x10 1) Kp fun x12 =>
  opN Tryd.prog (sLen #[9] 3 [x11]) Kp fun x14 =>
  opN Tryd.prog (sBin .lss 3 x14 (.int .i64 2)) Kp fun x15 =>
  gdK x15 false (fun k => k x11) fun x17 =>
  gdK x15 false (opN Tryd.prog (sIx 9 x17 (.int .i64 0)) Kp) fun x18 =>
  gdK x15 false (opN Tryd.prog (sEq .neq 5 (.tmp 18) (.const (.int .u8 34)) x18 (.int .u8 34)) Kp) fun x19 =>
  opN Tryd.prog (sPick x15 (.bool true) x19) Kp fun x20 =>
  gdK x20 false (fun k => k x11) fun x22 =>
  gdK x20 false (fun k => k x11) fun x23 =>
  gdK x20 false (opN Tryd.prog (sLen #[9] 3 [x23]) Kp) fun x24 =>
  gdK x20 false (opN Tryd.prog (sBin .sub 3 x24 (.int .i64 1)) Kp) fun x25 =>
  gdK x20 false (opN Tryd.prog (sIx 9 x22 x25) Kp) fun x26 =>
  gdK x20 false (opN Tryd.prog (sEq .neq 5 (.tmp 26) (.const (.int .u8 34)) x26 (.int .u8 34)) Kp) fun x27 =>
  opN Tryd.prog (sPick x20 (.bool true) x27) Kp fun x28 =>
  condS x28
  (opN Tryd.prog (sBuild 37 []) Kp fun x29 =>
   opN Tryd.prog (sStore 37 x2 x29) Kp fun _ =>
   (stS Tryd.prog (sRes 37 x2) fun r0 => K (.tuple #[r0, (.bool false)])))
  (opN Tryd.prog (sLen #[9] 3 [x11]) Kp fun x32 =>
   opN Tryd.prog (sBin .sub 3 x32 (.int .i64 1)) Kp fun x33 =>
   opN Tryd.prog (sSl 9 x11 (some (.int .i64 1)) (some x33) none) Kp fun x34 =>
   opN Tryd.prog (sConv 9 150 x34) Kp fun x36 =>
   opN Tryd.prog (sLen #[150] 3 [x36]) Kp fun x37 =>
   loop1 (fun I1 m1 _ y38 =>
    opN Tryd.prog (sBin .lss 3 y38 x37) Kp fun x39 =>
    condS x39
    (opN Tryd.prog (sIA 150 x36 y38) Kp fun x40 =>
     opN Tryd.prog (sLoad 5 x40) Kp fun x41 =>
     opN Tryd.prog (sBin .leq 5 x41 (.int .u8 32)) Kp fun x43 =>
     gdK x43 false (fun k => k x41) fun x45 =>
     gdK x43 false (opN Tryd.prog (sEq .eql 5 (.tmp 45) (.const (.int .u8 34)) x45 (.int .u8 34)) Kp) fun x46 =>
     opN Tryd.prog (sPick x43 (.bool true) x46) Kp fun x47 =>
     gdK x47 false (fun k => k x41) fun x49 =>
     gdK x47 false (opN Tryd.prog (sEq .eql 5 (.tmp 49) (.const (.int .u8 127)) x49 (.int .u8 127)) Kp) fun x50 =>
     opN Tryd.prog (sPick x47 (.bool true) x50) Kp fun x51 =>
     condS x51
     (opN Tryd.prog (sBuild 37 []) Kp fun x52 =>
      opN Tryd.prog (sStore 37 x2 x52) Kp fun _ =>
      (stS Tryd.prog (sRes 37 x2) fun r0 => K (.tuple #[r0, (.bool false)])))
     (opN Tryd.prog (sBin .add 3 y38 (.int .i64 1)) Kp fun x53 =>
      next1 I1 m1 x53))
    (opN Tryd.prog (sBuild 37 [(0, x12), (1, x34)]) Kp fun x56 =>
     opN Tryd.prog (sStore 37 x2 x56) Kp fun _ =>
     (stS Tryd.prog (sRes 37 x2) fun r0 => K (.tuple #[r0, (.bool true)])))) (.int .i64 0))
def fields_tag_an : Ann := { cuts := [], blks := [], loops := [(6, [38])], drs := [] }
theorem fields_tag_eq (v0 : Value) (Kp : PK) (K : Value → WP) : cevF Tryd.prog fields_tag_an Tryd.f51 [v0] Kp K = fields_tag v0 Kp K := by kernel_rfl
theorem fields_tag_calls {v0 : Value} {Kp : PK} {K : Value → WP} {w : World} (h : fields_tag v0 Kp K w) : Calls Tryd.prog 51 #[v0] w (after Kp K) :=
  calls_of_shape (calls_of_cev wide Tryd.func51 (an := fields_tag_an) (args := [v0]) (cast (congrFun (fields_tag_eq v0 Kp K) w).symm h))
theorem fields_tag_cn {v0 : Value} {W : World} {α : Type} {A : List HP} {r : α → Value} {B : α → List HP} (h : ∀ F, Ent W (A ++ F) (fields_tag v0 noP fun v w => ∃ x, v = r x ∧ sat W (B x ++ F) w)) : Cn Tryd.prog 51 [v0] W A r B :=
  Cn.of (shape := fields_tag v0) Tryd.call51 (fun h => fields_tag_calls h) h
theorem fields_tag_cnP {v0 : Value} {W : World} {α β : Type} {A : List HP} {r : α → Value} {B : α → List HP} {pc : β → List PanicEntry} {Bp : β → List HP} (h : ∀ F, Ent W (A ++ F) (fields_tag v0 (fun ch w => ∃ y, ch = pc y ∧ sat W (Bp y ++ F) w) fun v w => ∃ x, v = r x ∧ sat W (B x ++ F) w)) : CnP Tryd.prog 51 [v0] W A r B pc Bp :=
  CnP.of (shape := fields_tag v0) Tryd.call51 (fun h => fields_tag_calls h) h

/-- ascii_Trim -/
def ascii_Trim (v0 : Value) (Kp : PK) (K : Value → WP) : WP :=
  opN Tryd.prog (sCall (fn 84) [v0, (.string ⟨#[32, 9]⟩)]) Kp fun x4 =>
  K x4
def ascii_Trim_an : Ann := { cuts := [], blks := [], loops := [], drs := [] }
theorem ascii_Trim_eq (v0 : Value) (Kp : PK) (K : Value → WP) : cevF Tryd.prog ascii_Trim_an Tryd.f52 [v0] Kp K = ascii_Trim v0 Kp K := by kernel_rfl
theorem ascii_Trim_calls {v0 : Value} {Kp : PK} {K : Value → WP} {w : World} (h : ascii_Trim v0 Kp K w) : Calls Tryd.prog 52 #[v0] w (after Kp K) :=
  calls_of_shape (calls_of_cev wide Tryd.func52 (an := ascii_Trim_an) (args := [v0]) (cast (congrFun (ascii_Trim_eq v0 Kp K) w).symm h))
theorem ascii_Trim_cn {v0 : Value} {W : World} {α : Type} {A : List HP} {r : α → Value} {B : α → List HP} (h : ∀ F, Ent W (A ++ F) (ascii_Trim v0 noP fun v w => ∃ x, v = r x ∧ sat W (B x ++ F) w)) : Cn Tryd.prog 52 [v0] W A r B :=
  Cn.of (shape := ascii_Trim v0) Tryd.call52 (fun h => ascii_Trim_calls h) h
theorem ascii_Trim_cnP {v0 : Value} {W : World} {α β : Type} {A : List HP} {r : α → Value} {B : α → List HP} {pc : β → List PanicEntry} {Bp : β → List HP} (h : ∀ F, Ent W (A ++ F) (ascii_Trim v0 (fun ch w => ∃ y, ch = pc y ∧ sat W (Bp y ++ F) w) fun v w => ∃ x, v = r x ∧ sat W (B x ++ F) w)) : CnP Tryd.prog 52 [v0] W A r B pc Bp :=
  CnP.of (shape := ascii_Trim v0) Tryd.call52 (fun h => ascii_Trim_calls h) h

/-- fields_list_fields_Tag -/
def fields_list_fields_Tag (v0 v1 : Value) (Kp : PK) (K : Value → WP) : WP :=
  opN Tryd.prog (sBox 113 v1) Kp fun x3 =>
  opN Tryd.prog (sAlloc 65) Kp fun x4 =>
  opN Tryd.prog (sAlloc 23) Kp fun x5 =>
  opN Tryd.prog (sAlloc 65) Kp fun x6 =>
  opN Tryd.prog (sLoad 113 x3) Kp fun x10 =>
  opN Tryd.prog (sCall (fn 85) [x10, v0]) Kp fun x12 =>
  rfS Tryd.prog x12 1 (fun u13 B1 N1 J1r =>
   B1 (opN Tryd.prog (sFA 113 x3 2) noK fun x15 =>
    opN Tryd.prog (sLoad 109 x15) noK fun x16 =>
    opN Tryd.prog (sCall x16 [u13]) noK fun x18 =>
    opN Tryd.prog (sExt x18 0) noK fun x19 =>
    opN Tryd.prog (sExt x18 1) noK fun x20 =>
    opN Tryd.prog (sAlloc 37) noK fun x8 =>
    opN Tryd.prog (sStore 37 x8 x19) noK fun _ =>
    opN Tryd.prog (sUn .not x20) noK fun x22 =>
    condS x22
    (opN Tryd.prog (sStore 65 x4 (.slice none 0 0)) noK fun _ =>
     opN Tryd.prog (sStore 23 x5 (.int .i64 42)) noK fun _ =>
     J1r)
    (opN Tryd.prog (sLoad 65 x6) noK fun x23 =>
     opN Tryd.prog (sLoad 37 x8) noK fun x24 =>
     opN Tryd.prog (sBuildSl 65 1 [(0, x24)]) noK fun x25 =>
     opN Tryd.prog (sApp #[65, 65] 65 [x23, x25]) noK fun x26 =>
     opN Tryd.prog (sStore 65 x6 x26) noK fun _ =>
     N1))) (fun d1 =>
   opN Tryd.prog (sLoad 65 x6) (KpM [d1] Kp) fun x27 =>
   opN Tryd.prog (sStore 65 x4 x27) (KpM [d1] Kp) fun _ =>
   opN Tryd.prog (sStore 23 x5 (.int .i64 0)) (KpM [d1] Kp) fun _ =>
   (tkS d1 ((stS Tryd.prog (sRes 65 x4) fun r0 => (stS Tryd.prog (sRes 23 x5) fun r1 => K (.tuple #[r0, r1])))))) (fun d1 => (tkS d1 ((stS Tryd.prog (sRes 65 x4) fun r0 => (stS Tryd.prog (sRes 23 x5) fun r1 => K (.tuple #[r0, r1])))))) (fun d1 ch => (tkS d1 (Kp ch)))
def fields_list_fields_Tag_an : Ann := { cuts := [], blks := [], loops := [], drs := [] }
theorem fields_list_fields_Tag_eq (v0 v1 : Value) (Kp : PK) (K : Value → WP) : cevFT Tryd.prog fields_list_fields_Tag_an Tryd.f53 [v0, v1] Kp K = fields_list_fields_Tag v0 v1 Kp K := by kernel_rfl
theorem fields_list_fields_Tag_calls {v0 v1 : Value} {Kp : PK} {K : Value → WP} {w : World} (h : fields_list_fields_Tag v0 v1 Kp K w) : Calls Tryd.prog 53 #[v0, v1] w (after Kp K) :=
  calls_of_shape (calls_of_cevT wide Tryd.func53 (an := fields_list_fields_Tag_an) (args := [v0, v1]) (cast (congrFun (fields_list_fields_Tag_eq v0 v1 Kp K) w).symm h))
theorem fields_list_fields_Tag_cn {v0 v1 : Value} {W : World} {α : Type} {A : List HP} {r : α → Value} {B : α → List HP} (h : ∀ F, Ent W (A ++ F) (fields_list_fields_Tag v0 v1 noP fun v w => ∃ x, v = r x ∧ sat W (B x ++ F) w)) : Cn Tryd.prog 53 [v0, v1] W A r B :=
  Cn.of (shape := fields_list_fields_Tag v0 v1) Tryd.call53 (fun h => fields_list_fields_Tag_calls h) h
theorem fields_list_fields_Tag_cnP {v0 v1 : Value} {W : World} {α β : Type} {A : List HP} {r : α → Value} {B : α → List HP} {pc : β → List PanicEntry} {Bp : β → List HP} (h : ∀ F, Ent W (A ++ F) (fields_list_fields_Tag v0 v1 (fun ch w => ∃ y, ch = pc y ∧ sat W (Bp y ++ F) w) fun v w => ∃ x, v = r x ∧ sat W (B x ++ F) w)) : CnP Tryd.prog 53 [v0, v1] W A r B pc Bp :=
  CnP.of (shape := fields_list_fields_Tag v0 v1) Tryd.call53 (fun h => fields_list_fields_Tag_calls h) h

/-- ref01_Trim -/
def ref01_Trim (v0 : Value) (Kp : PK) (K : Value → WP) : WP :=
  loop1 (fun I1 m1 _ y0 =>
   opN Tryd.prog (sLen #[9] 3 [y0]) Kp fun x4 =>
   opN Tryd.prog (sBin .gtr 3 x4 (.int .i64 0)) Kp fun x5 =>
   gdK x5 true (fun k => k y0) fun x7 =>
   gdK x5 true (opN Tryd.prog (sIx 9 x7 (.int .i64 0)) Kp) fun x8 =>
   gdK x5 true (opN Tryd.prog (sCall (fn 86) [x8]) Kp) fun x9 =>
   opN Tryd.prog (sPick x5 x9 (.bool false)) Kp fun x10 =>
   condS x10
   (opN Tryd.prog (sSl 9 y0 (some (.int .i64 1)) none none) Kp fun x12 =>
    next1 I1 m1 x12)
   (loop1 (fun I2 m2 _ y0_2 =>
     opN Tryd.prog (sLen #[9] 3 [y0_2]) Kp fun x14 =>
     opN Tryd.prog (sBin .gtr 3 x14 (.int .i64 0)) Kp fun x15 =>
     gdK x15 true (fun k => k y0_2) fun x17 =>
     gdK x15 true (fun k => k y0_2) fun x18 =>
     gdK x15 true (opN Tryd.prog (sLen #[9] 3 [x18]) Kp) fun x19 =>
     gdK x15 true (opN Tryd.prog (sBin .sub 3 x19 (.int .i64 1)) Kp) fun x20 =>
     gdK x15 true (opN Tryd.prog (sIx 9 x17 x20) Kp) fun x21 =>
     gdK x15 true (opN Tryd.prog (sCall (fn 86) [x21]) Kp) fun x22 =>
     opN Tryd.prog (sPick x15 x22 (.bool false)) Kp fun x23 =>
     condS x23
     (opN Tryd.prog (sLen #[9] 3 [y0_2]) Kp fun x26 =>
      opN Tryd.prog (sBin .sub 3 x26 (.int .i64 1)) Kp fun x27 =>
      opN Tryd.prog (sSl 9 y0_2 none (some x27) none) Kp fun x28 =>
      next1 I2 m2 x28)
     (K y0_2)) y0)) v0
def ref01_Trim_an : Ann := { cuts := [], blks := [], loops := [(1, [0]), (3, [0])], drs := [] }
theorem ref01_Trim_eq (v0 : Value) (Kp : PK) (K : Value → WP) : cevF Tryd.prog ref01_Trim_an Tryd.f54 [v0] Kp K = ref01_Trim v0 Kp K := by kernel_rfl
theorem ref01_Trim_calls {v0 : Value} {Kp : PK} {K : Value → WP} {w : World} (h : ref01_Trim v0 Kp K w) : Calls Tryd.prog 54 #[v0] w (after Kp K) :=
  calls_of_shape (calls_of_cev wide Tryd.func54 (an := ref01_Trim_an) (args := [v0]) (cast (congrFun (ref01_Trim_eq v0 Kp K) w).symm h))
theorem ref01_Trim_cn {v0 : Value} {W : World} {α : Type} {A : List HP} {r : α → Value} {B : α → List HP} (h : ∀ F, Ent W (A ++ F) (ref01_Trim v0 noP fun v w => ∃ x, v = r x ∧ sat W (B x ++ F) w)) : Cn Tryd.prog 54 [v0] W A r B :=
  Cn.of (shape := ref01_Trim v0) Tryd.call54 (fun h => ref01_Trim_calls h) h
theorem ref01_Trim_cnP {v0 : Value} {W : World} {α β : Type} {A : List HP} {r : α → Value} {B : α → List HP} {pc : β → List PanicEntry} {Bp : β → List HP} (h : ∀ F, Ent W (A ++ F) (ref01_Trim v0 (fun ch w => ∃ y, ch = pc y ∧ sat W (Bp y ++ F) w) fun v w => ∃ x, v = r x ∧ sat W (B x ++ F) w)) : CnP Tryd.prog 54 [v0] W A r B pc Bp :=
  CnP.of (shape := ref01_Trim v0) Tryd.call54 (fun h => ref01_Trim_calls h) h

/-- ref10_quote -/
def ref10_quote (Kp : PK) (K : Value → WP) : WP :=
  opN Tryd.prog (sBuildSl 150 1 [(0, (.int .u8 34))]) Kp fun x1 =>
  opN Tryd.prog (sConv 150 9 x1) Kp fun x2 =>
  K x2
def ref10_quote_an : Ann := { cuts := [], blks := [], loops := [], drs := [] }
theorem ref10_quote_eq (Kp : PK) (K : Value → WP) : cevF Tryd.prog ref10_quote_an Tryd.f55 [] Kp K = ref10_quote Kp K := by kernel_rfl
theorem ref10_quote_calls  {Kp : PK} {K : Value → WP} {w : World} (h : ref10_quote Kp K w) : Calls Tryd.prog 55 #[] w (after Kp K) :=
  calls_of_shape (calls_of_cev wide Tryd.func55 (an := ref10_quote_an) (args := []) (cast (congrFun (ref10_quote_eq Kp K) w).symm h))
theorem ref10_quote_cn  {W : World} {α : Type} {A : List HP} {r : α → Value} {B : α → List HP} (h : ∀ F, Ent W (A ++ F) (ref10_quote noP fun v w => ∃ x, v = r x ∧ sat W (B x ++ F) w)) : Cn Tryd.prog 55 [] W A r B :=
  Cn.of (shape := ref10_quote) Tryd.call55 (fun h => ref10_quote_calls h) h
theorem ref10_quote_cnP  {W : World} {α β : Type} {A : List HP} {r : α → Value} {B : α → List HP} {pc : β → List PanicEntry} {Bp : β → List HP} (h : ∀ F, Ent W (A ++ F) (ref10_quote (fun ch w => ∃ y, ch = pc y ∧ sat W (Bp y ++ F) w) fun v w => ∃ x, v = r x ∧ sat W (B x ++ F) w)) : CnP Tryd.prog 55 [] W A r B pc Bp :=
  CnP.of (shape := ref10_quote) Tryd.call55 (fun h => ref10_quote_calls h) h

/-- pool_Forward_1 -/
def pool_Forward_1 (v0 v1 v2 : Value) (Kp : PK) (K : Value → WP) : WP :=
  opN Tryd.prog (sFA 77 v2 3) Kp fun x5 =>
  opN Tryd.prog (sLoad 75 x5) Kp fun x6 =>
  opN Tryd.prog (sBuild 116 [(0, v0), (1, v1)]) Kp fun x9 =>
  opN Tryd.prog (sBuildSl 75 1 [(0, x9)]) Kp fun x10 =>
  opN Tryd.prog (sApp #[75, 75] 75 [x6, x10]) Kp fun x11 =>
  opN Tryd.prog (sFA 77 v2 3) Kp fun x12 =>
  opN Tryd.prog (sStore 75 x12 x11) Kp fun _ =>
  K (.tuple #[])
def pool_Forward_1_an : Ann := { cuts := [], blks := [], loops := [], drs := [] }
theorem pool_Forward_1_eq (v0 v1 v2 : Value) (Kp : PK) (K : Value → WP) : cevF Tryd.prog pool_Forward_1_an Tryd.f56 [v0, v1, v2] Kp K = pool_Forward_1 v0 v1 v2 Kp K := by kernel_rfl
theorem pool_Forward_1_calls {v0 v1 v2 : Value} {Kp : PK} {K : Value → WP} {w : World} (h : pool_Forward_1 v0 v1 v2 Kp K w) : Calls Tryd.prog 56 #[v0, v1, v2] w (after Kp K) :=
  calls_of_shape (calls_of_cev wide Tryd.func56 (an := pool_Forward_1_an) (args := [v0, v1, v2]) (cast (congrFun (pool_Forward_1_eq v0 v1 v2 Kp K) w).symm h))
theorem pool_Forward_1_cn {v0 v1 v2 : Value} {W : World} {α : Type} {A : List HP} {r : α → Value} {B : α → List HP} (h : ∀ F, Ent W (A ++ F) (pool_Forward_1 v0 v1 v2 noP fun v w => ∃ x, v = r x ∧ sat W (B x ++ F) w)) : Cn Tryd.prog 56 [v0, v1, v2] W A r B :=
  Cn.of (shape := pool_Forward_1 v0 v1 v2) Tryd.call56 (fun h => pool_Forward_1_calls h) h
theorem pool_Forward_1_cnP {v0 v1 v2 : Value} {W : World} {α β : Type} {A : List HP} {r : α → Value} {B : α → List HP} {pc : β → List PanicEntry} {Bp : β → List HP} (h : ∀ F, Ent W (A ++ F) (pool_Forward_1 v0 v1 v2 (fun ch w => ∃ y, ch = pc y ∧ sat W (Bp y ++ F) w) fun v w => ∃ x, v = r x ∧ sat W (B x ++ F) w)) : CnP Tryd.prog 56 [v0, v1, v2] W A r B pc Bp :=
  CnP.of (shape := pool_Forward_1 v0 v1 v2) Tryd.call56 (fun h => pool_Forward_1_calls h) h

/-- head_First -/
def head_First (v0 v1 : Value) (Kp : PK) (K : Value → WP) : WP :=
  opN Tryd.prog (sCall (fn 61) [v0, v1]) Kp fun x10 =>
  opN Tryd.prog (sLen #[40] 3 [x10]) Kp fun x11 =>
  loop1 (fun I1 m1 _ y12 =>
   opN Tryd.prog (sBin .lss 3 y12 x11) Kp fun x13 =>
   condS x13
   (opN Tryd.prog (sIA 40 x10 y12) Kp fun x14 =>
    opN Tryd.prog (sLoad 9 x14) Kp fun x15 =>
    K (.tuple #[x15, (.bool true)]))
   (K (.tuple #[(.string ⟨#[]⟩), (.bool false)]))) (.int .i64 0)
def head_First_an : Ann := { cuts := [], blks := [], loops := [(2, [12])], drs := [] }
theorem head_First_eq (v0 v1 : Value) (Kp : PK) (K : Value → WP) : cevF Tryd.prog head_First_an Tryd.f57 [v0, v1] Kp K = head_First v0 v1 Kp K := by kernel_rfl
theorem head_First_calls {v0 v1 : Value} {Kp : PK} {K : Value → WP} {w : World} (h : head_First v0 v1 Kp K w) : Calls Tryd.prog 57 #[v0, v1] w (after Kp K) :=
  calls_of_shape (calls_of_cev wide Tryd.func57 (an := head_First_an) (args := [v0, v1]) (cast (congrFun (head_First_eq v0 v1 Kp K) w).symm h))
theorem head_First_cn {v0 v1 : Value} {W : World} {α : Type} {A : List HP} {r : α → Value} {B : α → List HP} (h : ∀ F, Ent W (A ++ F) (head_First v0 v1 noP fun v w => ∃ x, v = r x ∧ sat W (B x ++ F) w)) : Cn Tryd.prog 57 [v0, v1] W A r B :=
  Cn.of (shape := head_First v0 v1) Tryd.call57 (fun h => head_First_calls h) h
theorem head_First_cnP {v0 v1 : Value} {W : World} {α β : Type} {A : List HP} {r : α → Value} {B : α → List HP} {pc : β → List PanicEntry} {Bp : β → List HP} (h : ∀ F, Ent W (A ++ F) (head_First v0 v1 (fun ch w => ∃ y, ch = pc y ∧ sat W (Bp y ++ F) w) fun v w => ∃ x, v = r x ∧ sat W (B x ++ F) w)) : CnP Tryd.prog 57 [v0, v1] W A r B pc Bp :=
  CnP.of (shape := head_First v0 v1) Tryd.call57 (fun h => head_First_calls h) h

/-- head_Without -/
def head_Without (v0 v1 : Value) (Kp : PK) (K : Value → WP) : WP :=
  opN Tryd.prog (sLen #[75] 3 [v0]) Kp fun x11 =>
  loop2 (fun I1 m1 _ y5 y12 =>
   opN Tryd.prog (sBin .lss 3 y12 x11) Kp fun x13 =>
   condS x13
   (opN Tryd.prog (sIA 75 v0 y12) Kp fun x14 =>
    opN Tryd.prog (sLoad 116 x14) Kp fun x15 =>
    opN Tryd.prog (sAlloc 116) Kp fun x7 =>
    opN Tryd.prog (sStore 116 x7 x15) Kp fun _ =>
    opN Tryd.prog (sLen #[40] 3 [v1]) Kp fun x17 =>
    loop1 (fun I2 m2 _ y18 =>
     opN Tryd.prog (sBin .lss 3 y18 x17) Kp fun x19 =>
     condS x19
     (opN Tryd.prog (sIA 40 v1 y18) Kp fun x20 =>
      opN Tryd.prog (sLoad 9 x20) Kp fun x21 =>
      opN Tryd.prog (sFA 116 x7 0) Kp fun x22 =>
      opN Tryd.prog (sLoad 9 x22) Kp fun x23 =>
      opN Tryd.prog (sCall (fn 35) [x23, x21]) Kp fun x25 =>
      condS x25
      (opN Tryd.prog (sBin .add 3 y12 (.int .i64 1)) Kp fun x31 =>
       next2 I1 m1 y5 x31)
      (opN Tryd.prog (sBin .add 3 y18 (.int .i64 1)) Kp fun x26 =>
       next1 I2 m2 x26))
     (opN Tryd.prog (sLoad 116 x7) Kp fun x28 =>
      opN Tryd.prog (sBuildSl 75 1 [(0, x28)]) Kp fun x29 =>
      opN Tryd.prog (sApp #[75, 75] 75 [y5, x29]) Kp fun x30 =>
      opN Tryd.prog (sBin .add 3 y12 (.int .i64 1)) Kp fun x31 =>
      next2 I1 m1 x30 x31)) (.int .i64 0))
   (K y5)) (.slice none 0 0) (.int .i64 0)
def head_Without_an : Ann := { cuts := [], blks := [], loops := [(3, [5, 12]), (6, [18])], drs := [] }
theorem head_Without_eq (v0 v1 : Value) (Kp : PK) (K : Value → WP) : cevF Tryd.prog head_Without_an Tryd.f58 [v0, v1] Kp K = head_Without v0 v1 Kp K := by kernel_rfl
theorem head_Without_calls {v0 v1 : Value} {Kp : PK} {K : Value → WP} {w : World} (h : head_Without v0 v1 Kp K w) : Calls Tryd.prog 58 #[v0, v1] w (after Kp K) :=
  calls_of_shape (calls_of_cev wide Tryd.func58 (an := head_Without_an) (args := [v0, v1]) (cast (congrFun (head_Without_eq v0 v1 Kp K) w).symm h))
theorem head_Without_cn {v0 v1 : Value} {W : World} {α : Type} {A : List HP} {r : α → Value} {B : α → List HP} (h : ∀ F, Ent W (A ++ F) (head_Without v0 v1 noP fun v w => ∃ x, v = r x ∧ sat W (B x ++ F) w)) : Cn Tryd.prog 58 [v0, v1] W A r B :=
  Cn.of (shape := head_Without v0 v1) Tryd.call58 (fun h => head_Without_calls h) h
theorem head_Without_cnP {v0 v1 : Value} {W : World} {α β : Type} {A : List HP} {r : α → Value} {B : α → List HP} {pc : β → List PanicEntry} {Bp : β → List HP} (h : ∀ F, Ent W (A ++ F) (head_Without v0 v1 (fun ch w => ∃ y, ch = pc y ∧ sat W (Bp y ++ F) w) fun v w => ∃ x, v = r x ∧ sat W (B x ++ F) w)) : CnP Tryd.prog 58 [v0, v1] W A r B pc Bp :=
  CnP.of (shape := head_Without v0 v1) Tryd.call58 (fun h => head_Without_calls h) h

/-- pool_Strip -/
def pool_Strip (v0 : Value) (Kp : PK) (K : Value → WP) : WP :=
  opN Tryd.prog (sBuildSl 40 9 [(0, (.string ⟨#[67, 111, 110, 110, 101, 99, 116, 105, 111, 110]⟩)), (1, (.string ⟨#[75, 101, 101, 112, 45, 65, 108, 105, 118, 101]⟩)), (2, (.string ⟨#[80, 114, 111, 120, 121, 45, 67, 111, 110, 110, 101, 99, 116, 105, 111, 110]⟩)), (3, (.string ⟨#[80, 114, 111, 120, 121, 45, 65, 117, 116, 104, 101, 110, 116, 105, 99, 97, 116, 101]⟩)), (4, (.string ⟨#[80, 114, 111, 120, 121, 45, 65, 117, 116, 104, 111, 114, 105, 122, 97, 116, 105, 111, 110]⟩)), (5, (.string ⟨#[84, 69]⟩)), (6, (.string ⟨#[84, 114, 97, 105, 108, 101, 114]⟩)), (7, (.string ⟨#[84, 114, 97, 110, 115, 102, 101, 114, 45, 69, 110, 99, 111, 100, 105, 110, 103]⟩)), (8, (.string ⟨#[85, 112, 103, 114, 97, 100, 101]⟩))]) Kp fun x10 =>
  opN Tryd.prog (sCall (fn 61) [v0, (.string ⟨#[67, 111, 110, 110, 101, 99, 116, 105, 111, 110]⟩)]) Kp fun x12 =>
  opN Tryd.prog (sLen #[40] 3 [x12]) Kp fun x13 =>
  loop2 (fun I1 m1 _ y3 y14 =>
   opN Tryd.prog (sBin .lss 3 y14 x13) Kp fun x15 =>
   condS x15
   (opN Tryd.prog (sIA 40 x12 y14) Kp fun x16 =>
    opN Tryd.prog (sLoad 9 x16) Kp fun x17 =>
    opN Tryd.prog (sCall (fn 15) [x17]) Kp fun x20 =>
    opN Tryd.prog (sExt x20 0) Kp fun x21 =>
    opN Tryd.prog (sExt x20 1) Kp fun x22 =>
    opN Tryd.prog (sLen #[40] 3 [x21]) Kp fun x24 =>
    loop2 (fun I2 m2 _ y3 y25 =>
     opN Tryd.prog (sBin .lss 3 y25 x24) Kp fun x26 =>
     condS x26
     (opN Tryd.prog (sIA 40 x21 y25) Kp fun x27 =>
      opN Tryd.prog (sLoad 9 x27) Kp fun x28 =>
      opN Tryd.prog (sEq .neq 9 (.tmp 29) (.const (.string ⟨#[104, 111, 115, 116]⟩)) x28 (.string ⟨#[104, 111, 115, 116]⟩)) Kp fun x30 =>
      condS x30
      (opN Tryd.prog (sBuildSl 40 1 [(0, x28)]) Kp fun x33 =>
       opN Tryd.prog (sApp #[40, 40] 40 [y3, x33]) Kp fun x34 =>
       opN Tryd.prog (sBin .add 3 y25 (.int .i64 1)) Kp fun x35 =>
       next2 I2 m2 x34 x35)
      (opN Tryd.prog (sBin .add 3 y25 (.int .i64 1)) Kp fun x35 =>
       next2 I2 m2 y3 x35))
     (opN Tryd.prog (sBin .add 3 y14 (.int .i64 1)) Kp fun x36 =>
      next2 I1 m1 y3 x36)) y3 (.int .i64 0))
   (opN Tryd.prog (sCall (fn 58) [v0, y3]) Kp fun x39 =>
    K x39)) x10 (.int .i64 0)
def pool_Strip_an : Ann := { cuts := [], blks := [], loops := [(3, [3, 14]), (7, [3, 25])], drs := [] }
theorem pool_Strip_eq (v0 : Value) (Kp : PK) (K : Value → WP) : cevF Tryd.prog pool_Strip_an Tryd.f59 [v0] Kp K = pool_Strip v0 Kp K := by kernel_rfl
theorem pool_Strip_calls {v0 : Value} {Kp : PK} {K : Value → WP} {w : World} (h : pool_Strip v0 Kp K w) : Calls Tryd.prog 59 #[v0] w (after Kp K) :=
  calls_of_shape (calls_of_cev wide Tryd.func59 (an := pool_Strip_an) (args := [v0]) (cast (congrFun (pool_Strip_eq v0 Kp K) w).symm h))
theorem pool_Strip_cn {v0 : Value} {W : World} {α : Type} {A : List HP} {r : α → Value} {B : α → List HP} (h : ∀ F, Ent W (A ++ F) (pool_Strip v0 noP fun v w => ∃ x, v = r x ∧ sat W (B x ++ F) w)) : Cn Tryd.prog 59 [v0] W A r B :=
  Cn.of (shape := pool_Strip v0) Tryd.call59 (fun h => pool_Strip_calls h) h
theorem pool_Strip_cnP {v0 : Value} {W : World} {α β : Type} {A : List HP} {r : α → Value} {B : α → List HP} {pc : β → List PanicEntry} {Bp : β → List HP} (h : ∀ F, Ent W (A ++ F) (pool_Strip v0 (fun ch w => ∃ y, ch = pc y ∧ sat W (Bp y ++ F) w) fun v w => ∃ x, v = r x ∧ sat W (B x ++ F) w)) : CnP Tryd.prog 59 [v0] W A r B pc Bp :=
  CnP.of (shape := pool_Strip v0) Tryd.call59 (fun h => pool_Strip_calls h) h

/-- strings_Join -/
def strings_Join (v0 v1 : Value) (Kp : PK) (K : Value → WP) : WP :=
  opN Tryd.prog (sLen #[40] 3 [v0]) Kp fun x12 =>
  opN Tryd.prog (sEq .eql 3 (.tmp 12) (.const (.int .i64 0)) x12 (.int .i64 0)) Kp fun x14 =>
  condS x14
  (K (.string ⟨#[]⟩))
  (opN Tryd.prog (sEq .eql 3 (.tmp 12) (.const (.int .i64 1)) x12 (.int .i64 1)) Kp fun x16 =>
   condS x16
   (opN Tryd.prog (sIA 40 v0 (.int .i64 0)) Kp fun x18 =>
    opN Tryd.prog (sLoad 9 x18) Kp fun x19 =>
    K x19)
   (cut1 (fun J1 =>
     opN Tryd.prog (sLen #[9] 3 [v1]) Kp fun x21 =>
     opN Tryd.prog (sBin .gtr 3 x21 (.int .i64 0)) Kp fun x22 =>
     condS x22
     (cut0 (fun J2 =>
       opN Tryd.prog (sLen #[9] 3 [v1]) Kp fun x24 =>
       opN Tryd.prog (sLen #[40] 3 [v0]) Kp fun x26 =>
       opN Tryd.prog (sBin .sub 3 x26 (.int .i64 1)) Kp fun x27 =>
       opN Tryd.prog (sBin .quo 3 (.int .i64 9223372036854775807) x27) Kp fun x28 =>
       opN Tryd.prog (sBin .geq 3 x24 x28) Kp fun x29 =>
       condS x29
       (opN Tryd.prog (sMkI 9 (.string ⟨#[115, 116, 114, 105, 110, 103, 115, 58, 32, 74, 111, 105, 110, 32, 111, 117, 116, 112, 117, 116, 32, 108, 101, 110, 103, 116, 104, 32, 111, 118, 101, 114, 102, 108, 111, 119]⟩)) Kp fun x30 =>
        opN Tryd.prog (sPanic x30) Kp fun _ =>
        J2)
       (J2)) fun _ =>
      opN Tryd.prog (sLen #[9] 3 [v1]) Kp fun x33 =>
      opN Tryd.prog (sLen #[40] 3 [v0]) Kp fun x35 =>
      opN Tryd.prog (sBin .sub 3 x35 (.int .i64 1)) Kp fun x36 =>
      opN Tryd.prog (sBin .mul 3 x33 x36) Kp fun x37 =>
      opN Tryd.prog (sBin .add 3 (.int .i64 0) x37) Kp fun x38 =>
      J1 x38)
     (J1 (.int .i64 0))) fun _ z5 =>
    opN Tryd.prog (sLen #[40] 3 [v0]) Kp fun x40 =>
    loop2 (fun I1 m1 _ y5 y41 =>
     opN Tryd.prog (sBin .lss 3 y41 x40) Kp fun x42 =>
     condS x42
     (opN Tryd.prog (sIA 40 v0 y41) Kp fun x43 =>
      opN Tryd.prog (sLoad 9 x43) Kp fun x44 =>
      cut0 (fun J3 =>
       opN Tryd.prog (sLen #[9] 3 [x44]) Kp fun x46 =>
       opN Tryd.prog (sBin .sub 3 (.int .i64 9223372036854775807) y5) Kp fun x48 =>
       opN Tryd.prog (sBin .gtr 3 x46 x48) Kp fun x49 =>
       condS x49
       (opN Tryd.prog (sMkI 9 (.string ⟨#[115, 116, 114, 105, 110, 103, 115, 58, 32, 74, 111, 105, 110, 32, 111, 117, 116, 112, 117, 116, 32, 108, 101, 110, 103, 116, 104, 32, 111, 118, 101, 114, 102, 108, 111, 119]⟩)) Kp fun x50 =>
        opN Tryd.prog (sPanic x50) Kp fun _ =>
        J3)
       (J3)) fun _ =>
      opN Tryd.prog (sLen #[9] 3 [x44]) Kp fun x53 =>
      opN Tryd.prog (sBin .add 3 y5 x53) Kp fun x54 =>
      opN Tryd.prog (sBin .add 3 y41 (.int .i64 1)) Kp fun x55 =>
      next2 I1 m1 x54 x55)
     (opN Tryd.prog (sAlloc 166) Kp fun x8 =>
      opN Tryd.prog (sCall (fn 87) [x8, y5]) Kp fun x57 =>
      opN Tryd.prog (sIA 40 v0 (.int .i64 0)) Kp fun x59 =>
      opN Tryd.prog (sLoad 9 x59) Kp fun x60 =>
      opN Tryd.prog (sCall (fn 88) [x8, x60]) Kp fun x61 =>
      opN Tryd.prog (sSl 40 v0 (some (.int .i64 1)) none none) Kp fun x63 =>
      opN Tryd.prog (sLen #[40] 3 [x63]) Kp fun x64 =>
      loop1 (fun I2 m2 _ y65 =>
       opN Tryd.prog (sBin .lss 3 y65 x64) Kp fun x66 =>
       condS x66
       (opN Tryd.prog (sIA 40 x63 y65) Kp fun x67 =>
        opN Tryd.prog (sLoad 9 x67) Kp fun x68 =>
        opN Tryd.prog (sCall (fn 88) [x8, v1]) Kp fun x70 =>
        opN Tryd.prog (sCall (fn 88) [x8, x68]) Kp fun x72 =>
        opN Tryd.prog (sBin .add 3 y65 (.int .i64 1)) Kp fun x73 =>
        next1 I2 m2 x73)
       (opN Tryd.prog (sCall (fn 89) [x8]) Kp fun x74 =>
        K x74)) (.int .i64 0))) z5 (.int .i64 0)))
def strings_Join_an : Ann := { cuts := [(10, []), (11, [5]), (16, [])], blks := [], loops := [(12, [5, 41]), (22, [65])], drs := [] }
theorem strings_Join_eq (v0 v1 : Value) (Kp : PK) (K : Value → WP) : cevF Tryd.prog strings_Join_an Tryd.f60 [v0, v1] Kp K = strings_Join v0 v1 Kp K := by kernel_rfl
theorem strings_Join_calls {v0 v1 : Value} {Kp : PK} {K : Value → WP} {w : World} (h : strings_Join v0 v1 Kp K w) : Calls Tryd.prog 60 #[v0, v1] w (after Kp K) :=
  calls_of_shape (calls_of_cev wide Tryd.func60 (an := strings_Join_an) (args := [v0, v1]) (cast (congrFun (strings_Join_eq v0 v1 Kp K) w).symm h))
theorem strings_Join_cn {v0 v1 : Value} {W : World} {α : Type} {A : List HP} {r : α → Value} {B : α → List HP} (h : ∀ F, Ent W (A ++ F) (strings_Join v0 v1 noP fun v w => ∃ x, v = r x ∧ sat W (B x ++ F) w)) : Cn Tryd.prog 60 [v0, v1] W A r B :=
  Cn.of (shape := strings_Join v0 v1) Tryd.call60 (fun h => strings_Join_calls h) h
theorem strings_Join_cnP {v0 v1 : Value} {W : World} {α β : Type} {A : List HP} {r : α → Value} {B : α → List HP} {pc : β → List PanicEntry} {Bp : β → List HP} (h : ∀ F, Ent W (A ++ F) (strings_Join v0 v1 (fun ch w => ∃ y, ch = pc y ∧ sat W (Bp y ++ F) w) fun v w => ∃ x, v = r x ∧ sat W (B x ++ F) w)) : CnP Tryd.prog 60 [v0, v1] W A r B pc Bp :=
  CnP.of (shape := strings_Join v0 v1) Tryd.call60 (fun h => strings_Join_calls h) h

/-- head_Values -/
def head_Values (v0 v1 : Value) (Kp : PK) (K : Value → WP) : WP :=
  opN Tryd.prog (sLen #[75] 3 [v0]) Kp fun x9 =>
  loop2 (fun I1 m1 _ y5 y10 =>
   opN Tryd.prog (sBin .lss 3 y10 x9) Kp fun x11 =>
   condS x11
   (opN Tryd.prog (sIA 75 v0 y10) Kp fun x12 =>
    opN Tryd.prog (sLoad 116 x12) Kp fun x13 =>
    opN Tryd.prog (sAlloc 116) Kp fun x7 =>
    opN Tryd.prog (sStore 116 x7 x13) Kp fun _ =>
    opN Tryd.prog (sFA 116 x7 0) Kp fun x14 =>
    opN Tryd.prog (sLoad 9 x14) Kp fun x15 =>
    opN Tryd.prog (sCall (fn 35) [x15, v1]) Kp fun x17 =>
    condS x17
    (opN Tryd.prog (sFA 116 x7 1) Kp fun x19 =>
     opN Tryd.prog (sLoad 9 x19) Kp fun x20 =>
     opN Tryd.prog (sBuildSl 40 1 [(0, x20)]) Kp fun x21 =>
     opN Tryd.prog (sApp #[40, 40] 40 [y5, x21]) Kp fun x22 =>
     opN Tryd.prog (sBin .add 3 y10 (.int .i64 1)) Kp fun x23 =>
     next2 I1 m1 x22 x23)
    (opN Tryd.prog (sBin .add 3 y10 (.int .i64 1)) Kp fun x23 =>
     next2 I1 m1 y5 x23))
   (K y5)) (.slice none 0 0) (.int .i64 0)
def head_Values_an : Ann := { cuts := [], blks := [], loops := [(3, [5, 10])], drs := [] }
theorem head_Values_eq (v0 v1 : Value) (Kp : PK) (K : Value → WP) : cevF Tryd.prog head_Values_an Tryd.f61 [v0, v1] Kp K = head_Values v0 v1 Kp K := by kernel_rfl
theorem head_Values_calls {v0 v1 : Value} {Kp : PK} {K : Value → WP} {w : World} (h : head_Values v0 v1 Kp K w) : Calls Tryd.prog 61 #[v0, v1] w (after Kp K) :=
  calls_of_shape (calls_of_cev wide Tryd.func61 (an := head_Values_an) (args := [v0, v1]) (cast (congrFun (head_Values_eq v0 v1 Kp K) w).symm h))
theorem head_Values_cn {v0 v1 : Value} {W : World} {α : Type} {A : List HP} {r : α → Value} {B : α → List HP} (h : ∀ F, Ent W (A ++ F) (head_Values v0 v1 noP fun v w => ∃ x, v = r x ∧ sat W (B x ++ F) w)) : Cn Tryd.prog 61 [v0, v1] W A r B :=
  Cn.of (shape := head_Values v0 v1) Tryd.call61 (fun h => head_Values_calls h) h
theorem head_Values_cnP {v0 v1 : Value} {W : World} {α β : Type} {A : List HP} {r : α → Value} {B : α → List HP} {pc : β → List PanicEntry} {Bp : β → List HP} (h : ∀ F, Ent W (A ++ F) (head_Values v0 v1 (fun ch w => ∃ y, ch = pc y ∧ sat W (Bp y ++ F) w) fun v w => ∃ x, v = r x ∧ sat W (B x ++ F) w)) : CnP Tryd.prog 61 [v0, v1] W A r B pc Bp :=
  CnP.of (shape := head_Values v0 v1) Tryd.call61 (fun h => head_Values_calls h) h

/-- ref01_Equal -/
def ref01_Equal (v0 v1 : Value) (Kp : PK) (K : Value → WP) : WP :=
  opN Tryd.prog (sCall (fn 38) [v0]) Kp fun x6 =>
  opN Tryd.prog (sCall (fn 38) [v1]) Kp fun x8 =>
  opN Tryd.prog (sEq .eql 9 (.tmp 6) (.tmp 8) x6 x8) Kp fun x9 =>
  K x9
def ref01_Equal_an : Ann := { cuts := [], blks := [], loops := [], drs := [] }
theorem ref01_Equal_eq (v0 v1 : Value) (Kp : PK) (K : Value → WP) : cevF Tryd.prog ref01_Equal_an Tryd.f62 [v0, v1] Kp K = ref01_Equal v0 v1 Kp K := by kernel_rfl
theorem ref01_Equal_calls {v0 v1 : Value} {Kp : PK} {K : Value → WP} {w : World} (h : ref01_Equal v0 v1 Kp K w) : Calls Tryd.prog 62 #[v0, v1] w (after Kp K) :=
  calls_of_shape (calls_of_cev wide Tryd.func62 (an := ref01_Equal_an) (args := [v0, v1]) (cast (congrFun (ref01_Equal_eq v0 v1 Kp K) w).symm h))
theorem ref01_Equal_cn {v0 v1 : Value} {W : World} {α : Type} {A : List HP} {r : α → Value} {B : α → List HP} (h : ∀ F, Ent W (A ++ F) (ref01_Equal v0 v1 noP fun v w => ∃ x, v = r x ∧ sat W (B x ++ F) w)) : Cn Tryd.prog 62 [v0, v1] W A r B :=
  Cn.of (shape := ref01_Equal v0 v1) Tryd.call62 (fun h => ref01_Equal_calls h) h
theorem ref01_Equal_cnP {v0 v1 : Value} {W : World} {α β : Type} {A : List HP} {r : α → Value} {B : α → List HP} {pc : β → List PanicEntry} {Bp : β → List HP} (h : ∀ F, Ent W (A ++ F) (ref01_Equal v0 v1 (fun ch w => ∃ y, ch = pc y ∧ sat W (Bp y ++ F) w) fun v w => ∃ x, v = r x ∧ sat W (B x ++ F) w)) : CnP Tryd.prog 62 [v0, v1] W A r B pc Bp :=
  CnP.of (shape := ref01_Equal v0 v1) Tryd.call62 (fun h => ref01_Equal_calls h) h

/-- strconv_Itoa -/
def strconv_Itoa (v0 : Value) (Kp : PK) (K : Value → WP) : WP :=
  opN Tryd.prog (sCall (fn 90) [v0]) Kp fun x4 =>
  K x4
def strconv_Itoa_an : Ann := { cuts := [], blks := [], loops := [], drs := [] }
theorem strconv_Itoa_eq (v0 : Value) (Kp : PK) (K : Value → WP) : cevF Tryd.prog strconv_Itoa_an Tryd.f63 [v0] Kp K = strconv_Itoa v0 Kp K := by kernel_rfl
theorem strconv_Itoa_calls {v0 : Value} {Kp : PK} {K : Value → WP} {w : World} (h : strconv_Itoa v0 Kp K w) : Calls Tryd.prog 63 #[v0] w (after Kp K) :=
  calls_of_shape (calls_of_cev wide Tryd.func63 (an := strconv_Itoa_an) (args := [v0]) (cast (congrFun (strconv_Itoa_eq v0 Kp K) w).symm h))
theorem strconv_Itoa_cn {v0 : Value} {W : World} {α : Type} {A : List HP} {r : α → Value} {B : α → List HP} (h : ∀ F, Ent W (A ++ F) (strconv_Itoa v0 noP fun v w => ∃ x, v = r x ∧ sat W (B x ++ F) w)) : Cn Tryd.prog 63 [v0] W A r B :=
  Cn.of (shape := strconv_Itoa v0) Tryd.call63 (fun h => strconv_Itoa_calls h) h
theorem strconv_Itoa_cnP {v0 : Value} {W : World} {α β : Type} {A : List HP} {r : α → Value} {B : α → List HP} {pc : β → List PanicEntry} {Bp : β → List HP} (h : ∀ F, Ent W (A ++ F) (strconv_Itoa v0 (fun ch w => ∃ y, ch = pc y ∧ sat W (Bp y ++ F) w) fun v w => ∃ x, v = r x ∧ sat W (B x ++ F) w)) : CnP Tryd.prog 63 [v0] W A r B pc Bp :=
  CnP.of (shape := strconv_Itoa v0) Tryd.call63 (fun h => strconv_Itoa_calls h) h

/-- pool_New -/
def pool_New (v0 : Value) (Kp : PK) (K : Value → WP) : WP :=
  opN Tryd.prog (sBox 128 v0) Kp fun x1 =>
  opN Tryd.prog (sFA 128 x1 1) Kp fun x7 =>
  opN Tryd.prog (sLoad 126 x7) Kp fun x8 =>
  opN Tryd.prog (sLen #[126] 3 [x8]) Kp fun x9 =>
  opN Tryd.prog (sEq .eql 3 (.tmp 9) (.const (.int .i64 0)) x9 (.int .i64 0)) Kp fun x10 =>
  gdK x10 false (opN Tryd.prog (sFA 128 x1 1) Kp) fun x12 =>
  gdK x10 false (opN Tryd.prog (sLoad 126 x12) Kp) fun x13 =>
  gdK x10 false (opN Tryd.prog (sLen #[126] 3 [x13]) Kp) fun x14 =>
  gdK x10 false (opN Tryd.prog (sBin .gtr 3 x14 (.int .i64 16)) Kp) fun x15 =>
  opN Tryd.prog (sPick x10 (.bool true) x15) Kp fun x16 =>
  gdK x16 false (opN Tryd.prog (sFA 128 x1 2) Kp) fun x18 =>
  gdK x16 false (opN Tryd.prog (sLoad 3 x18) Kp) fun x19 =>
  gdK x16 false (opN Tryd.prog (sBin .lss 3 x19 (.int .i64 1)) Kp) fun x20 =>
  opN Tryd.prog (sPick x16 (.bool true) x20) Kp fun x21 =>
  gdK x21 false (opN Tryd.prog (sFA 128 x1 2) Kp) fun x23 =>
  gdK x21 false (opN Tryd.prog (sLoad 3 x23) Kp) fun x24 =>
  gdK x21 false (opN Tryd.prog (sBin .gtr 3 x24 (.int .i64 3600)) Kp) fun x25 =>
  opN Tryd.prog (sPick x21 (.bool true) x25) Kp fun x26 =>
  condS x26
  (K (.tuple #[(.pointer none), (.int .i64 1)]))
  (opN Tryd.prog (sMkMap 172 none) Kp fun x27 =>
   opN Tryd.prog (sMkMap 172 none) Kp fun x28 =>
   opN Tryd.prog (sFA 128 x1 2) Kp fun x29 =>
   opN Tryd.prog (sLoad 3 x29) Kp fun x30 =>
   opN Tryd.prog (sBuild 175 [(1, x27), (2, x28), (5, x30)]) Kp fun x31 =>
   opN Tryd.prog (sBox 175 x31) Kp fun x32 =>
   opN Tryd.prog (sFA 128 x1 1) Kp fun x33 =>
   opN Tryd.prog (sLoad 126 x33) Kp fun x34 =>
   opN Tryd.prog (sLen #[126] 3 [x34]) Kp fun x35 =>
   loop1 (fun I1 m1 _ y36 =>
    opN Tryd.prog (sBin .lss 3 y36 x35) Kp fun x37 =>
    condS x37
    (opN Tryd.prog (sIA 126 x34 y36) Kp fun x38 =>
     opN Tryd.prog (sLoad 177 x38) Kp fun x39 =>
     opN Tryd.prog (sAlloc 177) Kp fun x6 =>
     opN Tryd.prog (sStore 177 x6 x39) Kp fun _ =>
     opN Tryd.prog (sFA 177 x6 1) Kp fun x40 =>
     opN Tryd.prog (sLoad 3 x40) Kp fun x41 =>
     opN Tryd.prog (sBin .lss 3 x41 (.int .i64 1)) Kp fun x42 =>
     gdK x42 false (opN Tryd.prog (sFA 177 x6 1) Kp) fun x44 =>
     gdK x42 false (opN Tryd.prog (sLoad 3 x44) Kp) fun x45 =>
     gdK x42 false (opN Tryd.prog (sBin .gtr 3 x45 (.int .i64 64)) Kp) fun x46 =>
     opN Tryd.prog (sPick x42 (.bool true) x46) Kp fun x47 =>
     gdK x47 false (fun k => k x32) fun x49 =>
     gdK x47 false (opN Tryd.prog (sFA 177 x6 0) Kp) fun x50 =>
     gdK x47 false (opN Tryd.prog (sLoad 3 x50) Kp) fun x51 =>
     gdK x47 false (opN Tryd.prog (sCall (fn 91) [x49, x51]) Kp) fun x52 =>
     gdK x47 false (opN Tryd.prog (sEq .neq 178 (.tmp 52) (.const (.pointer none)) x52 (.pointer none)) Kp) fun x53 =>
     opN Tryd.prog (sPick x47 (.bool true) x53) Kp fun x54 =>
     condS x54
     (K (.tuple #[(.pointer none), (.int .i64 1)]))
     (drS (stD Tryd.prog (sNil x32) fun D2 x57 =>
       stD Tryd.prog (sFA 175 x57 0) fun D3 x58 =>
       stD Tryd.prog (sLoad 173 x58) fun D4 x59 =>
       stS Tryd.prog (sLoad 177 x6) fun x60 =>
       stS Tryd.prog (sBuild 182 [(0, x60), (3, (.int .i64 (-2199023255552)))]) fun x61 =>
       opN Tryd.prog (sBox 182 x61) Kp fun x62 =>
       (fun w => D4 w ∧ (fun w => D3 w ∧ (fun w => D2 w ∧ (opN Tryd.prog (sBuildSl 173 1 [(0, x62)]) Kp fun x63 =>
           (fun w => D4 w ∧ (fun w => D3 w ∧ (fun w => D2 w ∧ (opN Tryd.prog (sApp #[173, 173] 173 [x59, x63]) Kp fun x64 =>
               stS Tryd.prog (sNil x32) fun x65 =>
               stS Tryd.prog (sFA 175 x65 0) fun x66 =>
               opN Tryd.prog (sStore 173 x66 x64) Kp fun _ =>
               opN Tryd.prog (sBin .add 3 y36 (.int .i64 1)) Kp fun x67 =>
               next1 I1 m1 x67) w) w) w)) w) w) w))))
    (K (.tuple #[x32, (.int .i64 0)]))) (.int .i64 0))
def pool_New_an : Ann := { cuts := [], blks := [], loops := [(5, [36])], drs := [(9, [(0, 2), (1, 2), (2, 3), (3, 3), (4, 3), (5, 1), (6, 1), (7, 0), (8, 0), (9, 0), (10, 1), (11, 1), (12, 0)])] }
theorem pool_New_eq (v0 : Value) (Kp : PK) (K : Value → WP) : cevF Tryd.prog pool_New_an Tryd.f64 [v0] Kp K = pool_New v0 Kp K := by kernel_rfl
theorem pool_New_calls {v0 : Value} {Kp : PK} {K : Value → WP} {w : World} (h : pool_New v0 Kp K w) : Calls Tryd.prog 64 #[v0] w (after Kp K) :=
  calls_of_shape (calls_of_cev wide Tryd.func64 (an := pool_New_an) (args := [v0]) (cast (congrFun (pool_New_eq v0 Kp K) w).symm h))
theorem pool_New_cn {v0 : Value} {W : World} {α : Type} {A : List HP} {r : α → Value} {B : α → List HP} (h : ∀ F, Ent W (A ++ F) (pool_New v0 noP fun v w => ∃ x, v = r x ∧ sat W (B x ++ F) w)) : Cn Tryd.prog 64 [v0] W A r B :=
  Cn.of (shape := pool_New v0) Tryd.call64 (fun h => pool_New_calls h) h
theorem pool_New_cnP {v0 : Value} {W : World} {α β : Type} {A : List HP} {r : α → Value} {B : α → List HP} {pc : β → List PanicEntry} {Bp : β → List HP} (h : ∀ F, Ent W (A ++ F) (pool_New v0 (fun ch w => ∃ y, ch = pc y ∧ sat W (Bp y ++ F) w) fun v w => ∃ x, v = r x ∧ sat W (B x ++ F) w)) : CnP Tryd.prog 64 [v0] W A r B pc Bp :=
  CnP.of (shape := pool_New v0) Tryd.call64 (fun h => pool_New_calls h) h

/-- law22_own -/
def law22_own (v0 : Value) (Kp : PK) (K : Value → WP) : WP :=
  opN Tryd.prog (sBox 132 v0) Kp fun x1 =>
  opN Tryd.prog (sAlloc 128) Kp fun x2 =>
  opN Tryd.prog (sFA 132 x1 0) Kp fun x5 =>
  opN Tryd.prog (sLoad 9 x5) Kp fun x6 =>
  opN Tryd.prog (sFA 132 x1 2) Kp fun x7 =>
  opN Tryd.prog (sLoad 3 x7) Kp fun x8 =>
  opN Tryd.prog (sFA 132 x1 3) Kp fun x9 =>
  opN Tryd.prog (sLoad 3 x9) Kp fun x10 =>
  opN Tryd.prog (sBuild 128 [(0, x6), (2, x8), (3, x10)]) Kp fun x11 =>
  opN Tryd.prog (sAlloc 128) Kp fun x3 =>
  opN Tryd.prog (sStore 128 x3 x11) Kp fun _ =>
  loop1 (fun I1 m1 _ y4 =>
   opN Tryd.prog (sFA 132 x1 1) Kp fun x13 =>
   opN Tryd.prog (sLoad 130 x13) Kp fun x14 =>
   opN Tryd.prog (sLen #[130] 3 [x14]) Kp fun x15 =>
   opN Tryd.prog (sBin .lss 3 y4 x15) Kp fun x16 =>
   condS x16
   (drS (stD Tryd.prog (sFA 128 x3 1) fun D0 x19 =>
     stD Tryd.prog (sLoad 126 x19) fun D1 x20 =>
     stS Tryd.prog (sFA 132 x1 1) fun x21 =>
     stS Tryd.prog (sLoad 130 x21) fun x22 =>
     stS Tryd.prog (sIA 130 x22 y4) fun x24 =>
     stS Tryd.prog (sFA 183 x24 0) fun x25 =>
     stS Tryd.prog (sLoad 3 x25) fun x26 =>
     stS Tryd.prog (sFA 132 x1 1) fun x27 =>
     stS Tryd.prog (sLoad 130 x27) fun x28 =>
     stS Tryd.prog (sIA 130 x28 y4) fun x30 =>
     stS Tryd.prog (sFA 183 x30 1) fun x31 =>
     stS Tryd.prog (sLoad 3 x31) fun x32 =>
     stS Tryd.prog (sBuild 177 [(0, x26), (1, x32)]) fun x33 =>
     opN Tryd.prog (sBuildSl 126 1 [(0, x33)]) Kp fun x34 =>
     (fun w => D1 w ∧ (fun w => D0 w ∧ (opN Tryd.prog (sApp #[126, 126] 126 [x20, x34]) Kp fun x35 =>
        stS Tryd.prog (sFA 128 x3 1) fun x36 =>
        opN Tryd.prog (sStore 126 x36 x35) Kp fun _ =>
        opN Tryd.prog (sBin .add 3 y4 (.int .i64 1)) Kp fun x18 =>
        next1 I1 m1 x18) w) w)))
   (opN Tryd.prog (sLoad 128 x3) Kp fun x37 =>
    opN Tryd.prog (sStore 128 x2 x37) Kp fun _ =>
    (stS Tryd.prog (sRes 128 x2) fun r0 => K r0))) (.int .i64 0)
def law22_own_an : Ann := { cuts := [], blks := [], loops := [(3, [4])], drs := [(5, [(0, 3), (1, 3), (2, 1), (3, 1), (4, 1), (5, 1), (6, 1), (7, 1), (8, 1), (9, 1), (10, 1), (11, 1), (12, 1), (13, 1), (14, 1), (15, 0), (16, 0), (17, 1), (18, 0)])] }
theorem law22_own_eq (v0 : Value) (Kp : PK) (K : Value → WP) : cevF Tryd.prog law22_own_an Tryd.f65 [v0] Kp K = law22_own v0 Kp K := by kernel_rfl
theorem law22_own_calls {v0 : Value} {Kp : PK} {K : Value → WP} {w : World} (h : law22_own v0 Kp K w) : Calls Tryd.prog 65 #[v0] w (after Kp K) :=
  calls_of_shape (calls_of_cev wide Tryd.func65 (an := law22_own_an) (args := [v0]) (cast (congrFun (law22_own_eq v0 Kp K) w).symm h))
theorem law22_own_cn {v0 : Value} {W : World} {α : Type} {A : List HP} {r : α → Value} {B : α → List HP} (h : ∀ F, Ent W (A ++ F) (law22_own v0 noP fun v w => ∃ x, v = r x ∧ sat W (B x ++ F) w)) : Cn Tryd.prog 65 [v0] W A r B :=
  Cn.of (shape := law22_own v0) Tryd.call65 (fun h => law22_own_calls h) h
theorem law22_own_cnP {v0 : Value} {W : World} {α β : Type} {A : List HP} {r : α → Value} {B : α → List HP} {pc : β → List PanicEntry} {Bp : β → List HP} (h : ∀ F, Ent W (A ++ F) (law22_own v0 (fun ch w => ∃ y, ch = pc y ∧ sat W (Bp y ++ F) w) fun v w => ∃ x, v = r x ∧ sat W (B x ++ F) w)) : CnP Tryd.prog 65 [v0] W A r B pc Bp :=
  CnP.of (shape := law22_own v0) Tryd.call65 (fun h => law22_own_calls h) h

/-- law22_two -/
def law22_two (Kp : PK) (K : Value → WP) : WP :=
  opN Tryd.prog (sAlloc 132) Kp fun x0 =>
  opN Tryd.prog (sBuild 183 [(0, (.int .i64 1)), (1, (.int .i64 1))]) Kp fun x1 =>
  opN Tryd.prog (sBuild 183 [(0, (.int .i64 2)), (1, (.int .i64 1))]) Kp fun x2 =>
  opN Tryd.prog (sBuildSl 130 2 [(0, x1), (1, x2)]) Kp fun x3 =>
  opN Tryd.prog (sBuild 132 [(1, x3), (2, (.int .i64 10))]) Kp fun x4 =>
  opN Tryd.prog (sStore 132 x0 x4) Kp fun _ =>
  (stS Tryd.prog (sRes 132 x0) fun r0 => K r0)
def law22_two_an : Ann := { cuts := [], blks := [], loops := [], drs := [] }
theorem law22_two_eq (Kp : PK) (K : Value → WP) : cevF Tryd.prog law22_two_an Tryd.f66 [] Kp K = law22_two Kp K := by kernel_rfl
theorem law22_two_calls  {Kp : PK} {K : Value → WP} {w : World} (h : law22_two Kp K w) : Calls Tryd.prog 66 #[] w (after Kp K) :=
  calls_of_shape (calls_of_cev wide Tryd.func66 (an := law22_two_an) (args := []) (cast (congrFun (law22_two_eq Kp K) w).symm h))
theorem law22_two_cn  {W : World} {α : Type} {A : List HP} {r : α → Value} {B : α → List HP} (h : ∀ F, Ent W (A ++ F) (law22_two noP fun v w => ∃ x, v = r x ∧ sat W (B x ++ F) w)) : Cn Tryd.prog 66 [] W A r B :=
  Cn.of (shape := law22_two) Tryd.call66 (fun h => law22_two_calls h) h
theorem law22_two_cnP  {W : World} {α β : Type} {A : List HP} {r : α → Value} {B : α → List HP} {pc : β → List PanicEntry} {Bp : β → List HP} (h : ∀ F, Ent W (A ++ F) (law22_two (fun ch w => ∃ y, ch = pc y ∧ sat W (Bp y ++ F) w) fun v w => ∃ x, v = r x ∧ sat W (B x ++ F) w)) : CnP Tryd.prog 66 [] W A r B pc Bp :=
  CnP.of (shape := law22_two) Tryd.call66 (fun h => law22_two_calls h) h

/-- law22_num -/
def law22_num (v0 : Value) (Kp : PK) (K : Value → WP) : WP :=
  K v0
def law22_num_an : Ann := { cuts := [], blks := [], loops := [], drs := [] }
theorem law22_num_eq (v0 : Value) (Kp : PK) (K : Value → WP) : cevF Tryd.prog law22_num_an Tryd.f67 [v0] Kp K = law22_num v0 Kp K := by kernel_rfl
theorem law22_num_calls {v0 : Value} {Kp : PK} {K : Value → WP} {w : World} (h : law22_num v0 Kp K w) : Calls Tryd.prog 67 #[v0] w (after Kp K) :=
  calls_of_shape (calls_of_cev wide Tryd.func67 (an := law22_num_an) (args := [v0]) (cast (congrFun (law22_num_eq v0 Kp K) w).symm h))
theorem law22_num_cn {v0 : Value} {W : World} {α : Type} {A : List HP} {r : α → Value} {B : α → List HP} (h : ∀ F, Ent W (A ++ F) (law22_num v0 noP fun v w => ∃ x, v = r x ∧ sat W (B x ++ F) w)) : Cn Tryd.prog 67 [v0] W A r B :=
  Cn.of (shape := law22_num v0) Tryd.call67 (fun h => law22_num_calls h) h
theorem law22_num_cnP {v0 : Value} {W : World} {α β : Type} {A : List HP} {r : α → Value} {B : α → List HP} {pc : β → List PanicEntry} {Bp : β → List HP} (h : ∀ F, Ent W (A ++ F) (law22_num v0 (fun ch w => ∃ y, ch = pc y ∧ sat W (Bp y ++ F) w) fun v w => ∃ x, v = r x ∧ sat W (B x ++ F) w)) : CnP Tryd.prog 67 [v0] W A r B pc Bp :=
  CnP.of (shape := law22_num v0) Tryd.call67 (fun h => law22_num_calls h) h

/-- pool_Pool_Take -/
def pool_Pool_Take (v0 v1 : Value) (Kp : PK) (K : Value → WP) : WP :=
  opN Tryd.prog (sBox 123 v0) Kp fun x2 =>
  opN Tryd.prog (sBox 3 v1) Kp fun x3 =>
  opN Tryd.prog (sAlloc 135) Kp fun x4 =>
  opN Tryd.prog (sAlloc 4) Kp fun x5 =>
  opN Tryd.prog (sAlloc 23) Kp fun x6 =>
  opN Tryd.prog (sLoad 123 x2) Kp fun x11 =>
  opN Tryd.prog (sCall (fn 92) [x11]) Kp fun x12 =>
  condS x12
  (opN Tryd.prog (sBuild 135 []) Kp fun x13 =>
   opN Tryd.prog (sStore 135 x4 x13) Kp fun _ =>
   opN Tryd.prog (sStore 4 x5 (.bool false)) Kp fun _ =>
   opN Tryd.prog (sStore 23 x6 (.int .i64 1)) Kp fun _ =>
   (stS Tryd.prog (sRes 135 x4) fun r0 => (stS Tryd.prog (sRes 4 x5) fun r1 => (stS Tryd.prog (sRes 23 x6) fun r2 => K (.tuple #[r0, r1, r2])))))
  (opN Tryd.prog (sStore 23 x6 (.int .i64 3)) Kp fun _ =>
   opN Tryd.prog (sLoad 123 x2) Kp fun x14 =>
   opN Tryd.prog (sCall (fn 93) [x14]) Kp fun x15 =>
   rfS Tryd.prog x15 2 (fun u16 u17 B1 N1 J1r =>
    B1 (drS (stS Tryd.prog (sLoad 3 x3) fun x18 =>
      stD Tryd.prog (sNil u17) fun D3 x21 =>
      stD Tryd.prog (sFA 182 x21 3) fun D4 x22 =>
      stD Tryd.prog (sLoad 3 x22) fun D5 x23 =>
      opN Tryd.prog (sCall (fn 94) [x18]) noK fun x19 =>
      (fun w => D5 w ∧ (fun w => D4 w ∧ (fun w => D3 w ∧ (stS Tryd.prog (sBin .lss 3 x19 x23) fun x24 =>
          condS x24
          (N1)
          (opN Tryd.prog (sStore 23 x6 (.int .i64 63)) noK fun _ =>
           opN Tryd.prog (sLoad 123 x2) noK fun x25 =>
           opN Tryd.prog (sNil x25) noK fun x26 =>
           opN Tryd.prog (sFA 175 x26 4) noK fun x27 =>
           opN Tryd.prog (sLoad 3 x27) noK fun x28 =>
           opN Tryd.prog (sNil u17) noK fun x30 =>
           opN Tryd.prog (sFA 182 x30 1) noK fun x31 =>
           opN Tryd.prog (sLoad 180 x31) noK fun x32 =>
           opN Tryd.prog (sLen #[180] 3 [x32]) noK fun x33 =>
           cut1 (fun J1 =>
            opN Tryd.prog (sBin .gtr 3 x33 (.int .i64 0)) noK fun x36 =>
            condS x36
            (drS (stS Tryd.prog (sNil u17) fun x39 =>
              stS Tryd.prog (sFA 182 x39 1) fun x40 =>
              stS Tryd.prog (sLoad 180 x40) fun x41 =>
              stS Tryd.prog (sBin .sub 3 x33 (.int .i64 1)) fun x43 =>
              stS Tryd.prog (sIA 180 x41 x43) fun x44 =>
              stS Tryd.prog (sLoad 3 x44) fun x45 =>
              stS Tryd.prog (sNil u17) fun x47 =>
              stS Tryd.prog (sFA 182 x47 1) fun x48 =>
              stS Tryd.prog (sLoad 180 x48) fun x49 =>
              stS Tryd.prog (sBin .sub 3 x33 (.int .i64 1)) fun x51 =>
              stS Tryd.prog (sSl 180 x49 none (some x51) none) fun x52 =>
              stS Tryd.prog (sNil u17) fun x53 =>
              stS Tryd.prog (sFA 182 x53 1) fun x54 =>
              opN Tryd.prog (sStore 180 x54 x52) noK fun _ =>
              opN Tryd.prog (sLoad 123 x2) noK fun x55 =>
              opN Tryd.prog (sNil x55) noK fun x56 =>
              opN Tryd.prog (sFA 175 x56 2) noK fun x57 =>
              opN Tryd.prog (sLoad 172 x57) noK fun x58 =>
              opN Tryd.prog (sDel #[172, 3] 0 [x58, x45]) noK fun _ =>
              J1 x45))
            (drS (stS Tryd.prog (sNil u17) fun x62 =>
              stS Tryd.prog (sFA 182 x62 2) fun x63 =>
              stS Tryd.prog (sLoad 3 x63) fun x64 =>
              stS Tryd.prog (sNil u17) fun x66 =>
              stS Tryd.prog (sFA 182 x66 0) fun x67 =>
              stS Tryd.prog (sFA 177 x67 1) fun x68 =>
              stS Tryd.prog (sLoad 3 x68) fun x69 =>
              stS Tryd.prog (sBin .lss 3 x64 x69) fun x70 =>
              condS x70
              (opN Tryd.prog (sLoad 123 x2) noK fun x71 =>
               opN Tryd.prog (sNil x71) noK fun x72 =>
               opN Tryd.prog (sFA 175 x72 4) noK fun x73 =>
               opN Tryd.prog (sLoad 3 x73) noK fun x74 =>
               opN Tryd.prog (sBin .add 3 x74 (.int .i64 1)) noK fun x75 =>
               opN Tryd.prog (sNil x71) noK fun x76 =>
               opN Tryd.prog (sFA 175 x76 4) noK fun x77 =>
               opN Tryd.prog (sStore 3 x77 x75) noK fun _ =>
               J1 x28)
              (N1)))) fun _ z9 =>
           opN Tryd.prog (sNil u17) noK fun x79 =>
           opN Tryd.prog (sFA 182 x79 2) noK fun x80 =>
           opN Tryd.prog (sLoad 3 x80) noK fun x81 =>
           opN Tryd.prog (sBin .add 3 x81 (.int .i64 1)) noK fun x82 =>
           opN Tryd.prog (sNil u17) noK fun x83 =>
           opN Tryd.prog (sFA 182 x83 2) noK fun x84 =>
           opN Tryd.prog (sStore 3 x84 x82) noK fun _ =>
           opN Tryd.prog (sLoad 123 x2) noK fun x85 =>
           opN Tryd.prog (sNil x85) noK fun x86 =>
           opN Tryd.prog (sFA 175 x86 1) noK fun x87 =>
           opN Tryd.prog (sLoad 172 x87) noK fun x88 =>
           opN Tryd.prog (sMapSet 172 x88 z9 u17) noK fun _ =>
           drS (stS Tryd.prog (sLoad 123 x2) fun x91 =>
            stS Tryd.prog (sBin .add 3 u16 (.int .i64 1)) fun x93 =>
            stS Tryd.prog (sLoad 123 x2) fun x94 =>
            stS Tryd.prog (sNil x94) fun x95 =>
            stS Tryd.prog (sFA 175 x95 0) fun x96 =>
            stS Tryd.prog (sLoad 173 x96) fun x97 =>
            stS Tryd.prog (sLen #[173] 3 [x97]) fun x98 =>
            stS Tryd.prog (sBin .rem 3 x93 x98) fun x99 =>
            stS Tryd.prog (sNil x91) fun x100 =>
            stS Tryd.prog (sFA 175 x100 3) fun x101 =>
            opN Tryd.prog (sStore 3 x101 x99) noK fun _ =>
            opN Tryd.prog (sNil u17) noK fun x103 =>
            opN Tryd.prog (sFA 182 x103 0) noK fun x104 =>
            opN Tryd.prog (sFA 177 x104 0) noK fun x105 =>
            opN Tryd.prog (sLoad 3 x105) noK fun x106 =>
            opN Tryd.prog (sBuild 135 [(0, x106), (1, z9)]) noK fun x108 =>
            opN Tryd.prog (sEq .eql 3 (.tmp 109) (.const (.int .i64 0)) x33 (.int .i64 0)) noK fun x110 =>
            opN Tryd.prog (sStore 135 x4 x108) noK fun _ =>
            opN Tryd.prog (sStore 4 x5 x110) noK fun _ =>
            opN Tryd.prog (sStore 23 x6 (.int .i64 0)) noK fun _ =>
            J1r))) w) w) w)))) (fun d1 =>
    drS (stS Tryd.prog (sBuild 135 []) fun x111 =>
     stD Tryd.prog (sLoad 23 x6) fun D1 x112 =>
     opN Tryd.prog (sStore 135 x4 x111) (KpM [d1] Kp) fun _ =>
     (fun w => D1 w ∧ (opN Tryd.prog (sStore 4 x5 (.bool false)) (KpM [d1] Kp) fun _ =>
       (fun w => D1 w ∧ (opN Tryd.prog (sStore 23 x6 x112) (KpM [d1] Kp) fun _ =>
         (tkS d1 ((stS Tryd.prog (sRes 135 x4) fun r0 => (stS Tryd.prog (sRes 4 x5) fun r1 => (stS Tryd.prog (sRes 23 x6) fun r2 => K (.tuple #[r0, r1, r2]))))))) w)) w))) (fun d1 => (tkS d1 ((stS Tryd.prog (sRes 135 x4) fun r0 => (stS Tryd.prog (sRes 4 x5) fun r1 => (stS Tryd.prog (sRes 23 x6) fun r2 => K (.tuple #[r0, r1, r2]))))))) (fun d1 ch => (tkS d1 (Kp ch))))
def pool_Pool_Take_an : Ann := { cuts := [(16, [9])], blks := [], loops := [], drs := [(7, [(0, 1), (2, 2), (3, 3), (4, 3), (5, 3), (1, 0), (6, 1)]), (12, [(0, 1), (1, 1), (2, 1), (3, 1), (4, 1), (5, 1), (6, 1), (7, 1), (8, 1), (9, 1), (10, 1), (11, 1), (12, 1), (13, 1), (14, 1), (15, 1), (16, 1), (17, 1), (18, 1), (19, 0)]), (14, [(0, 1), (1, 1), (2, 1), (3, 1), (4, 1), (5, 1), (6, 1), (7, 1), (8, 1), (9, 1), (10, 1)]), (18, [(0, 1), (1, 1), (2, 1), (3, 1), (4, 1), (5, 1), (6, 1), (7, 1), (8, 1), (9, 1), (10, 1), (11, 0)]), (20, [(0, 1), (1, 3), (2, 0), (3, 0), (4, 0)])] }
theorem pool_Pool_Take_eq (v0 v1 : Value) (Kp : PK) (K : Value → WP) : cevFT Tryd.prog pool_Pool_Take_an Tryd.f68 [v0, v1] Kp K = pool_Pool_Take v0 v1 Kp K := by kernel_rfl
theorem pool_Pool_Take_calls {v0 v1 : Value} {Kp : PK} {K : Value → WP} {w : World} (h : pool_Pool_Take v0 v1 Kp K w) : Calls Tryd.prog 68 #[v0, v1] w (after Kp K) :=
  calls_of_shape (calls_of_cevT wide Tryd.func68 (an := pool_Pool_Take_an) (args := [v0, v1]) (cast (congrFun (pool_Pool_Take_eq v0 v1 Kp K) w).symm h))
theorem pool_Pool_Take_cn {v0 v1 : Value} {W : World} {α : Type} {A : List HP} {r : α → Value} {B : α → List HP} (h : ∀ F, Ent W (A ++ F) (pool_Pool_Take v0 v1 noP fun v w => ∃ x, v = r x ∧ sat W (B x ++ F) w)) : Cn Tryd.prog 68 [v0, v1] W A r B :=
  Cn.of (shape := pool_Pool_Take v0 v1) Tryd.call68 (fun h => pool_Pool_Take_calls h) h
theorem pool_Pool_Take_cnP {v0 v1 : Value} {W : World} {α β : Type} {A : List HP} {r : α → Value} {B : α → List HP} {pc : β → List PanicEntry} {Bp : β → List HP} (h : ∀ F, Ent W (A ++ F) (pool_Pool_Take v0 v1 (fun ch w => ∃ y, ch = pc y ∧ sat W (Bp y ++ F) w) fun v w => ∃ x, v = r x ∧ sat W (B x ++ F) w)) : CnP Tryd.prog 68 [v0, v1] W A r B pc Bp :=
  CnP.of (shape := pool_Pool_Take v0 v1) Tryd.call68 (fun h => pool_Pool_Take_calls h) h

/-- pool_Pool_Done -/
def pool_Pool_Done (v0 v1 v2 : Value) (Kp : PK) (K : Value → WP) : WP :=
  opN Tryd.prog (sCall (fn 92) [v0]) Kp fun x9 =>
  condS x9
  (K (.int .i64 1))
  (opN Tryd.prog (sNil v0) Kp fun x11 =>
   opN Tryd.prog (sFA 175 x11 1) Kp fun x12 =>
   opN Tryd.prog (sLoad 172 x12) Kp fun x13 =>
   opN Tryd.prog (sLook 172 x13 v1 false) Kp fun x15 =>
   opN Tryd.prog (sEq .eql 178 (.tmp 16) (.const (.pointer none)) x15 (.pointer none)) Kp fun x17 =>
   condS x17
   (K (.int .i64 3))
   (opN Tryd.prog (sNil v0) Kp fun x19 =>
    opN Tryd.prog (sFA 175 x19 1) Kp fun x20 =>
    opN Tryd.prog (sLoad 172 x20) Kp fun x21 =>
    opN Tryd.prog (sDel #[172, 3] 0 [x21, v1]) Kp fun _ =>
    opN Tryd.prog (sNil x15) Kp fun x24 =>
    opN Tryd.prog (sFA 182 x24 2) Kp fun x25 =>
    opN Tryd.prog (sLoad 3 x25) Kp fun x26 =>
    opN Tryd.prog (sBin .sub 3 x26 (.int .i64 1)) Kp fun x27 =>
    opN Tryd.prog (sNil x15) Kp fun x28 =>
    opN Tryd.prog (sFA 182 x28 2) Kp fun x29 =>
    opN Tryd.prog (sStore 3 x29 x27) Kp fun _ =>
    condS v2
    (opN Tryd.prog (sNil x15) Kp fun x33 =>
     opN Tryd.prog (sFA 182 x33 1) Kp fun x34 =>
     opN Tryd.prog (sLoad 180 x34) Kp fun x35 =>
     opN Tryd.prog (sBuildSl 180 1 [(0, v1)]) Kp fun x37 =>
     opN Tryd.prog (sApp #[180, 180] 180 [x35, x37]) Kp fun x38 =>
     opN Tryd.prog (sNil x15) Kp fun x39 =>
     opN Tryd.prog (sFA 182 x39 1) Kp fun x40 =>
     opN Tryd.prog (sStore 180 x40 x38) Kp fun _ =>
     opN Tryd.prog (sNil v0) Kp fun x42 =>
     opN Tryd.prog (sFA 175 x42 2) Kp fun x43 =>
     opN Tryd.prog (sLoad 172 x43) Kp fun x44 =>
     opN Tryd.prog (sMapSet 172 x44 v1 x15) Kp fun _ =>
     K (.int .i64 0))
    (K (.int .i64 0))))
def pool_Pool_Done_an : Ann := { cuts := [], blks := [], loops := [], drs := [] }
theorem pool_Pool_Done_eq (v0 v1 v2 : Value) (Kp : PK) (K : Value → WP) : cevF Tryd.prog pool_Pool_Done_an Tryd.f69 [v0, v1, v2] Kp K = pool_Pool_Done v0 v1 v2 Kp K := by kernel_rfl
theorem pool_Pool_Done_calls {v0 v1 v2 : Value} {Kp : PK} {K : Value → WP} {w : World} (h : pool_Pool_Done v0 v1 v2 Kp K w) : Calls Tryd.prog 69 #[v0, v1, v2] w (after Kp K) :=
  calls_of_shape (calls_of_cev wide Tryd.func69 (an := pool_Pool_Done_an) (args := [v0, v1, v2]) (cast (congrFun (pool_Pool_Done_eq v0 v1 v2 Kp K) w).symm h))
theorem pool_Pool_Done_cn {v0 v1 v2 : Value} {W : World} {α : Type} {A : List HP} {r : α → Value} {B : α → List HP} (h : ∀ F, Ent W (A ++ F) (pool_Pool_Done v0 v1 v2 noP fun v w => ∃ x, v = r x ∧ sat W (B x ++ F) w)) : Cn Tryd.prog 69 [v0, v1, v2] W A r B :=
  Cn.of (shape := pool_Pool_Done v0 v1 v2) Tryd.call69 (fun h => pool_Pool_Done_calls h) h
theorem pool_Pool_Done_cnP {v0 v1 v2 : Value} {W : World} {α β : Type} {A : List HP} {r : α → Value} {B : α → List HP} {pc : β → List PanicEntry} {Bp : β → List HP} (h : ∀ F, Ent W (A ++ F) (pool_Pool_Done v0 v1 v2 (fun ch w => ∃ y, ch = pc y ∧ sat W (Bp y ++ F) w) fun v w => ∃ x, v = r x ∧ sat W (B x ++ F) w)) : CnP Tryd.prog 69 [v0, v1, v2] W A r B pc Bp :=
  CnP.of (shape := pool_Pool_Done v0 v1 v2) Tryd.call69 (fun h => pool_Pool_Done_calls h) h

/-- fields_kind_fields_Span_elements -/
def fields_kind_fields_Span_elements (v0 v1 : Value) (Kp : PK) (K : Value → WP) : WP :=
  opN Tryd.prog (sBox 88 v0) Kp fun x2 =>
  opN Tryd.prog (sBox 9 v1) Kp fun x3 =>
  opN Tryd.prog (sMkF (.func 95) [] [x3, x2]) Kp fun x5 =>
  K x5
def fields_kind_fields_Span_elements_an : Ann := { cuts := [], blks := [], loops := [], drs := [] }
theorem fields_kind_fields_Span_elements_eq (v0 v1 : Value) (Kp : PK) (K : Value → WP) : cevF Tryd.prog fields_kind_fields_Span_elements_an Tryd.f70 [v0, v1] Kp K = fields_kind_fields_Span_elements v0 v1 Kp K := by kernel_rfl
theorem fields_kind_fields_Span_elements_calls {v0 v1 : Value} {Kp : PK} {K : Value → WP} {w : World} (h : fields_kind_fields_Span_elements v0 v1 Kp K w) : Calls Tryd.prog 70 #[v0, v1] w (after Kp K) :=
  calls_of_shape (calls_of_cev wide Tryd.func70 (an := fields_kind_fields_Span_elements_an) (args := [v0, v1]) (cast (congrFun (fields_kind_fields_Span_elements_eq v0 v1 Kp K) w).symm h))
theorem fields_kind_fields_Span_elements_cn {v0 v1 : Value} {W : World} {α : Type} {A : List HP} {r : α → Value} {B : α → List HP} (h : ∀ F, Ent W (A ++ F) (fields_kind_fields_Span_elements v0 v1 noP fun v w => ∃ x, v = r x ∧ sat W (B x ++ F) w)) : Cn Tryd.prog 70 [v0, v1] W A r B :=
  Cn.of (shape := fields_kind_fields_Span_elements v0 v1) Tryd.call70 (fun h => fields_kind_fields_Span_elements_calls h) h
theorem fields_kind_fields_Span_elements_cnP {v0 v1 : Value} {W : World} {α β : Type} {A : List HP} {r : α → Value} {B : α → List HP} {pc : β → List PanicEntry} {Bp : β → List HP} (h : ∀ F, Ent W (A ++ F) (fields_kind_fields_Span_elements v0 v1 (fun ch w => ∃ y, ch = pc y ∧ sat W (Bp y ++ F) w) fun v w => ∃ x, v = r x ∧ sat W (B x ++ F) w)) : CnP Tryd.prog 70 [v0, v1] W A r B pc Bp :=
  CnP.of (shape := fields_kind_fields_Span_elements v0 v1) Tryd.call70 (fun h => fields_kind_fields_Span_elements_calls h) h

/-- strings_Cut -/
def strings_Cut (v0 v1 : Value) (Kp : PK) (K : Value → WP) : WP :=
  opN Tryd.prog (sCall (fn 96) [v0, v1]) Kp fun x9 =>
  opN Tryd.prog (sExt x9 0) Kp fun x10 =>
  opN Tryd.prog (sExt x9 1) Kp fun x11 =>
  opN Tryd.prog (sExt x9 2) Kp fun x12 =>
  K (.tuple #[x10, x11, x12])
def strings_Cut_an : Ann := { cuts := [], blks := [], loops := [], drs := [] }
theorem strings_Cut_eq (v0 v1 : Value) (Kp : PK) (K : Value → WP) : cevF Tryd.prog strings_Cut_an Tryd.f71 [v0, v1] Kp K = strings_Cut v0 v1 Kp K := by kernel_rfl
theorem strings_Cut_calls {v0 v1 : Value} {Kp : PK} {K : Value → WP} {w : World} (h : strings_Cut v0 v1 Kp K w) : Calls Tryd.prog 71 #[v0, v1] w (after Kp K) :=
  calls_of_shape (calls_of_cev wide Tryd.func71 (an := strings_Cut_an) (args := [v0, v1]) (cast (congrFun (strings_Cut_eq v0 v1 Kp K) w).symm h))
theorem strings_Cut_cn {v0 v1 : Value} {W : World} {α : Type} {A : List HP} {r : α → Value} {B : α → List HP} (h : ∀ F, Ent W (A ++ F) (strings_Cut v0 v1 noP fun v w => ∃ x, v = r x ∧ sat W (B x ++ F) w)) : Cn Tryd.prog 71 [v0, v1] W A r B :=
  Cn.of (shape := strings_Cut v0 v1) Tryd.call71 (fun h => strings_Cut_calls h) h
theorem strings_Cut_cnP {v0 v1 : Value} {W : World} {α β : Type} {A : List HP} {r : α → Value} {B : α → List HP} {pc : β → List PanicEntry} {Bp : β → List HP} (h : ∀ F, Ent W (A ++ F) (strings_Cut v0 v1 (fun ch w => ∃ y, ch = pc y ∧ sat W (Bp y ++ F) w) fun v w => ∃ x, v = r x ∧ sat W (B x ++ F) w)) : CnP Tryd.prog 71 [v0, v1] W A r B pc Bp :=
  CnP.of (shape := strings_Cut v0 v1) Tryd.call71 (fun h => strings_Cut_calls h) h

/-- ascii_Decimal -/
def ascii_Decimal (v0 : Value) (Kp : PK) (K : Value → WP) : WP :=
  opN Tryd.prog (sCall (fn 97) [v0, (.int .i64 10), (.int .i64 1000000000000000000)]) Kp fun x5 =>
  opN Tryd.prog (sExt x5 0) Kp fun x6 =>
  opN Tryd.prog (sExt x5 1) Kp fun x7 =>
  K (.tuple #[x6, x7])
def ascii_Decimal_an : Ann := { cuts := [], blks := [], loops := [], drs := [] }
theorem ascii_Decimal_eq (v0 : Value) (Kp : PK) (K : Value → WP) : cevF Tryd.prog ascii_Decimal_an Tryd.f72 [v0] Kp K = ascii_Decimal v0 Kp K := by kernel_rfl
theorem ascii_Decimal_calls {v0 : Value} {Kp : PK} {K : Value → WP} {w : World} (h : ascii_Decimal v0 Kp K w) : Calls Tryd.prog 72 #[v0] w (after Kp K) :=
  calls_of_shape (calls_of_cev wide Tryd.func72 (an := ascii_Decimal_an) (args := [v0]) (cast (congrFun (ascii_Decimal_eq v0 Kp K) w).symm h))
theorem ascii_Decimal_cn {v0 : Value} {W : World} {α : Type} {A : List HP} {r : α → Value} {B : α → List HP} (h : ∀ F, Ent W (A ++ F) (ascii_Decimal v0 noP fun v w => ∃ x, v = r x ∧ sat W (B x ++ F) w)) : Cn Tryd.prog 72 [v0] W A r B :=
  Cn.of (shape := ascii_Decimal v0) Tryd.call72 (fun h => ascii_Decimal_calls h) h
theorem ascii_Decimal_cnP {v0 : Value} {W : World} {α β : Type} {A : List HP} {r : α → Value} {B : α → List HP} {pc : β → List PanicEntry} {Bp : β → List HP} (h : ∀ F, Ent W (A ++ F) (ascii_Decimal v0 (fun ch w => ∃ y, ch = pc y ∧ sat W (Bp y ++ F) w) fun v w => ∃ x, v = r x ∧ sat W (B x ++ F) w)) : CnP Tryd.prog 72 [v0] W A r B pc Bp :=
  CnP.of (shape := ascii_Decimal v0) Tryd.call72 (fun h => ascii_Decimal_calls h) h

/-- ref01_Decimal -/
def ref01_Decimal (v0 : Value) (Kp : PK) (K : Value → WP) : WP :=
  opN Tryd.prog (sCall (fn 98) [v0, (.int .i64 10), (.int .i64 1000000000000000000)]) Kp fun x5 =>
  opN Tryd.prog (sExt x5 0) Kp fun x6 =>
  opN Tryd.prog (sExt x5 1) Kp fun x7 =>
  K (.tuple #[x6, x7])
def ref01_Decimal_an : Ann := { cuts := [], blks := [], loops := [], drs := [] }
theorem ref01_Decimal_eq (v0 : Value) (Kp : PK) (K : Value → WP) : cevF Tryd.prog ref01_Decimal_an Tryd.f73 [v0] Kp K = ref01_Decimal v0 Kp K := by kernel_rfl
theorem ref01_Decimal_calls {v0 : Value} {Kp : PK} {K : Value → WP} {w : World} (h : ref01_Decimal v0 Kp K w) : Calls Tryd.prog 73 #[v0] w (after Kp K) :=
  calls_of_shape (calls_of_cev wide Tryd.func73 (an := ref01_Decimal_an) (args := [v0]) (cast (congrFun (ref01_Decimal_eq v0 Kp K) w).symm h))
theorem ref01_Decimal_cn {v0 : Value} {W : World} {α : Type} {A : List HP} {r : α → Value} {B : α → List HP} (h : ∀ F, Ent W (A ++ F) (ref01_Decimal v0 noP fun v w => ∃ x, v = r x ∧ sat W (B x ++ F) w)) : Cn Tryd.prog 73 [v0] W A r B :=
  Cn.of (shape := ref01_Decimal v0) Tryd.call73 (fun h => ref01_Decimal_calls h) h
theorem ref01_Decimal_cnP {v0 : Value} {W : World} {α β : Type} {A : List HP} {r : α → Value} {B : α → List HP} {pc : β → List PanicEntry} {Bp : β → List HP} (h : ∀ F, Ent W (A ++ F) (ref01_Decimal v0 (fun ch w => ∃ y, ch = pc y ∧ sat W (Bp y ++ F) w) fun v w => ∃ x, v = r x ∧ sat W (B x ++ F) w)) : CnP Tryd.prog 73 [v0] W A r B pc Bp :=
  CnP.of (shape := ref01_Decimal v0) Tryd.call73 (fun h => ref01_Decimal_calls h) h

/-- fields_kind_string_elements -/
def fields_kind_string_elements (v0 v1 : Value) (Kp : PK) (K : Value → WP) : WP :=
  opN Tryd.prog (sBox 96 v0) Kp fun x2 =>
  opN Tryd.prog (sBox 9 v1) Kp fun x3 =>
  opN Tryd.prog (sMkF (.func 99) [] [x3, x2]) Kp fun x5 =>
  K x5
def fields_kind_string_elements_an : Ann := { cuts := [], blks := [], loops := [], drs := [] }
theorem fields_kind_string_elements_eq (v0 v1 : Value) (Kp : PK) (K : Value → WP) : cevF Tryd.prog fields_kind_string_elements_an Tryd.f74 [v0, v1] Kp K = fields_kind_string_elements v0 v1 Kp K := by kernel_rfl
theorem fields_kind_string_elements_calls {v0 v1 : Value} {Kp : PK} {K : Value → WP} {w : World} (h : fields_kind_string_elements v0 v1 Kp K w) : Calls Tryd.prog 74 #[v0, v1] w (after Kp K) :=
  calls_of_shape (calls_of_cev wide Tryd.func74 (an := fields_kind_string_elements_an) (args := [v0, v1]) (cast (congrFun (fields_kind_string_elements_eq v0 v1 Kp K) w).symm h))
theorem fields_kind_string_elements_cn {v0 v1 : Value} {W : World} {α : Type} {A : List HP} {r : α → Value} {B : α → List HP} (h : ∀ F, Ent W (A ++ F) (fields_kind_string_elements v0 v1 noP fun v w => ∃ x, v = r x ∧ sat W (B x ++ F) w)) : Cn Tryd.prog 74 [v0, v1] W A r B :=
  Cn.of (shape := fields_kind_string_elements v0 v1) Tryd.call74 (fun h => fields_kind_string_elements_calls h) h
theorem fields_kind_string_elements_cnP {v0 v1 : Value} {W : World} {α β : Type} {A : List HP} {r : α → Value} {B : α → List HP} {pc : β → List PanicEntry} {Bp : β → List HP} (h : ∀ F, Ent W (A ++ F) (fields_kind_string_elements v0 v1 (fun ch w => ∃ y, ch = pc y ∧ sat W (Bp y ++ F) w) fun v w => ∃ x, v = r x ∧ sat W (B x ++ F) w)) : CnP Tryd.prog 74 [v0, v1] W A r B pc Bp :=
  CnP.of (shape := fields_kind_string_elements v0 v1) Tryd.call74 (fun h => fields_kind_string_elements_calls h) h

/-- ascii_classes -/
def ascii_classes (Kp : PK) (K : Value → WP) : WP :=
  opN Tryd.prog (sAlloc 153) Kp fun x0 =>
  opN Tryd.prog (sAlloc 153) Kp fun x1 =>
  loop1 (fun I1 m1 _ y4 =>
   opN Tryd.prog (sBin .lss 3 y4 (.int .i64 256)) Kp fun x5 =>
   condS x5
   (opN Tryd.prog (sBin .geq 3 y4 (.int .i64 97)) Kp fun x8 =>
    gdK x8 true (fun k => k y4) fun x10 =>
    gdK x8 true (opN Tryd.prog (sBin .leq 3 x10 (.int .i64 122)) Kp) fun x11 =>
    opN Tryd.prog (sPick x8 x11 (.bool false)) Kp fun x12 =>
    gdK x12 false (fun k => k y4) fun x14 =>
    gdK x12 false (opN Tryd.prog (sBin .geq 3 x14 (.int .i64 65)) Kp) fun x15 =>
    gdK x12 false (fun k => k x15) fun x16 =>
    gdK x16 true (fun k => k y4) fun x17 =>
    gdK x16 true (opN Tryd.prog (sBin .leq 3 x17 (.int .i64 90)) Kp) fun x18 =>
    gdK x12 false (opN Tryd.prog (sPick x16 x18 (.bool false)) Kp) fun x19 =>
    opN Tryd.prog (sPick x12 (.bool true) x19) Kp fun x20 =>
    gdK x20 false (fun k => k y4) fun x22 =>
    gdK x20 false (opN Tryd.prog (sBin .geq 3 x22 (.int .i64 48)) Kp) fun x23 =>
    gdK x20 false (fun k => k x23) fun x24 =>
    gdK x24 true (fun k => k y4) fun x25 =>
    gdK x24 true (opN Tryd.prog (sBin .leq 3 x25 (.int .i64 57)) Kp) fun x26 =>
    gdK x20 false (opN Tryd.prog (sPick x24 x26 (.bool false)) Kp) fun x27 =>
    opN Tryd.prog (sPick x20 (.bool true) x27) Kp fun x28 =>
    cut0 (fun J1 =>
     gdK x28 false (fun k => k y4) fun x31 =>
     gdK x28 false (opN Tryd.prog (sBin .gtr 3 x31 (.int .i64 32)) Kp) fun x32 =>
     gdK x28 false (fun k => k x32) fun x33 =>
     gdK x33 true (fun k => k y4) fun x34 =>
     gdK x33 true (opN Tryd.prog (sBin .lss 3 x34 (.int .i64 127)) Kp) fun x35 =>
     gdK x28 false (opN Tryd.prog (sPick x33 x35 (.bool false)) Kp) fun x36 =>
     gdK x28 false (fun k => k x36) fun x37 =>
     gdK x37 true (fun k => k y4) fun x38 =>
     gdK x37 true (opN Tryd.prog (sConv 3 5 x38) Kp) fun x39 =>
     gdK x37 true (opN Tryd.prog (sCall (fn 100) [(.string ⟨#[33, 35, 36, 37, 38, 39, 42, 43, 45, 46, 94, 95, 96, 124, 126]⟩), x39]) Kp) fun x40 =>
     gdK x37 true (opN Tryd.prog (sBin .geq 3 x40 (.int .i64 0)) Kp) fun x41 =>
     gdK x28 false (opN Tryd.prog (sPick x37 x41 (.bool false)) Kp) fun x42 =>
     opN Tryd.prog (sPick x28 (.bool true) x42) Kp fun x43 =>
     condS x43
     (opN Tryd.prog (sIA 153 x1 y4) Kp fun x45 =>
      opN Tryd.prog (sLoad 3 x45) Kp fun x46 =>
      opN Tryd.prog (sBin .or 3 x46 (.int .i64 1)) Kp fun x47 =>
      opN Tryd.prog (sIA 153 x1 y4) Kp fun x48 =>
      opN Tryd.prog (sStore 3 x48 x47) Kp fun _ =>
      J1)
     (J1)) fun _ =>
    cut0 (fun J2 =>
     opN Tryd.prog (sEq .eql 3 (.tmp 49) (.const (.int .i64 9)) y4 (.int .i64 9)) Kp fun x50 =>
     gdK x50 false (fun k => k y4) fun x52 =>
     gdK x50 false (opN Tryd.prog (sBin .geq 3 x52 (.int .i64 32)) Kp) fun x53 =>
     gdK x50 false (fun k => k x53) fun x54 =>
     gdK x54 true (fun k => k y4) fun x55 =>
     gdK x54 true (opN Tryd.prog (sEq .neq 3 (.tmp 55) (.const (.int .i64 127)) x55 (.int .i64 127)) Kp) fun x56 =>
     gdK x50 false (opN Tryd.prog (sPick x54 x56 (.bool false)) Kp) fun x57 =>
     opN Tryd.prog (sPick x50 (.bool true) x57) Kp fun x58 =>
     condS x58
     (opN Tryd.prog (sIA 153 x1 y4) Kp fun x60 =>
      opN Tryd.prog (sLoad 3 x60) Kp fun x61 =>
      opN Tryd.prog (sBin .or 3 x61 (.int .i64 2)) Kp fun x62 =>
      opN Tryd.prog (sIA 153 x1 y4) Kp fun x63 =>
      opN Tryd.prog (sStore 3 x63 x62) Kp fun _ =>
      J2)
     (J2)) fun _ =>
    opN Tryd.prog (sBin .geq 3 y4 (.int .i64 65)) Kp fun x65 =>
    gdK x65 true (fun k => k y4) fun x67 =>
    gdK x65 true (opN Tryd.prog (sBin .leq 3 x67 (.int .i64 90)) Kp) fun x68 =>
    opN Tryd.prog (sPick x65 x68 (.bool false)) Kp fun x69 =>
    condS x69
    (opN Tryd.prog (sIA 153 x1 y4) Kp fun x71 =>
     opN Tryd.prog (sLoad 3 x71) Kp fun x72 =>
     opN Tryd.prog (sBin .or 3 x72 (.int .i64 4)) Kp fun x73 =>
     opN Tryd.prog (sIA 153 x1 y4) Kp fun x74 =>
     opN Tryd.prog (sStore 3 x74 x73) Kp fun _ =>
     opN Tryd.prog (sBin .add 3 y4 (.int .i64 1)) Kp fun x75 =>
     next1 I1 m1 x75)
    (opN Tryd.prog (sBin .add 3 y4 (.int .i64 1)) Kp fun x75 =>
     next1 I1 m1 x75))
   (opN Tryd.prog (sLoad 153 x1) Kp fun x76 =>
    opN Tryd.prog (sStore 153 x0 x76) Kp fun _ =>
    (stS Tryd.prog (sRes 153 x0) fun r0 => K r0))) (.int .i64 0)
def ascii_classes_an : Ann := { cuts := [(8, []), (10, [])], blks := [], loops := [(3, [4])], drs := [] }
theorem ascii_classes_eq (Kp : PK) (K : Value → WP) : cevF Tryd.prog ascii_classes_an Tryd.f75 [] Kp K = ascii_classes Kp K := by kernel_rfl
theorem ascii_classes_calls  {Kp : PK} {K : Value → WP} {w : World} (h : ascii_classes Kp K w) : Calls Tryd.prog 75 #[] w (after Kp K) :=
  calls_of_shape (calls_of_cev wide Tryd.func75 (an := ascii_classes_an) (args := []) (cast (congrFun (ascii_classes_eq Kp K) w).symm h))
theorem ascii_classes_cn  {W : World} {α : Type} {A : List HP} {r : α → Value} {B : α → List HP} (h : ∀ F, Ent W (A ++ F) (ascii_classes noP fun v w => ∃ x, v = r x ∧ sat W (B x ++ F) w)) : Cn Tryd.prog 75 [] W A r B :=
  Cn.of (shape := ascii_classes) Tryd.call75 (fun h => ascii_classes_calls h) h
theorem ascii_classes_cnP  {W : World} {α β : Type} {A : List HP} {r : α → Value} {B : α → List HP} {pc : β → List PanicEntry} {Bp : β → List HP} (h : ∀ F, Ent W (A ++ F) (ascii_classes (fun ch w => ∃ y, ch = pc y ∧ sat W (Bp y ++ F) w) fun v w => ∃ x, v = r x ∧ sat W (B x ++ F) w)) : CnP Tryd.prog 75 [] W A r B pc Bp :=
  CnP.of (shape := ascii_classes) Tryd.call75 (fun h => ascii_classes_calls h) h

/-- ascii_all -/
def ascii_all (v0 v1 : Value) (Kp : PK) (K : Value → WP) : WP :=
  opN Tryd.prog (sCall (fn 75) []) Kp fun x7 =>
  opN Tryd.prog (sAlloc 153) Kp fun x5 =>
  opN Tryd.prog (sStore 153 x5 x7) Kp fun _ =>
  opN Tryd.prog (sLen #[9] 3 [v0]) Kp fun x9 =>
  loop1 (fun I1 m1 _ y10 =>
   opN Tryd.prog (sBin .lss 3 y10 x9) Kp fun x11 =>
   condS x11
   (opN Tryd.prog (sIx 9 v0 y10) Kp fun x15 =>
    opN Tryd.prog (sIA 153 x5 x15) Kp fun x16 =>
    opN Tryd.prog (sLoad 3 x16) Kp fun x17 =>
    opN Tryd.prog (sBin .and 3 x17 v1) Kp fun x19 =>
    opN Tryd.prog (sEq .eql 3 (.tmp 19) (.const (.int .i64 0)) x19 (.int .i64 0)) Kp fun x20 =>
    condS x20
    (K (.bool false))
    (opN Tryd.prog (sBin .add 3 y10 (.int .i64 1)) Kp fun x21 =>
     next1 I1 m1 x21))
   (K (.bool true))) (.int .i64 0)
def ascii_all_an : Ann := { cuts := [], blks := [], loops := [(3, [10])], drs := [] }
theorem ascii_all_eq (v0 v1 : Value) (Kp : PK) (K : Value → WP) : cevF Tryd.prog ascii_all_an Tryd.f76 [v0, v1] Kp K = ascii_all v0 v1 Kp K := by kernel_rfl
theorem ascii_all_calls {v0 v1 : Value} {Kp : PK} {K : Value → WP} {w : World} (h : ascii_all v0 v1 Kp K w) : Calls Tryd.prog 76 #[v0, v1] w (after Kp K) :=
  calls_of_shape (calls_of_cev wide Tryd.func76 (an := ascii_all_an) (args := [v0, v1]) (cast (congrFun (ascii_all_eq v0 v1 Kp K) w).symm h))
theorem ascii_all_cn {v0 v1 : Value} {W : World} {α : Type} {A : List HP} {r : α → Value} {B : α → List HP} (h : ∀ F, Ent W (A ++ F) (ascii_all v0 v1 noP fun v w => ∃ x, v = r x ∧ sat W (B x ++ F) w)) : Cn Tryd.prog 76 [v0, v1] W A r B :=
  Cn.of (shape := ascii_all v0 v1) Tryd.call76 (fun h => ascii_all_calls h) h
theorem ascii_all_cnP {v0 v1 : Value} {W : World} {α β : Type} {A : List HP} {r : α → Value} {B : α → List HP} {pc : β → List PanicEntry} {Bp : β → List HP} (h : ∀ F, Ent W (A ++ F) (ascii_all v0 v1 (fun ch w => ∃ y, ch = pc y ∧ sat W (Bp y ++ F) w) fun v w => ∃ x, v = r x ∧ sat W (B x ++ F) w)) : CnP Tryd.prog 76 [v0, v1] W A r B pc Bp :=
  CnP.of (shape := ascii_all v0 v1) Tryd.call76 (fun h => ascii_all_calls h) h

/-- ref01_letter -/
def ref01_letter (v0 : Value) (Kp : PK) (K : Value → WP) : WP :=
  opN Tryd.prog (sBin .geq 5 v0 (.int .u8 97)) Kp fun x4 =>
  gdK x4 true (fun k => k v0) fun x6 =>
  gdK x4 true (opN Tryd.prog (sBin .leq 5 x6 (.int .u8 122)) Kp) fun x7 =>
  opN Tryd.prog (sPick x4 x7 (.bool false)) Kp fun x8 =>
  gdK x8 false (fun k => k v0) fun x10 =>
  gdK x8 false (opN Tryd.prog (sBin .geq 5 x10 (.int .u8 65)) Kp) fun x11 =>
  gdK x8 false (fun k => k x11) fun x12 =>
  gdK x12 true (fun k => k v0) fun x13 =>
  gdK x12 true (opN Tryd.prog (sBin .leq 5 x13 (.int .u8 90)) Kp) fun x14 =>
  gdK x8 false (opN Tryd.prog (sPick x12 x14 (.bool false)) Kp) fun x15 =>
  opN Tryd.prog (sPick x8 (.bool true) x15) Kp fun x16 =>
  gdK x16 false (fun k => k v0) fun x18 =>
  gdK x16 false (opN Tryd.prog (sBin .geq 5 x18 (.int .u8 48)) Kp) fun x19 =>
  gdK x16 false (fun k => k x19) fun x20 =>
  gdK x20 true (fun k => k v0) fun x21 =>
  gdK x20 true (opN Tryd.prog (sBin .leq 5 x21 (.int .u8 57)) Kp) fun x22 =>
  gdK x16 false (opN Tryd.prog (sPick x20 x22 (.bool false)) Kp) fun x23 =>
  opN Tryd.prog (sPick x16 (.bool true) x23) Kp fun x24 =>
  K x24
def ref01_letter_an : Ann := { cuts := [], blks := [], loops := [], drs := [] }
theorem ref01_letter_eq (v0 : Value) (Kp : PK) (K : Value → WP) : cevF Tryd.prog ref01_letter_an Tryd.f77 [v0] Kp K = ref01_letter v0 Kp K := by kernel_rfl
theorem ref01_letter_calls {v0 : Value} {Kp : PK} {K : Value → WP} {w : World} (h : ref01_letter v0 Kp K w) : Calls Tryd.prog 77 #[v0] w (after Kp K) :=
  calls_of_shape (calls_of_cev wide Tryd.func77 (an := ref01_letter_an) (args := [v0]) (cast (congrFun (ref01_letter_eq v0 Kp K) w).symm h))
theorem ref01_letter_cn {v0 : Value} {W : World} {α : Type} {A : List HP} {r : α → Value} {B : α → List HP} (h : ∀ F, Ent W (A ++ F) (ref01_letter v0 noP fun v w => ∃ x, v = r x ∧ sat W (B x ++ F) w)) : Cn Tryd.prog 77 [v0] W A r B :=
  Cn.of (shape := ref01_letter v0) Tryd.call77 (fun h => ref01_letter_calls h) h
theorem ref01_letter_cnP {v0 : Value} {W : World} {α β : Type} {A : List HP} {r : α → Value} {B : α → List HP} {pc : β → List PanicEntry} {Bp : β → List HP} (h : ∀ F, Ent W (A ++ F) (ref01_letter v0 (fun ch w => ∃ y, ch = pc y ∧ sat W (Bp y ++ F) w) fun v w => ∃ x, v = r x ∧ sat W (B x ++ F) w)) : CnP Tryd.prog 77 [v0] W A r B pc Bp :=
  CnP.of (shape := ref01_letter v0) Tryd.call77 (fun h => ref01_letter_calls h) h

/-- fields_kind_fields_Choice_elements -/
def fields_kind_fields_Choice_elements (v0 v1 : Value) (Kp : PK) (K : Value → WP) : WP :=
  opN Tryd.prog (sBox 100 v0) Kp fun x2 =>
  opN Tryd.prog (sBox 9 v1) Kp fun x3 =>
  opN Tryd.prog (sMkF (.func 101) [] [x3, x2]) Kp fun x5 =>
  K x5
def fields_kind_fields_Choice_elements_an : Ann := { cuts := [], blks := [], loops := [], drs := [] }
theorem fields_kind_fields_Choice_elements_eq (v0 v1 : Value) (Kp : PK) (K : Value → WP) : cevF Tryd.prog fields_kind_fields_Choice_elements_an Tryd.f78 [v0, v1] Kp K = fields_kind_fields_Choice_elements v0 v1 Kp K := by kernel_rfl
theorem fields_kind_fields_Choice_elements_calls {v0 v1 : Value} {Kp : PK} {K : Value → WP} {w : World} (h : fields_kind_fields_Choice_elements v0 v1 Kp K w) : Calls Tryd.prog 78 #[v0, v1] w (after Kp K) :=
  calls_of_shape (calls_of_cev wide Tryd.func78 (an := fields_kind_fields_Choice_elements_an) (args := [v0, v1]) (cast (congrFun (fields_kind_fields_Choice_elements_eq v0 v1 Kp K) w).symm h))
theorem fields_kind_fields_Choice_elements_cn {v0 v1 : Value} {W : World} {α : Type} {A : List HP} {r : α → Value} {B : α → List HP} (h : ∀ F, Ent W (A ++ F) (fields_kind_fields_Choice_elements v0 v1 noP fun v w => ∃ x, v = r x ∧ sat W (B x ++ F) w)) : Cn Tryd.prog 78 [v0, v1] W A r B :=
  Cn.of (shape := fields_kind_fields_Choice_elements v0 v1) Tryd.call78 (fun h => fields_kind_fields_Choice_elements_calls h) h
theorem fields_kind_fields_Choice_elements_cnP {v0 v1 : Value} {W : World} {α β : Type} {A : List HP} {r : α → Value} {B : α → List HP} {pc : β → List PanicEntry} {Bp : β → List HP} (h : ∀ F, Ent W (A ++ F) (fields_kind_fields_Choice_elements v0 v1 (fun ch w => ∃ y, ch = pc y ∧ sat W (Bp y ++ F) w) fun v w => ∃ x, v = r x ∧ sat W (B x ++ F) w)) : CnP Tryd.prog 78 [v0, v1] W A r B pc Bp :=
  CnP.of (shape := fields_kind_fields_Choice_elements v0 v1) Tryd.call78 (fun h => fields_kind_fields_Choice_elements_calls h) h

/-- fields_weight -/
def fields_weight (v0 : Value) (Kp : PK) (K : Value → WP) : WP :=
  opN Tryd.prog (sCall (fn 71) [v0, (.string ⟨#[46]⟩)]) Kp fun x11 =>
  opN Tryd.prog (sExt x11 0) Kp fun x12 =>
  opN Tryd.prog (sExt x11 1) Kp fun x13 =>
  opN Tryd.prog (sExt x11 2) Kp fun x14 =>
  opN Tryd.prog (sEq .neq 9 (.tmp 15) (.const (.string ⟨#[48]⟩)) x12 (.string ⟨#[48]⟩)) Kp fun x16 =>
  gdK x16 true (fun k => k x12) fun x18 =>
  gdK x16 true (opN Tryd.prog (sEq .neq 9 (.tmp 18) (.const (.string ⟨#[49]⟩)) x18 (.string ⟨#[49]⟩)) Kp) fun x19 =>
  opN Tryd.prog (sPick x16 x19 (.bool false)) Kp fun x20 =>
  gdK x20 false (fun k => k x13) fun x22 =>
  gdK x20 false (opN Tryd.prog (sLen #[9] 3 [x22]) Kp) fun x23 =>
  gdK x20 false (opN Tryd.prog (sBin .gtr 3 x23 (.int .i64 3)) Kp) fun x24 =>
  opN Tryd.prog (sPick x20 (.bool true) x24) Kp fun x25 =>
  condS x25
  (K (.tuple #[(.int .i64 0), (.bool false)]))
  (opN Tryd.prog (sBin .add 9 x13 (.string ⟨#[48, 48, 48]⟩)) Kp fun x29 =>
   opN Tryd.prog (sSl 9 x29 none (some (.int .i64 3)) none) Kp fun x30 =>
   opN Tryd.prog (sBin .add 9 x12 x30) Kp fun x31 =>
   opN Tryd.prog (sCall (fn 72) [x31]) Kp fun x32 =>
   opN Tryd.prog (sExt x32 0) Kp fun x33 =>
   opN Tryd.prog (sExt x32 1) Kp fun x34 =>
   opN Tryd.prog (sEq .eql 23 (.tmp 36) (.const (.int .i64 0)) x34 (.int .i64 0)) Kp fun x37 =>
   gdK x37 true (fun k => k x33) fun x39 =>
   gdK x37 true (opN Tryd.prog (sBin .leq 3 x39 (.int .i64 1000)) Kp) fun x40 =>
   opN Tryd.prog (sPick x37 x40 (.bool false)) Kp fun x41 =>
   K (.tuple #[x33, x41]))
def fields_weight_an : Ann := { cuts := [], blks := [], loops := [], drs := [] }
theorem fields_weight_eq (v0 : Value) (Kp : PK) (K : Value → WP) : cevF Tryd.prog fields_weight_an Tryd.f79 [v0] Kp K = fields_weight v0 Kp K := by kernel_rfl
theorem fields_weight_calls {v0 : Value} {Kp : PK} {K : Value → WP} {w : World} (h : fields_weight v0 Kp K w) : Calls Tryd.prog 79 #[v0] w (after Kp K) :=
  calls_of_shape (calls_of_cev wide Tryd.func79 (an := fields_weight_an) (args := [v0]) (cast (congrFun (fields_weight_eq v0 Kp K) w).symm h))
theorem fields_weight_cn {v0 : Value} {W : World} {α : Type} {A : List HP} {r : α → Value} {B : α → List HP} (h : ∀ F, Ent W (A ++ F) (fields_weight v0 noP fun v w => ∃ x, v = r x ∧ sat W (B x ++ F) w)) : Cn Tryd.prog 79 [v0] W A r B :=
  Cn.of (shape := fields_weight v0) Tryd.call79 (fun h => fields_weight_calls h) h
theorem fields_weight_cnP {v0 : Value} {W : World} {α β : Type} {A : List HP} {r : α → Value} {B : α → List HP} {pc : β → List PanicEntry} {Bp : β → List HP} (h : ∀ F, Ent W (A ++ F) (fields_weight v0 (fun ch w => ∃ y, ch = pc y ∧ sat W (Bp y ++ F) w) fun v w => ∃ x, v = r x ∧ sat W (B x ++ F) w)) : CnP Tryd.prog 79 [v0] W A r B pc Bp :=
  CnP.of (shape := fields_weight v0) Tryd.call79 (fun h => fields_weight_calls h) h

end Go.Proofs.YtcigoifhcfbcdaaDoor.S
