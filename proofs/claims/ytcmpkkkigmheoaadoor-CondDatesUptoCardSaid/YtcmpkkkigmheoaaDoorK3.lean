/- The shapes of functions of the loaded program, printed by a program of mine; each is proved to be what the model asks of the function. No conditions. (1 texts made one; each says below what it is.) -/
import Derived.Test.YtcmpkkkigmheoaaDoorChecked
import Derived.Test.YtcmpkkkigmheoaaDoorK2
import Derived.KernelRfl
set_option linter.unusedVariables false
set_option linter.unusedSimpArgs false
set_option linter.unusedSectionVars false
/-! The shapes of functions of the loaded program, printed by a program of mine; each is proved to be what the model asks of the function. No conditions. -/
namespace Go.Proofs.YtcmpkkkigmheoaaDoor.S
open Go Go.Proofs.YtcmpkkkigmheoaaDoor.Sh Go.Proofs.YtcmpkkkigmheoaaDoor.Sl

theorem wide : Tryd.prog.follows .mixedOrders = true := by kernel_rfl

/-- law16_CondOrder -/
def law16_CondOrder (v0 v1 v2 v3 v4 : Value) (Kp : PK) (K : Value → WP) : WP :=
  opN Tryd.prog (sBox 26 v2) Kp fun x7 =>
  opN Tryd.prog (sBuildSl 28 4 [(0, (.string ⟨#[105, 102, 45, 109, 97, 116, 99, 104]⟩)), (1, (.string ⟨#[105, 102, 45, 110, 111, 110, 101, 45, 109, 97, 116, 99, 104]⟩)), (2, (.string ⟨#[105, 102, 45, 109, 111, 100, 105, 102, 105, 101, 100, 45, 115, 105, 110, 99, 101]⟩)), (3, (.string ⟨#[105, 102, 45, 117, 110, 109, 111, 100, 105, 102, 105, 101, 100, 45, 115, 105, 110, 99, 101]⟩))]) Kp fun x16 =>
  opN Tryd.prog (sCall (fn 7) [v1, x16]) Kp fun x17 =>
  opN Tryd.prog (sLoad 26 x7) Kp fun x20 =>
  opN Tryd.prog (sCall (fn 9) [x20]) Kp fun x21 =>
  opN Tryd.prog (sCall (fn 8) [v0, x17, x21, v3]) Kp fun x23 =>
  opN Tryd.prog (sEq .neq 3 (.tmp 23) (.const (.int .i64 200)) x23 (.int .i64 200)) Kp fun x24 =>
  gdK x24 false (opN Tryd.prog (sCall (fn 10) []) Kp) fun x26 =>
  gdK x24 false (opN Tryd.prog (sUn .not x26) Kp) fun x27 =>
  opN Tryd.prog (sPick x24 (.bool true) x27) Kp fun x28 =>
  condS x28
  (K (.bool false))
  (opN Tryd.prog (sLoad 26 x7) Kp fun x31 =>
   opN Tryd.prog (sCall (fn 9) [x31]) Kp fun x32 =>
   opN Tryd.prog (sCall (fn 8) [v0, v1, x32, v3]) Kp fun x34 =>
   cut0 (fun J1 =>
    opN Tryd.prog (sCall (fn 11) [v1, (.string ⟨#[105, 102, 45, 109, 97, 116, 99, 104]⟩)]) Kp fun x36 =>
    opN Tryd.prog (sLen #[28] 3 [x36]) Kp fun x37 =>
    opN Tryd.prog (sBin .gtr 3 x37 (.int .i64 0)) Kp fun x38 =>
    condS x38
    (opN Tryd.prog (sBuildSl 28 1 [(0, (.string ⟨#[105, 102, 45, 117, 110, 109, 111, 100, 105, 102, 105, 101, 100, 45, 115, 105, 110, 99, 101]⟩))]) Kp fun x40 =>
     opN Tryd.prog (sCall (fn 7) [v1, x40]) Kp fun x41 =>
     opN Tryd.prog (sBuild 37 [(0, (.string ⟨#[73, 102, 45, 85, 110, 109, 111, 100, 105, 102, 105, 101, 100, 45, 83, 105, 110, 99, 101]⟩)), (1, v4)]) Kp fun x43 =>
     opN Tryd.prog (sBuildSl 22 1 [(0, x43)]) Kp fun x44 =>
     opN Tryd.prog (sApp #[22, 22] 22 [x41, x44]) Kp fun x45 =>
     opN Tryd.prog (sLoad 26 x7) Kp fun x48 =>
     opN Tryd.prog (sCall (fn 9) [x48]) Kp fun x49 =>
     opN Tryd.prog (sCall (fn 8) [v0, x45, x49, v3]) Kp fun x51 =>
     opN Tryd.prog (sEq .neq 3 (.tmp 51) (.tmp 52) x51 x34) Kp fun x53 =>
     condS x53
     (K (.bool false))
     (J1))
    (J1)) fun _ =>
   opN Tryd.prog (sCall (fn 11) [v1, (.string ⟨#[105, 102, 45, 110, 111, 110, 101, 45, 109, 97, 116, 99, 104]⟩)]) Kp fun x55 =>
   opN Tryd.prog (sLen #[28] 3 [x55]) Kp fun x56 =>
   opN Tryd.prog (sBin .gtr 3 x56 (.int .i64 0)) Kp fun x57 =>
   condS x57
   (opN Tryd.prog (sBuildSl 28 1 [(0, (.string ⟨#[105, 102, 45, 109, 111, 100, 105, 102, 105, 101, 100, 45, 115, 105, 110, 99, 101]⟩))]) Kp fun x59 =>
    opN Tryd.prog (sCall (fn 7) [v1, x59]) Kp fun x60 =>
    opN Tryd.prog (sBuild 37 [(0, (.string ⟨#[73, 102, 45, 77, 111, 100, 105, 102, 105, 101, 100, 45, 83, 105, 110, 99, 101]⟩)), (1, v4)]) Kp fun x62 =>
    opN Tryd.prog (sBuildSl 22 1 [(0, x62)]) Kp fun x63 =>
    opN Tryd.prog (sApp #[22, 22] 22 [x60, x63]) Kp fun x64 =>
    opN Tryd.prog (sLoad 26 x7) Kp fun x67 =>
    opN Tryd.prog (sCall (fn 9) [x67]) Kp fun x68 =>
    opN Tryd.prog (sCall (fn 8) [v0, x64, x68, v3]) Kp fun x70 =>
    opN Tryd.prog (sEq .neq 3 (.tmp 70) (.tmp 71) x70 x34) Kp fun x72 =>
    condS x72
    (K (.bool false))
    (K (.bool true)))
   (K (.bool true)))
def law16_CondOrder_an : Ann := { cuts := [(9, [])], blks := [], loops := [], drs := [] }
theorem law16_CondOrder_eq (v0 v1 v2 v3 v4 : Value) (Kp : PK) (K : Value → WP) : cevF Tryd.prog law16_CondOrder_an Tryd.f3 [v0, v1, v2, v3, v4] Kp K = law16_CondOrder v0 v1 v2 v3 v4 Kp K := by kernel_rfl
theorem law16_CondOrder_calls {v0 v1 v2 v3 v4 : Value} {Kp : PK} {K : Value → WP} {w : World} (h : law16_CondOrder v0 v1 v2 v3 v4 Kp K w) : Calls Tryd.prog 3 #[v0, v1, v2, v3, v4] w (after Kp K) :=
  calls_of_shape (calls_of_cev wide Tryd.func3 (an := law16_CondOrder_an) (args := [v0, v1, v2, v3, v4]) (cast (congrFun (law16_CondOrder_eq v0 v1 v2 v3 v4 Kp K) w).symm h))
theorem law16_CondOrder_cn {v0 v1 v2 v3 v4 : Value} {W : World} {α : Type} {A : List HP} {r : α → Value} {B : α → List HP} (h : ∀ F, Ent W (A ++ F) (law16_CondOrder v0 v1 v2 v3 v4 noP fun v w => ∃ x, v = r x ∧ sat W (B x ++ F) w)) : Cn Tryd.prog 3 [v0, v1, v2, v3, v4] W A r B :=
  Cn.of (shape := law16_CondOrder v0 v1 v2 v3 v4) Tryd.call3 (fun h => law16_CondOrder_calls h) h
theorem law16_CondOrder_cnP {v0 v1 v2 v3 v4 : Value} {W : World} {α β : Type} {A : List HP} {r : α → Value} {B : α → List HP} {pc : β → List PanicEntry} {Bp : β → List HP} (h : ∀ F, Ent W (A ++ F) (law16_CondOrder v0 v1 v2 v3 v4 (fun ch w => ∃ y, ch = pc y ∧ sat W (Bp y ++ F) w) fun v w => ∃ x, v = r x ∧ sat W (B x ++ F) w)) : CnP Tryd.prog 3 [v0, v1, v2, v3, v4] W A r B pc Bp :=
  CnP.of (shape := law16_CondOrder v0 v1 v2 v3 v4) Tryd.call3 (fun h => law16_CondOrder_calls h) h

/-- law16_CondOwn -/
def law16_CondOwn (v0 v1 v2 v3 : Value) (Kp : PK) (K : Value → WP) : WP :=
  opN Tryd.prog (sBox 26 v0) Kp fun x4 =>
  opN Tryd.prog (sFA 26 x4 2) Kp fun x14 =>
  opN Tryd.prog (sStore 4 x14 (.bool true)) Kp fun _ =>
  opN Tryd.prog (sFA 26 x4 0) Kp fun x15 =>
  opN Tryd.prog (sFA 24 x15 1) Kp fun x16 =>
  opN Tryd.prog (sLoad 9 x16) Kp fun x17 =>
  opN Tryd.prog (sCall (fn 12) [x17]) Kp fun x18 =>
  opN Tryd.prog (sUn .not x18) Kp fun x19 =>
  condS x19
  (opN Tryd.prog (sCall (fn 10) []) Kp fun x20 =>
   K x20)
  (cut1 (fun J1 =>
    condS v3
    (J1 (.string ⟨#[72, 69, 65, 68]⟩))
    (J1 (.string ⟨#[71, 69, 84]⟩))) fun _ z9 =>
   opN Tryd.prog (sFA 26 x4 0) Kp fun x22 =>
   opN Tryd.prog (sFA 24 x22 0) Kp fun x23 =>
   opN Tryd.prog (sLoad 4 x23) Kp fun x24 =>
   opN Tryd.prog (sFA 26 x4 0) Kp fun x25 =>
   opN Tryd.prog (sFA 24 x25 1) Kp fun x26 =>
   opN Tryd.prog (sLoad 9 x26) Kp fun x27 =>
   opN Tryd.prog (sBuild 30 [(0, x24), (1, x27)]) Kp fun x28 =>
   opN Tryd.prog (sCall (fn 13) [x28]) Kp fun x29 =>
   opN Tryd.prog (sBuild 30 [(1, (.string ⟨#[111, 116, 104, 101, 114]⟩))]) Kp fun x30 =>
   opN Tryd.prog (sCall (fn 13) [x30]) Kp fun x31 =>
   opN Tryd.prog (sBin .add 9 x31 (.string ⟨#[44, 32]⟩)) Kp fun x33 =>
   opN Tryd.prog (sBin .add 9 x33 x29) Kp fun x35 =>
   opN Tryd.prog (sBuild 37 [(0, (.string ⟨#[105, 102, 45, 110, 111, 110, 101, 45, 109, 97, 116, 99, 104]⟩)), (1, x35)]) Kp fun x36 =>
   opN Tryd.prog (sBuild 37 [(0, (.string ⟨#[73, 102, 45, 77, 111, 100, 105, 102, 105, 101, 100, 45, 83, 105, 110, 99, 101]⟩)), (1, v1)]) Kp fun x38 =>
   opN Tryd.prog (sBuildSl 22 2 [(0, x36), (1, x38)]) Kp fun x39 =>
   drS (stS Tryd.prog (sLoad 26 x4) fun x42 =>
    opN Tryd.prog (sCall (fn 9) [x42]) Kp fun x43 =>
    opN Tryd.prog (sCall (fn 8) [z9, x39, x43, v2]) Kp fun x45 =>
    stS Tryd.prog (sEq .neq 3 (.tmp 45) (.const (.int .i64 304)) x45 (.int .i64 304)) fun x46 =>
    gdK x46 false (fun k => k z9) fun x48 =>
    gdD x46 false (stD Tryd.prog (sLoad 26 x4)) fun D10 x50 =>
    gdK x46 false (fun k => k v2) fun x52 =>
    gdK x46 false (opN Tryd.prog (sCall (fn 14) [(.string ⟨#[73, 102, 45, 78, 111, 110, 101, 45, 77, 97, 116, 99, 104]⟩), (.string ⟨#[42]⟩)]) Kp) fun x49 =>
    (fun w => D10 w ∧ (gdK x46 false (opN Tryd.prog (sCall (fn 9) [x50]) Kp) fun x51 =>
      gdK x46 false (opN Tryd.prog (sCall (fn 8) [x48, x49, x51, x52]) Kp) fun x53 =>
      gdK x46 false (stS Tryd.prog (sEq .neq 3 (.tmp 53) (.const (.int .i64 304)) x53 (.int .i64 304))) fun x54 =>
      stS Tryd.prog (sPick x46 (.bool true) x54) fun x55 =>
      condS x55
      (K (.bool false))
      (drS (stD Tryd.prog (sLoad 26 x4) fun D2 x58 =>
        opN Tryd.prog (sCall (fn 14) [(.string ⟨#[73, 102, 45, 77, 97, 116, 99, 104]⟩), x29]) Kp fun x57 =>
        (fun w => D2 w ∧ (opN Tryd.prog (sCall (fn 9) [x58]) Kp fun x59 =>
          opN Tryd.prog (sCall (fn 8) [(.string ⟨#[80, 85, 84]⟩), x57, x59, v2]) Kp fun x61 =>
          opN Tryd.prog (sEq .eql 3 (.tmp 62) (.const (.int .i64 412)) x61 (.int .i64 412)) Kp fun x63 =>
          opN Tryd.prog (sFA 26 x4 0) Kp fun x64 =>
          opN Tryd.prog (sFA 24 x64 0) Kp fun x65 =>
          opN Tryd.prog (sLoad 4 x65) Kp fun x66 =>
          opN Tryd.prog (sEq .eql 4 (.tmp 63) (.tmp 66) x63 x66) Kp fun x67 =>
          gdK x67 true (fun k => k x61) fun x69 =>
          gdK x67 true (opN Tryd.prog (sEq .eql 3 (.tmp 69) (.const (.int .i64 200)) x69 (.int .i64 200)) Kp) fun x70 =>
          gdK x67 true (opN Tryd.prog (sFA 26 x4 0) Kp) fun x71 =>
          gdK x67 true (opN Tryd.prog (sFA 24 x71 0) Kp) fun x72 =>
          gdK x67 true (opN Tryd.prog (sLoad 4 x72) Kp) fun x73 =>
          gdK x67 true (opN Tryd.prog (sUn .not x73) Kp) fun x74 =>
          gdK x67 true (opN Tryd.prog (sEq .eql 4 (.tmp 70) (.tmp 74) x70 x74) Kp) fun x75 =>
          opN Tryd.prog (sPick x67 x75 (.bool false)) Kp fun x76 =>
          gdK x76 true (opN Tryd.prog (sCall (fn 10) []) Kp) fun x78 =>
          opN Tryd.prog (sPick x76 x78 (.bool false)) Kp fun x79 =>
          K x79) w)))) w)))
def law16_CondOwn_an : Ann := { cuts := [(7, [9])], blks := [], loops := [], drs := [(10, [(0, 2), (1, 2), (2, 1), (4, 2), (3, 0), (5, 0), (6, 1), (7, 1), (8, 2), (10, 3), (12, 2), (9, 0), (11, 0), (13, 0), (14, 1), (15, 1)]), (12, [(0, 1), (2, 3), (4, 2), (1, 0), (3, 0), (5, 0), (6, 1)])] }
theorem law16_CondOwn_eq (v0 v1 v2 v3 : Value) (Kp : PK) (K : Value → WP) : cevF Tryd.prog law16_CondOwn_an Tryd.f4 [v0, v1, v2, v3] Kp K = law16_CondOwn v0 v1 v2 v3 Kp K := by kernel_rfl
theorem law16_CondOwn_calls {v0 v1 v2 v3 : Value} {Kp : PK} {K : Value → WP} {w : World} (h : law16_CondOwn v0 v1 v2 v3 Kp K w) : Calls Tryd.prog 4 #[v0, v1, v2, v3] w (after Kp K) :=
  calls_of_shape (calls_of_cev wide Tryd.func4 (an := law16_CondOwn_an) (args := [v0, v1, v2, v3]) (cast (congrFun (law16_CondOwn_eq v0 v1 v2 v3 Kp K) w).symm h))
theorem law16_CondOwn_cn {v0 v1 v2 v3 : Value} {W : World} {α : Type} {A : List HP} {r : α → Value} {B : α → List HP} (h : ∀ F, Ent W (A ++ F) (law16_CondOwn v0 v1 v2 v3 noP fun v w => ∃ x, v = r x ∧ sat W (B x ++ F) w)) : Cn Tryd.prog 4 [v0, v1, v2, v3] W A r B :=
  Cn.of (shape := law16_CondOwn v0 v1 v2 v3) Tryd.call4 (fun h => law16_CondOwn_calls h) h
theorem law16_CondOwn_cnP {v0 v1 v2 v3 : Value} {W : World} {α β : Type} {A : List HP} {r : α → Value} {B : α → List HP} {pc : β → List PanicEntry} {Bp : β → List HP} (h : ∀ F, Ent W (A ++ F) (law16_CondOwn v0 v1 v2 v3 (fun ch w => ∃ y, ch = pc y ∧ sat W (Bp y ++ F) w) fun v w => ∃ x, v = r x ∧ sat W (B x ++ F) w)) : CnP Tryd.prog 4 [v0, v1, v2, v3] W A r B pc Bp :=
  CnP.of (shape := law16_CondOwn v0 v1 v2 v3) Tryd.call4 (fun h => law16_CondOwn_calls h) h

/-- law16_CondDates -/
def law16_CondDates (v0 v1 : Value) (Kp : PK) (K : Value → WP) : WP :=
  opN Tryd.prog (sBox 26 v0) Kp fun x2 =>
  opN Tryd.prog (sFA 26 x2 2) Kp fun x9 =>
  opN Tryd.prog (sStore 4 x9 (.bool true)) Kp fun _ =>
  opN Tryd.prog (sFA 26 x2 1) Kp fun x10 =>
  opN Tryd.prog (sLoad 3 x10) Kp fun x11 =>
  opN Tryd.prog (sBin .rem 3 x11 (.int .i64 253402300799)) Kp fun x12 =>
  opN Tryd.prog (sBin .add 3 x12 (.int .i64 253402300799)) Kp fun x13 =>
  opN Tryd.prog (sBin .rem 3 x13 (.int .i64 253402300799)) Kp fun x14 =>
  opN Tryd.prog (sFA 26 x2 1) Kp fun x15 =>
  opN Tryd.prog (sStore 3 x15 x14) Kp fun _ =>
  opN Tryd.prog (sFA 26 x2 1) Kp fun x16 =>
  opN Tryd.prog (sLoad 3 x16) Kp fun x17 =>
  opN Tryd.prog (sMin #[3, 3] 3 [v1, (.int .i64 253402300799)]) Kp fun x19 =>
  opN Tryd.prog (sMax #[3, 3] 3 [x17, x19]) Kp fun x20 =>
  opN Tryd.prog (sFA 26 x2 1) Kp fun x22 =>
  opN Tryd.prog (sLoad 3 x22) Kp fun x23 =>
  opN Tryd.prog (sCall (fn 15) [x23]) Kp fun x24 =>
  opN Tryd.prog (sExt x24 0) Kp fun x25 =>
  opN Tryd.prog (sExt x24 1) Kp fun x26 =>
  drS (stS Tryd.prog (sEq .neq 3 (.tmp 27) (.const (.int .i64 0)) x26 (.int .i64 0)) fun x28 =>
   gdK x28 false (fun k => k x25) fun x30 =>
   gdD x28 false (stD Tryd.prog (sLoad 26 x2)) fun D5 x32 =>
   gdK x28 false (fun k => k x20) fun x34 =>
   gdK x28 false (opN Tryd.prog (sCall (fn 14) [(.string ⟨#[73, 102, 45, 77, 111, 100, 105, 102, 105, 101, 100, 45, 83, 105, 110, 99, 101]⟩), x30]) Kp) fun x31 =>
   (fun w => D5 w ∧ (gdK x28 false (opN Tryd.prog (sCall (fn 9) [x32]) Kp) fun x33 =>
     gdK x28 false (opN Tryd.prog (sCall (fn 8) [(.string ⟨#[71, 69, 84]⟩), x31, x33, x34]) Kp) fun x35 =>
     gdK x28 false (stS Tryd.prog (sEq .neq 3 (.tmp 35) (.const (.int .i64 304)) x35 (.int .i64 304))) fun x36 =>
     stS Tryd.prog (sPick x28 (.bool true) x36) fun x37 =>
     gdK x37 false (fun k => k x25) fun x39 =>
     gdD x37 false (stD Tryd.prog (sLoad 26 x2)) fun D14 x41 =>
     gdK x37 false (fun k => k x20) fun x43 =>
     gdK x37 false (opN Tryd.prog (sCall (fn 14) [(.string ⟨#[73, 102, 45, 85, 110, 109, 111, 100, 105, 102, 105, 101, 100, 45, 83, 105, 110, 99, 101]⟩), x39]) Kp) fun x40 =>
     (fun w => D14 w ∧ (gdK x37 false (opN Tryd.prog (sCall (fn 9) [x41]) Kp) fun x42 =>
       gdK x37 false (opN Tryd.prog (sCall (fn 8) [(.string ⟨#[71, 69, 84]⟩), x40, x42, x43]) Kp) fun x44 =>
       gdK x37 false (stS Tryd.prog (sEq .neq 3 (.tmp 44) (.const (.int .i64 200)) x44 (.int .i64 200))) fun x45 =>
       stS Tryd.prog (sPick x37 (.bool true) x45) fun x46 =>
       condS x46
       (K (.bool false))
       (opN Tryd.prog (sFA 26 x2 1) Kp fun x48 =>
        opN Tryd.prog (sLoad 3 x48) Kp fun x49 =>
        opN Tryd.prog (sBin .sub 3 x49 (.int .i64 3600)) Kp fun x50 =>
        opN Tryd.prog (sCall (fn 15) [x50]) Kp fun x51 =>
        opN Tryd.prog (sExt x51 0) Kp fun x52 =>
        opN Tryd.prog (sExt x51 1) Kp fun x53 =>
        opN Tryd.prog (sEq .neq 3 (.tmp 54) (.const (.int .i64 0)) x53 (.int .i64 0)) Kp fun x55 =>
        condS x55
        (opN Tryd.prog (sCall (fn 10) []) Kp fun x56 =>
         K x56)
        (drS (stD Tryd.prog (sLoad 26 x2) fun D2 x59 =>
          opN Tryd.prog (sCall (fn 14) [(.string ⟨#[73, 102, 45, 77, 111, 100, 105, 102, 105, 101, 100, 45, 83, 105, 110, 99, 101]⟩), x52]) Kp fun x58 =>
          (fun w => D2 w ∧ (opN Tryd.prog (sCall (fn 9) [x59]) Kp fun x60 =>
            opN Tryd.prog (sCall (fn 8) [(.string ⟨#[71, 69, 84]⟩), x58, x60, x20]) Kp fun x62 =>
            stS Tryd.prog (sEq .eql 3 (.tmp 62) (.const (.int .i64 200)) x62 (.int .i64 200)) fun x63 =>
            gdK x63 true (fun k => k x52) fun x65 =>
            gdD x63 true (stD Tryd.prog (sLoad 26 x2)) fun D10 x67 =>
            gdK x63 true (fun k => k x20) fun x69 =>
            gdK x63 true (opN Tryd.prog (sCall (fn 14) [(.string ⟨#[73, 102, 45, 85, 110, 109, 111, 100, 105, 102, 105, 101, 100, 45, 83, 105, 110, 99, 101]⟩), x65]) Kp) fun x66 =>
            (fun w => D10 w ∧ (gdK x63 true (opN Tryd.prog (sCall (fn 9) [x67]) Kp) fun x68 =>
              gdK x63 true (opN Tryd.prog (sCall (fn 8) [(.string ⟨#[80, 85, 84]⟩), x66, x68, x69]) Kp) fun x70 =>
              gdK x63 true (stS Tryd.prog (sEq .eql 3 (.tmp 70) (.const (.int .i64 412)) x70 (.int .i64 412))) fun x71 =>
              stS Tryd.prog (sPick x63 x71 (.bool false)) fun x72 =>
              gdK x72 true (opN Tryd.prog (sCall (fn 10) []) Kp) fun x74 =>
              stS Tryd.prog (sPick x72 x74 (.bool false)) fun x75 =>
              K x75) w)) w))))) w)) w))
def law16_CondDates_an : Ann := { cuts := [], blks := [], loops := [], drs := [(5, [(0, 1), (1, 1), (2, 1), (3, 1), (5, 3), (7, 2), (4, 0), (6, 0), (8, 0), (9, 1), (10, 1), (11, 1), (12, 1), (14, 3), (16, 2), (13, 0), (15, 0), (17, 0), (18, 1), (19, 1)]), (10, [(0, 1), (2, 3), (4, 2), (1, 0), (3, 0), (5, 0), (6, 1), (7, 1), (8, 1), (10, 3), (12, 2), (9, 0), (11, 0), (13, 0), (14, 1), (15, 1), (16, 1), (17, 0), (18, 1), (19, 1)])] }
theorem law16_CondDates_eq (v0 v1 : Value) (Kp : PK) (K : Value → WP) : cevF Tryd.prog law16_CondDates_an Tryd.f5 [v0, v1] Kp K = law16_CondDates v0 v1 Kp K := by kernel_rfl
theorem law16_CondDates_calls {v0 v1 : Value} {Kp : PK} {K : Value → WP} {w : World} (h : law16_CondDates v0 v1 Kp K w) : Calls Tryd.prog 5 #[v0, v1] w (after Kp K) :=
  calls_of_shape (calls_of_cev wide Tryd.func5 (an := law16_CondDates_an) (args := [v0, v1]) (cast (congrFun (law16_CondDates_eq v0 v1 Kp K) w).symm h))
theorem law16_CondDates_cn {v0 v1 : Value} {W : World} {α : Type} {A : List HP} {r : α → Value} {B : α → List HP} (h : ∀ F, Ent W (A ++ F) (law16_CondDates v0 v1 noP fun v w => ∃ x, v = r x ∧ sat W (B x ++ F) w)) : Cn Tryd.prog 5 [v0, v1] W A r B :=
  Cn.of (shape := law16_CondDates v0 v1) Tryd.call5 (fun h => law16_CondDates_calls h) h
theorem law16_CondDates_cnP {v0 v1 : Value} {W : World} {α β : Type} {A : List HP} {r : α → Value} {B : α → List HP} {pc : β → List PanicEntry} {Bp : β → List HP} (h : ∀ F, Ent W (A ++ F) (law16_CondDates v0 v1 (fun ch w => ∃ y, ch = pc y ∧ sat W (Bp y ++ F) w) fun v w => ∃ x, v = r x ∧ sat W (B x ++ F) w)) : CnP Tryd.prog 5 [v0, v1] W A r B pc Bp :=
  CnP.of (shape := law16_CondDates v0 v1) Tryd.call5 (fun h => law16_CondDates_calls h) h

/-- law16_CondMethods -/
def law16_CondMethods (v0 v1 v2 v3 : Value) (Kp : PK) (K : Value → WP) : WP :=
  opN Tryd.prog (sBox 26 v2) Kp fun x6 =>
  opN Tryd.prog (sLoad 26 x6) Kp fun x12 =>
  opN Tryd.prog (sCall (fn 9) [x12]) Kp fun x13 =>
  opN Tryd.prog (sCall (fn 8) [v0, v1, x13, v3]) Kp fun x15 =>
  opN Tryd.prog (sEq .neq 3 (.tmp 16) (.const (.int .i64 200)) x15 (.int .i64 200)) Kp fun x17 =>
  gdK x17 true (fun k => k x15) fun x19 =>
  gdK x17 true (opN Tryd.prog (sEq .neq 3 (.tmp 19) (.const (.int .i64 304)) x19 (.int .i64 304)) Kp) fun x20 =>
  opN Tryd.prog (sPick x17 x20 (.bool false)) Kp fun x21 =>
  gdK x21 true (fun k => k x15) fun x23 =>
  gdK x21 true (opN Tryd.prog (sEq .neq 3 (.tmp 23) (.const (.int .i64 412)) x23 (.int .i64 412)) Kp) fun x24 =>
  opN Tryd.prog (sPick x21 x24 (.bool false)) Kp fun x25 =>
  gdK x25 false (fun k => k x15) fun x27 =>
  gdK x25 false (opN Tryd.prog (sEq .eql 3 (.tmp 27) (.const (.int .i64 304)) x27 (.int .i64 304)) Kp) fun x28 =>
  gdK x25 false (fun k => k x28) fun x29 =>
  gdK x29 true (fun k => k v0) fun x30 =>
  gdK x29 true (opN Tryd.prog (sEq .neq 9 (.tmp 30) (.const (.string ⟨#[71, 69, 84]⟩)) x30 (.string ⟨#[71, 69, 84]⟩)) Kp) fun x31 =>
  gdK x25 false (opN Tryd.prog (sPick x29 x31 (.bool false)) Kp) fun x32 =>
  gdK x25 false (fun k => k x32) fun x33 =>
  gdK x33 true (fun k => k v0) fun x34 =>
  gdK x33 true (opN Tryd.prog (sEq .neq 9 (.tmp 34) (.const (.string ⟨#[72, 69, 65, 68]⟩)) x34 (.string ⟨#[72, 69, 65, 68]⟩)) Kp) fun x35 =>
  gdK x25 false (opN Tryd.prog (sPick x33 x35 (.bool false)) Kp) fun x36 =>
  opN Tryd.prog (sPick x25 (.bool true) x36) Kp fun x37 =>
  condS x37
  (K (.bool false))
  (opN Tryd.prog (sFA 26 x6 2) Kp fun x38 =>
   opN Tryd.prog (sStore 4 x38 (.bool false)) Kp fun _ =>
   opN Tryd.prog (sLoad 26 x6) Kp fun x41 =>
   opN Tryd.prog (sCall (fn 9) [x41]) Kp fun x42 =>
   opN Tryd.prog (sCall (fn 8) [v0, v1, x42, v3]) Kp fun x44 =>
   opN Tryd.prog (sEq .neq 3 (.tmp 44) (.const (.int .i64 304)) x44 (.int .i64 304)) Kp fun x45 =>
   gdK x45 true (fun k => k v0) fun x47 =>
   gdK x45 true (fun k => k v1) fun x48 =>
   gdK x45 true (opN Tryd.prog (sLoad 26 x6) Kp) fun x49 =>
   gdK x45 true (opN Tryd.prog (sCall (fn 9) [x49]) Kp) fun x50 =>
   gdK x45 true (fun k => k v3) fun x51 =>
   gdK x45 true (opN Tryd.prog (sCall (fn 16) [x47, x48, x50, x51]) Kp) fun x52 =>
   gdK x45 true (opN Tryd.prog (sUn .not x52) Kp) fun x53 =>
   opN Tryd.prog (sPick x45 x53 (.bool false)) Kp fun x54 =>
   gdK x54 true (opN Tryd.prog (sCall (fn 10) []) Kp) fun x56 =>
   opN Tryd.prog (sPick x54 x56 (.bool false)) Kp fun x57 =>
   K x57)
def law16_CondMethods_an : Ann := { cuts := [], blks := [], loops := [], drs := [] }
theorem law16_CondMethods_eq (v0 v1 v2 v3 : Value) (Kp : PK) (K : Value → WP) : cevF Tryd.prog law16_CondMethods_an Tryd.f6 [v0, v1, v2, v3] Kp K = law16_CondMethods v0 v1 v2 v3 Kp K := by kernel_rfl
theorem law16_CondMethods_calls {v0 v1 v2 v3 : Value} {Kp : PK} {K : Value → WP} {w : World} (h : law16_CondMethods v0 v1 v2 v3 Kp K w) : Calls Tryd.prog 6 #[v0, v1, v2, v3] w (after Kp K) :=
  calls_of_shape (calls_of_cev wide Tryd.func6 (an := law16_CondMethods_an) (args := [v0, v1, v2, v3]) (cast (congrFun (law16_CondMethods_eq v0 v1 v2 v3 Kp K) w).symm h))
theorem law16_CondMethods_cn {v0 v1 v2 v3 : Value} {W : World} {α : Type} {A : List HP} {r : α → Value} {B : α → List HP} (h : ∀ F, Ent W (A ++ F) (law16_CondMethods v0 v1 v2 v3 noP fun v w => ∃ x, v = r x ∧ sat W (B x ++ F) w)) : Cn Tryd.prog 6 [v0, v1, v2, v3] W A r B :=
  Cn.of (shape := law16_CondMethods v0 v1 v2 v3) Tryd.call6 (fun h => law16_CondMethods_calls h) h
theorem law16_CondMethods_cnP {v0 v1 v2 v3 : Value} {W : World} {α β : Type} {A : List HP} {r : α → Value} {B : α → List HP} {pc : β → List PanicEntry} {Bp : β → List HP} (h : ∀ F, Ent W (A ++ F) (law16_CondMethods v0 v1 v2 v3 (fun ch w => ∃ y, ch = pc y ∧ sat W (Bp y ++ F) w) fun v w => ∃ x, v = r x ∧ sat W (B x ++ F) w)) : CnP Tryd.prog 6 [v0, v1, v2, v3] W A r B pc Bp :=
  CnP.of (shape := law16_CondMethods v0 v1 v2 v3) Tryd.call6 (fun h => law16_CondMethods_calls h) h

/-- ref11_Without -/
def ref11_Without (v0 v1 : Value) (Kp : PK) (K : Value → WP) : WP :=
  loop2 (fun I1 m1 _ y5 y6 =>
   opN Tryd.prog (sLen #[22] 3 [v0]) Kp fun x11 =>
   opN Tryd.prog (sBin .lss 3 y6 x11) Kp fun x12 =>
   condS x12
   (loop2 (fun I2 m2 _ y7 y8 =>
     opN Tryd.prog (sLen #[28] 3 [v1]) Kp fun x17 =>
     opN Tryd.prog (sBin .lss 3 y8 x17) Kp fun x18 =>
     condS x18
     (drS (gdK y7 false (fun k => k v0) fun x23 =>
       gdK y7 false (fun k => k y6) fun x24 =>
       gdK y7 false (stS Tryd.prog (sIA 22 x23 x24)) fun x25 =>
       gdK y7 false (stS Tryd.prog (sFA 37 x25 0)) fun x26 =>
       gdK y7 false (stS Tryd.prog (sLoad 9 x26)) fun x27 =>
       gdK y7 false (fun k => k v1) fun x28 =>
       gdK y7 false (fun k => k y8) fun x29 =>
       gdK y7 false (stS Tryd.prog (sIA 28 x28 x29)) fun x30 =>
       gdK y7 false (stS Tryd.prog (sLoad 9 x30)) fun x31 =>
       gdK y7 false (opN Tryd.prog (sCall (fn 17) [x27, x31]) Kp) fun x32 =>
       stS Tryd.prog (sPick y7 (.bool true) x32) fun x33 =>
       opN Tryd.prog (sBin .add 3 y8 (.int .i64 1)) Kp fun x20 =>
       next2 I2 m2 x33 x20))
     (opN Tryd.prog (sUn .not y7) Kp fun x35 =>
      condS x35
      (opN Tryd.prog (sIA 22 v0 y6) Kp fun x39 =>
       opN Tryd.prog (sLoad 37 x39) Kp fun x40 =>
       opN Tryd.prog (sBuildSl 22 1 [(0, x40)]) Kp fun x41 =>
       opN Tryd.prog (sApp #[22, 22] 22 [y5, x41]) Kp fun x42 =>
       opN Tryd.prog (sBin .add 3 y6 (.int .i64 1)) Kp fun x14 =>
       next2 I1 m1 x42 x14)
      (opN Tryd.prog (sBin .add 3 y6 (.int .i64 1)) Kp fun x14 =>
       next2 I1 m1 y5 x14))) (.bool false) (.int .i64 0))
   (K y5)) (.slice none 0 0) (.int .i64 0)
def ref11_Without_an : Ann := { cuts := [], blks := [], loops := [(3, [5, 6]), (7, [7, 8])], drs := [(9, [(0, 1), (1, 1), (2, 1), (3, 1), (4, 1), (5, 1), (6, 1), (7, 1), (8, 1), (9, 1), (10, 1), (11, 0), (12, 1), (13, 1)])] }
theorem ref11_Without_eq (v0 v1 : Value) (Kp : PK) (K : Value → WP) : cevF Tryd.prog ref11_Without_an Tryd.f7 [v0, v1] Kp K = ref11_Without v0 v1 Kp K := by kernel_rfl
theorem ref11_Without_calls {v0 v1 : Value} {Kp : PK} {K : Value → WP} {w : World} (h : ref11_Without v0 v1 Kp K w) : Calls Tryd.prog 7 #[v0, v1] w (after Kp K) :=
  calls_of_shape (calls_of_cev wide Tryd.func7 (an := ref11_Without_an) (args := [v0, v1]) (cast (congrFun (ref11_Without_eq v0 v1 Kp K) w).symm h))
theorem ref11_Without_cn {v0 v1 : Value} {W : World} {α : Type} {A : List HP} {r : α → Value} {B : α → List HP} (h : ∀ F, Ent W (A ++ F) (ref11_Without v0 v1 noP fun v w => ∃ x, v = r x ∧ sat W (B x ++ F) w)) : Cn Tryd.prog 7 [v0, v1] W A r B :=
  Cn.of (shape := ref11_Without v0 v1) Tryd.call7 (fun h => ref11_Without_calls h) h
theorem ref11_Without_cnP {v0 v1 : Value} {W : World} {α β : Type} {A : List HP} {r : α → Value} {B : α → List HP} {pc : β → List PanicEntry} {Bp : β → List HP} (h : ∀ F, Ent W (A ++ F) (ref11_Without v0 v1 (fun ch w => ∃ y, ch = pc y ∧ sat W (Bp y ++ F) w) fun v w => ∃ x, v = r x ∧ sat W (B x ++ F) w)) : CnP Tryd.prog 7 [v0, v1] W A r B pc Bp :=
  CnP.of (shape := ref11_Without v0 v1) Tryd.call7 (fun h => ref11_Without_calls h) h

/-- cond_Evaluate -/
def cond_Evaluate (v0 v1 v2 v3 : Value) (Kp : PK) (K : Value → WP) : WP :=
  opN Tryd.prog (sBox 32 v2) Kp fun x6 =>
  opN Tryd.prog (sBox 3 v3) Kp fun x7 =>
  opN Tryd.prog (sEq .eql 9 (.tmp 14) (.const (.string ⟨#[71, 69, 84]⟩)) v0 (.string ⟨#[71, 69, 84]⟩)) Kp fun x15 =>
  gdK x15 false (fun k => k v0) fun x17 =>
  gdK x15 false (opN Tryd.prog (sEq .eql 9 (.tmp 17) (.const (.string ⟨#[72, 69, 65, 68]⟩)) x17 (.string ⟨#[72, 69, 65, 68]⟩)) Kp) fun x18 =>
  opN Tryd.prog (sPick x15 (.bool true) x18) Kp fun x19 =>
  opN Tryd.prog (sLoad 32 x6) Kp fun x21 =>
  opN Tryd.prog (sLoad 3 x7) Kp fun x22 =>
  opN Tryd.prog (sBuild 50 [(0, x19), (1, v1), (2, x21), (3, x22)]) Kp fun x23 =>
  opN Tryd.prog (sAlloc 50) Kp fun x9 =>
  opN Tryd.prog (sStore 50 x9 x23) Kp fun _ =>
  opN Tryd.prog (sMkF (.func 18) [] [x9, x6]) Kp fun x24 =>
  opN Tryd.prog (sMkF (.func 22) [] [x9, x7, x6]) Kp fun x25 =>
  opN Tryd.prog (sBuild 57 [(0, x24), (1, x25)]) Kp fun x26 =>
  opN Tryd.prog (sAlloc 57) Kp fun x10 =>
  opN Tryd.prog (sStore 57 x10 x26) Kp fun _ =>
  opN Tryd.prog (sLoad 57 x10) Kp fun x27 =>
  loop1 (fun I1 m1 _ y28 =>
   opN Tryd.prog (sBin .lss 3 y28 (.int .i64 2)) Kp fun x29 =>
   condS x29
   (opN Tryd.prog (sIx 57 x27 y28) Kp fun x30 =>
    opN Tryd.prog (sCall x30 []) Kp fun x32 =>
    opN Tryd.prog (sBin .gtr 3 x32 (.int .i64 0)) Kp fun x34 =>
    condS x34
    (K x32)
    (opN Tryd.prog (sBin .add 3 y28 (.int .i64 1)) Kp fun x36 =>
     next1 I1 m1 x36))
   (K (.int .i64 200))) (.int .i64 0)
def cond_Evaluate_an : Ann := { cuts := [], blks := [], loops := [(4, [28])], drs := [] }
theorem cond_Evaluate_eq (v0 v1 v2 v3 : Value) (Kp : PK) (K : Value → WP) : cevF Tryd.prog cond_Evaluate_an Tryd.f8 [v0, v1, v2, v3] Kp K = cond_Evaluate v0 v1 v2 v3 Kp K := by kernel_rfl
theorem cond_Evaluate_calls {v0 v1 v2 v3 : Value} {Kp : PK} {K : Value → WP} {w : World} (h : cond_Evaluate v0 v1 v2 v3 Kp K w) : Calls Tryd.prog 8 #[v0, v1, v2, v3] w (after Kp K) :=
  calls_of_shape (calls_of_cev wide Tryd.func8 (an := cond_Evaluate_an) (args := [v0, v1, v2, v3]) (cast (congrFun (cond_Evaluate_eq v0 v1 v2 v3 Kp K) w).symm h))
theorem cond_Evaluate_cn {v0 v1 v2 v3 : Value} {W : World} {α : Type} {A : List HP} {r : α → Value} {B : α → List HP} (h : ∀ F, Ent W (A ++ F) (cond_Evaluate v0 v1 v2 v3 noP fun v w => ∃ x, v = r x ∧ sat W (B x ++ F) w)) : Cn Tryd.prog 8 [v0, v1, v2, v3] W A r B :=
  Cn.of (shape := cond_Evaluate v0 v1 v2 v3) Tryd.call8 (fun h => cond_Evaluate_calls h) h
theorem cond_Evaluate_cnP {v0 v1 v2 v3 : Value} {W : World} {α β : Type} {A : List HP} {r : α → Value} {B : α → List HP} {pc : β → List PanicEntry} {Bp : β → List HP} (h : ∀ F, Ent W (A ++ F) (cond_Evaluate v0 v1 v2 v3 (fun ch w => ∃ y, ch = pc y ∧ sat W (Bp y ++ F) w) fun v w => ∃ x, v = r x ∧ sat W (B x ++ F) w)) : CnP Tryd.prog 8 [v0, v1, v2, v3] W A r B pc Bp :=
  CnP.of (shape := cond_Evaluate v0 v1 v2 v3) Tryd.call8 (fun h => cond_Evaluate_calls h) h

/-- law16_Own -/
def law16_Own (v0 : Value) (Kp : PK) (K : Value → WP) : WP :=
  opN Tryd.prog (sBox 26 v0) Kp fun x1 =>
  opN Tryd.prog (sAlloc 32) Kp fun x2 =>
  opN Tryd.prog (sFA 26 x1 0) Kp fun x3 =>
  opN Tryd.prog (sFA 24 x3 0) Kp fun x4 =>
  opN Tryd.prog (sLoad 4 x4) Kp fun x5 =>
  opN Tryd.prog (sFA 26 x1 0) Kp fun x6 =>
  opN Tryd.prog (sFA 24 x6 1) Kp fun x7 =>
  opN Tryd.prog (sLoad 9 x7) Kp fun x8 =>
  opN Tryd.prog (sBuild 30 [(0, x5), (1, x8)]) Kp fun x9 =>
  opN Tryd.prog (sFA 26 x1 1) Kp fun x10 =>
  opN Tryd.prog (sLoad 3 x10) Kp fun x11 =>
  opN Tryd.prog (sFA 26 x1 2) Kp fun x12 =>
  opN Tryd.prog (sLoad 4 x12) Kp fun x13 =>
  opN Tryd.prog (sBuild 32 [(0, x9), (1, x11), (2, x13)]) Kp fun x14 =>
  opN Tryd.prog (sStore 32 x2 x14) Kp fun _ =>
  (stS Tryd.prog (sRes 32 x2) fun r0 => K r0)
def law16_Own_an : Ann := { cuts := [], blks := [], loops := [], drs := [] }
theorem law16_Own_eq (v0 : Value) (Kp : PK) (K : Value → WP) : cevF Tryd.prog law16_Own_an Tryd.f9 [v0] Kp K = law16_Own v0 Kp K := by kernel_rfl
theorem law16_Own_calls {v0 : Value} {Kp : PK} {K : Value → WP} {w : World} (h : law16_Own v0 Kp K w) : Calls Tryd.prog 9 #[v0] w (after Kp K) :=
  calls_of_shape (calls_of_cev wide Tryd.func9 (an := law16_Own_an) (args := [v0]) (cast (congrFun (law16_Own_eq v0 Kp K) w).symm h))
theorem law16_Own_cn {v0 : Value} {W : World} {α : Type} {A : List HP} {r : α → Value} {B : α → List HP} (h : ∀ F, Ent W (A ++ F) (law16_Own v0 noP fun v w => ∃ x, v = r x ∧ sat W (B x ++ F) w)) : Cn Tryd.prog 9 [v0] W A r B :=
  Cn.of (shape := law16_Own v0) Tryd.call9 (fun h => law16_Own_calls h) h
theorem law16_Own_cnP {v0 : Value} {W : World} {α β : Type} {A : List HP} {r : α → Value} {B : α → List HP} {pc : β → List PanicEntry} {Bp : β → List HP} (h : ∀ F, Ent W (A ++ F) (law16_Own v0 (fun ch w => ∃ y, ch = pc y ∧ sat W (Bp y ++ F) w) fun v w => ∃ x, v = r x ∧ sat W (B x ++ F) w)) : CnP Tryd.prog 9 [v0] W A r B pc Bp :=
  CnP.of (shape := law16_Own v0) Tryd.call9 (fun h => law16_Own_calls h) h

/-- law16_knows -/
def law16_knows (Kp : PK) (K : Value → WP) : WP :=
  opN Tryd.prog (sBuild 30 [(1, (.string ⟨#[97]⟩))]) Kp fun x3 =>
  opN Tryd.prog (sBuild 32 [(0, x3), (2, (.bool true))]) Kp fun x4 =>
  opN Tryd.prog (sAlloc 32) Kp fun x1 =>
  opN Tryd.prog (sStore 32 x1 x4) Kp fun _ =>
  opN Tryd.prog (sFA 32 x1 0) Kp fun x5 =>
  opN Tryd.prog (sLoad 30 x5) Kp fun x6 =>
  opN Tryd.prog (sCall (fn 13) [x6]) Kp fun x7 =>
  drS (stD Tryd.prog (sLoad 32 x1) fun D2 x10 =>
   opN Tryd.prog (sCall (fn 14) [(.string ⟨#[73, 102, 45, 78, 111, 110, 101, 45, 77, 97, 116, 99, 104]⟩), x7]) Kp fun x9 =>
   (fun w => D2 w ∧ (opN Tryd.prog (sCall (fn 8) [(.string ⟨#[71, 69, 84]⟩), x9, x10, (.int .i64 9)]) Kp fun x11 =>
     stS Tryd.prog (sEq .eql 3 (.tmp 11) (.const (.int .i64 304)) x11 (.int .i64 304)) fun x12 =>
     gdK x12 true (fun k => k x7) fun x14 =>
     gdD x12 true (stD Tryd.prog (sLoad 32 x1)) fun D8 x16 =>
     gdK x12 true (opN Tryd.prog (sCall (fn 14) [(.string ⟨#[73, 102, 45, 78, 111, 110, 101, 45, 77, 97, 116, 99, 104]⟩), x14]) Kp) fun x15 =>
     (fun w => D8 w ∧ (gdK x12 true (opN Tryd.prog (sCall (fn 8) [(.string ⟨#[80, 85, 84]⟩), x15, x16, (.int .i64 9)]) Kp) fun x17 =>
       gdK x12 true (stS Tryd.prog (sEq .eql 3 (.tmp 17) (.const (.int .i64 412)) x17 (.int .i64 412))) fun x18 =>
       stS Tryd.prog (sPick x12 x18 (.bool false)) fun x19 =>
       gdK x19 true (fun k => k x7) fun x21 =>
       gdD x19 true (stD Tryd.prog (sLoad 32 x1)) fun D15 x23 =>
       gdK x19 true (opN Tryd.prog (sCall (fn 14) [(.string ⟨#[73, 102, 45, 77, 97, 116, 99, 104]⟩), x21]) Kp) fun x22 =>
       (fun w => D15 w ∧ (gdK x19 true (opN Tryd.prog (sCall (fn 8) [(.string ⟨#[71, 69, 84]⟩), x22, x23, (.int .i64 9)]) Kp) fun x24 =>
         gdK x19 true (stS Tryd.prog (sEq .eql 3 (.tmp 24) (.const (.int .i64 200)) x24 (.int .i64 200))) fun x25 =>
         stS Tryd.prog (sPick x19 x25 (.bool false)) fun x26 =>
         gdK x26 true (stS Tryd.prog (sLoad 32 x1)) fun x28 =>
         gdK x26 true (opN Tryd.prog (sCall (fn 16) [(.string ⟨#[71, 69, 84]⟩), (.slice none 0 0), x28, (.int .i64 9)]) Kp) fun x29 =>
         stS Tryd.prog (sPick x26 x29 (.bool false)) fun x30 =>
         K x30) w)) w)) w))
def law16_knows_an : Ann := { cuts := [], blks := [], loops := [], drs := [(3, [(0, 1), (2, 3), (1, 0), (3, 0), (4, 1), (5, 1), (6, 1), (8, 3), (7, 0), (9, 0), (10, 1), (11, 1), (12, 1), (13, 1), (15, 3), (14, 0), (16, 0), (17, 1), (18, 1), (19, 1), (20, 1), (21, 0), (22, 1), (23, 1)])] }
theorem law16_knows_eq (Kp : PK) (K : Value → WP) : cevF Tryd.prog law16_knows_an Tryd.f10 [] Kp K = law16_knows Kp K := by kernel_rfl
theorem law16_knows_calls  {Kp : PK} {K : Value → WP} {w : World} (h : law16_knows Kp K w) : Calls Tryd.prog 10 #[] w (after Kp K) :=
  calls_of_shape (calls_of_cev wide Tryd.func10 (an := law16_knows_an) (args := []) (cast (congrFun (law16_knows_eq Kp K) w).symm h))
theorem law16_knows_cn  {W : World} {α : Type} {A : List HP} {r : α → Value} {B : α → List HP} (h : ∀ F, Ent W (A ++ F) (law16_knows noP fun v w => ∃ x, v = r x ∧ sat W (B x ++ F) w)) : Cn Tryd.prog 10 [] W A r B :=
  Cn.of (shape := law16_knows) Tryd.call10 (fun h => law16_knows_calls h) h
theorem law16_knows_cnP  {W : World} {α β : Type} {A : List HP} {r : α → Value} {B : α → List HP} {pc : β → List PanicEntry} {Bp : β → List HP} (h : ∀ F, Ent W (A ++ F) (law16_knows (fun ch w => ∃ y, ch = pc y ∧ sat W (Bp y ++ F) w) fun v w => ∃ x, v = r x ∧ sat W (B x ++ F) w)) : CnP Tryd.prog 10 [] W A r B pc Bp :=
  CnP.of (shape := law16_knows) Tryd.call10 (fun h => law16_knows_calls h) h

/-- ref11_Values -/
def ref11_Values (v0 v1 : Value) (Kp : PK) (K : Value → WP) : WP :=
  loop2 (fun I1 m1 _ y5 y6 =>
   opN Tryd.prog (sLen #[22] 3 [v0]) Kp fun x9 =>
   opN Tryd.prog (sBin .lss 3 y6 x9) Kp fun x10 =>
   condS x10
   (opN Tryd.prog (sIA 22 v0 y6) Kp fun x15 =>
    opN Tryd.prog (sFA 37 x15 0) Kp fun x16 =>
    opN Tryd.prog (sLoad 9 x16) Kp fun x17 =>
    opN Tryd.prog (sCall (fn 17) [x17, v1]) Kp fun x19 =>
    condS x19
    (opN Tryd.prog (sIA 22 v0 y6) Kp fun x23 =>
     opN Tryd.prog (sFA 37 x23 1) Kp fun x24 =>
     opN Tryd.prog (sLoad 9 x24) Kp fun x25 =>
     opN Tryd.prog (sBuildSl 28 1 [(0, x25)]) Kp fun x26 =>
     opN Tryd.prog (sApp #[28, 28] 28 [y5, x26]) Kp fun x27 =>
     opN Tryd.prog (sBin .add 3 y6 (.int .i64 1)) Kp fun x12 =>
     next2 I1 m1 x27 x12)
    (opN Tryd.prog (sBin .add 3 y6 (.int .i64 1)) Kp fun x12 =>
     next2 I1 m1 y5 x12))
   (K y5)) (.slice none 0 0) (.int .i64 0)
def ref11_Values_an : Ann := { cuts := [], blks := [], loops := [(3, [5, 6])], drs := [] }
theorem ref11_Values_eq (v0 v1 : Value) (Kp : PK) (K : Value → WP) : cevF Tryd.prog ref11_Values_an Tryd.f11 [v0, v1] Kp K = ref11_Values v0 v1 Kp K := by kernel_rfl
theorem ref11_Values_calls {v0 v1 : Value} {Kp : PK} {K : Value → WP} {w : World} (h : ref11_Values v0 v1 Kp K w) : Calls Tryd.prog 11 #[v0, v1] w (after Kp K) :=
  calls_of_shape (calls_of_cev wide Tryd.func11 (an := ref11_Values_an) (args := [v0, v1]) (cast (congrFun (ref11_Values_eq v0 v1 Kp K) w).symm h))
theorem ref11_Values_cn {v0 v1 : Value} {W : World} {α : Type} {A : List HP} {r : α → Value} {B : α → List HP} (h : ∀ F, Ent W (A ++ F) (ref11_Values v0 v1 noP fun v w => ∃ x, v = r x ∧ sat W (B x ++ F) w)) : Cn Tryd.prog 11 [v0, v1] W A r B :=
  Cn.of (shape := ref11_Values v0 v1) Tryd.call11 (fun h => ref11_Values_calls h) h
theorem ref11_Values_cnP {v0 v1 : Value} {W : World} {α β : Type} {A : List HP} {r : α → Value} {B : α → List HP} {pc : β → List PanicEntry} {Bp : β → List HP} (h : ∀ F, Ent W (A ++ F) (ref11_Values v0 v1 (fun ch w => ∃ y, ch = pc y ∧ sat W (Bp y ++ F) w) fun v w => ∃ x, v = r x ∧ sat W (B x ++ F) w)) : CnP Tryd.prog 11 [v0, v1] W A r B pc Bp :=
  CnP.of (shape := ref11_Values v0 v1) Tryd.call11 (fun h => ref11_Values_calls h) h

/-- law16_good -/
def law16_good (v0 : Value) (Kp : PK) (K : Value → WP) : WP :=
  loop1 (fun I1 m1 _ y3 =>
   opN Tryd.prog (sLen #[9] 3 [v0]) Kp fun x6 =>
   opN Tryd.prog (sBin .lss 3 y3 x6) Kp fun x7 =>
   condS x7
   (opN Tryd.prog (sIx 9 v0 y3) Kp fun x12 =>
    opN Tryd.prog (sBin .lss 5 x12 (.int .u8 33)) Kp fun x13 =>
    gdK x13 false (fun k => k v0) fun x15 =>
    gdK x13 false (fun k => k y3) fun x16 =>
    gdK x13 false (opN Tryd.prog (sIx 9 x15 x16) Kp) fun x17 =>
    gdK x13 false (opN Tryd.prog (sEq .eql 5 (.tmp 17) (.const (.int .u8 34)) x17 (.int .u8 34)) Kp) fun x18 =>
    opN Tryd.prog (sPick x13 (.bool true) x18) Kp fun x19 =>
    gdK x19 false (fun k => k v0) fun x21 =>
    gdK x19 false (fun k => k y3) fun x22 =>
    gdK x19 false (opN Tryd.prog (sIx 9 x21 x22) Kp) fun x23 =>
    gdK x19 false (opN Tryd.prog (sEq .eql 5 (.tmp 23) (.const (.int .u8 127)) x23 (.int .u8 127)) Kp) fun x24 =>
    opN Tryd.prog (sPick x19 (.bool true) x24) Kp fun x25 =>
    condS x25
    (K (.bool false))
    (opN Tryd.prog (sBin .add 3 y3 (.int .i64 1)) Kp fun x9 =>
     next1 I1 m1 x9))
   (K (.bool true))) (.int .i64 0)
def law16_good_an : Ann := { cuts := [], blks := [], loops := [(2, [3])], drs := [] }
theorem law16_good_eq (v0 : Value) (Kp : PK) (K : Value → WP) : cevF Tryd.prog law16_good_an Tryd.f12 [v0] Kp K = law16_good v0 Kp K := by kernel_rfl
theorem law16_good_calls {v0 : Value} {Kp : PK} {K : Value → WP} {w : World} (h : law16_good v0 Kp K w) : Calls Tryd.prog 12 #[v0] w (after Kp K) :=
  calls_of_shape (calls_of_cev wide Tryd.func12 (an := law16_good_an) (args := [v0]) (cast (congrFun (law16_good_eq v0 Kp K) w).symm h))
theorem law16_good_cn {v0 : Value} {W : World} {α : Type} {A : List HP} {r : α → Value} {B : α → List HP} (h : ∀ F, Ent W (A ++ F) (law16_good v0 noP fun v w => ∃ x, v = r x ∧ sat W (B x ++ F) w)) : Cn Tryd.prog 12 [v0] W A r B :=
  Cn.of (shape := law16_good v0) Tryd.call12 (fun h => law16_good_calls h) h
theorem law16_good_cnP {v0 : Value} {W : World} {α β : Type} {A : List HP} {r : α → Value} {B : α → List HP} {pc : β → List PanicEntry} {Bp : β → List HP} (h : ∀ F, Ent W (A ++ F) (law16_good v0 (fun ch w => ∃ y, ch = pc y ∧ sat W (Bp y ++ F) w) fun v w => ∃ x, v = r x ∧ sat W (B x ++ F) w)) : CnP Tryd.prog 12 [v0] W A r B pc Bp :=
  CnP.of (shape := law16_good v0) Tryd.call12 (fun h => law16_good_calls h) h

/-- fields_TagText -/
def fields_TagText (v0 : Value) (Kp : PK) (K : Value → WP) : WP :=
  opN Tryd.prog (sBox 30 v0) Kp fun x1 =>
  cut1 (fun J1 =>
   opN Tryd.prog (sFA 30 x1 0) Kp fun x4 =>
   opN Tryd.prog (sLoad 4 x4) Kp fun x5 =>
   condS x5
   (J1 (.string ⟨#[87, 47]⟩))
   (J1 (.string ⟨#[]⟩))) fun _ z3 =>
  opN Tryd.prog (sBin .add 9 z3 (.string ⟨#[34]⟩)) Kp fun x7 =>
  opN Tryd.prog (sFA 30 x1 1) Kp fun x8 =>
  opN Tryd.prog (sLoad 9 x8) Kp fun x9 =>
  opN Tryd.prog (sBin .add 9 x7 x9) Kp fun x10 =>
  opN Tryd.prog (sBin .add 9 x10 (.string ⟨#[34]⟩)) Kp fun x11 =>
  K x11
def fields_TagText_an : Ann := { cuts := [(4, [3])], blks := [], loops := [], drs := [] }
theorem fields_TagText_eq (v0 : Value) (Kp : PK) (K : Value → WP) : cevF Tryd.prog fields_TagText_an Tryd.f13 [v0] Kp K = fields_TagText v0 Kp K := by kernel_rfl
theorem fields_TagText_calls {v0 : Value} {Kp : PK} {K : Value → WP} {w : World} (h : fields_TagText v0 Kp K w) : Calls Tryd.prog 13 #[v0] w (after Kp K) :=
  calls_of_shape (calls_of_cev wide Tryd.func13 (an := fields_TagText_an) (args := [v0]) (cast (congrFun (fields_TagText_eq v0 Kp K) w).symm h))
theorem fields_TagText_cn {v0 : Value} {W : World} {α : Type} {A : List HP} {r : α → Value} {B : α → List HP} (h : ∀ F, Ent W (A ++ F) (fields_TagText v0 noP fun v w => ∃ x, v = r x ∧ sat W (B x ++ F) w)) : Cn Tryd.prog 13 [v0] W A r B :=
  Cn.of (shape := fields_TagText v0) Tryd.call13 (fun h => fields_TagText_calls h) h
theorem fields_TagText_cnP {v0 : Value} {W : World} {α β : Type} {A : List HP} {r : α → Value} {B : α → List HP} {pc : β → List PanicEntry} {Bp : β → List HP} (h : ∀ F, Ent W (A ++ F) (fields_TagText v0 (fun ch w => ∃ y, ch = pc y ∧ sat W (Bp y ++ F) w) fun v w => ∃ x, v = r x ∧ sat W (B x ++ F) w)) : CnP Tryd.prog 13 [v0] W A r B pc Bp :=
  CnP.of (shape := fields_TagText v0) Tryd.call13 (fun h => fields_TagText_calls h) h

/-- law16_one -/
def law16_one (v0 v1 : Value) (Kp : PK) (K : Value → WP) : WP :=
  opN Tryd.prog (sBuild 37 [(0, v0), (1, v1)]) Kp fun x7 =>
  opN Tryd.prog (sBuildSl 22 1 [(0, x7)]) Kp fun x8 =>
  K x8
def law16_one_an : Ann := { cuts := [], blks := [], loops := [], drs := [] }
theorem law16_one_eq (v0 v1 : Value) (Kp : PK) (K : Value → WP) : cevF Tryd.prog law16_one_an Tryd.f14 [v0, v1] Kp K = law16_one v0 v1 Kp K := by kernel_rfl
theorem law16_one_calls {v0 v1 : Value} {Kp : PK} {K : Value → WP} {w : World} (h : law16_one v0 v1 Kp K w) : Calls Tryd.prog 14 #[v0, v1] w (after Kp K) :=
  calls_of_shape (calls_of_cev wide Tryd.func14 (an := law16_one_an) (args := [v0, v1]) (cast (congrFun (law16_one_eq v0 v1 Kp K) w).symm h))
theorem law16_one_cn {v0 v1 : Value} {W : World} {α : Type} {A : List HP} {r : α → Value} {B : α → List HP} (h : ∀ F, Ent W (A ++ F) (law16_one v0 v1 noP fun v w => ∃ x, v = r x ∧ sat W (B x ++ F) w)) : Cn Tryd.prog 14 [v0, v1] W A r B :=
  Cn.of (shape := law16_one v0 v1) Tryd.call14 (fun h => law16_one_calls h) h
theorem law16_one_cnP {v0 v1 : Value} {W : World} {α β : Type} {A : List HP} {r : α → Value} {B : α → List HP} {pc : β → List PanicEntry} {Bp : β → List HP} (h : ∀ F, Ent W (A ++ F) (law16_one v0 v1 (fun ch w => ∃ y, ch = pc y ∧ sat W (Bp y ++ F) w) fun v w => ∃ x, v = r x ∧ sat W (B x ++ F) w)) : CnP Tryd.prog 14 [v0, v1] W A r B pc Bp :=
  CnP.of (shape := law16_one v0 v1) Tryd.call14 (fun h => law16_one_calls h) h

/-- ref09_Format -/
def ref09_Format (v0 : Value) (Kp : PK) (K : Value → WP) : WP :=
  opN Tryd.prog (sCall (fn 24) [v0]) Kp fun x11 =>
  opN Tryd.prog (sExt x11 0) Kp fun x12 =>
  opN Tryd.prog (sExt x11 1) Kp fun x13 =>
  opN Tryd.prog (sAlloc 59) Kp fun x4 =>
  opN Tryd.prog (sStore 59 x4 x12) Kp fun _ =>
  opN Tryd.prog (sEq .neq 3 (.tmp 14) (.const (.int .i64 0)) x13 (.int .i64 0)) Kp fun x15 =>
  condS x15
  (K (.tuple #[(.string ⟨#[]⟩), x13]))
  (opN Tryd.prog (sLoad 59 x4) Kp fun x18 =>
   opN Tryd.prog (sCall (fn 25) [x18]) Kp fun x19 =>
   opN Tryd.prog (sExt x19 0) Kp fun x20 =>
   opN Tryd.prog (sExt x19 1) Kp fun x21 =>
   opN Tryd.prog (sExt x19 2) Kp fun x22 =>
   K (.tuple #[x20, (.int .i64 0)]))
def ref09_Format_an : Ann := { cuts := [], blks := [], loops := [], drs := [] }
theorem ref09_Format_eq (v0 : Value) (Kp : PK) (K : Value → WP) : cevF Tryd.prog ref09_Format_an Tryd.f15 [v0] Kp K = ref09_Format v0 Kp K := by kernel_rfl
theorem ref09_Format_calls {v0 : Value} {Kp : PK} {K : Value → WP} {w : World} (h : ref09_Format v0 Kp K w) : Calls Tryd.prog 15 #[v0] w (after Kp K) :=
  calls_of_shape (calls_of_cev wide Tryd.func15 (an := ref09_Format_an) (args := [v0]) (cast (congrFun (ref09_Format_eq v0 Kp K) w).symm h))
theorem ref09_Format_cn {v0 : Value} {W : World} {α : Type} {A : List HP} {r : α → Value} {B : α → List HP} (h : ∀ F, Ent W (A ++ F) (ref09_Format v0 noP fun v w => ∃ x, v = r x ∧ sat W (B x ++ F) w)) : Cn Tryd.prog 15 [v0] W A r B :=
  Cn.of (shape := ref09_Format v0) Tryd.call15 (fun h => ref09_Format_calls h) h
theorem ref09_Format_cnP {v0 : Value} {W : World} {α β : Type} {A : List HP} {r : α → Value} {B : α → List HP} {pc : β → List PanicEntry} {Bp : β → List HP} (h : ∀ F, Ent W (A ++ F) (ref09_Format v0 (fun ch w => ∃ y, ch = pc y ∧ sat W (Bp y ++ F) w) fun v w => ∃ x, v = r x ∧ sat W (B x ++ F) w)) : CnP Tryd.prog 15 [v0] W A r B pc Bp :=
  CnP.of (shape := ref09_Format v0) Tryd.call15 (fun h => ref09_Format_calls h) h

/-- cond_InRange -/
def cond_InRange (v0 v1 v2 v3 : Value) (Kp : PK) (K : Value → WP) : WP :=
  opN Tryd.prog (sBox 32 v2) Kp fun x6 =>
  opN Tryd.prog (sCall (fn 26) [v1, (.string ⟨#[73, 102, 45, 82, 97, 110, 103, 101]⟩)]) Kp fun x18 =>
  opN Tryd.prog (sExt x18 0) Kp fun x19 =>
  opN Tryd.prog (sExt x18 1) Kp fun x20 =>
  opN Tryd.prog (sEq .neq 9 (.tmp 21) (.const (.string ⟨#[71, 69, 84]⟩)) v0 (.string ⟨#[71, 69, 84]⟩)) Kp fun x22 =>
  gdK x22 false (opN Tryd.prog (sFA 32 x6 2) Kp) fun x24 =>
  gdK x22 false (opN Tryd.prog (sLoad 4 x24) Kp) fun x25 =>
  gdK x22 false (opN Tryd.prog (sUn .not x25) Kp) fun x26 =>
  opN Tryd.prog (sPick x22 (.bool true) x26) Kp fun x27 =>
  condS x27
  (K (.bool false))
  (opN Tryd.prog (sUn .not x20) Kp fun x29 =>
   condS x29
   (K (.bool true))
   (opN Tryd.prog (sBuild 67 [(0, (fn 20)), (1, (.int .i64 60))]) Kp fun x30 =>
    opN Tryd.prog (sAlloc 67) Kp fun x11 =>
    opN Tryd.prog (sStore 67 x11 x30) Kp fun _ =>
    opN Tryd.prog (sCall (fn 27) [x19]) Kp fun x33 =>
    opN Tryd.prog (sExt x33 0) Kp fun x34 =>
    opN Tryd.prog (sExt x33 1) Kp fun x35 =>
    opN Tryd.prog (sAlloc 30) Kp fun x12 =>
    opN Tryd.prog (sStore 30 x12 x34) Kp fun _ =>
    opN Tryd.prog (sEq .eql 68 (.tmp 36) (.const (.int .i64 0)) x35 (.int .i64 0)) Kp fun x37 =>
    condS x37
    (opN Tryd.prog (sFA 67 x11 0) Kp fun x38 =>
     opN Tryd.prog (sLoad 53 x38) Kp fun x39 =>
     opN Tryd.prog (sLoad 30 x12) Kp fun x40 =>
     opN Tryd.prog (sFA 32 x6 0) Kp fun x41 =>
     opN Tryd.prog (sLoad 30 x41) Kp fun x42 =>
     opN Tryd.prog (sCall x39 [x40, x42]) Kp fun x43 =>
     K x43)
    (opN Tryd.prog (sCall (fn 28) [x19, v3]) Kp fun x47 =>
     opN Tryd.prog (sExt x47 0) Kp fun x48 =>
     opN Tryd.prog (sExt x47 1) Kp fun x49 =>
     opN Tryd.prog (sEq .eql 68 (.tmp 50) (.const (.int .i64 0)) x49 (.int .i64 0)) Kp fun x51 =>
     gdK x51 true (fun k => k x48) fun x53 =>
     gdK x51 true (opN Tryd.prog (sFA 32 x6 1) Kp) fun x54 =>
     gdK x51 true (opN Tryd.prog (sLoad 3 x54) Kp) fun x55 =>
     gdK x51 true (opN Tryd.prog (sEq .eql 3 (.tmp 53) (.tmp 55) x53 x55) Kp) fun x56 =>
     opN Tryd.prog (sPick x51 x56 (.bool false)) Kp fun x57 =>
     gdK x57 true (fun k => k x48) fun x59 =>
     gdK x57 true (opN Tryd.prog (sFA 67 x11 1) Kp) fun x60 =>
     gdK x57 true (opN Tryd.prog (sLoad 3 x60) Kp) fun x61 =>
     gdK x57 true (opN Tryd.prog (sBin .add 3 x59 x61) Kp) fun x62 =>
     gdK x57 true (fun k => k v3) fun x63 =>
     gdK x57 true (opN Tryd.prog (sBin .leq 3 x62 x63) Kp) fun x64 =>
     opN Tryd.prog (sPick x57 x64 (.bool false)) Kp fun x65 =>
     K x65)))
def cond_InRange_an : Ann := { cuts := [], blks := [], loops := [], drs := [] }
theorem cond_InRange_eq (v0 v1 v2 v3 : Value) (Kp : PK) (K : Value → WP) : cevF Tryd.prog cond_InRange_an Tryd.f16 [v0, v1, v2, v3] Kp K = cond_InRange v0 v1 v2 v3 Kp K := by kernel_rfl
theorem cond_InRange_calls {v0 v1 v2 v3 : Value} {Kp : PK} {K : Value → WP} {w : World} (h : cond_InRange v0 v1 v2 v3 Kp K w) : Calls Tryd.prog 16 #[v0, v1, v2, v3] w (after Kp K) :=
  calls_of_shape (calls_of_cev wide Tryd.func16 (an := cond_InRange_an) (args := [v0, v1, v2, v3]) (cast (congrFun (cond_InRange_eq v0 v1 v2 v3 Kp K) w).symm h))
theorem cond_InRange_cn {v0 v1 v2 v3 : Value} {W : World} {α : Type} {A : List HP} {r : α → Value} {B : α → List HP} (h : ∀ F, Ent W (A ++ F) (cond_InRange v0 v1 v2 v3 noP fun v w => ∃ x, v = r x ∧ sat W (B x ++ F) w)) : Cn Tryd.prog 16 [v0, v1, v2, v3] W A r B :=
  Cn.of (shape := cond_InRange v0 v1 v2 v3) Tryd.call16 (fun h => cond_InRange_calls h) h
theorem cond_InRange_cnP {v0 v1 v2 v3 : Value} {W : World} {α β : Type} {A : List HP} {r : α → Value} {B : α → List HP} {pc : β → List PanicEntry} {Bp : β → List HP} (h : ∀ F, Ent W (A ++ F) (cond_InRange v0 v1 v2 v3 (fun ch w => ∃ y, ch = pc y ∧ sat W (Bp y ++ F) w) fun v w => ∃ x, v = r x ∧ sat W (B x ++ F) w)) : CnP Tryd.prog 16 [v0, v1, v2, v3] W A r B pc Bp :=
  CnP.of (shape := cond_InRange v0 v1 v2 v3) Tryd.call16 (fun h => cond_InRange_calls h) h

/-- ref01_Equal -/
def ref01_Equal (v0 v1 : Value) (Kp : PK) (K : Value → WP) : WP :=
  opN Tryd.prog (sCall (fn 29) [v0]) Kp fun x6 =>
  opN Tryd.prog (sCall (fn 29) [v1]) Kp fun x8 =>
  opN Tryd.prog (sEq .eql 9 (.tmp 6) (.tmp 8) x6 x8) Kp fun x9 =>
  K x9
def ref01_Equal_an : Ann := { cuts := [], blks := [], loops := [], drs := [] }
theorem ref01_Equal_eq (v0 v1 : Value) (Kp : PK) (K : Value → WP) : cevF Tryd.prog ref01_Equal_an Tryd.f17 [v0, v1] Kp K = ref01_Equal v0 v1 Kp K := by kernel_rfl
theorem ref01_Equal_calls {v0 v1 : Value} {Kp : PK} {K : Value → WP} {w : World} (h : ref01_Equal v0 v1 Kp K w) : Calls Tryd.prog 17 #[v0, v1] w (after Kp K) :=
  calls_of_shape (calls_of_cev wide Tryd.func17 (an := ref01_Equal_an) (args := [v0, v1]) (cast (congrFun (ref01_Equal_eq v0 v1 Kp K) w).symm h))
theorem ref01_Equal_cn {v0 v1 : Value} {W : World} {α : Type} {A : List HP} {r : α → Value} {B : α → List HP} (h : ∀ F, Ent W (A ++ F) (ref01_Equal v0 v1 noP fun v w => ∃ x, v = r x ∧ sat W (B x ++ F) w)) : Cn Tryd.prog 17 [v0, v1] W A r B :=
  Cn.of (shape := ref01_Equal v0 v1) Tryd.call17 (fun h => ref01_Equal_calls h) h
theorem ref01_Equal_cnP {v0 v1 : Value} {W : World} {α β : Type} {A : List HP} {r : α → Value} {B : α → List HP} {pc : β → List PanicEntry} {Bp : β → List HP} (h : ∀ F, Ent W (A ++ F) (ref01_Equal v0 v1 (fun ch w => ∃ y, ch = pc y ∧ sat W (Bp y ++ F) w) fun v w => ∃ x, v = r x ∧ sat W (B x ++ F) w)) : CnP Tryd.prog 17 [v0, v1] W A r B pc Bp :=
  CnP.of (shape := ref01_Equal v0 v1) Tryd.call17 (fun h => ref01_Equal_calls h) h

/-- cond_Evaluate_1 -/
def cond_Evaluate_1 (v0 v1 : Value) (Kp : PK) (K : Value → WP) : WP :=
  opN Tryd.prog (sLoad 50 v0) Kp fun x8 =>
  opN Tryd.prog (sCall (fn 19) [x8, (.string ⟨#[73, 102, 45, 77, 97, 116, 99, 104]⟩), (fn 20)]) Kp fun x9 =>
  opN Tryd.prog (sExt x9 0) Kp fun x10 =>
  opN Tryd.prog (sExt x9 1) Kp fun x11 =>
  opN Tryd.prog (sLoad 50 v0) Kp fun x13 =>
  opN Tryd.prog (sCall (fn 21) [x13, (.string ⟨#[73, 102, 45, 85, 110, 109, 111, 100, 105, 102, 105, 101, 100, 45, 83, 105, 110, 99, 101]⟩)]) Kp fun x14 =>
  opN Tryd.prog (sExt x14 0) Kp fun x15 =>
  opN Tryd.prog (sExt x14 1) Kp fun x16 =>
  gdK x11 true (fun k => k x10) fun x19 =>
  gdK x11 true (opN Tryd.prog (sUn .not x19) Kp) fun x20 =>
  opN Tryd.prog (sPick x11 x20 (.bool false)) Kp fun x21 =>
  gdK x21 false (fun k => k x11) fun x23 =>
  gdK x21 false (opN Tryd.prog (sUn .not x23) Kp) fun x24 =>
  gdK x21 false (fun k => k x24) fun x25 =>
  gdK x25 true (fun k => k x16) fun x26 =>
  gdK x21 false (opN Tryd.prog (sPick x25 x26 (.bool false)) Kp) fun x27 =>
  gdK x21 false (fun k => k x27) fun x28 =>
  gdK x28 true (opN Tryd.prog (sFA 32 v1 2) Kp) fun x29 =>
  gdK x28 true (opN Tryd.prog (sLoad 4 x29) Kp) fun x30 =>
  gdK x28 true (opN Tryd.prog (sUn .not x30) Kp) fun x31 =>
  gdK x28 true (fun k => k x31) fun x32 =>
  gdK x32 false (opN Tryd.prog (sFA 32 v1 1) Kp) fun x33 =>
  gdK x32 false (opN Tryd.prog (sLoad 3 x33) Kp) fun x34 =>
  gdK x32 false (fun k => k x15) fun x35 =>
  gdK x32 false (opN Tryd.prog (sBin .gtr 3 x34 x35) Kp) fun x36 =>
  gdK x28 true (opN Tryd.prog (sPick x32 (.bool true) x36) Kp) fun x37 =>
  gdK x21 false (opN Tryd.prog (sPick x28 x37 (.bool false)) Kp) fun x38 =>
  opN Tryd.prog (sPick x21 (.bool true) x38) Kp fun x39 =>
  condS x39
  (K (.int .i64 412))
  (K (.int .i64 0))
def cond_Evaluate_1_an : Ann := { cuts := [], blks := [], loops := [], drs := [] }
theorem cond_Evaluate_1_eq (v0 v1 : Value) (Kp : PK) (K : Value → WP) : cevF Tryd.prog cond_Evaluate_1_an Tryd.f18 [v0, v1] Kp K = cond_Evaluate_1 v0 v1 Kp K := by kernel_rfl
theorem cond_Evaluate_1_calls {v0 v1 : Value} {Kp : PK} {K : Value → WP} {w : World} (h : cond_Evaluate_1 v0 v1 Kp K w) : Calls Tryd.prog 18 #[v0, v1] w (after Kp K) :=
  calls_of_shape (calls_of_cev wide Tryd.func18 (an := cond_Evaluate_1_an) (args := [v0, v1]) (cast (congrFun (cond_Evaluate_1_eq v0 v1 Kp K) w).symm h))
theorem cond_Evaluate_1_cn {v0 v1 : Value} {W : World} {α : Type} {A : List HP} {r : α → Value} {B : α → List HP} (h : ∀ F, Ent W (A ++ F) (cond_Evaluate_1 v0 v1 noP fun v w => ∃ x, v = r x ∧ sat W (B x ++ F) w)) : Cn Tryd.prog 18 [v0, v1] W A r B :=
  Cn.of (shape := cond_Evaluate_1 v0 v1) Tryd.call18 (fun h => cond_Evaluate_1_calls h) h
theorem cond_Evaluate_1_cnP {v0 v1 : Value} {W : World} {α β : Type} {A : List HP} {r : α → Value} {B : α → List HP} {pc : β → List PanicEntry} {Bp : β → List HP} (h : ∀ F, Ent W (A ++ F) (cond_Evaluate_1 v0 v1 (fun ch w => ∃ y, ch = pc y ∧ sat W (Bp y ++ F) w) fun v w => ∃ x, v = r x ∧ sat W (B x ++ F) w)) : CnP Tryd.prog 18 [v0, v1] W A r B pc Bp :=
  CnP.of (shape := cond_Evaluate_1 v0 v1) Tryd.call18 (fun h => cond_Evaluate_1_calls h) h

/-- cond_asked_tags -/
def cond_asked_tags (v0 v1 v2 : Value) (Kp : PK) (K : Value → WP) : WP :=
  opN Tryd.prog (sBox 50 v0) Kp fun x3 =>
  opN Tryd.prog (sFA 50 x3 1) Kp fun x14 =>
  opN Tryd.prog (sLoad 22 x14) Kp fun x15 =>
  opN Tryd.prog (sCall (fn 30) [x15, v1]) Kp fun x17 =>
  opN Tryd.prog (sLen #[28] 3 [x17]) Kp fun x19 =>
  opN Tryd.prog (sEq .eql 3 (.tmp 19) (.const (.int .i64 0)) x19 (.int .i64 0)) Kp fun x20 =>
  condS x20
  (K (.tuple #[(.bool false), (.bool false)]))
  (opN Tryd.prog (sCall (fn 32) [x17, (.string ⟨#[44]⟩)]) Kp fun x23 =>
   opN Tryd.prog (sCall (fn 31) [x23]) Kp fun x24 =>
   opN Tryd.prog (sExt x24 0) Kp fun x25 =>
   opN Tryd.prog (sExt x24 1) Kp fun x26 =>
   opN Tryd.prog (sExt x24 2) Kp fun x27 =>
   opN Tryd.prog (sEq .neq 68 (.tmp 28) (.const (.int .i64 0)) x27 (.int .i64 0)) Kp fun x29 =>
   gdK x29 false (opN Tryd.prog (sFA 50 x3 2) Kp) fun x31 =>
   gdK x29 false (opN Tryd.prog (sFA 32 x31 2) Kp) fun x32 =>
   gdK x29 false (opN Tryd.prog (sLoad 4 x32) Kp) fun x33 =>
   gdK x29 false (opN Tryd.prog (sUn .not x33) Kp) fun x34 =>
   opN Tryd.prog (sPick x29 (.bool true) x34) Kp fun x35 =>
   condS x35
   (K (.tuple #[(.bool false), (.bool true)]))
   (opN Tryd.prog (sLen #[74] 3 [x25]) Kp fun x38 =>
    loop2 (fun I1 m1 _ y6 y39 =>
     opN Tryd.prog (sBin .lss 3 y39 x38) Kp fun x40 =>
     condS x40
     (opN Tryd.prog (sIA 74 x25 y39) Kp fun x41 =>
      opN Tryd.prog (sLoad 30 x41) Kp fun x42 =>
      opN Tryd.prog (sAlloc 30) Kp fun x13 =>
      opN Tryd.prog (sStore 30 x13 x42) Kp fun _ =>
      gdK y6 false (fun k => k v2) fun x45 =>
      gdK y6 false (opN Tryd.prog (sLoad 30 x13) Kp) fun x46 =>
      gdK y6 false (opN Tryd.prog (sFA 50 x3 2) Kp) fun x47 =>
      gdK y6 false (opN Tryd.prog (sFA 32 x47 0) Kp) fun x48 =>
      gdK y6 false (opN Tryd.prog (sLoad 30 x48) Kp) fun x49 =>
      gdK y6 false (opN Tryd.prog (sCall x45 [x46, x49]) Kp) fun x50 =>
      opN Tryd.prog (sPick y6 (.bool true) x50) Kp fun x51 =>
      opN Tryd.prog (sBin .add 3 y39 (.int .i64 1)) Kp fun x52 =>
      next2 I1 m1 x51 x52)
     (K (.tuple #[y6, (.bool true)]))) x26 (.int .i64 0)))
def cond_asked_tags_an : Ann := { cuts := [], blks := [], loops := [(9, [6, 39])], drs := [] }
theorem cond_asked_tags_eq (v0 v1 v2 : Value) (Kp : PK) (K : Value → WP) : cevF Tryd.prog cond_asked_tags_an Tryd.f19 [v0, v1, v2] Kp K = cond_asked_tags v0 v1 v2 Kp K := by kernel_rfl
theorem cond_asked_tags_calls {v0 v1 v2 : Value} {Kp : PK} {K : Value → WP} {w : World} (h : cond_asked_tags v0 v1 v2 Kp K w) : Calls Tryd.prog 19 #[v0, v1, v2] w (after Kp K) :=
  calls_of_shape (calls_of_cev wide Tryd.func19 (an := cond_asked_tags_an) (args := [v0, v1, v2]) (cast (congrFun (cond_asked_tags_eq v0 v1 v2 Kp K) w).symm h))
theorem cond_asked_tags_cn {v0 v1 v2 : Value} {W : World} {α : Type} {A : List HP} {r : α → Value} {B : α → List HP} (h : ∀ F, Ent W (A ++ F) (cond_asked_tags v0 v1 v2 noP fun v w => ∃ x, v = r x ∧ sat W (B x ++ F) w)) : Cn Tryd.prog 19 [v0, v1, v2] W A r B :=
  Cn.of (shape := cond_asked_tags v0 v1 v2) Tryd.call19 (fun h => cond_asked_tags_calls h) h
theorem cond_asked_tags_cnP {v0 v1 v2 : Value} {W : World} {α β : Type} {A : List HP} {r : α → Value} {B : α → List HP} {pc : β → List PanicEntry} {Bp : β → List HP} (h : ∀ F, Ent W (A ++ F) (cond_asked_tags v0 v1 v2 (fun ch w => ∃ y, ch = pc y ∧ sat W (Bp y ++ F) w) fun v w => ∃ x, v = r x ∧ sat W (B x ++ F) w)) : CnP Tryd.prog 19 [v0, v1, v2] W A r B pc Bp :=
  CnP.of (shape := cond_asked_tags v0 v1 v2) Tryd.call19 (fun h => cond_asked_tags_calls h) h

/-- fields_Strong -/
def fields_Strong (v0 v1 : Value) (Kp : PK) (K : Value → WP) : WP :=
  opN Tryd.prog (sBox 30 v0) Kp fun x2 =>
  opN Tryd.prog (sBox 30 v1) Kp fun x3 =>
  opN Tryd.prog (sLoad 30 x2) Kp fun x5 =>
  opN Tryd.prog (sLoad 30 x3) Kp fun x6 =>
  opN Tryd.prog (sEq .eql 30 (.tmp 5) (.tmp 6) x5 x6) Kp fun x7 =>
  gdK x7 true (opN Tryd.prog (sFA 30 x2 0) Kp) fun x9 =>
  gdK x7 true (opN Tryd.prog (sLoad 4 x9) Kp) fun x10 =>
  gdK x7 true (opN Tryd.prog (sUn .not x10) Kp) fun x11 =>
  opN Tryd.prog (sPick x7 x11 (.bool false)) Kp fun x12 =>
  K x12
def fields_Strong_an : Ann := { cuts := [], blks := [], loops := [], drs := [] }
theorem fields_Strong_eq (v0 v1 : Value) (Kp : PK) (K : Value → WP) : cevF Tryd.prog fields_Strong_an Tryd.f20 [v0, v1] Kp K = fields_Strong v0 v1 Kp K := by kernel_rfl
theorem fields_Strong_calls {v0 v1 : Value} {Kp : PK} {K : Value → WP} {w : World} (h : fields_Strong v0 v1 Kp K w) : Calls Tryd.prog 20 #[v0, v1] w (after Kp K) :=
  calls_of_shape (calls_of_cev wide Tryd.func20 (an := fields_Strong_an) (args := [v0, v1]) (cast (congrFun (fields_Strong_eq v0 v1 Kp K) w).symm h))
theorem fields_Strong_cn {v0 v1 : Value} {W : World} {α : Type} {A : List HP} {r : α → Value} {B : α → List HP} (h : ∀ F, Ent W (A ++ F) (fields_Strong v0 v1 noP fun v w => ∃ x, v = r x ∧ sat W (B x ++ F) w)) : Cn Tryd.prog 20 [v0, v1] W A r B :=
  Cn.of (shape := fields_Strong v0 v1) Tryd.call20 (fun h => fields_Strong_calls h) h
theorem fields_Strong_cnP {v0 v1 : Value} {W : World} {α β : Type} {A : List HP} {r : α → Value} {B : α → List HP} {pc : β → List PanicEntry} {Bp : β → List HP} (h : ∀ F, Ent W (A ++ F) (fields_Strong v0 v1 (fun ch w => ∃ y, ch = pc y ∧ sat W (Bp y ++ F) w) fun v w => ∃ x, v = r x ∧ sat W (B x ++ F) w)) : CnP Tryd.prog 20 [v0, v1] W A r B pc Bp :=
  CnP.of (shape := fields_Strong v0 v1) Tryd.call20 (fun h => fields_Strong_calls h) h

/-- cond_asked_date -/
def cond_asked_date (v0 v1 : Value) (Kp : PK) (K : Value → WP) : WP :=
  opN Tryd.prog (sBox 50 v0) Kp fun x2 =>
  opN Tryd.prog (sFA 50 x2 1) Kp fun x11 =>
  opN Tryd.prog (sLoad 22 x11) Kp fun x12 =>
  opN Tryd.prog (sCall (fn 26) [x12, v1]) Kp fun x14 =>
  opN Tryd.prog (sExt x14 0) Kp fun x15 =>
  opN Tryd.prog (sExt x14 1) Kp fun x16 =>
  opN Tryd.prog (sFA 50 x2 3) Kp fun x19 =>
  opN Tryd.prog (sLoad 3 x19) Kp fun x20 =>
  opN Tryd.prog (sCall (fn 28) [x15, x20]) Kp fun x21 =>
  opN Tryd.prog (sExt x21 0) Kp fun x22 =>
  opN Tryd.prog (sExt x21 1) Kp fun x23 =>
  gdK x16 true (fun k => k x23) fun x27 =>
  gdK x16 true (opN Tryd.prog (sEq .eql 68 (.tmp 27) (.const (.int .i64 0)) x27 (.int .i64 0)) Kp) fun x28 =>
  opN Tryd.prog (sPick x16 x28 (.bool false)) Kp fun x29 =>
  K (.tuple #[x22, x29])
def cond_asked_date_an : Ann := { cuts := [], blks := [], loops := [], drs := [] }
theorem cond_asked_date_eq (v0 v1 : Value) (Kp : PK) (K : Value → WP) : cevF Tryd.prog cond_asked_date_an Tryd.f21 [v0, v1] Kp K = cond_asked_date v0 v1 Kp K := by kernel_rfl
theorem cond_asked_date_calls {v0 v1 : Value} {Kp : PK} {K : Value → WP} {w : World} (h : cond_asked_date v0 v1 Kp K w) : Calls Tryd.prog 21 #[v0, v1] w (after Kp K) :=
  calls_of_shape (calls_of_cev wide Tryd.func21 (an := cond_asked_date_an) (args := [v0, v1]) (cast (congrFun (cond_asked_date_eq v0 v1 Kp K) w).symm h))
theorem cond_asked_date_cn {v0 v1 : Value} {W : World} {α : Type} {A : List HP} {r : α → Value} {B : α → List HP} (h : ∀ F, Ent W (A ++ F) (cond_asked_date v0 v1 noP fun v w => ∃ x, v = r x ∧ sat W (B x ++ F) w)) : Cn Tryd.prog 21 [v0, v1] W A r B :=
  Cn.of (shape := cond_asked_date v0 v1) Tryd.call21 (fun h => cond_asked_date_calls h) h
theorem cond_asked_date_cnP {v0 v1 : Value} {W : World} {α β : Type} {A : List HP} {r : α → Value} {B : α → List HP} {pc : β → List PanicEntry} {Bp : β → List HP} (h : ∀ F, Ent W (A ++ F) (cond_asked_date v0 v1 (fun ch w => ∃ y, ch = pc y ∧ sat W (Bp y ++ F) w) fun v w => ∃ x, v = r x ∧ sat W (B x ++ F) w)) : CnP Tryd.prog 21 [v0, v1] W A r B pc Bp :=
  CnP.of (shape := cond_asked_date v0 v1) Tryd.call21 (fun h => cond_asked_date_calls h) h

/-- cond_Evaluate_2 -/
def cond_Evaluate_2 (v0 v1 v2 : Value) (Kp : PK) (K : Value → WP) : WP :=
  opN Tryd.prog (sLoad 50 v0) Kp fun x9 =>
  opN Tryd.prog (sCall (fn 19) [x9, (.string ⟨#[73, 102, 45, 78, 111, 110, 101, 45, 77, 97, 116, 99, 104]⟩), (fn 23)]) Kp fun x10 =>
  opN Tryd.prog (sExt x10 0) Kp fun x11 =>
  opN Tryd.prog (sExt x10 1) Kp fun x12 =>
  opN Tryd.prog (sLoad 50 v0) Kp fun x14 =>
  opN Tryd.prog (sCall (fn 21) [x14, (.string ⟨#[73, 102, 45, 77, 111, 100, 105, 102, 105, 101, 100, 45, 83, 105, 110, 99, 101]⟩)]) Kp fun x15 =>
  opN Tryd.prog (sExt x15 0) Kp fun x16 =>
  opN Tryd.prog (sExt x15 1) Kp fun x17 =>
  gdK x11 true (opN Tryd.prog (sFA 50 v0 0) Kp) fun x21 =>
  gdK x11 true (opN Tryd.prog (sLoad 4 x21) Kp) fun x22 =>
  gdK x11 true (opN Tryd.prog (sUn .not x22) Kp) fun x23 =>
  opN Tryd.prog (sPick x11 x23 (.bool false)) Kp fun x24 =>
  condS x24
  (K (.int .i64 412))
  (condS x11
   (condS x11
    (K (.int .i64 304))
    (K (.int .i64 0)))
   (opN Tryd.prog (sUn .not x12) Kp fun x28 =>
    gdK x28 true (opN Tryd.prog (sFA 50 v0 0) Kp) fun x30 =>
    gdK x28 true (opN Tryd.prog (sLoad 4 x30) Kp) fun x31 =>
    opN Tryd.prog (sPick x28 x31 (.bool false)) Kp fun x32 =>
    gdK x32 true (fun k => k x17) fun x34 =>
    opN Tryd.prog (sPick x32 x34 (.bool false)) Kp fun x35 =>
    gdK x35 true (fun k => k x16) fun x37 =>
    gdK x35 true (opN Tryd.prog (sLoad 3 v1) Kp) fun x38 =>
    gdK x35 true (opN Tryd.prog (sBin .leq 3 x37 x38) Kp) fun x39 =>
    opN Tryd.prog (sPick x35 x39 (.bool false)) Kp fun x40 =>
    gdK x40 true (opN Tryd.prog (sFA 32 v2 2) Kp) fun x42 =>
    gdK x40 true (opN Tryd.prog (sLoad 4 x42) Kp) fun x43 =>
    opN Tryd.prog (sPick x40 x43 (.bool false)) Kp fun x44 =>
    gdK x44 true (opN Tryd.prog (sFA 32 v2 1) Kp) fun x46 =>
    gdK x44 true (opN Tryd.prog (sLoad 3 x46) Kp) fun x47 =>
    gdK x44 true (fun k => k x16) fun x48 =>
    gdK x44 true (opN Tryd.prog (sBin .leq 3 x47 x48) Kp) fun x49 =>
    opN Tryd.prog (sPick x44 x49 (.bool false)) Kp fun x50 =>
    condS x50
    (K (.int .i64 304))
    (K (.int .i64 0))))
def cond_Evaluate_2_an : Ann := { cuts := [], blks := [], loops := [], drs := [] }
theorem cond_Evaluate_2_eq (v0 v1 v2 : Value) (Kp : PK) (K : Value → WP) : cevF Tryd.prog cond_Evaluate_2_an Tryd.f22 [v0, v1, v2] Kp K = cond_Evaluate_2 v0 v1 v2 Kp K := by kernel_rfl
theorem cond_Evaluate_2_calls {v0 v1 v2 : Value} {Kp : PK} {K : Value → WP} {w : World} (h : cond_Evaluate_2 v0 v1 v2 Kp K w) : Calls Tryd.prog 22 #[v0, v1, v2] w (after Kp K) :=
  calls_of_shape (calls_of_cev wide Tryd.func22 (an := cond_Evaluate_2_an) (args := [v0, v1, v2]) (cast (congrFun (cond_Evaluate_2_eq v0 v1 v2 Kp K) w).symm h))
theorem cond_Evaluate_2_cn {v0 v1 v2 : Value} {W : World} {α : Type} {A : List HP} {r : α → Value} {B : α → List HP} (h : ∀ F, Ent W (A ++ F) (cond_Evaluate_2 v0 v1 v2 noP fun v w => ∃ x, v = r x ∧ sat W (B x ++ F) w)) : Cn Tryd.prog 22 [v0, v1, v2] W A r B :=
  Cn.of (shape := cond_Evaluate_2 v0 v1 v2) Tryd.call22 (fun h => cond_Evaluate_2_calls h) h
theorem cond_Evaluate_2_cnP {v0 v1 v2 : Value} {W : World} {α β : Type} {A : List HP} {r : α → Value} {B : α → List HP} {pc : β → List PanicEntry} {Bp : β → List HP} (h : ∀ F, Ent W (A ++ F) (cond_Evaluate_2 v0 v1 v2 (fun ch w => ∃ y, ch = pc y ∧ sat W (Bp y ++ F) w) fun v w => ∃ x, v = r x ∧ sat W (B x ++ F) w)) : CnP Tryd.prog 22 [v0, v1, v2] W A r B pc Bp :=
  CnP.of (shape := cond_Evaluate_2 v0 v1 v2) Tryd.call22 (fun h => cond_Evaluate_2_calls h) h

/-- fields_Weak -/
def fields_Weak (v0 v1 : Value) (Kp : PK) (K : Value → WP) : WP :=
  opN Tryd.prog (sBox 30 v0) Kp fun x2 =>
  opN Tryd.prog (sBox 30 v1) Kp fun x3 =>
  opN Tryd.prog (sFA 30 x2 1) Kp fun x5 =>
  opN Tryd.prog (sLoad 9 x5) Kp fun x6 =>
  opN Tryd.prog (sFA 30 x3 1) Kp fun x7 =>
  opN Tryd.prog (sLoad 9 x7) Kp fun x8 =>
  opN Tryd.prog (sEq .eql 9 (.tmp 6) (.tmp 8) x6 x8) Kp fun x9 =>
  K x9
def fields_Weak_an : Ann := { cuts := [], blks := [], loops := [], drs := [] }
theorem fields_Weak_eq (v0 v1 : Value) (Kp : PK) (K : Value → WP) : cevF Tryd.prog fields_Weak_an Tryd.f23 [v0, v1] Kp K = fields_Weak v0 v1 Kp K := by kernel_rfl
theorem fields_Weak_calls {v0 v1 : Value} {Kp : PK} {K : Value → WP} {w : World} (h : fields_Weak v0 v1 Kp K w) : Calls Tryd.prog 23 #[v0, v1] w (after Kp K) :=
  calls_of_shape (calls_of_cev wide Tryd.func23 (an := fields_Weak_an) (args := [v0, v1]) (cast (congrFun (fields_Weak_eq v0 v1 Kp K) w).symm h))
theorem fields_Weak_cn {v0 v1 : Value} {W : World} {α : Type} {A : List HP} {r : α → Value} {B : α → List HP} (h : ∀ F, Ent W (A ++ F) (fields_Weak v0 v1 noP fun v w => ∃ x, v = r x ∧ sat W (B x ++ F) w)) : Cn Tryd.prog 23 [v0, v1] W A r B :=
  Cn.of (shape := fields_Weak v0 v1) Tryd.call23 (fun h => fields_Weak_calls h) h
theorem fields_Weak_cnP {v0 v1 : Value} {W : World} {α β : Type} {A : List HP} {r : α → Value} {B : α → List HP} {pc : β → List PanicEntry} {Bp : β → List HP} (h : ∀ F, Ent W (A ++ F) (fields_Weak v0 v1 (fun ch w => ∃ y, ch = pc y ∧ sat W (Bp y ++ F) w) fun v w => ∃ x, v = r x ∧ sat W (B x ++ F) w)) : CnP Tryd.prog 23 [v0, v1] W A r B pc Bp :=
  CnP.of (shape := fields_Weak v0 v1) Tryd.call23 (fun h => fields_Weak_calls h) h

/-- ref09_Split -/
def ref09_Split (v0 : Value) (Kp : PK) (K : Value → WP) : WP :=
  opN Tryd.prog (sAlloc 59) Kp fun x2 =>
  opN Tryd.prog (sBin .lss 3 v0 (.int .i64 0)) Kp fun x7 =>
  gdK x7 false (fun k => k v0) fun x9 =>
  gdK x7 false (opN Tryd.prog (sBin .gtr 3 x9 (.int .i64 253402300799)) Kp) fun x10 =>
  opN Tryd.prog (sPick x7 (.bool true) x10) Kp fun x11 =>
  condS x11
  (opN Tryd.prog (sBuild 59 []) Kp fun x12 =>
   opN Tryd.prog (sStore 59 x2 x12) Kp fun _ =>
   (stS Tryd.prog (sRes 59 x2) fun r0 => K (.tuple #[r0, (.int .i64 11)])))
  (opN Tryd.prog (sBin .quo 3 v0 (.int .i64 3600)) Kp fun x14 =>
   opN Tryd.prog (sBin .rem 3 x14 (.int .i64 24)) Kp fun x15 =>
   opN Tryd.prog (sBin .quo 3 v0 (.int .i64 60)) Kp fun x17 =>
   opN Tryd.prog (sBin .rem 3 x17 (.int .i64 60)) Kp fun x18 =>
   opN Tryd.prog (sBin .rem 3 v0 (.int .i64 60)) Kp fun x20 =>
   opN Tryd.prog (sBuild 59 [(0, (.int .i64 1970)), (1, (.int .i64 1)), (3, x15), (4, x18), (5, x20)]) Kp fun x21 =>
   opN Tryd.prog (sAlloc 59) Kp fun x4 =>
   opN Tryd.prog (sStore 59 x4 x21) Kp fun _ =>
   opN Tryd.prog (sBin .quo 3 v0 (.int .i64 86400)) Kp fun x23 =>
   opN Tryd.prog (sBin .add 3 x23 (.int .i64 4)) Kp fun x25 =>
   opN Tryd.prog (sBin .rem 3 x25 (.int .i64 7)) Kp fun x26 =>
   opN Tryd.prog (sFA 59 x4 6) Kp fun x27 =>
   opN Tryd.prog (sStore 3 x27 x26) Kp fun _ =>
   loop1 (fun I1 m1 _ y5 =>
    opN Tryd.prog (sFA 59 x4 0) Kp fun x29 =>
    opN Tryd.prog (sLoad 3 x29) Kp fun x30 =>
    opN Tryd.prog (sCall (fn 33) [x30]) Kp fun x31 =>
    opN Tryd.prog (sBin .geq 3 y5 x31) Kp fun x32 =>
    condS x32
    (opN Tryd.prog (sFA 59 x4 0) Kp fun x34 =>
     opN Tryd.prog (sLoad 3 x34) Kp fun x35 =>
     opN Tryd.prog (sCall (fn 33) [x35]) Kp fun x36 =>
     opN Tryd.prog (sBin .sub 3 y5 x36) Kp fun x37 =>
     opN Tryd.prog (sFA 59 x4 0) Kp fun x38 =>
     opN Tryd.prog (sLoad 3 x38) Kp fun x39 =>
     opN Tryd.prog (sBin .add 3 x39 (.int .i64 1)) Kp fun x40 =>
     opN Tryd.prog (sFA 59 x4 0) Kp fun x41 =>
     opN Tryd.prog (sStore 3 x41 x40) Kp fun _ =>
     next1 I1 m1 x37)
    (loop1 (fun I2 m2 _ y5_2 =>
      opN Tryd.prog (sFA 59 x4 0) Kp fun x43 =>
      opN Tryd.prog (sLoad 3 x43) Kp fun x44 =>
      opN Tryd.prog (sFA 59 x4 1) Kp fun x45 =>
      opN Tryd.prog (sLoad 3 x45) Kp fun x46 =>
      opN Tryd.prog (sCall (fn 34) [x44, x46]) Kp fun x47 =>
      opN Tryd.prog (sBin .geq 3 y5_2 x47) Kp fun x48 =>
      condS x48
      (opN Tryd.prog (sFA 59 x4 0) Kp fun x50 =>
       opN Tryd.prog (sLoad 3 x50) Kp fun x51 =>
       opN Tryd.prog (sFA 59 x4 1) Kp fun x52 =>
       opN Tryd.prog (sLoad 3 x52) Kp fun x53 =>
       opN Tryd.prog (sCall (fn 34) [x51, x53]) Kp fun x54 =>
       opN Tryd.prog (sBin .sub 3 y5_2 x54) Kp fun x55 =>
       opN Tryd.prog (sFA 59 x4 1) Kp fun x56 =>
       opN Tryd.prog (sLoad 3 x56) Kp fun x57 =>
       opN Tryd.prog (sBin .add 3 x57 (.int .i64 1)) Kp fun x58 =>
       opN Tryd.prog (sFA 59 x4 1) Kp fun x59 =>
       opN Tryd.prog (sStore 3 x59 x58) Kp fun _ =>
       next1 I2 m2 x55)
      (opN Tryd.prog (sBin .add 3 y5_2 (.int .i64 1)) Kp fun x61 =>
       opN Tryd.prog (sFA 59 x4 2) Kp fun x62 =>
       opN Tryd.prog (sStore 3 x62 x61) Kp fun _ =>
       opN Tryd.prog (sLoad 59 x4) Kp fun x63 =>
       opN Tryd.prog (sStore 59 x2 x63) Kp fun _ =>
       (stS Tryd.prog (sRes 59 x2) fun r0 => K (.tuple #[r0, (.int .i64 0)])))) y5)) x23)
def ref09_Split_an : Ann := { cuts := [], blks := [], loops := [(6, [5]), (9, [5])], drs := [] }
theorem ref09_Split_eq (v0 : Value) (Kp : PK) (K : Value → WP) : cevF Tryd.prog ref09_Split_an Tryd.f24 [v0] Kp K = ref09_Split v0 Kp K := by kernel_rfl
theorem ref09_Split_calls {v0 : Value} {Kp : PK} {K : Value → WP} {w : World} (h : ref09_Split v0 Kp K w) : Calls Tryd.prog 24 #[v0] w (after Kp K) :=
  calls_of_shape (calls_of_cev wide Tryd.func24 (an := ref09_Split_an) (args := [v0]) (cast (congrFun (ref09_Split_eq v0 Kp K) w).symm h))
theorem ref09_Split_cn {v0 : Value} {W : World} {α : Type} {A : List HP} {r : α → Value} {B : α → List HP} (h : ∀ F, Ent W (A ++ F) (ref09_Split v0 noP fun v w => ∃ x, v = r x ∧ sat W (B x ++ F) w)) : Cn Tryd.prog 24 [v0] W A r B :=
  Cn.of (shape := ref09_Split v0) Tryd.call24 (fun h => ref09_Split_calls h) h
theorem ref09_Split_cnP {v0 : Value} {W : World} {α β : Type} {A : List HP} {r : α → Value} {B : α → List HP} {pc : β → List PanicEntry} {Bp : β → List HP} (h : ∀ F, Ent W (A ++ F) (ref09_Split v0 (fun ch w => ∃ y, ch = pc y ∧ sat W (Bp y ++ F) w) fun v w => ∃ x, v = r x ∧ sat W (B x ++ F) w)) : CnP Tryd.prog 24 [v0] W A r B pc Bp :=
  CnP.of (shape := ref09_Split v0) Tryd.call24 (fun h => ref09_Split_calls h) h

/-- ref09_Forms -/
def ref09_Forms (v0 : Value) (Kp : PK) (K : Value → WP) : WP :=
  opN Tryd.prog (sBox 59 v0) Kp fun x1 =>
  opN Tryd.prog (sCall (fn 35) []) Kp fun x15 =>
  opN Tryd.prog (sExt x15 0) Kp fun x16 =>
  opN Tryd.prog (sExt x15 1) Kp fun x17 =>
  opN Tryd.prog (sExt x15 2) Kp fun x18 =>
  opN Tryd.prog (sFA 59 x1 1) Kp fun x20 =>
  opN Tryd.prog (sLoad 3 x20) Kp fun x21 =>
  opN Tryd.prog (sBin .sub 3 x21 (.int .i64 1)) Kp fun x22 =>
  opN Tryd.prog (sIA 28 x18 x22) Kp fun x23 =>
  opN Tryd.prog (sLoad 9 x23) Kp fun x24 =>
  opN Tryd.prog (sFA 59 x1 2) Kp fun x25 =>
  opN Tryd.prog (sLoad 3 x25) Kp fun x26 =>
  opN Tryd.prog (sCall (fn 36) [x26]) Kp fun x27 =>
  cut1 (fun J1 =>
   opN Tryd.prog (sFA 59 x1 2) Kp fun x28 =>
   opN Tryd.prog (sLoad 3 x28) Kp fun x29 =>
   opN Tryd.prog (sBin .lss 3 x29 (.int .i64 10)) Kp fun x30 =>
   condS x30
   (opN Tryd.prog (sSl 9 x27 (some (.int .i64 1)) none none) Kp fun x32 =>
    opN Tryd.prog (sBin .add 9 (.string ⟨#[32]⟩) x32) Kp fun x33 =>
    J1 x33)
   (J1 x27)) fun _ z9 =>
  drS (stS Tryd.prog (sFA 59 x1 0) fun x34 =>
   stS Tryd.prog (sLoad 3 x34) fun x35 =>
   stS Tryd.prog (sBin .quo 3 x35 (.int .i64 100)) fun x36 =>
   stD Tryd.prog (sFA 59 x1 0) fun D4 x38 =>
   stD Tryd.prog (sLoad 3 x38) fun D5 x39 =>
   opN Tryd.prog (sCall (fn 36) [x36]) Kp fun x37 =>
   (fun w => D5 w ∧ (fun w => D4 w ∧ (opN Tryd.prog (sCall (fn 36) [x39]) Kp fun x40 =>
      stS Tryd.prog (sBin .add 9 x37 x40) fun x41 =>
      drS (stD Tryd.prog (sFA 59 x1 6) fun D1 x43 =>
       stD Tryd.prog (sLoad 3 x43) fun D2 x44 =>
       stD Tryd.prog (sIA 28 x16 x44) fun D3 x45 =>
       stD Tryd.prog (sLoad 9 x45) fun D4 x46 =>
       stD Tryd.prog (sBin .add 9 x46 (.string ⟨#[44, 32]⟩)) fun D5 x47 =>
       stS Tryd.prog (sFA 59 x1 2) fun x48 =>
       stS Tryd.prog (sLoad 3 x48) fun x49 =>
       stD Tryd.prog (sLoad 59 x1) fun D17 x59 =>
       opN Tryd.prog (sCall (fn 36) [x49]) Kp fun x50 =>
       (fun w => D17 w ∧ (fun w => D5 w ∧ (fun w => D4 w ∧ (fun w => D3 w ∧ (fun w => D2 w ∧ (fun w => D1 w ∧ (stD Tryd.prog (sBin .add 9 x47 x50) fun D9 x51 =>
              stD Tryd.prog (sBin .add 9 x51 (.string ⟨#[32]⟩)) fun D10 x52 =>
              stD Tryd.prog (sBin .add 9 x52 x24) fun D12 x54 =>
              stD Tryd.prog (sBin .add 9 x54 (.string ⟨#[32]⟩)) fun D13 x55 =>
              stD Tryd.prog (sBin .add 9 x55 x41) fun D15 x57 =>
              stD Tryd.prog (sBin .add 9 x57 (.string ⟨#[32]⟩)) fun D16 x58 =>
              opN Tryd.prog (sCall (fn 37) [x59]) Kp fun x60 =>
              (fun w => D16 w ∧ (fun w => D15 w ∧ (fun w => D13 w ∧ (fun w => D12 w ∧ (fun w => D10 w ∧ (fun w => D9 w ∧ (fun w => D5 w ∧ (fun w => D4 w ∧ (fun w => D3 w ∧ (fun w => D2 w ∧ (fun w => D1 w ∧ (stS Tryd.prog (sBin .add 9 x58 x60) fun x61 =>
                      stS Tryd.prog (sBin .add 9 x61 (.string ⟨#[32, 71, 77, 84]⟩)) fun x62 =>
                      drS (stD Tryd.prog (sFA 59 x1 6) fun D1 x64 =>
                      stD Tryd.prog (sLoad 3 x64) fun D2 x65 =>
                      stD Tryd.prog (sIA 28 x17 x65) fun D3 x66 =>
                      stD Tryd.prog (sLoad 9 x66) fun D4 x67 =>
                      stD Tryd.prog (sBin .add 9 x67 (.string ⟨#[44, 32]⟩)) fun D5 x68 =>
                      stS Tryd.prog (sFA 59 x1 2) fun x69 =>
                      stS Tryd.prog (sLoad 3 x69) fun x70 =>
                      stD Tryd.prog (sFA 59 x1 0) fun D14 x77 =>
                      stD Tryd.prog (sLoad 3 x77) fun D15 x78 =>
                      stD Tryd.prog (sLoad 59 x1) fun D19 x82 =>
                      opN Tryd.prog (sCall (fn 36) [x70]) Kp fun x71 =>
                      (fun w => D19 w ∧ (fun w => D15 w ∧ (fun w => D14 w ∧ (fun w => D5 w ∧ (fun w => D4 w ∧ (fun w => D3 w ∧ (fun w => D2 w ∧ (fun w => D1 w ∧ (stD Tryd.prog (sBin .add 9 x68 x71) fun D9 x72 =>
                      stD Tryd.prog (sBin .add 9 x72 (.string ⟨#[45]⟩)) fun D10 x73 =>
                      stD Tryd.prog (sBin .add 9 x73 x24) fun D12 x75 =>
                      stD Tryd.prog (sBin .add 9 x75 (.string ⟨#[45]⟩)) fun D13 x76 =>
                      opN Tryd.prog (sCall (fn 36) [x78]) Kp fun x79 =>
                      (fun w => D13 w ∧ (fun w => D12 w ∧ (fun w => D10 w ∧ (fun w => D9 w ∧ (fun w => D19 w ∧ (fun w => D5 w ∧ (fun w => D4 w ∧ (fun w => D3 w ∧ (fun w => D2 w ∧ (fun w => D1 w ∧ (stD Tryd.prog (sBin .add 9 x76 x79) fun D17 x80 =>
                      stD Tryd.prog (sBin .add 9 x80 (.string ⟨#[32]⟩)) fun D18 x81 =>
                      opN Tryd.prog (sCall (fn 37) [x82]) Kp fun x83 =>
                      (fun w => D18 w ∧ (fun w => D17 w ∧ (fun w => D13 w ∧ (fun w => D12 w ∧ (fun w => D10 w ∧ (fun w => D9 w ∧ (fun w => D5 w ∧ (fun w => D4 w ∧ (fun w => D3 w ∧ (fun w => D2 w ∧ (fun w => D1 w ∧ (stS Tryd.prog (sBin .add 9 x81 x83) fun x84 =>
                      stS Tryd.prog (sBin .add 9 x84 (.string ⟨#[32, 71, 77, 84]⟩)) fun x85 =>
                      drS (stD Tryd.prog (sFA 59 x1 6) fun D1 x87 =>
                      stD Tryd.prog (sLoad 3 x87) fun D2 x88 =>
                      stD Tryd.prog (sIA 28 x16 x88) fun D3 x89 =>
                      stD Tryd.prog (sLoad 9 x89) fun D4 x90 =>
                      stD Tryd.prog (sBin .add 9 x90 (.string ⟨#[32]⟩)) fun D5 x91 =>
                      stD Tryd.prog (sBin .add 9 x91 x24) fun D7 x93 =>
                      stD Tryd.prog (sBin .add 9 x93 (.string ⟨#[32]⟩)) fun D8 x94 =>
                      stD Tryd.prog (sBin .add 9 x94 z9) fun D10 x96 =>
                      stD Tryd.prog (sBin .add 9 x96 (.string ⟨#[32]⟩)) fun D11 x97 =>
                      stS Tryd.prog (sLoad 59 x1) fun x98 =>
                      opN Tryd.prog (sCall (fn 37) [x98]) Kp fun x99 =>
                      (fun w => D11 w ∧ (fun w => D10 w ∧ (fun w => D8 w ∧ (fun w => D7 w ∧ (fun w => D5 w ∧ (fun w => D4 w ∧ (fun w => D3 w ∧ (fun w => D2 w ∧ (fun w => D1 w ∧ (stS Tryd.prog (sBin .add 9 x97 x99) fun x100 =>
                      stS Tryd.prog (sBin .add 9 x100 (.string ⟨#[32]⟩)) fun x101 =>
                      stS Tryd.prog (sBin .add 9 x101 x41) fun x103 =>
                      K (.tuple #[x62, x85, x103])) w) w) w) w) w) w) w) w) w))) w) w) w) w) w) w) w) w) w) w) w)) w) w) w) w) w) w) w) w) w) w)) w) w) w) w) w) w) w) w))) w) w) w) w) w) w) w) w) w) w) w)) w) w) w) w) w) w))) w) w))
def ref09_Forms_an : Ann := { cuts := [(6, [9])], blks := [], loops := [], drs := [(6, [(0, 1), (1, 1), (2, 1), (4, 3), (5, 3), (3, 0), (6, 0), (7, 1), (8, 1)]), (7, [(0, 2), (1, 3), (2, 3), (3, 3), (4, 3), (5, 3), (6, 1), (7, 1), (11, 2), (14, 2), (17, 3), (8, 0), (9, 3), (10, 3), (12, 3), (13, 3), (15, 3), (16, 3), (18, 0), (19, 1), (20, 1), (21, 1)]), (8, [(0, 2), (1, 3), (2, 3), (3, 3), (4, 3), (5, 3), (6, 1), (7, 1), (11, 2), (14, 3), (15, 3), (19, 3), (8, 0), (9, 3), (10, 3), (12, 3), (13, 3), (16, 0), (17, 3), (18, 3), (20, 0), (21, 1), (22, 1), (23, 1)]), (9, [(0, 2), (1, 3), (2, 3), (3, 3), (4, 3), (5, 3), (6, 2), (7, 3), (8, 3), (9, 2), (10, 3), (11, 3), (12, 1), (16, 2), (13, 0), (14, 1), (15, 1), (17, 1), (18, 1)])] }
theorem ref09_Forms_eq (v0 : Value) (Kp : PK) (K : Value → WP) : cevF Tryd.prog ref09_Forms_an Tryd.f25 [v0] Kp K = ref09_Forms v0 Kp K := by kernel_rfl
theorem ref09_Forms_calls {v0 : Value} {Kp : PK} {K : Value → WP} {w : World} (h : ref09_Forms v0 Kp K w) : Calls Tryd.prog 25 #[v0] w (after Kp K) :=
  calls_of_shape (calls_of_cev wide Tryd.func25 (an := ref09_Forms_an) (args := [v0]) (cast (congrFun (ref09_Forms_eq v0 Kp K) w).symm h))
theorem ref09_Forms_cn {v0 : Value} {W : World} {α : Type} {A : List HP} {r : α → Value} {B : α → List HP} (h : ∀ F, Ent W (A ++ F) (ref09_Forms v0 noP fun v w => ∃ x, v = r x ∧ sat W (B x ++ F) w)) : Cn Tryd.prog 25 [v0] W A r B :=
  Cn.of (shape := ref09_Forms v0) Tryd.call25 (fun h => ref09_Forms_calls h) h
theorem ref09_Forms_cnP {v0 : Value} {W : World} {α β : Type} {A : List HP} {r : α → Value} {B : α → List HP} {pc : β → List PanicEntry} {Bp : β → List HP} (h : ∀ F, Ent W (A ++ F) (ref09_Forms v0 (fun ch w => ∃ y, ch = pc y ∧ sat W (Bp y ++ F) w) fun v w => ∃ x, v = r x ∧ sat W (B x ++ F) w)) : CnP Tryd.prog 25 [v0] W A r B pc Bp :=
  CnP.of (shape := ref09_Forms v0) Tryd.call25 (fun h => ref09_Forms_calls h) h

/-- head_First -/
def head_First (v0 v1 : Value) (Kp : PK) (K : Value → WP) : WP :=
  opN Tryd.prog (sCall (fn 30) [v0, v1]) Kp fun x10 =>
  opN Tryd.prog (sLen #[28] 3 [x10]) Kp fun x11 =>
  loop1 (fun I1 m1 _ y12 =>
   opN Tryd.prog (sBin .lss 3 y12 x11) Kp fun x13 =>
   condS x13
   (opN Tryd.prog (sIA 28 x10 y12) Kp fun x14 =>
    opN Tryd.prog (sLoad 9 x14) Kp fun x15 =>
    K (.tuple #[x15, (.bool true)]))
   (K (.tuple #[(.string ⟨#[]⟩), (.bool false)]))) (.int .i64 0)
def head_First_an : Ann := { cuts := [], blks := [], loops := [(2, [12])], drs := [] }
theorem head_First_eq (v0 v1 : Value) (Kp : PK) (K : Value → WP) : cevF Tryd.prog head_First_an Tryd.f26 [v0, v1] Kp K = head_First v0 v1 Kp K := by kernel_rfl
theorem head_First_calls {v0 v1 : Value} {Kp : PK} {K : Value → WP} {w : World} (h : head_First v0 v1 Kp K w) : Calls Tryd.prog 26 #[v0, v1] w (after Kp K) :=
  calls_of_shape (calls_of_cev wide Tryd.func26 (an := head_First_an) (args := [v0, v1]) (cast (congrFun (head_First_eq v0 v1 Kp K) w).symm h))
theorem head_First_cn {v0 v1 : Value} {W : World} {α : Type} {A : List HP} {r : α → Value} {B : α → List HP} (h : ∀ F, Ent W (A ++ F) (head_First v0 v1 noP fun v w => ∃ x, v = r x ∧ sat W (B x ++ F) w)) : Cn Tryd.prog 26 [v0, v1] W A r B :=
  Cn.of (shape := head_First v0 v1) Tryd.call26 (fun h => head_First_calls h) h
theorem head_First_cnP {v0 v1 : Value} {W : World} {α β : Type} {A : List HP} {r : α → Value} {B : α → List HP} {pc : β → List PanicEntry} {Bp : β → List HP} (h : ∀ F, Ent W (A ++ F) (head_First v0 v1 (fun ch w => ∃ y, ch = pc y ∧ sat W (Bp y ++ F) w) fun v w => ∃ x, v = r x ∧ sat W (B x ++ F) w)) : CnP Tryd.prog 26 [v0, v1] W A r B pc Bp :=
  CnP.of (shape := head_First v0 v1) Tryd.call26 (fun h => head_First_calls h) h

/-- fields_ParseTag -/
def fields_ParseTag (v0 : Value) (Kp : PK) (K : Value → WP) : WP :=
  opN Tryd.prog (sAlloc 30) Kp fun x2 =>
  opN Tryd.prog (sCall (fn 38) [v0]) Kp fun x8 =>
  opN Tryd.prog (sExt x8 0) Kp fun x9 =>
  opN Tryd.prog (sExt x8 1) Kp fun x10 =>
  opN Tryd.prog (sAlloc 30) Kp fun x4 =>
  opN Tryd.prog (sStore 30 x4 x9) Kp fun _ =>
  opN Tryd.prog (sUn .not x10) Kp fun x12 =>
  condS x12
  (opN Tryd.prog (sBuild 30 []) Kp fun x13 =>
   opN Tryd.prog (sStore 30 x2 x13) Kp fun _ =>
   (stS Tryd.prog (sRes 30 x2) fun r0 => K (.tuple #[r0, (.int .i64 42)])))
  (opN Tryd.prog (sLoad 30 x4) Kp fun x14 =>
   opN Tryd.prog (sStore 30 x2 x14) Kp fun _ =>
   (stS Tryd.prog (sRes 30 x2) fun r0 => K (.tuple #[r0, (.int .i64 0)])))
def fields_ParseTag_an : Ann := { cuts := [], blks := [], loops := [], drs := [] }
theorem fields_ParseTag_eq (v0 : Value) (Kp : PK) (K : Value → WP) : cevF Tryd.prog fields_ParseTag_an Tryd.f27 [v0] Kp K = fields_ParseTag v0 Kp K := by kernel_rfl
theorem fields_ParseTag_calls {v0 : Value} {Kp : PK} {K : Value → WP} {w : World} (h : fields_ParseTag v0 Kp K w) : Calls Tryd.prog 27 #[v0] w (after Kp K) :=
  calls_of_shape (calls_of_cev wide Tryd.func27 (an := fields_ParseTag_an) (args := [v0]) (cast (congrFun (fields_ParseTag_eq v0 Kp K) w).symm h))
theorem fields_ParseTag_cn {v0 : Value} {W : World} {α : Type} {A : List HP} {r : α → Value} {B : α → List HP} (h : ∀ F, Ent W (A ++ F) (fields_ParseTag v0 noP fun v w => ∃ x, v = r x ∧ sat W (B x ++ F) w)) : Cn Tryd.prog 27 [v0] W A r B :=
  Cn.of (shape := fields_ParseTag v0) Tryd.call27 (fun h => fields_ParseTag_calls h) h
theorem fields_ParseTag_cnP {v0 : Value} {W : World} {α β : Type} {A : List HP} {r : α → Value} {B : α → List HP} {pc : β → List PanicEntry} {Bp : β → List HP} (h : ∀ F, Ent W (A ++ F) (fields_ParseTag v0 (fun ch w => ∃ y, ch = pc y ∧ sat W (Bp y ++ F) w) fun v w => ∃ x, v = r x ∧ sat W (B x ++ F) w)) : CnP Tryd.prog 27 [v0] W A r B pc Bp :=
  CnP.of (shape := fields_ParseTag v0) Tryd.call27 (fun h => fields_ParseTag_calls h) h

/-- dates_Parse -/
def dates_Parse (v0 v1 : Value) (Kp : PK) (K : Value → WP) : WP :=
  opN Tryd.prog (sBuild 89 [(0, (fn 39)), (1, (fn 40)), (2, (fn 41))]) Kp fun x12 =>
  loop3 (fun I1 m1 _ y6 y7 y13 =>
   opN Tryd.prog (sBin .lss 3 y13 (.int .i64 3)) Kp fun x14 =>
   condS x14
   (opN Tryd.prog (sIx 89 x12 y13) Kp fun x16 =>
    opN Tryd.prog (sCall (fn 42) [v0, y13, v1, x16]) Kp fun x22 =>
    opN Tryd.prog (sExt x22 0) Kp fun x23 =>
    opN Tryd.prog (sExt x22 1) Kp fun x24 =>
    condS x24
    (K (.tuple #[x23, (.int .i64 0)]))
    (opN Tryd.prog (sBin .add 3 y13 (.int .i64 1)) Kp fun x27 =>
     next3 I1 m1 y6 y7 x27))
   (K (.tuple #[y6, y7]))) (.int .i64 0) (.int .i64 41) (.int .i64 0)
def dates_Parse_an : Ann := { cuts := [], blks := [], loops := [(3, [6, 7, 13])], drs := [] }
theorem dates_Parse_eq (v0 v1 : Value) (Kp : PK) (K : Value → WP) : cevF Tryd.prog dates_Parse_an Tryd.f28 [v0, v1] Kp K = dates_Parse v0 v1 Kp K := by kernel_rfl
theorem dates_Parse_calls {v0 v1 : Value} {Kp : PK} {K : Value → WP} {w : World} (h : dates_Parse v0 v1 Kp K w) : Calls Tryd.prog 28 #[v0, v1] w (after Kp K) :=
  calls_of_shape (calls_of_cev wide Tryd.func28 (an := dates_Parse_an) (args := [v0, v1]) (cast (congrFun (dates_Parse_eq v0 v1 Kp K) w).symm h))
theorem dates_Parse_cn {v0 v1 : Value} {W : World} {α : Type} {A : List HP} {r : α → Value} {B : α → List HP} (h : ∀ F, Ent W (A ++ F) (dates_Parse v0 v1 noP fun v w => ∃ x, v = r x ∧ sat W (B x ++ F) w)) : Cn Tryd.prog 28 [v0, v1] W A r B :=
  Cn.of (shape := dates_Parse v0 v1) Tryd.call28 (fun h => dates_Parse_calls h) h
theorem dates_Parse_cnP {v0 v1 : Value} {W : World} {α β : Type} {A : List HP} {r : α → Value} {B : α → List HP} {pc : β → List PanicEntry} {Bp : β → List HP} (h : ∀ F, Ent W (A ++ F) (dates_Parse v0 v1 (fun ch w => ∃ y, ch = pc y ∧ sat W (Bp y ++ F) w) fun v w => ∃ x, v = r x ∧ sat W (B x ++ F) w)) : CnP Tryd.prog 28 [v0, v1] W A r B pc Bp :=
  CnP.of (shape := dates_Parse v0 v1) Tryd.call28 (fun h => dates_Parse_calls h) h

/-- ref01_Lower -/
def ref01_Lower (v0 : Value) (Kp : PK) (K : Value → WP) : WP :=
  opN Tryd.prog (sConv 9 91 v0) Kp fun x6 =>
  loop1 (fun I1 m1 _ y4 =>
   opN Tryd.prog (sLen #[91] 3 [x6]) Kp fun x9 =>
   opN Tryd.prog (sBin .lss 3 y4 x9) Kp fun x10 =>
   condS x10
   (opN Tryd.prog (sIA 91 x6 y4) Kp fun x15 =>
    opN Tryd.prog (sLoad 5 x15) Kp fun x16 =>
    opN Tryd.prog (sBin .geq 5 x16 (.int .u8 65)) Kp fun x17 =>
    gdK x17 true (fun k => k x6) fun x19 =>
    gdK x17 true (fun k => k y4) fun x20 =>
    gdK x17 true (opN Tryd.prog (sIA 91 x19 x20) Kp) fun x21 =>
    gdK x17 true (opN Tryd.prog (sLoad 5 x21) Kp) fun x22 =>
    gdK x17 true (opN Tryd.prog (sBin .leq 5 x22 (.int .u8 90)) Kp) fun x23 =>
    opN Tryd.prog (sPick x17 x23 (.bool false)) Kp fun x24 =>
    condS x24
    (opN Tryd.prog (sIA 91 x6 y4) Kp fun x29 =>
     opN Tryd.prog (sLoad 5 x29) Kp fun x30 =>
     opN Tryd.prog (sBin .add 5 x30 (.int .u8 32)) Kp fun x31 =>
     opN Tryd.prog (sIA 91 x6 y4) Kp fun x32 =>
     opN Tryd.prog (sStore 5 x32 x31) Kp fun _ =>
     opN Tryd.prog (sBin .add 3 y4 (.int .i64 1)) Kp fun x12 =>
     next1 I1 m1 x12)
    (opN Tryd.prog (sBin .add 3 y4 (.int .i64 1)) Kp fun x12 =>
     next1 I1 m1 x12))
   (opN Tryd.prog (sConv 91 9 x6) Kp fun x34 =>
    K x34)) (.int .i64 0)
def ref01_Lower_an : Ann := { cuts := [], blks := [], loops := [(3, [4])], drs := [] }
theorem ref01_Lower_eq (v0 : Value) (Kp : PK) (K : Value → WP) : cevF Tryd.prog ref01_Lower_an Tryd.f29 [v0] Kp K = ref01_Lower v0 Kp K := by kernel_rfl
theorem ref01_Lower_calls {v0 : Value} {Kp : PK} {K : Value → WP} {w : World} (h : ref01_Lower v0 Kp K w) : Calls Tryd.prog 29 #[v0] w (after Kp K) :=
  calls_of_shape (calls_of_cev wide Tryd.func29 (an := ref01_Lower_an) (args := [v0]) (cast (congrFun (ref01_Lower_eq v0 Kp K) w).symm h))
theorem ref01_Lower_cn {v0 : Value} {W : World} {α : Type} {A : List HP} {r : α → Value} {B : α → List HP} (h : ∀ F, Ent W (A ++ F) (ref01_Lower v0 noP fun v w => ∃ x, v = r x ∧ sat W (B x ++ F) w)) : Cn Tryd.prog 29 [v0] W A r B :=
  Cn.of (shape := ref01_Lower v0) Tryd.call29 (fun h => ref01_Lower_calls h) h
theorem ref01_Lower_cnP {v0 : Value} {W : World} {α β : Type} {A : List HP} {r : α → Value} {B : α → List HP} {pc : β → List PanicEntry} {Bp : β → List HP} (h : ∀ F, Ent W (A ++ F) (ref01_Lower v0 (fun ch w => ∃ y, ch = pc y ∧ sat W (Bp y ++ F) w) fun v w => ∃ x, v = r x ∧ sat W (B x ++ F) w)) : CnP Tryd.prog 29 [v0] W A r B pc Bp :=
  CnP.of (shape := ref01_Lower v0) Tryd.call29 (fun h => ref01_Lower_calls h) h

/-- head_Values -/
def head_Values (v0 v1 : Value) (Kp : PK) (K : Value → WP) : WP :=
  opN Tryd.prog (sLen #[22] 3 [v0]) Kp fun x9 =>
  loop2 (fun I1 m1 _ y5 y10 =>
   opN Tryd.prog (sBin .lss 3 y10 x9) Kp fun x11 =>
   condS x11
   (opN Tryd.prog (sIA 22 v0 y10) Kp fun x12 =>
    opN Tryd.prog (sLoad 37 x12) Kp fun x13 =>
    opN Tryd.prog (sAlloc 37) Kp fun x7 =>
    opN Tryd.prog (sStore 37 x7 x13) Kp fun _ =>
    opN Tryd.prog (sFA 37 x7 0) Kp fun x14 =>
    opN Tryd.prog (sLoad 9 x14) Kp fun x15 =>
    opN Tryd.prog (sCall (fn 43) [x15, v1]) Kp fun x17 =>
    condS x17
    (opN Tryd.prog (sFA 37 x7 1) Kp fun x19 =>
     opN Tryd.prog (sLoad 9 x19) Kp fun x20 =>
     opN Tryd.prog (sBuildSl 28 1 [(0, x20)]) Kp fun x21 =>
     opN Tryd.prog (sApp #[28, 28] 28 [y5, x21]) Kp fun x22 =>
     opN Tryd.prog (sBin .add 3 y10 (.int .i64 1)) Kp fun x23 =>
     next2 I1 m1 x22 x23)
    (opN Tryd.prog (sBin .add 3 y10 (.int .i64 1)) Kp fun x23 =>
     next2 I1 m1 y5 x23))
   (K y5)) (.slice none 0 0) (.int .i64 0)
def head_Values_an : Ann := { cuts := [], blks := [], loops := [(3, [5, 10])], drs := [] }
theorem head_Values_eq (v0 v1 : Value) (Kp : PK) (K : Value → WP) : cevF Tryd.prog head_Values_an Tryd.f30 [v0, v1] Kp K = head_Values v0 v1 Kp K := by kernel_rfl
theorem head_Values_calls {v0 v1 : Value} {Kp : PK} {K : Value → WP} {w : World} (h : head_Values v0 v1 Kp K w) : Calls Tryd.prog 30 #[v0, v1] w (after Kp K) :=
  calls_of_shape (calls_of_cev wide Tryd.func30 (an := head_Values_an) (args := [v0, v1]) (cast (congrFun (head_Values_eq v0 v1 Kp K) w).symm h))
theorem head_Values_cn {v0 v1 : Value} {W : World} {α : Type} {A : List HP} {r : α → Value} {B : α → List HP} (h : ∀ F, Ent W (A ++ F) (head_Values v0 v1 noP fun v w => ∃ x, v = r x ∧ sat W (B x ++ F) w)) : Cn Tryd.prog 30 [v0, v1] W A r B :=
  Cn.of (shape := head_Values v0 v1) Tryd.call30 (fun h => head_Values_calls h) h
theorem head_Values_cnP {v0 v1 : Value} {W : World} {α β : Type} {A : List HP} {r : α → Value} {B : α → List HP} {pc : β → List PanicEntry} {Bp : β → List HP} (h : ∀ F, Ent W (A ++ F) (head_Values v0 v1 (fun ch w => ∃ y, ch = pc y ∧ sat W (Bp y ++ F) w) fun v w => ∃ x, v = r x ∧ sat W (B x ++ F) w)) : CnP Tryd.prog 30 [v0, v1] W A r B pc Bp :=
  CnP.of (shape := head_Values v0 v1) Tryd.call30 (fun h => head_Values_calls h) h

/-- fields_Tags -/
def fields_Tags (v0 : Value) (Kp : PK) (K : Value → WP) : WP :=
  opN Tryd.prog (sCall (fn 44) [v0]) Kp fun x6 =>
  opN Tryd.prog (sEq .eql 9 (.tmp 6) (.const (.string ⟨#[42]⟩)) x6 (.string ⟨#[42]⟩)) Kp fun x7 =>
  condS x7
  (K (.tuple #[(.slice none 0 0), (.bool true), (.int .i64 0)]))
  (opN Tryd.prog (sBuild 95 [(0, (.bool true)), (2, (fn 38))]) Kp fun x10 =>
   opN Tryd.prog (sCall (fn 45) [v0, x10]) Kp fun x11 =>
   opN Tryd.prog (sExt x11 0) Kp fun x12 =>
   opN Tryd.prog (sExt x11 1) Kp fun x13 =>
   opN Tryd.prog (sEq .eql 68 (.tmp 14) (.const (.int .i64 0)) x13 (.int .i64 0)) Kp fun x15 =>
   gdK x15 true (fun k => k x12) fun x17 =>
   gdK x15 true (opN Tryd.prog (sLen #[74] 3 [x17]) Kp) fun x18 =>
   gdK x15 true (opN Tryd.prog (sEq .eql 3 (.tmp 18) (.const (.int .i64 0)) x18 (.int .i64 0)) Kp) fun x19 =>
   opN Tryd.prog (sPick x15 x19 (.bool false)) Kp fun x20 =>
   condS x20
   (K (.tuple #[x12, (.bool false), (.int .i64 42)]))
   (K (.tuple #[x12, (.bool false), x13])))
def fields_Tags_an : Ann := { cuts := [], blks := [], loops := [], drs := [] }
theorem fields_Tags_eq (v0 : Value) (Kp : PK) (K : Value → WP) : cevF Tryd.prog fields_Tags_an Tryd.f31 [v0] Kp K = fields_Tags v0 Kp K := by kernel_rfl
theorem fields_Tags_calls {v0 : Value} {Kp : PK} {K : Value → WP} {w : World} (h : fields_Tags v0 Kp K w) : Calls Tryd.prog 31 #[v0] w (after Kp K) :=
  calls_of_shape (calls_of_cev wide Tryd.func31 (an := fields_Tags_an) (args := [v0]) (cast (congrFun (fields_Tags_eq v0 Kp K) w).symm h))
theorem fields_Tags_cn {v0 : Value} {W : World} {α : Type} {A : List HP} {r : α → Value} {B : α → List HP} (h : ∀ F, Ent W (A ++ F) (fields_Tags v0 noP fun v w => ∃ x, v = r x ∧ sat W (B x ++ F) w)) : Cn Tryd.prog 31 [v0] W A r B :=
  Cn.of (shape := fields_Tags v0) Tryd.call31 (fun h => fields_Tags_calls h) h
theorem fields_Tags_cnP {v0 : Value} {W : World} {α β : Type} {A : List HP} {r : α → Value} {B : α → List HP} {pc : β → List PanicEntry} {Bp : β → List HP} (h : ∀ F, Ent W (A ++ F) (fields_Tags v0 (fun ch w => ∃ y, ch = pc y ∧ sat W (Bp y ++ F) w) fun v w => ∃ x, v = r x ∧ sat W (B x ++ F) w)) : CnP Tryd.prog 31 [v0] W A r B pc Bp :=
  CnP.of (shape := fields_Tags v0) Tryd.call31 (fun h => fields_Tags_calls h) h

/-- strings_Join -/
def strings_Join (v0 v1 : Value) (Kp : PK) (K : Value → WP) : WP :=
  opN Tryd.prog (sLen #[28] 3 [v0]) Kp fun x12 =>
  opN Tryd.prog (sEq .eql 3 (.tmp 12) (.const (.int .i64 0)) x12 (.int .i64 0)) Kp fun x14 =>
  condS x14
  (K (.string ⟨#[]⟩))
  (opN Tryd.prog (sEq .eql 3 (.tmp 12) (.const (.int .i64 1)) x12 (.int .i64 1)) Kp fun x16 =>
   condS x16
   (opN Tryd.prog (sIA 28 v0 (.int .i64 0)) Kp fun x18 =>
    opN Tryd.prog (sLoad 9 x18) Kp fun x19 =>
    K x19)
   (cut1 (fun J1 =>
     opN Tryd.prog (sLen #[9] 3 [v1]) Kp fun x21 =>
     opN Tryd.prog (sBin .gtr 3 x21 (.int .i64 0)) Kp fun x22 =>
     condS x22
     (cut0 (fun J2 =>
       opN Tryd.prog (sLen #[9] 3 [v1]) Kp fun x24 =>
       opN Tryd.prog (sLen #[28] 3 [v0]) Kp fun x26 =>
       opN Tryd.prog (sBin .sub 3 x26 (.int .i64 1)) Kp fun x27 =>
       opN Tryd.prog (sBin .quo 3 (.int .i64 9223372036854775807) x27) Kp fun x28 =>
       opN Tryd.prog (sBin .geq 3 x24 x28) Kp fun x29 =>
       condS x29
       (opN Tryd.prog (sMkI 9 (.string ⟨#[115, 116, 114, 105, 110, 103, 115, 58, 32, 74, 111, 105, 110, 32, 111, 117, 116, 112, 117, 116, 32, 108, 101, 110, 103, 116, 104, 32, 111, 118, 101, 114, 102, 108, 111, 119]⟩)) Kp fun x30 =>
        opN Tryd.prog (sPanic x30) Kp fun _ =>
        J2)
       (J2)) fun _ =>
      opN Tryd.prog (sLen #[9] 3 [v1]) Kp fun x33 =>
      opN Tryd.prog (sLen #[28] 3 [v0]) Kp fun x35 =>
      opN Tryd.prog (sBin .sub 3 x35 (.int .i64 1)) Kp fun x36 =>
      opN Tryd.prog (sBin .mul 3 x33 x36) Kp fun x37 =>
      opN Tryd.prog (sBin .add 3 (.int .i64 0) x37) Kp fun x38 =>
      J1 x38)
     (J1 (.int .i64 0))) fun _ z5 =>
    opN Tryd.prog (sLen #[28] 3 [v0]) Kp fun x40 =>
    loop2 (fun I1 m1 _ y5 y41 =>
     opN Tryd.prog (sBin .lss 3 y41 x40) Kp fun x42 =>
     condS x42
     (opN Tryd.prog (sIA 28 v0 y41) Kp fun x43 =>
      opN Tryd.prog (sLoad 9 x43) Kp fun x44 =>
      cut0 (fun J3 =>
       opN Tryd.prog (sLen #[9] 3 [x44]) Kp fun x46 =>
       opN Tryd.prog (sBin .sub 3 (.int .i64 9223372036854775807) y5) Kp fun x48 =>
       opN Tryd.prog (sBin .gtr 3 x46 x48) Kp fun x49 =>
       condS x49
       (opN Tryd.prog (sMkI 9 (.string ⟨#[115, 116, 114, 105, 110, 103, 115, 58, 32, 74, 111, 105, 110, 32, 111, 117, 116, 112, 117, 116, 32, 108, 101, 110, 103, 116, 104, 32, 111, 118, 101, 114, 102, 108, 111, 119]⟩)) Kp fun x50 =>
        opN Tryd.prog (sPanic x50) Kp fun _ =>
        J3)
       (J3)) fun _ =>
      opN Tryd.prog (sLen #[9] 3 [x44]) Kp fun x53 =>
      opN Tryd.prog (sBin .add 3 y5 x53) Kp fun x54 =>
      opN Tryd.prog (sBin .add 3 y41 (.int .i64 1)) Kp fun x55 =>
      next2 I1 m1 x54 x55)
     (opN Tryd.prog (sAlloc 98) Kp fun x8 =>
      opN Tryd.prog (sCall (fn 46) [x8, y5]) Kp fun x57 =>
      opN Tryd.prog (sIA 28 v0 (.int .i64 0)) Kp fun x59 =>
      opN Tryd.prog (sLoad 9 x59) Kp fun x60 =>
      opN Tryd.prog (sCall (fn 47) [x8, x60]) Kp fun x61 =>
      opN Tryd.prog (sSl 28 v0 (some (.int .i64 1)) none none) Kp fun x63 =>
      opN Tryd.prog (sLen #[28] 3 [x63]) Kp fun x64 =>
      loop1 (fun I2 m2 _ y65 =>
       opN Tryd.prog (sBin .lss 3 y65 x64) Kp fun x66 =>
       condS x66
       (opN Tryd.prog (sIA 28 x63 y65) Kp fun x67 =>
        opN Tryd.prog (sLoad 9 x67) Kp fun x68 =>
        opN Tryd.prog (sCall (fn 47) [x8, v1]) Kp fun x70 =>
        opN Tryd.prog (sCall (fn 47) [x8, x68]) Kp fun x72 =>
        opN Tryd.prog (sBin .add 3 y65 (.int .i64 1)) Kp fun x73 =>
        next1 I2 m2 x73)
       (opN Tryd.prog (sCall (fn 48) [x8]) Kp fun x74 =>
        K x74)) (.int .i64 0))) z5 (.int .i64 0)))
def strings_Join_an : Ann := { cuts := [(10, []), (11, [5]), (16, [])], blks := [], loops := [(12, [5, 41]), (22, [65])], drs := [] }
theorem strings_Join_eq (v0 v1 : Value) (Kp : PK) (K : Value → WP) : cevF Tryd.prog strings_Join_an Tryd.f32 [v0, v1] Kp K = strings_Join v0 v1 Kp K := by kernel_rfl
theorem strings_Join_calls {v0 v1 : Value} {Kp : PK} {K : Value → WP} {w : World} (h : strings_Join v0 v1 Kp K w) : Calls Tryd.prog 32 #[v0, v1] w (after Kp K) :=
  calls_of_shape (calls_of_cev wide Tryd.func32 (an := strings_Join_an) (args := [v0, v1]) (cast (congrFun (strings_Join_eq v0 v1 Kp K) w).symm h))
theorem strings_Join_cn {v0 v1 : Value} {W : World} {α : Type} {A : List HP} {r : α → Value} {B : α → List HP} (h : ∀ F, Ent W (A ++ F) (strings_Join v0 v1 noP fun v w => ∃ x, v = r x ∧ sat W (B x ++ F) w)) : Cn Tryd.prog 32 [v0, v1] W A r B :=
  Cn.of (shape := strings_Join v0 v1) Tryd.call32 (fun h => strings_Join_calls h) h
theorem strings_Join_cnP {v0 v1 : Value} {W : World} {α β : Type} {A : List HP} {r : α → Value} {B : α → List HP} {pc : β → List PanicEntry} {Bp : β → List HP} (h : ∀ F, Ent W (A ++ F) (strings_Join v0 v1 (fun ch w => ∃ y, ch = pc y ∧ sat W (Bp y ++ F) w) fun v w => ∃ x, v = r x ∧ sat W (B x ++ F) w)) : CnP Tryd.prog 32 [v0, v1] W A r B pc Bp :=
  CnP.of (shape := strings_Join v0 v1) Tryd.call32 (fun h => strings_Join_calls h) h

/-- ref09_year -/
def ref09_year (v0 : Value) (Kp : PK) (K : Value → WP) : WP :=
  opN Tryd.prog (sCall (fn 49) [v0]) Kp fun x4 =>
  condS x4
  (K (.int .i64 366))
  (K (.int .i64 365))
def ref09_year_an : Ann := { cuts := [], blks := [], loops := [], drs := [] }
theorem ref09_year_eq (v0 : Value) (Kp : PK) (K : Value → WP) : cevF Tryd.prog ref09_year_an Tryd.f33 [v0] Kp K = ref09_year v0 Kp K := by kernel_rfl
theorem ref09_year_calls {v0 : Value} {Kp : PK} {K : Value → WP} {w : World} (h : ref09_year v0 Kp K w) : Calls Tryd.prog 33 #[v0] w (after Kp K) :=
  calls_of_shape (calls_of_cev wide Tryd.func33 (an := ref09_year_an) (args := [v0]) (cast (congrFun (ref09_year_eq v0 Kp K) w).symm h))
theorem ref09_year_cn {v0 : Value} {W : World} {α : Type} {A : List HP} {r : α → Value} {B : α → List HP} (h : ∀ F, Ent W (A ++ F) (ref09_year v0 noP fun v w => ∃ x, v = r x ∧ sat W (B x ++ F) w)) : Cn Tryd.prog 33 [v0] W A r B :=
  Cn.of (shape := ref09_year v0) Tryd.call33 (fun h => ref09_year_calls h) h
theorem ref09_year_cnP {v0 : Value} {W : World} {α β : Type} {A : List HP} {r : α → Value} {B : α → List HP} {pc : β → List PanicEntry} {Bp : β → List HP} (h : ∀ F, Ent W (A ++ F) (ref09_year v0 (fun ch w => ∃ y, ch = pc y ∧ sat W (Bp y ++ F) w) fun v w => ∃ x, v = r x ∧ sat W (B x ++ F) w)) : CnP Tryd.prog 33 [v0] W A r B pc Bp :=
  CnP.of (shape := ref09_year v0) Tryd.call33 (fun h => ref09_year_calls h) h

/-- ref09_days -/
def ref09_days (v0 v1 : Value) (Kp : PK) (K : Value → WP) : WP :=
  opN Tryd.prog (sEq .eql 3 (.tmp 5) (.const (.int .i64 2)) v1 (.int .i64 2)) Kp fun x7 =>
  condS x7
  (opN Tryd.prog (sCall (fn 49) [v0]) Kp fun x9 =>
   condS x9
   (K (.int .i64 29))
   (K (.int .i64 28)))
  (opN Tryd.prog (sEq .eql 3 (.tmp 5) (.const (.int .i64 4)) v1 (.int .i64 4)) Kp fun x11 =>
   condS x11
   (condS x11
    (K (.int .i64 30))
    (K (.int .i64 31)))
   (opN Tryd.prog (sEq .eql 3 (.tmp 5) (.const (.int .i64 6)) v1 (.int .i64 6)) Kp fun x12 =>
    condS x12
    (condS x12
     (K (.int .i64 30))
     (K (.int .i64 31)))
    (opN Tryd.prog (sEq .eql 3 (.tmp 5) (.const (.int .i64 9)) v1 (.int .i64 9)) Kp fun x13 =>
     condS x13
     (condS x13
      (K (.int .i64 30))
      (K (.int .i64 31)))
     (opN Tryd.prog (sEq .eql 3 (.tmp 5) (.const (.int .i64 11)) v1 (.int .i64 11)) Kp fun x14 =>
      condS x14
      (K (.int .i64 30))
      (K (.int .i64 31))))))
def ref09_days_an : Ann := { cuts := [], blks := [], loops := [], drs := [] }
theorem ref09_days_eq (v0 v1 : Value) (Kp : PK) (K : Value → WP) : cevF Tryd.prog ref09_days_an Tryd.f34 [v0, v1] Kp K = ref09_days v0 v1 Kp K := by kernel_rfl
theorem ref09_days_calls {v0 v1 : Value} {Kp : PK} {K : Value → WP} {w : World} (h : ref09_days v0 v1 Kp K w) : Calls Tryd.prog 34 #[v0, v1] w (after Kp K) :=
  calls_of_shape (calls_of_cev wide Tryd.func34 (an := ref09_days_an) (args := [v0, v1]) (cast (congrFun (ref09_days_eq v0 v1 Kp K) w).symm h))
theorem ref09_days_cn {v0 v1 : Value} {W : World} {α : Type} {A : List HP} {r : α → Value} {B : α → List HP} (h : ∀ F, Ent W (A ++ F) (ref09_days v0 v1 noP fun v w => ∃ x, v = r x ∧ sat W (B x ++ F) w)) : Cn Tryd.prog 34 [v0, v1] W A r B :=
  Cn.of (shape := ref09_days v0 v1) Tryd.call34 (fun h => ref09_days_calls h) h
theorem ref09_days_cnP {v0 v1 : Value} {W : World} {α β : Type} {A : List HP} {r : α → Value} {B : α → List HP} {pc : β → List PanicEntry} {Bp : β → List HP} (h : ∀ F, Ent W (A ++ F) (ref09_days v0 v1 (fun ch w => ∃ y, ch = pc y ∧ sat W (Bp y ++ F) w) fun v w => ∃ x, v = r x ∧ sat W (B x ++ F) w)) : CnP Tryd.prog 34 [v0, v1] W A r B pc Bp :=
  CnP.of (shape := ref09_days v0 v1) Tryd.call34 (fun h => ref09_days_calls h) h

/-- ref09_names -/
def ref09_names (Kp : PK) (K : Value → WP) : WP :=
  opN Tryd.prog (sBuildSl 28 7 [(0, (.string ⟨#[83, 117, 110, 100, 97, 121]⟩)), (1, (.string ⟨#[77, 111, 110, 100, 97, 121]⟩)), (2, (.string ⟨#[84, 117, 101, 115, 100, 97, 121]⟩)), (3, (.string ⟨#[87, 101, 100, 110, 101, 115, 100, 97, 121]⟩)), (4, (.string ⟨#[84, 104, 117, 114, 115, 100, 97, 121]⟩)), (5, (.string ⟨#[70, 114, 105, 100, 97, 121]⟩)), (6, (.string ⟨#[83, 97, 116, 117, 114, 100, 97, 121]⟩))]) Kp fun x6 =>
  loop2 (fun I1 m1 _ y4 y5 =>
   opN Tryd.prog (sBin .lss 3 y5 (.int .i64 7)) Kp fun x8 =>
   condS x8
   (opN Tryd.prog (sIA 28 x6 y5) Kp fun x14 =>
    opN Tryd.prog (sLoad 9 x14) Kp fun x15 =>
    opN Tryd.prog (sSl 9 x15 none (some (.int .i64 3)) none) Kp fun x16 =>
    opN Tryd.prog (sBuildSl 28 1 [(0, x16)]) Kp fun x17 =>
    opN Tryd.prog (sApp #[28, 28] 28 [y4, x17]) Kp fun x18 =>
    opN Tryd.prog (sBin .add 3 y5 (.int .i64 1)) Kp fun x10 =>
    next2 I1 m1 x18 x10)
   (opN Tryd.prog (sBuildSl 28 12 [(0, (.string ⟨#[74, 97, 110]⟩)), (1, (.string ⟨#[70, 101, 98]⟩)), (2, (.string ⟨#[77, 97, 114]⟩)), (3, (.string ⟨#[65, 112, 114]⟩)), (4, (.string ⟨#[77, 97, 121]⟩)), (5, (.string ⟨#[74, 117, 110]⟩)), (6, (.string ⟨#[74, 117, 108]⟩)), (7, (.string ⟨#[65, 117, 103]⟩)), (8, (.string ⟨#[83, 101, 112]⟩)), (9, (.string ⟨#[79, 99, 116]⟩)), (10, (.string ⟨#[78, 111, 118]⟩)), (11, (.string ⟨#[68, 101, 99]⟩))]) Kp fun x21 =>
    K (.tuple #[y4, x6, x21]))) (.slice none 0 0) (.int .i64 0)
def ref09_names_an : Ann := { cuts := [], blks := [], loops := [(4, [4, 5])], drs := [] }
theorem ref09_names_eq (Kp : PK) (K : Value → WP) : cevF Tryd.prog ref09_names_an Tryd.f35 [] Kp K = ref09_names Kp K := by kernel_rfl
theorem ref09_names_calls  {Kp : PK} {K : Value → WP} {w : World} (h : ref09_names Kp K w) : Calls Tryd.prog 35 #[] w (after Kp K) :=
  calls_of_shape (calls_of_cev wide Tryd.func35 (an := ref09_names_an) (args := []) (cast (congrFun (ref09_names_eq Kp K) w).symm h))
theorem ref09_names_cn  {W : World} {α : Type} {A : List HP} {r : α → Value} {B : α → List HP} (h : ∀ F, Ent W (A ++ F) (ref09_names noP fun v w => ∃ x, v = r x ∧ sat W (B x ++ F) w)) : Cn Tryd.prog 35 [] W A r B :=
  Cn.of (shape := ref09_names) Tryd.call35 (fun h => ref09_names_calls h) h
theorem ref09_names_cnP  {W : World} {α β : Type} {A : List HP} {r : α → Value} {B : α → List HP} {pc : β → List PanicEntry} {Bp : β → List HP} (h : ∀ F, Ent W (A ++ F) (ref09_names (fun ch w => ∃ y, ch = pc y ∧ sat W (Bp y ++ F) w) fun v w => ∃ x, v = r x ∧ sat W (B x ++ F) w)) : CnP Tryd.prog 35 [] W A r B pc Bp :=
  CnP.of (shape := ref09_names) Tryd.call35 (fun h => ref09_names_calls h) h

/-- ref09_two -/
def ref09_two (v0 : Value) (Kp : PK) (K : Value → WP) : WP :=
  opN Tryd.prog (sBin .quo 3 v0 (.int .i64 10)) Kp fun x4 =>
  opN Tryd.prog (sBin .rem 3 x4 (.int .i64 10)) Kp fun x5 =>
  opN Tryd.prog (sBin .add 3 (.int .i64 48) x5) Kp fun x6 =>
  opN Tryd.prog (sConv 3 5 x6) Kp fun x7 =>
  opN Tryd.prog (sBin .rem 3 v0 (.int .i64 10)) Kp fun x9 =>
  opN Tryd.prog (sBin .add 3 (.int .i64 48) x9) Kp fun x10 =>
  opN Tryd.prog (sConv 3 5 x10) Kp fun x11 =>
  opN Tryd.prog (sBuildSl 91 2 [(0, x7), (1, x11)]) Kp fun x12 =>
  opN Tryd.prog (sConv 91 9 x12) Kp fun x13 =>
  K x13
def ref09_two_an : Ann := { cuts := [], blks := [], loops := [], drs := [] }
theorem ref09_two_eq (v0 : Value) (Kp : PK) (K : Value → WP) : cevF Tryd.prog ref09_two_an Tryd.f36 [v0] Kp K = ref09_two v0 Kp K := by kernel_rfl
theorem ref09_two_calls {v0 : Value} {Kp : PK} {K : Value → WP} {w : World} (h : ref09_two v0 Kp K w) : Calls Tryd.prog 36 #[v0] w (after Kp K) :=
  calls_of_shape (calls_of_cev wide Tryd.func36 (an := ref09_two_an) (args := [v0]) (cast (congrFun (ref09_two_eq v0 Kp K) w).symm h))
theorem ref09_two_cn {v0 : Value} {W : World} {α : Type} {A : List HP} {r : α → Value} {B : α → List HP} (h : ∀ F, Ent W (A ++ F) (ref09_two v0 noP fun v w => ∃ x, v = r x ∧ sat W (B x ++ F) w)) : Cn Tryd.prog 36 [v0] W A r B :=
  Cn.of (shape := ref09_two v0) Tryd.call36 (fun h => ref09_two_calls h) h
theorem ref09_two_cnP {v0 : Value} {W : World} {α β : Type} {A : List HP} {r : α → Value} {B : α → List HP} {pc : β → List PanicEntry} {Bp : β → List HP} (h : ∀ F, Ent W (A ++ F) (ref09_two v0 (fun ch w => ∃ y, ch = pc y ∧ sat W (Bp y ++ F) w) fun v w => ∃ x, v = r x ∧ sat W (B x ++ F) w)) : CnP Tryd.prog 36 [v0] W A r B pc Bp :=
  CnP.of (shape := ref09_two v0) Tryd.call36 (fun h => ref09_two_calls h) h

/-- ref09_clock -/
def ref09_clock (v0 : Value) (Kp : PK) (K : Value → WP) : WP :=
  opN Tryd.prog (sBox 59 v0) Kp fun x1 =>
  drS (stS Tryd.prog (sFA 59 x1 3) fun x3 =>
   stS Tryd.prog (sLoad 3 x3) fun x4 =>
   stD Tryd.prog (sFA 59 x1 4) fun D4 x7 =>
   stD Tryd.prog (sLoad 3 x7) fun D5 x8 =>
   stD Tryd.prog (sFA 59 x1 5) fun D9 x12 =>
   stD Tryd.prog (sLoad 3 x12) fun D10 x13 =>
   opN Tryd.prog (sCall (fn 36) [x4]) Kp fun x5 =>
   (fun w => D10 w ∧ (fun w => D9 w ∧ (fun w => D5 w ∧ (fun w => D4 w ∧ (stD Tryd.prog (sBin .add 9 x5 (.string ⟨#[58]⟩)) fun D3 x6 =>
        opN Tryd.prog (sCall (fn 36) [x8]) Kp fun x9 =>
        (fun w => D3 w ∧ (fun w => D10 w ∧ (fun w => D9 w ∧ (stD Tryd.prog (sBin .add 9 x6 x9) fun D7 x10 =>
            stD Tryd.prog (sBin .add 9 x10 (.string ⟨#[58]⟩)) fun D8 x11 =>
            opN Tryd.prog (sCall (fn 36) [x13]) Kp fun x14 =>
            (fun w => D8 w ∧ (fun w => D7 w ∧ (fun w => D3 w ∧ (stS Tryd.prog (sBin .add 9 x11 x14) fun x15 =>
                K x15) w) w) w)) w) w) w)) w) w) w) w))
def ref09_clock_an : Ann := { cuts := [], blks := [], loops := [], drs := [(1, [(0, 1), (1, 1), (4, 3), (5, 3), (9, 3), (10, 3), (2, 0), (3, 3), (6, 0), (7, 3), (8, 3), (11, 0), (12, 1), (13, 1)])] }
theorem ref09_clock_eq (v0 : Value) (Kp : PK) (K : Value → WP) : cevF Tryd.prog ref09_clock_an Tryd.f37 [v0] Kp K = ref09_clock v0 Kp K := by kernel_rfl
theorem ref09_clock_calls {v0 : Value} {Kp : PK} {K : Value → WP} {w : World} (h : ref09_clock v0 Kp K w) : Calls Tryd.prog 37 #[v0] w (after Kp K) :=
  calls_of_shape (calls_of_cev wide Tryd.func37 (an := ref09_clock_an) (args := [v0]) (cast (congrFun (ref09_clock_eq v0 Kp K) w).symm h))
theorem ref09_clock_cn {v0 : Value} {W : World} {α : Type} {A : List HP} {r : α → Value} {B : α → List HP} (h : ∀ F, Ent W (A ++ F) (ref09_clock v0 noP fun v w => ∃ x, v = r x ∧ sat W (B x ++ F) w)) : Cn Tryd.prog 37 [v0] W A r B :=
  Cn.of (shape := ref09_clock v0) Tryd.call37 (fun h => ref09_clock_calls h) h
theorem ref09_clock_cnP {v0 : Value} {W : World} {α β : Type} {A : List HP} {r : α → Value} {B : α → List HP} {pc : β → List PanicEntry} {Bp : β → List HP} (h : ∀ F, Ent W (A ++ F) (ref09_clock v0 (fun ch w => ∃ y, ch = pc y ∧ sat W (Bp y ++ F) w) fun v w => ∃ x, v = r x ∧ sat W (B x ++ F) w)) : CnP Tryd.prog 37 [v0] W A r B pc Bp :=
  CnP.of (shape := ref09_clock v0) Tryd.call37 (fun h => ref09_clock_calls h) h

/-- fields_tag -/
def fields_tag (v0 : Value) (Kp : PK) (K : Value → WP) : WP :=
  opN Tryd.prog (sAlloc 30) Kp fun x2 =>
  opN Tryd.prog (sCall (fn 50) [v0, (.string ⟨#[87, 47]⟩)]) Kp fun x10 =>
  opN Tryd.prog (sExt x10 0) Kp fun x11 =>
  opN Tryd.prog (sExt x10 1) Kp fun x12 =>
  opN Tryd.prog (sLen #[9] 3 [x11]) Kp fun x14 =>
  opN Tryd.prog (sBin .lss 3 x14 (.int .i64 2)) Kp fun x15 =>
  gdK x15 false (fun k => k x11) fun x17 =>
  gdK x15 false (opN Tryd.prog (sIx 9 x17 (.int .i64 0)) Kp) fun x18 =>
  gdK x15 false (opN Tryd.prog (sEq .neq 5 (.tmp 18) (.const (.int .u8 34)) x18 (.int .u8 34)) Kp) fun x19 =>
  opN Tryd.prog (sPick x15 (.bool true) x19) Kp fun x20 =>
  gdK x20 false (fun k => k x11) fun x22 =>
  gdK x20 false (fun k => k x11) fun x23 =>
  gdK x20 false (opN Tryd.prog (sLen #[9] 3 [x23]) Kp) fun x24 =>
  gdK x20 false (opN Tryd.prog (sBin .sub 3 x24 (.int .i64 1)) Kp) fun x25 =>
  gdK x20 false (opN Tryd.prog (sIx 9 x22 x25) Kp) fun x26 =>
  gdK x20 false (opN Tryd.prog (sEq .neq 5 (.tmp 26) (.const (.int .u8 34)) x26 (.int .u8 34)) Kp) fun x27 =>
  opN Tryd.prog (sPick x20 (.bool true) x27) Kp fun x28 =>
  condS x28
  (opN Tryd.prog (sBuild 30 []) Kp fun x29 =>
   opN Tryd.prog (sStore 30 x2 x29) Kp fun _ =>
   (stS Tryd.prog (sRes 30 x2) fun r0 => K (.tuple #[r0, (.bool false)])))
  (opN Tryd.prog (sLen #[9] 3 [x11]) Kp fun x32 =>
   opN Tryd.prog (sBin .sub 3 x32 (.int .i64 1)) Kp fun x33 =>
   opN Tryd.prog (sSl 9 x11 (some (.int .i64 1)) (some x33) none) Kp fun x34 =>
   opN Tryd.prog (sConv 9 91 x34) Kp fun x36 =>
   opN Tryd.prog (sLen #[91] 3 [x36]) Kp fun x37 =>
   loop1 (fun I1 m1 _ y38 =>
    opN Tryd.prog (sBin .lss 3 y38 x37) Kp fun x39 =>
    condS x39
    (opN Tryd.prog (sIA 91 x36 y38) Kp fun x40 =>
     opN Tryd.prog (sLoad 5 x40) Kp fun x41 =>
     opN Tryd.prog (sBin .leq 5 x41 (.int .u8 32)) Kp fun x43 =>
     gdK x43 false (fun k => k x41) fun x45 =>
     gdK x43 false (opN Tryd.prog (sEq .eql 5 (.tmp 45) (.const (.int .u8 34)) x45 (.int .u8 34)) Kp) fun x46 =>
     opN Tryd.prog (sPick x43 (.bool true) x46) Kp fun x47 =>
     gdK x47 false (fun k => k x41) fun x49 =>
     gdK x47 false (opN Tryd.prog (sEq .eql 5 (.tmp 49) (.const (.int .u8 127)) x49 (.int .u8 127)) Kp) fun x50 =>
     opN Tryd.prog (sPick x47 (.bool true) x50) Kp fun x51 =>
     condS x51
     (opN Tryd.prog (sBuild 30 []) Kp fun x52 =>
      opN Tryd.prog (sStore 30 x2 x52) Kp fun _ =>
      (stS Tryd.prog (sRes 30 x2) fun r0 => K (.tuple #[r0, (.bool false)])))
     (opN Tryd.prog (sBin .add 3 y38 (.int .i64 1)) Kp fun x53 =>
      next1 I1 m1 x53))
    (opN Tryd.prog (sBuild 30 [(0, x12), (1, x34)]) Kp fun x56 =>
     opN Tryd.prog (sStore 30 x2 x56) Kp fun _ =>
     (stS Tryd.prog (sRes 30 x2) fun r0 => K (.tuple #[r0, (.bool true)])))) (.int .i64 0))
def fields_tag_an : Ann := { cuts := [], blks := [], loops := [(6, [38])], drs := [] }
theorem fields_tag_eq (v0 : Value) (Kp : PK) (K : Value → WP) : cevF Tryd.prog fields_tag_an Tryd.f38 [v0] Kp K = fields_tag v0 Kp K := by kernel_rfl
theorem fields_tag_calls {v0 : Value} {Kp : PK} {K : Value → WP} {w : World} (h : fields_tag v0 Kp K w) : Calls Tryd.prog 38 #[v0] w (after Kp K) :=
  calls_of_shape (calls_of_cev wide Tryd.func38 (an := fields_tag_an) (args := [v0]) (cast (congrFun (fields_tag_eq v0 Kp K) w).symm h))
theorem fields_tag_cn {v0 : Value} {W : World} {α : Type} {A : List HP} {r : α → Value} {B : α → List HP} (h : ∀ F, Ent W (A ++ F) (fields_tag v0 noP fun v w => ∃ x, v = r x ∧ sat W (B x ++ F) w)) : Cn Tryd.prog 38 [v0] W A r B :=
  Cn.of (shape := fields_tag v0) Tryd.call38 (fun h => fields_tag_calls h) h
theorem fields_tag_cnP {v0 : Value} {W : World} {α β : Type} {A : List HP} {r : α → Value} {B : α → List HP} {pc : β → List PanicEntry} {Bp : β → List HP} (h : ∀ F, Ent W (A ++ F) (fields_tag v0 (fun ch w => ∃ y, ch = pc y ∧ sat W (Bp y ++ F) w) fun v w => ∃ x, v = r x ∧ sat W (B x ++ F) w)) : CnP Tryd.prog 38 [v0] W A r B pc Bp :=
  CnP.of (shape := fields_tag v0) Tryd.call38 (fun h => fields_tag_calls h) h

/-- dates_reader_first -/
def dates_reader_first (v0 v1 : Value) (Kp : PK) (K : Value → WP) : WP :=
  opN Tryd.prog (sAlloc 107) Kp fun x4 =>
  opN Tryd.prog (sCall (fn 51) [v0, (.int .i64 5)]) Kp fun x6 =>
  opN Tryd.prog (sCall (fn 52) [v0, (.int .i64 2)]) Kp fun x8 =>
  opN Tryd.prog (sFA 107 x4 2) Kp fun x9 =>
  opN Tryd.prog (sStore 3 x9 x8) Kp fun _ =>
  opN Tryd.prog (sCall (fn 51) [v0, (.int .i64 1)]) Kp fun x11 =>
  opN Tryd.prog (sCall (fn 53) [v0]) Kp fun x13 =>
  opN Tryd.prog (sFA 107 x4 1) Kp fun x14 =>
  opN Tryd.prog (sStore 3 x14 x13) Kp fun _ =>
  opN Tryd.prog (sCall (fn 51) [v0, (.int .i64 1)]) Kp fun x16 =>
  opN Tryd.prog (sCall (fn 52) [v0, (.int .i64 4)]) Kp fun x18 =>
  opN Tryd.prog (sFA 107 x4 0) Kp fun x19 =>
  opN Tryd.prog (sStore 3 x19 x18) Kp fun _ =>
  opN Tryd.prog (sCall (fn 51) [v0, (.int .i64 1)]) Kp fun x21 =>
  opN Tryd.prog (sCall (fn 54) [v0, x4]) Kp fun x23 =>
  opN Tryd.prog (sLoad 107 x4) Kp fun x24 =>
  opN Tryd.prog (sStore 107 x4 x24) Kp fun _ =>
  (stS Tryd.prog (sRes 107 x4) fun r0 => K r0)
def dates_reader_first_an : Ann := { cuts := [], blks := [], loops := [], drs := [] }
theorem dates_reader_first_eq (v0 v1 : Value) (Kp : PK) (K : Value → WP) : cevF Tryd.prog dates_reader_first_an Tryd.f39 [v0, v1] Kp K = dates_reader_first v0 v1 Kp K := by kernel_rfl
theorem dates_reader_first_calls {v0 v1 : Value} {Kp : PK} {K : Value → WP} {w : World} (h : dates_reader_first v0 v1 Kp K w) : Calls Tryd.prog 39 #[v0, v1] w (after Kp K) :=
  calls_of_shape (calls_of_cev wide Tryd.func39 (an := dates_reader_first_an) (args := [v0, v1]) (cast (congrFun (dates_reader_first_eq v0 v1 Kp K) w).symm h))
theorem dates_reader_first_cn {v0 v1 : Value} {W : World} {α : Type} {A : List HP} {r : α → Value} {B : α → List HP} (h : ∀ F, Ent W (A ++ F) (dates_reader_first v0 v1 noP fun v w => ∃ x, v = r x ∧ sat W (B x ++ F) w)) : Cn Tryd.prog 39 [v0, v1] W A r B :=
  Cn.of (shape := dates_reader_first v0 v1) Tryd.call39 (fun h => dates_reader_first_calls h) h
theorem dates_reader_first_cnP {v0 v1 : Value} {W : World} {α β : Type} {A : List HP} {r : α → Value} {B : α → List HP} {pc : β → List PanicEntry} {Bp : β → List HP} (h : ∀ F, Ent W (A ++ F) (dates_reader_first v0 v1 (fun ch w => ∃ y, ch = pc y ∧ sat W (Bp y ++ F) w) fun v w => ∃ x, v = r x ∧ sat W (B x ++ F) w)) : CnP Tryd.prog 39 [v0, v1] W A r B pc Bp :=
  CnP.of (shape := dates_reader_first v0 v1) Tryd.call39 (fun h => dates_reader_first_calls h) h

/-- dates_reader_second -/
def dates_reader_second (v0 v1 : Value) (Kp : PK) (K : Value → WP) : WP :=
  opN Tryd.prog (sAlloc 107) Kp fun x4 =>
  opN Tryd.prog (sNil v0) Kp fun x12 =>
  opN Tryd.prog (sFA 112 x12 0) Kp fun x13 =>
  opN Tryd.prog (sLoad 9 x13) Kp fun x14 =>
  opN Tryd.prog (sBin .add 9 x14 (.string ⟨#[44]⟩)) Kp fun x15 =>
  opN Tryd.prog (sCall (fn 55) [x15, (.int .u8 44)]) Kp fun x16 =>
  opN Tryd.prog (sBin .add 3 x16 (.int .i64 2)) Kp fun x17 =>
  opN Tryd.prog (sCall (fn 51) [v0, x17]) Kp fun x18 =>
  opN Tryd.prog (sCall (fn 52) [v0, (.int .i64 2)]) Kp fun x20 =>
  opN Tryd.prog (sFA 107 x4 2) Kp fun x21 =>
  opN Tryd.prog (sStore 3 x21 x20) Kp fun _ =>
  opN Tryd.prog (sCall (fn 51) [v0, (.int .i64 1)]) Kp fun x23 =>
  opN Tryd.prog (sCall (fn 53) [v0]) Kp fun x25 =>
  opN Tryd.prog (sFA 107 x4 1) Kp fun x26 =>
  opN Tryd.prog (sStore 3 x26 x25) Kp fun _ =>
  opN Tryd.prog (sCall (fn 51) [v0, (.int .i64 1)]) Kp fun x28 =>
  opN Tryd.prog (sCall (fn 52) [v0, (.int .i64 2)]) Kp fun x30 =>
  opN Tryd.prog (sCall (fn 51) [v0, (.int .i64 1)]) Kp fun x32 =>
  opN Tryd.prog (sCall (fn 54) [v0, x4]) Kp fun x34 =>
  cut1 (fun J1 =>
   opN Tryd.prog (sCall (fn 56) [v1]) Kp fun x37 =>
   opN Tryd.prog (sExt x37 0) Kp fun x38 =>
   opN Tryd.prog (sExt x37 1) Kp fun x39 =>
   opN Tryd.prog (sAlloc 107) Kp fun x7 =>
   opN Tryd.prog (sStore 107 x7 x38) Kp fun _ =>
   opN Tryd.prog (sEq .eql 68 (.tmp 40) (.const (.int .i64 0)) x39 (.int .i64 0)) Kp fun x41 =>
   condS x41
   (opN Tryd.prog (sFA 107 x7 0) Kp fun x42 =>
    opN Tryd.prog (sLoad 3 x42) Kp fun x43 =>
    J1 x43)
   (J1 (.int .i64 1970))) fun _ z6 =>
  opN Tryd.prog (sBin .add 3 z6 (.int .i64 50)) Kp fun x45 =>
  opN Tryd.prog (sMin #[3, 3] 3 [x45, (.int .i64 9999)]) Kp fun x46 =>
  opN Tryd.prog (sBin .sub 3 x46 x30) Kp fun x50 =>
  opN Tryd.prog (sBin .add 3 x50 (.int .i64 10000)) Kp fun x51 =>
  opN Tryd.prog (sBin .rem 3 x51 (.int .i64 100)) Kp fun x52 =>
  opN Tryd.prog (sBin .sub 3 x46 x52) Kp fun x53 =>
  opN Tryd.prog (sFA 107 x4 0) Kp fun x54 =>
  opN Tryd.prog (sStore 3 x54 x53) Kp fun _ =>
  opN Tryd.prog (sLoad 107 x4) Kp fun x55 =>
  opN Tryd.prog (sStore 107 x4 x55) Kp fun _ =>
  (stS Tryd.prog (sRes 107 x4) fun r0 => K r0)
def dates_reader_second_an : Ann := { cuts := [(13, [6])], blks := [], loops := [], drs := [] }
theorem dates_reader_second_eq (v0 v1 : Value) (Kp : PK) (K : Value → WP) : cevF Tryd.prog dates_reader_second_an Tryd.f40 [v0, v1] Kp K = dates_reader_second v0 v1 Kp K := by kernel_rfl
theorem dates_reader_second_calls {v0 v1 : Value} {Kp : PK} {K : Value → WP} {w : World} (h : dates_reader_second v0 v1 Kp K w) : Calls Tryd.prog 40 #[v0, v1] w (after Kp K) :=
  calls_of_shape (calls_of_cev wide Tryd.func40 (an := dates_reader_second_an) (args := [v0, v1]) (cast (congrFun (dates_reader_second_eq v0 v1 Kp K) w).symm h))
theorem dates_reader_second_cn {v0 v1 : Value} {W : World} {α : Type} {A : List HP} {r : α → Value} {B : α → List HP} (h : ∀ F, Ent W (A ++ F) (dates_reader_second v0 v1 noP fun v w => ∃ x, v = r x ∧ sat W (B x ++ F) w)) : Cn Tryd.prog 40 [v0, v1] W A r B :=
  Cn.of (shape := dates_reader_second v0 v1) Tryd.call40 (fun h => dates_reader_second_calls h) h
theorem dates_reader_second_cnP {v0 v1 : Value} {W : World} {α β : Type} {A : List HP} {r : α → Value} {B : α → List HP} {pc : β → List PanicEntry} {Bp : β → List HP} (h : ∀ F, Ent W (A ++ F) (dates_reader_second v0 v1 (fun ch w => ∃ y, ch = pc y ∧ sat W (Bp y ++ F) w) fun v w => ∃ x, v = r x ∧ sat W (B x ++ F) w)) : CnP Tryd.prog 40 [v0, v1] W A r B pc Bp :=
  CnP.of (shape := dates_reader_second v0 v1) Tryd.call40 (fun h => dates_reader_second_calls h) h

/-- dates_reader_third -/
def dates_reader_third (v0 v1 : Value) (Kp : PK) (K : Value → WP) : WP :=
  opN Tryd.prog (sAlloc 107) Kp fun x4 =>
  opN Tryd.prog (sCall (fn 51) [v0, (.int .i64 4)]) Kp fun x6 =>
  opN Tryd.prog (sCall (fn 53) [v0]) Kp fun x8 =>
  opN Tryd.prog (sFA 107 x4 1) Kp fun x9 =>
  opN Tryd.prog (sStore 3 x9 x8) Kp fun _ =>
  opN Tryd.prog (sCall (fn 51) [v0, (.int .i64 1)]) Kp fun x11 =>
  opN Tryd.prog (sCall (fn 52) [v0, (.int .i64 2)]) Kp fun x13 =>
  opN Tryd.prog (sFA 107 x4 2) Kp fun x14 =>
  opN Tryd.prog (sStore 3 x14 x13) Kp fun _ =>
  opN Tryd.prog (sCall (fn 51) [v0, (.int .i64 1)]) Kp fun x16 =>
  opN Tryd.prog (sCall (fn 54) [v0, x4]) Kp fun x18 =>
  opN Tryd.prog (sCall (fn 51) [v0, (.int .i64 1)]) Kp fun x20 =>
  opN Tryd.prog (sCall (fn 52) [v0, (.int .i64 4)]) Kp fun x22 =>
  opN Tryd.prog (sFA 107 x4 0) Kp fun x23 =>
  opN Tryd.prog (sStore 3 x23 x22) Kp fun _ =>
  opN Tryd.prog (sLoad 107 x4) Kp fun x24 =>
  opN Tryd.prog (sStore 107 x4 x24) Kp fun _ =>
  (stS Tryd.prog (sRes 107 x4) fun r0 => K r0)
def dates_reader_third_an : Ann := { cuts := [], blks := [], loops := [], drs := [] }
theorem dates_reader_third_eq (v0 v1 : Value) (Kp : PK) (K : Value → WP) : cevF Tryd.prog dates_reader_third_an Tryd.f41 [v0, v1] Kp K = dates_reader_third v0 v1 Kp K := by kernel_rfl
theorem dates_reader_third_calls {v0 v1 : Value} {Kp : PK} {K : Value → WP} {w : World} (h : dates_reader_third v0 v1 Kp K w) : Calls Tryd.prog 41 #[v0, v1] w (after Kp K) :=
  calls_of_shape (calls_of_cev wide Tryd.func41 (an := dates_reader_third_an) (args := [v0, v1]) (cast (congrFun (dates_reader_third_eq v0 v1 Kp K) w).symm h))
theorem dates_reader_third_cn {v0 v1 : Value} {W : World} {α : Type} {A : List HP} {r : α → Value} {B : α → List HP} (h : ∀ F, Ent W (A ++ F) (dates_reader_third v0 v1 noP fun v w => ∃ x, v = r x ∧ sat W (B x ++ F) w)) : Cn Tryd.prog 41 [v0, v1] W A r B :=
  Cn.of (shape := dates_reader_third v0 v1) Tryd.call41 (fun h => dates_reader_third_calls h) h
theorem dates_reader_third_cnP {v0 v1 : Value} {W : World} {α β : Type} {A : List HP} {r : α → Value} {B : α → List HP} {pc : β → List PanicEntry} {Bp : β → List HP} (h : ∀ F, Ent W (A ++ F) (dates_reader_third v0 v1 (fun ch w => ∃ y, ch = pc y ∧ sat W (Bp y ++ F) w) fun v w => ∃ x, v = r x ∧ sat W (B x ++ F) w)) : CnP Tryd.prog 41 [v0, v1] W A r B pc Bp :=
  CnP.of (shape := dates_reader_third v0 v1) Tryd.call41 (fun h => dates_reader_third_calls h) h

/-- dates_try -/
def dates_try_ret (p0 p1 : Value) (K : Value → WP) : WP :=
  (stS Tryd.prog (sRes 3 p0) fun r0 => (stS Tryd.prog (sRes 4 p1) fun r1 => K (.tuple #[r0, r1])))
def dates_try (v0 v1 v2 v3 : Value) (Kp : PK) (K : Value → WP) : WP :=
  opN Tryd.prog (sAlloc 3) Kp fun x8 =>
  opN Tryd.prog (sAlloc 4) Kp fun x9 =>
  opN Tryd.prog (sMkF (.func 57) [] [x8, x9]) Kp fun x13 =>
  opDf x13 [] fun d1 =>
  opN Tryd.prog (sBuild 112 [(0, v0)]) (KpD Tryd.prog d1 (dates_try_ret x8 x9 K) Kp) fun x17 =>
  opN Tryd.prog (sBox 112 x17) (KpD Tryd.prog d1 (dates_try_ret x8 x9 K) Kp) fun x18 =>
  opN Tryd.prog (sCall v3 [x18, v2]) (KpD Tryd.prog d1 (dates_try_ret x8 x9 K) Kp) fun x20 =>
  opN Tryd.prog (sCall (fn 58) [x20]) (KpD Tryd.prog d1 (dates_try_ret x8 x9 K) Kp) fun x21 =>
  opN Tryd.prog (sExt x21 0) (KpD Tryd.prog d1 (dates_try_ret x8 x9 K) Kp) fun x22 =>
  opN Tryd.prog (sExt x21 1) (KpD Tryd.prog d1 (dates_try_ret x8 x9 K) Kp) fun x23 =>
  opN Tryd.prog (sStore 3 x8 x22) (KpD Tryd.prog d1 (dates_try_ret x8 x9 K) Kp) fun _ =>
  opN Tryd.prog (sLoad 3 x8) (KpD Tryd.prog d1 (dates_try_ret x8 x9 K) Kp) fun x25 =>
  opN Tryd.prog (sCall (fn 56) [x25]) (KpD Tryd.prog d1 (dates_try_ret x8 x9 K) Kp) fun x26 =>
  opN Tryd.prog (sExt x26 0) (KpD Tryd.prog d1 (dates_try_ret x8 x9 K) Kp) fun x27 =>
  opN Tryd.prog (sExt x26 1) (KpD Tryd.prog d1 (dates_try_ret x8 x9 K) Kp) fun x28 =>
  opN Tryd.prog (sAlloc 107) (KpD Tryd.prog d1 (dates_try_ret x8 x9 K) Kp) fun x11 =>
  opN Tryd.prog (sStore 107 x11 x27) (KpD Tryd.prog d1 (dates_try_ret x8 x9 K) Kp) fun _ =>
  opN Tryd.prog (sEq .neq 68 (.tmp 29) (.const (.int .i64 0)) x23 (.int .i64 0)) (KpD Tryd.prog d1 (dates_try_ret x8 x9 K) Kp) fun x30 =>
  gdK x30 false (opN Tryd.prog (sLoad 107 x11) (KpD Tryd.prog d1 (dates_try_ret x8 x9 K) Kp)) fun x32 =>
  gdK x30 false (fun k => k v1) fun x33 =>
  gdK x30 false (opN Tryd.prog (sCall (fn 59) [x32, x33]) (KpD Tryd.prog d1 (dates_try_ret x8 x9 K) Kp)) fun x34 =>
  gdK x30 false (fun k => k v0) fun x35 =>
  gdK x30 false (opN Tryd.prog (sEq .neq 9 (.tmp 34) (.tmp 35) x34 x35) (KpD Tryd.prog d1 (dates_try_ret x8 x9 K) Kp)) fun x36 =>
  opN Tryd.prog (sPick x30 (.bool true) x36) (KpD Tryd.prog d1 (dates_try_ret x8 x9 K) Kp) fun x37 =>
  condS x37
  (opN Tryd.prog (sStore 3 x8 (.int .i64 0)) (KpD Tryd.prog d1 (dates_try_ret x8 x9 K) Kp) fun _ =>
   opN Tryd.prog (sStore 4 x9 (.bool false)) (KpD Tryd.prog d1 (dates_try_ret x8 x9 K) Kp) fun _ =>
   dfS Tryd.prog d1 .returning (dates_try_ret x8 x9 K) Kp)
  (opN Tryd.prog (sLoad 3 x8) (KpD Tryd.prog d1 (dates_try_ret x8 x9 K) Kp) fun x38 =>
   opN Tryd.prog (sStore 3 x8 x38) (KpD Tryd.prog d1 (dates_try_ret x8 x9 K) Kp) fun _ =>
   opN Tryd.prog (sStore 4 x9 (.bool true)) (KpD Tryd.prog d1 (dates_try_ret x8 x9 K) Kp) fun _ =>
   dfS Tryd.prog d1 .returning (dates_try_ret x8 x9 K) Kp)
def dates_try_an : Ann := { cuts := [], blks := [], loops := [], drs := [] }
theorem dates_try_eq (v0 v1 v2 v3 : Value) (Kp : PK) (K : Value → WP) : cevFD Tryd.prog dates_try_an Tryd.f42 [v0, v1, v2, v3] Kp K = dates_try v0 v1 v2 v3 Kp K := by kernel_rfl
theorem dates_try_calls {v0 v1 v2 v3 : Value} {Kp : PK} {K : Value → WP} {w : World} (h : dates_try v0 v1 v2 v3 Kp K w) : Calls Tryd.prog 42 #[v0, v1, v2, v3] w (after Kp K) :=
  calls_of_shape (calls_of_cevD wide Tryd.func42 (an := dates_try_an) (args := [v0, v1, v2, v3]) (cast (congrFun (dates_try_eq v0 v1 v2 v3 Kp K) w).symm h))
theorem dates_try_cn {v0 v1 v2 v3 : Value} {W : World} {α : Type} {A : List HP} {r : α → Value} {B : α → List HP} (h : ∀ F, Ent W (A ++ F) (dates_try v0 v1 v2 v3 noP fun v w => ∃ x, v = r x ∧ sat W (B x ++ F) w)) : Cn Tryd.prog 42 [v0, v1, v2, v3] W A r B :=
  Cn.of (shape := dates_try v0 v1 v2 v3) Tryd.call42 (fun h => dates_try_calls h) h
theorem dates_try_cnP {v0 v1 v2 v3 : Value} {W : World} {α β : Type} {A : List HP} {r : α → Value} {B : α → List HP} {pc : β → List PanicEntry} {Bp : β → List HP} (h : ∀ F, Ent W (A ++ F) (dates_try v0 v1 v2 v3 (fun ch w => ∃ y, ch = pc y ∧ sat W (Bp y ++ F) w) fun v w => ∃ x, v = r x ∧ sat W (B x ++ F) w)) : CnP Tryd.prog 42 [v0, v1, v2, v3] W A r B pc Bp :=
  CnP.of (shape := dates_try v0 v1 v2 v3) Tryd.call42 (fun h => dates_try_calls h) h

/-- ascii_Equal -/
def ascii_Equal (v0 v1 : Value) (Kp : PK) (K : Value → WP) : WP :=
  opN Tryd.prog (sLen #[9] 3 [v0]) Kp fun x6 =>
  opN Tryd.prog (sLen #[9] 3 [v1]) Kp fun x8 =>
  opN Tryd.prog (sEq .eql 3 (.tmp 6) (.tmp 8) x6 x8) Kp fun x9 =>
  gdK x9 true (fun k => k v0) fun x11 =>
  gdK x9 true (opN Tryd.prog (sCall (fn 60) [x11]) Kp) fun x12 =>
  gdK x9 true (fun k => k v1) fun x13 =>
  gdK x9 true (opN Tryd.prog (sCall (fn 60) [x13]) Kp) fun x14 =>
  gdK x9 true (opN Tryd.prog (sEq .eql 9 (.tmp 12) (.tmp 14) x12 x14) Kp) fun x15 =>
  opN Tryd.prog (sPick x9 x15 (.bool false)) Kp fun x16 =>
  K x16
def ascii_Equal_an : Ann := { cuts := [], blks := [], loops := [], drs := [] }
theorem ascii_Equal_eq (v0 v1 : Value) (Kp : PK) (K : Value → WP) : cevF Tryd.prog ascii_Equal_an Tryd.f43 [v0, v1] Kp K = ascii_Equal v0 v1 Kp K := by kernel_rfl
theorem ascii_Equal_calls {v0 v1 : Value} {Kp : PK} {K : Value → WP} {w : World} (h : ascii_Equal v0 v1 Kp K w) : Calls Tryd.prog 43 #[v0, v1] w (after Kp K) :=
  calls_of_shape (calls_of_cev wide Tryd.func43 (an := ascii_Equal_an) (args := [v0, v1]) (cast (congrFun (ascii_Equal_eq v0 v1 Kp K) w).symm h))
theorem ascii_Equal_cn {v0 v1 : Value} {W : World} {α : Type} {A : List HP} {r : α → Value} {B : α → List HP} (h : ∀ F, Ent W (A ++ F) (ascii_Equal v0 v1 noP fun v w => ∃ x, v = r x ∧ sat W (B x ++ F) w)) : Cn Tryd.prog 43 [v0, v1] W A r B :=
  Cn.of (shape := ascii_Equal v0 v1) Tryd.call43 (fun h => ascii_Equal_calls h) h
theorem ascii_Equal_cnP {v0 v1 : Value} {W : World} {α β : Type} {A : List HP} {r : α → Value} {B : α → List HP} {pc : β → List PanicEntry} {Bp : β → List HP} (h : ∀ F, Ent W (A ++ F) (ascii_Equal v0 v1 (fun ch w => ∃ y, ch = pc y ∧ sat W (Bp y ++ F) w) fun v w => ∃ x, v = r x ∧ sat W (B x ++ F) w)) : CnP Tryd.prog 43 [v0, v1] W A r B pc Bp :=
  CnP.of (shape := ascii_Equal v0 v1) Tryd.call43 (fun h => ascii_Equal_calls h) h

/-- ascii_Trim -/
def ascii_Trim (v0 : Value) (Kp : PK) (K : Value → WP) : WP :=
  opN Tryd.prog (sCall (fn 61) [v0, (.string ⟨#[32, 9]⟩)]) Kp fun x4 =>
  K x4
def ascii_Trim_an : Ann := { cuts := [], blks := [], loops := [], drs := [] }
theorem ascii_Trim_eq (v0 : Value) (Kp : PK) (K : Value → WP) : cevF Tryd.prog ascii_Trim_an Tryd.f44 [v0] Kp K = ascii_Trim v0 Kp K := by kernel_rfl
theorem ascii_Trim_calls {v0 : Value} {Kp : PK} {K : Value → WP} {w : World} (h : ascii_Trim v0 Kp K w) : Calls Tryd.prog 44 #[v0] w (after Kp K) :=
  calls_of_shape (calls_of_cev wide Tryd.func44 (an := ascii_Trim_an) (args := [v0]) (cast (congrFun (ascii_Trim_eq v0 Kp K) w).symm h))
theorem ascii_Trim_cn {v0 : Value} {W : World} {α : Type} {A : List HP} {r : α → Value} {B : α → List HP} (h : ∀ F, Ent W (A ++ F) (ascii_Trim v0 noP fun v w => ∃ x, v = r x ∧ sat W (B x ++ F) w)) : Cn Tryd.prog 44 [v0] W A r B :=
  Cn.of (shape := ascii_Trim v0) Tryd.call44 (fun h => ascii_Trim_calls h) h
theorem ascii_Trim_cnP {v0 : Value} {W : World} {α β : Type} {A : List HP} {r : α → Value} {B : α → List HP} {pc : β → List PanicEntry} {Bp : β → List HP} (h : ∀ F, Ent W (A ++ F) (ascii_Trim v0 (fun ch w => ∃ y, ch = pc y ∧ sat W (Bp y ++ F) w) fun v w => ∃ x, v = r x ∧ sat W (B x ++ F) w)) : CnP Tryd.prog 44 [v0] W A r B pc Bp :=
  CnP.of (shape := ascii_Trim v0) Tryd.call44 (fun h => ascii_Trim_calls h) h

/-- fields_list_fields_Tag -/
def fields_list_fields_Tag (v0 v1 : Value) (Kp : PK) (K : Value → WP) : WP :=
  opN Tryd.prog (sBox 95 v1) Kp fun x3 =>
  opN Tryd.prog (sAlloc 74) Kp fun x4 =>
  opN Tryd.prog (sAlloc 68) Kp fun x5 =>
  opN Tryd.prog (sAlloc 74) Kp fun x6 =>
  opN Tryd.prog (sLoad 95 x3) Kp fun x10 =>
  opN Tryd.prog (sCall (fn 62) [x10, v0]) Kp fun x12 =>
  rfS Tryd.prog x12 1 (fun u13 B1 N1 J1r =>
   B1 (opN Tryd.prog (sFA 95 x3 2) noK fun x15 =>
    opN Tryd.prog (sLoad 85 x15) noK fun x16 =>
    opN Tryd.prog (sCall x16 [u13]) noK fun x18 =>
    opN Tryd.prog (sExt x18 0) noK fun x19 =>
    opN Tryd.prog (sExt x18 1) noK fun x20 =>
    opN Tryd.prog (sAlloc 30) noK fun x8 =>
    opN Tryd.prog (sStore 30 x8 x19) noK fun _ =>
    opN Tryd.prog (sUn .not x20) noK fun x22 =>
    condS x22
    (opN Tryd.prog (sStore 74 x4 (.slice none 0 0)) noK fun _ =>
     opN Tryd.prog (sStore 68 x5 (.int .i64 42)) noK fun _ =>
     J1r)
    (opN Tryd.prog (sLoad 74 x6) noK fun x23 =>
     opN Tryd.prog (sLoad 30 x8) noK fun x24 =>
     opN Tryd.prog (sBuildSl 74 1 [(0, x24)]) noK fun x25 =>
     opN Tryd.prog (sApp #[74, 74] 74 [x23, x25]) noK fun x26 =>
     opN Tryd.prog (sStore 74 x6 x26) noK fun _ =>
     N1))) (fun d1 =>
   opN Tryd.prog (sLoad 74 x6) (KpM [d1] Kp) fun x27 =>
   opN Tryd.prog (sStore 74 x4 x27) (KpM [d1] Kp) fun _ =>
   opN Tryd.prog (sStore 68 x5 (.int .i64 0)) (KpM [d1] Kp) fun _ =>
   (tkS d1 ((stS Tryd.prog (sRes 74 x4) fun r0 => (stS Tryd.prog (sRes 68 x5) fun r1 => K (.tuple #[r0, r1])))))) (fun d1 => (tkS d1 ((stS Tryd.prog (sRes 74 x4) fun r0 => (stS Tryd.prog (sRes 68 x5) fun r1 => K (.tuple #[r0, r1])))))) (fun d1 ch => (tkS d1 (Kp ch)))
def fields_list_fields_Tag_an : Ann := { cuts := [], blks := [], loops := [], drs := [] }
theorem fields_list_fields_Tag_eq (v0 v1 : Value) (Kp : PK) (K : Value → WP) : cevFT Tryd.prog fields_list_fields_Tag_an Tryd.f45 [v0, v1] Kp K = fields_list_fields_Tag v0 v1 Kp K := by kernel_rfl
theorem fields_list_fields_Tag_calls {v0 v1 : Value} {Kp : PK} {K : Value → WP} {w : World} (h : fields_list_fields_Tag v0 v1 Kp K w) : Calls Tryd.prog 45 #[v0, v1] w (after Kp K) :=
  calls_of_shape (calls_of_cevT wide Tryd.func45 (an := fields_list_fields_Tag_an) (args := [v0, v1]) (cast (congrFun (fields_list_fields_Tag_eq v0 v1 Kp K) w).symm h))
theorem fields_list_fields_Tag_cn {v0 v1 : Value} {W : World} {α : Type} {A : List HP} {r : α → Value} {B : α → List HP} (h : ∀ F, Ent W (A ++ F) (fields_list_fields_Tag v0 v1 noP fun v w => ∃ x, v = r x ∧ sat W (B x ++ F) w)) : Cn Tryd.prog 45 [v0, v1] W A r B :=
  Cn.of (shape := fields_list_fields_Tag v0 v1) Tryd.call45 (fun h => fields_list_fields_Tag_calls h) h
theorem fields_list_fields_Tag_cnP {v0 v1 : Value} {W : World} {α β : Type} {A : List HP} {r : α → Value} {B : α → List HP} {pc : β → List PanicEntry} {Bp : β → List HP} (h : ∀ F, Ent W (A ++ F) (fields_list_fields_Tag v0 v1 (fun ch w => ∃ y, ch = pc y ∧ sat W (Bp y ++ F) w) fun v w => ∃ x, v = r x ∧ sat W (B x ++ F) w)) : CnP Tryd.prog 45 [v0, v1] W A r B pc Bp :=
  CnP.of (shape := fields_list_fields_Tag v0 v1) Tryd.call45 (fun h => fields_list_fields_Tag_calls h) h

/-- strings_Builder_Grow -/
def strings_Builder_Grow (v0 v1 : Value) (Kp : PK) (K : Value → WP) : WP :=
  opN Tryd.prog (sCall (fn 63) [v0]) Kp fun x5 =>
  cut0 (fun J1 =>
   opN Tryd.prog (sBin .lss 3 v1 (.int .i64 0)) Kp fun x7 =>
   condS x7
   (opN Tryd.prog (sMkI 9 (.string ⟨#[115, 116, 114, 105, 110, 103, 115, 46, 66, 117, 105, 108, 100, 101, 114, 46, 71, 114, 111, 119, 58, 32, 110, 101, 103, 97, 116, 105, 118, 101, 32, 99, 111, 117, 110, 116]⟩)) Kp fun x8 =>
    opN Tryd.prog (sPanic x8) Kp fun _ =>
    J1)
   (J1)) fun _ =>
  drS (stS Tryd.prog (sNil v0) fun x10 =>
   stS Tryd.prog (sFA 98 x10 1) fun x11 =>
   stS Tryd.prog (sLoad 91 x11) fun x12 =>
   stS Tryd.prog (sCap #[91] 3 [x12]) fun x13 =>
   stS Tryd.prog (sNil v0) fun x15 =>
   stS Tryd.prog (sFA 98 x15 1) fun x16 =>
   stS Tryd.prog (sLoad 91 x16) fun x17 =>
   stS Tryd.prog (sLen #[91] 3 [x17]) fun x18 =>
   stS Tryd.prog (sBin .sub 3 x13 x18) fun x19 =>
   stS Tryd.prog (sBin .lss 3 x19 v1) fun x21 =>
   condS x21
   (opN Tryd.prog (sCall (fn 64) [v0, v1]) Kp fun x24 =>
    K (.tuple #[]))
   (K (.tuple #[])))
def strings_Builder_Grow_an : Ann := { cuts := [(3, [])], blks := [], loops := [], drs := [(3, [(0, 1), (1, 1), (2, 1), (3, 1), (4, 1), (5, 1), (6, 1), (7, 1), (8, 1), (9, 1), (10, 1), (11, 1), (12, 1)])] }
theorem strings_Builder_Grow_eq (v0 v1 : Value) (Kp : PK) (K : Value → WP) : cevF Tryd.prog strings_Builder_Grow_an Tryd.f46 [v0, v1] Kp K = strings_Builder_Grow v0 v1 Kp K := by kernel_rfl
theorem strings_Builder_Grow_calls {v0 v1 : Value} {Kp : PK} {K : Value → WP} {w : World} (h : strings_Builder_Grow v0 v1 Kp K w) : Calls Tryd.prog 46 #[v0, v1] w (after Kp K) :=
  calls_of_shape (calls_of_cev wide Tryd.func46 (an := strings_Builder_Grow_an) (args := [v0, v1]) (cast (congrFun (strings_Builder_Grow_eq v0 v1 Kp K) w).symm h))
theorem strings_Builder_Grow_cn {v0 v1 : Value} {W : World} {α : Type} {A : List HP} {r : α → Value} {B : α → List HP} (h : ∀ F, Ent W (A ++ F) (strings_Builder_Grow v0 v1 noP fun v w => ∃ x, v = r x ∧ sat W (B x ++ F) w)) : Cn Tryd.prog 46 [v0, v1] W A r B :=
  Cn.of (shape := strings_Builder_Grow v0 v1) Tryd.call46 (fun h => strings_Builder_Grow_calls h) h
theorem strings_Builder_Grow_cnP {v0 v1 : Value} {W : World} {α β : Type} {A : List HP} {r : α → Value} {B : α → List HP} {pc : β → List PanicEntry} {Bp : β → List HP} (h : ∀ F, Ent W (A ++ F) (strings_Builder_Grow v0 v1 (fun ch w => ∃ y, ch = pc y ∧ sat W (Bp y ++ F) w) fun v w => ∃ x, v = r x ∧ sat W (B x ++ F) w)) : CnP Tryd.prog 46 [v0, v1] W A r B pc Bp :=
  CnP.of (shape := strings_Builder_Grow v0 v1) Tryd.call46 (fun h => strings_Builder_Grow_calls h) h

/-- strings_Builder_WriteString -/
def strings_Builder_WriteString (v0 v1 : Value) (Kp : PK) (K : Value → WP) : WP :=
  opN Tryd.prog (sCall (fn 63) [v0]) Kp fun x7 =>
  opN Tryd.prog (sNil v0) Kp fun x10 =>
  opN Tryd.prog (sFA 98 x10 1) Kp fun x11 =>
  opN Tryd.prog (sLoad 91 x11) Kp fun x12 =>
  opN Tryd.prog (sApp #[91, 9] 91 [x12, v1]) Kp fun x14 =>
  opN Tryd.prog (sNil v0) Kp fun x15 =>
  opN Tryd.prog (sFA 98 x15 1) Kp fun x16 =>
  opN Tryd.prog (sStore 91 x16 x14) Kp fun _ =>
  opN Tryd.prog (sLen #[9] 3 [v1]) Kp fun x18 =>
  K (.tuple #[x18, .nilIface])
def strings_Builder_WriteString_an : Ann := { cuts := [], blks := [], loops := [], drs := [] }
theorem strings_Builder_WriteString_eq (v0 v1 : Value) (Kp : PK) (K : Value → WP) : cevF Tryd.prog strings_Builder_WriteString_an Tryd.f47 [v0, v1] Kp K = strings_Builder_WriteString v0 v1 Kp K := by kernel_rfl
theorem strings_Builder_WriteString_calls {v0 v1 : Value} {Kp : PK} {K : Value → WP} {w : World} (h : strings_Builder_WriteString v0 v1 Kp K w) : Calls Tryd.prog 47 #[v0, v1] w (after Kp K) :=
  calls_of_shape (calls_of_cev wide Tryd.func47 (an := strings_Builder_WriteString_an) (args := [v0, v1]) (cast (congrFun (strings_Builder_WriteString_eq v0 v1 Kp K) w).symm h))
theorem strings_Builder_WriteString_cn {v0 v1 : Value} {W : World} {α : Type} {A : List HP} {r : α → Value} {B : α → List HP} (h : ∀ F, Ent W (A ++ F) (strings_Builder_WriteString v0 v1 noP fun v w => ∃ x, v = r x ∧ sat W (B x ++ F) w)) : Cn Tryd.prog 47 [v0, v1] W A r B :=
  Cn.of (shape := strings_Builder_WriteString v0 v1) Tryd.call47 (fun h => strings_Builder_WriteString_calls h) h
theorem strings_Builder_WriteString_cnP {v0 v1 : Value} {W : World} {α β : Type} {A : List HP} {r : α → Value} {B : α → List HP} {pc : β → List PanicEntry} {Bp : β → List HP} (h : ∀ F, Ent W (A ++ F) (strings_Builder_WriteString v0 v1 (fun ch w => ∃ y, ch = pc y ∧ sat W (Bp y ++ F) w) fun v w => ∃ x, v = r x ∧ sat W (B x ++ F) w)) : CnP Tryd.prog 47 [v0, v1] W A r B pc Bp :=
  CnP.of (shape := strings_Builder_WriteString v0 v1) Tryd.call47 (fun h => strings_Builder_WriteString_calls h) h

/-- ref09_leap -/
def ref09_leap (v0 : Value) (Kp : PK) (K : Value → WP) : WP :=
  opN Tryd.prog (sBin .rem 3 v0 (.int .i64 4)) Kp fun x4 =>
  opN Tryd.prog (sEq .eql 3 (.tmp 4) (.const (.int .i64 0)) x4 (.int .i64 0)) Kp fun x5 =>
  gdK x5 true (fun k => k v0) fun x7 =>
  gdK x5 true (opN Tryd.prog (sBin .rem 3 x7 (.int .i64 100)) Kp) fun x8 =>
  gdK x5 true (opN Tryd.prog (sEq .neq 3 (.tmp 8) (.const (.int .i64 0)) x8 (.int .i64 0)) Kp) fun x9 =>
  opN Tryd.prog (sPick x5 x9 (.bool false)) Kp fun x10 =>
  gdK x10 false (fun k => k v0) fun x12 =>
  gdK x10 false (opN Tryd.prog (sBin .rem 3 x12 (.int .i64 400)) Kp) fun x13 =>
  gdK x10 false (opN Tryd.prog (sEq .eql 3 (.tmp 13) (.const (.int .i64 0)) x13 (.int .i64 0)) Kp) fun x14 =>
  opN Tryd.prog (sPick x10 (.bool true) x14) Kp fun x15 =>
  K x15
def ref09_leap_an : Ann := { cuts := [], blks := [], loops := [], drs := [] }
theorem ref09_leap_eq (v0 : Value) (Kp : PK) (K : Value → WP) : cevF Tryd.prog ref09_leap_an Tryd.f49 [v0] Kp K = ref09_leap v0 Kp K := by kernel_rfl
theorem ref09_leap_calls {v0 : Value} {Kp : PK} {K : Value → WP} {w : World} (h : ref09_leap v0 Kp K w) : Calls Tryd.prog 49 #[v0] w (after Kp K) :=
  calls_of_shape (calls_of_cev wide Tryd.func49 (an := ref09_leap_an) (args := [v0]) (cast (congrFun (ref09_leap_eq v0 Kp K) w).symm h))
theorem ref09_leap_cn {v0 : Value} {W : World} {α : Type} {A : List HP} {r : α → Value} {B : α → List HP} (h : ∀ F, Ent W (A ++ F) (ref09_leap v0 noP fun v w => ∃ x, v = r x ∧ sat W (B x ++ F) w)) : Cn Tryd.prog 49 [v0] W A r B :=
  Cn.of (shape := ref09_leap v0) Tryd.call49 (fun h => ref09_leap_calls h) h
theorem ref09_leap_cnP {v0 : Value} {W : World} {α β : Type} {A : List HP} {r : α → Value} {B : α → List HP} {pc : β → List PanicEntry} {Bp : β → List HP} (h : ∀ F, Ent W (A ++ F) (ref09_leap v0 (fun ch w => ∃ y, ch = pc y ∧ sat W (Bp y ++ F) w) fun v w => ∃ x, v = r x ∧ sat W (B x ++ F) w)) : CnP Tryd.prog 49 [v0] W A r B pc Bp :=
  CnP.of (shape := ref09_leap v0) Tryd.call49 (fun h => ref09_leap_calls h) h

/-- strings_CutPrefix -/
def strings_CutPrefix (v0 v1 : Value) (Kp : PK) (K : Value → WP) : WP :=
  opN Tryd.prog (sCall (fn 65) [v0, v1]) Kp fun x8 =>
  opN Tryd.prog (sExt x8 0) Kp fun x9 =>
  opN Tryd.prog (sExt x8 1) Kp fun x10 =>
  K (.tuple #[x9, x10])
def strings_CutPrefix_an : Ann := { cuts := [], blks := [], loops := [], drs := [] }
theorem strings_CutPrefix_eq (v0 v1 : Value) (Kp : PK) (K : Value → WP) : cevF Tryd.prog strings_CutPrefix_an Tryd.f50 [v0, v1] Kp K = strings_CutPrefix v0 v1 Kp K := by kernel_rfl
theorem strings_CutPrefix_calls {v0 v1 : Value} {Kp : PK} {K : Value → WP} {w : World} (h : strings_CutPrefix v0 v1 Kp K w) : Calls Tryd.prog 50 #[v0, v1] w (after Kp K) :=
  calls_of_shape (calls_of_cev wide Tryd.func50 (an := strings_CutPrefix_an) (args := [v0, v1]) (cast (congrFun (strings_CutPrefix_eq v0 v1 Kp K) w).symm h))
theorem strings_CutPrefix_cn {v0 v1 : Value} {W : World} {α : Type} {A : List HP} {r : α → Value} {B : α → List HP} (h : ∀ F, Ent W (A ++ F) (strings_CutPrefix v0 v1 noP fun v w => ∃ x, v = r x ∧ sat W (B x ++ F) w)) : Cn Tryd.prog 50 [v0, v1] W A r B :=
  Cn.of (shape := strings_CutPrefix v0 v1) Tryd.call50 (fun h => strings_CutPrefix_calls h) h
theorem strings_CutPrefix_cnP {v0 v1 : Value} {W : World} {α β : Type} {A : List HP} {r : α → Value} {B : α → List HP} {pc : β → List PanicEntry} {Bp : β → List HP} (h : ∀ F, Ent W (A ++ F) (strings_CutPrefix v0 v1 (fun ch w => ∃ y, ch = pc y ∧ sat W (Bp y ++ F) w) fun v w => ∃ x, v = r x ∧ sat W (B x ++ F) w)) : CnP Tryd.prog 50 [v0, v1] W A r B pc Bp :=
  CnP.of (shape := strings_CutPrefix v0 v1) Tryd.call50 (fun h => strings_CutPrefix_calls h) h

/-- dates_reader_take -/
def dates_reader_take (v0 v1 : Value) (Kp : PK) (K : Value → WP) : WP :=
  cut0 (fun J1 =>
   opN Tryd.prog (sNil v0) Kp fun x8 =>
   opN Tryd.prog (sFA 112 x8 0) Kp fun x9 =>
   opN Tryd.prog (sLoad 9 x9) Kp fun x10 =>
   opN Tryd.prog (sLen #[9] 3 [x10]) Kp fun x11 =>
   opN Tryd.prog (sBin .gtr 3 v1 x11) Kp fun x12 =>
   condS x12
   (opN Tryd.prog (sMkI 68 (.int .i64 41)) Kp fun x13 =>
    opN Tryd.prog (sPanic x13) Kp fun _ =>
    J1)
   (J1)) fun _ =>
  opN Tryd.prog (sNil v0) Kp fun x15 =>
  opN Tryd.prog (sFA 112 x15 0) Kp fun x16 =>
  opN Tryd.prog (sLoad 9 x16) Kp fun x17 =>
  opN Tryd.prog (sSl 9 x17 none (some v1) none) Kp fun x19 =>
  opN Tryd.prog (sNil v0) Kp fun x22 =>
  opN Tryd.prog (sFA 112 x22 0) Kp fun x23 =>
  opN Tryd.prog (sLoad 9 x23) Kp fun x24 =>
  opN Tryd.prog (sSl 9 x24 (some v1) none none) Kp fun x26 =>
  opN Tryd.prog (sNil v0) Kp fun x27 =>
  opN Tryd.prog (sFA 112 x27 0) Kp fun x28 =>
  opN Tryd.prog (sStore 9 x28 x26) Kp fun _ =>
  K x19
def dates_reader_take_an : Ann := { cuts := [(3, [])], blks := [], loops := [], drs := [] }
theorem dates_reader_take_eq (v0 v1 : Value) (Kp : PK) (K : Value → WP) : cevF Tryd.prog dates_reader_take_an Tryd.f51 [v0, v1] Kp K = dates_reader_take v0 v1 Kp K := by kernel_rfl
theorem dates_reader_take_calls {v0 v1 : Value} {Kp : PK} {K : Value → WP} {w : World} (h : dates_reader_take v0 v1 Kp K w) : Calls Tryd.prog 51 #[v0, v1] w (after Kp K) :=
  calls_of_shape (calls_of_cev wide Tryd.func51 (an := dates_reader_take_an) (args := [v0, v1]) (cast (congrFun (dates_reader_take_eq v0 v1 Kp K) w).symm h))
theorem dates_reader_take_cn {v0 v1 : Value} {W : World} {α : Type} {A : List HP} {r : α → Value} {B : α → List HP} (h : ∀ F, Ent W (A ++ F) (dates_reader_take v0 v1 noP fun v w => ∃ x, v = r x ∧ sat W (B x ++ F) w)) : Cn Tryd.prog 51 [v0, v1] W A r B :=
  Cn.of (shape := dates_reader_take v0 v1) Tryd.call51 (fun h => dates_reader_take_calls h) h
theorem dates_reader_take_cnP {v0 v1 : Value} {W : World} {α β : Type} {A : List HP} {r : α → Value} {B : α → List HP} {pc : β → List PanicEntry} {Bp : β → List HP} (h : ∀ F, Ent W (A ++ F) (dates_reader_take v0 v1 (fun ch w => ∃ y, ch = pc y ∧ sat W (Bp y ++ F) w) fun v w => ∃ x, v = r x ∧ sat W (B x ++ F) w)) : CnP Tryd.prog 51 [v0, v1] W A r B pc Bp :=
  CnP.of (shape := dates_reader_take v0 v1) Tryd.call51 (fun h => dates_reader_take_calls h) h

/-- dates_reader_number -/
def dates_reader_number (v0 v1 : Value) (Kp : PK) (K : Value → WP) : WP :=
  opN Tryd.prog (sCall (fn 51) [v0, v1]) Kp fun x10 =>
  opN Tryd.prog (sConv 9 91 x10) Kp fun x11 =>
  opN Tryd.prog (sLen #[91] 3 [x11]) Kp fun x12 =>
  loop2 (fun I1 m1 _ y5 y13 =>
   opN Tryd.prog (sBin .lss 3 y13 x12) Kp fun x14 =>
   condS x14
   (opN Tryd.prog (sIA 91 x11 y13) Kp fun x16 =>
    opN Tryd.prog (sLoad 5 x16) Kp fun x17 =>
    cut1 (fun J1 =>
     opN Tryd.prog (sEq .eql 5 (.tmp 18) (.const (.int .u8 32)) x17 (.int .u8 32)) Kp fun x19 =>
     gdK x19 true (fun k => k y13) fun x21 =>
     gdK x19 true (opN Tryd.prog (sEq .eql 3 (.tmp 21) (.const (.int .i64 0)) x21 (.int .i64 0)) Kp) fun x22 =>
     opN Tryd.prog (sPick x19 x22 (.bool false)) Kp fun x23 =>
     condS x23
     (J1 (.int .u8 48))
     (J1 x17)) fun _ z7 =>
    cut0 (fun J2 =>
     opN Tryd.prog (sBin .lss 5 z7 (.int .u8 48)) Kp fun x25 =>
     gdK x25 false (fun k => k z7) fun x27 =>
     gdK x25 false (opN Tryd.prog (sBin .gtr 5 x27 (.int .u8 57)) Kp) fun x28 =>
     opN Tryd.prog (sPick x25 (.bool true) x28) Kp fun x29 =>
     condS x29
     (opN Tryd.prog (sMkI 68 (.int .i64 41)) Kp fun x30 =>
      opN Tryd.prog (sPanic x30) Kp fun _ =>
      J2)
     (J2)) fun _ =>
    opN Tryd.prog (sBin .mul 3 (.int .i64 10) y5) Kp fun x32 =>
    opN Tryd.prog (sBin .sub 5 z7 (.int .u8 48)) Kp fun x34 =>
    opN Tryd.prog (sConv 5 3 x34) Kp fun x35 =>
    opN Tryd.prog (sBin .add 3 x32 x35) Kp fun x36 =>
    opN Tryd.prog (sBin .add 3 y13 (.int .i64 1)) Kp fun x37 =>
    next2 I1 m1 x36 x37)
   (K y5)) (.int .i64 0) (.int .i64 0)
def dates_reader_number_an : Ann := { cuts := [(7, [7]), (9, [])], blks := [], loops := [(3, [5, 13])], drs := [] }
theorem dates_reader_number_eq (v0 v1 : Value) (Kp : PK) (K : Value → WP) : cevF Tryd.prog dates_reader_number_an Tryd.f52 [v0, v1] Kp K = dates_reader_number v0 v1 Kp K := by kernel_rfl
theorem dates_reader_number_calls {v0 v1 : Value} {Kp : PK} {K : Value → WP} {w : World} (h : dates_reader_number v0 v1 Kp K w) : Calls Tryd.prog 52 #[v0, v1] w (after Kp K) :=
  calls_of_shape (calls_of_cev wide Tryd.func52 (an := dates_reader_number_an) (args := [v0, v1]) (cast (congrFun (dates_reader_number_eq v0 v1 Kp K) w).symm h))
theorem dates_reader_number_cn {v0 v1 : Value} {W : World} {α : Type} {A : List HP} {r : α → Value} {B : α → List HP} (h : ∀ F, Ent W (A ++ F) (dates_reader_number v0 v1 noP fun v w => ∃ x, v = r x ∧ sat W (B x ++ F) w)) : Cn Tryd.prog 52 [v0, v1] W A r B :=
  Cn.of (shape := dates_reader_number v0 v1) Tryd.call52 (fun h => dates_reader_number_calls h) h
theorem dates_reader_number_cnP {v0 v1 : Value} {W : World} {α β : Type} {A : List HP} {r : α → Value} {B : α → List HP} {pc : β → List PanicEntry} {Bp : β → List HP} (h : ∀ F, Ent W (A ++ F) (dates_reader_number v0 v1 (fun ch w => ∃ y, ch = pc y ∧ sat W (Bp y ++ F) w) fun v w => ∃ x, v = r x ∧ sat W (B x ++ F) w)) : CnP Tryd.prog 52 [v0, v1] W A r B pc Bp :=
  CnP.of (shape := dates_reader_number v0 v1) Tryd.call52 (fun h => dates_reader_number_calls h) h

/-- dates_reader_month -/
def dates_reader_month (v0 : Value) (Kp : PK) (K : Value → WP) : WP :=
  opN Tryd.prog (sCall (fn 51) [v0, (.int .i64 3)]) Kp fun x7 =>
  opN Tryd.prog (sCall (fn 66) []) Kp fun x8 =>
  loop2 (fun I1 m1 _ y2 y9 =>
   opN Tryd.prog (sBin .lss 3 y9 (.int .i64 12)) Kp fun x10 =>
   condS x10
   (opN Tryd.prog (sIx 121 x8 y9) Kp fun x12 =>
    opN Tryd.prog (sEq .eql 9 (.tmp 13) (.tmp 14) x12 x7) Kp fun x15 =>
    condS x15
    (opN Tryd.prog (sBin .add 3 y9 (.int .i64 1)) Kp fun x17 =>
     K x17)
    (opN Tryd.prog (sBin .add 3 y9 (.int .i64 1)) Kp fun x18 =>
     next2 I1 m1 y2 x18))
   (opN Tryd.prog (sMkI 68 (.int .i64 41)) Kp fun x19 =>
    opN Tryd.prog (sPanic x19) Kp fun _ =>
    K y2)) (.int .i64 0) (.int .i64 0)
def dates_reader_month_an : Ann := { cuts := [], blks := [], loops := [(3, [2, 9])], drs := [] }
theorem dates_reader_month_eq (v0 : Value) (Kp : PK) (K : Value → WP) : cevF Tryd.prog dates_reader_month_an Tryd.f53 [v0] Kp K = dates_reader_month v0 Kp K := by kernel_rfl
theorem dates_reader_month_calls {v0 : Value} {Kp : PK} {K : Value → WP} {w : World} (h : dates_reader_month v0 Kp K w) : Calls Tryd.prog 53 #[v0] w (after Kp K) :=
  calls_of_shape (calls_of_cev wide Tryd.func53 (an := dates_reader_month_an) (args := [v0]) (cast (congrFun (dates_reader_month_eq v0 Kp K) w).symm h))
theorem dates_reader_month_cn {v0 : Value} {W : World} {α : Type} {A : List HP} {r : α → Value} {B : α → List HP} (h : ∀ F, Ent W (A ++ F) (dates_reader_month v0 noP fun v w => ∃ x, v = r x ∧ sat W (B x ++ F) w)) : Cn Tryd.prog 53 [v0] W A r B :=
  Cn.of (shape := dates_reader_month v0) Tryd.call53 (fun h => dates_reader_month_calls h) h
theorem dates_reader_month_cnP {v0 : Value} {W : World} {α β : Type} {A : List HP} {r : α → Value} {B : α → List HP} {pc : β → List PanicEntry} {Bp : β → List HP} (h : ∀ F, Ent W (A ++ F) (dates_reader_month v0 (fun ch w => ∃ y, ch = pc y ∧ sat W (Bp y ++ F) w) fun v w => ∃ x, v = r x ∧ sat W (B x ++ F) w)) : CnP Tryd.prog 53 [v0] W A r B pc Bp :=
  CnP.of (shape := dates_reader_month v0) Tryd.call53 (fun h => dates_reader_month_calls h) h

/-- dates_reader_clock -/
def dates_reader_clock (v0 v1 : Value) (Kp : PK) (K : Value → WP) : WP :=
  opN Tryd.prog (sCall (fn 52) [v0, (.int .i64 2)]) Kp fun x6 =>
  opN Tryd.prog (sNil v1) Kp fun x7 =>
  opN Tryd.prog (sFA 107 x7 3) Kp fun x8 =>
  opN Tryd.prog (sStore 3 x8 x6) Kp fun _ =>
  opN Tryd.prog (sCall (fn 51) [v0, (.int .i64 1)]) Kp fun x10 =>
  opN Tryd.prog (sCall (fn 52) [v0, (.int .i64 2)]) Kp fun x13 =>
  opN Tryd.prog (sNil v1) Kp fun x14 =>
  opN Tryd.prog (sFA 107 x14 4) Kp fun x15 =>
  opN Tryd.prog (sStore 3 x15 x13) Kp fun _ =>
  opN Tryd.prog (sCall (fn 51) [v0, (.int .i64 1)]) Kp fun x17 =>
  opN Tryd.prog (sCall (fn 52) [v0, (.int .i64 2)]) Kp fun x20 =>
  opN Tryd.prog (sNil v1) Kp fun x21 =>
  opN Tryd.prog (sFA 107 x21 5) Kp fun x22 =>
  opN Tryd.prog (sStore 3 x22 x20) Kp fun _ =>
  K (.tuple #[])
def dates_reader_clock_an : Ann := { cuts := [], blks := [], loops := [], drs := [] }
theorem dates_reader_clock_eq (v0 v1 : Value) (Kp : PK) (K : Value → WP) : cevF Tryd.prog dates_reader_clock_an Tryd.f54 [v0, v1] Kp K = dates_reader_clock v0 v1 Kp K := by kernel_rfl
theorem dates_reader_clock_calls {v0 v1 : Value} {Kp : PK} {K : Value → WP} {w : World} (h : dates_reader_clock v0 v1 Kp K w) : Calls Tryd.prog 54 #[v0, v1] w (after Kp K) :=
  calls_of_shape (calls_of_cev wide Tryd.func54 (an := dates_reader_clock_an) (args := [v0, v1]) (cast (congrFun (dates_reader_clock_eq v0 v1 Kp K) w).symm h))
theorem dates_reader_clock_cn {v0 v1 : Value} {W : World} {α : Type} {A : List HP} {r : α → Value} {B : α → List HP} (h : ∀ F, Ent W (A ++ F) (dates_reader_clock v0 v1 noP fun v w => ∃ x, v = r x ∧ sat W (B x ++ F) w)) : Cn Tryd.prog 54 [v0, v1] W A r B :=
  Cn.of (shape := dates_reader_clock v0 v1) Tryd.call54 (fun h => dates_reader_clock_calls h) h
theorem dates_reader_clock_cnP {v0 v1 : Value} {W : World} {α β : Type} {A : List HP} {r : α → Value} {B : α → List HP} {pc : β → List PanicEntry} {Bp : β → List HP} (h : ∀ F, Ent W (A ++ F) (dates_reader_clock v0 v1 (fun ch w => ∃ y, ch = pc y ∧ sat W (Bp y ++ F) w) fun v w => ∃ x, v = r x ∧ sat W (B x ++ F) w)) : CnP Tryd.prog 54 [v0, v1] W A r B pc Bp :=
  CnP.of (shape := dates_reader_clock v0 v1) Tryd.call54 (fun h => dates_reader_clock_calls h) h

/-- strings_IndexByte -/
def strings_IndexByte (v0 v1 : Value) (Kp : PK) (K : Value → WP) : WP :=
  opN Tryd.prog (sCall (fn 67) [v0, v1]) Kp fun x7 =>
  K x7
def strings_IndexByte_an : Ann := { cuts := [], blks := [], loops := [], drs := [] }
theorem strings_IndexByte_eq (v0 v1 : Value) (Kp : PK) (K : Value → WP) : cevF Tryd.prog strings_IndexByte_an Tryd.f55 [v0, v1] Kp K = strings_IndexByte v0 v1 Kp K := by kernel_rfl
theorem strings_IndexByte_calls {v0 v1 : Value} {Kp : PK} {K : Value → WP} {w : World} (h : strings_IndexByte v0 v1 Kp K w) : Calls Tryd.prog 55 #[v0, v1] w (after Kp K) :=
  calls_of_shape (calls_of_cev wide Tryd.func55 (an := strings_IndexByte_an) (args := [v0, v1]) (cast (congrFun (strings_IndexByte_eq v0 v1 Kp K) w).symm h))
theorem strings_IndexByte_cn {v0 v1 : Value} {W : World} {α : Type} {A : List HP} {r : α → Value} {B : α → List HP} (h : ∀ F, Ent W (A ++ F) (strings_IndexByte v0 v1 noP fun v w => ∃ x, v = r x ∧ sat W (B x ++ F) w)) : Cn Tryd.prog 55 [v0, v1] W A r B :=
  Cn.of (shape := strings_IndexByte v0 v1) Tryd.call55 (fun h => strings_IndexByte_calls h) h
theorem strings_IndexByte_cnP {v0 v1 : Value} {W : World} {α β : Type} {A : List HP} {r : α → Value} {B : α → List HP} {pc : β → List PanicEntry} {Bp : β → List HP} (h : ∀ F, Ent W (A ++ F) (strings_IndexByte v0 v1 (fun ch w => ∃ y, ch = pc y ∧ sat W (Bp y ++ F) w) fun v w => ∃ x, v = r x ∧ sat W (B x ++ F) w)) : CnP Tryd.prog 55 [v0, v1] W A r B pc Bp :=
  CnP.of (shape := strings_IndexByte v0 v1) Tryd.call55 (fun h => strings_IndexByte_calls h) h

/-- dates_Split -/
def dates_Split (v0 : Value) (Kp : PK) (K : Value → WP) : WP :=
  opN Tryd.prog (sAlloc 107) Kp fun x2 =>
  opN Tryd.prog (sBin .lss 3 v0 (.int .i64 0)) Kp fun x6 =>
  gdK x6 false (fun k => k v0) fun x8 =>
  gdK x6 false (opN Tryd.prog (sBin .gtr 3 x8 (.int .i64 253402300799)) Kp) fun x9 =>
  opN Tryd.prog (sPick x6 (.bool true) x9) Kp fun x10 =>
  condS x10
  (opN Tryd.prog (sBuild 107 []) Kp fun x11 =>
   opN Tryd.prog (sStore 107 x2 x11) Kp fun _ =>
   (stS Tryd.prog (sRes 107 x2) fun r0 => K (.tuple #[r0, (.int .i64 11)])))
  (opN Tryd.prog (sBin .quo 3 v0 (.int .i64 86400)) Kp fun x13 =>
   opN Tryd.prog (sBin .add 3 x13 (.int .i64 4)) Kp fun x14 =>
   opN Tryd.prog (sBin .rem 3 x14 (.int .i64 7)) Kp fun x15 =>
   opN Tryd.prog (sBin .rem 3 v0 (.int .i64 86400)) Kp fun x17 =>
   opN Tryd.prog (sBin .quo 3 x17 (.int .i64 3600)) Kp fun x18 =>
   opN Tryd.prog (sBin .rem 3 v0 (.int .i64 3600)) Kp fun x20 =>
   opN Tryd.prog (sBin .quo 3 x20 (.int .i64 60)) Kp fun x21 =>
   opN Tryd.prog (sBin .rem 3 v0 (.int .i64 60)) Kp fun x23 =>
   opN Tryd.prog (sBuild 107 [(6, x15), (3, x18), (4, x21), (5, x23)]) Kp fun x24 =>
   opN Tryd.prog (sAlloc 107) Kp fun x4 =>
   opN Tryd.prog (sStore 107 x4 x24) Kp fun _ =>
   opN Tryd.prog (sBin .quo 3 v0 (.int .i64 86400)) Kp fun x27 =>
   opN Tryd.prog (sCall (fn 68) [x27]) Kp fun x28 =>
   opN Tryd.prog (sExt x28 0) Kp fun x29 =>
   opN Tryd.prog (sExt x28 1) Kp fun x30 =>
   opN Tryd.prog (sExt x28 2) Kp fun x31 =>
   opN Tryd.prog (sFA 107 x4 0) Kp fun x32 =>
   opN Tryd.prog (sStore 3 x32 x29) Kp fun _ =>
   opN Tryd.prog (sFA 107 x4 1) Kp fun x33 =>
   opN Tryd.prog (sStore 3 x33 x30) Kp fun _ =>
   opN Tryd.prog (sFA 107 x4 2) Kp fun x34 =>
   opN Tryd.prog (sStore 3 x34 x31) Kp fun _ =>
   opN Tryd.prog (sLoad 107 x4) Kp fun x35 =>
   opN Tryd.prog (sStore 107 x2 x35) Kp fun _ =>
   (stS Tryd.prog (sRes 107 x2) fun r0 => K (.tuple #[r0, (.int .i64 0)])))
def dates_Split_an : Ann := { cuts := [], blks := [], loops := [], drs := [] }
theorem dates_Split_eq (v0 : Value) (Kp : PK) (K : Value → WP) : cevF Tryd.prog dates_Split_an Tryd.f56 [v0] Kp K = dates_Split v0 Kp K := by kernel_rfl
theorem dates_Split_calls {v0 : Value} {Kp : PK} {K : Value → WP} {w : World} (h : dates_Split v0 Kp K w) : Calls Tryd.prog 56 #[v0] w (after Kp K) :=
  calls_of_shape (calls_of_cev wide Tryd.func56 (an := dates_Split_an) (args := [v0]) (cast (congrFun (dates_Split_eq v0 Kp K) w).symm h))
theorem dates_Split_cn {v0 : Value} {W : World} {α : Type} {A : List HP} {r : α → Value} {B : α → List HP} (h : ∀ F, Ent W (A ++ F) (dates_Split v0 noP fun v w => ∃ x, v = r x ∧ sat W (B x ++ F) w)) : Cn Tryd.prog 56 [v0] W A r B :=
  Cn.of (shape := dates_Split v0) Tryd.call56 (fun h => dates_Split_calls h) h
theorem dates_Split_cnP {v0 : Value} {W : World} {α β : Type} {A : List HP} {r : α → Value} {B : α → List HP} {pc : β → List PanicEntry} {Bp : β → List HP} (h : ∀ F, Ent W (A ++ F) (dates_Split v0 (fun ch w => ∃ y, ch = pc y ∧ sat W (Bp y ++ F) w) fun v w => ∃ x, v = r x ∧ sat W (B x ++ F) w)) : CnP Tryd.prog 56 [v0] W A r B pc Bp :=
  CnP.of (shape := dates_Split v0) Tryd.call56 (fun h => dates_Split_calls h) h

/-- dates_try_1: rv: what recover hands out -/
def dates_try_1 (v0 v1 : Value) (rv : Value) (Kp : PK) (K : Value → WP) : WP :=
  stS Tryd.prog (sEq .neq 20 (.tmp 2) (.const .nilIface) rv .nilIface) fun x3 =>
  condS x3
  (opN Tryd.prog (sStore 3 v0 (.int .i64 0)) Kp fun _ =>
   opN Tryd.prog (sStore 4 v1 (.bool false)) Kp fun _ =>
   K (.tuple #[]))
  (K (.tuple #[]))
def dates_try_1_an : Ann := { cuts := [], blks := [], loops := [], drs := [] }
theorem dates_try_1_eq (v0 v1 : Value) (rv : Value) (Kp : PK) (K : Value → WP) : cevR Tryd.prog dates_try_1_an Tryd.f57 [v0, v1] rv Kp K = dates_try_1 v0 v1 rv Kp K := by kernel_rfl
theorem dates_try_1_d {v0 v1 : Value} {u : FrameMode} {Kp : PK} {K : Value → WP} {w : World} (h : dates_try_1 v0 v1 (recV u).1 Kp K w) : CallsD Tryd.prog 57 ([v0, v1] : List Value).toArray u w fun
      | .returned v, u', w' => u' = (recV u).2 ∧ K v w'
      | .panicked ch, u', w' => u' = (recV u).2 ∧ Kp ch w'
      | .outgrown, _, _ => False :=
  callsD_of_cevR wide Tryd.func57 (an := dates_try_1_an) (args := [v0, v1]) (cast (congrFun (dates_try_1_eq v0 v1 _ Kp K) w).symm h)

/-- dates_Join -/
def dates_Join (v0 : Value) (Kp : PK) (K : Value → WP) : WP :=
  opN Tryd.prog (sBox 107 v0) Kp fun x1 =>
  opN Tryd.prog (sFA 107 x1 0) Kp fun x10 =>
  opN Tryd.prog (sLoad 3 x10) Kp fun x11 =>
  opN Tryd.prog (sCall (fn 69) [x11, (.int .i64 1970), (.int .i64 9999)]) Kp fun x12 =>
  opN Tryd.prog (sUn .not x12) Kp fun x13 =>
  gdK x13 false (fun k => k (fn 69)) fun x15 =>
  gdK x13 false (opN Tryd.prog (sFA 107 x1 1) Kp) fun x16 =>
  gdK x13 false (opN Tryd.prog (sLoad 3 x16) Kp) fun x17 =>
  gdK x13 false (opN Tryd.prog (sCall x15 [x17, (.int .i64 1), (.int .i64 12)]) Kp) fun x18 =>
  gdK x13 false (opN Tryd.prog (sUn .not x18) Kp) fun x19 =>
  opN Tryd.prog (sPick x13 (.bool true) x19) Kp fun x20 =>
  gdK x20 false (fun k => k (fn 69)) fun x22 =>
  gdK x20 false (opN Tryd.prog (sFA 107 x1 2) Kp) fun x23 =>
  gdK x20 false (opN Tryd.prog (sLoad 3 x23) Kp) fun x24 =>
  gdK x20 false (opN Tryd.prog (sCall x22 [x24, (.int .i64 1), (.int .i64 31)]) Kp) fun x25 =>
  gdK x20 false (opN Tryd.prog (sUn .not x25) Kp) fun x26 =>
  opN Tryd.prog (sPick x20 (.bool true) x26) Kp fun x27 =>
  gdK x27 false (fun k => k (fn 69)) fun x29 =>
  gdK x27 false (opN Tryd.prog (sFA 107 x1 3) Kp) fun x30 =>
  gdK x27 false (opN Tryd.prog (sLoad 3 x30) Kp) fun x31 =>
  gdK x27 false (opN Tryd.prog (sCall x29 [x31, (.int .i64 0), (.int .i64 23)]) Kp) fun x32 =>
  gdK x27 false (opN Tryd.prog (sUn .not x32) Kp) fun x33 =>
  opN Tryd.prog (sPick x27 (.bool true) x33) Kp fun x34 =>
  gdK x34 false (fun k => k (fn 69)) fun x36 =>
  gdK x34 false (opN Tryd.prog (sFA 107 x1 4) Kp) fun x37 =>
  gdK x34 false (opN Tryd.prog (sLoad 3 x37) Kp) fun x38 =>
  gdK x34 false (opN Tryd.prog (sCall x36 [x38, (.int .i64 0), (.int .i64 59)]) Kp) fun x39 =>
  gdK x34 false (opN Tryd.prog (sUn .not x39) Kp) fun x40 =>
  opN Tryd.prog (sPick x34 (.bool true) x40) Kp fun x41 =>
  gdK x41 false (fun k => k (fn 69)) fun x43 =>
  gdK x41 false (opN Tryd.prog (sFA 107 x1 5) Kp) fun x44 =>
  gdK x41 false (opN Tryd.prog (sLoad 3 x44) Kp) fun x45 =>
  gdK x41 false (opN Tryd.prog (sCall x43 [x45, (.int .i64 0), (.int .i64 59)]) Kp) fun x46 =>
  gdK x41 false (opN Tryd.prog (sUn .not x46) Kp) fun x47 =>
  opN Tryd.prog (sPick x41 (.bool true) x47) Kp fun x48 =>
  condS x48
  (K (.tuple #[(.int .i64 0), (.int .i64 41)]))
  (opN Tryd.prog (sFA 107 x1 0) Kp fun x49 =>
   opN Tryd.prog (sLoad 3 x49) Kp fun x50 =>
   opN Tryd.prog (sFA 107 x1 1) Kp fun x51 =>
   opN Tryd.prog (sLoad 3 x51) Kp fun x52 =>
   opN Tryd.prog (sFA 107 x1 2) Kp fun x53 =>
   opN Tryd.prog (sLoad 3 x53) Kp fun x54 =>
   opN Tryd.prog (sCall (fn 70) [x50, x52, x54]) Kp fun x55 =>
   opN Tryd.prog (sCall (fn 68) [x55]) Kp fun x58 =>
   opN Tryd.prog (sExt x58 0) Kp fun x59 =>
   opN Tryd.prog (sExt x58 1) Kp fun x60 =>
   opN Tryd.prog (sExt x58 2) Kp fun x61 =>
   opN Tryd.prog (sFA 107 x1 1) Kp fun x63 =>
   opN Tryd.prog (sLoad 3 x63) Kp fun x64 =>
   opN Tryd.prog (sEq .neq 3 (.tmp 62) (.tmp 64) x60 x64) Kp fun x65 =>
   condS x65
   (K (.tuple #[(.int .i64 0), (.int .i64 41)]))
   (opN Tryd.prog (sBin .mul 3 x55 (.int .i64 86400)) Kp fun x67 =>
    opN Tryd.prog (sFA 107 x1 3) Kp fun x68 =>
    opN Tryd.prog (sLoad 3 x68) Kp fun x69 =>
    opN Tryd.prog (sBin .mul 3 x69 (.int .i64 3600)) Kp fun x70 =>
    opN Tryd.prog (sBin .add 3 x67 x70) Kp fun x71 =>
    opN Tryd.prog (sFA 107 x1 4) Kp fun x72 =>
    opN Tryd.prog (sLoad 3 x72) Kp fun x73 =>
    opN Tryd.prog (sBin .mul 3 x73 (.int .i64 60)) Kp fun x74 =>
    opN Tryd.prog (sBin .add 3 x71 x74) Kp fun x75 =>
    opN Tryd.prog (sFA 107 x1 5) Kp fun x76 =>
    opN Tryd.prog (sLoad 3 x76) Kp fun x77 =>
    opN Tryd.prog (sBin .add 3 x75 x77) Kp fun x78 =>
    K (.tuple #[x78, (.int .i64 0)])))
def dates_Join_an : Ann := { cuts := [], blks := [], loops := [], drs := [] }
theorem dates_Join_eq (v0 : Value) (Kp : PK) (K : Value → WP) : cevF Tryd.prog dates_Join_an Tryd.f58 [v0] Kp K = dates_Join v0 Kp K := by kernel_rfl
theorem dates_Join_calls {v0 : Value} {Kp : PK} {K : Value → WP} {w : World} (h : dates_Join v0 Kp K w) : Calls Tryd.prog 58 #[v0] w (after Kp K) :=
  calls_of_shape (calls_of_cev wide Tryd.func58 (an := dates_Join_an) (args := [v0]) (cast (congrFun (dates_Join_eq v0 Kp K) w).symm h))
theorem dates_Join_cn {v0 : Value} {W : World} {α : Type} {A : List HP} {r : α → Value} {B : α → List HP} (h : ∀ F, Ent W (A ++ F) (dates_Join v0 noP fun v w => ∃ x, v = r x ∧ sat W (B x ++ F) w)) : Cn Tryd.prog 58 [v0] W A r B :=
  Cn.of (shape := dates_Join v0) Tryd.call58 (fun h => dates_Join_calls h) h
theorem dates_Join_cnP {v0 : Value} {W : World} {α β : Type} {A : List HP} {r : α → Value} {B : α → List HP} {pc : β → List PanicEntry} {Bp : β → List HP} (h : ∀ F, Ent W (A ++ F) (dates_Join v0 (fun ch w => ∃ y, ch = pc y ∧ sat W (Bp y ++ F) w) fun v w => ∃ x, v = r x ∧ sat W (B x ++ F) w)) : CnP Tryd.prog 58 [v0] W A r B pc Bp :=
  CnP.of (shape := dates_Join v0) Tryd.call58 (fun h => dates_Join_calls h) h

/-- dates_Date_form -/
def dates_Date_form (v0 v1 : Value) (Kp : PK) (K : Value → WP) : WP :=
  opN Tryd.prog (sBox 107 v0) Kp fun x2 =>
  drS (stD Tryd.prog (sFA 107 x2 6) fun D1 x8 =>
   stD Tryd.prog (sLoad 3 x8) fun D2 x9 =>
   stD Tryd.prog (sFA 107 x2 1) fun D5 x12 =>
   stD Tryd.prog (sLoad 3 x12) fun D6 x13 =>
   stD Tryd.prog (sBin .sub 3 x13 (.int .i64 1)) fun D7 x14 =>
   opN Tryd.prog (sCall (fn 71) []) Kp fun x7 =>
   (fun w => D7 w ∧ (fun w => D6 w ∧ (fun w => D5 w ∧ (fun w => D2 w ∧ (fun w => D1 w ∧ (stD Tryd.prog (sIx 127 x7 x9) fun D3 x10 =>
         opN Tryd.prog (sCall (fn 66) []) Kp fun x11 =>
         (fun w => D3 w ∧ (fun w => D7 w ∧ (fun w => D6 w ∧ (fun w => D5 w ∧ (fun w => D2 w ∧ (fun w => D1 w ∧ (stS Tryd.prog (sIx 121 x11 x14) fun x15 =>
                opN Tryd.prog (sEq .eql 3 (.tmp 16) (.const (.int .i64 0)) v1 (.int .i64 0)) Kp fun x18 =>
                condS x18
                (drS (stD Tryd.prog (sSl 9 x10 none (some (.int .i64 3)) none) fun D1 x20 =>
                  stD Tryd.prog (sBin .add 9 x20 (.string ⟨#[44, 32]⟩)) fun D2 x21 =>
                  stS Tryd.prog (sFA 107 x2 2) fun x22 =>
                  stS Tryd.prog (sLoad 3 x22) fun x23 =>
                  stD Tryd.prog (sFA 107 x2 0) fun D11 x30 =>
                  stD Tryd.prog (sLoad 3 x30) fun D12 x31 =>
                  stD Tryd.prog (sLoad 107 x2) fun D16 x35 =>
                  opN Tryd.prog (sCall (fn 72) [x23, (.int .i64 2), (.int .u8 48)]) Kp fun x24 =>
                  (fun w => D16 w ∧ (fun w => D12 w ∧ (fun w => D11 w ∧ (fun w => D2 w ∧ (fun w => D1 w ∧ (stD Tryd.prog (sBin .add 9 x21 x24) fun D6 x25 =>
                      stD Tryd.prog (sBin .add 9 x25 (.string ⟨#[32]⟩)) fun D7 x26 =>
                      stD Tryd.prog (sBin .add 9 x26 x15) fun D9 x28 =>
                      stD Tryd.prog (sBin .add 9 x28 (.string ⟨#[32]⟩)) fun D10 x29 =>
                      opN Tryd.prog (sCall (fn 72) [x31, (.int .i64 4), (.int .u8 48)]) Kp fun x32 =>
                      (fun w => D10 w ∧ (fun w => D9 w ∧ (fun w => D7 w ∧ (fun w => D6 w ∧ (fun w => D16 w ∧ (fun w => D2 w ∧ (fun w => D1 w ∧ (stD Tryd.prog (sBin .add 9 x29 x32) fun D14 x33 =>
                      stD Tryd.prog (sBin .add 9 x33 (.string ⟨#[32]⟩)) fun D15 x34 =>
                      opN Tryd.prog (sCall (fn 73) [x35]) Kp fun x36 =>
                      (fun w => D15 w ∧ (fun w => D14 w ∧ (fun w => D10 w ∧ (fun w => D9 w ∧ (fun w => D7 w ∧ (fun w => D6 w ∧ (fun w => D2 w ∧ (fun w => D1 w ∧ (stS Tryd.prog (sBin .add 9 x34 x36) fun x37 =>
                      stS Tryd.prog (sBin .add 9 x37 (.string ⟨#[32, 71, 77, 84]⟩)) fun x38 =>
                      K x38) w) w) w) w) w) w) w) w)) w) w) w) w) w) w) w)) w) w) w) w) w)))
                (opN Tryd.prog (sEq .eql 3 (.tmp 16) (.const (.int .i64 1)) v1 (.int .i64 1)) Kp fun x40 =>
                 condS x40
                 (drS (stD Tryd.prog (sBin .add 9 x10 (.string ⟨#[44, 32]⟩)) fun D1 x42 =>
                   stS Tryd.prog (sFA 107 x2 2) fun x43 =>
                   stS Tryd.prog (sLoad 3 x43) fun x44 =>
                   stD Tryd.prog (sFA 107 x2 0) fun D10 x51 =>
                   stD Tryd.prog (sLoad 3 x51) fun D11 x52 =>
                   stD Tryd.prog (sBin .rem 3 x52 (.int .i64 100)) fun D12 x53 =>
                   stD Tryd.prog (sLoad 107 x2) fun D16 x57 =>
                   opN Tryd.prog (sCall (fn 72) [x44, (.int .i64 2), (.int .u8 48)]) Kp fun x45 =>
                   (fun w => D16 w ∧ (fun w => D12 w ∧ (fun w => D11 w ∧ (fun w => D10 w ∧ (fun w => D1 w ∧ (stD Tryd.prog (sBin .add 9 x42 x45) fun D5 x46 =>
                      stD Tryd.prog (sBin .add 9 x46 (.string ⟨#[45]⟩)) fun D6 x47 =>
                      stD Tryd.prog (sBin .add 9 x47 x15) fun D8 x49 =>
                      stD Tryd.prog (sBin .add 9 x49 (.string ⟨#[45]⟩)) fun D9 x50 =>
                      opN Tryd.prog (sCall (fn 72) [x53, (.int .i64 2), (.int .u8 48)]) Kp fun x54 =>
                      (fun w => D9 w ∧ (fun w => D8 w ∧ (fun w => D6 w ∧ (fun w => D5 w ∧ (fun w => D16 w ∧ (fun w => D1 w ∧ (stD Tryd.prog (sBin .add 9 x50 x54) fun D14 x55 =>
                      stD Tryd.prog (sBin .add 9 x55 (.string ⟨#[32]⟩)) fun D15 x56 =>
                      opN Tryd.prog (sCall (fn 73) [x57]) Kp fun x58 =>
                      (fun w => D15 w ∧ (fun w => D14 w ∧ (fun w => D9 w ∧ (fun w => D8 w ∧ (fun w => D6 w ∧ (fun w => D5 w ∧ (fun w => D1 w ∧ (stS Tryd.prog (sBin .add 9 x56 x58) fun x59 =>
                      stS Tryd.prog (sBin .add 9 x59 (.string ⟨#[32, 71, 77, 84]⟩)) fun x60 =>
                      K x60) w) w) w) w) w) w) w)) w) w) w) w) w) w)) w) w) w) w) w)))
                 (drS (stD Tryd.prog (sSl 9 x10 none (some (.int .i64 3)) none) fun D1 x62 =>
                   stD Tryd.prog (sBin .add 9 x62 (.string ⟨#[32]⟩)) fun D2 x63 =>
                   stD Tryd.prog (sBin .add 9 x63 x15) fun D4 x65 =>
                   stD Tryd.prog (sBin .add 9 x65 (.string ⟨#[32]⟩)) fun D5 x66 =>
                   stS Tryd.prog (sFA 107 x2 2) fun x67 =>
                   stS Tryd.prog (sLoad 3 x67) fun x68 =>
                   stD Tryd.prog (sLoad 107 x2) fun D11 x72 =>
                   stD Tryd.prog (sFA 107 x2 0) fun D15 x76 =>
                   stD Tryd.prog (sLoad 3 x76) fun D16 x77 =>
                   opN Tryd.prog (sCall (fn 72) [x68, (.int .i64 2), (.int .u8 32)]) Kp fun x69 =>
                   (fun w => D16 w ∧ (fun w => D15 w ∧ (fun w => D11 w ∧ (fun w => D5 w ∧ (fun w => D4 w ∧ (fun w => D2 w ∧ (fun w => D1 w ∧ (stD Tryd.prog (sBin .add 9 x66 x69) fun D9 x70 =>
                      stD Tryd.prog (sBin .add 9 x70 (.string ⟨#[32]⟩)) fun D10 x71 =>
                      opN Tryd.prog (sCall (fn 73) [x72]) Kp fun x73 =>
                      (fun w => D10 w ∧ (fun w => D9 w ∧ (fun w => D16 w ∧ (fun w => D15 w ∧ (fun w => D5 w ∧ (fun w => D4 w ∧ (fun w => D2 w ∧ (fun w => D1 w ∧ (stD Tryd.prog (sBin .add 9 x71 x73) fun D13 x74 =>
                      stD Tryd.prog (sBin .add 9 x74 (.string ⟨#[32]⟩)) fun D14 x75 =>
                      opN Tryd.prog (sCall (fn 72) [x77, (.int .i64 4), (.int .u8 48)]) Kp fun x78 =>
                      (fun w => D14 w ∧ (fun w => D13 w ∧ (fun w => D10 w ∧ (fun w => D9 w ∧ (fun w => D5 w ∧ (fun w => D4 w ∧ (fun w => D2 w ∧ (fun w => D1 w ∧ (stS Tryd.prog (sBin .add 9 x75 x78) fun x79 =>
                      K x79) w) w) w) w) w) w) w) w)) w) w) w) w) w) w) w) w)) w) w) w) w) w) w) w))))) w) w) w) w) w) w)) w) w) w) w) w))
def dates_Date_form_an : Ann := { cuts := [], blks := [], loops := [], drs := [(1, [(1, 3), (2, 3), (5, 3), (6, 3), (7, 3), (0, 0), (3, 3), (4, 0), (8, 1), (9, 1), (10, 1)]), (4, [(0, 2), (1, 3), (2, 3), (3, 1), (4, 1), (8, 2), (11, 3), (12, 3), (16, 3), (5, 0), (6, 3), (7, 3), (9, 3), (10, 3), (13, 0), (14, 3), (15, 3), (17, 0), (18, 1), (19, 1), (20, 1)]), (6, [(0, 2), (1, 3), (2, 1), (3, 1), (7, 2), (10, 3), (11, 3), (12, 3), (16, 3), (4, 0), (5, 3), (6, 3), (8, 3), (9, 3), (13, 0), (14, 3), (15, 3), (17, 0), (18, 1), (19, 1), (20, 1)]), (7, [(0, 2), (1, 3), (2, 3), (3, 2), (4, 3), (5, 3), (6, 1), (7, 1), (11, 3), (15, 3), (16, 3), (8, 0), (9, 3), (10, 3), (12, 0), (13, 3), (14, 3), (17, 0), (18, 1), (19, 1)])] }
theorem dates_Date_form_eq (v0 v1 : Value) (Kp : PK) (K : Value → WP) : cevF Tryd.prog dates_Date_form_an Tryd.f59 [v0, v1] Kp K = dates_Date_form v0 v1 Kp K := by kernel_rfl
theorem dates_Date_form_calls {v0 v1 : Value} {Kp : PK} {K : Value → WP} {w : World} (h : dates_Date_form v0 v1 Kp K w) : Calls Tryd.prog 59 #[v0, v1] w (after Kp K) :=
  calls_of_shape (calls_of_cev wide Tryd.func59 (an := dates_Date_form_an) (args := [v0, v1]) (cast (congrFun (dates_Date_form_eq v0 v1 Kp K) w).symm h))
theorem dates_Date_form_cn {v0 v1 : Value} {W : World} {α : Type} {A : List HP} {r : α → Value} {B : α → List HP} (h : ∀ F, Ent W (A ++ F) (dates_Date_form v0 v1 noP fun v w => ∃ x, v = r x ∧ sat W (B x ++ F) w)) : Cn Tryd.prog 59 [v0, v1] W A r B :=
  Cn.of (shape := dates_Date_form v0 v1) Tryd.call59 (fun h => dates_Date_form_calls h) h
theorem dates_Date_form_cnP {v0 v1 : Value} {W : World} {α β : Type} {A : List HP} {r : α → Value} {B : α → List HP} {pc : β → List PanicEntry} {Bp : β → List HP} (h : ∀ F, Ent W (A ++ F) (dates_Date_form v0 v1 (fun ch w => ∃ y, ch = pc y ∧ sat W (Bp y ++ F) w) fun v w => ∃ x, v = r x ∧ sat W (B x ++ F) w)) : CnP Tryd.prog 59 [v0, v1] W A r B pc Bp :=
  CnP.of (shape := dates_Date_form v0 v1) Tryd.call59 (fun h => dates_Date_form_calls h) h

/-- ascii_Lower -/
def ascii_Lower (v0 : Value) (Kp : PK) (K : Value → WP) : WP :=
  opN Tryd.prog (sCall (fn 74) []) Kp fun x7 =>
  opN Tryd.prog (sAlloc 130) Kp fun x3 =>
  opN Tryd.prog (sStore 130 x3 x7) Kp fun _ =>
  opN Tryd.prog (sConv 9 91 v0) Kp fun x9 =>
  opN Tryd.prog (sLen #[91] 3 [x9]) Kp fun x11 =>
  loop1 (fun I1 m1 _ y12 =>
   opN Tryd.prog (sBin .lss 3 y12 x11) Kp fun x13 =>
   condS x13
   (opN Tryd.prog (sIA 91 x9 y12) Kp fun x15 =>
    opN Tryd.prog (sLoad 5 x15) Kp fun x16 =>
    opN Tryd.prog (sIA 130 x3 x16) Kp fun x18 =>
    opN Tryd.prog (sLoad 3 x18) Kp fun x19 =>
    opN Tryd.prog (sBin .and 3 x19 (.int .i64 4)) Kp fun x20 =>
    opN Tryd.prog (sEq .neq 3 (.tmp 20) (.const (.int .i64 0)) x20 (.int .i64 0)) Kp fun x21 =>
    condS x21
    (opN Tryd.prog (sBin .add 5 x16 (.int .u8 32)) Kp fun x25 =>
     opN Tryd.prog (sIA 91 x9 y12) Kp fun x26 =>
     opN Tryd.prog (sStore 5 x26 x25) Kp fun _ =>
     opN Tryd.prog (sBin .add 3 y12 (.int .i64 1)) Kp fun x27 =>
     next1 I1 m1 x27)
    (opN Tryd.prog (sBin .add 3 y12 (.int .i64 1)) Kp fun x27 =>
     next1 I1 m1 x27))
   (opN Tryd.prog (sConv 91 9 x9) Kp fun x29 =>
    K x29)) (.int .i64 0)
def ascii_Lower_an : Ann := { cuts := [], blks := [], loops := [(4, [12])], drs := [] }
theorem ascii_Lower_eq (v0 : Value) (Kp : PK) (K : Value → WP) : cevF Tryd.prog ascii_Lower_an Tryd.f60 [v0] Kp K = ascii_Lower v0 Kp K := by kernel_rfl
theorem ascii_Lower_calls {v0 : Value} {Kp : PK} {K : Value → WP} {w : World} (h : ascii_Lower v0 Kp K w) : Calls Tryd.prog 60 #[v0] w (after Kp K) :=
  calls_of_shape (calls_of_cev wide Tryd.func60 (an := ascii_Lower_an) (args := [v0]) (cast (congrFun (ascii_Lower_eq v0 Kp K) w).symm h))
theorem ascii_Lower_cn {v0 : Value} {W : World} {α : Type} {A : List HP} {r : α → Value} {B : α → List HP} (h : ∀ F, Ent W (A ++ F) (ascii_Lower v0 noP fun v w => ∃ x, v = r x ∧ sat W (B x ++ F) w)) : Cn Tryd.prog 60 [v0] W A r B :=
  Cn.of (shape := ascii_Lower v0) Tryd.call60 (fun h => ascii_Lower_calls h) h
theorem ascii_Lower_cnP {v0 : Value} {W : World} {α β : Type} {A : List HP} {r : α → Value} {B : α → List HP} {pc : β → List PanicEntry} {Bp : β → List HP} (h : ∀ F, Ent W (A ++ F) (ascii_Lower v0 (fun ch w => ∃ y, ch = pc y ∧ sat W (Bp y ++ F) w) fun v w => ∃ x, v = r x ∧ sat W (B x ++ F) w)) : CnP Tryd.prog 60 [v0] W A r B pc Bp :=
  CnP.of (shape := ascii_Lower v0) Tryd.call60 (fun h => ascii_Lower_calls h) h

/-- strings_Trim -/
def strings_Trim (v0 v1 : Value) (Kp : PK) (K : Value → WP) : WP :=
  opN Tryd.prog (sEq .eql 9 (.tmp 7) (.const (.string ⟨#[]⟩)) v0 (.string ⟨#[]⟩)) Kp fun x8 =>
  gdK x8 false (fun k => k v1) fun x10 =>
  gdK x8 false (opN Tryd.prog (sEq .eql 9 (.tmp 10) (.const (.string ⟨#[]⟩)) x10 (.string ⟨#[]⟩)) Kp) fun x11 =>
  opN Tryd.prog (sPick x8 (.bool true) x11) Kp fun x12 =>
  condS x12
  (K v0)
  (opN Tryd.prog (sLen #[9] 3 [v1]) Kp fun x15 =>
   opN Tryd.prog (sEq .eql 3 (.tmp 15) (.const (.int .i64 1)) x15 (.int .i64 1)) Kp fun x16 =>
   gdK x16 true (fun k => k v1) fun x18 =>
   gdK x16 true (opN Tryd.prog (sIx 9 x18 (.int .i64 0)) Kp) fun x19 =>
   gdK x16 true (opN Tryd.prog (sBin .lss 5 x19 (.int .u8 128)) Kp) fun x20 =>
   opN Tryd.prog (sPick x16 x20 (.bool false)) Kp fun x21 =>
   condS x21
   (drS (stS Tryd.prog (sIx 9 v1 (.int .i64 0)) fun x24 =>
     stD Tryd.prog (sIx 9 v1 (.int .i64 0)) fun D5 x27 =>
     opN Tryd.prog (sCall (fn 76) [v0, x24]) Kp fun x25 =>
     (fun w => D5 w ∧ (opN Tryd.prog (sCall (fn 75) [x25, x27]) Kp fun x28 =>
       K x28) w)))
   (opN Tryd.prog (sCall (fn 77) [v1]) Kp fun x31 =>
    opN Tryd.prog (sExt x31 0) Kp fun x32 =>
    opN Tryd.prog (sExt x31 1) Kp fun x33 =>
    opN Tryd.prog (sAlloc 134) Kp fun x5 =>
    opN Tryd.prog (sStore 134 x5 x32) Kp fun _ =>
    condS x33
    (opN Tryd.prog (sCall (fn 79) [v0, x5]) Kp fun x36 =>
     opN Tryd.prog (sCall (fn 78) [x36, x5]) Kp fun x37 =>
     K x37)
    (opN Tryd.prog (sCall (fn 81) [v0, v1]) Kp fun x40 =>
     opN Tryd.prog (sCall (fn 80) [x40, v1]) Kp fun x42 =>
     K x42)))
def strings_Trim_an : Ann := { cuts := [], blks := [], loops := [], drs := [(4, [(0, 1), (1, 1), (2, 1), (4, 2), (5, 3), (3, 0), (6, 0), (7, 1)])] }
theorem strings_Trim_eq (v0 v1 : Value) (Kp : PK) (K : Value → WP) : cevF Tryd.prog strings_Trim_an Tryd.f61 [v0, v1] Kp K = strings_Trim v0 v1 Kp K := by kernel_rfl
theorem strings_Trim_calls {v0 v1 : Value} {Kp : PK} {K : Value → WP} {w : World} (h : strings_Trim v0 v1 Kp K w) : Calls Tryd.prog 61 #[v0, v1] w (after Kp K) :=
  calls_of_shape (calls_of_cev wide Tryd.func61 (an := strings_Trim_an) (args := [v0, v1]) (cast (congrFun (strings_Trim_eq v0 v1 Kp K) w).symm h))
theorem strings_Trim_cn {v0 v1 : Value} {W : World} {α : Type} {A : List HP} {r : α → Value} {B : α → List HP} (h : ∀ F, Ent W (A ++ F) (strings_Trim v0 v1 noP fun v w => ∃ x, v = r x ∧ sat W (B x ++ F) w)) : Cn Tryd.prog 61 [v0, v1] W A r B :=
  Cn.of (shape := strings_Trim v0 v1) Tryd.call61 (fun h => strings_Trim_calls h) h
theorem strings_Trim_cnP {v0 v1 : Value} {W : World} {α β : Type} {A : List HP} {r : α → Value} {B : α → List HP} {pc : β → List PanicEntry} {Bp : β → List HP} (h : ∀ F, Ent W (A ++ F) (strings_Trim v0 v1 (fun ch w => ∃ y, ch = pc y ∧ sat W (Bp y ++ F) w) fun v w => ∃ x, v = r x ∧ sat W (B x ++ F) w)) : CnP Tryd.prog 61 [v0, v1] W A r B pc Bp :=
  CnP.of (shape := strings_Trim v0 v1) Tryd.call61 (fun h => strings_Trim_calls h) h

/-- fields_kind_fields_Tag_elements -/
def fields_kind_fields_Tag_elements (v0 v1 : Value) (Kp : PK) (K : Value → WP) : WP :=
  opN Tryd.prog (sBox 95 v0) Kp fun x2 =>
  opN Tryd.prog (sBox 9 v1) Kp fun x3 =>
  opN Tryd.prog (sMkF (.func 82) [] [x3, x2]) Kp fun x5 =>
  K x5
def fields_kind_fields_Tag_elements_an : Ann := { cuts := [], blks := [], loops := [], drs := [] }
theorem fields_kind_fields_Tag_elements_eq (v0 v1 : Value) (Kp : PK) (K : Value → WP) : cevF Tryd.prog fields_kind_fields_Tag_elements_an Tryd.f62 [v0, v1] Kp K = fields_kind_fields_Tag_elements v0 v1 Kp K := by kernel_rfl
theorem fields_kind_fields_Tag_elements_calls {v0 v1 : Value} {Kp : PK} {K : Value → WP} {w : World} (h : fields_kind_fields_Tag_elements v0 v1 Kp K w) : Calls Tryd.prog 62 #[v0, v1] w (after Kp K) :=
  calls_of_shape (calls_of_cev wide Tryd.func62 (an := fields_kind_fields_Tag_elements_an) (args := [v0, v1]) (cast (congrFun (fields_kind_fields_Tag_elements_eq v0 v1 Kp K) w).symm h))
theorem fields_kind_fields_Tag_elements_cn {v0 v1 : Value} {W : World} {α : Type} {A : List HP} {r : α → Value} {B : α → List HP} (h : ∀ F, Ent W (A ++ F) (fields_kind_fields_Tag_elements v0 v1 noP fun v w => ∃ x, v = r x ∧ sat W (B x ++ F) w)) : Cn Tryd.prog 62 [v0, v1] W A r B :=
  Cn.of (shape := fields_kind_fields_Tag_elements v0 v1) Tryd.call62 (fun h => fields_kind_fields_Tag_elements_calls h) h
theorem fields_kind_fields_Tag_elements_cnP {v0 v1 : Value} {W : World} {α β : Type} {A : List HP} {r : α → Value} {B : α → List HP} {pc : β → List PanicEntry} {Bp : β → List HP} (h : ∀ F, Ent W (A ++ F) (fields_kind_fields_Tag_elements v0 v1 (fun ch w => ∃ y, ch = pc y ∧ sat W (Bp y ++ F) w) fun v w => ∃ x, v = r x ∧ sat W (B x ++ F) w)) : CnP Tryd.prog 62 [v0, v1] W A r B pc Bp :=
  CnP.of (shape := fields_kind_fields_Tag_elements v0 v1) Tryd.call62 (fun h => fields_kind_fields_Tag_elements_calls h) h

/-- strings_Builder_grow -/
def strings_Builder_grow (v0 v1 : Value) (Kp : PK) (K : Value → WP) : WP :=
  drS (stS Tryd.prog (sNil v0) fun x6 =>
   stS Tryd.prog (sFA 98 x6 1) fun x7 =>
   stS Tryd.prog (sLoad 91 x7) fun x8 =>
   stS Tryd.prog (sCap #[91] 3 [x8]) fun x9 =>
   stS Tryd.prog (sBin .mul 3 (.int .i64 2) x9) fun x10 =>
   stS Tryd.prog (sBin .add 3 x10 v1) fun x12 =>
   stD Tryd.prog (sNil v0) fun D10 x15 =>
   stD Tryd.prog (sFA 98 x15 1) fun D11 x16 =>
   stD Tryd.prog (sLoad 91 x16) fun D12 x17 =>
   stD Tryd.prog (sLen #[91] 3 [x17]) fun D13 x18 =>
   opN Tryd.prog (sCall (fn 84) [x12]) Kp fun x13 =>
   (fun w => D13 w ∧ (fun w => D12 w ∧ (fun w => D11 w ∧ (fun w => D10 w ∧ (stS Tryd.prog (sSl 91 x13 none (some x18) none) fun x19 =>
        opN Tryd.prog (sNil v0) Kp fun x22 =>
        opN Tryd.prog (sFA 98 x22 1) Kp fun x23 =>
        opN Tryd.prog (sLoad 91 x23) Kp fun x24 =>
        opN Tryd.prog (sCopy #[91, 91] 3 [x19, x24]) Kp fun x25 =>
        opN Tryd.prog (sNil v0) Kp fun x28 =>
        opN Tryd.prog (sFA 98 x28 1) Kp fun x29 =>
        opN Tryd.prog (sStore 91 x29 x19) Kp fun _ =>
        K (.tuple #[])) w) w) w) w))
def strings_Builder_grow_an : Ann := { cuts := [], blks := [], loops := [], drs := [(0, [(0, 1), (1, 1), (2, 1), (3, 1), (4, 1), (5, 1), (6, 1), (7, 1), (9, 2), (10, 3), (11, 3), (12, 3), (13, 3), (8, 0), (14, 1), (15, 1)])] }
theorem strings_Builder_grow_eq (v0 v1 : Value) (Kp : PK) (K : Value → WP) : cevF Tryd.prog strings_Builder_grow_an Tryd.f64 [v0, v1] Kp K = strings_Builder_grow v0 v1 Kp K := by kernel_rfl
theorem strings_Builder_grow_calls {v0 v1 : Value} {Kp : PK} {K : Value → WP} {w : World} (h : strings_Builder_grow v0 v1 Kp K w) : Calls Tryd.prog 64 #[v0, v1] w (after Kp K) :=
  calls_of_shape (calls_of_cev wide Tryd.func64 (an := strings_Builder_grow_an) (args := [v0, v1]) (cast (congrFun (strings_Builder_grow_eq v0 v1 Kp K) w).symm h))
theorem strings_Builder_grow_cn {v0 v1 : Value} {W : World} {α : Type} {A : List HP} {r : α → Value} {B : α → List HP} (h : ∀ F, Ent W (A ++ F) (strings_Builder_grow v0 v1 noP fun v w => ∃ x, v = r x ∧ sat W (B x ++ F) w)) : Cn Tryd.prog 64 [v0, v1] W A r B :=
  Cn.of (shape := strings_Builder_grow v0 v1) Tryd.call64 (fun h => strings_Builder_grow_calls h) h
theorem strings_Builder_grow_cnP {v0 v1 : Value} {W : World} {α β : Type} {A : List HP} {r : α → Value} {B : α → List HP} {pc : β → List PanicEntry} {Bp : β → List HP} (h : ∀ F, Ent W (A ++ F) (strings_Builder_grow v0 v1 (fun ch w => ∃ y, ch = pc y ∧ sat W (Bp y ++ F) w) fun v w => ∃ x, v = r x ∧ sat W (B x ++ F) w)) : CnP Tryd.prog 64 [v0, v1] W A r B pc Bp :=
  CnP.of (shape := strings_Builder_grow v0 v1) Tryd.call64 (fun h => strings_Builder_grow_calls h) h

/-- stringslite_CutPrefix -/
def stringslite_CutPrefix (v0 v1 : Value) (Kp : PK) (K : Value → WP) : WP :=
  opN Tryd.prog (sCall (fn 85) [v0, v1]) Kp fun x8 =>
  opN Tryd.prog (sUn .not x8) Kp fun x9 =>
  condS x9
  (K (.tuple #[v0, (.bool false)]))
  (opN Tryd.prog (sLen #[9] 3 [v1]) Kp fun x13 =>
   opN Tryd.prog (sSl 9 v0 (some x13) none none) Kp fun x14 =>
   K (.tuple #[x14, (.bool true)]))
def stringslite_CutPrefix_an : Ann := { cuts := [], blks := [], loops := [], drs := [] }
theorem stringslite_CutPrefix_eq (v0 v1 : Value) (Kp : PK) (K : Value → WP) : cevF Tryd.prog stringslite_CutPrefix_an Tryd.f65 [v0, v1] Kp K = stringslite_CutPrefix v0 v1 Kp K := by kernel_rfl
theorem stringslite_CutPrefix_calls {v0 v1 : Value} {Kp : PK} {K : Value → WP} {w : World} (h : stringslite_CutPrefix v0 v1 Kp K w) : Calls Tryd.prog 65 #[v0, v1] w (after Kp K) :=
  calls_of_shape (calls_of_cev wide Tryd.func65 (an := stringslite_CutPrefix_an) (args := [v0, v1]) (cast (congrFun (stringslite_CutPrefix_eq v0 v1 Kp K) w).symm h))
theorem stringslite_CutPrefix_cn {v0 v1 : Value} {W : World} {α : Type} {A : List HP} {r : α → Value} {B : α → List HP} (h : ∀ F, Ent W (A ++ F) (stringslite_CutPrefix v0 v1 noP fun v w => ∃ x, v = r x ∧ sat W (B x ++ F) w)) : Cn Tryd.prog 65 [v0, v1] W A r B :=
  Cn.of (shape := stringslite_CutPrefix v0 v1) Tryd.call65 (fun h => stringslite_CutPrefix_calls h) h
theorem stringslite_CutPrefix_cnP {v0 v1 : Value} {W : World} {α β : Type} {A : List HP} {r : α → Value} {B : α → List HP} {pc : β → List PanicEntry} {Bp : β → List HP} (h : ∀ F, Ent W (A ++ F) (stringslite_CutPrefix v0 v1 (fun ch w => ∃ y, ch = pc y ∧ sat W (Bp y ++ F) w) fun v w => ∃ x, v = r x ∧ sat W (B x ++ F) w)) : CnP Tryd.prog 65 [v0, v1] W A r B pc Bp :=
  CnP.of (shape := stringslite_CutPrefix v0 v1) Tryd.call65 (fun h => stringslite_CutPrefix_calls h) h

/-- dates_months -/
def dates_months (Kp : PK) (K : Value → WP) : WP :=
  opN Tryd.prog (sAlloc 121) Kp fun x0 =>
  opN Tryd.prog (sBuild 121 [(0, (.string ⟨#[74, 97, 110]⟩)), (1, (.string ⟨#[70, 101, 98]⟩)), (2, (.string ⟨#[77, 97, 114]⟩)), (3, (.string ⟨#[65, 112, 114]⟩)), (4, (.string ⟨#[77, 97, 121]⟩)), (5, (.string ⟨#[74, 117, 110]⟩)), (6, (.string ⟨#[74, 117, 108]⟩)), (7, (.string ⟨#[65, 117, 103]⟩)), (8, (.string ⟨#[83, 101, 112]⟩)), (9, (.string ⟨#[79, 99, 116]⟩)), (10, (.string ⟨#[78, 111, 118]⟩)), (11, (.string ⟨#[68, 101, 99]⟩))]) Kp fun x1 =>
  opN Tryd.prog (sStore 121 x0 x1) Kp fun _ =>
  (stS Tryd.prog (sRes 121 x0) fun r0 => K r0)
def dates_months_an : Ann := { cuts := [], blks := [], loops := [], drs := [] }
theorem dates_months_eq (Kp : PK) (K : Value → WP) : cevF Tryd.prog dates_months_an Tryd.f66 [] Kp K = dates_months Kp K := by kernel_rfl
theorem dates_months_calls  {Kp : PK} {K : Value → WP} {w : World} (h : dates_months Kp K w) : Calls Tryd.prog 66 #[] w (after Kp K) :=
  calls_of_shape (calls_of_cev wide Tryd.func66 (an := dates_months_an) (args := []) (cast (congrFun (dates_months_eq Kp K) w).symm h))
theorem dates_months_cn  {W : World} {α : Type} {A : List HP} {r : α → Value} {B : α → List HP} (h : ∀ F, Ent W (A ++ F) (dates_months noP fun v w => ∃ x, v = r x ∧ sat W (B x ++ F) w)) : Cn Tryd.prog 66 [] W A r B :=
  Cn.of (shape := dates_months) Tryd.call66 (fun h => dates_months_calls h) h
theorem dates_months_cnP  {W : World} {α β : Type} {A : List HP} {r : α → Value} {B : α → List HP} {pc : β → List PanicEntry} {Bp : β → List HP} (h : ∀ F, Ent W (A ++ F) (dates_months (fun ch w => ∃ y, ch = pc y ∧ sat W (Bp y ++ F) w) fun v w => ∃ x, v = r x ∧ sat W (B x ++ F) w)) : CnP Tryd.prog 66 [] W A r B pc Bp :=
  CnP.of (shape := dates_months) Tryd.call66 (fun h => dates_months_calls h) h

/-- stringslite_IndexByte -/
def stringslite_IndexByte (v0 v1 : Value) (Kp : PK) (K : Value → WP) : WP :=
  opN Tryd.prog (sCall (fn 86) [v0, v1]) Kp fun x7 =>
  K x7
def stringslite_IndexByte_an : Ann := { cuts := [], blks := [], loops := [], drs := [] }
theorem stringslite_IndexByte_eq (v0 v1 : Value) (Kp : PK) (K : Value → WP) : cevF Tryd.prog stringslite_IndexByte_an Tryd.f67 [v0, v1] Kp K = stringslite_IndexByte v0 v1 Kp K := by kernel_rfl
theorem stringslite_IndexByte_calls {v0 v1 : Value} {Kp : PK} {K : Value → WP} {w : World} (h : stringslite_IndexByte v0 v1 Kp K w) : Calls Tryd.prog 67 #[v0, v1] w (after Kp K) :=
  calls_of_shape (calls_of_cev wide Tryd.func67 (an := stringslite_IndexByte_an) (args := [v0, v1]) (cast (congrFun (stringslite_IndexByte_eq v0 v1 Kp K) w).symm h))
theorem stringslite_IndexByte_cn {v0 v1 : Value} {W : World} {α : Type} {A : List HP} {r : α → Value} {B : α → List HP} (h : ∀ F, Ent W (A ++ F) (stringslite_IndexByte v0 v1 noP fun v w => ∃ x, v = r x ∧ sat W (B x ++ F) w)) : Cn Tryd.prog 67 [v0, v1] W A r B :=
  Cn.of (shape := stringslite_IndexByte v0 v1) Tryd.call67 (fun h => stringslite_IndexByte_calls h) h
theorem stringslite_IndexByte_cnP {v0 v1 : Value} {W : World} {α β : Type} {A : List HP} {r : α → Value} {B : α → List HP} {pc : β → List PanicEntry} {Bp : β → List HP} (h : ∀ F, Ent W (A ++ F) (stringslite_IndexByte v0 v1 (fun ch w => ∃ y, ch = pc y ∧ sat W (Bp y ++ F) w) fun v w => ∃ x, v = r x ∧ sat W (B x ++ F) w)) : CnP Tryd.prog 67 [v0, v1] W A r B pc Bp :=
  CnP.of (shape := stringslite_IndexByte v0 v1) Tryd.call67 (fun h => stringslite_IndexByte_calls h) h

/-- dates_civil -/
def dates_civil (v0 : Value) (Kp : PK) (K : Value → WP) : WP :=
  opN Tryd.prog (sBin .add 3 v0 (.int .i64 719468)) Kp fun x11 =>
  opN Tryd.prog (sBin .quo 3 x11 (.int .i64 146097)) Kp fun x13 =>
  opN Tryd.prog (sBin .rem 3 x11 (.int .i64 146097)) Kp fun x15 =>
  opN Tryd.prog (sBin .quo 3 x15 (.int .i64 1460)) Kp fun x18 =>
  opN Tryd.prog (sBin .sub 3 x15 x18) Kp fun x19 =>
  opN Tryd.prog (sBin .quo 3 x15 (.int .i64 36524)) Kp fun x21 =>
  opN Tryd.prog (sBin .add 3 x19 x21) Kp fun x22 =>
  opN Tryd.prog (sBin .quo 3 x15 (.int .i64 146096)) Kp fun x24 =>
  opN Tryd.prog (sBin .sub 3 x22 x24) Kp fun x25 =>
  opN Tryd.prog (sBin .quo 3 x25 (.int .i64 365)) Kp fun x26 =>
  opN Tryd.prog (sBin .mul 3 (.int .i64 365) x26) Kp fun x29 =>
  opN Tryd.prog (sBin .quo 3 x26 (.int .i64 4)) Kp fun x31 =>
  opN Tryd.prog (sBin .add 3 x29 x31) Kp fun x32 =>
  opN Tryd.prog (sBin .quo 3 x26 (.int .i64 100)) Kp fun x34 =>
  opN Tryd.prog (sBin .sub 3 x32 x34) Kp fun x35 =>
  opN Tryd.prog (sBin .sub 3 x15 x35) Kp fun x36 =>
  opN Tryd.prog (sBin .mul 3 (.int .i64 5) x36) Kp fun x38 =>
  opN Tryd.prog (sBin .add 3 x38 (.int .i64 2)) Kp fun x39 =>
  opN Tryd.prog (sBin .quo 3 x39 (.int .i64 153)) Kp fun x40 =>
  opN Tryd.prog (sBin .mul 3 x13 (.int .i64 400)) Kp fun x42 =>
  opN Tryd.prog (sBin .add 3 x42 x26) Kp fun x44 =>
  opN Tryd.prog (sBin .add 3 x40 (.int .i64 2)) Kp fun x46 =>
  opN Tryd.prog (sBin .rem 3 x46 (.int .i64 12)) Kp fun x47 =>
  opN Tryd.prog (sBin .add 3 x47 (.int .i64 1)) Kp fun x48 =>
  opN Tryd.prog (sBin .mul 3 (.int .i64 153) x40) Kp fun x51 =>
  opN Tryd.prog (sBin .add 3 x51 (.int .i64 2)) Kp fun x52 =>
  opN Tryd.prog (sBin .quo 3 x52 (.int .i64 5)) Kp fun x53 =>
  opN Tryd.prog (sBin .sub 3 x36 x53) Kp fun x54 =>
  opN Tryd.prog (sBin .add 3 x54 (.int .i64 1)) Kp fun x55 =>
  cut1 (fun J1 =>
   opN Tryd.prog (sBin .leq 3 x48 (.int .i64 2)) Kp fun x57 =>
   condS x57
   (opN Tryd.prog (sBin .add 3 x44 (.int .i64 1)) Kp fun x59 =>
    J1 x59)
   (J1 x44)) fun _ z2 =>
  K (.tuple #[z2, x48, x55])
def dates_civil_an : Ann := { cuts := [(9, [2])], blks := [], loops := [], drs := [] }
theorem dates_civil_eq (v0 : Value) (Kp : PK) (K : Value → WP) : cevF Tryd.prog dates_civil_an Tryd.f68 [v0] Kp K = dates_civil v0 Kp K := by kernel_rfl
theorem dates_civil_calls {v0 : Value} {Kp : PK} {K : Value → WP} {w : World} (h : dates_civil v0 Kp K w) : Calls Tryd.prog 68 #[v0] w (after Kp K) :=
  calls_of_shape (calls_of_cev wide Tryd.func68 (an := dates_civil_an) (args := [v0]) (cast (congrFun (dates_civil_eq v0 Kp K) w).symm h))
theorem dates_civil_cn {v0 : Value} {W : World} {α : Type} {A : List HP} {r : α → Value} {B : α → List HP} (h : ∀ F, Ent W (A ++ F) (dates_civil v0 noP fun v w => ∃ x, v = r x ∧ sat W (B x ++ F) w)) : Cn Tryd.prog 68 [v0] W A r B :=
  Cn.of (shape := dates_civil v0) Tryd.call68 (fun h => dates_civil_calls h) h
theorem dates_civil_cnP {v0 : Value} {W : World} {α β : Type} {A : List HP} {r : α → Value} {B : α → List HP} {pc : β → List PanicEntry} {Bp : β → List HP} (h : ∀ F, Ent W (A ++ F) (dates_civil v0 (fun ch w => ∃ y, ch = pc y ∧ sat W (Bp y ++ F) w) fun v w => ∃ x, v = r x ∧ sat W (B x ++ F) w)) : CnP Tryd.prog 68 [v0] W A r B pc Bp :=
  CnP.of (shape := dates_civil v0) Tryd.call68 (fun h => dates_civil_calls h) h

/-- dates_Join_1 -/
def dates_Join_1 (v0 v1 v2 : Value) (Kp : PK) (K : Value → WP) : WP :=
  opN Tryd.prog (sBin .geq 3 v0 v1) Kp fun x9 =>
  gdK x9 true (fun k => k v0) fun x11 =>
  gdK x9 true (fun k => k v2) fun x12 =>
  gdK x9 true (opN Tryd.prog (sBin .leq 3 x11 x12) Kp) fun x13 =>
  opN Tryd.prog (sPick x9 x13 (.bool false)) Kp fun x14 =>
  K x14
def dates_Join_1_an : Ann := { cuts := [], blks := [], loops := [], drs := [] }
theorem dates_Join_1_eq (v0 v1 v2 : Value) (Kp : PK) (K : Value → WP) : cevF Tryd.prog dates_Join_1_an Tryd.f69 [v0, v1, v2] Kp K = dates_Join_1 v0 v1 v2 Kp K := by kernel_rfl
theorem dates_Join_1_calls {v0 v1 v2 : Value} {Kp : PK} {K : Value → WP} {w : World} (h : dates_Join_1 v0 v1 v2 Kp K w) : Calls Tryd.prog 69 #[v0, v1, v2] w (after Kp K) :=
  calls_of_shape (calls_of_cev wide Tryd.func69 (an := dates_Join_1_an) (args := [v0, v1, v2]) (cast (congrFun (dates_Join_1_eq v0 v1 v2 Kp K) w).symm h))
theorem dates_Join_1_cn {v0 v1 v2 : Value} {W : World} {α : Type} {A : List HP} {r : α → Value} {B : α → List HP} (h : ∀ F, Ent W (A ++ F) (dates_Join_1 v0 v1 v2 noP fun v w => ∃ x, v = r x ∧ sat W (B x ++ F) w)) : Cn Tryd.prog 69 [v0, v1, v2] W A r B :=
  Cn.of (shape := dates_Join_1 v0 v1 v2) Tryd.call69 (fun h => dates_Join_1_calls h) h
theorem dates_Join_1_cnP {v0 v1 v2 : Value} {W : World} {α β : Type} {A : List HP} {r : α → Value} {B : α → List HP} {pc : β → List PanicEntry} {Bp : β → List HP} (h : ∀ F, Ent W (A ++ F) (dates_Join_1 v0 v1 v2 (fun ch w => ∃ y, ch = pc y ∧ sat W (Bp y ++ F) w) fun v w => ∃ x, v = r x ∧ sat W (B x ++ F) w)) : CnP Tryd.prog 69 [v0, v1, v2] W A r B pc Bp :=
  CnP.of (shape := dates_Join_1 v0 v1 v2) Tryd.call69 (fun h => dates_Join_1_calls h) h

/-- dates_days -/
def dates_days (v0 v1 v2 : Value) (Kp : PK) (K : Value → WP) : WP :=
  cut1 (fun J1 =>
   opN Tryd.prog (sBin .leq 3 v1 (.int .i64 2)) Kp fun x11 =>
   condS x11
   (opN Tryd.prog (sBin .sub 3 v0 (.int .i64 1)) Kp fun x13 =>
    J1 x13)
   (J1 v0)) fun _ z0 =>
  opN Tryd.prog (sBin .quo 3 z0 (.int .i64 400)) Kp fun x15 =>
  opN Tryd.prog (sBin .rem 3 z0 (.int .i64 400)) Kp fun x17 =>
  opN Tryd.prog (sBin .add 3 v1 (.int .i64 9)) Kp fun x19 =>
  opN Tryd.prog (sBin .rem 3 x19 (.int .i64 12)) Kp fun x20 =>
  opN Tryd.prog (sBin .mul 3 (.int .i64 153) x20) Kp fun x21 =>
  opN Tryd.prog (sBin .add 3 x21 (.int .i64 2)) Kp fun x22 =>
  opN Tryd.prog (sBin .quo 3 x22 (.int .i64 5)) Kp fun x23 =>
  opN Tryd.prog (sBin .add 3 x23 v2) Kp fun x25 =>
  opN Tryd.prog (sBin .sub 3 x25 (.int .i64 1)) Kp fun x26 =>
  opN Tryd.prog (sBin .mul 3 x15 (.int .i64 146097)) Kp fun x28 =>
  opN Tryd.prog (sBin .mul 3 x17 (.int .i64 365)) Kp fun x30 =>
  opN Tryd.prog (sBin .add 3 x28 x30) Kp fun x31 =>
  opN Tryd.prog (sBin .quo 3 x17 (.int .i64 4)) Kp fun x33 =>
  opN Tryd.prog (sBin .add 3 x31 x33) Kp fun x34 =>
  opN Tryd.prog (sBin .quo 3 x17 (.int .i64 100)) Kp fun x36 =>
  opN Tryd.prog (sBin .sub 3 x34 x36) Kp fun x37 =>
  opN Tryd.prog (sBin .add 3 x37 x26) Kp fun x39 =>
  opN Tryd.prog (sBin .sub 3 x39 (.int .i64 719468)) Kp fun x40 =>
  K x40
def dates_days_an : Ann := { cuts := [(3, [0])], blks := [], loops := [], drs := [] }
theorem dates_days_eq (v0 v1 v2 : Value) (Kp : PK) (K : Value → WP) : cevF Tryd.prog dates_days_an Tryd.f70 [v0, v1, v2] Kp K = dates_days v0 v1 v2 Kp K := by kernel_rfl
theorem dates_days_calls {v0 v1 v2 : Value} {Kp : PK} {K : Value → WP} {w : World} (h : dates_days v0 v1 v2 Kp K w) : Calls Tryd.prog 70 #[v0, v1, v2] w (after Kp K) :=
  calls_of_shape (calls_of_cev wide Tryd.func70 (an := dates_days_an) (args := [v0, v1, v2]) (cast (congrFun (dates_days_eq v0 v1 v2 Kp K) w).symm h))
theorem dates_days_cn {v0 v1 v2 : Value} {W : World} {α : Type} {A : List HP} {r : α → Value} {B : α → List HP} (h : ∀ F, Ent W (A ++ F) (dates_days v0 v1 v2 noP fun v w => ∃ x, v = r x ∧ sat W (B x ++ F) w)) : Cn Tryd.prog 70 [v0, v1, v2] W A r B :=
  Cn.of (shape := dates_days v0 v1 v2) Tryd.call70 (fun h => dates_days_calls h) h
theorem dates_days_cnP {v0 v1 v2 : Value} {W : World} {α β : Type} {A : List HP} {r : α → Value} {B : α → List HP} {pc : β → List PanicEntry} {Bp : β → List HP} (h : ∀ F, Ent W (A ++ F) (dates_days v0 v1 v2 (fun ch w => ∃ y, ch = pc y ∧ sat W (Bp y ++ F) w) fun v w => ∃ x, v = r x ∧ sat W (B x ++ F) w)) : CnP Tryd.prog 70 [v0, v1, v2] W A r B pc Bp :=
  CnP.of (shape := dates_days v0 v1 v2) Tryd.call70 (fun h => dates_days_calls h) h

/-- dates_weekdays -/
def dates_weekdays (Kp : PK) (K : Value → WP) : WP :=
  opN Tryd.prog (sAlloc 127) Kp fun x0 =>
  opN Tryd.prog (sBuild 127 [(0, (.string ⟨#[83, 117, 110, 100, 97, 121]⟩)), (1, (.string ⟨#[77, 111, 110, 100, 97, 121]⟩)), (2, (.string ⟨#[84, 117, 101, 115, 100, 97, 121]⟩)), (3, (.string ⟨#[87, 101, 100, 110, 101, 115, 100, 97, 121]⟩)), (4, (.string ⟨#[84, 104, 117, 114, 115, 100, 97, 121]⟩)), (5, (.string ⟨#[70, 114, 105, 100, 97, 121]⟩)), (6, (.string ⟨#[83, 97, 116, 117, 114, 100, 97, 121]⟩))]) Kp fun x1 =>
  opN Tryd.prog (sStore 127 x0 x1) Kp fun _ =>
  (stS Tryd.prog (sRes 127 x0) fun r0 => K r0)
def dates_weekdays_an : Ann := { cuts := [], blks := [], loops := [], drs := [] }
theorem dates_weekdays_eq (Kp : PK) (K : Value → WP) : cevF Tryd.prog dates_weekdays_an Tryd.f71 [] Kp K = dates_weekdays Kp K := by kernel_rfl
theorem dates_weekdays_calls  {Kp : PK} {K : Value → WP} {w : World} (h : dates_weekdays Kp K w) : Calls Tryd.prog 71 #[] w (after Kp K) :=
  calls_of_shape (calls_of_cev wide Tryd.func71 (an := dates_weekdays_an) (args := []) (cast (congrFun (dates_weekdays_eq Kp K) w).symm h))
theorem dates_weekdays_cn  {W : World} {α : Type} {A : List HP} {r : α → Value} {B : α → List HP} (h : ∀ F, Ent W (A ++ F) (dates_weekdays noP fun v w => ∃ x, v = r x ∧ sat W (B x ++ F) w)) : Cn Tryd.prog 71 [] W A r B :=
  Cn.of (shape := dates_weekdays) Tryd.call71 (fun h => dates_weekdays_calls h) h
theorem dates_weekdays_cnP  {W : World} {α β : Type} {A : List HP} {r : α → Value} {B : α → List HP} {pc : β → List PanicEntry} {Bp : β → List HP} (h : ∀ F, Ent W (A ++ F) (dates_weekdays (fun ch w => ∃ y, ch = pc y ∧ sat W (Bp y ++ F) w) fun v w => ∃ x, v = r x ∧ sat W (B x ++ F) w)) : CnP Tryd.prog 71 [] W A r B pc Bp :=
  CnP.of (shape := dates_weekdays) Tryd.call71 (fun h => dates_weekdays_calls h) h

/-- dates_digits -/
def dates_digits (v0 v1 v2 : Value) (Kp : PK) (K : Value → WP) : WP :=
  opN Tryd.prog (sMkSl 91 v1 v1) Kp fun x10 =>
  opN Tryd.prog (sBin .sub 3 v1 (.int .i64 1)) Kp fun x12 =>
  loop2 (fun I1 m1 _ y0 y8 =>
   opN Tryd.prog (sBin .geq 3 y8 (.int .i64 0)) Kp fun x14 =>
   condS x14
   (opN Tryd.prog (sBin .rem 3 y0 (.int .i64 10)) Kp fun x20 =>
    opN Tryd.prog (sBin .add 3 (.int .i64 48) x20) Kp fun x21 =>
    opN Tryd.prog (sConv 3 5 x21) Kp fun x22 =>
    opN Tryd.prog (sIA 91 x10 y8) Kp fun x23 =>
    opN Tryd.prog (sStore 5 x23 x22) Kp fun _ =>
    cut0 (fun J1 =>
     opN Tryd.prog (sEq .eql 3 (.tmp 24) (.const (.int .i64 0)) y0 (.int .i64 0)) Kp fun x25 =>
     gdK x25 true (fun k => k y8) fun x27 =>
     gdK x25 true (fun k => k v1) fun x28 =>
     gdK x25 true (opN Tryd.prog (sBin .sub 3 x28 (.int .i64 1)) Kp) fun x29 =>
     gdK x25 true (opN Tryd.prog (sBin .lss 3 x27 x29) Kp) fun x30 =>
     opN Tryd.prog (sPick x25 x30 (.bool false)) Kp fun x31 =>
     condS x31
     (opN Tryd.prog (sIA 91 x10 y8) Kp fun x35 =>
      opN Tryd.prog (sStore 5 x35 v2) Kp fun _ =>
      J1)
     (J1)) fun _ =>
    opN Tryd.prog (sBin .quo 3 y0 (.int .i64 10)) Kp fun x37 =>
    opN Tryd.prog (sBin .sub 3 y8 (.int .i64 1)) Kp fun x16 =>
    next2 I1 m1 x37 x16)
   (opN Tryd.prog (sConv 91 9 x10) Kp fun x39 =>
    K x39)) v0 x12
def dates_digits_an : Ann := { cuts := [(8, [])], blks := [], loops := [(3, [0, 8])], drs := [] }
theorem dates_digits_eq (v0 v1 v2 : Value) (Kp : PK) (K : Value → WP) : cevF Tryd.prog dates_digits_an Tryd.f72 [v0, v1, v2] Kp K = dates_digits v0 v1 v2 Kp K := by kernel_rfl
theorem dates_digits_calls {v0 v1 v2 : Value} {Kp : PK} {K : Value → WP} {w : World} (h : dates_digits v0 v1 v2 Kp K w) : Calls Tryd.prog 72 #[v0, v1, v2] w (after Kp K) :=
  calls_of_shape (calls_of_cev wide Tryd.func72 (an := dates_digits_an) (args := [v0, v1, v2]) (cast (congrFun (dates_digits_eq v0 v1 v2 Kp K) w).symm h))
theorem dates_digits_cn {v0 v1 v2 : Value} {W : World} {α : Type} {A : List HP} {r : α → Value} {B : α → List HP} (h : ∀ F, Ent W (A ++ F) (dates_digits v0 v1 v2 noP fun v w => ∃ x, v = r x ∧ sat W (B x ++ F) w)) : Cn Tryd.prog 72 [v0, v1, v2] W A r B :=
  Cn.of (shape := dates_digits v0 v1 v2) Tryd.call72 (fun h => dates_digits_calls h) h
theorem dates_digits_cnP {v0 v1 v2 : Value} {W : World} {α β : Type} {A : List HP} {r : α → Value} {B : α → List HP} {pc : β → List PanicEntry} {Bp : β → List HP} (h : ∀ F, Ent W (A ++ F) (dates_digits v0 v1 v2 (fun ch w => ∃ y, ch = pc y ∧ sat W (Bp y ++ F) w) fun v w => ∃ x, v = r x ∧ sat W (B x ++ F) w)) : CnP Tryd.prog 72 [v0, v1, v2] W A r B pc Bp :=
  CnP.of (shape := dates_digits v0 v1 v2) Tryd.call72 (fun h => dates_digits_calls h) h

/-- dates_Date_clock -/
def dates_Date_clock (v0 : Value) (Kp : PK) (K : Value → WP) : WP :=
  opN Tryd.prog (sBox 107 v0) Kp fun x1 =>
  drS (stS Tryd.prog (sFA 107 x1 3) fun x3 =>
   stS Tryd.prog (sLoad 3 x3) fun x4 =>
   stD Tryd.prog (sFA 107 x1 4) fun D4 x7 =>
   stD Tryd.prog (sLoad 3 x7) fun D5 x8 =>
   stD Tryd.prog (sFA 107 x1 5) fun D9 x12 =>
   stD Tryd.prog (sLoad 3 x12) fun D10 x13 =>
   opN Tryd.prog (sCall (fn 72) [x4, (.int .i64 2), (.int .u8 48)]) Kp fun x5 =>
   (fun w => D10 w ∧ (fun w => D9 w ∧ (fun w => D5 w ∧ (fun w => D4 w ∧ (stD Tryd.prog (sBin .add 9 x5 (.string ⟨#[58]⟩)) fun D3 x6 =>
        opN Tryd.prog (sCall (fn 72) [x8, (.int .i64 2), (.int .u8 48)]) Kp fun x9 =>
        (fun w => D3 w ∧ (fun w => D10 w ∧ (fun w => D9 w ∧ (stD Tryd.prog (sBin .add 9 x6 x9) fun D7 x10 =>
            stD Tryd.prog (sBin .add 9 x10 (.string ⟨#[58]⟩)) fun D8 x11 =>
            opN Tryd.prog (sCall (fn 72) [x13, (.int .i64 2), (.int .u8 48)]) Kp fun x14 =>
            (fun w => D8 w ∧ (fun w => D7 w ∧ (fun w => D3 w ∧ (stS Tryd.prog (sBin .add 9 x11 x14) fun x15 =>
                K x15) w) w) w)) w) w) w)) w) w) w) w))
def dates_Date_clock_an : Ann := { cuts := [], blks := [], loops := [], drs := [(1, [(0, 1), (1, 1), (4, 3), (5, 3), (9, 3), (10, 3), (2, 0), (3, 3), (6, 0), (7, 3), (8, 3), (11, 0), (12, 1), (13, 1)])] }
theorem dates_Date_clock_eq (v0 : Value) (Kp : PK) (K : Value → WP) : cevF Tryd.prog dates_Date_clock_an Tryd.f73 [v0] Kp K = dates_Date_clock v0 Kp K := by kernel_rfl
theorem dates_Date_clock_calls {v0 : Value} {Kp : PK} {K : Value → WP} {w : World} (h : dates_Date_clock v0 Kp K w) : Calls Tryd.prog 73 #[v0] w (after Kp K) :=
  calls_of_shape (calls_of_cev wide Tryd.func73 (an := dates_Date_clock_an) (args := [v0]) (cast (congrFun (dates_Date_clock_eq v0 Kp K) w).symm h))
theorem dates_Date_clock_cn {v0 : Value} {W : World} {α : Type} {A : List HP} {r : α → Value} {B : α → List HP} (h : ∀ F, Ent W (A ++ F) (dates_Date_clock v0 noP fun v w => ∃ x, v = r x ∧ sat W (B x ++ F) w)) : Cn Tryd.prog 73 [v0] W A r B :=
  Cn.of (shape := dates_Date_clock v0) Tryd.call73 (fun h => dates_Date_clock_calls h) h
theorem dates_Date_clock_cnP {v0 : Value} {W : World} {α β : Type} {A : List HP} {r : α → Value} {B : α → List HP} {pc : β → List PanicEntry} {Bp : β → List HP} (h : ∀ F, Ent W (A ++ F) (dates_Date_clock v0 (fun ch w => ∃ y, ch = pc y ∧ sat W (Bp y ++ F) w) fun v w => ∃ x, v = r x ∧ sat W (B x ++ F) w)) : CnP Tryd.prog 73 [v0] W A r B pc Bp :=
  CnP.of (shape := dates_Date_clock v0) Tryd.call73 (fun h => dates_Date_clock_calls h) h

/-- ascii_classes -/
def ascii_classes (Kp : PK) (K : Value → WP) : WP :=
  opN Tryd.prog (sAlloc 130) Kp fun x0 =>
  opN Tryd.prog (sAlloc 130) Kp fun x1 =>
  loop1 (fun I1 m1 _ y4 =>
   opN Tryd.prog (sBin .lss 3 y4 (.int .i64 256)) Kp fun x5 =>
   condS x5
   (opN Tryd.prog (sBin .geq 3 y4 (.int .i64 97)) Kp fun x8 =>
    gdK x8 true (fun k => k y4) fun x10 =>
    gdK x8 true (opN Tryd.prog (sBin .leq 3 x10 (.int .i64 122)) Kp) fun x11 =>
    opN Tryd.prog (sPick x8 x11 (.bool false)) Kp fun x12 =>
    gdK x12 false (fun k => k y4) fun x14 =>
    gdK x12 false (opN Tryd.prog (sBin .geq 3 x14 (.int .i64 65)) Kp) fun x15 =>
    gdK x12 false (fun k => k x15) fun x16 =>
    gdK x16 true (fun k => k y4) fun x17 =>
    gdK x16 true (opN Tryd.prog (sBin .leq 3 x17 (.int .i64 90)) Kp) fun x18 =>
    gdK x12 false (opN Tryd.prog (sPick x16 x18 (.bool false)) Kp) fun x19 =>
    opN Tryd.prog (sPick x12 (.bool true) x19) Kp fun x20 =>
    gdK x20 false (fun k => k y4) fun x22 =>
    gdK x20 false (opN Tryd.prog (sBin .geq 3 x22 (.int .i64 48)) Kp) fun x23 =>
    gdK x20 false (fun k => k x23) fun x24 =>
    gdK x24 true (fun k => k y4) fun x25 =>
    gdK x24 true (opN Tryd.prog (sBin .leq 3 x25 (.int .i64 57)) Kp) fun x26 =>
    gdK x20 false (opN Tryd.prog (sPick x24 x26 (.bool false)) Kp) fun x27 =>
    opN Tryd.prog (sPick x20 (.bool true) x27) Kp fun x28 =>
    cut0 (fun J1 =>
     gdK x28 false (fun k => k y4) fun x31 =>
     gdK x28 false (opN Tryd.prog (sBin .gtr 3 x31 (.int .i64 32)) Kp) fun x32 =>
     gdK x28 false (fun k => k x32) fun x33 =>
     gdK x33 true (fun k => k y4) fun x34 =>
     gdK x33 true (opN Tryd.prog (sBin .lss 3 x34 (.int .i64 127)) Kp) fun x35 =>
     gdK x28 false (opN Tryd.prog (sPick x33 x35 (.bool false)) Kp) fun x36 =>
     gdK x28 false (fun k => k x36) fun x37 =>
     gdK x37 true (fun k => k y4) fun x38 =>
     gdK x37 true (opN Tryd.prog (sConv 3 5 x38) Kp) fun x39 =>
     gdK x37 true (opN Tryd.prog (sCall (fn 55) [(.string ⟨#[33, 35, 36, 37, 38, 39, 42, 43, 45, 46, 94, 95, 96, 124, 126]⟩), x39]) Kp) fun x40 =>
     gdK x37 true (opN Tryd.prog (sBin .geq 3 x40 (.int .i64 0)) Kp) fun x41 =>
     gdK x28 false (opN Tryd.prog (sPick x37 x41 (.bool false)) Kp) fun x42 =>
     opN Tryd.prog (sPick x28 (.bool true) x42) Kp fun x43 =>
     condS x43
     (opN Tryd.prog (sIA 130 x1 y4) Kp fun x45 =>
      opN Tryd.prog (sLoad 3 x45) Kp fun x46 =>
      opN Tryd.prog (sBin .or 3 x46 (.int .i64 1)) Kp fun x47 =>
      opN Tryd.prog (sIA 130 x1 y4) Kp fun x48 =>
      opN Tryd.prog (sStore 3 x48 x47) Kp fun _ =>
      J1)
     (J1)) fun _ =>
    cut0 (fun J2 =>
     opN Tryd.prog (sEq .eql 3 (.tmp 49) (.const (.int .i64 9)) y4 (.int .i64 9)) Kp fun x50 =>
     gdK x50 false (fun k => k y4) fun x52 =>
     gdK x50 false (opN Tryd.prog (sBin .geq 3 x52 (.int .i64 32)) Kp) fun x53 =>
     gdK x50 false (fun k => k x53) fun x54 =>
     gdK x54 true (fun k => k y4) fun x55 =>
     gdK x54 true (opN Tryd.prog (sEq .neq 3 (.tmp 55) (.const (.int .i64 127)) x55 (.int .i64 127)) Kp) fun x56 =>
     gdK x50 false (opN Tryd.prog (sPick x54 x56 (.bool false)) Kp) fun x57 =>
     opN Tryd.prog (sPick x50 (.bool true) x57) Kp fun x58 =>
     condS x58
     (opN Tryd.prog (sIA 130 x1 y4) Kp fun x60 =>
      opN Tryd.prog (sLoad 3 x60) Kp fun x61 =>
      opN Tryd.prog (sBin .or 3 x61 (.int .i64 2)) Kp fun x62 =>
      opN Tryd.prog (sIA 130 x1 y4) Kp fun x63 =>
      opN Tryd.prog (sStore 3 x63 x62) Kp fun _ =>
      J2)
     (J2)) fun _ =>
    opN Tryd.prog (sBin .geq 3 y4 (.int .i64 65)) Kp fun x65 =>
    gdK x65 true (fun k => k y4) fun x67 =>
    gdK x65 true (opN Tryd.prog (sBin .leq 3 x67 (.int .i64 90)) Kp) fun x68 =>
    opN Tryd.prog (sPick x65 x68 (.bool false)) Kp fun x69 =>
    condS x69
    (opN Tryd.prog (sIA 130 x1 y4) Kp fun x71 =>
     opN Tryd.prog (sLoad 3 x71) Kp fun x72 =>
     opN Tryd.prog (sBin .or 3 x72 (.int .i64 4)) Kp fun x73 =>
     opN Tryd.prog (sIA 130 x1 y4) Kp fun x74 =>
     opN Tryd.prog (sStore 3 x74 x73) Kp fun _ =>
     opN Tryd.prog (sBin .add 3 y4 (.int .i64 1)) Kp fun x75 =>
     next1 I1 m1 x75)
    (opN Tryd.prog (sBin .add 3 y4 (.int .i64 1)) Kp fun x75 =>
     next1 I1 m1 x75))
   (opN Tryd.prog (sLoad 130 x1) Kp fun x76 =>
    opN Tryd.prog (sStore 130 x0 x76) Kp fun _ =>
    (stS Tryd.prog (sRes 130 x0) fun r0 => K r0))) (.int .i64 0)
def ascii_classes_an : Ann := { cuts := [(8, []), (10, [])], blks := [], loops := [(3, [4])], drs := [] }
theorem ascii_classes_eq (Kp : PK) (K : Value → WP) : cevF Tryd.prog ascii_classes_an Tryd.f74 [] Kp K = ascii_classes Kp K := by kernel_rfl
theorem ascii_classes_calls  {Kp : PK} {K : Value → WP} {w : World} (h : ascii_classes Kp K w) : Calls Tryd.prog 74 #[] w (after Kp K) :=
  calls_of_shape (calls_of_cev wide Tryd.func74 (an := ascii_classes_an) (args := []) (cast (congrFun (ascii_classes_eq Kp K) w).symm h))
theorem ascii_classes_cn  {W : World} {α : Type} {A : List HP} {r : α → Value} {B : α → List HP} (h : ∀ F, Ent W (A ++ F) (ascii_classes noP fun v w => ∃ x, v = r x ∧ sat W (B x ++ F) w)) : Cn Tryd.prog 74 [] W A r B :=
  Cn.of (shape := ascii_classes) Tryd.call74 (fun h => ascii_classes_calls h) h
theorem ascii_classes_cnP  {W : World} {α β : Type} {A : List HP} {r : α → Value} {B : α → List HP} {pc : β → List PanicEntry} {Bp : β → List HP} (h : ∀ F, Ent W (A ++ F) (ascii_classes (fun ch w => ∃ y, ch = pc y ∧ sat W (Bp y ++ F) w) fun v w => ∃ x, v = r x ∧ sat W (B x ++ F) w)) : CnP Tryd.prog 74 [] W A r B pc Bp :=
  CnP.of (shape := ascii_classes) Tryd.call74 (fun h => ascii_classes_calls h) h

/-- strings_trimLeftByte -/
def strings_trimLeftByte (v0 v1 : Value) (Kp : PK) (K : Value → WP) : WP :=
  loop1 (fun I1 m1 _ y0 =>
   opN Tryd.prog (sLen #[9] 3 [y0]) Kp fun x6 =>
   opN Tryd.prog (sBin .gtr 3 x6 (.int .i64 0)) Kp fun x7 =>
   gdK x7 true (fun k => k y0) fun x9 =>
   gdK x7 true (opN Tryd.prog (sIx 9 x9 (.int .i64 0)) Kp) fun x10 =>
   gdK x7 true (fun k => k v1) fun x11 =>
   gdK x7 true (opN Tryd.prog (sEq .eql 5 (.tmp 10) (.tmp 11) x10 x11) Kp) fun x12 =>
   opN Tryd.prog (sPick x7 x12 (.bool false)) Kp fun x13 =>
   condS x13
   (opN Tryd.prog (sSl 9 y0 (some (.int .i64 1)) none none) Kp fun x15 =>
    next1 I1 m1 x15)
   (K y0)) v0
def strings_trimLeftByte_an : Ann := { cuts := [], blks := [], loops := [(1, [0])], drs := [] }
theorem strings_trimLeftByte_eq (v0 v1 : Value) (Kp : PK) (K : Value → WP) : cevF Tryd.prog strings_trimLeftByte_an Tryd.f75 [v0, v1] Kp K = strings_trimLeftByte v0 v1 Kp K := by kernel_rfl
theorem strings_trimLeftByte_calls {v0 v1 : Value} {Kp : PK} {K : Value → WP} {w : World} (h : strings_trimLeftByte v0 v1 Kp K w) : Calls Tryd.prog 75 #[v0, v1] w (after Kp K) :=
  calls_of_shape (calls_of_cev wide Tryd.func75 (an := strings_trimLeftByte_an) (args := [v0, v1]) (cast (congrFun (strings_trimLeftByte_eq v0 v1 Kp K) w).symm h))
theorem strings_trimLeftByte_cn {v0 v1 : Value} {W : World} {α : Type} {A : List HP} {r : α → Value} {B : α → List HP} (h : ∀ F, Ent W (A ++ F) (strings_trimLeftByte v0 v1 noP fun v w => ∃ x, v = r x ∧ sat W (B x ++ F) w)) : Cn Tryd.prog 75 [v0, v1] W A r B :=
  Cn.of (shape := strings_trimLeftByte v0 v1) Tryd.call75 (fun h => strings_trimLeftByte_calls h) h
theorem strings_trimLeftByte_cnP {v0 v1 : Value} {W : World} {α β : Type} {A : List HP} {r : α → Value} {B : α → List HP} {pc : β → List PanicEntry} {Bp : β → List HP} (h : ∀ F, Ent W (A ++ F) (strings_trimLeftByte v0 v1 (fun ch w => ∃ y, ch = pc y ∧ sat W (Bp y ++ F) w) fun v w => ∃ x, v = r x ∧ sat W (B x ++ F) w)) : CnP Tryd.prog 75 [v0, v1] W A r B pc Bp :=
  CnP.of (shape := strings_trimLeftByte v0 v1) Tryd.call75 (fun h => strings_trimLeftByte_calls h) h

/-- strings_trimRightByte -/
def strings_trimRightByte (v0 v1 : Value) (Kp : PK) (K : Value → WP) : WP :=
  loop1 (fun I1 m1 _ y0 =>
   opN Tryd.prog (sLen #[9] 3 [y0]) Kp fun x6 =>
   opN Tryd.prog (sBin .gtr 3 x6 (.int .i64 0)) Kp fun x7 =>
   gdK x7 true (fun k => k y0) fun x9 =>
   gdK x7 true (fun k => k y0) fun x10 =>
   gdK x7 true (opN Tryd.prog (sLen #[9] 3 [x10]) Kp) fun x11 =>
   gdK x7 true (opN Tryd.prog (sBin .sub 3 x11 (.int .i64 1)) Kp) fun x12 =>
   gdK x7 true (opN Tryd.prog (sIx 9 x9 x12) Kp) fun x13 =>
   gdK x7 true (fun k => k v1) fun x14 =>
   gdK x7 true (opN Tryd.prog (sEq .eql 5 (.tmp 13) (.tmp 14) x13 x14) Kp) fun x15 =>
   opN Tryd.prog (sPick x7 x15 (.bool false)) Kp fun x16 =>
   condS x16
   (opN Tryd.prog (sLen #[9] 3 [y0]) Kp fun x19 =>
    opN Tryd.prog (sBin .sub 3 x19 (.int .i64 1)) Kp fun x20 =>
    opN Tryd.prog (sSl 9 y0 none (some x20) none) Kp fun x21 =>
    next1 I1 m1 x21)
   (K y0)) v0
def strings_trimRightByte_an : Ann := { cuts := [], blks := [], loops := [(1, [0])], drs := [] }
theorem strings_trimRightByte_eq (v0 v1 : Value) (Kp : PK) (K : Value → WP) : cevF Tryd.prog strings_trimRightByte_an Tryd.f76 [v0, v1] Kp K = strings_trimRightByte v0 v1 Kp K := by kernel_rfl
theorem strings_trimRightByte_calls {v0 v1 : Value} {Kp : PK} {K : Value → WP} {w : World} (h : strings_trimRightByte v0 v1 Kp K w) : Calls Tryd.prog 76 #[v0, v1] w (after Kp K) :=
  calls_of_shape (calls_of_cev wide Tryd.func76 (an := strings_trimRightByte_an) (args := [v0, v1]) (cast (congrFun (strings_trimRightByte_eq v0 v1 Kp K) w).symm h))
theorem strings_trimRightByte_cn {v0 v1 : Value} {W : World} {α : Type} {A : List HP} {r : α → Value} {B : α → List HP} (h : ∀ F, Ent W (A ++ F) (strings_trimRightByte v0 v1 noP fun v w => ∃ x, v = r x ∧ sat W (B x ++ F) w)) : Cn Tryd.prog 76 [v0, v1] W A r B :=
  Cn.of (shape := strings_trimRightByte v0 v1) Tryd.call76 (fun h => strings_trimRightByte_calls h) h
theorem strings_trimRightByte_cnP {v0 v1 : Value} {W : World} {α β : Type} {A : List HP} {r : α → Value} {B : α → List HP} {pc : β → List PanicEntry} {Bp : β → List HP} (h : ∀ F, Ent W (A ++ F) (strings_trimRightByte v0 v1 (fun ch w => ∃ y, ch = pc y ∧ sat W (Bp y ++ F) w) fun v w => ∃ x, v = r x ∧ sat W (B x ++ F) w)) : CnP Tryd.prog 76 [v0, v1] W A r B pc Bp :=
  CnP.of (shape := strings_trimRightByte v0 v1) Tryd.call76 (fun h => strings_trimRightByte_calls h) h

/-- strings_makeASCIISet -/
def strings_makeASCIISet (v0 : Value) (Kp : PK) (K : Value → WP) : WP :=
  opN Tryd.prog (sAlloc 134) Kp fun x2 =>
  loop1 (fun I1 m1 _ y4 =>
   opN Tryd.prog (sLen #[9] 3 [v0]) Kp fun x8 =>
   opN Tryd.prog (sBin .lss 3 y4 x8) Kp fun x9 =>
   condS x9
   (opN Tryd.prog (sIx 9 v0 y4) Kp fun x14 =>
    opN Tryd.prog (sBin .geq 5 x14 (.int .u8 128)) Kp fun x16 =>
    condS x16
    (opN Tryd.prog (sLoad 134 x2) Kp fun x17 =>
     opN Tryd.prog (sStore 134 x2 x17) Kp fun _ =>
     (stS Tryd.prog (sRes 134 x2) fun r0 => K (.tuple #[r0, (.bool false)])))
    (opN Tryd.prog (sIA 134 x2 x14) Kp fun x19 =>
     opN Tryd.prog (sStore 4 x19 (.bool true)) Kp fun _ =>
     opN Tryd.prog (sBin .add 3 y4 (.int .i64 1)) Kp fun x11 =>
     next1 I1 m1 x11))
   (opN Tryd.prog (sLoad 134 x2) Kp fun x20 =>
    opN Tryd.prog (sStore 134 x2 x20) Kp fun _ =>
    (stS Tryd.prog (sRes 134 x2) fun r0 => K (.tuple #[r0, (.bool true)])))) (.int .i64 0)
def strings_makeASCIISet_an : Ann := { cuts := [], blks := [], loops := [(2, [4])], drs := [] }
theorem strings_makeASCIISet_eq (v0 : Value) (Kp : PK) (K : Value → WP) : cevF Tryd.prog strings_makeASCIISet_an Tryd.f77 [v0] Kp K = strings_makeASCIISet v0 Kp K := by kernel_rfl
theorem strings_makeASCIISet_calls {v0 : Value} {Kp : PK} {K : Value → WP} {w : World} (h : strings_makeASCIISet v0 Kp K w) : Calls Tryd.prog 77 #[v0] w (after Kp K) :=
  calls_of_shape (calls_of_cev wide Tryd.func77 (an := strings_makeASCIISet_an) (args := [v0]) (cast (congrFun (strings_makeASCIISet_eq v0 Kp K) w).symm h))
theorem strings_makeASCIISet_cn {v0 : Value} {W : World} {α : Type} {A : List HP} {r : α → Value} {B : α → List HP} (h : ∀ F, Ent W (A ++ F) (strings_makeASCIISet v0 noP fun v w => ∃ x, v = r x ∧ sat W (B x ++ F) w)) : Cn Tryd.prog 77 [v0] W A r B :=
  Cn.of (shape := strings_makeASCIISet v0) Tryd.call77 (fun h => strings_makeASCIISet_calls h) h
theorem strings_makeASCIISet_cnP {v0 : Value} {W : World} {α β : Type} {A : List HP} {r : α → Value} {B : α → List HP} {pc : β → List PanicEntry} {Bp : β → List HP} (h : ∀ F, Ent W (A ++ F) (strings_makeASCIISet v0 (fun ch w => ∃ y, ch = pc y ∧ sat W (Bp y ++ F) w) fun v w => ∃ x, v = r x ∧ sat W (B x ++ F) w)) : CnP Tryd.prog 77 [v0] W A r B pc Bp :=
  CnP.of (shape := strings_makeASCIISet v0) Tryd.call77 (fun h => strings_makeASCIISet_calls h) h

/-- strings_trimLeftASCII -/
def strings_trimLeftASCII (v0 v1 : Value) (Kp : PK) (K : Value → WP) : WP :=
  loop1 (fun I1 m1 _ y0 =>
   opN Tryd.prog (sLen #[9] 3 [y0]) Kp fun x6 =>
   opN Tryd.prog (sBin .gtr 3 x6 (.int .i64 0)) Kp fun x7 =>
   condS x7
   (opN Tryd.prog (sIx 9 y0 (.int .i64 0)) Kp fun x10 =>
    opN Tryd.prog (sCall (fn 87) [v1, x10]) Kp fun x11 =>
    opN Tryd.prog (sUn .not x11) Kp fun x12 =>
    condS x12
    (K y0)
    (opN Tryd.prog (sSl 9 y0 (some (.int .i64 1)) none none) Kp fun x14 =>
     next1 I1 m1 x14))
   (K y0)) v0
def strings_trimLeftASCII_an : Ann := { cuts := [], blks := [], loops := [(1, [0])], drs := [] }
theorem strings_trimLeftASCII_eq (v0 v1 : Value) (Kp : PK) (K : Value → WP) : cevF Tryd.prog strings_trimLeftASCII_an Tryd.f78 [v0, v1] Kp K = strings_trimLeftASCII v0 v1 Kp K := by kernel_rfl
theorem strings_trimLeftASCII_calls {v0 v1 : Value} {Kp : PK} {K : Value → WP} {w : World} (h : strings_trimLeftASCII v0 v1 Kp K w) : Calls Tryd.prog 78 #[v0, v1] w (after Kp K) :=
  calls_of_shape (calls_of_cev wide Tryd.func78 (an := strings_trimLeftASCII_an) (args := [v0, v1]) (cast (congrFun (strings_trimLeftASCII_eq v0 v1 Kp K) w).symm h))
theorem strings_trimLeftASCII_cn {v0 v1 : Value} {W : World} {α : Type} {A : List HP} {r : α → Value} {B : α → List HP} (h : ∀ F, Ent W (A ++ F) (strings_trimLeftASCII v0 v1 noP fun v w => ∃ x, v = r x ∧ sat W (B x ++ F) w)) : Cn Tryd.prog 78 [v0, v1] W A r B :=
  Cn.of (shape := strings_trimLeftASCII v0 v1) Tryd.call78 (fun h => strings_trimLeftASCII_calls h) h
theorem strings_trimLeftASCII_cnP {v0 v1 : Value} {W : World} {α β : Type} {A : List HP} {r : α → Value} {B : α → List HP} {pc : β → List PanicEntry} {Bp : β → List HP} (h : ∀ F, Ent W (A ++ F) (strings_trimLeftASCII v0 v1 (fun ch w => ∃ y, ch = pc y ∧ sat W (Bp y ++ F) w) fun v w => ∃ x, v = r x ∧ sat W (B x ++ F) w)) : CnP Tryd.prog 78 [v0, v1] W A r B pc Bp :=
  CnP.of (shape := strings_trimLeftASCII v0 v1) Tryd.call78 (fun h => strings_trimLeftASCII_calls h) h

/-- strings_trimRightASCII -/
def strings_trimRightASCII (v0 v1 : Value) (Kp : PK) (K : Value → WP) : WP :=
  loop1 (fun I1 m1 _ y0 =>
   opN Tryd.prog (sLen #[9] 3 [y0]) Kp fun x6 =>
   opN Tryd.prog (sBin .gtr 3 x6 (.int .i64 0)) Kp fun x7 =>
   condS x7
   (opN Tryd.prog (sLen #[9] 3 [y0]) Kp fun x11 =>
    opN Tryd.prog (sBin .sub 3 x11 (.int .i64 1)) Kp fun x12 =>
    opN Tryd.prog (sIx 9 y0 x12) Kp fun x13 =>
    opN Tryd.prog (sCall (fn 87) [v1, x13]) Kp fun x14 =>
    opN Tryd.prog (sUn .not x14) Kp fun x15 =>
    condS x15
    (K y0)
    (opN Tryd.prog (sLen #[9] 3 [y0]) Kp fun x18 =>
     opN Tryd.prog (sBin .sub 3 x18 (.int .i64 1)) Kp fun x19 =>
     opN Tryd.prog (sSl 9 y0 none (some x19) none) Kp fun x20 =>
     next1 I1 m1 x20))
   (K y0)) v0
def strings_trimRightASCII_an : Ann := { cuts := [], blks := [], loops := [(1, [0])], drs := [] }
theorem strings_trimRightASCII_eq (v0 v1 : Value) (Kp : PK) (K : Value → WP) : cevF Tryd.prog strings_trimRightASCII_an Tryd.f79 [v0, v1] Kp K = strings_trimRightASCII v0 v1 Kp K := by kernel_rfl
theorem strings_trimRightASCII_calls {v0 v1 : Value} {Kp : PK} {K : Value → WP} {w : World} (h : strings_trimRightASCII v0 v1 Kp K w) : Calls Tryd.prog 79 #[v0, v1] w (after Kp K) :=
  calls_of_shape (calls_of_cev wide Tryd.func79 (an := strings_trimRightASCII_an) (args := [v0, v1]) (cast (congrFun (strings_trimRightASCII_eq v0 v1 Kp K) w).symm h))
theorem strings_trimRightASCII_cn {v0 v1 : Value} {W : World} {α : Type} {A : List HP} {r : α → Value} {B : α → List HP} (h : ∀ F, Ent W (A ++ F) (strings_trimRightASCII v0 v1 noP fun v w => ∃ x, v = r x ∧ sat W (B x ++ F) w)) : Cn Tryd.prog 79 [v0, v1] W A r B :=
  Cn.of (shape := strings_trimRightASCII v0 v1) Tryd.call79 (fun h => strings_trimRightASCII_calls h) h
theorem strings_trimRightASCII_cnP {v0 v1 : Value} {W : World} {α β : Type} {A : List HP} {r : α → Value} {B : α → List HP} {pc : β → List PanicEntry} {Bp : β → List HP} (h : ∀ F, Ent W (A ++ F) (strings_trimRightASCII v0 v1 (fun ch w => ∃ y, ch = pc y ∧ sat W (Bp y ++ F) w) fun v w => ∃ x, v = r x ∧ sat W (B x ++ F) w)) : CnP Tryd.prog 79 [v0, v1] W A r B pc Bp :=
  CnP.of (shape := strings_trimRightASCII v0 v1) Tryd.call79 (fun h => strings_trimRightASCII_calls h) h

/-- strings_trimLeftUnicode -/
def strings_trimLeftUnicode (v0 v1 : Value) (Kp : PK) (K : Value → WP) : WP :=
  loop1 (fun I1 m1 _ y0 =>
   opN Tryd.prog (sLen #[9] 3 [y0]) Kp fun x8 =>
   opN Tryd.prog (sBin .gtr 3 x8 (.int .i64 0)) Kp fun x9 =>
   condS x9
   (opN Tryd.prog (sCall (fn 88) [y0]) Kp fun x12 =>
    opN Tryd.prog (sExt x12 0) Kp fun x13 =>
    opN Tryd.prog (sExt x12 1) Kp fun x14 =>
    opN Tryd.prog (sCall (fn 89) [v1, x13]) Kp fun x17 =>
    opN Tryd.prog (sUn .not x17) Kp fun x18 =>
    condS x18
    (K y0)
    (opN Tryd.prog (sSl 9 y0 (some x14) none none) Kp fun x21 =>
     next1 I1 m1 x21))
   (K y0)) v0
def strings_trimLeftUnicode_an : Ann := { cuts := [], blks := [], loops := [(1, [0])], drs := [] }
theorem strings_trimLeftUnicode_eq (v0 v1 : Value) (Kp : PK) (K : Value → WP) : cevF Tryd.prog strings_trimLeftUnicode_an Tryd.f80 [v0, v1] Kp K = strings_trimLeftUnicode v0 v1 Kp K := by kernel_rfl
theorem strings_trimLeftUnicode_calls {v0 v1 : Value} {Kp : PK} {K : Value → WP} {w : World} (h : strings_trimLeftUnicode v0 v1 Kp K w) : Calls Tryd.prog 80 #[v0, v1] w (after Kp K) :=
  calls_of_shape (calls_of_cev wide Tryd.func80 (an := strings_trimLeftUnicode_an) (args := [v0, v1]) (cast (congrFun (strings_trimLeftUnicode_eq v0 v1 Kp K) w).symm h))
theorem strings_trimLeftUnicode_cn {v0 v1 : Value} {W : World} {α : Type} {A : List HP} {r : α → Value} {B : α → List HP} (h : ∀ F, Ent W (A ++ F) (strings_trimLeftUnicode v0 v1 noP fun v w => ∃ x, v = r x ∧ sat W (B x ++ F) w)) : Cn Tryd.prog 80 [v0, v1] W A r B :=
  Cn.of (shape := strings_trimLeftUnicode v0 v1) Tryd.call80 (fun h => strings_trimLeftUnicode_calls h) h
theorem strings_trimLeftUnicode_cnP {v0 v1 : Value} {W : World} {α β : Type} {A : List HP} {r : α → Value} {B : α → List HP} {pc : β → List PanicEntry} {Bp : β → List HP} (h : ∀ F, Ent W (A ++ F) (strings_trimLeftUnicode v0 v1 (fun ch w => ∃ y, ch = pc y ∧ sat W (Bp y ++ F) w) fun v w => ∃ x, v = r x ∧ sat W (B x ++ F) w)) : CnP Tryd.prog 80 [v0, v1] W A r B pc Bp :=
  CnP.of (shape := strings_trimLeftUnicode v0 v1) Tryd.call80 (fun h => strings_trimLeftUnicode_calls h) h

/-- strings_trimRightUnicode -/
def strings_trimRightUnicode (v0 v1 : Value) (Kp : PK) (K : Value → WP) : WP :=
  loop1 (fun I1 m1 _ y0 =>
   opN Tryd.prog (sLen #[9] 3 [y0]) Kp fun x8 =>
   opN Tryd.prog (sBin .gtr 3 x8 (.int .i64 0)) Kp fun x9 =>
   condS x9
   (opN Tryd.prog (sLen #[9] 3 [y0]) Kp fun x12 =>
    opN Tryd.prog (sBin .sub 3 x12 (.int .i64 1)) Kp fun x13 =>
    opN Tryd.prog (sIx 9 y0 x13) Kp fun x14 =>
    opN Tryd.prog (sConv 5 21 x14) Kp fun x15 =>
    cut2 (fun J1 =>
     opN Tryd.prog (sBin .geq 21 x15 (.int .i32 128)) Kp fun x17 =>
     condS x17
     (opN Tryd.prog (sCall (fn 90) [y0]) Kp fun x20 =>
      opN Tryd.prog (sExt x20 0) Kp fun x21 =>
      opN Tryd.prog (sExt x20 1) Kp fun x22 =>
      J1 x21 x22)
     (J1 x15 (.int .i64 1))) fun _ z5 z6 =>
    opN Tryd.prog (sCall (fn 89) [v1, z5]) Kp fun x25 =>
    opN Tryd.prog (sUn .not x25) Kp fun x26 =>
    condS x26
    (K y0)
    (opN Tryd.prog (sLen #[9] 3 [y0]) Kp fun x29 =>
     opN Tryd.prog (sBin .sub 3 x29 z6) Kp fun x31 =>
     opN Tryd.prog (sSl 9 y0 none (some x31) none) Kp fun x32 =>
     next1 I1 m1 x32))
   (K y0)) v0
def strings_trimRightUnicode_an : Ann := { cuts := [(5, [5, 6])], blks := [], loops := [(1, [0])], drs := [] }
theorem strings_trimRightUnicode_eq (v0 v1 : Value) (Kp : PK) (K : Value → WP) : cevF Tryd.prog strings_trimRightUnicode_an Tryd.f81 [v0, v1] Kp K = strings_trimRightUnicode v0 v1 Kp K := by kernel_rfl
theorem strings_trimRightUnicode_calls {v0 v1 : Value} {Kp : PK} {K : Value → WP} {w : World} (h : strings_trimRightUnicode v0 v1 Kp K w) : Calls Tryd.prog 81 #[v0, v1] w (after Kp K) :=
  calls_of_shape (calls_of_cev wide Tryd.func81 (an := strings_trimRightUnicode_an) (args := [v0, v1]) (cast (congrFun (strings_trimRightUnicode_eq v0 v1 Kp K) w).symm h))
theorem strings_trimRightUnicode_cn {v0 v1 : Value} {W : World} {α : Type} {A : List HP} {r : α → Value} {B : α → List HP} (h : ∀ F, Ent W (A ++ F) (strings_trimRightUnicode v0 v1 noP fun v w => ∃ x, v = r x ∧ sat W (B x ++ F) w)) : Cn Tryd.prog 81 [v0, v1] W A r B :=
  Cn.of (shape := strings_trimRightUnicode v0 v1) Tryd.call81 (fun h => strings_trimRightUnicode_calls h) h
theorem strings_trimRightUnicode_cnP {v0 v1 : Value} {W : World} {α β : Type} {A : List HP} {r : α → Value} {B : α → List HP} {pc : β → List PanicEntry} {Bp : β → List HP} (h : ∀ F, Ent W (A ++ F) (strings_trimRightUnicode v0 v1 (fun ch w => ∃ y, ch = pc y ∧ sat W (Bp y ++ F) w) fun v w => ∃ x, v = r x ∧ sat W (B x ++ F) w)) : CnP Tryd.prog 81 [v0, v1] W A r B pc Bp :=
  CnP.of (shape := strings_trimRightUnicode v0 v1) Tryd.call81 (fun h => strings_trimRightUnicode_calls h) h

/-- fields_kind_fields_Tag_elements_1 -/
def fields_kind_fields_Tag_elements_1 (v0 v1 v2 : Value) (Kp : PK) (K : Value → WP) : WP :=
  loop3 (fun I1 m1 _ y4 y5 y6 =>
   opN Tryd.prog (sLoad 9 v1) Kp fun x11 =>
   opN Tryd.prog (sLen #[9] 3 [x11]) Kp fun x12 =>
   opN Tryd.prog (sBin .lss 3 y6 x12) Kp fun x13 =>
   condS x13
   (opN Tryd.prog (sLoad 9 v1) Kp fun x16 =>
    opN Tryd.prog (sIx 9 x16 y6) Kp fun x18 =>
    opN Tryd.prog (sEq .eql 5 (.tmp 20) (.const (.int .u8 92)) x18 (.int .u8 92)) Kp fun x21 =>
    gdK x21 true (fun k => k y4) fun x23 =>
    opN Tryd.prog (sPick x21 x23 (.bool false)) Kp fun x24 =>
    gdK x24 true (opN Tryd.prog (sFA 95 v2 1) Kp) fun x26 =>
    gdK x24 true (opN Tryd.prog (sLoad 4 x26) Kp) fun x27 =>
    opN Tryd.prog (sPick x24 x27 (.bool false)) Kp fun x28 =>
    condS x28
    (opN Tryd.prog (sBin .add 3 y6 (.int .i64 1)) Kp fun x30 =>
     opN Tryd.prog (sBin .add 3 x30 (.int .i64 1)) Kp fun x15 =>
     next3 I1 m1 y4 y5 x15)
    (opN Tryd.prog (sEq .eql 5 (.tmp 32) (.const (.int .u8 34)) x18 (.int .u8 34)) Kp fun x33 =>
     gdK x33 true (opN Tryd.prog (sFA 95 v2 0) Kp) fun x35 =>
     gdK x33 true (opN Tryd.prog (sLoad 4 x35) Kp) fun x36 =>
     opN Tryd.prog (sPick x33 x36 (.bool false)) Kp fun x37 =>
     condS x37
     (opN Tryd.prog (sUn .not y4) Kp fun x39 =>
      opN Tryd.prog (sBin .add 3 y6 (.int .i64 1)) Kp fun x15 =>
      next3 I1 m1 x39 y5 x15)
     (opN Tryd.prog (sEq .eql 5 (.tmp 41) (.const (.int .u8 44)) x18 (.int .u8 44)) Kp fun x42 =>
      gdK x42 true (fun k => k y4) fun x44 =>
      gdK x42 true (opN Tryd.prog (sUn .not x44) Kp) fun x45 =>
      opN Tryd.prog (sPick x42 x45 (.bool false)) Kp fun x46 =>
      condS x46
      (opN Tryd.prog (sLoad 9 v1) Kp fun x47 =>
       opN Tryd.prog (sSl 9 x47 (some y5) (some y6) none) Kp fun x50 =>
       opN Tryd.prog (sCall (fn 44) [x50]) Kp fun x51 =>
       opN Tryd.prog (sEq .neq 9 (.tmp 52) (.const (.string ⟨#[]⟩)) x51 (.string ⟨#[]⟩)) Kp fun x53 =>
       gdK x53 true (fun k => k v0) fun x55 =>
       gdK x53 true (fun k => k x51) fun x56 =>
       gdK x53 true (opN Tryd.prog (sCall x55 [x56]) Kp) fun x57 =>
       gdK x53 true (opN Tryd.prog (sUn .not x57) Kp) fun x58 =>
       opN Tryd.prog (sPick x53 x58 (.bool false)) Kp fun x59 =>
       condS x59
       (K (.tuple #[]))
       (opN Tryd.prog (sBin .add 3 y6 (.int .i64 1)) Kp fun x61 =>
        opN Tryd.prog (sBin .add 3 y6 (.int .i64 1)) Kp fun x15 =>
        next3 I1 m1 y4 x61 x15))
      (opN Tryd.prog (sBin .add 3 y6 (.int .i64 1)) Kp fun x15 =>
       next3 I1 m1 y4 y5 x15))))
   (opN Tryd.prog (sLoad 9 v1) Kp fun x62 =>
    opN Tryd.prog (sSl 9 x62 (some y5) none none) Kp fun x64 =>
    opN Tryd.prog (sCall (fn 44) [x64]) Kp fun x65 =>
    opN Tryd.prog (sEq .neq 9 (.tmp 66) (.const (.string ⟨#[]⟩)) x65 (.string ⟨#[]⟩)) Kp fun x67 =>
    condS x67
    (opN Tryd.prog (sCall v0 [x65]) Kp fun x70 =>
     K (.tuple #[]))
    (K (.tuple #[])))) (.bool false) (.int .i64 0) (.int .i64 0)
def fields_kind_fields_Tag_elements_1_an : Ann := { cuts := [], blks := [], loops := [(2, [4, 5, 6])], drs := [] }
theorem fields_kind_fields_Tag_elements_1_eq (v0 v1 v2 : Value) (Kp : PK) (K : Value → WP) : cevF Tryd.prog fields_kind_fields_Tag_elements_1_an Tryd.f82 [v0, v1, v2] Kp K = fields_kind_fields_Tag_elements_1 v0 v1 v2 Kp K := by kernel_rfl
theorem fields_kind_fields_Tag_elements_1_calls {v0 v1 v2 : Value} {Kp : PK} {K : Value → WP} {w : World} (h : fields_kind_fields_Tag_elements_1 v0 v1 v2 Kp K w) : Calls Tryd.prog 82 #[v0, v1, v2] w (after Kp K) :=
  calls_of_shape (calls_of_cev wide Tryd.func82 (an := fields_kind_fields_Tag_elements_1_an) (args := [v0, v1, v2]) (cast (congrFun (fields_kind_fields_Tag_elements_1_eq v0 v1 v2 Kp K) w).symm h))
theorem fields_kind_fields_Tag_elements_1_cn {v0 v1 v2 : Value} {W : World} {α : Type} {A : List HP} {r : α → Value} {B : α → List HP} (h : ∀ F, Ent W (A ++ F) (fields_kind_fields_Tag_elements_1 v0 v1 v2 noP fun v w => ∃ x, v = r x ∧ sat W (B x ++ F) w)) : Cn Tryd.prog 82 [v0, v1, v2] W A r B :=
  Cn.of (shape := fields_kind_fields_Tag_elements_1 v0 v1 v2) Tryd.call82 (fun h => fields_kind_fields_Tag_elements_1_calls h) h
theorem fields_kind_fields_Tag_elements_1_cnP {v0 v1 v2 : Value} {W : World} {α β : Type} {A : List HP} {r : α → Value} {B : α → List HP} {pc : β → List PanicEntry} {Bp : β → List HP} (h : ∀ F, Ent W (A ++ F) (fields_kind_fields_Tag_elements_1 v0 v1 v2 (fun ch w => ∃ y, ch = pc y ∧ sat W (Bp y ++ F) w) fun v w => ∃ x, v = r x ∧ sat W (B x ++ F) w)) : CnP Tryd.prog 82 [v0, v1, v2] W A r B pc Bp :=
  CnP.of (shape := fields_kind_fields_Tag_elements_1 v0 v1 v2) Tryd.call82 (fun h => fields_kind_fields_Tag_elements_1_calls h) h

/-- stringslite_HasPrefix -/
def stringslite_HasPrefix (v0 v1 : Value) (Kp : PK) (K : Value → WP) : WP :=
  opN Tryd.prog (sLen #[9] 3 [v0]) Kp fun x6 =>
  opN Tryd.prog (sLen #[9] 3 [v1]) Kp fun x8 =>
  opN Tryd.prog (sBin .geq 3 x6 x8) Kp fun x9 =>
  gdK x9 true (fun k => k v0) fun x11 =>
  gdK x9 true (fun k => k v1) fun x12 =>
  gdK x9 true (opN Tryd.prog (sLen #[9] 3 [x12]) Kp) fun x13 =>
  gdK x9 true (opN Tryd.prog (sSl 9 x11 none (some x13) none) Kp) fun x14 =>
  gdK x9 true (fun k => k v1) fun x15 =>
  gdK x9 true (opN Tryd.prog (sEq .eql 9 (.tmp 14) (.tmp 15) x14 x15) Kp) fun x16 =>
  opN Tryd.prog (sPick x9 x16 (.bool false)) Kp fun x17 =>
  K x17
def stringslite_HasPrefix_an : Ann := { cuts := [], blks := [], loops := [], drs := [] }
theorem stringslite_HasPrefix_eq (v0 v1 : Value) (Kp : PK) (K : Value → WP) : cevF Tryd.prog stringslite_HasPrefix_an Tryd.f85 [v0, v1] Kp K = stringslite_HasPrefix v0 v1 Kp K := by kernel_rfl
theorem stringslite_HasPrefix_calls {v0 v1 : Value} {Kp : PK} {K : Value → WP} {w : World} (h : stringslite_HasPrefix v0 v1 Kp K w) : Calls Tryd.prog 85 #[v0, v1] w (after Kp K) :=
  calls_of_shape (calls_of_cev wide Tryd.func85 (an := stringslite_HasPrefix_an) (args := [v0, v1]) (cast (congrFun (stringslite_HasPrefix_eq v0 v1 Kp K) w).symm h))
theorem stringslite_HasPrefix_cn {v0 v1 : Value} {W : World} {α : Type} {A : List HP} {r : α → Value} {B : α → List HP} (h : ∀ F, Ent W (A ++ F) (stringslite_HasPrefix v0 v1 noP fun v w => ∃ x, v = r x ∧ sat W (B x ++ F) w)) : Cn Tryd.prog 85 [v0, v1] W A r B :=
  Cn.of (shape := stringslite_HasPrefix v0 v1) Tryd.call85 (fun h => stringslite_HasPrefix_calls h) h
theorem stringslite_HasPrefix_cnP {v0 v1 : Value} {W : World} {α β : Type} {A : List HP} {r : α → Value} {B : α → List HP} {pc : β → List PanicEntry} {Bp : β → List HP} (h : ∀ F, Ent W (A ++ F) (stringslite_HasPrefix v0 v1 (fun ch w => ∃ y, ch = pc y ∧ sat W (Bp y ++ F) w) fun v w => ∃ x, v = r x ∧ sat W (B x ++ F) w)) : CnP Tryd.prog 85 [v0, v1] W A r B pc Bp :=
  CnP.of (shape := stringslite_HasPrefix v0 v1) Tryd.call85 (fun h => stringslite_HasPrefix_calls h) h

/-- strings_asciiSet_contains -/
def strings_asciiSet_contains (v0 v1 : Value) (Kp : PK) (K : Value → WP) : WP :=
  opN Tryd.prog (sNil v0) Kp fun x7 =>
  opN Tryd.prog (sIA 134 x7 v1) Kp fun x8 =>
  opN Tryd.prog (sLoad 4 x8) Kp fun x9 =>
  K x9
def strings_asciiSet_contains_an : Ann := { cuts := [], blks := [], loops := [], drs := [] }
theorem strings_asciiSet_contains_eq (v0 v1 : Value) (Kp : PK) (K : Value → WP) : cevF Tryd.prog strings_asciiSet_contains_an Tryd.f87 [v0, v1] Kp K = strings_asciiSet_contains v0 v1 Kp K := by kernel_rfl
theorem strings_asciiSet_contains_calls {v0 v1 : Value} {Kp : PK} {K : Value → WP} {w : World} (h : strings_asciiSet_contains v0 v1 Kp K w) : Calls Tryd.prog 87 #[v0, v1] w (after Kp K) :=
  calls_of_shape (calls_of_cev wide Tryd.func87 (an := strings_asciiSet_contains_an) (args := [v0, v1]) (cast (congrFun (strings_asciiSet_contains_eq v0 v1 Kp K) w).symm h))
theorem strings_asciiSet_contains_cn {v0 v1 : Value} {W : World} {α : Type} {A : List HP} {r : α → Value} {B : α → List HP} (h : ∀ F, Ent W (A ++ F) (strings_asciiSet_contains v0 v1 noP fun v w => ∃ x, v = r x ∧ sat W (B x ++ F) w)) : Cn Tryd.prog 87 [v0, v1] W A r B :=
  Cn.of (shape := strings_asciiSet_contains v0 v1) Tryd.call87 (fun h => strings_asciiSet_contains_calls h) h
theorem strings_asciiSet_contains_cnP {v0 v1 : Value} {W : World} {α β : Type} {A : List HP} {r : α → Value} {B : α → List HP} {pc : β → List PanicEntry} {Bp : β → List HP} (h : ∀ F, Ent W (A ++ F) (strings_asciiSet_contains v0 v1 (fun ch w => ∃ y, ch = pc y ∧ sat W (Bp y ++ F) w) fun v w => ∃ x, v = r x ∧ sat W (B x ++ F) w)) : CnP Tryd.prog 87 [v0, v1] W A r B pc Bp :=
  CnP.of (shape := strings_asciiSet_contains v0 v1) Tryd.call87 (fun h => strings_asciiSet_contains_calls h) h

/-- strings_ContainsRune -/
def strings_ContainsRune (v0 v1 : Value) (Kp : PK) (K : Value → WP) : WP :=
  opN Tryd.prog (sCall (fn 92) [v0, v1]) Kp fun x7 =>
  opN Tryd.prog (sBin .geq 3 x7 (.int .i64 0)) Kp fun x8 =>
  K x8
def strings_ContainsRune_an : Ann := { cuts := [], blks := [], loops := [], drs := [] }
theorem strings_ContainsRune_eq (v0 v1 : Value) (Kp : PK) (K : Value → WP) : cevF Tryd.prog strings_ContainsRune_an Tryd.f89 [v0, v1] Kp K = strings_ContainsRune v0 v1 Kp K := by kernel_rfl
theorem strings_ContainsRune_calls {v0 v1 : Value} {Kp : PK} {K : Value → WP} {w : World} (h : strings_ContainsRune v0 v1 Kp K w) : Calls Tryd.prog 89 #[v0, v1] w (after Kp K) :=
  calls_of_shape (calls_of_cev wide Tryd.func89 (an := strings_ContainsRune_an) (args := [v0, v1]) (cast (congrFun (strings_ContainsRune_eq v0 v1 Kp K) w).symm h))
theorem strings_ContainsRune_cn {v0 v1 : Value} {W : World} {α : Type} {A : List HP} {r : α → Value} {B : α → List HP} (h : ∀ F, Ent W (A ++ F) (strings_ContainsRune v0 v1 noP fun v w => ∃ x, v = r x ∧ sat W (B x ++ F) w)) : Cn Tryd.prog 89 [v0, v1] W A r B :=
  Cn.of (shape := strings_ContainsRune v0 v1) Tryd.call89 (fun h => strings_ContainsRune_calls h) h
theorem strings_ContainsRune_cnP {v0 v1 : Value} {W : World} {α β : Type} {A : List HP} {r : α → Value} {B : α → List HP} {pc : β → List PanicEntry} {Bp : β → List HP} (h : ∀ F, Ent W (A ++ F) (strings_ContainsRune v0 v1 (fun ch w => ∃ y, ch = pc y ∧ sat W (Bp y ++ F) w) fun v w => ∃ x, v = r x ∧ sat W (B x ++ F) w)) : CnP Tryd.prog 89 [v0, v1] W A r B pc Bp :=
  CnP.of (shape := strings_ContainsRune v0 v1) Tryd.call89 (fun h => strings_ContainsRune_calls h) h

/-- bytealg_Cutover -/
def bytealg_Cutover (v0 : Value) (Kp : PK) (K : Value → WP) : WP :=
  opN Tryd.prog (sBin .add 3 v0 (.int .i64 16)) Kp fun x4 =>
  opN Tryd.prog (sBin .quo 3 x4 (.int .i64 8)) Kp fun x5 =>
  K x5
def bytealg_Cutover_an : Ann := { cuts := [], blks := [], loops := [], drs := [] }
theorem bytealg_Cutover_eq (v0 : Value) (Kp : PK) (K : Value → WP) : cevF Tryd.prog bytealg_Cutover_an Tryd.f95 [v0] Kp K = bytealg_Cutover v0 Kp K := by kernel_rfl
theorem bytealg_Cutover_calls {v0 : Value} {Kp : PK} {K : Value → WP} {w : World} (h : bytealg_Cutover v0 Kp K w) : Calls Tryd.prog 95 #[v0] w (after Kp K) :=
  calls_of_shape (calls_of_cev wide Tryd.func95 (an := bytealg_Cutover_an) (args := [v0]) (cast (congrFun (bytealg_Cutover_eq v0 Kp K) w).symm h))
theorem bytealg_Cutover_cn {v0 : Value} {W : World} {α : Type} {A : List HP} {r : α → Value} {B : α → List HP} (h : ∀ F, Ent W (A ++ F) (bytealg_Cutover v0 noP fun v w => ∃ x, v = r x ∧ sat W (B x ++ F) w)) : Cn Tryd.prog 95 [v0] W A r B :=
  Cn.of (shape := bytealg_Cutover v0) Tryd.call95 (fun h => bytealg_Cutover_calls h) h
theorem bytealg_Cutover_cnP {v0 : Value} {W : World} {α β : Type} {A : List HP} {r : α → Value} {B : α → List HP} {pc : β → List PanicEntry} {Bp : β → List HP} (h : ∀ F, Ent W (A ++ F) (bytealg_Cutover v0 (fun ch w => ∃ y, ch = pc y ∧ sat W (Bp y ++ F) w) fun v w => ∃ x, v = r x ∧ sat W (B x ++ F) w)) : CnP Tryd.prog 95 [v0] W A r B pc Bp :=
  CnP.of (shape := bytealg_Cutover v0) Tryd.call95 (fun h => bytealg_Cutover_calls h) h

end Go.Proofs.YtcmpkkkigmheoaaDoor.S
