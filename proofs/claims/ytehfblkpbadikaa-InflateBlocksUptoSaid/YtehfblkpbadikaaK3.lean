/- The shapes of functions of the loaded program, printed by a program of mine; each is proved to be what the model asks of the function. No conditions. (1 texts made one; each says below what it is.) -/
import Derived.Test.YtehfblkpbadikaaChecked
import Derived.Test.YtehfblkpbadikaaK2
import Derived.KernelRfl
set_option linter.unusedVariables false
set_option linter.unusedSimpArgs false
set_option linter.unusedSectionVars false
/-! The shapes of functions of the loaded program, printed by a program of mine; each is proved to be what the model asks of the function. No conditions. -/
namespace Go.Proofs.Ytehfblkpbadikaa.S
open Go Go.Proofs.Ytehfblkpbadikaa.Sh Go.Proofs.Ytehfblkpbadikaa.Sl

theorem wide : Try.prog.follows .mixedOrders = true := by kernel_rfl

/-- law03_HuffLengths -/
def law03_HuffLengths (v0 v1 : Value) (Kp : PK) (K : Value → WP) : WP :=
  opN Try.prog (sBuildSl 22 0 []) Kp fun x10 =>
  opN Try.prog (sApp #[22, 22] 22 [x10, v0]) Kp fun x12 =>
  opN Try.prog (sCall (fn 15) [x12, v1]) Kp fun x16 =>
  opN Try.prog (sExt x16 0) Kp fun x17 =>
  opN Try.prog (sExt x16 1) Kp fun x18 =>
  opN Try.prog (sCall (fn 16) [v0, v1]) Kp fun x22 =>
  opN Try.prog (sExt x22 0) Kp fun x23 =>
  opN Try.prog (sExt x22 1) Kp fun x24 =>
  opN Try.prog (sCall (fn 17) [x17, x23]) Kp fun x27 =>
  gdK x27 true (fun k => k x18) fun x29 =>
  gdK x27 true (opN Try.prog (sCall (fn 18) [x29]) Kp) fun x30 =>
  gdK x27 true (fun k => k x24) fun x31 =>
  gdK x27 true (opN Try.prog (sEq .eql 3 (.tmp 30) (.tmp 31) x30 x31) Kp) fun x32 =>
  opN Try.prog (sPick x27 x32 (.bool false)) Kp fun x33 =>
  gdK x33 true (fun k => k x12) fun x35 =>
  gdK x33 true (fun k => k v0) fun x36 =>
  gdK x33 true (opN Try.prog (sCall (fn 17) [x35, x36]) Kp) fun x37 =>
  opN Try.prog (sPick x33 x37 (.bool false)) Kp fun x38 =>
  gdK x38 true (opN Try.prog (sCall (fn 19) []) Kp) fun x40 =>
  opN Try.prog (sPick x38 x40 (.bool false)) Kp fun x41 =>
  K x41
def law03_HuffLengths_an : Ann := { cuts := [], blks := [], loops := [], drs := [] }
theorem law03_HuffLengths_eq (v0 v1 : Value) (Kp : PK) (K : Value → WP) : cevF Try.prog law03_HuffLengths_an Try.f3 [v0, v1] Kp K = law03_HuffLengths v0 v1 Kp K := by kernel_rfl
theorem law03_HuffLengths_calls {v0 v1 : Value} {Kp : PK} {K : Value → WP} {w : World} (h : law03_HuffLengths v0 v1 Kp K w) : Calls Try.prog 3 #[v0, v1] w (after Kp K) :=
  calls_of_shape (calls_of_cev wide Try.func3 (an := law03_HuffLengths_an) (args := [v0, v1]) (cast (congrFun (law03_HuffLengths_eq v0 v1 Kp K) w).symm h))
theorem law03_HuffLengths_cn {v0 v1 : Value} {W : World} {α : Type} {A : List HP} {r : α → Value} {B : α → List HP} (h : ∀ F, Ent W (A ++ F) (law03_HuffLengths v0 v1 noP fun v w => ∃ x, v = r x ∧ sat W (B x ++ F) w)) : Cn Try.prog 3 [v0, v1] W A r B :=
  Cn.of (shape := law03_HuffLengths v0 v1) Try.call3 (fun h => law03_HuffLengths_calls h) h
theorem law03_HuffLengths_cnP {v0 v1 : Value} {W : World} {α β : Type} {A : List HP} {r : α → Value} {B : α → List HP} {pc : β → List PanicEntry} {Bp : β → List HP} (h : ∀ F, Ent W (A ++ F) (law03_HuffLengths v0 v1 (fun ch w => ∃ y, ch = pc y ∧ sat W (Bp y ++ F) w) fun v w => ∃ x, v = r x ∧ sat W (B x ++ F) w)) : CnP Try.prog 3 [v0, v1] W A r B pc Bp :=
  CnP.of (shape := law03_HuffLengths v0 v1) Try.call3 (fun h => law03_HuffLengths_calls h) h

/-- law03_HuffPrefix -/
def law03_HuffPrefix (v0 : Value) (Kp : PK) (K : Value → WP) : WP :=
  opN Try.prog (sCall (fn 20) [v0]) Kp fun x11 =>
  opN Try.prog (sExt x11 0) Kp fun x12 =>
  opN Try.prog (sExt x11 1) Kp fun x13 =>
  opN Try.prog (sCall (fn 18) [x13]) Kp fun x15 =>
  opN Try.prog (sEq .neq 3 (.tmp 15) (.const (.int .i64 0)) x15 (.int .i64 0)) Kp fun x16 =>
  gdK x16 false (opN Try.prog (sCall (fn 19) []) Kp) fun x18 =>
  gdK x16 false (opN Try.prog (sUn .not x18) Kp) fun x19 =>
  opN Try.prog (sPick x16 (.bool true) x19) Kp fun x20 =>
  condS x20
  (opN Try.prog (sCall (fn 19) []) Kp fun x21 =>
   K x21)
  (loop1 (fun I1 m1 _ y5 =>
    opN Try.prog (sLen #[22] 3 [x12]) Kp fun x24 =>
    opN Try.prog (sBin .lss 3 y5 x24) Kp fun x25 =>
    condS x25
    (loop1 (fun I2 m2 _ y6 =>
      opN Try.prog (sLen #[22] 3 [x12]) Kp fun x30 =>
      opN Try.prog (sBin .lss 3 y6 x30) Kp fun x31 =>
      condS x31
      (opN Try.prog (sIA 22 v0 y5) Kp fun x36 =>
       opN Try.prog (sLoad 3 x36) Kp fun x37 =>
       opN Try.prog (sIA 22 v0 y6) Kp fun x40 =>
       opN Try.prog (sLoad 3 x40) Kp fun x41 =>
       drS (stS Try.prog (sEq .neq 3 (.tmp 42) (.tmp 43) y5 y6) fun x44 =>
        gdK x44 true (fun k => k x37) fun x46 =>
        gdK x44 true (stS Try.prog (sBin .gtr 3 x46 (.int .i64 0))) fun x47 =>
        stS Try.prog (sPick x44 x47 (.bool false)) fun x48 =>
        gdK x48 true (fun k => k x41) fun x50 =>
        gdK x48 true (fun k => k x37) fun x51 =>
        gdK x48 true (stS Try.prog (sBin .geq 3 x50 x51)) fun x52 =>
        stS Try.prog (sPick x48 x52 (.bool false)) fun x53 =>
        gdK x53 true (fun k => k x12) fun x55 =>
        gdK x53 true (fun k => k y6) fun x56 =>
        gdK x53 true (stS Try.prog (sIA 22 x55 x56)) fun x57 =>
        gdK x53 true (stS Try.prog (sLoad 3 x57)) fun x58 =>
        gdK x53 true (fun k => k x41) fun x59 =>
        gdK x53 true (fun k => k x37) fun x60 =>
        gdK x53 true (stS Try.prog (sBin .sub 3 x59 x60)) fun x61 =>
        gdK x53 true (stS Try.prog (sConv 3 33 x61)) fun x62 =>
        gdK x53 true (stS Try.prog (sBin .shr 3 x58 x62)) fun x63 =>
        gdK x53 true (fun k => k x12) fun x64 =>
        gdK x53 true (fun k => k y5) fun x65 =>
        gdK x53 true (stS Try.prog (sIA 22 x64 x65)) fun x66 =>
        gdK x53 true (stS Try.prog (sLoad 3 x66)) fun x67 =>
        gdK x53 true (stS Try.prog (sEq .eql 3 (.tmp 63) (.tmp 67) x63 x67)) fun x68 =>
        stS Try.prog (sPick x53 x68 (.bool false)) fun x69 =>
        condS x69
        (K (.bool false))
        (opN Try.prog (sBin .add 3 y6 (.int .i64 1)) Kp fun x33 =>
         next1 I2 m2 x33)))
      (opN Try.prog (sBin .add 3 y5 (.int .i64 1)) Kp fun x27 =>
       next1 I1 m1 x27)) (.int .i64 0))
    (K (.bool true))) (.int .i64 0))
def law03_HuffPrefix_an : Ann := { cuts := [], blks := [], loops := [(5, [5]), (8, [6])], drs := [(12, [(0, 1), (1, 1), (2, 1), (3, 1), (4, 1), (5, 1), (6, 1), (7, 1), (8, 1), (9, 1), (10, 1), (11, 1), (12, 1), (13, 1), (14, 1), (15, 1), (16, 1), (17, 1), (18, 1), (19, 1), (20, 1), (21, 1), (22, 1), (23, 1), (24, 1), (25, 1), (26, 1), (27, 1)])] }
theorem law03_HuffPrefix_eq (v0 : Value) (Kp : PK) (K : Value → WP) : cevF Try.prog law03_HuffPrefix_an Try.f4 [v0] Kp K = law03_HuffPrefix v0 Kp K := by kernel_rfl
theorem law03_HuffPrefix_calls {v0 : Value} {Kp : PK} {K : Value → WP} {w : World} (h : law03_HuffPrefix v0 Kp K w) : Calls Try.prog 4 #[v0] w (after Kp K) :=
  calls_of_shape (calls_of_cev wide Try.func4 (an := law03_HuffPrefix_an) (args := [v0]) (cast (congrFun (law03_HuffPrefix_eq v0 Kp K) w).symm h))
theorem law03_HuffPrefix_cn {v0 : Value} {W : World} {α : Type} {A : List HP} {r : α → Value} {B : α → List HP} (h : ∀ F, Ent W (A ++ F) (law03_HuffPrefix v0 noP fun v w => ∃ x, v = r x ∧ sat W (B x ++ F) w)) : Cn Try.prog 4 [v0] W A r B :=
  Cn.of (shape := law03_HuffPrefix v0) Try.call4 (fun h => law03_HuffPrefix_calls h) h
theorem law03_HuffPrefix_cnP {v0 : Value} {W : World} {α β : Type} {A : List HP} {r : α → Value} {B : α → List HP} {pc : β → List PanicEntry} {Bp : β → List HP} (h : ∀ F, Ent W (A ++ F) (law03_HuffPrefix v0 (fun ch w => ∃ y, ch = pc y ∧ sat W (Bp y ++ F) w) fun v w => ∃ x, v = r x ∧ sat W (B x ++ F) w)) : CnP Try.prog 4 [v0] W A r B pc Bp :=
  CnP.of (shape := law03_HuffPrefix v0) Try.call4 (fun h => law03_HuffPrefix_calls h) h

/-- law03_HuffCodes -/
def law03_HuffCodes (v0 : Value) (Kp : PK) (K : Value → WP) : WP :=
  opN Try.prog (sBuildSl 22 0 []) Kp fun x8 =>
  opN Try.prog (sApp #[22, 22] 22 [x8, v0]) Kp fun x10 =>
  opN Try.prog (sCall (fn 20) [x10]) Kp fun x13 =>
  opN Try.prog (sExt x13 0) Kp fun x14 =>
  opN Try.prog (sExt x13 1) Kp fun x15 =>
  opN Try.prog (sCall (fn 21) [v0]) Kp fun x18 =>
  opN Try.prog (sExt x18 0) Kp fun x19 =>
  opN Try.prog (sExt x18 1) Kp fun x20 =>
  opN Try.prog (sCall (fn 17) [x14, x19]) Kp fun x23 =>
  gdK x23 true (fun k => k x15) fun x25 =>
  gdK x23 true (opN Try.prog (sCall (fn 18) [x25]) Kp) fun x26 =>
  gdK x23 true (fun k => k x20) fun x27 =>
  gdK x23 true (opN Try.prog (sEq .eql 3 (.tmp 26) (.tmp 27) x26 x27) Kp) fun x28 =>
  opN Try.prog (sPick x23 x28 (.bool false)) Kp fun x29 =>
  gdK x29 true (fun k => k x10) fun x31 =>
  gdK x29 true (opN Try.prog (sCall (fn 22) [x31]) Kp) fun x32 =>
  gdK x29 true (fun k => k v0) fun x33 =>
  gdK x29 true (opN Try.prog (sCall (fn 23) [x33]) Kp) fun x34 =>
  gdK x29 true (opN Try.prog (sEq .eql 4 (.tmp 32) (.tmp 34) x32 x34) Kp) fun x35 =>
  opN Try.prog (sPick x29 x35 (.bool false)) Kp fun x36 =>
  gdK x36 true (fun k => k x10) fun x38 =>
  gdK x36 true (fun k => k v0) fun x39 =>
  gdK x36 true (opN Try.prog (sCall (fn 17) [x38, x39]) Kp) fun x40 =>
  opN Try.prog (sPick x36 x40 (.bool false)) Kp fun x41 =>
  gdK x41 true (opN Try.prog (sCall (fn 19) []) Kp) fun x43 =>
  opN Try.prog (sPick x41 x43 (.bool false)) Kp fun x44 =>
  K x44
def law03_HuffCodes_an : Ann := { cuts := [], blks := [], loops := [], drs := [] }
theorem law03_HuffCodes_eq (v0 : Value) (Kp : PK) (K : Value → WP) : cevF Try.prog law03_HuffCodes_an Try.f5 [v0] Kp K = law03_HuffCodes v0 Kp K := by kernel_rfl
theorem law03_HuffCodes_calls {v0 : Value} {Kp : PK} {K : Value → WP} {w : World} (h : law03_HuffCodes v0 Kp K w) : Calls Try.prog 5 #[v0] w (after Kp K) :=
  calls_of_shape (calls_of_cev wide Try.func5 (an := law03_HuffCodes_an) (args := [v0]) (cast (congrFun (law03_HuffCodes_eq v0 Kp K) w).symm h))
theorem law03_HuffCodes_cn {v0 : Value} {W : World} {α : Type} {A : List HP} {r : α → Value} {B : α → List HP} (h : ∀ F, Ent W (A ++ F) (law03_HuffCodes v0 noP fun v w => ∃ x, v = r x ∧ sat W (B x ++ F) w)) : Cn Try.prog 5 [v0] W A r B :=
  Cn.of (shape := law03_HuffCodes v0) Try.call5 (fun h => law03_HuffCodes_calls h) h
theorem law03_HuffCodes_cnP {v0 : Value} {W : World} {α β : Type} {A : List HP} {r : α → Value} {B : α → List HP} {pc : β → List PanicEntry} {Bp : β → List HP} (h : ∀ F, Ent W (A ++ F) (law03_HuffCodes v0 (fun ch w => ∃ y, ch = pc y ∧ sat W (Bp y ++ F) w) fun v w => ∃ x, v = r x ∧ sat W (B x ++ F) w)) : CnP Try.prog 5 [v0] W A r B pc Bp :=
  CnP.of (shape := law03_HuffCodes v0) Try.call5 (fun h => law03_HuffCodes_calls h) h

/-- law03_HuffBest -/
def law03_HuffBest (v0 v1 v2 : Value) (Kp : PK) (K : Value → WP) : WP :=
  opN Try.prog (sCall (fn 15) [v0, v1]) Kp fun x18 =>
  opN Try.prog (sExt x18 0) Kp fun x19 =>
  opN Try.prog (sExt x18 1) Kp fun x20 =>
  opN Try.prog (sCall (fn 18) [x20]) Kp fun x22 =>
  opN Try.prog (sEq .neq 3 (.tmp 22) (.const (.int .i64 0)) x22 (.int .i64 0)) Kp fun x23 =>
  gdK x23 false (opN Try.prog (sCall (fn 19) []) Kp) fun x25 =>
  gdK x23 false (opN Try.prog (sUn .not x25) Kp) fun x26 =>
  opN Try.prog (sPick x23 (.bool true) x26) Kp fun x27 =>
  condS x27
  (opN Try.prog (sLen #[22] 3 [x19]) Kp fun x29 =>
   opN Try.prog (sEq .eql 3 (.tmp 29) (.const (.int .i64 0)) x29 (.int .i64 0)) Kp fun x30 =>
   gdK x30 true (opN Try.prog (sCall (fn 19) []) Kp) fun x32 =>
   opN Try.prog (sPick x30 x32 (.bool false)) Kp fun x33 =>
   K x33)
  (opN Try.prog (sCall (fn 24) [v0, x19, v1]) Kp fun x38 =>
   opN Try.prog (sExt x38 0) Kp fun x39 =>
   opN Try.prog (sExt x38 1) Kp fun x40 =>
   opN Try.prog (sUn .not x40) Kp fun x42 =>
   condS x42
   (K (.bool false))
   (loop2 (fun I1 m1 _ y11 y12 =>
     opN Try.prog (sLen #[22] 3 [v0]) Kp fun x45 =>
     opN Try.prog (sBin .lss 3 y12 x45) Kp fun x46 =>
     condS x46
     (cut1 (fun J1 =>
       opN Try.prog (sIA 22 v0 y12) Kp fun x51 =>
       opN Try.prog (sLoad 3 x51) Kp fun x52 =>
       opN Try.prog (sBin .gtr 3 x52 (.int .i64 0)) Kp fun x53 =>
       condS x53
       (opN Try.prog (sBin .add 3 y11 (.int .i64 1)) Kp fun x55 =>
        J1 x55)
       (J1 y11)) fun _ z11 =>
      drS (stS Try.prog (sIA 22 v0 y12) fun x58 =>
       stS Try.prog (sLoad 3 x58) fun x59 =>
       stS Try.prog (sBin .gtr 3 x59 (.int .i64 0)) fun x60 =>
       stS Try.prog (sIA 22 x19 y12) fun x63 =>
       stS Try.prog (sLoad 3 x63) fun x64 =>
       stS Try.prog (sBin .gtr 3 x64 (.int .i64 0)) fun x65 =>
       stS Try.prog (sEq .neq 4 (.tmp 60) (.tmp 65) x60 x65) fun x66 =>
       condS x66
       (K (.bool false))
       (opN Try.prog (sBin .add 3 y12 (.int .i64 1)) Kp fun x48 =>
        next2 I1 m1 z11 x48)))
     (opN Try.prog (sBin .gtr 3 y11 (.int .i64 1)) Kp fun x68 =>
      gdK x68 true (fun k => k x19) fun x70 =>
      gdK x68 true (opN Try.prog (sCall (fn 22) [x70]) Kp) fun x71 =>
      gdK x68 true (opN Try.prog (sUn .not x71) Kp) fun x72 =>
      opN Try.prog (sPick x68 x72 (.bool false)) Kp fun x73 =>
      condS x73
      (K (.bool false))
      (opN Try.prog (sCall (fn 24) [v0, v2, v1]) Kp fun x78 =>
       opN Try.prog (sExt x78 0) Kp fun x79 =>
       opN Try.prog (sExt x78 1) Kp fun x80 =>
       opN Try.prog (sUn .not x80) Kp fun x82 =>
       gdK x82 false (fun k => k x39) fun x84 =>
       gdK x82 false (fun k => k x79) fun x85 =>
       gdK x82 false (opN Try.prog (sBin .leq 3 x84 x85) Kp) fun x86 =>
       opN Try.prog (sPick x82 (.bool true) x86) Kp fun x87 =>
       K x87))) (.int .i64 0) (.int .i64 0)))
def law03_HuffBest_an : Ann := { cuts := [(13, [11])], blks := [], loops := [(9, [11, 12])], drs := [(13, [(0, 1), (1, 1), (2, 1), (3, 1), (4, 1), (5, 1), (6, 1), (7, 1), (8, 1), (9, 1), (10, 1)])] }
theorem law03_HuffBest_eq (v0 v1 v2 : Value) (Kp : PK) (K : Value → WP) : cevF Try.prog law03_HuffBest_an Try.f6 [v0, v1, v2] Kp K = law03_HuffBest v0 v1 v2 Kp K := by kernel_rfl
theorem law03_HuffBest_calls {v0 v1 v2 : Value} {Kp : PK} {K : Value → WP} {w : World} (h : law03_HuffBest v0 v1 v2 Kp K w) : Calls Try.prog 6 #[v0, v1, v2] w (after Kp K) :=
  calls_of_shape (calls_of_cev wide Try.func6 (an := law03_HuffBest_an) (args := [v0, v1, v2]) (cast (congrFun (law03_HuffBest_eq v0 v1 v2 Kp K) w).symm h))
theorem law03_HuffBest_cn {v0 v1 v2 : Value} {W : World} {α : Type} {A : List HP} {r : α → Value} {B : α → List HP} (h : ∀ F, Ent W (A ++ F) (law03_HuffBest v0 v1 v2 noP fun v w => ∃ x, v = r x ∧ sat W (B x ++ F) w)) : Cn Try.prog 6 [v0, v1, v2] W A r B :=
  Cn.of (shape := law03_HuffBest v0 v1 v2) Try.call6 (fun h => law03_HuffBest_calls h) h
theorem law03_HuffBest_cnP {v0 v1 v2 : Value} {W : World} {α β : Type} {A : List HP} {r : α → Value} {B : α → List HP} {pc : β → List PanicEntry} {Bp : β → List HP} (h : ∀ F, Ent W (A ++ F) (law03_HuffBest v0 v1 v2 (fun ch w => ∃ y, ch = pc y ∧ sat W (Bp y ++ F) w) fun v w => ∃ x, v = r x ∧ sat W (B x ++ F) w)) : CnP Try.prog 6 [v0, v1, v2] W A r B pc Bp :=
  CnP.of (shape := law03_HuffBest v0 v1 v2) Try.call6 (fun h => law03_HuffBest_calls h) h

/-- law05_InflateEnds -/
def law05_InflateEnds (v0 v1 v2 : Value) (Kp : PK) (K : Value → WP) : WP :=
  opN Try.prog (sBuildSl 39 0 []) Kp fun x17 =>
  opN Try.prog (sApp #[39, 39] 39 [x17, v0]) Kp fun x19 =>
  opN Try.prog (sCall (fn 25) [x19, v1]) Kp fun x21 =>
  opN Try.prog (sExt x21 0) Kp fun x22 =>
  opN Try.prog (sExt x21 1) Kp fun x23 =>
  opN Try.prog (sExt x21 2) Kp fun x24 =>
  opN Try.prog (sCall (fn 26) [x24]) Kp fun x26 =>
  opN Try.prog (sEq .neq 3 (.tmp 26) (.const (.int .i64 0)) x26 (.int .i64 0)) Kp fun x27 =>
  gdK x27 false (opN Try.prog (sCall (fn 27) []) Kp) fun x29 =>
  gdK x27 false (opN Try.prog (sUn .not x29) Kp) fun x30 =>
  opN Try.prog (sPick x27 (.bool true) x30) Kp fun x31 =>
  condS x31
  (opN Try.prog (sLen #[39] 3 [x22]) Kp fun x33 =>
   opN Try.prog (sEq .eql 3 (.tmp 33) (.const (.int .i64 0)) x33 (.int .i64 0)) Kp fun x34 =>
   gdK x34 true (fun k => k x23) fun x36 =>
   gdK x34 true (opN Try.prog (sEq .eql 3 (.tmp 36) (.const (.int .i64 0)) x36 (.int .i64 0)) Kp) fun x37 =>
   opN Try.prog (sPick x34 x37 (.bool false)) Kp fun x38 =>
   gdK x38 true (opN Try.prog (sCall (fn 27) []) Kp) fun x40 =>
   opN Try.prog (sPick x38 x40 (.bool false)) Kp fun x41 =>
   K x41)
  (opN Try.prog (sBin .lss 3 x23 (.int .i64 1)) Kp fun x43 =>
   gdK x43 false (fun k => k x23) fun x45 =>
   gdK x43 false (fun k => k v0) fun x46 =>
   gdK x43 false (opN Try.prog (sLen #[39] 3 [x46]) Kp) fun x47 =>
   gdK x43 false (opN Try.prog (sBin .gtr 3 x45 x47) Kp) fun x48 =>
   opN Try.prog (sPick x43 (.bool true) x48) Kp fun x49 =>
   condS x49
   (K (.bool false))
   (opN Try.prog (sBuildSl 39 0 []) Kp fun x51 =>
    opN Try.prog (sSl 39 v0 none (some x23) none) Kp fun x54 =>
    opN Try.prog (sApp #[39, 39] 39 [x51, x54]) Kp fun x55 =>
    opN Try.prog (sApp #[39, 39] 39 [x55, v2]) Kp fun x57 =>
    opN Try.prog (sCall (fn 25) [x57, v1]) Kp fun x59 =>
    opN Try.prog (sExt x59 0) Kp fun x60 =>
    opN Try.prog (sExt x59 1) Kp fun x61 =>
    opN Try.prog (sExt x59 2) Kp fun x62 =>
    opN Try.prog (sBuildSl 39 0 []) Kp fun x64 =>
    opN Try.prog (sBin .sub 3 x23 (.int .i64 1)) Kp fun x67 =>
    opN Try.prog (sSl 39 v0 none (some x67) none) Kp fun x68 =>
    opN Try.prog (sApp #[39, 39] 39 [x64, x68]) Kp fun x69 =>
    opN Try.prog (sCall (fn 25) [x69, v1]) Kp fun x71 =>
    opN Try.prog (sExt x71 0) Kp fun x72 =>
    opN Try.prog (sExt x71 1) Kp fun x73 =>
    opN Try.prog (sExt x71 2) Kp fun x74 =>
    opN Try.prog (sLen #[39] 3 [v2]) Kp fun x77 =>
    opN Try.prog (sBin .add 3 x23 x77) Kp fun x78 =>
    opN Try.prog (sBin .gtr 3 x78 (.int .i64 1048576)) Kp fun x79 =>
    condS x79
    (opN Try.prog (sCall (fn 26) [x62]) Kp fun x81 =>
     opN Try.prog (sEq .eql 3 (.tmp 81) (.const (.int .i64 6)) x81 (.int .i64 6)) Kp fun x82 =>
     K x82)
    (opN Try.prog (sCall (fn 26) [x62]) Kp fun x84 =>
     opN Try.prog (sEq .eql 3 (.tmp 84) (.const (.int .i64 0)) x84 (.int .i64 0)) Kp fun x85 =>
     gdK x85 true (fun k => k x60) fun x87 =>
     gdK x85 true (opN Try.prog (sConv 39 9 x87) Kp) fun x88 =>
     gdK x85 true (fun k => k x22) fun x89 =>
     gdK x85 true (opN Try.prog (sConv 39 9 x89) Kp) fun x90 =>
     gdK x85 true (opN Try.prog (sEq .eql 9 (.tmp 88) (.tmp 90) x88 x90) Kp) fun x91 =>
     opN Try.prog (sPick x85 x91 (.bool false)) Kp fun x92 =>
     gdK x92 true (fun k => k x61) fun x94 =>
     gdK x92 true (fun k => k x23) fun x95 =>
     gdK x92 true (opN Try.prog (sEq .eql 3 (.tmp 94) (.tmp 95) x94 x95) Kp) fun x96 =>
     opN Try.prog (sPick x92 x96 (.bool false)) Kp fun x97 =>
     gdK x97 true (fun k => k x74) fun x99 =>
     gdK x97 true (opN Try.prog (sCall (fn 26) [x99]) Kp) fun x100 =>
     gdK x97 true (opN Try.prog (sEq .eql 3 (.tmp 100) (.const (.int .i64 20)) x100 (.int .i64 20)) Kp) fun x101 =>
     opN Try.prog (sPick x97 x101 (.bool false)) Kp fun x102 =>
     gdK x102 true (fun k => k x72) fun x104 =>
     gdK x102 true (opN Try.prog (sLen #[39] 3 [x104]) Kp) fun x105 =>
     gdK x102 true (opN Try.prog (sEq .eql 3 (.tmp 105) (.const (.int .i64 0)) x105 (.int .i64 0)) Kp) fun x106 =>
     opN Try.prog (sPick x102 x106 (.bool false)) Kp fun x107 =>
     K x107)))
def law05_InflateEnds_an : Ann := { cuts := [], blks := [], loops := [], drs := [] }
theorem law05_InflateEnds_eq (v0 v1 v2 : Value) (Kp : PK) (K : Value → WP) : cevF Try.prog law05_InflateEnds_an Try.f7 [v0, v1, v2] Kp K = law05_InflateEnds v0 v1 v2 Kp K := by kernel_rfl
theorem law05_InflateEnds_calls {v0 v1 v2 : Value} {Kp : PK} {K : Value → WP} {w : World} (h : law05_InflateEnds v0 v1 v2 Kp K w) : Calls Try.prog 7 #[v0, v1, v2] w (after Kp K) :=
  calls_of_shape (calls_of_cev wide Try.func7 (an := law05_InflateEnds_an) (args := [v0, v1, v2]) (cast (congrFun (law05_InflateEnds_eq v0 v1 v2 Kp K) w).symm h))
theorem law05_InflateEnds_cn {v0 v1 v2 : Value} {W : World} {α : Type} {A : List HP} {r : α → Value} {B : α → List HP} (h : ∀ F, Ent W (A ++ F) (law05_InflateEnds v0 v1 v2 noP fun v w => ∃ x, v = r x ∧ sat W (B x ++ F) w)) : Cn Try.prog 7 [v0, v1, v2] W A r B :=
  Cn.of (shape := law05_InflateEnds v0 v1 v2) Try.call7 (fun h => law05_InflateEnds_calls h) h
theorem law05_InflateEnds_cnP {v0 v1 v2 : Value} {W : World} {α β : Type} {A : List HP} {r : α → Value} {B : α → List HP} {pc : β → List PanicEntry} {Bp : β → List HP} (h : ∀ F, Ent W (A ++ F) (law05_InflateEnds v0 v1 v2 (fun ch w => ∃ y, ch = pc y ∧ sat W (Bp y ++ F) w) fun v w => ∃ x, v = r x ∧ sat W (B x ++ F) w)) : CnP Try.prog 7 [v0, v1, v2] W A r B pc Bp :=
  CnP.of (shape := law05_InflateEnds v0 v1 v2) Try.call7 (fun h => law05_InflateEnds_calls h) h

/-- law05_InflateMost -/
def law05_InflateMost (v0 v1 : Value) (Kp : PK) (K : Value → WP) : WP :=
  opN Try.prog (sBuildSl 39 0 []) Kp fun x12 =>
  opN Try.prog (sApp #[39, 39] 39 [x12, v0]) Kp fun x14 =>
  opN Try.prog (sCall (fn 25) [x14, (.int .i64 1048576)]) Kp fun x15 =>
  opN Try.prog (sExt x15 0) Kp fun x16 =>
  opN Try.prog (sExt x15 1) Kp fun x17 =>
  opN Try.prog (sExt x15 2) Kp fun x18 =>
  opN Try.prog (sCall (fn 26) [x18]) Kp fun x20 =>
  opN Try.prog (sEq .neq 3 (.tmp 20) (.const (.int .i64 0)) x20 (.int .i64 0)) Kp fun x21 =>
  gdK x21 false (fun k => k v1) fun x23 =>
  gdK x21 false (opN Try.prog (sBin .lss 3 x23 (.int .i64 0)) Kp) fun x24 =>
  opN Try.prog (sPick x21 (.bool true) x24) Kp fun x25 =>
  gdK x25 false (fun k => k v1) fun x27 =>
  gdK x25 false (opN Try.prog (sBin .gtr 3 x27 (.int .i64 1048576)) Kp) fun x28 =>
  opN Try.prog (sPick x25 (.bool true) x28) Kp fun x29 =>
  gdK x29 false (opN Try.prog (sCall (fn 27) []) Kp) fun x31 =>
  gdK x29 false (opN Try.prog (sUn .not x31) Kp) fun x32 =>
  opN Try.prog (sPick x29 (.bool true) x32) Kp fun x33 =>
  condS x33
  (opN Try.prog (sCall (fn 27) []) Kp fun x34 =>
   K x34)
  (opN Try.prog (sBuildSl 39 0 []) Kp fun x36 =>
   opN Try.prog (sApp #[39, 39] 39 [x36, v0]) Kp fun x38 =>
   opN Try.prog (sCall (fn 25) [x38, v1]) Kp fun x40 =>
   opN Try.prog (sExt x40 0) Kp fun x41 =>
   opN Try.prog (sExt x40 1) Kp fun x42 =>
   opN Try.prog (sExt x40 2) Kp fun x43 =>
   opN Try.prog (sLen #[39] 3 [x16]) Kp fun x46 =>
   opN Try.prog (sBin .lss 3 v1 x46) Kp fun x47 =>
   condS x47
   (opN Try.prog (sCall (fn 26) [x43]) Kp fun x49 =>
    opN Try.prog (sEq .eql 3 (.tmp 49) (.const (.int .i64 6)) x49 (.int .i64 6)) Kp fun x50 =>
    gdK x50 true (fun k => k x41) fun x52 =>
    gdK x50 true (opN Try.prog (sLen #[39] 3 [x52]) Kp) fun x53 =>
    gdK x50 true (opN Try.prog (sEq .eql 3 (.tmp 53) (.const (.int .i64 0)) x53 (.int .i64 0)) Kp) fun x54 =>
    opN Try.prog (sPick x50 x54 (.bool false)) Kp fun x55 =>
    K x55)
   (opN Try.prog (sCall (fn 26) [x43]) Kp fun x57 =>
    opN Try.prog (sEq .eql 3 (.tmp 57) (.const (.int .i64 0)) x57 (.int .i64 0)) Kp fun x58 =>
    gdK x58 true (fun k => k x41) fun x60 =>
    gdK x58 true (opN Try.prog (sConv 39 9 x60) Kp) fun x61 =>
    gdK x58 true (fun k => k x16) fun x62 =>
    gdK x58 true (opN Try.prog (sConv 39 9 x62) Kp) fun x63 =>
    gdK x58 true (opN Try.prog (sEq .eql 9 (.tmp 61) (.tmp 63) x61 x63) Kp) fun x64 =>
    opN Try.prog (sPick x58 x64 (.bool false)) Kp fun x65 =>
    K x65))
def law05_InflateMost_an : Ann := { cuts := [], blks := [], loops := [], drs := [] }
theorem law05_InflateMost_eq (v0 v1 : Value) (Kp : PK) (K : Value → WP) : cevF Try.prog law05_InflateMost_an Try.f8 [v0, v1] Kp K = law05_InflateMost v0 v1 Kp K := by kernel_rfl
theorem law05_InflateMost_calls {v0 v1 : Value} {Kp : PK} {K : Value → WP} {w : World} (h : law05_InflateMost v0 v1 Kp K w) : Calls Try.prog 8 #[v0, v1] w (after Kp K) :=
  calls_of_shape (calls_of_cev wide Try.func8 (an := law05_InflateMost_an) (args := [v0, v1]) (cast (congrFun (law05_InflateMost_eq v0 v1 Kp K) w).symm h))
theorem law05_InflateMost_cn {v0 v1 : Value} {W : World} {α : Type} {A : List HP} {r : α → Value} {B : α → List HP} (h : ∀ F, Ent W (A ++ F) (law05_InflateMost v0 v1 noP fun v w => ∃ x, v = r x ∧ sat W (B x ++ F) w)) : Cn Try.prog 8 [v0, v1] W A r B :=
  Cn.of (shape := law05_InflateMost v0 v1) Try.call8 (fun h => law05_InflateMost_calls h) h
theorem law05_InflateMost_cnP {v0 v1 : Value} {W : World} {α β : Type} {A : List HP} {r : α → Value} {B : α → List HP} {pc : β → List PanicEntry} {Bp : β → List HP} (h : ∀ F, Ent W (A ++ F) (law05_InflateMost v0 v1 (fun ch w => ∃ y, ch = pc y ∧ sat W (Bp y ++ F) w) fun v w => ∃ x, v = r x ∧ sat W (B x ++ F) w)) : CnP Try.prog 8 [v0, v1] W A r B pc Bp :=
  CnP.of (shape := law05_InflateMost v0 v1) Try.call8 (fun h => law05_InflateMost_calls h) h

/-- law05_InflateStored -/
def law05_InflateStored (v0 : Value) (Kp : PK) (K : Value → WP) : WP :=
  cut1 (fun J1 =>
   opN Try.prog (sLen #[44] 3 [v0]) Kp fun x12 =>
   opN Try.prog (sBin .gtr 3 x12 (.int .i64 20)) Kp fun x13 =>
   condS x13
   (opN Try.prog (sSl 44 v0 none (some (.int .i64 20)) none) Kp fun x15 =>
    J1 x15)
   (J1 v0)) fun _ z0 =>
  loop3 (fun I1 m1 _ y3 y4 y5 =>
   opN Try.prog (sLen #[44] 3 [z0]) Kp fun x18 =>
   opN Try.prog (sBin .lss 3 y5 x18) Kp fun x19 =>
   condS x19
   (opN Try.prog (sIA 44 z0 y5) Kp fun x24 =>
    opN Try.prog (sLoad 39 x24) Kp fun x25 =>
    cut1 (fun J2 =>
     opN Try.prog (sLen #[39] 3 [x25]) Kp fun x27 =>
     opN Try.prog (sBin .gtr 3 x27 (.int .i64 30000)) Kp fun x28 =>
     condS x28
     (opN Try.prog (sSl 39 x25 none (some (.int .i64 30000)) none) Kp fun x30 =>
      J2 x30)
     (J2 x25)) fun _ z6 =>
    opN Try.prog (sLen #[39] 3 [z6]) Kp fun x32 =>
    opN Try.prog (sConv 3 5 x32) Kp fun x35 =>
    opN Try.prog (sBin .shr 3 x32 (.int .u64 8)) Kp fun x37 =>
    opN Try.prog (sConv 3 5 x37) Kp fun x38 =>
    opN Try.prog (sBin .rem 3 x32 (.int .i64 256)) Kp fun x40 =>
    opN Try.prog (sBin .sub 3 (.int .i64 255) x40) Kp fun x41 =>
    opN Try.prog (sConv 3 5 x41) Kp fun x42 =>
    opN Try.prog (sBin .quo 3 x32 (.int .i64 256)) Kp fun x44 =>
    opN Try.prog (sBin .sub 3 (.int .i64 255) x44) Kp fun x45 =>
    opN Try.prog (sConv 3 5 x45) Kp fun x46 =>
    opN Try.prog (sBuildSl 39 5 [(0, (.int .u8 0)), (1, x35), (2, x38), (3, x42), (4, x46)]) Kp fun x47 =>
    opN Try.prog (sApp #[39, 39] 39 [y3, x47]) Kp fun x48 =>
    opN Try.prog (sApp #[39, 39] 39 [x48, z6]) Kp fun x51 =>
    opN Try.prog (sApp #[39, 39] 39 [y4, z6]) Kp fun x54 =>
    opN Try.prog (sBin .add 3 y5 (.int .i64 1)) Kp fun x21 =>
    next3 I1 m1 x51 x54 x21)
   (opN Try.prog (sBuildSl 39 5 [(0, (.int .u8 1)), (1, (.int .u8 0)), (2, (.int .u8 0)), (3, (.int .u8 255)), (4, (.int .u8 255))]) Kp fun x56 =>
    opN Try.prog (sApp #[39, 39] 39 [y3, x56]) Kp fun x57 =>
    opN Try.prog (sCall (fn 25) [x57, (.int .i64 1048576)]) Kp fun x60 =>
    opN Try.prog (sExt x60 0) Kp fun x61 =>
    opN Try.prog (sExt x60 1) Kp fun x62 =>
    opN Try.prog (sExt x60 2) Kp fun x63 =>
    opN Try.prog (sCall (fn 26) [x63]) Kp fun x65 =>
    opN Try.prog (sEq .eql 3 (.tmp 65) (.const (.int .i64 0)) x65 (.int .i64 0)) Kp fun x66 =>
    gdK x66 true (fun k => k x62) fun x68 =>
    gdK x66 true (fun k => k x57) fun x69 =>
    gdK x66 true (opN Try.prog (sLen #[39] 3 [x69]) Kp) fun x70 =>
    gdK x66 true (opN Try.prog (sEq .eql 3 (.tmp 68) (.tmp 70) x68 x70) Kp) fun x71 =>
    opN Try.prog (sPick x66 x71 (.bool false)) Kp fun x72 =>
    gdK x72 true (fun k => k x61) fun x74 =>
    gdK x72 true (opN Try.prog (sConv 39 9 x74) Kp) fun x75 =>
    gdK x72 true (fun k => k y4) fun x76 =>
    gdK x72 true (opN Try.prog (sConv 39 9 x76) Kp) fun x77 =>
    gdK x72 true (opN Try.prog (sEq .eql 9 (.tmp 75) (.tmp 77) x75 x77) Kp) fun x78 =>
    opN Try.prog (sPick x72 x78 (.bool false)) Kp fun x79 =>
    gdK x79 true (opN Try.prog (sCall (fn 27) []) Kp) fun x81 =>
    opN Try.prog (sPick x79 x81 (.bool false)) Kp fun x82 =>
    K x82)) (.slice none 0 0) (.slice none 0 0) (.int .i64 0)
def law05_InflateStored_an : Ann := { cuts := [(5, [0]), (11, [6])], blks := [], loops := [(6, [3, 4, 5])], drs := [] }
theorem law05_InflateStored_eq (v0 : Value) (Kp : PK) (K : Value → WP) : cevF Try.prog law05_InflateStored_an Try.f9 [v0] Kp K = law05_InflateStored v0 Kp K := by kernel_rfl
theorem law05_InflateStored_calls {v0 : Value} {Kp : PK} {K : Value → WP} {w : World} (h : law05_InflateStored v0 Kp K w) : Calls Try.prog 9 #[v0] w (after Kp K) :=
  calls_of_shape (calls_of_cev wide Try.func9 (an := law05_InflateStored_an) (args := [v0]) (cast (congrFun (law05_InflateStored_eq v0 Kp K) w).symm h))
theorem law05_InflateStored_cn {v0 : Value} {W : World} {α : Type} {A : List HP} {r : α → Value} {B : α → List HP} (h : ∀ F, Ent W (A ++ F) (law05_InflateStored v0 noP fun v w => ∃ x, v = r x ∧ sat W (B x ++ F) w)) : Cn Try.prog 9 [v0] W A r B :=
  Cn.of (shape := law05_InflateStored v0) Try.call9 (fun h => law05_InflateStored_calls h) h
theorem law05_InflateStored_cnP {v0 : Value} {W : World} {α β : Type} {A : List HP} {r : α → Value} {B : α → List HP} {pc : β → List PanicEntry} {Bp : β → List HP} (h : ∀ F, Ent W (A ++ F) (law05_InflateStored v0 (fun ch w => ∃ y, ch = pc y ∧ sat W (Bp y ++ F) w) fun v w => ∃ x, v = r x ∧ sat W (B x ++ F) w)) : CnP Try.prog 9 [v0] W A r B pc Bp :=
  CnP.of (shape := law05_InflateStored v0) Try.call9 (fun h => law05_InflateStored_calls h) h

/-- law05_InflateBlocks -/
def law05_InflateBlocks (v0 v1 : Value) (Kp : PK) (K : Value → WP) : WP :=
  opN Try.prog (sBuildSl 39 0 []) Kp fun x11 =>
  opN Try.prog (sApp #[39, 39] 39 [x11, v0]) Kp fun x13 =>
  opN Try.prog (sCall (fn 28) [x13, v1]) Kp fun x15 =>
  opN Try.prog (sExt x15 0) Kp fun x16 =>
  opN Try.prog (sExt x15 1) Kp fun x17 =>
  opN Try.prog (sCall (fn 29) [v0, v1]) Kp fun x21 =>
  opN Try.prog (sExt x21 0) Kp fun x22 =>
  opN Try.prog (sExt x21 1) Kp fun x23 =>
  opN Try.prog (sLen #[46] 3 [x16]) Kp fun x25 =>
  opN Try.prog (sLen #[49] 3 [x22]) Kp fun x27 =>
  opN Try.prog (sEq .neq 3 (.tmp 25) (.tmp 27) x25 x27) Kp fun x28 =>
  gdK x28 false (fun k => k x17) fun x30 =>
  gdK x28 false (opN Try.prog (sCall (fn 26) [x30]) Kp) fun x31 =>
  gdK x28 false (fun k => k x23) fun x32 =>
  gdK x28 false (opN Try.prog (sEq .neq 3 (.tmp 31) (.tmp 32) x31 x32) Kp) fun x33 =>
  opN Try.prog (sPick x28 (.bool true) x33) Kp fun x34 =>
  condS x34
  (K (.bool false))
  (loop1 (fun I1 m1 _ y9 =>
    opN Try.prog (sLen #[46] 3 [x16]) Kp fun x37 =>
    opN Try.prog (sBin .lss 3 y9 x37) Kp fun x38 =>
    condS x38
    (drS (stS Try.prog (sIA 46 x16 y9) fun x43 =>
      stS Try.prog (sFA 53 x43 0) fun x44 =>
      stS Try.prog (sLoad 3 x44) fun x45 =>
      stS Try.prog (sIA 49 x22 y9) fun x48 =>
      stS Try.prog (sFA 54 x48 0) fun x49 =>
      stS Try.prog (sLoad 3 x49) fun x50 =>
      stS Try.prog (sEq .neq 3 (.tmp 45) (.tmp 50) x45 x50) fun x51 =>
      gdK x51 false (fun k => k x16) fun x53 =>
      gdK x51 false (fun k => k y9) fun x54 =>
      gdK x51 false (stS Try.prog (sIA 46 x53 x54)) fun x55 =>
      gdK x51 false (stS Try.prog (sFA 53 x55 1)) fun x56 =>
      gdK x51 false (stS Try.prog (sLoad 3 x56)) fun x57 =>
      gdK x51 false (fun k => k x22) fun x58 =>
      gdK x51 false (fun k => k y9) fun x59 =>
      gdK x51 false (stS Try.prog (sIA 49 x58 x59)) fun x60 =>
      gdK x51 false (stS Try.prog (sFA 54 x60 1)) fun x61 =>
      gdK x51 false (stS Try.prog (sLoad 3 x61)) fun x62 =>
      gdK x51 false (stS Try.prog (sEq .neq 3 (.tmp 57) (.tmp 62) x57 x62)) fun x63 =>
      stS Try.prog (sPick x51 (.bool true) x63) fun x64 =>
      condS x64
      (K (.bool false))
      (opN Try.prog (sBin .add 3 y9 (.int .i64 1)) Kp fun x40 =>
       next1 I1 m1 x40)))
    (opN Try.prog (sCall (fn 27) []) Kp fun x65 =>
     K x65)) (.int .i64 0))
def law05_InflateBlocks_an : Ann := { cuts := [], blks := [], loops := [(6, [9])], drs := [(8, [(0, 1), (1, 1), (2, 1), (3, 1), (4, 1), (5, 1), (6, 1), (7, 1), (8, 1), (9, 1), (10, 1), (11, 1), (12, 1), (13, 1), (14, 1), (15, 1), (16, 1), (17, 1), (18, 1), (19, 1), (20, 1), (21, 1), (22, 1), (23, 1)])] }
theorem law05_InflateBlocks_eq (v0 v1 : Value) (Kp : PK) (K : Value → WP) : cevF Try.prog law05_InflateBlocks_an Try.f10 [v0, v1] Kp K = law05_InflateBlocks v0 v1 Kp K := by kernel_rfl
theorem law05_InflateBlocks_calls {v0 v1 : Value} {Kp : PK} {K : Value → WP} {w : World} (h : law05_InflateBlocks v0 v1 Kp K w) : Calls Try.prog 10 #[v0, v1] w (after Kp K) :=
  calls_of_shape (calls_of_cev wide Try.func10 (an := law05_InflateBlocks_an) (args := [v0, v1]) (cast (congrFun (law05_InflateBlocks_eq v0 v1 Kp K) w).symm h))
theorem law05_InflateBlocks_cn {v0 v1 : Value} {W : World} {α : Type} {A : List HP} {r : α → Value} {B : α → List HP} (h : ∀ F, Ent W (A ++ F) (law05_InflateBlocks v0 v1 noP fun v w => ∃ x, v = r x ∧ sat W (B x ++ F) w)) : Cn Try.prog 10 [v0, v1] W A r B :=
  Cn.of (shape := law05_InflateBlocks v0 v1) Try.call10 (fun h => law05_InflateBlocks_calls h) h
theorem law05_InflateBlocks_cnP {v0 v1 : Value} {W : World} {α β : Type} {A : List HP} {r : α → Value} {B : α → List HP} {pc : β → List PanicEntry} {Bp : β → List HP} (h : ∀ F, Ent W (A ++ F) (law05_InflateBlocks v0 v1 (fun ch w => ∃ y, ch = pc y ∧ sat W (Bp y ++ F) w) fun v w => ∃ x, v = r x ∧ sat W (B x ++ F) w)) : CnP Try.prog 10 [v0, v1] W A r B pc Bp :=
  CnP.of (shape := law05_InflateBlocks v0 v1) Try.call10 (fun h => law05_InflateBlocks_calls h) h

/-- law03_HuffPuts -/
def law03_HuffPuts (v0 v1 v2 : Value) (Kp : PK) (K : Value → WP) : WP :=
  opN Try.prog (sCall (fn 30) []) Kp fun x10 =>
  opN Try.prog (sBuild 59 []) Kp fun x11 =>
  opN Try.prog (sBox 59 x11) Kp fun x12 =>
  loop1 (fun I1 m1 _ y9 =>
   opN Try.prog (sLen #[22] 3 [v2]) Kp fun x15 =>
   opN Try.prog (sBin .lss 3 y9 x15) Kp fun x16 =>
   condS x16
   (drS (stS Try.prog (sIA 22 v2 y9) fun x24 =>
     stS Try.prog (sLoad 3 x24) fun x25 =>
     stD Try.prog (sIA 22 v2 y9) fun D14 x33 =>
     stD Try.prog (sLoad 3 x33) fun D15 x34 =>
     opN Try.prog (sCall (fn 31) [x10, v0, v1, x25]) Kp fun x26 =>
     (fun w => D15 w ∧ (fun w => D14 w ∧ (opN Try.prog (sCall (fn 18) [x26]) Kp fun x27 =>
        (fun w => D15 w ∧ (fun w => D14 w ∧ (opN Try.prog (sCall (fn 32) [x12, v0, v1, x34]) Kp fun x35 =>
           stS Try.prog (sEq .neq 3 (.tmp 27) (.tmp 35) x27 x35) fun x36 =>
           condS x36
           (K (.bool false))
           (opN Try.prog (sBin .add 3 y9 (.int .i64 1)) Kp fun x18 =>
            next1 I1 m1 x18)) w) w)) w) w)))
   (drS (stS Try.prog (sEq .neq 55 (.tmp 37) (.const (.pointer none)) x10 (.pointer none)) fun x38 =>
     gdK x38 true (fun k => k x10) fun x40 =>
     gdK x38 true (fun k => k x12) fun x43 =>
     gdK x38 true (opN Try.prog (sCall (fn 33) [x40]) Kp) fun x41 =>
     gdD x38 true (stD Try.prog (sConv 39 9 x41)) fun D5 x42 =>
     gdK x38 true (opN Try.prog (sCall (fn 34) [x43]) Kp) fun x44 =>
     (fun w => D5 w ∧ (gdK x38 true (stS Try.prog (sConv 39 9 x44)) fun x45 =>
       gdK x38 true (stS Try.prog (sEq .eql 9 (.tmp 42) (.tmp 45) x42 x45)) fun x46 =>
       stS Try.prog (sPick x38 x46 (.bool false)) fun x47 =>
       gdK x47 true (opN Try.prog (sCall (fn 19) []) Kp) fun x49 =>
       stS Try.prog (sPick x47 x49 (.bool false)) fun x50 =>
       K x50) w)))) (.int .i64 0)
def law03_HuffPuts_an : Ann := { cuts := [], blks := [], loops := [(4, [9])], drs := [(6, [(0, 1), (1, 1), (2, 1), (3, 1), (4, 1), (5, 1), (6, 1), (9, 2), (10, 2), (11, 2), (12, 2), (13, 2), (14, 3), (15, 3), (7, 0), (8, 0), (16, 0), (17, 1)]), (8, [(0, 1), (1, 1), (2, 1), (3, 1), (6, 2), (4, 0), (5, 3), (7, 0), (8, 1), (9, 1), (10, 1), (11, 1), (12, 0), (13, 1), (14, 1)])] }
theorem law03_HuffPuts_eq (v0 v1 v2 : Value) (Kp : PK) (K : Value → WP) : cevF Try.prog law03_HuffPuts_an Try.f11 [v0, v1, v2] Kp K = law03_HuffPuts v0 v1 v2 Kp K := by kernel_rfl
theorem law03_HuffPuts_calls {v0 v1 v2 : Value} {Kp : PK} {K : Value → WP} {w : World} (h : law03_HuffPuts v0 v1 v2 Kp K w) : Calls Try.prog 11 #[v0, v1, v2] w (after Kp K) :=
  calls_of_shape (calls_of_cev wide Try.func11 (an := law03_HuffPuts_an) (args := [v0, v1, v2]) (cast (congrFun (law03_HuffPuts_eq v0 v1 v2 Kp K) w).symm h))
theorem law03_HuffPuts_cn {v0 v1 v2 : Value} {W : World} {α : Type} {A : List HP} {r : α → Value} {B : α → List HP} (h : ∀ F, Ent W (A ++ F) (law03_HuffPuts v0 v1 v2 noP fun v w => ∃ x, v = r x ∧ sat W (B x ++ F) w)) : Cn Try.prog 11 [v0, v1, v2] W A r B :=
  Cn.of (shape := law03_HuffPuts v0 v1 v2) Try.call11 (fun h => law03_HuffPuts_calls h) h
theorem law03_HuffPuts_cnP {v0 v1 v2 : Value} {W : World} {α β : Type} {A : List HP} {r : α → Value} {B : α → List HP} {pc : β → List PanicEntry} {Bp : β → List HP} (h : ∀ F, Ent W (A ++ F) (law03_HuffPuts v0 v1 v2 (fun ch w => ∃ y, ch = pc y ∧ sat W (Bp y ++ F) w) fun v w => ∃ x, v = r x ∧ sat W (B x ++ F) w)) : CnP Try.prog 11 [v0, v1, v2] W A r B pc Bp :=
  CnP.of (shape := law03_HuffPuts v0 v1 v2) Try.call11 (fun h => law03_HuffPuts_calls h) h

/-- law03_HuffReads -/
def law03_HuffReads (v0 v1 v2 : Value) (Kp : PK) (K : Value → WP) : WP :=
  opN Try.prog (sBuildSl 22 0 []) Kp fun x20 =>
  opN Try.prog (sApp #[22, 22] 22 [x20, v0]) Kp fun x22 =>
  opN Try.prog (sCall (fn 35) [x22]) Kp fun x25 =>
  opN Try.prog (sExt x25 0) Kp fun x26 =>
  opN Try.prog (sExt x25 1) Kp fun x27 =>
  opN Try.prog (sCall (fn 36) [v0]) Kp fun x30 =>
  opN Try.prog (sExt x30 0) Kp fun x31 =>
  opN Try.prog (sExt x30 1) Kp fun x32 =>
  opN Try.prog (sCall (fn 18) [x27]) Kp fun x34 =>
  opN Try.prog (sEq .neq 3 (.tmp 34) (.tmp 35) x34 x32) Kp fun x36 =>
  gdK x36 false (fun k => k x26) fun x38 =>
  gdK x36 false (opN Try.prog (sEq .eql 64 (.tmp 38) (.const (.pointer none)) x38 (.pointer none)) Kp) fun x39 =>
  gdK x36 false (fun k => k x31) fun x40 =>
  gdK x36 false (opN Try.prog (sEq .eql 67 (.tmp 40) (.const (.pointer none)) x40 (.pointer none)) Kp) fun x41 =>
  gdK x36 false (opN Try.prog (sEq .neq 4 (.tmp 39) (.tmp 41) x39 x41) Kp) fun x42 =>
  opN Try.prog (sPick x36 (.bool true) x42) Kp fun x43 =>
  gdK x43 false (fun k => k x22) fun x45 =>
  gdK x43 false (fun k => k v0) fun x46 =>
  gdK x43 false (opN Try.prog (sCall (fn 17) [x45, x46]) Kp) fun x47 =>
  gdK x43 false (opN Try.prog (sUn .not x47) Kp) fun x48 =>
  opN Try.prog (sPick x43 (.bool true) x48) Kp fun x49 =>
  gdK x49 false (opN Try.prog (sCall (fn 19) []) Kp) fun x51 =>
  gdK x49 false (opN Try.prog (sUn .not x51) Kp) fun x52 =>
  opN Try.prog (sPick x49 (.bool true) x52) Kp fun x53 =>
  condS x53
  (K (.bool false))
  (opN Try.prog (sEq .eql 64 (.tmp 54) (.const (.pointer none)) x26 (.pointer none)) Kp fun x55 =>
   condS x55
   (K (.bool true))
   (loop1 (fun I1 m1 _ y12 =>
     opN Try.prog (sLen #[22] 3 [x22]) Kp fun x58 =>
     opN Try.prog (sBin .lss 3 y12 x58) Kp fun x59 =>
     condS x59
     (opN Try.prog (sIA 22 x22 y12) Kp fun x64 =>
      opN Try.prog (sStore 3 x64 (.int .i64 9)) Kp fun _ =>
      opN Try.prog (sBin .add 3 y12 (.int .i64 1)) Kp fun x61 =>
      next1 I1 m1 x61)
     (opN Try.prog (sCall (fn 37) [v1]) Kp fun x66 =>
      opN Try.prog (sCall (fn 38) [v1]) Kp fun x68 =>
      loop1 (fun I2 m2 _ y15 =>
       opN Try.prog (sBin .lss 3 y15 v2) Kp fun x71 =>
       gdK x71 true (fun k => k y15) fun x73 =>
       gdK x71 true (opN Try.prog (sBin .lss 3 x73 (.int .i64 60)) Kp) fun x74 =>
       opN Try.prog (sPick x71 x74 (.bool false)) Kp fun x75 =>
       condS x75
       (opN Try.prog (sCall (fn 39) [x26, x66]) Kp fun x81 =>
        opN Try.prog (sExt x81 0) Kp fun x82 =>
        opN Try.prog (sExt x81 1) Kp fun x83 =>
        opN Try.prog (sCall (fn 40) [x31, x68]) Kp fun x87 =>
        opN Try.prog (sExt x87 0) Kp fun x88 =>
        opN Try.prog (sExt x87 1) Kp fun x89 =>
        opN Try.prog (sEq .neq 3 (.tmp 90) (.tmp 91) x82 x88) Kp fun x92 =>
        gdK x92 false (fun k => k x83) fun x94 =>
        gdK x92 false (opN Try.prog (sCall (fn 18) [x94]) Kp) fun x95 =>
        gdK x92 false (fun k => k x89) fun x96 =>
        gdK x92 false (opN Try.prog (sEq .neq 3 (.tmp 95) (.tmp 96) x95 x96) Kp) fun x97 =>
        opN Try.prog (sPick x92 (.bool true) x97) Kp fun x98 =>
        gdK x98 false (fun k => k x66) fun x100 =>
        gdK x98 false (opN Try.prog (sCall (fn 41) [x100]) Kp) fun x101 =>
        gdK x98 false (fun k => k x68) fun x102 =>
        gdK x98 false (opN Try.prog (sCall (fn 42) [x102]) Kp) fun x103 =>
        gdK x98 false (opN Try.prog (sEq .neq 3 (.tmp 101) (.tmp 103) x101 x103) Kp) fun x104 =>
        opN Try.prog (sPick x98 (.bool true) x104) Kp fun x105 =>
        condS x105
        (K (.bool false))
        (opN Try.prog (sBin .add 3 y15 (.int .i64 1)) Kp fun x77 =>
         next1 I2 m2 x77))
       (K (.bool true))) (.int .i64 0))) (.int .i64 0)))
def law03_HuffReads_an : Ann := { cuts := [], blks := [], loops := [(9, [12]), (15, [15])], drs := [] }
theorem law03_HuffReads_eq (v0 v1 v2 : Value) (Kp : PK) (K : Value → WP) : cevF Try.prog law03_HuffReads_an Try.f12 [v0, v1, v2] Kp K = law03_HuffReads v0 v1 v2 Kp K := by kernel_rfl
theorem law03_HuffReads_calls {v0 v1 v2 : Value} {Kp : PK} {K : Value → WP} {w : World} (h : law03_HuffReads v0 v1 v2 Kp K w) : Calls Try.prog 12 #[v0, v1, v2] w (after Kp K) :=
  calls_of_shape (calls_of_cev wide Try.func12 (an := law03_HuffReads_an) (args := [v0, v1, v2]) (cast (congrFun (law03_HuffReads_eq v0 v1 v2 Kp K) w).symm h))
theorem law03_HuffReads_cn {v0 v1 v2 : Value} {W : World} {α : Type} {A : List HP} {r : α → Value} {B : α → List HP} (h : ∀ F, Ent W (A ++ F) (law03_HuffReads v0 v1 v2 noP fun v w => ∃ x, v = r x ∧ sat W (B x ++ F) w)) : Cn Try.prog 12 [v0, v1, v2] W A r B :=
  Cn.of (shape := law03_HuffReads v0 v1 v2) Try.call12 (fun h => law03_HuffReads_calls h) h
theorem law03_HuffReads_cnP {v0 v1 v2 : Value} {W : World} {α β : Type} {A : List HP} {r : α → Value} {B : α → List HP} {pc : β → List PanicEntry} {Bp : β → List HP} (h : ∀ F, Ent W (A ++ F) (law03_HuffReads v0 v1 v2 (fun ch w => ∃ y, ch = pc y ∧ sat W (Bp y ++ F) w) fun v w => ∃ x, v = r x ∧ sat W (B x ++ F) w)) : CnP Try.prog 12 [v0, v1, v2] W A r B pc Bp :=
  CnP.of (shape := law03_HuffReads v0 v1 v2) Try.call12 (fun h => law03_HuffReads_calls h) h

/-- law03_HuffNil -/
def law03_HuffNil (v0 v1 : Value) (Kp : PK) (K : Value → WP) : WP :=
  loop2 (fun I1 m1 _ y5 y6 =>
   opN Try.prog (sBin .lss 3 y6 (.int .i64 2)) Kp fun x14 =>
   condS x14
   (opN Try.prog (sCall (fn 37) [v0]) Kp fun x20 =>
    opN Try.prog (sCall (fn 39) [y5, x20]) Kp fun x21 =>
    opN Try.prog (sExt x21 0) Kp fun x22 =>
    opN Try.prog (sExt x21 1) Kp fun x23 =>
    opN Try.prog (sEq .neq 3 (.tmp 24) (.const (.int .i64 0)) x22 (.int .i64 0)) Kp fun x25 =>
    gdK x25 false (fun k => k x23) fun x27 =>
    gdK x25 false (opN Try.prog (sCall (fn 18) [x27]) Kp) fun x28 =>
    gdK x25 false (opN Try.prog (sEq .neq 3 (.tmp 28) (.const (.int .i64 1)) x28 (.int .i64 1)) Kp) fun x29 =>
    opN Try.prog (sPick x25 (.bool true) x29) Kp fun x30 =>
    condS x30
    (K (.bool false))
    (opN Try.prog (sBuild 82 []) Kp fun x31 =>
     opN Try.prog (sBox 82 x31) Kp fun x32 =>
     opN Try.prog (sBin .add 3 y6 (.int .i64 1)) Kp fun x16 =>
     next2 I1 m1 x32 x16))
   (opN Try.prog (sBuildSl 22 2 [(0, (.int .i64 1)), (1, (.int .i64 1))]) Kp fun x34 =>
    opN Try.prog (sCall (fn 35) [x34]) Kp fun x35 =>
    opN Try.prog (sExt x35 0) Kp fun x36 =>
    opN Try.prog (sExt x35 1) Kp fun x37 =>
    opN Try.prog (sCall (fn 18) [x37]) Kp fun x39 =>
    opN Try.prog (sEq .neq 3 (.tmp 39) (.const (.int .i64 0)) x39 (.int .i64 0)) Kp fun x40 =>
    gdK x40 false (fun k => k x36) fun x42 =>
    gdK x40 false (opN Try.prog (sEq .eql 64 (.tmp 42) (.const (.pointer none)) x42 (.pointer none)) Kp) fun x43 =>
    opN Try.prog (sPick x40 (.bool true) x43) Kp fun x44 =>
    condS x44
    (K (.bool false))
    (opN Try.prog (sCall (fn 39) [x36, (.pointer none)]) Kp fun x47 =>
     opN Try.prog (sExt x47 0) Kp fun x48 =>
     opN Try.prog (sExt x47 1) Kp fun x49 =>
     opN Try.prog (sCall (fn 18) [x49]) Kp fun x51 =>
     opN Try.prog (sEq .eql 3 (.tmp 51) (.const (.int .i64 1)) x51 (.int .i64 1)) Kp fun x52 =>
     gdK x52 true (fun k => k v1) fun x54 =>
     gdK x52 true (fun k => k v1) fun x55 =>
     gdK x52 true (opN Try.prog (sCall (fn 31) [(.pointer none), x54, x55, (.int .i64 0)]) Kp) fun x56 =>
     gdK x52 true (opN Try.prog (sCall (fn 18) [x56]) Kp) fun x57 =>
     gdK x52 true (opN Try.prog (sEq .eql 3 (.tmp 57) (.const (.int .i64 1)) x57 (.int .i64 1)) Kp) fun x58 =>
     opN Try.prog (sPick x52 x58 (.bool false)) Kp fun x59 =>
     gdK x59 true (opN Try.prog (sCall (fn 19) []) Kp) fun x61 =>
     opN Try.prog (sPick x59 x61 (.bool false)) Kp fun x62 =>
     K x62))) (.pointer none) (.int .i64 0)
def law03_HuffNil_an : Ann := { cuts := [], blks := [], loops := [(3, [5, 6])], drs := [] }
theorem law03_HuffNil_eq (v0 v1 : Value) (Kp : PK) (K : Value → WP) : cevF Try.prog law03_HuffNil_an Try.f13 [v0, v1] Kp K = law03_HuffNil v0 v1 Kp K := by kernel_rfl
theorem law03_HuffNil_calls {v0 v1 : Value} {Kp : PK} {K : Value → WP} {w : World} (h : law03_HuffNil v0 v1 Kp K w) : Calls Try.prog 13 #[v0, v1] w (after Kp K) :=
  calls_of_shape (calls_of_cev wide Try.func13 (an := law03_HuffNil_an) (args := [v0, v1]) (cast (congrFun (law03_HuffNil_eq v0 v1 Kp K) w).symm h))
theorem law03_HuffNil_cn {v0 v1 : Value} {W : World} {α : Type} {A : List HP} {r : α → Value} {B : α → List HP} (h : ∀ F, Ent W (A ++ F) (law03_HuffNil v0 v1 noP fun v w => ∃ x, v = r x ∧ sat W (B x ++ F) w)) : Cn Try.prog 13 [v0, v1] W A r B :=
  Cn.of (shape := law03_HuffNil v0 v1) Try.call13 (fun h => law03_HuffNil_calls h) h
theorem law03_HuffNil_cnP {v0 v1 : Value} {W : World} {α β : Type} {A : List HP} {r : α → Value} {B : α → List HP} {pc : β → List PanicEntry} {Bp : β → List HP} (h : ∀ F, Ent W (A ++ F) (law03_HuffNil v0 v1 (fun ch w => ∃ y, ch = pc y ∧ sat W (Bp y ++ F) w) fun v w => ∃ x, v = r x ∧ sat W (B x ++ F) w)) : CnP Try.prog 13 [v0, v1] W A r B pc Bp :=
  CnP.of (shape := law03_HuffNil v0 v1) Try.call13 (fun h => law03_HuffNil_calls h) h

/-- law03_HuffDecoded -/
def law03_HuffDecoded (v0 v1 : Value) (Kp : PK) (K : Value → WP) : WP :=
  opN Try.prog (sCall (fn 20) [v0]) Kp fun x18 =>
  opN Try.prog (sExt x18 0) Kp fun x19 =>
  opN Try.prog (sExt x18 1) Kp fun x20 =>
  opN Try.prog (sCall (fn 35) [v0]) Kp fun x23 =>
  opN Try.prog (sExt x23 0) Kp fun x24 =>
  opN Try.prog (sExt x23 1) Kp fun x25 =>
  opN Try.prog (sCall (fn 18) [x20]) Kp fun x27 =>
  opN Try.prog (sEq .neq 3 (.tmp 27) (.const (.int .i64 0)) x27 (.int .i64 0)) Kp fun x28 =>
  gdK x28 false (fun k => k x25) fun x30 =>
  gdK x28 false (opN Try.prog (sCall (fn 18) [x30]) Kp) fun x31 =>
  gdK x28 false (opN Try.prog (sEq .neq 3 (.tmp 31) (.const (.int .i64 0)) x31 (.int .i64 0)) Kp) fun x32 =>
  opN Try.prog (sPick x28 (.bool true) x32) Kp fun x33 =>
  gdK x33 false (opN Try.prog (sCall (fn 19) []) Kp) fun x35 =>
  gdK x33 false (opN Try.prog (sUn .not x35) Kp) fun x36 =>
  opN Try.prog (sPick x33 (.bool true) x36) Kp fun x37 =>
  condS x37
  (opN Try.prog (sCall (fn 18) [x20]) Kp fun x39 =>
   opN Try.prog (sCall (fn 18) [x25]) Kp fun x41 =>
   opN Try.prog (sEq .eql 3 (.tmp 39) (.tmp 41) x39 x41) Kp fun x42 =>
   gdK x42 true (fun k => k x19) fun x44 =>
   gdK x42 true (opN Try.prog (sLen #[22] 3 [x44]) Kp) fun x45 =>
   gdK x42 true (opN Try.prog (sEq .eql 3 (.tmp 45) (.const (.int .i64 0)) x45 (.int .i64 0)) Kp) fun x46 =>
   opN Try.prog (sPick x42 x46 (.bool false)) Kp fun x47 =>
   gdK x47 true (fun k => k x24) fun x49 =>
   gdK x47 true (opN Try.prog (sEq .eql 64 (.tmp 49) (.const (.pointer none)) x49 (.pointer none)) Kp) fun x50 =>
   opN Try.prog (sPick x47 x50 (.bool false)) Kp fun x51 =>
   gdK x51 true (opN Try.prog (sCall (fn 19) []) Kp) fun x53 =>
   opN Try.prog (sPick x51 x53 (.bool false)) Kp fun x54 =>
   K x54)
  (opN Try.prog (sEq .eql 64 (.tmp 55) (.const (.pointer none)) x24 (.pointer none)) Kp fun x56 =>
   gdK x56 false (fun k => k x19) fun x58 =>
   gdK x56 false (opN Try.prog (sLen #[22] 3 [x58]) Kp) fun x59 =>
   gdK x56 false (fun k => k v0) fun x60 =>
   gdK x56 false (opN Try.prog (sLen #[22] 3 [x60]) Kp) fun x61 =>
   gdK x56 false (opN Try.prog (sEq .neq 3 (.tmp 59) (.tmp 61) x59 x61) Kp) fun x62 =>
   opN Try.prog (sPick x56 (.bool true) x62) Kp fun x63 =>
   condS x63
   (K (.bool false))
   (opN Try.prog (sCall (fn 30) []) Kp fun x64 =>
    loop2 (fun I1 m1 _ y10 y11 =>
     opN Try.prog (sLen #[22] 3 [v1]) Kp fun x67 =>
     opN Try.prog (sBin .lss 3 y11 x67) Kp fun x68 =>
     gdK x68 true (fun k => k y11) fun x70 =>
     gdK x68 true (opN Try.prog (sBin .lss 3 x70 (.int .i64 1000)) Kp) fun x71 =>
     opN Try.prog (sPick x68 x71 (.bool false)) Kp fun x72 =>
     condS x72
     (opN Try.prog (sIA 22 v1 y11) Kp fun x80 =>
      opN Try.prog (sLoad 3 x80) Kp fun x81 =>
      opN Try.prog (sCall (fn 31) [x64, x19, v0, x81]) Kp fun x82 =>
      opN Try.prog (sCall (fn 18) [x82]) Kp fun x83 =>
      opN Try.prog (sEq .eql 3 (.tmp 83) (.const (.int .i64 0)) x83 (.int .i64 0)) Kp fun x84 =>
      condS x84
      (opN Try.prog (sIA 22 v1 y11) Kp fun x88 =>
       opN Try.prog (sLoad 3 x88) Kp fun x89 =>
       opN Try.prog (sBuildSl 22 1 [(0, x89)]) Kp fun x90 =>
       opN Try.prog (sApp #[22, 22] 22 [y10, x90]) Kp fun x91 =>
       opN Try.prog (sBin .add 3 y11 (.int .i64 1)) Kp fun x74 =>
       next2 I1 m1 x91 x74)
      (opN Try.prog (sBin .add 3 y11 (.int .i64 1)) Kp fun x74 =>
       next2 I1 m1 y10 x74))
     (opN Try.prog (sCall (fn 33) [x64]) Kp fun x93 =>
      opN Try.prog (sCall (fn 37) [x93]) Kp fun x94 =>
      loop1 (fun I2 m2 _ y13 =>
       opN Try.prog (sLen #[22] 3 [y10]) Kp fun x97 =>
       opN Try.prog (sBin .lss 3 y13 x97) Kp fun x98 =>
       condS x98
       (opN Try.prog (sCall (fn 39) [x24, x94]) Kp fun x104 =>
        opN Try.prog (sExt x104 0) Kp fun x105 =>
        opN Try.prog (sExt x104 1) Kp fun x106 =>
        opN Try.prog (sCall (fn 18) [x106]) Kp fun x108 =>
        opN Try.prog (sEq .neq 3 (.tmp 108) (.const (.int .i64 0)) x108 (.int .i64 0)) Kp fun x109 =>
        gdK x109 false (fun k => k x105) fun x111 =>
        gdK x109 false (fun k => k y10) fun x112 =>
        gdK x109 false (fun k => k y13) fun x113 =>
        gdK x109 false (opN Try.prog (sIA 22 x112 x113) Kp) fun x114 =>
        gdK x109 false (opN Try.prog (sLoad 3 x114) Kp) fun x115 =>
        gdK x109 false (opN Try.prog (sEq .neq 3 (.tmp 111) (.tmp 115) x111 x115) Kp) fun x116 =>
        opN Try.prog (sPick x109 (.bool true) x116) Kp fun x117 =>
        condS x117
        (K (.bool false))
        (opN Try.prog (sBin .add 3 y13 (.int .i64 1)) Kp fun x100 =>
         next1 I2 m2 x100))
       (opN Try.prog (sCall (fn 41) [x94]) Kp fun x119 =>
        opN Try.prog (sBin .lss 3 x119 (.int .i64 8)) Kp fun x120 =>
        K x120)) (.int .i64 0))) (.slice none 0 0) (.int .i64 0)))
def law03_HuffDecoded_an : Ann := { cuts := [], blks := [], loops := [(10, [10, 11]), (16, [13])], drs := [] }
theorem law03_HuffDecoded_eq (v0 v1 : Value) (Kp : PK) (K : Value → WP) : cevF Try.prog law03_HuffDecoded_an Try.f14 [v0, v1] Kp K = law03_HuffDecoded v0 v1 Kp K := by kernel_rfl
theorem law03_HuffDecoded_calls {v0 v1 : Value} {Kp : PK} {K : Value → WP} {w : World} (h : law03_HuffDecoded v0 v1 Kp K w) : Calls Try.prog 14 #[v0, v1] w (after Kp K) :=
  calls_of_shape (calls_of_cev wide Try.func14 (an := law03_HuffDecoded_an) (args := [v0, v1]) (cast (congrFun (law03_HuffDecoded_eq v0 v1 Kp K) w).symm h))
theorem law03_HuffDecoded_cn {v0 v1 : Value} {W : World} {α : Type} {A : List HP} {r : α → Value} {B : α → List HP} (h : ∀ F, Ent W (A ++ F) (law03_HuffDecoded v0 v1 noP fun v w => ∃ x, v = r x ∧ sat W (B x ++ F) w)) : Cn Try.prog 14 [v0, v1] W A r B :=
  Cn.of (shape := law03_HuffDecoded v0 v1) Try.call14 (fun h => law03_HuffDecoded_calls h) h
theorem law03_HuffDecoded_cnP {v0 v1 : Value} {W : World} {α β : Type} {A : List HP} {r : α → Value} {B : α → List HP} {pc : β → List PanicEntry} {Bp : β → List HP} (h : ∀ F, Ent W (A ++ F) (law03_HuffDecoded v0 v1 (fun ch w => ∃ y, ch = pc y ∧ sat W (Bp y ++ F) w) fun v w => ∃ x, v = r x ∧ sat W (B x ++ F) w)) : CnP Try.prog 14 [v0, v1] W A r B pc Bp :=
  CnP.of (shape := law03_HuffDecoded v0 v1) Try.call14 (fun h => law03_HuffDecoded_calls h) h

/-- huff_Lengths -/
def huff_Lengths (v0 v1 : Value) (Kp : PK) (K : Value → WP) : WP :=
  opN Try.prog (sLen #[22] 3 [v0]) Kp fun x18 =>
  opN Try.prog (sBin .gtr 3 x18 (.int .i64 320)) Kp fun x19 =>
  gdK x19 false (fun k => k v1) fun x21 =>
  gdK x19 false (opN Try.prog (sBin .lss 3 x21 (.int .i64 1)) Kp) fun x22 =>
  opN Try.prog (sPick x19 (.bool true) x22) Kp fun x23 =>
  gdK x23 false (fun k => k v1) fun x25 =>
  gdK x23 false (opN Try.prog (sBin .gtr 3 x25 (.int .i64 15)) Kp) fun x26 =>
  opN Try.prog (sPick x23 (.bool true) x26) Kp fun x27 =>
  condS x27
  (K (.tuple #[(.slice none 0 0), (.int .i64 1)]))
  (opN Try.prog (sLen #[22] 3 [v0]) Kp fun x29 =>
   loop2 (fun I1 m1 _ y6 y30 =>
    opN Try.prog (sBin .lss 3 y30 x29) Kp fun x31 =>
    condS x31
    (opN Try.prog (sIA 22 v0 y30) Kp fun x33 =>
     opN Try.prog (sLoad 3 x33) Kp fun x34 =>
     opN Try.prog (sBin .lss 3 x34 (.int .i64 0)) Kp fun x36 =>
     gdK x36 false (fun k => k x34) fun x38 =>
     gdK x36 false (opN Try.prog (sBin .gtr 3 x38 (.int .i64 1099511627776)) Kp) fun x39 =>
     opN Try.prog (sPick x36 (.bool true) x39) Kp fun x40 =>
     condS x40
     (K (.tuple #[(.slice none 0 0), (.int .i64 1)]))
     (opN Try.prog (sBin .gtr 3 x34 (.int .i64 0)) Kp fun x42 =>
      condS x42
      (opN Try.prog (sBuildSl 22 1 [(0, y30)]) Kp fun x46 =>
       opN Try.prog (sBuild 86 [(0, x34), (1, x46)]) Kp fun x47 =>
       opN Try.prog (sBuildSl 84 1 [(0, x47)]) Kp fun x48 =>
       opN Try.prog (sApp #[84, 84] 84 [y6, x48]) Kp fun x49 =>
       opN Try.prog (sBin .add 3 y30 (.int .i64 1)) Kp fun x50 =>
       next2 I1 m1 x49 x50)
      (opN Try.prog (sBin .add 3 y30 (.int .i64 1)) Kp fun x50 =>
       next2 I1 m1 y6 x50)))
    (opN Try.prog (sLen #[84] 3 [y6]) Kp fun x52 =>
     opN Try.prog (sConv 3 33 v1) Kp fun x55 =>
     opN Try.prog (sBin .shl 3 (.int .i64 1) x55) Kp fun x56 =>
     opN Try.prog (sBin .gtr 3 x52 x56) Kp fun x57 =>
     condS x57
     (K (.tuple #[(.slice none 0 0), (.int .i64 1)]))
     (opN Try.prog (sLen #[22] 3 [v0]) Kp fun x59 =>
      opN Try.prog (sMkSl 22 x59 x59) Kp fun x60 =>
      opN Try.prog (sEq .eql 3 (.tmp 61) (.const (.int .i64 1)) x52 (.int .i64 1)) Kp fun x62 =>
      condS x62
      (opN Try.prog (sIA 84 y6 (.int .i64 0)) Kp fun x65 =>
       opN Try.prog (sFA 86 x65 1) Kp fun x66 =>
       opN Try.prog (sLoad 22 x66) Kp fun x67 =>
       opN Try.prog (sIA 22 x67 (.int .i64 0)) Kp fun x68 =>
       opN Try.prog (sLoad 3 x68) Kp fun x69 =>
       opN Try.prog (sIA 22 x60 x69) Kp fun x70 =>
       opN Try.prog (sStore 3 x70 (.int .i64 1)) Kp fun _ =>
       K (.tuple #[x60, (.int .i64 0)]))
      (opN Try.prog (sCall (fn 43) [y6, (fn 44)]) Kp fun x73 =>
       opN Try.prog (sBin .sub 3 v1 (.int .i64 1)) Kp fun x76 =>
       loop2 (fun I2 m2 _ y11 y77 =>
        opN Try.prog (sBin .lss 3 y77 x76) Kp fun x78 =>
        condS x78
        (loop2 (fun I3 m3 _ y12 y13 =>
          opN Try.prog (sBin .add 3 y13 (.int .i64 1)) Kp fun x80 =>
          opN Try.prog (sLen #[84] 3 [y11]) Kp fun x82 =>
          opN Try.prog (sBin .lss 3 x80 x82) Kp fun x83 =>
          condS x83
          (drS (stD Try.prog (sIA 84 y11 y13) fun D3 x89 =>
            stD Try.prog (sFA 86 x89 0) fun D4 x90 =>
            stD Try.prog (sLoad 3 x90) fun D5 x91 =>
            stD Try.prog (sBin .add 3 y13 (.int .i64 1)) fun D8 x94 =>
            stD Try.prog (sIA 84 y11 x94) fun D9 x95 =>
            stD Try.prog (sFA 86 x95 0) fun D10 x96 =>
            stD Try.prog (sLoad 3 x96) fun D11 x97 =>
            stD Try.prog (sBin .add 3 x91 x97) fun D12 x98 =>
            stS Try.prog (sIA 84 y11 y13) fun x101 =>
            stS Try.prog (sFA 86 x101 1) fun x102 =>
            stS Try.prog (sLoad 22 x102) fun x103 =>
            stS Try.prog (sBin .add 3 y13 (.int .i64 1)) fun x106 =>
            stS Try.prog (sIA 84 y11 x106) fun x107 =>
            stS Try.prog (sFA 86 x107 1) fun x108 =>
            stS Try.prog (sLoad 22 x108) fun x109 =>
            opN Try.prog (sBuildSl 122 2 [(0, x103), (1, x109)]) Kp fun x110 =>
            (fun w => D12 w ∧ (fun w => D11 w ∧ (fun w => D10 w ∧ (fun w => D9 w ∧ (fun w => D8 w ∧ (fun w => D5 w ∧ (fun w => D4 w ∧ (fun w => D3 w ∧ (opN Try.prog (sCall (fn 46) [x110]) Kp fun x111 =>
                     (fun w => D12 w ∧ (fun w => D11 w ∧ (fun w => D10 w ∧ (fun w => D9 w ∧ (fun w => D8 w ∧ (fun w => D5 w ∧ (fun w => D4 w ∧ (fun w => D3 w ∧ (stS Try.prog (sBuild 86 [(0, x98), (1, x111)]) fun x112 =>
                      opN Try.prog (sBuildSl 84 1 [(0, x112)]) Kp fun x113 =>
                      opN Try.prog (sApp #[84, 84] 84 [y12, x113]) Kp fun x114 =>
                      opN Try.prog (sBin .add 3 y13 (.int .i64 2)) Kp fun x85 =>
                      next2 I3 m3 x114 x85) w) w) w) w) w) w) w) w)) w) w) w) w) w) w) w) w)))
          (opN Try.prog (sCall (fn 47) [y6, y12]) Kp fun x117 =>
           opN Try.prog (sBin .add 3 y77 (.int .i64 1)) Kp fun x118 =>
           next2 I2 m2 x117 x118)) (.slice none 0 0) (.int .i64 0))
        (loop1 (fun I4 m4 _ y14 =>
          opN Try.prog (sBin .mul 3 (.int .i64 2) x52) Kp fun x121 =>
          opN Try.prog (sBin .sub 3 x121 (.int .i64 2)) Kp fun x122 =>
          opN Try.prog (sBin .lss 3 y14 x122) Kp fun x123 =>
          condS x123
          (opN Try.prog (sIA 84 y11 y14) Kp fun x128 =>
           opN Try.prog (sFA 86 x128 1) Kp fun x129 =>
           opN Try.prog (sLoad 22 x129) Kp fun x130 =>
           opN Try.prog (sLen #[22] 3 [x130]) Kp fun x131 =>
           loop1 (fun I5 m5 _ y132 =>
            opN Try.prog (sBin .lss 3 y132 x131) Kp fun x133 =>
            condS x133
            (opN Try.prog (sIA 22 x130 y132) Kp fun x134 =>
             opN Try.prog (sLoad 3 x134) Kp fun x135 =>
             opN Try.prog (sIA 22 x60 x135) Kp fun x138 =>
             opN Try.prog (sLoad 3 x138) Kp fun x139 =>
             opN Try.prog (sBin .add 3 x139 (.int .i64 1)) Kp fun x140 =>
             opN Try.prog (sIA 22 x60 x135) Kp fun x141 =>
             opN Try.prog (sStore 3 x141 x140) Kp fun _ =>
             opN Try.prog (sBin .add 3 y132 (.int .i64 1)) Kp fun x142 =>
             next1 I5 m5 x142)
            (opN Try.prog (sBin .add 3 y14 (.int .i64 1)) Kp fun x125 =>
             next1 I4 m4 x125)) (.int .i64 0))
          (K (.tuple #[x60, (.int .i64 0)]))) (.int .i64 0))) y6 (.int .i64 0))))) (.slice none 0 0) (.int .i64 0))
def huff_Lengths_an : Ann := { cuts := [], blks := [], loops := [(5, [6, 30]), (22, [11, 77]), (25, [12, 13]), (31, [14]), (34, [132])], drs := [(27, [(0, 2), (1, 2), (2, 2), (3, 3), (4, 3), (5, 3), (6, 2), (7, 2), (8, 3), (9, 3), (10, 3), (11, 3), (12, 3), (13, 1), (14, 1), (15, 1), (16, 1), (17, 1), (18, 1), (19, 1), (20, 1), (21, 1), (22, 1), (23, 1), (24, 0), (25, 0), (26, 1), (27, 0), (28, 0), (29, 1)])] }
theorem huff_Lengths_eq (v0 v1 : Value) (Kp : PK) (K : Value → WP) : cevF Try.prog huff_Lengths_an Try.f15 [v0, v1] Kp K = huff_Lengths v0 v1 Kp K := by kernel_rfl
theorem huff_Lengths_calls {v0 v1 : Value} {Kp : PK} {K : Value → WP} {w : World} (h : huff_Lengths v0 v1 Kp K w) : Calls Try.prog 15 #[v0, v1] w (after Kp K) :=
  calls_of_shape (calls_of_cev wide Try.func15 (an := huff_Lengths_an) (args := [v0, v1]) (cast (congrFun (huff_Lengths_eq v0 v1 Kp K) w).symm h))
theorem huff_Lengths_cn {v0 v1 : Value} {W : World} {α : Type} {A : List HP} {r : α → Value} {B : α → List HP} (h : ∀ F, Ent W (A ++ F) (huff_Lengths v0 v1 noP fun v w => ∃ x, v = r x ∧ sat W (B x ++ F) w)) : Cn Try.prog 15 [v0, v1] W A r B :=
  Cn.of (shape := huff_Lengths v0 v1) Try.call15 (fun h => huff_Lengths_calls h) h
theorem huff_Lengths_cnP {v0 v1 : Value} {W : World} {α β : Type} {A : List HP} {r : α → Value} {B : α → List HP} {pc : β → List PanicEntry} {Bp : β → List HP} (h : ∀ F, Ent W (A ++ F) (huff_Lengths v0 v1 (fun ch w => ∃ y, ch = pc y ∧ sat W (Bp y ++ F) w) fun v w => ∃ x, v = r x ∧ sat W (B x ++ F) w)) : CnP Try.prog 15 [v0, v1] W A r B pc Bp :=
  CnP.of (shape := huff_Lengths v0 v1) Try.call15 (fun h => huff_Lengths_calls h) h

/-- ref03_Lengths -/
def ref03_Lengths (v0 v1 : Value) (Kp : PK) (K : Value → WP) : WP :=
  opN Try.prog (sLen #[22] 3 [v0]) Kp fun x17 =>
  opN Try.prog (sBin .gtr 3 x17 (.int .i64 320)) Kp fun x18 =>
  gdK x18 false (fun k => k v1) fun x20 =>
  gdK x18 false (opN Try.prog (sBin .lss 3 x20 (.int .i64 1)) Kp) fun x21 =>
  opN Try.prog (sPick x18 (.bool true) x21) Kp fun x22 =>
  gdK x22 false (fun k => k v1) fun x24 =>
  gdK x22 false (opN Try.prog (sBin .gtr 3 x24 (.int .i64 15)) Kp) fun x25 =>
  opN Try.prog (sPick x22 (.bool true) x25) Kp fun x26 =>
  condS x26
  (K (.tuple #[(.slice none 0 0), (.int .i64 1)]))
  (loop2 (fun I1 m1 _ y6 y7 =>
    opN Try.prog (sLen #[22] 3 [v0]) Kp fun x29 =>
    opN Try.prog (sBin .lss 3 y7 x29) Kp fun x30 =>
    condS x30
    (opN Try.prog (sIA 22 v0 y7) Kp fun x35 =>
     opN Try.prog (sLoad 3 x35) Kp fun x36 =>
     opN Try.prog (sBin .lss 3 x36 (.int .i64 0)) Kp fun x37 =>
     gdK x37 false (fun k => k v0) fun x39 =>
     gdK x37 false (fun k => k y7) fun x40 =>
     gdK x37 false (opN Try.prog (sIA 22 x39 x40) Kp) fun x41 =>
     gdK x37 false (opN Try.prog (sLoad 3 x41) Kp) fun x42 =>
     gdK x37 false (opN Try.prog (sBin .gtr 3 x42 (.int .i64 1099511627776)) Kp) fun x43 =>
     opN Try.prog (sPick x37 (.bool true) x43) Kp fun x44 =>
     condS x44
     (K (.tuple #[(.slice none 0 0), (.int .i64 1)]))
     (opN Try.prog (sIA 22 v0 y7) Kp fun x47 =>
      opN Try.prog (sLoad 3 x47) Kp fun x48 =>
      opN Try.prog (sBin .gtr 3 x48 (.int .i64 0)) Kp fun x49 =>
      condS x49
      (opN Try.prog (sBin .add 3 y6 (.int .i64 1)) Kp fun x51 =>
       opN Try.prog (sBin .add 3 y7 (.int .i64 1)) Kp fun x32 =>
       next2 I1 m1 x51 x32)
      (opN Try.prog (sBin .add 3 y7 (.int .i64 1)) Kp fun x32 =>
       next2 I1 m1 y6 x32)))
    (opN Try.prog (sConv 3 33 v1) Kp fun x54 =>
     opN Try.prog (sBin .shl 3 (.int .i64 1) x54) Kp fun x55 =>
     opN Try.prog (sBin .gtr 3 y6 x55) Kp fun x56 =>
     condS x56
     (K (.tuple #[(.slice none 0 0), (.int .i64 1)]))
     (opN Try.prog (sLen #[22] 3 [v0]) Kp fun x58 =>
      opN Try.prog (sMkSl 22 x58 x58) Kp fun x59 =>
      opN Try.prog (sCall (fn 48) [v0]) Kp fun x61 =>
      opN Try.prog (sEq .eql 3 (.tmp 62) (.const (.int .i64 1)) y6 (.int .i64 1)) Kp fun x63 =>
      condS x63
      (opN Try.prog (sIA 92 x61 (.int .i64 0)) Kp fun x66 =>
       opN Try.prog (sFA 95 x66 1) Kp fun x67 =>
       opN Try.prog (sLoad 22 x67) Kp fun x68 =>
       opN Try.prog (sIA 22 x68 (.int .i64 0)) Kp fun x69 =>
       opN Try.prog (sLoad 3 x69) Kp fun x70 =>
       opN Try.prog (sIA 22 x59 x70) Kp fun x71 =>
       opN Try.prog (sStore 3 x71 (.int .i64 1)) Kp fun _ =>
       K (.tuple #[x59, (.int .i64 0)]))
      (loop2 (fun I2 m2 _ y10 y11 =>
        opN Try.prog (sBin .lss 3 y11 v1) Kp fun x76 =>
        condS x76
        (loop2 (fun I3 m3 _ y12 y13 =>
          opN Try.prog (sBin .add 3 y13 (.int .i64 1)) Kp fun x80 =>
          opN Try.prog (sLen #[92] 3 [y10]) Kp fun x82 =>
          opN Try.prog (sBin .lss 3 x80 x82) Kp fun x83 =>
          condS x83
          (drS (stD Try.prog (sIA 92 y10 y13) fun D3 x89 =>
            stD Try.prog (sFA 95 x89 0) fun D4 x90 =>
            stD Try.prog (sLoad 3 x90) fun D5 x91 =>
            stD Try.prog (sBin .add 3 y13 (.int .i64 1)) fun D8 x94 =>
            stD Try.prog (sIA 92 y10 x94) fun D9 x95 =>
            stD Try.prog (sFA 95 x95 0) fun D10 x96 =>
            stD Try.prog (sLoad 3 x96) fun D11 x97 =>
            stD Try.prog (sBin .add 3 x91 x97) fun D12 x98 =>
            stD Try.prog (sIA 92 y10 y13) fun D16 x102 =>
            stD Try.prog (sFA 95 x102 1) fun D17 x103 =>
            stD Try.prog (sLoad 22 x103) fun D18 x104 =>
            stD Try.prog (sBin .add 3 y13 (.int .i64 1)) fun D22 x108 =>
            stD Try.prog (sIA 92 y10 x108) fun D23 x109 =>
            stD Try.prog (sFA 95 x109 1) fun D24 x110 =>
            stD Try.prog (sLoad 22 x110) fun D25 x111 =>
            opN Try.prog (sBuildSl 22 0 []) Kp fun x99 =>
            (fun w => D25 w ∧ (fun w => D24 w ∧ (fun w => D23 w ∧ (fun w => D22 w ∧ (fun w => D18 w ∧ (fun w => D17 w ∧ (fun w => D16 w ∧ (fun w => D12 w ∧ (fun w => D11 w ∧ (fun w => D10 w ∧ (fun w => D9 w ∧ (fun w => D8 w ∧ (fun w => D5 w ∧ (fun w => D4 w ∧ (fun w => D3 w ∧ (opN Try.prog (sApp #[22, 22] 22 [x99, x104]) Kp fun x105 =>
                      (fun w => D25 w ∧ (fun w => D24 w ∧ (fun w => D23 w ∧ (fun w => D22 w ∧ (fun w => D12 w ∧ (fun w => D11 w ∧ (fun w => D10 w ∧ (fun w => D9 w ∧ (fun w => D8 w ∧ (fun w => D5 w ∧ (fun w => D4 w ∧ (fun w => D3 w ∧ (opN Try.prog (sApp #[22, 22] 22 [x105, x111]) Kp fun x112 =>
                      (fun w => D12 w ∧ (fun w => D11 w ∧ (fun w => D10 w ∧ (fun w => D9 w ∧ (fun w => D8 w ∧ (fun w => D5 w ∧ (fun w => D4 w ∧ (fun w => D3 w ∧ (stS Try.prog (sBuild 95 [(0, x98), (1, x112)]) fun x113 =>
                      opN Try.prog (sBuildSl 92 1 [(0, x113)]) Kp fun x114 =>
                      opN Try.prog (sApp #[92, 92] 92 [y12, x114]) Kp fun x115 =>
                      opN Try.prog (sBin .add 3 y13 (.int .i64 2)) Kp fun x85 =>
                      next2 I3 m3 x115 x85) w) w) w) w) w) w) w) w)) w) w) w) w) w) w) w) w) w) w) w) w)) w) w) w) w) w) w) w) w) w) w) w) w) w) w) w)))
          (opN Try.prog (sCall (fn 49) [x61, y12]) Kp fun x118 =>
           opN Try.prog (sBin .add 3 y11 (.int .i64 1)) Kp fun x78 =>
           next2 I2 m2 x118 x78)) (.slice none 0 0) (.int .i64 0))
        (loop1 (fun I4 m4 _ y14 =>
          opN Try.prog (sBin .mul 3 (.int .i64 2) y6) Kp fun x121 =>
          opN Try.prog (sBin .sub 3 x121 (.int .i64 2)) Kp fun x122 =>
          opN Try.prog (sBin .lss 3 y14 x122) Kp fun x123 =>
          condS x123
          (loop1 (fun I5 m5 _ y15 =>
            opN Try.prog (sIA 92 y10 y14) Kp fun x129 =>
            opN Try.prog (sFA 95 x129 1) Kp fun x130 =>
            opN Try.prog (sLoad 22 x130) Kp fun x131 =>
            opN Try.prog (sLen #[22] 3 [x131]) Kp fun x132 =>
            opN Try.prog (sBin .lss 3 y15 x132) Kp fun x133 =>
            condS x133
            (opN Try.prog (sIA 92 y10 y14) Kp fun x139 =>
             opN Try.prog (sFA 95 x139 1) Kp fun x140 =>
             opN Try.prog (sLoad 22 x140) Kp fun x141 =>
             opN Try.prog (sIA 22 x141 y15) Kp fun x143 =>
             opN Try.prog (sLoad 3 x143) Kp fun x144 =>
             opN Try.prog (sIA 22 x59 x144) Kp fun x145 =>
             opN Try.prog (sLoad 3 x145) Kp fun x146 =>
             opN Try.prog (sBin .add 3 x146 (.int .i64 1)) Kp fun x147 =>
             opN Try.prog (sIA 22 x59 x144) Kp fun x148 =>
             opN Try.prog (sStore 3 x148 x147) Kp fun _ =>
             opN Try.prog (sBin .add 3 y15 (.int .i64 1)) Kp fun x135 =>
             next1 I5 m5 x135)
            (opN Try.prog (sBin .add 3 y14 (.int .i64 1)) Kp fun x125 =>
             next1 I4 m4 x125)) (.int .i64 0))
          (K (.tuple #[x59, (.int .i64 0)]))) (.int .i64 0))) x61 (.int .i64 1))))) (.int .i64 0) (.int .i64 0))
def ref03_Lengths_an : Ann := { cuts := [], blks := [], loops := [(5, [6, 7]), (20, [10, 11]), (24, [12, 13]), (29, [14]), (32, [15])], drs := [(26, [(0, 2), (1, 2), (2, 2), (3, 3), (4, 3), (5, 3), (6, 2), (7, 2), (8, 3), (9, 3), (10, 3), (11, 3), (12, 3), (14, 2), (15, 2), (16, 3), (17, 3), (18, 3), (20, 2), (21, 2), (22, 3), (23, 3), (24, 3), (25, 3), (13, 0), (19, 0), (26, 0), (27, 1), (28, 0), (29, 0), (30, 1)])] }
theorem ref03_Lengths_eq (v0 v1 : Value) (Kp : PK) (K : Value → WP) : cevF Try.prog ref03_Lengths_an Try.f16 [v0, v1] Kp K = ref03_Lengths v0 v1 Kp K := by kernel_rfl
theorem ref03_Lengths_calls {v0 v1 : Value} {Kp : PK} {K : Value → WP} {w : World} (h : ref03_Lengths v0 v1 Kp K w) : Calls Try.prog 16 #[v0, v1] w (after Kp K) :=
  calls_of_shape (calls_of_cev wide Try.func16 (an := ref03_Lengths_an) (args := [v0, v1]) (cast (congrFun (ref03_Lengths_eq v0 v1 Kp K) w).symm h))
theorem ref03_Lengths_cn {v0 v1 : Value} {W : World} {α : Type} {A : List HP} {r : α → Value} {B : α → List HP} (h : ∀ F, Ent W (A ++ F) (ref03_Lengths v0 v1 noP fun v w => ∃ x, v = r x ∧ sat W (B x ++ F) w)) : Cn Try.prog 16 [v0, v1] W A r B :=
  Cn.of (shape := ref03_Lengths v0 v1) Try.call16 (fun h => ref03_Lengths_calls h) h
theorem ref03_Lengths_cnP {v0 v1 : Value} {W : World} {α β : Type} {A : List HP} {r : α → Value} {B : α → List HP} {pc : β → List PanicEntry} {Bp : β → List HP} (h : ∀ F, Ent W (A ++ F) (ref03_Lengths v0 v1 (fun ch w => ∃ y, ch = pc y ∧ sat W (Bp y ++ F) w) fun v w => ∃ x, v = r x ∧ sat W (B x ++ F) w)) : CnP Try.prog 16 [v0, v1] W A r B pc Bp :=
  CnP.of (shape := ref03_Lengths v0 v1) Try.call16 (fun h => ref03_Lengths_calls h) h

/-- law03_SameInts -/
def law03_SameInts (v0 v1 : Value) (Kp : PK) (K : Value → WP) : WP :=
  opN Try.prog (sLen #[22] 3 [v0]) Kp fun x7 =>
  opN Try.prog (sLen #[22] 3 [v1]) Kp fun x9 =>
  opN Try.prog (sEq .neq 3 (.tmp 7) (.tmp 9) x7 x9) Kp fun x10 =>
  condS x10
  (K (.bool false))
  (loop1 (fun I1 m1 _ y5 =>
    opN Try.prog (sLen #[22] 3 [v0]) Kp fun x13 =>
    opN Try.prog (sBin .lss 3 y5 x13) Kp fun x14 =>
    condS x14
    (drS (stS Try.prog (sIA 22 v0 y5) fun x19 =>
      stS Try.prog (sLoad 3 x19) fun x20 =>
      stS Try.prog (sIA 22 v1 y5) fun x23 =>
      stS Try.prog (sLoad 3 x23) fun x24 =>
      stS Try.prog (sEq .neq 3 (.tmp 20) (.tmp 24) x20 x24) fun x25 =>
      condS x25
      (K (.bool false))
      (opN Try.prog (sBin .add 3 y5 (.int .i64 1)) Kp fun x16 =>
       next1 I1 m1 x16)))
    (K (.bool true))) (.int .i64 0))
def law03_SameInts_an : Ann := { cuts := [], blks := [], loops := [(4, [5])], drs := [(6, [(0, 1), (1, 1), (2, 1), (3, 1), (4, 1), (5, 1), (6, 1), (7, 1), (8, 1)])] }
theorem law03_SameInts_eq (v0 v1 : Value) (Kp : PK) (K : Value → WP) : cevF Try.prog law03_SameInts_an Try.f17 [v0, v1] Kp K = law03_SameInts v0 v1 Kp K := by kernel_rfl
theorem law03_SameInts_calls {v0 v1 : Value} {Kp : PK} {K : Value → WP} {w : World} (h : law03_SameInts v0 v1 Kp K w) : Calls Try.prog 17 #[v0, v1] w (after Kp K) :=
  calls_of_shape (calls_of_cev wide Try.func17 (an := law03_SameInts_an) (args := [v0, v1]) (cast (congrFun (law03_SameInts_eq v0 v1 Kp K) w).symm h))
theorem law03_SameInts_cn {v0 v1 : Value} {W : World} {α : Type} {A : List HP} {r : α → Value} {B : α → List HP} (h : ∀ F, Ent W (A ++ F) (law03_SameInts v0 v1 noP fun v w => ∃ x, v = r x ∧ sat W (B x ++ F) w)) : Cn Try.prog 17 [v0, v1] W A r B :=
  Cn.of (shape := law03_SameInts v0 v1) Try.call17 (fun h => law03_SameInts_calls h) h
theorem law03_SameInts_cnP {v0 v1 : Value} {W : World} {α β : Type} {A : List HP} {r : α → Value} {B : α → List HP} {pc : β → List PanicEntry} {Bp : β → List HP} (h : ∀ F, Ent W (A ++ F) (law03_SameInts v0 v1 (fun ch w => ∃ y, ch = pc y ∧ sat W (Bp y ++ F) w) fun v w => ∃ x, v = r x ∧ sat W (B x ++ F) w)) : CnP Try.prog 17 [v0, v1] W A r B pc Bp :=
  CnP.of (shape := law03_SameInts v0 v1) Try.call17 (fun h => law03_SameInts_calls h) h

/-- law03_num -/
def law03_num (v0 : Value) (Kp : PK) (K : Value → WP) : WP :=
  K v0
def law03_num_an : Ann := { cuts := [], blks := [], loops := [], drs := [] }
theorem law03_num_eq (v0 : Value) (Kp : PK) (K : Value → WP) : cevF Try.prog law03_num_an Try.f18 [v0] Kp K = law03_num v0 Kp K := by kernel_rfl
theorem law03_num_calls {v0 : Value} {Kp : PK} {K : Value → WP} {w : World} (h : law03_num v0 Kp K w) : Calls Try.prog 18 #[v0] w (after Kp K) :=
  calls_of_shape (calls_of_cev wide Try.func18 (an := law03_num_an) (args := [v0]) (cast (congrFun (law03_num_eq v0 Kp K) w).symm h))
theorem law03_num_cn {v0 : Value} {W : World} {α : Type} {A : List HP} {r : α → Value} {B : α → List HP} (h : ∀ F, Ent W (A ++ F) (law03_num v0 noP fun v w => ∃ x, v = r x ∧ sat W (B x ++ F) w)) : Cn Try.prog 18 [v0] W A r B :=
  Cn.of (shape := law03_num v0) Try.call18 (fun h => law03_num_calls h) h
theorem law03_num_cnP {v0 : Value} {W : World} {α β : Type} {A : List HP} {r : α → Value} {B : α → List HP} {pc : β → List PanicEntry} {Bp : β → List HP} (h : ∀ F, Ent W (A ++ F) (law03_num v0 (fun ch w => ∃ y, ch = pc y ∧ sat W (Bp y ++ F) w) fun v w => ∃ x, v = r x ∧ sat W (B x ++ F) w)) : CnP Try.prog 18 [v0] W A r B pc Bp :=
  CnP.of (shape := law03_num v0) Try.call18 (fun h => law03_num_calls h) h

/-- law03_knows -/
def law03_knows (Kp : PK) (K : Value → WP) : WP :=
  opN Try.prog (sBuildSl 22 8 [(0, (.int .i64 3)), (1, (.int .i64 3)), (2, (.int .i64 3)), (3, (.int .i64 3)), (4, (.int .i64 3)), (5, (.int .i64 2)), (6, (.int .i64 4)), (7, (.int .i64 4))]) Kp fun x6 =>
  opN Try.prog (sCall (fn 20) [x6]) Kp fun x7 =>
  opN Try.prog (sExt x7 0) Kp fun x8 =>
  opN Try.prog (sExt x7 1) Kp fun x9 =>
  opN Try.prog (sBuildSl 22 4 [(0, (.int .i64 1)), (1, (.int .i64 1)), (2, (.int .i64 2)), (3, (.int .i64 4))]) Kp fun x11 =>
  opN Try.prog (sCall (fn 15) [x11, (.int .i64 15)]) Kp fun x12 =>
  opN Try.prog (sExt x12 0) Kp fun x13 =>
  opN Try.prog (sExt x12 1) Kp fun x14 =>
  opN Try.prog (sCall (fn 18) [x9]) Kp fun x16 =>
  opN Try.prog (sCall (fn 18) [x14]) Kp fun x18 =>
  opN Try.prog (sBin .add 3 x16 x18) Kp fun x19 =>
  opN Try.prog (sEq .eql 3 (.tmp 19) (.const (.int .i64 0)) x19 (.int .i64 0)) Kp fun x20 =>
  gdK x20 true (fun k => k x8) fun x22 =>
  gdK x20 true (opN Try.prog (sBuildSl 22 8 [(0, (.int .i64 2)), (1, (.int .i64 3)), (2, (.int .i64 4)), (3, (.int .i64 5)), (4, (.int .i64 6)), (5, (.int .i64 0)), (6, (.int .i64 14)), (7, (.int .i64 15))]) Kp) fun x23 =>
  gdK x20 true (opN Try.prog (sCall (fn 17) [x22, x23]) Kp) fun x24 =>
  opN Try.prog (sPick x20 x24 (.bool false)) Kp fun x25 =>
  gdK x25 true (fun k => k x13) fun x27 =>
  gdK x25 true (opN Try.prog (sBuildSl 22 4 [(0, (.int .i64 3)), (1, (.int .i64 3)), (2, (.int .i64 2)), (3, (.int .i64 1))]) Kp) fun x28 =>
  gdK x25 true (opN Try.prog (sCall (fn 17) [x27, x28]) Kp) fun x29 =>
  opN Try.prog (sPick x25 x29 (.bool false)) Kp fun x30 =>
  K x30
def law03_knows_an : Ann := { cuts := [], blks := [], loops := [], drs := [] }
theorem law03_knows_eq (Kp : PK) (K : Value → WP) : cevF Try.prog law03_knows_an Try.f19 [] Kp K = law03_knows Kp K := by kernel_rfl
theorem law03_knows_calls  {Kp : PK} {K : Value → WP} {w : World} (h : law03_knows Kp K w) : Calls Try.prog 19 #[] w (after Kp K) :=
  calls_of_shape (calls_of_cev wide Try.func19 (an := law03_knows_an) (args := []) (cast (congrFun (law03_knows_eq Kp K) w).symm h))
theorem law03_knows_cn  {W : World} {α : Type} {A : List HP} {r : α → Value} {B : α → List HP} (h : ∀ F, Ent W (A ++ F) (law03_knows noP fun v w => ∃ x, v = r x ∧ sat W (B x ++ F) w)) : Cn Try.prog 19 [] W A r B :=
  Cn.of (shape := law03_knows) Try.call19 (fun h => law03_knows_calls h) h
theorem law03_knows_cnP  {W : World} {α β : Type} {A : List HP} {r : α → Value} {B : α → List HP} {pc : β → List PanicEntry} {Bp : β → List HP} (h : ∀ F, Ent W (A ++ F) (law03_knows (fun ch w => ∃ y, ch = pc y ∧ sat W (Bp y ++ F) w) fun v w => ∃ x, v = r x ∧ sat W (B x ++ F) w)) : CnP Try.prog 19 [] W A r B pc Bp :=
  CnP.of (shape := law03_knows) Try.call19 (fun h => law03_knows_calls h) h

/-- huff_Codes -/
def huff_Codes (v0 : Value) (Kp : PK) (K : Value → WP) : WP :=
  opN Try.prog (sCall (fn 50) [v0]) Kp fun x13 =>
  opN Try.prog (sExt x13 0) Kp fun x14 =>
  opN Try.prog (sExt x13 1) Kp fun x15 =>
  opN Try.prog (sAlloc 97) Kp fun x4 =>
  opN Try.prog (sStore 97 x4 x14) Kp fun _ =>
  opN Try.prog (sUn .not x15) Kp fun x17 =>
  condS x17
  (K (.tuple #[(.slice none 0 0), (.int .i64 30)]))
  (opN Try.prog (sIA 97 x4 (.int .i64 0)) Kp fun x18 =>
   opN Try.prog (sStore 3 x18 (.int .i64 0)) Kp fun _ =>
   opN Try.prog (sAlloc 97) Kp fun x6 =>
   loop1 (fun I1 m1 _ y7 =>
    opN Try.prog (sBin .leq 3 y7 (.int .i64 15)) Kp fun x20 =>
    condS x20
    (drS (stS Try.prog (sBin .sub 3 y7 (.int .i64 1)) fun x25 =>
      stS Try.prog (sIA 97 x6 x25) fun x26 =>
      stS Try.prog (sLoad 3 x26) fun x27 =>
      stS Try.prog (sBin .sub 3 y7 (.int .i64 1)) fun x29 =>
      stS Try.prog (sIA 97 x4 x29) fun x30 =>
      stS Try.prog (sLoad 3 x30) fun x31 =>
      stS Try.prog (sBin .add 3 x27 x31) fun x32 =>
      stS Try.prog (sBin .shl 3 x32 (.int .u64 1)) fun x33 =>
      stS Try.prog (sIA 97 x6 y7) fun x34 =>
      opN Try.prog (sStore 3 x34 x33) Kp fun _ =>
      opN Try.prog (sBin .add 3 y7 (.int .i64 1)) Kp fun x22 =>
      next1 I1 m1 x22))
    (opN Try.prog (sLen #[22] 3 [v0]) Kp fun x36 =>
     opN Try.prog (sMkSl 22 x36 x36) Kp fun x37 =>
     opN Try.prog (sLen #[22] 3 [v0]) Kp fun x39 =>
     loop1 (fun I2 m2 _ y40 =>
      opN Try.prog (sBin .lss 3 y40 x39) Kp fun x41 =>
      condS x41
      (opN Try.prog (sIA 22 v0 y40) Kp fun x43 =>
       opN Try.prog (sLoad 3 x43) Kp fun x44 =>
       opN Try.prog (sBin .gtr 3 x44 (.int .i64 0)) Kp fun x46 =>
       condS x46
       (opN Try.prog (sIA 97 x6 x44) Kp fun x50 =>
        opN Try.prog (sLoad 3 x50) Kp fun x51 =>
        opN Try.prog (sIA 22 x37 y40) Kp fun x52 =>
        opN Try.prog (sStore 3 x52 x51) Kp fun _ =>
        opN Try.prog (sIA 97 x6 x44) Kp fun x54 =>
        opN Try.prog (sLoad 3 x54) Kp fun x55 =>
        opN Try.prog (sBin .add 3 x55 (.int .i64 1)) Kp fun x56 =>
        opN Try.prog (sIA 97 x6 x44) Kp fun x57 =>
        opN Try.prog (sStore 3 x57 x56) Kp fun _ =>
        opN Try.prog (sBin .add 3 y40 (.int .i64 1)) Kp fun x58 =>
        next1 I2 m2 x58)
       (opN Try.prog (sBin .add 3 y40 (.int .i64 1)) Kp fun x58 =>
        next1 I2 m2 x58))
      (K (.tuple #[x37, (.int .i64 0)]))) (.int .i64 0))) (.int .i64 1))
def huff_Codes_an : Ann := { cuts := [], blks := [], loops := [(7, [7]), (12, [40])], drs := [(9, [(0, 1), (1, 1), (2, 1), (3, 1), (4, 1), (5, 1), (6, 1), (7, 1), (8, 1), (9, 1), (10, 1), (11, 1), (12, 0)])] }
theorem huff_Codes_eq (v0 : Value) (Kp : PK) (K : Value → WP) : cevF Try.prog huff_Codes_an Try.f20 [v0] Kp K = huff_Codes v0 Kp K := by kernel_rfl
theorem huff_Codes_calls {v0 : Value} {Kp : PK} {K : Value → WP} {w : World} (h : huff_Codes v0 Kp K w) : Calls Try.prog 20 #[v0] w (after Kp K) :=
  calls_of_shape (calls_of_cev wide Try.func20 (an := huff_Codes_an) (args := [v0]) (cast (congrFun (huff_Codes_eq v0 Kp K) w).symm h))
theorem huff_Codes_cn {v0 : Value} {W : World} {α : Type} {A : List HP} {r : α → Value} {B : α → List HP} (h : ∀ F, Ent W (A ++ F) (huff_Codes v0 noP fun v w => ∃ x, v = r x ∧ sat W (B x ++ F) w)) : Cn Try.prog 20 [v0] W A r B :=
  Cn.of (shape := huff_Codes v0) Try.call20 (fun h => huff_Codes_calls h) h
theorem huff_Codes_cnP {v0 : Value} {W : World} {α β : Type} {A : List HP} {r : α → Value} {B : α → List HP} {pc : β → List PanicEntry} {Bp : β → List HP} (h : ∀ F, Ent W (A ++ F) (huff_Codes v0 (fun ch w => ∃ y, ch = pc y ∧ sat W (Bp y ++ F) w) fun v w => ∃ x, v = r x ∧ sat W (B x ++ F) w)) : CnP Try.prog 20 [v0] W A r B pc Bp :=
  CnP.of (shape := huff_Codes v0) Try.call20 (fun h => huff_Codes_calls h) h

/-- ref03_Codes -/
def ref03_Codes (v0 : Value) (Kp : PK) (K : Value → WP) : WP :=
  opN Try.prog (sCall (fn 51) [v0]) Kp fun x13 =>
  opN Try.prog (sExt x13 0) Kp fun x14 =>
  opN Try.prog (sExt x13 1) Kp fun x15 =>
  opN Try.prog (sUn .not x15) Kp fun x17 =>
  condS x17
  (K (.tuple #[(.slice none 0 0), (.int .i64 30)]))
  (opN Try.prog (sLen #[22] 3 [v0]) Kp fun x19 =>
   opN Try.prog (sMkSl 22 x19 x19) Kp fun x20 =>
   loop3 (fun I1 m1 _ y7 y8 y9 =>
    opN Try.prog (sBin .leq 3 y9 (.int .i64 15)) Kp fun x22 =>
    condS x22
    (loop3 (fun I2 m2 _ y7 y8 y10 =>
      opN Try.prog (sLen #[22] 3 [v0]) Kp fun x27 =>
      opN Try.prog (sBin .lss 3 y10 x27) Kp fun x28 =>
      condS x28
      (opN Try.prog (sIA 22 v0 y10) Kp fun x33 =>
       opN Try.prog (sLoad 3 x33) Kp fun x34 =>
       opN Try.prog (sEq .neq 3 (.tmp 34) (.tmp 35) x34 y9) Kp fun x36 =>
       condS x36
       (opN Try.prog (sBin .add 3 y10 (.int .i64 1)) Kp fun x30 =>
        next3 I2 m2 y7 y8 x30)
       (cut1 (fun J1 =>
         opN Try.prog (sBin .gtr 3 y8 (.int .i64 0)) Kp fun x38 =>
         condS x38
         (opN Try.prog (sBin .add 3 y7 (.int .i64 1)) Kp fun x40 =>
          opN Try.prog (sBin .sub 3 y9 y8) Kp fun x43 =>
          opN Try.prog (sConv 3 33 x43) Kp fun x44 =>
          opN Try.prog (sBin .shl 3 x40 x44) Kp fun x45 =>
          J1 x45)
         (J1 y7)) fun _ z7 =>
        opN Try.prog (sIA 22 x20 y10) Kp fun x49 =>
        opN Try.prog (sStore 3 x49 z7) Kp fun _ =>
        opN Try.prog (sBin .add 3 y10 (.int .i64 1)) Kp fun x30 =>
        next3 I2 m2 z7 y9 x30))
      (opN Try.prog (sBin .add 3 y9 (.int .i64 1)) Kp fun x24 =>
       next3 I1 m1 y7 y8 x24)) y7 y8 (.int .i64 0))
    (K (.tuple #[x20, (.int .i64 0)]))) (.int .i64 0) (.int .i64 0) (.int .i64 1))
def ref03_Codes_an : Ann := { cuts := [(16, [7])], blks := [], loops := [(8, [7, 8, 9]), (11, [7, 8, 10])], drs := [] }
theorem ref03_Codes_eq (v0 : Value) (Kp : PK) (K : Value → WP) : cevF Try.prog ref03_Codes_an Try.f21 [v0] Kp K = ref03_Codes v0 Kp K := by kernel_rfl
theorem ref03_Codes_calls {v0 : Value} {Kp : PK} {K : Value → WP} {w : World} (h : ref03_Codes v0 Kp K w) : Calls Try.prog 21 #[v0] w (after Kp K) :=
  calls_of_shape (calls_of_cev wide Try.func21 (an := ref03_Codes_an) (args := [v0]) (cast (congrFun (ref03_Codes_eq v0 Kp K) w).symm h))
theorem ref03_Codes_cn {v0 : Value} {W : World} {α : Type} {A : List HP} {r : α → Value} {B : α → List HP} (h : ∀ F, Ent W (A ++ F) (ref03_Codes v0 noP fun v w => ∃ x, v = r x ∧ sat W (B x ++ F) w)) : Cn Try.prog 21 [v0] W A r B :=
  Cn.of (shape := ref03_Codes v0) Try.call21 (fun h => ref03_Codes_calls h) h
theorem ref03_Codes_cnP {v0 : Value} {W : World} {α β : Type} {A : List HP} {r : α → Value} {B : α → List HP} {pc : β → List PanicEntry} {Bp : β → List HP} (h : ∀ F, Ent W (A ++ F) (ref03_Codes v0 (fun ch w => ∃ y, ch = pc y ∧ sat W (Bp y ++ F) w) fun v w => ∃ x, v = r x ∧ sat W (B x ++ F) w)) : CnP Try.prog 21 [v0] W A r B pc Bp :=
  CnP.of (shape := ref03_Codes v0) Try.call21 (fun h => ref03_Codes_calls h) h

/-- huff_Full -/
def huff_Full (v0 : Value) (Kp : PK) (K : Value → WP) : WP :=
  opN Try.prog (sCall (fn 50) [v0]) Kp fun x10 =>
  opN Try.prog (sExt x10 0) Kp fun x11 =>
  opN Try.prog (sExt x10 1) Kp fun x12 =>
  opN Try.prog (sAlloc 97) Kp fun x3 =>
  opN Try.prog (sStore 97 x3 x11) Kp fun _ =>
  opN Try.prog (sSl 97 x3 (some (.int .i64 1)) none none) Kp fun x13 =>
  opN Try.prog (sLen #[22] 3 [x13]) Kp fun x14 =>
  loop2 (fun I1 m1 _ y5 y15 =>
   opN Try.prog (sBin .lss 3 y15 x14) Kp fun x16 =>
   condS x16
   (opN Try.prog (sIA 22 x13 y15) Kp fun x17 =>
    opN Try.prog (sLoad 3 x17) Kp fun x18 =>
    opN Try.prog (sBin .mul 3 (.int .i64 2) y5) Kp fun x20 =>
    opN Try.prog (sBin .sub 3 x20 x18) Kp fun x22 =>
    opN Try.prog (sBin .add 3 y15 (.int .i64 1)) Kp fun x23 =>
    next2 I1 m1 x22 x23)
   (gdK x12 true (fun k => k y5) fun x26 =>
    gdK x12 true (opN Try.prog (sEq .eql 3 (.tmp 26) (.const (.int .i64 0)) x26 (.int .i64 0)) Kp) fun x27 =>
    opN Try.prog (sPick x12 x27 (.bool false)) Kp fun x28 =>
    K x28)) (.int .i64 1) (.int .i64 0)
def huff_Full_an : Ann := { cuts := [], blks := [], loops := [(4, [5, 15])], drs := [] }
theorem huff_Full_eq (v0 : Value) (Kp : PK) (K : Value → WP) : cevF Try.prog huff_Full_an Try.f22 [v0] Kp K = huff_Full v0 Kp K := by kernel_rfl
theorem huff_Full_calls {v0 : Value} {Kp : PK} {K : Value → WP} {w : World} (h : huff_Full v0 Kp K w) : Calls Try.prog 22 #[v0] w (after Kp K) :=
  calls_of_shape (calls_of_cev wide Try.func22 (an := huff_Full_an) (args := [v0]) (cast (congrFun (huff_Full_eq v0 Kp K) w).symm h))
theorem huff_Full_cn {v0 : Value} {W : World} {α : Type} {A : List HP} {r : α → Value} {B : α → List HP} (h : ∀ F, Ent W (A ++ F) (huff_Full v0 noP fun v w => ∃ x, v = r x ∧ sat W (B x ++ F) w)) : Cn Try.prog 22 [v0] W A r B :=
  Cn.of (shape := huff_Full v0) Try.call22 (fun h => huff_Full_calls h) h
theorem huff_Full_cnP {v0 : Value} {W : World} {α β : Type} {A : List HP} {r : α → Value} {B : α → List HP} {pc : β → List PanicEntry} {Bp : β → List HP} (h : ∀ F, Ent W (A ++ F) (huff_Full v0 (fun ch w => ∃ y, ch = pc y ∧ sat W (Bp y ++ F) w) fun v w => ∃ x, v = r x ∧ sat W (B x ++ F) w)) : CnP Try.prog 22 [v0] W A r B pc Bp :=
  CnP.of (shape := huff_Full v0) Try.call22 (fun h => huff_Full_calls h) h

/-- ref03_Full -/
def ref03_Full (v0 : Value) (Kp : PK) (K : Value → WP) : WP :=
  opN Try.prog (sCall (fn 51) [v0]) Kp fun x7 =>
  opN Try.prog (sExt x7 0) Kp fun x8 =>
  opN Try.prog (sExt x7 1) Kp fun x9 =>
  gdK x9 true (fun k => k x8) fun x12 =>
  gdK x9 true (opN Try.prog (sEq .eql 3 (.tmp 12) (.const (.int .i64 32768)) x12 (.int .i64 32768)) Kp) fun x13 =>
  opN Try.prog (sPick x9 x13 (.bool false)) Kp fun x14 =>
  K x14
def ref03_Full_an : Ann := { cuts := [], blks := [], loops := [], drs := [] }
theorem ref03_Full_eq (v0 : Value) (Kp : PK) (K : Value → WP) : cevF Try.prog ref03_Full_an Try.f23 [v0] Kp K = ref03_Full v0 Kp K := by kernel_rfl
theorem ref03_Full_calls {v0 : Value} {Kp : PK} {K : Value → WP} {w : World} (h : ref03_Full v0 Kp K w) : Calls Try.prog 23 #[v0] w (after Kp K) :=
  calls_of_shape (calls_of_cev wide Try.func23 (an := ref03_Full_an) (args := [v0]) (cast (congrFun (ref03_Full_eq v0 Kp K) w).symm h))
theorem ref03_Full_cn {v0 : Value} {W : World} {α : Type} {A : List HP} {r : α → Value} {B : α → List HP} (h : ∀ F, Ent W (A ++ F) (ref03_Full v0 noP fun v w => ∃ x, v = r x ∧ sat W (B x ++ F) w)) : Cn Try.prog 23 [v0] W A r B :=
  Cn.of (shape := ref03_Full v0) Try.call23 (fun h => ref03_Full_calls h) h
theorem ref03_Full_cnP {v0 : Value} {W : World} {α β : Type} {A : List HP} {r : α → Value} {B : α → List HP} {pc : β → List PanicEntry} {Bp : β → List HP} (h : ∀ F, Ent W (A ++ F) (ref03_Full v0 (fun ch w => ∃ y, ch = pc y ∧ sat W (Bp y ++ F) w) fun v w => ∃ x, v = r x ∧ sat W (B x ++ F) w)) : CnP Try.prog 23 [v0] W A r B pc Bp :=
  CnP.of (shape := ref03_Full v0) Try.call23 (fun h => ref03_Full_calls h) h

/-- law03_cost -/
def law03_cost (v0 v1 v2 : Value) (Kp : PK) (K : Value → WP) : WP :=
  opN Try.prog (sLen #[22] 3 [v0]) Kp fun x12 =>
  opN Try.prog (sLen #[22] 3 [v1]) Kp fun x14 =>
  opN Try.prog (sEq .neq 3 (.tmp 12) (.tmp 14) x12 x14) Kp fun x15 =>
  condS x15
  (K (.tuple #[(.int .i64 0), (.bool false)]))
  (loop3 (fun I1 m1 _ y8 y9 y10 =>
    opN Try.prog (sLen #[22] 3 [v1]) Kp fun x18 =>
    opN Try.prog (sBin .lss 3 y10 x18) Kp fun x19 =>
    condS x19
    (opN Try.prog (sIA 22 v1 y10) Kp fun x24 =>
     opN Try.prog (sLoad 3 x24) Kp fun x25 =>
     opN Try.prog (sBin .lss 3 x25 (.int .i64 0)) Kp fun x26 =>
     gdK x26 false (fun k => k v1) fun x28 =>
     gdK x26 false (fun k => k y10) fun x29 =>
     gdK x26 false (opN Try.prog (sIA 22 x28 x29) Kp) fun x30 =>
     gdK x26 false (opN Try.prog (sLoad 3 x30) Kp) fun x31 =>
     gdK x26 false (fun k => k v2) fun x32 =>
     gdK x26 false (opN Try.prog (sBin .gtr 3 x31 x32) Kp) fun x33 =>
     opN Try.prog (sPick x26 (.bool true) x33) Kp fun x34 =>
     gdK x34 false (fun k => k v0) fun x36 =>
     gdK x34 false (fun k => k y10) fun x37 =>
     gdK x34 false (opN Try.prog (sIA 22 x36 x37) Kp) fun x38 =>
     gdK x34 false (opN Try.prog (sLoad 3 x38) Kp) fun x39 =>
     gdK x34 false (opN Try.prog (sEq .neq 3 (.tmp 39) (.const (.int .i64 0)) x39 (.int .i64 0)) Kp) fun x40 =>
     gdK x34 false (fun k => k x40) fun x41 =>
     gdK x41 true (fun k => k v1) fun x42 =>
     gdK x41 true (fun k => k y10) fun x43 =>
     gdK x41 true (opN Try.prog (sIA 22 x42 x43) Kp) fun x44 =>
     gdK x41 true (opN Try.prog (sLoad 3 x44) Kp) fun x45 =>
     gdK x41 true (opN Try.prog (sEq .eql 3 (.tmp 45) (.const (.int .i64 0)) x45 (.int .i64 0)) Kp) fun x46 =>
     gdK x34 false (opN Try.prog (sPick x41 x46 (.bool false)) Kp) fun x47 =>
     opN Try.prog (sPick x34 (.bool true) x47) Kp fun x48 =>
     condS x48
     (K (.tuple #[(.int .i64 0), (.bool false)]))
     (cut1 (fun J1 =>
       opN Try.prog (sIA 22 v1 y10) Kp fun x51 =>
       opN Try.prog (sLoad 3 x51) Kp fun x52 =>
       opN Try.prog (sBin .gtr 3 x52 (.int .i64 0)) Kp fun x53 =>
       condS x53
       (opN Try.prog (sIA 22 v1 y10) Kp fun x57 =>
        opN Try.prog (sLoad 3 x57) Kp fun x58 =>
        opN Try.prog (sBin .sub 3 (.int .i64 15) x58) Kp fun x59 =>
        opN Try.prog (sConv 3 33 x59) Kp fun x60 =>
        opN Try.prog (sBin .shl 3 (.int .i64 1) x60) Kp fun x61 =>
        opN Try.prog (sBin .add 3 y9 x61) Kp fun x62 =>
        J1 x62)
       (J1 y9)) fun _ z9 =>
      drS (stS Try.prog (sIA 22 v0 y10) fun x66 =>
       stS Try.prog (sLoad 3 x66) fun x67 =>
       stS Try.prog (sIA 22 v1 y10) fun x70 =>
       stS Try.prog (sLoad 3 x70) fun x71 =>
       stS Try.prog (sBin .mul 3 x67 x71) fun x72 =>
       stS Try.prog (sBin .add 3 y8 x72) fun x73 =>
       opN Try.prog (sBin .add 3 y10 (.int .i64 1)) Kp fun x21 =>
       next3 I1 m1 x73 z9 x21)))
    (opN Try.prog (sBin .leq 3 y9 (.int .i64 32768)) Kp fun x76 =>
     K (.tuple #[y8, x76]))) (.int .i64 0) (.int .i64 0) (.int .i64 0))
def law03_cost_an : Ann := { cuts := [(12, [9])], blks := [], loops := [(6, [8, 9, 10])], drs := [(12, [(0, 1), (1, 1), (2, 1), (3, 1), (4, 1), (5, 1), (6, 1), (7, 1), (8, 1), (9, 1), (10, 1), (11, 1)])] }
theorem law03_cost_eq (v0 v1 v2 : Value) (Kp : PK) (K : Value → WP) : cevF Try.prog law03_cost_an Try.f24 [v0, v1, v2] Kp K = law03_cost v0 v1 v2 Kp K := by kernel_rfl
theorem law03_cost_calls {v0 v1 v2 : Value} {Kp : PK} {K : Value → WP} {w : World} (h : law03_cost v0 v1 v2 Kp K w) : Calls Try.prog 24 #[v0, v1, v2] w (after Kp K) :=
  calls_of_shape (calls_of_cev wide Try.func24 (an := law03_cost_an) (args := [v0, v1, v2]) (cast (congrFun (law03_cost_eq v0 v1 v2 Kp K) w).symm h))
theorem law03_cost_cn {v0 v1 v2 : Value} {W : World} {α : Type} {A : List HP} {r : α → Value} {B : α → List HP} (h : ∀ F, Ent W (A ++ F) (law03_cost v0 v1 v2 noP fun v w => ∃ x, v = r x ∧ sat W (B x ++ F) w)) : Cn Try.prog 24 [v0, v1, v2] W A r B :=
  Cn.of (shape := law03_cost v0 v1 v2) Try.call24 (fun h => law03_cost_calls h) h
theorem law03_cost_cnP {v0 v1 v2 : Value} {W : World} {α β : Type} {A : List HP} {r : α → Value} {B : α → List HP} {pc : β → List PanicEntry} {Bp : β → List HP} (h : ∀ F, Ent W (A ++ F) (law03_cost v0 v1 v2 (fun ch w => ∃ y, ch = pc y ∧ sat W (Bp y ++ F) w) fun v w => ∃ x, v = r x ∧ sat W (B x ++ F) w)) : CnP Try.prog 24 [v0, v1, v2] W A r B pc Bp :=
  CnP.of (shape := law03_cost v0 v1 v2) Try.call24 (fun h => law03_cost_calls h) h

/-- inflate_Inflate -/
def inflate_Inflate (v0 v1 : Value) (Kp : PK) (K : Value → WP) : WP :=
  opN Try.prog (sCall (fn 52) [v0, v1]) Kp fun x10 =>
  opN Try.prog (sExt x10 0) Kp fun x11 =>
  opN Try.prog (sExt x10 1) Kp fun x12 =>
  opN Try.prog (sExt x10 2) Kp fun x13 =>
  opN Try.prog (sExt x10 3) Kp fun x14 =>
  K (.tuple #[x11, x13, x14])
def inflate_Inflate_an : Ann := { cuts := [], blks := [], loops := [], drs := [] }
theorem inflate_Inflate_eq (v0 v1 : Value) (Kp : PK) (K : Value → WP) : cevF Try.prog inflate_Inflate_an Try.f25 [v0, v1] Kp K = inflate_Inflate v0 v1 Kp K := by kernel_rfl
theorem inflate_Inflate_calls {v0 v1 : Value} {Kp : PK} {K : Value → WP} {w : World} (h : inflate_Inflate v0 v1 Kp K w) : Calls Try.prog 25 #[v0, v1] w (after Kp K) :=
  calls_of_shape (calls_of_cev wide Try.func25 (an := inflate_Inflate_an) (args := [v0, v1]) (cast (congrFun (inflate_Inflate_eq v0 v1 Kp K) w).symm h))
theorem inflate_Inflate_cn {v0 v1 : Value} {W : World} {α : Type} {A : List HP} {r : α → Value} {B : α → List HP} (h : ∀ F, Ent W (A ++ F) (inflate_Inflate v0 v1 noP fun v w => ∃ x, v = r x ∧ sat W (B x ++ F) w)) : Cn Try.prog 25 [v0, v1] W A r B :=
  Cn.of (shape := inflate_Inflate v0 v1) Try.call25 (fun h => inflate_Inflate_calls h) h
theorem inflate_Inflate_cnP {v0 v1 : Value} {W : World} {α β : Type} {A : List HP} {r : α → Value} {B : α → List HP} {pc : β → List PanicEntry} {Bp : β → List HP} (h : ∀ F, Ent W (A ++ F) (inflate_Inflate v0 v1 (fun ch w => ∃ y, ch = pc y ∧ sat W (Bp y ++ F) w) fun v w => ∃ x, v = r x ∧ sat W (B x ++ F) w)) : CnP Try.prog 25 [v0, v1] W A r B pc Bp :=
  CnP.of (shape := inflate_Inflate v0 v1) Try.call25 (fun h => inflate_Inflate_calls h) h

/-- law05_num -/
def law05_num (v0 : Value) (Kp : PK) (K : Value → WP) : WP :=
  K v0
def law05_num_an : Ann := { cuts := [], blks := [], loops := [], drs := [] }
theorem law05_num_eq (v0 : Value) (Kp : PK) (K : Value → WP) : cevF Try.prog law05_num_an Try.f26 [v0] Kp K = law05_num v0 Kp K := by kernel_rfl
theorem law05_num_calls {v0 : Value} {Kp : PK} {K : Value → WP} {w : World} (h : law05_num v0 Kp K w) : Calls Try.prog 26 #[v0] w (after Kp K) :=
  calls_of_shape (calls_of_cev wide Try.func26 (an := law05_num_an) (args := [v0]) (cast (congrFun (law05_num_eq v0 Kp K) w).symm h))
theorem law05_num_cn {v0 : Value} {W : World} {α : Type} {A : List HP} {r : α → Value} {B : α → List HP} (h : ∀ F, Ent W (A ++ F) (law05_num v0 noP fun v w => ∃ x, v = r x ∧ sat W (B x ++ F) w)) : Cn Try.prog 26 [v0] W A r B :=
  Cn.of (shape := law05_num v0) Try.call26 (fun h => law05_num_calls h) h
theorem law05_num_cnP {v0 : Value} {W : World} {α β : Type} {A : List HP} {r : α → Value} {B : α → List HP} {pc : β → List PanicEntry} {Bp : β → List HP} (h : ∀ F, Ent W (A ++ F) (law05_num v0 (fun ch w => ∃ y, ch = pc y ∧ sat W (Bp y ++ F) w) fun v w => ∃ x, v = r x ∧ sat W (B x ++ F) w)) : CnP Try.prog 26 [v0] W A r B pc Bp :=
  CnP.of (shape := law05_num v0) Try.call26 (fun h => law05_num_calls h) h

/-- law05_knows -/
def law05_knows (Kp : PK) (K : Value → WP) : WP :=
  opN Try.prog (sBuildSl 39 8 [(0, (.int .u8 1)), (1, (.int .u8 3)), (2, (.int .u8 0)), (3, (.int .u8 252)), (4, (.int .u8 255)), (5, (.int .u8 97)), (6, (.int .u8 98)), (7, (.int .u8 99))]) Kp fun x8 =>
  opN Try.prog (sCall (fn 25) [x8, (.int .i64 10)]) Kp fun x9 =>
  opN Try.prog (sExt x9 0) Kp fun x10 =>
  opN Try.prog (sExt x9 1) Kp fun x11 =>
  opN Try.prog (sExt x9 2) Kp fun x12 =>
  opN Try.prog (sBuildSl 39 5 [(0, (.int .u8 75)), (1, (.int .u8 76)), (2, (.int .u8 74)), (3, (.int .u8 6)), (4, (.int .u8 0))]) Kp fun x14 =>
  opN Try.prog (sCall (fn 25) [x14, (.int .i64 10)]) Kp fun x15 =>
  opN Try.prog (sExt x15 0) Kp fun x16 =>
  opN Try.prog (sExt x15 1) Kp fun x17 =>
  opN Try.prog (sExt x15 2) Kp fun x18 =>
  opN Try.prog (sCall (fn 26) [x12]) Kp fun x20 =>
  opN Try.prog (sCall (fn 26) [x18]) Kp fun x22 =>
  opN Try.prog (sBin .add 3 x20 x22) Kp fun x23 =>
  opN Try.prog (sEq .eql 3 (.tmp 23) (.const (.int .i64 0)) x23 (.int .i64 0)) Kp fun x24 =>
  gdK x24 true (fun k => k x10) fun x26 =>
  gdK x24 true (opN Try.prog (sConv 39 9 x26) Kp) fun x27 =>
  gdK x24 true (opN Try.prog (sEq .eql 9 (.tmp 27) (.const (.string ⟨#[97, 98, 99]⟩)) x27 (.string ⟨#[97, 98, 99]⟩)) Kp) fun x28 =>
  opN Try.prog (sPick x24 x28 (.bool false)) Kp fun x29 =>
  gdK x29 true (fun k => k x11) fun x31 =>
  gdK x29 true (opN Try.prog (sEq .eql 3 (.tmp 31) (.const (.int .i64 8)) x31 (.int .i64 8)) Kp) fun x32 =>
  opN Try.prog (sPick x29 x32 (.bool false)) Kp fun x33 =>
  gdK x33 true (fun k => k x16) fun x35 =>
  gdK x33 true (opN Try.prog (sConv 39 9 x35) Kp) fun x36 =>
  gdK x33 true (opN Try.prog (sEq .eql 9 (.tmp 36) (.const (.string ⟨#[97, 98, 99]⟩)) x36 (.string ⟨#[97, 98, 99]⟩)) Kp) fun x37 =>
  opN Try.prog (sPick x33 x37 (.bool false)) Kp fun x38 =>
  gdK x38 true (fun k => k x17) fun x40 =>
  gdK x38 true (opN Try.prog (sEq .eql 3 (.tmp 40) (.const (.int .i64 5)) x40 (.int .i64 5)) Kp) fun x41 =>
  opN Try.prog (sPick x38 x41 (.bool false)) Kp fun x42 =>
  K x42
def law05_knows_an : Ann := { cuts := [], blks := [], loops := [], drs := [] }
theorem law05_knows_eq (Kp : PK) (K : Value → WP) : cevF Try.prog law05_knows_an Try.f27 [] Kp K = law05_knows Kp K := by kernel_rfl
theorem law05_knows_calls  {Kp : PK} {K : Value → WP} {w : World} (h : law05_knows Kp K w) : Calls Try.prog 27 #[] w (after Kp K) :=
  calls_of_shape (calls_of_cev wide Try.func27 (an := law05_knows_an) (args := []) (cast (congrFun (law05_knows_eq Kp K) w).symm h))
theorem law05_knows_cn  {W : World} {α : Type} {A : List HP} {r : α → Value} {B : α → List HP} (h : ∀ F, Ent W (A ++ F) (law05_knows noP fun v w => ∃ x, v = r x ∧ sat W (B x ++ F) w)) : Cn Try.prog 27 [] W A r B :=
  Cn.of (shape := law05_knows) Try.call27 (fun h => law05_knows_calls h) h
theorem law05_knows_cnP  {W : World} {α β : Type} {A : List HP} {r : α → Value} {B : α → List HP} {pc : β → List PanicEntry} {Bp : β → List HP} (h : ∀ F, Ent W (A ++ F) (law05_knows (fun ch w => ∃ y, ch = pc y ∧ sat W (Bp y ++ F) w) fun v w => ∃ x, v = r x ∧ sat W (B x ++ F) w)) : CnP Try.prog 27 [] W A r B pc Bp :=
  CnP.of (shape := law05_knows) Try.call27 (fun h => law05_knows_calls h) h

/-- inflate_Blocks -/
def inflate_Blocks (v0 v1 : Value) (Kp : PK) (K : Value → WP) : WP :=
  opN Try.prog (sCall (fn 52) [v0, v1]) Kp fun x13 =>
  opN Try.prog (sExt x13 0) Kp fun x14 =>
  opN Try.prog (sExt x13 1) Kp fun x15 =>
  opN Try.prog (sExt x13 2) Kp fun x16 =>
  opN Try.prog (sExt x13 3) Kp fun x17 =>
  K (.tuple #[x15, x17])
def inflate_Blocks_an : Ann := { cuts := [], blks := [], loops := [], drs := [] }
theorem inflate_Blocks_eq (v0 v1 : Value) (Kp : PK) (K : Value → WP) : cevF Try.prog inflate_Blocks_an Try.f28 [v0, v1] Kp K = inflate_Blocks v0 v1 Kp K := by kernel_rfl
theorem inflate_Blocks_calls {v0 v1 : Value} {Kp : PK} {K : Value → WP} {w : World} (h : inflate_Blocks v0 v1 Kp K w) : Calls Try.prog 28 #[v0, v1] w (after Kp K) :=
  calls_of_shape (calls_of_cev wide Try.func28 (an := inflate_Blocks_an) (args := [v0, v1]) (cast (congrFun (inflate_Blocks_eq v0 v1 Kp K) w).symm h))
theorem inflate_Blocks_cn {v0 v1 : Value} {W : World} {α : Type} {A : List HP} {r : α → Value} {B : α → List HP} (h : ∀ F, Ent W (A ++ F) (inflate_Blocks v0 v1 noP fun v w => ∃ x, v = r x ∧ sat W (B x ++ F) w)) : Cn Try.prog 28 [v0, v1] W A r B :=
  Cn.of (shape := inflate_Blocks v0 v1) Try.call28 (fun h => inflate_Blocks_calls h) h
theorem inflate_Blocks_cnP {v0 v1 : Value} {W : World} {α β : Type} {A : List HP} {r : α → Value} {B : α → List HP} {pc : β → List PanicEntry} {Bp : β → List HP} (h : ∀ F, Ent W (A ++ F) (inflate_Blocks v0 v1 (fun ch w => ∃ y, ch = pc y ∧ sat W (Bp y ++ F) w) fun v w => ∃ x, v = r x ∧ sat W (B x ++ F) w)) : CnP Try.prog 28 [v0, v1] W A r B pc Bp :=
  CnP.of (shape := inflate_Blocks v0 v1) Try.call28 (fun h => inflate_Blocks_calls h) h

/-- ref05_Blocks -/
def ref05_Blocks (v0 v1 : Value) (Kp : PK) (K : Value → WP) : WP :=
  opN Try.prog (sCall (fn 53) [v0, v1]) Kp fun x13 =>
  opN Try.prog (sExt x13 0) Kp fun x14 =>
  opN Try.prog (sExt x13 1) Kp fun x15 =>
  opN Try.prog (sExt x13 2) Kp fun x16 =>
  opN Try.prog (sExt x13 3) Kp fun x17 =>
  K (.tuple #[x15, x17])
def ref05_Blocks_an : Ann := { cuts := [], blks := [], loops := [], drs := [] }
theorem ref05_Blocks_eq (v0 v1 : Value) (Kp : PK) (K : Value → WP) : cevF Try.prog ref05_Blocks_an Try.f29 [v0, v1] Kp K = ref05_Blocks v0 v1 Kp K := by kernel_rfl
theorem ref05_Blocks_calls {v0 v1 : Value} {Kp : PK} {K : Value → WP} {w : World} (h : ref05_Blocks v0 v1 Kp K w) : Calls Try.prog 29 #[v0, v1] w (after Kp K) :=
  calls_of_shape (calls_of_cev wide Try.func29 (an := ref05_Blocks_an) (args := [v0, v1]) (cast (congrFun (ref05_Blocks_eq v0 v1 Kp K) w).symm h))
theorem ref05_Blocks_cn {v0 v1 : Value} {W : World} {α : Type} {A : List HP} {r : α → Value} {B : α → List HP} (h : ∀ F, Ent W (A ++ F) (ref05_Blocks v0 v1 noP fun v w => ∃ x, v = r x ∧ sat W (B x ++ F) w)) : Cn Try.prog 29 [v0, v1] W A r B :=
  Cn.of (shape := ref05_Blocks v0 v1) Try.call29 (fun h => ref05_Blocks_calls h) h
theorem ref05_Blocks_cnP {v0 v1 : Value} {W : World} {α β : Type} {A : List HP} {r : α → Value} {B : α → List HP} {pc : β → List PanicEntry} {Bp : β → List HP} (h : ∀ F, Ent W (A ++ F) (ref05_Blocks v0 v1 (fun ch w => ∃ y, ch = pc y ∧ sat W (Bp y ++ F) w) fun v w => ∃ x, v = r x ∧ sat W (B x ++ F) w)) : CnP Try.prog 29 [v0, v1] W A r B pc Bp :=
  CnP.of (shape := ref05_Blocks v0 v1) Try.call29 (fun h => ref05_Blocks_calls h) h

/-- bits_NewWriter -/
def bits_NewWriter (Kp : PK) (K : Value → WP) : WP :=
  opN Try.prog (sBuild 106 [(2, (.bool true))]) Kp fun x1 =>
  opN Try.prog (sBox 106 x1) Kp fun x2 =>
  K x2
def bits_NewWriter_an : Ann := { cuts := [], blks := [], loops := [], drs := [] }
theorem bits_NewWriter_eq (Kp : PK) (K : Value → WP) : cevF Try.prog bits_NewWriter_an Try.f30 [] Kp K = bits_NewWriter Kp K := by kernel_rfl
theorem bits_NewWriter_calls  {Kp : PK} {K : Value → WP} {w : World} (h : bits_NewWriter Kp K w) : Calls Try.prog 30 #[] w (after Kp K) :=
  calls_of_shape (calls_of_cev wide Try.func30 (an := bits_NewWriter_an) (args := []) (cast (congrFun (bits_NewWriter_eq Kp K) w).symm h))
theorem bits_NewWriter_cn  {W : World} {α : Type} {A : List HP} {r : α → Value} {B : α → List HP} (h : ∀ F, Ent W (A ++ F) (bits_NewWriter noP fun v w => ∃ x, v = r x ∧ sat W (B x ++ F) w)) : Cn Try.prog 30 [] W A r B :=
  Cn.of (shape := bits_NewWriter) Try.call30 (fun h => bits_NewWriter_calls h) h
theorem bits_NewWriter_cnP  {W : World} {α β : Type} {A : List HP} {r : α → Value} {B : α → List HP} {pc : β → List PanicEntry} {Bp : β → List HP} (h : ∀ F, Ent W (A ++ F) (bits_NewWriter (fun ch w => ∃ y, ch = pc y ∧ sat W (Bp y ++ F) w) fun v w => ∃ x, v = r x ∧ sat W (B x ++ F) w)) : CnP Try.prog 30 [] W A r B pc Bp :=
  CnP.of (shape := bits_NewWriter) Try.call30 (fun h => bits_NewWriter_calls h) h

/-- huff_Put -/
def huff_Put (v0 v1 v2 v3 : Value) (Kp : PK) (K : Value → WP) : WP :=
  opN Try.prog (sBin .lss 3 v3 (.int .i64 0)) Kp fun x12 =>
  gdK x12 false (fun k => k v3) fun x14 =>
  gdK x12 false (fun k => k v1) fun x15 =>
  gdK x12 false (opN Try.prog (sLen #[22] 3 [x15]) Kp) fun x16 =>
  gdK x12 false (fun k => k v2) fun x17 =>
  gdK x12 false (opN Try.prog (sLen #[22] 3 [x17]) Kp) fun x18 =>
  gdK x12 false (opN Try.prog (sMin #[3, 3] 3 [x16, x18]) Kp) fun x19 =>
  gdK x12 false (opN Try.prog (sBin .geq 3 x14 x19) Kp) fun x20 =>
  opN Try.prog (sPick x12 (.bool true) x20) Kp fun x21 =>
  condS x21
  (K (.int .i64 1))
  (drS (stS Try.prog (sIA 22 v1 v3) fun x24 =>
    stS Try.prog (sLoad 3 x24) fun x25 =>
    stS Try.prog (sIA 22 v2 v3) fun x28 =>
    stS Try.prog (sLoad 3 x28) fun x29 =>
    opN Try.prog (sBin .lss 3 x29 (.int .i64 1)) Kp fun x31 =>
    gdK x31 false (fun k => k x29) fun x33 =>
    gdK x31 false (opN Try.prog (sBin .gtr 3 x33 (.int .i64 15)) Kp) fun x34 =>
    opN Try.prog (sPick x31 (.bool true) x34) Kp fun x35 =>
    gdK x35 false (fun k => k x25) fun x37 =>
    gdK x35 false (opN Try.prog (sBin .lss 3 x37 (.int .i64 0)) Kp) fun x38 =>
    opN Try.prog (sPick x35 (.bool true) x38) Kp fun x39 =>
    gdK x39 false (fun k => k x25) fun x41 =>
    gdK x39 false (fun k => k x29) fun x42 =>
    gdK x39 false (opN Try.prog (sConv 3 33 x42) Kp) fun x43 =>
    gdK x39 false (opN Try.prog (sBin .shl 3 (.int .i64 1) x43) Kp) fun x44 =>
    gdK x39 false (opN Try.prog (sBin .geq 3 x41 x44) Kp) fun x45 =>
    opN Try.prog (sPick x39 (.bool true) x45) Kp fun x46 =>
    condS x46
    (K (.int .i64 1))
    (opN Try.prog (sCall (fn 55) [x25, x29]) Kp fun x50 =>
     opN Try.prog (sCall (fn 54) [v0, x50, x29]) Kp fun x52 =>
     K x52)))
def huff_Put_an : Ann := { cuts := [], blks := [], loops := [], drs := [(3, [(0, 1), (1, 1), (2, 1), (3, 1), (4, 1), (5, 1), (6, 1), (7, 1), (8, 1), (9, 1)])] }
theorem huff_Put_eq (v0 v1 v2 v3 : Value) (Kp : PK) (K : Value → WP) : cevF Try.prog huff_Put_an Try.f31 [v0, v1, v2, v3] Kp K = huff_Put v0 v1 v2 v3 Kp K := by kernel_rfl
theorem huff_Put_calls {v0 v1 v2 v3 : Value} {Kp : PK} {K : Value → WP} {w : World} (h : huff_Put v0 v1 v2 v3 Kp K w) : Calls Try.prog 31 #[v0, v1, v2, v3] w (after Kp K) :=
  calls_of_shape (calls_of_cev wide Try.func31 (an := huff_Put_an) (args := [v0, v1, v2, v3]) (cast (congrFun (huff_Put_eq v0 v1 v2 v3 Kp K) w).symm h))
theorem huff_Put_cn {v0 v1 v2 v3 : Value} {W : World} {α : Type} {A : List HP} {r : α → Value} {B : α → List HP} (h : ∀ F, Ent W (A ++ F) (huff_Put v0 v1 v2 v3 noP fun v w => ∃ x, v = r x ∧ sat W (B x ++ F) w)) : Cn Try.prog 31 [v0, v1, v2, v3] W A r B :=
  Cn.of (shape := huff_Put v0 v1 v2 v3) Try.call31 (fun h => huff_Put_calls h) h
theorem huff_Put_cnP {v0 v1 v2 v3 : Value} {W : World} {α β : Type} {A : List HP} {r : α → Value} {B : α → List HP} {pc : β → List PanicEntry} {Bp : β → List HP} (h : ∀ F, Ent W (A ++ F) (huff_Put v0 v1 v2 v3 (fun ch w => ∃ y, ch = pc y ∧ sat W (Bp y ++ F) w) fun v w => ∃ x, v = r x ∧ sat W (B x ++ F) w)) : CnP Try.prog 31 [v0, v1, v2, v3] W A r B pc Bp :=
  CnP.of (shape := huff_Put v0 v1 v2 v3) Try.call31 (fun h => huff_Put_calls h) h

/-- ref03_Put -/
def ref03_Put (v0 v1 v2 v3 : Value) (Kp : PK) (K : Value → WP) : WP :=
  opN Try.prog (sBin .lss 3 v3 (.int .i64 0)) Kp fun x11 =>
  gdK x11 false (fun k => k v3) fun x13 =>
  gdK x11 false (fun k => k v1) fun x14 =>
  gdK x11 false (opN Try.prog (sLen #[22] 3 [x14]) Kp) fun x15 =>
  gdK x11 false (opN Try.prog (sBin .geq 3 x13 x15) Kp) fun x16 =>
  opN Try.prog (sPick x11 (.bool true) x16) Kp fun x17 =>
  gdK x17 false (fun k => k v3) fun x19 =>
  gdK x17 false (fun k => k v2) fun x20 =>
  gdK x17 false (opN Try.prog (sLen #[22] 3 [x20]) Kp) fun x21 =>
  gdK x17 false (opN Try.prog (sBin .geq 3 x19 x21) Kp) fun x22 =>
  opN Try.prog (sPick x17 (.bool true) x22) Kp fun x23 =>
  condS x23
  (K (.int .i64 1))
  (opN Try.prog (sIA 22 v2 v3) Kp fun x26 =>
   opN Try.prog (sLoad 3 x26) Kp fun x27 =>
   opN Try.prog (sBin .lss 3 x27 (.int .i64 1)) Kp fun x29 =>
   gdK x29 false (fun k => k x27) fun x31 =>
   gdK x29 false (opN Try.prog (sBin .gtr 3 x31 (.int .i64 15)) Kp) fun x32 =>
   opN Try.prog (sPick x29 (.bool true) x32) Kp fun x33 =>
   gdK x33 false (fun k => k v1) fun x35 =>
   gdK x33 false (fun k => k v3) fun x36 =>
   gdK x33 false (opN Try.prog (sIA 22 x35 x36) Kp) fun x37 =>
   gdK x33 false (opN Try.prog (sLoad 3 x37) Kp) fun x38 =>
   gdK x33 false (opN Try.prog (sBin .lss 3 x38 (.int .i64 0)) Kp) fun x39 =>
   opN Try.prog (sPick x33 (.bool true) x39) Kp fun x40 =>
   gdK x40 false (fun k => k v1) fun x42 =>
   gdK x40 false (fun k => k v3) fun x43 =>
   gdK x40 false (opN Try.prog (sIA 22 x42 x43) Kp) fun x44 =>
   gdK x40 false (opN Try.prog (sLoad 3 x44) Kp) fun x45 =>
   gdK x40 false (fun k => k x27) fun x46 =>
   gdK x40 false (opN Try.prog (sConv 3 33 x46) Kp) fun x47 =>
   gdK x40 false (opN Try.prog (sBin .shl 3 (.int .i64 1) x47) Kp) fun x48 =>
   gdK x40 false (opN Try.prog (sBin .geq 3 x45 x48) Kp) fun x49 =>
   opN Try.prog (sPick x40 (.bool true) x49) Kp fun x50 =>
   condS x50
   (K (.int .i64 1))
   (opN Try.prog (sIA 22 v1 v3) Kp fun x54 =>
    opN Try.prog (sLoad 3 x54) Kp fun x55 =>
    opN Try.prog (sCall (fn 57) [x55, x27]) Kp fun x57 =>
    opN Try.prog (sCall (fn 56) [v0, x57, x27]) Kp fun x59 =>
    K x59))
def ref03_Put_an : Ann := { cuts := [], blks := [], loops := [], drs := [] }
theorem ref03_Put_eq (v0 v1 v2 v3 : Value) (Kp : PK) (K : Value → WP) : cevF Try.prog ref03_Put_an Try.f32 [v0, v1, v2, v3] Kp K = ref03_Put v0 v1 v2 v3 Kp K := by kernel_rfl
theorem ref03_Put_calls {v0 v1 v2 v3 : Value} {Kp : PK} {K : Value → WP} {w : World} (h : ref03_Put v0 v1 v2 v3 Kp K w) : Calls Try.prog 32 #[v0, v1, v2, v3] w (after Kp K) :=
  calls_of_shape (calls_of_cev wide Try.func32 (an := ref03_Put_an) (args := [v0, v1, v2, v3]) (cast (congrFun (ref03_Put_eq v0 v1 v2 v3 Kp K) w).symm h))
theorem ref03_Put_cn {v0 v1 v2 v3 : Value} {W : World} {α : Type} {A : List HP} {r : α → Value} {B : α → List HP} (h : ∀ F, Ent W (A ++ F) (ref03_Put v0 v1 v2 v3 noP fun v w => ∃ x, v = r x ∧ sat W (B x ++ F) w)) : Cn Try.prog 32 [v0, v1, v2, v3] W A r B :=
  Cn.of (shape := ref03_Put v0 v1 v2 v3) Try.call32 (fun h => ref03_Put_calls h) h
theorem ref03_Put_cnP {v0 v1 v2 v3 : Value} {W : World} {α β : Type} {A : List HP} {r : α → Value} {B : α → List HP} {pc : β → List PanicEntry} {Bp : β → List HP} (h : ∀ F, Ent W (A ++ F) (ref03_Put v0 v1 v2 v3 (fun ch w => ∃ y, ch = pc y ∧ sat W (Bp y ++ F) w) fun v w => ∃ x, v = r x ∧ sat W (B x ++ F) w)) : CnP Try.prog 32 [v0, v1, v2, v3] W A r B pc Bp :=
  CnP.of (shape := ref03_Put v0 v1 v2 v3) Try.call32 (fun h => ref03_Put_calls h) h

/-- bits_Writer_Bytes -/
def bits_Writer_Bytes (v0 : Value) (Kp : PK) (K : Value → WP) : WP :=
  opN Try.prog (sCall (fn 58) [v0]) Kp fun x4 =>
  condS x4
  (K (.slice none 0 0))
  (opN Try.prog (sNil v0) Kp fun x6 =>
   opN Try.prog (sFA 106 x6 0) Kp fun x7 =>
   opN Try.prog (sLoad 39 x7) Kp fun x8 =>
   opN Try.prog (sApp #[39, 39] 39 [(.slice none 0 0), x8]) Kp fun x9 =>
   K x9)
def bits_Writer_Bytes_an : Ann := { cuts := [], blks := [], loops := [], drs := [] }
theorem bits_Writer_Bytes_eq (v0 : Value) (Kp : PK) (K : Value → WP) : cevF Try.prog bits_Writer_Bytes_an Try.f33 [v0] Kp K = bits_Writer_Bytes v0 Kp K := by kernel_rfl
theorem bits_Writer_Bytes_calls {v0 : Value} {Kp : PK} {K : Value → WP} {w : World} (h : bits_Writer_Bytes v0 Kp K w) : Calls Try.prog 33 #[v0] w (after Kp K) :=
  calls_of_shape (calls_of_cev wide Try.func33 (an := bits_Writer_Bytes_an) (args := [v0]) (cast (congrFun (bits_Writer_Bytes_eq v0 Kp K) w).symm h))
theorem bits_Writer_Bytes_cn {v0 : Value} {W : World} {α : Type} {A : List HP} {r : α → Value} {B : α → List HP} (h : ∀ F, Ent W (A ++ F) (bits_Writer_Bytes v0 noP fun v w => ∃ x, v = r x ∧ sat W (B x ++ F) w)) : Cn Try.prog 33 [v0] W A r B :=
  Cn.of (shape := bits_Writer_Bytes v0) Try.call33 (fun h => bits_Writer_Bytes_calls h) h
theorem bits_Writer_Bytes_cnP {v0 : Value} {W : World} {α β : Type} {A : List HP} {r : α → Value} {B : α → List HP} {pc : β → List PanicEntry} {Bp : β → List HP} (h : ∀ F, Ent W (A ++ F) (bits_Writer_Bytes v0 (fun ch w => ∃ y, ch = pc y ∧ sat W (Bp y ++ F) w) fun v w => ∃ x, v = r x ∧ sat W (B x ++ F) w)) : CnP Try.prog 33 [v0] W A r B pc Bp :=
  CnP.of (shape := bits_Writer_Bytes v0) Try.call33 (fun h => bits_Writer_Bytes_calls h) h

/-- ref02_Writer_Bytes -/
def ref02_Writer_Bytes (v0 : Value) (Kp : PK) (K : Value → WP) : WP :=
  opN Try.prog (sNil v0) Kp fun x6 =>
  opN Try.prog (sFA 59 x6 0) Kp fun x7 =>
  opN Try.prog (sLoad 39 x7) Kp fun x8 =>
  opN Try.prog (sLen #[39] 3 [x8]) Kp fun x9 =>
  opN Try.prog (sBin .add 3 x9 (.int .i64 7)) Kp fun x10 =>
  opN Try.prog (sBin .quo 3 x10 (.int .i64 8)) Kp fun x11 =>
  opN Try.prog (sMkSl 39 x11 x11) Kp fun x12 =>
  loop1 (fun I1 m1 _ y4 =>
   opN Try.prog (sNil v0) Kp fun x15 =>
   opN Try.prog (sFA 59 x15 0) Kp fun x16 =>
   opN Try.prog (sLoad 39 x16) Kp fun x17 =>
   opN Try.prog (sLen #[39] 3 [x17]) Kp fun x18 =>
   opN Try.prog (sBin .lss 3 y4 x18) Kp fun x19 =>
   condS x19
   (drS (stS Try.prog (sBin .quo 3 y4 (.int .i64 8)) fun x24 =>
     stS Try.prog (sBin .quo 3 y4 (.int .i64 8)) fun x27 =>
     stS Try.prog (sIA 39 x12 x27) fun x28 =>
     stS Try.prog (sLoad 5 x28) fun x29 =>
     stS Try.prog (sNil v0) fun x31 =>
     stS Try.prog (sFA 59 x31 0) fun x32 =>
     stS Try.prog (sLoad 39 x32) fun x33 =>
     stS Try.prog (sIA 39 x33 y4) fun x35 =>
     stS Try.prog (sLoad 5 x35) fun x36 =>
     stS Try.prog (sBin .rem 3 y4 (.int .i64 8)) fun x38 =>
     stS Try.prog (sConv 3 33 x38) fun x39 =>
     stS Try.prog (sBin .shl 5 x36 x39) fun x40 =>
     stS Try.prog (sBin .or 5 x29 x40) fun x41 =>
     stS Try.prog (sIA 39 x12 x24) fun x42 =>
     opN Try.prog (sStore 5 x42 x41) Kp fun _ =>
     opN Try.prog (sBin .add 3 y4 (.int .i64 1)) Kp fun x21 =>
     next1 I1 m1 x21))
   (K x12)) (.int .i64 0)
def ref02_Writer_Bytes_an : Ann := { cuts := [], blks := [], loops := [(3, [4])], drs := [(5, [(0, 1), (1, 1), (2, 1), (3, 1), (4, 1), (5, 1), (6, 1), (7, 1), (8, 1), (9, 1), (10, 1), (11, 1), (12, 1), (13, 1), (14, 1), (15, 1), (16, 1), (17, 1), (18, 1), (19, 1), (20, 1), (21, 0)])] }
theorem ref02_Writer_Bytes_eq (v0 : Value) (Kp : PK) (K : Value → WP) : cevF Try.prog ref02_Writer_Bytes_an Try.f34 [v0] Kp K = ref02_Writer_Bytes v0 Kp K := by kernel_rfl
theorem ref02_Writer_Bytes_calls {v0 : Value} {Kp : PK} {K : Value → WP} {w : World} (h : ref02_Writer_Bytes v0 Kp K w) : Calls Try.prog 34 #[v0] w (after Kp K) :=
  calls_of_shape (calls_of_cev wide Try.func34 (an := ref02_Writer_Bytes_an) (args := [v0]) (cast (congrFun (ref02_Writer_Bytes_eq v0 Kp K) w).symm h))
theorem ref02_Writer_Bytes_cn {v0 : Value} {W : World} {α : Type} {A : List HP} {r : α → Value} {B : α → List HP} (h : ∀ F, Ent W (A ++ F) (ref02_Writer_Bytes v0 noP fun v w => ∃ x, v = r x ∧ sat W (B x ++ F) w)) : Cn Try.prog 34 [v0] W A r B :=
  Cn.of (shape := ref02_Writer_Bytes v0) Try.call34 (fun h => ref02_Writer_Bytes_calls h) h
theorem ref02_Writer_Bytes_cnP {v0 : Value} {W : World} {α β : Type} {A : List HP} {r : α → Value} {B : α → List HP} {pc : β → List PanicEntry} {Bp : β → List HP} (h : ∀ F, Ent W (A ++ F) (ref02_Writer_Bytes v0 (fun ch w => ∃ y, ch = pc y ∧ sat W (Bp y ++ F) w) fun v w => ∃ x, v = r x ∧ sat W (B x ++ F) w)) : CnP Try.prog 34 [v0] W A r B pc Bp :=
  CnP.of (shape := ref02_Writer_Bytes v0) Try.call34 (fun h => ref02_Writer_Bytes_calls h) h

/-- huff_NewDecoder -/
def huff_NewDecoder (v0 : Value) (Kp : PK) (K : Value → WP) : WP :=
  opN Try.prog (sCall (fn 20) [v0]) Kp fun x11 =>
  opN Try.prog (sExt x11 0) Kp fun x12 =>
  opN Try.prog (sExt x11 1) Kp fun x13 =>
  opN Try.prog (sEq .neq 23 (.tmp 14) (.const (.int .i64 0)) x13 (.int .i64 0)) Kp fun x15 =>
  condS x15
  (K (.tuple #[(.pointer none), x13]))
  (opN Try.prog (sMkMap 80 none) Kp fun x17 =>
   opN Try.prog (sBuild 82 [(0, x17)]) Kp fun x18 =>
   opN Try.prog (sBox 82 x18) Kp fun x19 =>
   opN Try.prog (sLen #[22] 3 [v0]) Kp fun x21 =>
   loop1 (fun I1 m1 _ y22 =>
    opN Try.prog (sBin .lss 3 y22 x21) Kp fun x23 =>
    condS x23
    (opN Try.prog (sIA 22 v0 y22) Kp fun x25 =>
     opN Try.prog (sLoad 3 x25) Kp fun x26 =>
     opN Try.prog (sBin .gtr 3 x26 (.int .i64 0)) Kp fun x28 =>
     condS x28
     (drS (stS Try.prog (sNil x19) fun x30 =>
       stS Try.prog (sFA 82 x30 0) fun x31 =>
       stS Try.prog (sLoad 80 x31) fun x32 =>
       stS Try.prog (sIA 22 x12 y22) fun x36 =>
       stS Try.prog (sLoad 3 x36) fun x37 =>
       stS Try.prog (sBuild 109 [(0, x26), (1, x37)]) fun x38 =>
       opN Try.prog (sMapSet 80 x32 x38 y22) Kp fun _ =>
       opN Try.prog (sBin .add 3 y22 (.int .i64 1)) Kp fun x40 =>
       next1 I1 m1 x40))
     (opN Try.prog (sBin .add 3 y22 (.int .i64 1)) Kp fun x40 =>
      next1 I1 m1 x40))
    (K (.tuple #[x19, (.int .i64 0)]))) (.int .i64 0))
def huff_NewDecoder_an : Ann := { cuts := [], blks := [], loops := [(6, [22])], drs := [(9, [(0, 1), (1, 1), (2, 1), (3, 1), (4, 1), (5, 1), (6, 1), (7, 1), (8, 1), (9, 1), (10, 1), (11, 0)])] }
theorem huff_NewDecoder_eq (v0 : Value) (Kp : PK) (K : Value → WP) : cevF Try.prog huff_NewDecoder_an Try.f35 [v0] Kp K = huff_NewDecoder v0 Kp K := by kernel_rfl
theorem huff_NewDecoder_calls {v0 : Value} {Kp : PK} {K : Value → WP} {w : World} (h : huff_NewDecoder v0 Kp K w) : Calls Try.prog 35 #[v0] w (after Kp K) :=
  calls_of_shape (calls_of_cev wide Try.func35 (an := huff_NewDecoder_an) (args := [v0]) (cast (congrFun (huff_NewDecoder_eq v0 Kp K) w).symm h))
theorem huff_NewDecoder_cn {v0 : Value} {W : World} {α : Type} {A : List HP} {r : α → Value} {B : α → List HP} (h : ∀ F, Ent W (A ++ F) (huff_NewDecoder v0 noP fun v w => ∃ x, v = r x ∧ sat W (B x ++ F) w)) : Cn Try.prog 35 [v0] W A r B :=
  Cn.of (shape := huff_NewDecoder v0) Try.call35 (fun h => huff_NewDecoder_calls h) h
theorem huff_NewDecoder_cnP {v0 : Value} {W : World} {α β : Type} {A : List HP} {r : α → Value} {B : α → List HP} {pc : β → List PanicEntry} {Bp : β → List HP} (h : ∀ F, Ent W (A ++ F) (huff_NewDecoder v0 (fun ch w => ∃ y, ch = pc y ∧ sat W (Bp y ++ F) w) fun v w => ∃ x, v = r x ∧ sat W (B x ++ F) w)) : CnP Try.prog 35 [v0] W A r B pc Bp :=
  CnP.of (shape := huff_NewDecoder v0) Try.call35 (fun h => huff_NewDecoder_calls h) h

/-- ref03_NewDecoder -/
def ref03_NewDecoder (v0 : Value) (Kp : PK) (K : Value → WP) : WP :=
  opN Try.prog (sCall (fn 21) [v0]) Kp fun x10 =>
  opN Try.prog (sExt x10 0) Kp fun x11 =>
  opN Try.prog (sExt x10 1) Kp fun x12 =>
  opN Try.prog (sEq .neq 3 (.tmp 13) (.const (.int .i64 0)) x12 (.int .i64 0)) Kp fun x14 =>
  condS x14
  (K (.tuple #[(.pointer none), x12]))
  (opN Try.prog (sCall (fn 51) [v0]) Kp fun x18 =>
   opN Try.prog (sExt x18 0) Kp fun x19 =>
   opN Try.prog (sExt x18 1) Kp fun x20 =>
   opN Try.prog (sBuildSl 22 0 []) Kp fun x21 =>
   opN Try.prog (sApp #[22, 22] 22 [x21, v0]) Kp fun x23 =>
   opN Try.prog (sBin .gtr 3 x19 (.int .i64 0)) Kp fun x26 =>
   opN Try.prog (sBuild 111 [(0, x23), (1, x11), (2, x26)]) Kp fun x27 =>
   opN Try.prog (sBox 111 x27) Kp fun x28 =>
   K (.tuple #[x28, (.int .i64 0)]))
def ref03_NewDecoder_an : Ann := { cuts := [], blks := [], loops := [], drs := [] }
theorem ref03_NewDecoder_eq (v0 : Value) (Kp : PK) (K : Value → WP) : cevF Try.prog ref03_NewDecoder_an Try.f36 [v0] Kp K = ref03_NewDecoder v0 Kp K := by kernel_rfl
theorem ref03_NewDecoder_calls {v0 : Value} {Kp : PK} {K : Value → WP} {w : World} (h : ref03_NewDecoder v0 Kp K w) : Calls Try.prog 36 #[v0] w (after Kp K) :=
  calls_of_shape (calls_of_cev wide Try.func36 (an := ref03_NewDecoder_an) (args := [v0]) (cast (congrFun (ref03_NewDecoder_eq v0 Kp K) w).symm h))
theorem ref03_NewDecoder_cn {v0 : Value} {W : World} {α : Type} {A : List HP} {r : α → Value} {B : α → List HP} (h : ∀ F, Ent W (A ++ F) (ref03_NewDecoder v0 noP fun v w => ∃ x, v = r x ∧ sat W (B x ++ F) w)) : Cn Try.prog 36 [v0] W A r B :=
  Cn.of (shape := ref03_NewDecoder v0) Try.call36 (fun h => ref03_NewDecoder_calls h) h
theorem ref03_NewDecoder_cnP {v0 : Value} {W : World} {α β : Type} {A : List HP} {r : α → Value} {B : α → List HP} {pc : β → List PanicEntry} {Bp : β → List HP} (h : ∀ F, Ent W (A ++ F) (ref03_NewDecoder v0 (fun ch w => ∃ y, ch = pc y ∧ sat W (Bp y ++ F) w) fun v w => ∃ x, v = r x ∧ sat W (B x ++ F) w)) : CnP Try.prog 36 [v0] W A r B pc Bp :=
  CnP.of (shape := ref03_NewDecoder v0) Try.call36 (fun h => ref03_NewDecoder_calls h) h

/-- bits_NewReader -/
def bits_NewReader (v0 : Value) (Kp : PK) (K : Value → WP) : WP :=
  opN Try.prog (sApp #[39, 39] 39 [(.slice none 0 0), v0]) Kp fun x4 =>
  opN Try.prog (sBuild 113 [(0, x4), (1, (.int .i64 0))]) Kp fun x5 =>
  opN Try.prog (sBuild 115 [(0, x5), (1, (.bool true))]) Kp fun x6 =>
  opN Try.prog (sBox 115 x6) Kp fun x7 =>
  K x7
def bits_NewReader_an : Ann := { cuts := [], blks := [], loops := [], drs := [] }
theorem bits_NewReader_eq (v0 : Value) (Kp : PK) (K : Value → WP) : cevF Try.prog bits_NewReader_an Try.f37 [v0] Kp K = bits_NewReader v0 Kp K := by kernel_rfl
theorem bits_NewReader_calls {v0 : Value} {Kp : PK} {K : Value → WP} {w : World} (h : bits_NewReader v0 Kp K w) : Calls Try.prog 37 #[v0] w (after Kp K) :=
  calls_of_shape (calls_of_cev wide Try.func37 (an := bits_NewReader_an) (args := [v0]) (cast (congrFun (bits_NewReader_eq v0 Kp K) w).symm h))
theorem bits_NewReader_cn {v0 : Value} {W : World} {α : Type} {A : List HP} {r : α → Value} {B : α → List HP} (h : ∀ F, Ent W (A ++ F) (bits_NewReader v0 noP fun v w => ∃ x, v = r x ∧ sat W (B x ++ F) w)) : Cn Try.prog 37 [v0] W A r B :=
  Cn.of (shape := bits_NewReader v0) Try.call37 (fun h => bits_NewReader_calls h) h
theorem bits_NewReader_cnP {v0 : Value} {W : World} {α β : Type} {A : List HP} {r : α → Value} {B : α → List HP} {pc : β → List PanicEntry} {Bp : β → List HP} (h : ∀ F, Ent W (A ++ F) (bits_NewReader v0 (fun ch w => ∃ y, ch = pc y ∧ sat W (Bp y ++ F) w) fun v w => ∃ x, v = r x ∧ sat W (B x ++ F) w)) : CnP Try.prog 37 [v0] W A r B pc Bp :=
  CnP.of (shape := bits_NewReader v0) Try.call37 (fun h => bits_NewReader_calls h) h

/-- ref02_NewReader -/
def ref02_NewReader (v0 : Value) (Kp : PK) (K : Value → WP) : WP :=
  opN Try.prog (sBuildSl 39 0 []) Kp fun x3 =>
  opN Try.prog (sApp #[39, 39] 39 [x3, v0]) Kp fun x5 =>
  opN Try.prog (sBuild 117 [(0, x5)]) Kp fun x6 =>
  opN Try.prog (sBox 117 x6) Kp fun x7 =>
  K x7
def ref02_NewReader_an : Ann := { cuts := [], blks := [], loops := [], drs := [] }
theorem ref02_NewReader_eq (v0 : Value) (Kp : PK) (K : Value → WP) : cevF Try.prog ref02_NewReader_an Try.f38 [v0] Kp K = ref02_NewReader v0 Kp K := by kernel_rfl
theorem ref02_NewReader_calls {v0 : Value} {Kp : PK} {K : Value → WP} {w : World} (h : ref02_NewReader v0 Kp K w) : Calls Try.prog 38 #[v0] w (after Kp K) :=
  calls_of_shape (calls_of_cev wide Try.func38 (an := ref02_NewReader_an) (args := [v0]) (cast (congrFun (ref02_NewReader_eq v0 Kp K) w).symm h))
theorem ref02_NewReader_cn {v0 : Value} {W : World} {α : Type} {A : List HP} {r : α → Value} {B : α → List HP} (h : ∀ F, Ent W (A ++ F) (ref02_NewReader v0 noP fun v w => ∃ x, v = r x ∧ sat W (B x ++ F) w)) : Cn Try.prog 38 [v0] W A r B :=
  Cn.of (shape := ref02_NewReader v0) Try.call38 (fun h => ref02_NewReader_calls h) h
theorem ref02_NewReader_cnP {v0 : Value} {W : World} {α β : Type} {A : List HP} {r : α → Value} {B : α → List HP} {pc : β → List PanicEntry} {Bp : β → List HP} (h : ∀ F, Ent W (A ++ F) (ref02_NewReader v0 (fun ch w => ∃ y, ch = pc y ∧ sat W (Bp y ++ F) w) fun v w => ∃ x, v = r x ∧ sat W (B x ++ F) w)) : CnP Try.prog 38 [v0] W A r B pc Bp :=
  CnP.of (shape := ref02_NewReader v0) Try.call38 (fun h => ref02_NewReader_calls h) h

/-- huff_Decoder_Next -/
def huff_Decoder_Next (v0 v1 : Value) (Kp : PK) (K : Value → WP) : WP :=
  opN Try.prog (sEq .eql 64 (.tmp 13) (.const (.pointer none)) v0 (.pointer none)) Kp fun x14 =>
  gdK x14 false (fun k => k v0) fun x16 =>
  gdK x14 false (opN Try.prog (sNil x16) Kp) fun x17 =>
  gdK x14 false (opN Try.prog (sFA 82 x17 0) Kp) fun x18 =>
  gdK x14 false (opN Try.prog (sLoad 80 x18) Kp) fun x19 =>
  gdK x14 false (opN Try.prog (sEq .eql 80 (.tmp 19) (.const (.map none)) x19 (.map none)) Kp) fun x20 =>
  opN Try.prog (sPick x14 (.bool true) x20) Kp fun x21 =>
  condS x21
  (K (.tuple #[(.int .i64 0), (.int .i64 1)]))
  (opN Try.prog (sCall (fn 59) [v1, (.int .i64 0)]) Kp fun x24 =>
   opN Try.prog (sExt x24 0) Kp fun x25 =>
   opN Try.prog (sExt x24 1) Kp fun x26 =>
   opN Try.prog (sEq .neq 23 (.tmp 27) (.const (.int .i64 0)) x26 (.int .i64 0)) Kp fun x28 =>
   condS x28
   (K (.tuple #[(.int .i64 0), x26]))
   (opN Try.prog (sNil v0) Kp fun x31 =>
    opN Try.prog (sFA 82 x31 0) Kp fun x32 =>
    opN Try.prog (sLoad 80 x32) Kp fun x33 =>
    opN Try.prog (sLen #[80] 3 [x33]) Kp fun x34 =>
    opN Try.prog (sEq .eql 3 (.tmp 34) (.const (.int .i64 0)) x34 (.int .i64 0)) Kp fun x35 =>
    condS x35
    (K (.tuple #[(.int .i64 0), (.int .i64 30)]))
    (opN Try.prog (sBuild 109 []) Kp fun x36 =>
     opN Try.prog (sAlloc 109) Kp fun x8 =>
     opN Try.prog (sStore 109 x8 x36) Kp fun _ =>
     loop1 (fun I1 m1 _ y37 =>
      opN Try.prog (sBin .lss 3 y37 (.int .i64 15)) Kp fun x38 =>
      condS x38
      (opN Try.prog (sCall (fn 59) [v1, (.int .i64 1)]) Kp fun x41 =>
       opN Try.prog (sExt x41 0) Kp fun x42 =>
       opN Try.prog (sExt x41 1) Kp fun x43 =>
       opN Try.prog (sEq .neq 23 (.tmp 44) (.const (.int .i64 0)) x43 (.int .i64 0)) Kp fun x45 =>
       condS x45
       (K (.tuple #[(.int .i64 0), x43]))
       (opN Try.prog (sFA 109 x8 0) Kp fun x47 =>
        opN Try.prog (sLoad 3 x47) Kp fun x48 =>
        opN Try.prog (sBin .add 3 x48 (.int .i64 1)) Kp fun x49 =>
        opN Try.prog (sFA 109 x8 0) Kp fun x50 =>
        opN Try.prog (sStore 3 x50 x49) Kp fun _ =>
        opN Try.prog (sFA 109 x8 1) Kp fun x51 =>
        opN Try.prog (sLoad 3 x51) Kp fun x52 =>
        opN Try.prog (sBin .shl 3 x52 (.int .u64 1)) Kp fun x53 =>
        opN Try.prog (sBin .or 3 x53 x42) Kp fun x55 =>
        opN Try.prog (sFA 109 x8 1) Kp fun x56 =>
        opN Try.prog (sStore 3 x56 x55) Kp fun _ =>
        drS (stS Try.prog (sNil v0) fun x59 =>
         stS Try.prog (sFA 82 x59 0) fun x60 =>
         stS Try.prog (sLoad 80 x60) fun x61 =>
         stS Try.prog (sLoad 109 x8) fun x62 =>
         stS Try.prog (sLook 80 x61 x62 true) fun x63 =>
         stS Try.prog (sExt x63 0) fun x64 =>
         stS Try.prog (sExt x63 1) fun x65 =>
         condS x65
         (K (.tuple #[x64, (.int .i64 0)]))
         (opN Try.prog (sBin .add 3 y37 (.int .i64 1)) Kp fun x68 =>
          next1 I1 m1 x68))))
      (K (.tuple #[(.int .i64 0), (.int .i64 30)]))) (.int .i64 0))))
def huff_Decoder_Next_an : Ann := { cuts := [], blks := [], loops := [(10, [37])], drs := [(16, [(0, 1), (1, 1), (2, 1), (3, 1), (4, 1), (5, 1), (6, 1), (7, 1), (8, 1), (9, 1), (10, 1)])] }
theorem huff_Decoder_Next_eq (v0 v1 : Value) (Kp : PK) (K : Value → WP) : cevF Try.prog huff_Decoder_Next_an Try.f39 [v0, v1] Kp K = huff_Decoder_Next v0 v1 Kp K := by kernel_rfl
theorem huff_Decoder_Next_calls {v0 v1 : Value} {Kp : PK} {K : Value → WP} {w : World} (h : huff_Decoder_Next v0 v1 Kp K w) : Calls Try.prog 39 #[v0, v1] w (after Kp K) :=
  calls_of_shape (calls_of_cev wide Try.func39 (an := huff_Decoder_Next_an) (args := [v0, v1]) (cast (congrFun (huff_Decoder_Next_eq v0 v1 Kp K) w).symm h))
theorem huff_Decoder_Next_cn {v0 v1 : Value} {W : World} {α : Type} {A : List HP} {r : α → Value} {B : α → List HP} (h : ∀ F, Ent W (A ++ F) (huff_Decoder_Next v0 v1 noP fun v w => ∃ x, v = r x ∧ sat W (B x ++ F) w)) : Cn Try.prog 39 [v0, v1] W A r B :=
  Cn.of (shape := huff_Decoder_Next v0 v1) Try.call39 (fun h => huff_Decoder_Next_calls h) h
theorem huff_Decoder_Next_cnP {v0 v1 : Value} {W : World} {α β : Type} {A : List HP} {r : α → Value} {B : α → List HP} {pc : β → List PanicEntry} {Bp : β → List HP} (h : ∀ F, Ent W (A ++ F) (huff_Decoder_Next v0 v1 (fun ch w => ∃ y, ch = pc y ∧ sat W (Bp y ++ F) w) fun v w => ∃ x, v = r x ∧ sat W (B x ++ F) w)) : CnP Try.prog 39 [v0, v1] W A r B pc Bp :=
  CnP.of (shape := huff_Decoder_Next v0 v1) Try.call39 (fun h => huff_Decoder_Next_calls h) h

/-- ref03_Decoder_Next -/
def ref03_Decoder_Next (v0 v1 : Value) (Kp : PK) (K : Value → WP) : WP :=
  opN Try.prog (sNil v0) Kp fun x12 =>
  opN Try.prog (sFA 111 x12 2) Kp fun x13 =>
  opN Try.prog (sLoad 4 x13) Kp fun x14 =>
  opN Try.prog (sUn .not x14) Kp fun x15 =>
  condS x15
  (K (.tuple #[(.int .i64 0), (.int .i64 30)]))
  (loop2 (fun I1 m1 _ y6 y7 =>
    opN Try.prog (sBin .leq 3 y7 (.int .i64 15)) Kp fun x17 =>
    condS x17
    (opN Try.prog (sCall (fn 60) [v1, (.int .i64 1)]) Kp fun x22 =>
     opN Try.prog (sExt x22 0) Kp fun x23 =>
     opN Try.prog (sExt x22 1) Kp fun x24 =>
     opN Try.prog (sEq .neq 3 (.tmp 25) (.const (.int .i64 0)) x24 (.int .i64 0)) Kp fun x26 =>
     condS x26
     (K (.tuple #[(.int .i64 0), x24]))
     (opN Try.prog (sBin .mul 3 (.int .i64 2) y6) Kp fun x29 =>
      opN Try.prog (sBin .add 3 x29 x23) Kp fun x31 =>
      loop1 (fun I2 m2 _ y10 =>
       opN Try.prog (sNil v0) Kp fun x34 =>
       opN Try.prog (sFA 111 x34 0) Kp fun x35 =>
       opN Try.prog (sLoad 22 x35) Kp fun x36 =>
       opN Try.prog (sLen #[22] 3 [x36]) Kp fun x37 =>
       opN Try.prog (sBin .lss 3 y10 x37) Kp fun x38 =>
       condS x38
       (opN Try.prog (sNil v0) Kp fun x42 =>
        opN Try.prog (sFA 111 x42 0) Kp fun x43 =>
        opN Try.prog (sLoad 22 x43) Kp fun x44 =>
        opN Try.prog (sIA 22 x44 y10) Kp fun x46 =>
        opN Try.prog (sLoad 3 x46) Kp fun x47 =>
        opN Try.prog (sEq .eql 3 (.tmp 47) (.tmp 48) x47 y7) Kp fun x49 =>
        gdK x49 true (fun k => k v0) fun x51 =>
        gdK x49 true (opN Try.prog (sNil x51) Kp) fun x52 =>
        gdK x49 true (opN Try.prog (sFA 111 x52 1) Kp) fun x53 =>
        gdK x49 true (opN Try.prog (sLoad 22 x53) Kp) fun x54 =>
        gdK x49 true (fun k => k y10) fun x55 =>
        gdK x49 true (opN Try.prog (sIA 22 x54 x55) Kp) fun x56 =>
        gdK x49 true (opN Try.prog (sLoad 3 x56) Kp) fun x57 =>
        gdK x49 true (fun k => k x31) fun x58 =>
        gdK x49 true (opN Try.prog (sEq .eql 3 (.tmp 57) (.tmp 58) x57 x58) Kp) fun x59 =>
        opN Try.prog (sPick x49 x59 (.bool false)) Kp fun x60 =>
        condS x60
        (K (.tuple #[y10, (.int .i64 0)]))
        (opN Try.prog (sBin .add 3 y10 (.int .i64 1)) Kp fun x40 =>
         next1 I2 m2 x40))
       (opN Try.prog (sBin .add 3 y7 (.int .i64 1)) Kp fun x19 =>
        next2 I1 m1 x31 x19)) (.int .i64 0)))
    (K (.tuple #[(.int .i64 0), (.int .i64 30)]))) (.int .i64 0) (.int .i64 1))
def ref03_Decoder_Next_an : Ann := { cuts := [], blks := [], loops := [(5, [6, 7]), (12, [10])], drs := [] }
theorem ref03_Decoder_Next_eq (v0 v1 : Value) (Kp : PK) (K : Value → WP) : cevF Try.prog ref03_Decoder_Next_an Try.f40 [v0, v1] Kp K = ref03_Decoder_Next v0 v1 Kp K := by kernel_rfl
theorem ref03_Decoder_Next_calls {v0 v1 : Value} {Kp : PK} {K : Value → WP} {w : World} (h : ref03_Decoder_Next v0 v1 Kp K w) : Calls Try.prog 40 #[v0, v1] w (after Kp K) :=
  calls_of_shape (calls_of_cev wide Try.func40 (an := ref03_Decoder_Next_an) (args := [v0, v1]) (cast (congrFun (ref03_Decoder_Next_eq v0 v1 Kp K) w).symm h))
theorem ref03_Decoder_Next_cn {v0 v1 : Value} {W : World} {α : Type} {A : List HP} {r : α → Value} {B : α → List HP} (h : ∀ F, Ent W (A ++ F) (ref03_Decoder_Next v0 v1 noP fun v w => ∃ x, v = r x ∧ sat W (B x ++ F) w)) : Cn Try.prog 40 [v0, v1] W A r B :=
  Cn.of (shape := ref03_Decoder_Next v0 v1) Try.call40 (fun h => ref03_Decoder_Next_calls h) h
theorem ref03_Decoder_Next_cnP {v0 v1 : Value} {W : World} {α β : Type} {A : List HP} {r : α → Value} {B : α → List HP} {pc : β → List PanicEntry} {Bp : β → List HP} (h : ∀ F, Ent W (A ++ F) (ref03_Decoder_Next v0 v1 (fun ch w => ∃ y, ch = pc y ∧ sat W (Bp y ++ F) w) fun v w => ∃ x, v = r x ∧ sat W (B x ++ F) w)) : CnP Try.prog 40 [v0, v1] W A r B pc Bp :=
  CnP.of (shape := ref03_Decoder_Next v0 v1) Try.call40 (fun h => ref03_Decoder_Next_calls h) h

/-- bits_Reader_Left -/
def bits_Reader_Left (v0 : Value) (Kp : PK) (K : Value → WP) : WP :=
  opN Try.prog (sCall (fn 61) [v0]) Kp fun x4 =>
  condS x4
  (K (.int .i64 0))
  (opN Try.prog (sNil v0) Kp fun x6 =>
   opN Try.prog (sFA 115 x6 0) Kp fun x7 =>
   opN Try.prog (sCall (fn 62) [x7]) Kp fun x8 =>
   K x8)
def bits_Reader_Left_an : Ann := { cuts := [], blks := [], loops := [], drs := [] }
theorem bits_Reader_Left_eq (v0 : Value) (Kp : PK) (K : Value → WP) : cevF Try.prog bits_Reader_Left_an Try.f41 [v0] Kp K = bits_Reader_Left v0 Kp K := by kernel_rfl
theorem bits_Reader_Left_calls {v0 : Value} {Kp : PK} {K : Value → WP} {w : World} (h : bits_Reader_Left v0 Kp K w) : Calls Try.prog 41 #[v0] w (after Kp K) :=
  calls_of_shape (calls_of_cev wide Try.func41 (an := bits_Reader_Left_an) (args := [v0]) (cast (congrFun (bits_Reader_Left_eq v0 Kp K) w).symm h))
theorem bits_Reader_Left_cn {v0 : Value} {W : World} {α : Type} {A : List HP} {r : α → Value} {B : α → List HP} (h : ∀ F, Ent W (A ++ F) (bits_Reader_Left v0 noP fun v w => ∃ x, v = r x ∧ sat W (B x ++ F) w)) : Cn Try.prog 41 [v0] W A r B :=
  Cn.of (shape := bits_Reader_Left v0) Try.call41 (fun h => bits_Reader_Left_calls h) h
theorem bits_Reader_Left_cnP {v0 : Value} {W : World} {α β : Type} {A : List HP} {r : α → Value} {B : α → List HP} {pc : β → List PanicEntry} {Bp : β → List HP} (h : ∀ F, Ent W (A ++ F) (bits_Reader_Left v0 (fun ch w => ∃ y, ch = pc y ∧ sat W (Bp y ++ F) w) fun v w => ∃ x, v = r x ∧ sat W (B x ++ F) w)) : CnP Try.prog 41 [v0] W A r B pc Bp :=
  CnP.of (shape := bits_Reader_Left v0) Try.call41 (fun h => bits_Reader_Left_calls h) h

/-- ref02_Reader_Left -/
def ref02_Reader_Left (v0 : Value) (Kp : PK) (K : Value → WP) : WP :=
  drS (stS Try.prog (sNil v0) fun x4 =>
   stS Try.prog (sFA 117 x4 0) fun x5 =>
   stS Try.prog (sLoad 39 x5) fun x6 =>
   stS Try.prog (sLen #[39] 3 [x6]) fun x7 =>
   stS Try.prog (sBin .mul 3 (.int .i64 8) x7) fun x8 =>
   stS Try.prog (sNil v0) fun x10 =>
   stS Try.prog (sFA 117 x10 1) fun x11 =>
   stS Try.prog (sLoad 3 x11) fun x12 =>
   stS Try.prog (sBin .sub 3 x8 x12) fun x13 =>
   K x13)
def ref02_Reader_Left_an : Ann := { cuts := [], blks := [], loops := [], drs := [(1, [(0, 1), (1, 1), (2, 1), (3, 1), (4, 1), (5, 1), (6, 1), (7, 1), (8, 1), (9, 1), (10, 1), (11, 1)])] }
theorem ref02_Reader_Left_eq (v0 : Value) (Kp : PK) (K : Value → WP) : cevF Try.prog ref02_Reader_Left_an Try.f42 [v0] Kp K = ref02_Reader_Left v0 Kp K := by kernel_rfl
theorem ref02_Reader_Left_calls {v0 : Value} {Kp : PK} {K : Value → WP} {w : World} (h : ref02_Reader_Left v0 Kp K w) : Calls Try.prog 42 #[v0] w (after Kp K) :=
  calls_of_shape (calls_of_cev wide Try.func42 (an := ref02_Reader_Left_an) (args := [v0]) (cast (congrFun (ref02_Reader_Left_eq v0 Kp K) w).symm h))
theorem ref02_Reader_Left_cn {v0 : Value} {W : World} {α : Type} {A : List HP} {r : α → Value} {B : α → List HP} (h : ∀ F, Ent W (A ++ F) (ref02_Reader_Left v0 noP fun v w => ∃ x, v = r x ∧ sat W (B x ++ F) w)) : Cn Try.prog 42 [v0] W A r B :=
  Cn.of (shape := ref02_Reader_Left v0) Try.call42 (fun h => ref02_Reader_Left_calls h) h
theorem ref02_Reader_Left_cnP {v0 : Value} {W : World} {α β : Type} {A : List HP} {r : α → Value} {B : α → List HP} {pc : β → List PanicEntry} {Bp : β → List HP} (h : ∀ F, Ent W (A ++ F) (ref02_Reader_Left v0 (fun ch w => ∃ y, ch = pc y ∧ sat W (Bp y ++ F) w) fun v w => ∃ x, v = r x ∧ sat W (B x ++ F) w)) : CnP Try.prog 42 [v0] W A r B pc Bp :=
  CnP.of (shape := ref02_Reader_Left v0) Try.call42 (fun h => ref02_Reader_Left_calls h) h

/-- slices_SortStableFunc_huff_weighed_int_huff_weighed_int -/
def slices_SortStableFunc_huff_weighed_int_huff_weighed_int (v0 v1 : Value) (Kp : PK) (K : Value → WP) : WP :=
  opN Try.prog (sLen #[84] 3 [v0]) Kp fun x6 =>
  opN Try.prog (sCall (fn 63) [v0, x6, v1]) Kp fun x8 =>
  K (.tuple #[])
def slices_SortStableFunc_huff_weighed_int_huff_weighed_int_an : Ann := { cuts := [], blks := [], loops := [], drs := [] }
theorem slices_SortStableFunc_huff_weighed_int_huff_weighed_int_eq (v0 v1 : Value) (Kp : PK) (K : Value → WP) : cevF Try.prog slices_SortStableFunc_huff_weighed_int_huff_weighed_int_an Try.f43 [v0, v1] Kp K = slices_SortStableFunc_huff_weighed_int_huff_weighed_int v0 v1 Kp K := by kernel_rfl
theorem slices_SortStableFunc_huff_weighed_int_huff_weighed_int_calls {v0 v1 : Value} {Kp : PK} {K : Value → WP} {w : World} (h : slices_SortStableFunc_huff_weighed_int_huff_weighed_int v0 v1 Kp K w) : Calls Try.prog 43 #[v0, v1] w (after Kp K) :=
  calls_of_shape (calls_of_cev wide Try.func43 (an := slices_SortStableFunc_huff_weighed_int_huff_weighed_int_an) (args := [v0, v1]) (cast (congrFun (slices_SortStableFunc_huff_weighed_int_huff_weighed_int_eq v0 v1 Kp K) w).symm h))
theorem slices_SortStableFunc_huff_weighed_int_huff_weighed_int_cn {v0 v1 : Value} {W : World} {α : Type} {A : List HP} {r : α → Value} {B : α → List HP} (h : ∀ F, Ent W (A ++ F) (slices_SortStableFunc_huff_weighed_int_huff_weighed_int v0 v1 noP fun v w => ∃ x, v = r x ∧ sat W (B x ++ F) w)) : Cn Try.prog 43 [v0, v1] W A r B :=
  Cn.of (shape := slices_SortStableFunc_huff_weighed_int_huff_weighed_int v0 v1) Try.call43 (fun h => slices_SortStableFunc_huff_weighed_int_huff_weighed_int_calls h) h
theorem slices_SortStableFunc_huff_weighed_int_huff_weighed_int_cnP {v0 v1 : Value} {W : World} {α β : Type} {A : List HP} {r : α → Value} {B : α → List HP} {pc : β → List PanicEntry} {Bp : β → List HP} (h : ∀ F, Ent W (A ++ F) (slices_SortStableFunc_huff_weighed_int_huff_weighed_int v0 v1 (fun ch w => ∃ y, ch = pc y ∧ sat W (Bp y ++ F) w) fun v w => ∃ x, v = r x ∧ sat W (B x ++ F) w)) : CnP Try.prog 43 [v0, v1] W A r B pc Bp :=
  CnP.of (shape := slices_SortStableFunc_huff_weighed_int_huff_weighed_int v0 v1) Try.call43 (fun h => slices_SortStableFunc_huff_weighed_int_huff_weighed_int_calls h) h

/-- huff_Lengths_1 -/
def huff_Lengths_1 (v0 v1 : Value) (Kp : PK) (K : Value → WP) : WP :=
  opN Try.prog (sBox 86 v0) Kp fun x2 =>
  opN Try.prog (sBox 86 v1) Kp fun x3 =>
  opN Try.prog (sFA 86 x2 0) Kp fun x5 =>
  opN Try.prog (sLoad 3 x5) Kp fun x6 =>
  opN Try.prog (sFA 86 x3 0) Kp fun x7 =>
  opN Try.prog (sLoad 3 x7) Kp fun x8 =>
  opN Try.prog (sCall (fn 45) [x6, x8]) Kp fun x9 =>
  K x9
def huff_Lengths_1_an : Ann := { cuts := [], blks := [], loops := [], drs := [] }
theorem huff_Lengths_1_eq (v0 v1 : Value) (Kp : PK) (K : Value → WP) : cevF Try.prog huff_Lengths_1_an Try.f44 [v0, v1] Kp K = huff_Lengths_1 v0 v1 Kp K := by kernel_rfl
theorem huff_Lengths_1_calls {v0 v1 : Value} {Kp : PK} {K : Value → WP} {w : World} (h : huff_Lengths_1 v0 v1 Kp K w) : Calls Try.prog 44 #[v0, v1] w (after Kp K) :=
  calls_of_shape (calls_of_cev wide Try.func44 (an := huff_Lengths_1_an) (args := [v0, v1]) (cast (congrFun (huff_Lengths_1_eq v0 v1 Kp K) w).symm h))
theorem huff_Lengths_1_cn {v0 v1 : Value} {W : World} {α : Type} {A : List HP} {r : α → Value} {B : α → List HP} (h : ∀ F, Ent W (A ++ F) (huff_Lengths_1 v0 v1 noP fun v w => ∃ x, v = r x ∧ sat W (B x ++ F) w)) : Cn Try.prog 44 [v0, v1] W A r B :=
  Cn.of (shape := huff_Lengths_1 v0 v1) Try.call44 (fun h => huff_Lengths_1_calls h) h
theorem huff_Lengths_1_cnP {v0 v1 : Value} {W : World} {α β : Type} {A : List HP} {r : α → Value} {B : α → List HP} {pc : β → List PanicEntry} {Bp : β → List HP} (h : ∀ F, Ent W (A ++ F) (huff_Lengths_1 v0 v1 (fun ch w => ∃ y, ch = pc y ∧ sat W (Bp y ++ F) w) fun v w => ∃ x, v = r x ∧ sat W (B x ++ F) w)) : CnP Try.prog 44 [v0, v1] W A r B pc Bp :=
  CnP.of (shape := huff_Lengths_1 v0 v1) Try.call44 (fun h => huff_Lengths_1_calls h) h

/-- cmp_Compare_int -/
def cmp_Compare_int (v0 v1 : Value) (Kp : PK) (K : Value → WP) : WP :=
  opN Try.prog (sCall (fn 64) [v0]) Kp fun x8 =>
  opN Try.prog (sCall (fn 64) [v1]) Kp fun x10 =>
  condS x8
  (condS x10
   (K (.int .i64 0))
   (K (.int .i64 (-1))))
  (condS x10
   (K (.int .i64 1))
   (opN Try.prog (sBin .lss 3 v0 v1) Kp fun x16 =>
    condS x16
    (K (.int .i64 (-1)))
    (opN Try.prog (sBin .gtr 3 v0 v1) Kp fun x19 =>
     condS x19
     (K (.int .i64 1))
     (K (.int .i64 0)))))
def cmp_Compare_int_an : Ann := { cuts := [], blks := [], loops := [], drs := [] }
theorem cmp_Compare_int_eq (v0 v1 : Value) (Kp : PK) (K : Value → WP) : cevF Try.prog cmp_Compare_int_an Try.f45 [v0, v1] Kp K = cmp_Compare_int v0 v1 Kp K := by kernel_rfl
theorem cmp_Compare_int_calls {v0 v1 : Value} {Kp : PK} {K : Value → WP} {w : World} (h : cmp_Compare_int v0 v1 Kp K w) : Calls Try.prog 45 #[v0, v1] w (after Kp K) :=
  calls_of_shape (calls_of_cev wide Try.func45 (an := cmp_Compare_int_an) (args := [v0, v1]) (cast (congrFun (cmp_Compare_int_eq v0 v1 Kp K) w).symm h))
theorem cmp_Compare_int_cn {v0 v1 : Value} {W : World} {α : Type} {A : List HP} {r : α → Value} {B : α → List HP} (h : ∀ F, Ent W (A ++ F) (cmp_Compare_int v0 v1 noP fun v w => ∃ x, v = r x ∧ sat W (B x ++ F) w)) : Cn Try.prog 45 [v0, v1] W A r B :=
  Cn.of (shape := cmp_Compare_int v0 v1) Try.call45 (fun h => cmp_Compare_int_calls h) h
theorem cmp_Compare_int_cnP {v0 v1 : Value} {W : World} {α β : Type} {A : List HP} {r : α → Value} {B : α → List HP} {pc : β → List PanicEntry} {Bp : β → List HP} (h : ∀ F, Ent W (A ++ F) (cmp_Compare_int v0 v1 (fun ch w => ∃ y, ch = pc y ∧ sat W (Bp y ++ F) w) fun v w => ∃ x, v = r x ∧ sat W (B x ++ F) w)) : CnP Try.prog 45 [v0, v1] W A r B pc Bp :=
  CnP.of (shape := cmp_Compare_int v0 v1) Try.call45 (fun h => cmp_Compare_int_calls h) h

/-- slices_Concat_int_int -/
def slices_Concat_int_int (v0 : Value) (Kp : PK) (K : Value → WP) : WP :=
  opN Try.prog (sLen #[122] 3 [v0]) Kp fun x10 =>
  loop2 (fun I1 m1 _ y3 y11 =>
   opN Try.prog (sBin .lss 3 y11 x10) Kp fun x12 =>
   condS x12
   (opN Try.prog (sIA 122 v0 y11) Kp fun x13 =>
    opN Try.prog (sLoad 22 x13) Kp fun x14 =>
    opN Try.prog (sLen #[22] 3 [x14]) Kp fun x17 =>
    opN Try.prog (sBin .add 3 y3 x17) Kp fun x18 =>
    opN Try.prog (sBin .lss 3 x18 (.int .i64 0)) Kp fun x20 =>
    condS x20
    (opN Try.prog (sMkI 9 (.string ⟨#[108, 101, 110, 32, 111, 117, 116, 32, 111, 102, 32, 114, 97, 110, 103, 101]⟩)) Kp fun x21 =>
     opN Try.prog (sPanic x21) Kp fun _ =>
     opN Try.prog (sBin .add 3 y11 (.int .i64 1)) Kp fun x22 =>
     next2 I1 m1 x18 x22)
    (opN Try.prog (sBin .add 3 y11 (.int .i64 1)) Kp fun x22 =>
     next2 I1 m1 x18 x22))
   (opN Try.prog (sCall (fn 65) [(.slice none 0 0), y3]) Kp fun x24 =>
    opN Try.prog (sLen #[122] 3 [v0]) Kp fun x26 =>
    loop2 (fun I2 m2 _ y6 y27 =>
     opN Try.prog (sBin .lss 3 y27 x26) Kp fun x28 =>
     condS x28
     (opN Try.prog (sIA 122 v0 y27) Kp fun x29 =>
      opN Try.prog (sLoad 22 x29) Kp fun x30 =>
      opN Try.prog (sApp #[22, 22] 22 [y6, x30]) Kp fun x33 =>
      opN Try.prog (sBin .add 3 y27 (.int .i64 1)) Kp fun x34 =>
      next2 I2 m2 x33 x34)
     (K y6)) x24 (.int .i64 0))) (.int .i64 0) (.int .i64 0)
def slices_Concat_int_int_an : Ann := { cuts := [], blks := [], loops := [(3, [3, 11]), (11, [6, 27])], drs := [] }
theorem slices_Concat_int_int_eq (v0 : Value) (Kp : PK) (K : Value → WP) : cevF Try.prog slices_Concat_int_int_an Try.f46 [v0] Kp K = slices_Concat_int_int v0 Kp K := by kernel_rfl
theorem slices_Concat_int_int_calls {v0 : Value} {Kp : PK} {K : Value → WP} {w : World} (h : slices_Concat_int_int v0 Kp K w) : Calls Try.prog 46 #[v0] w (after Kp K) :=
  calls_of_shape (calls_of_cev wide Try.func46 (an := slices_Concat_int_int_an) (args := [v0]) (cast (congrFun (slices_Concat_int_int_eq v0 Kp K) w).symm h))
theorem slices_Concat_int_int_cn {v0 : Value} {W : World} {α : Type} {A : List HP} {r : α → Value} {B : α → List HP} (h : ∀ F, Ent W (A ++ F) (slices_Concat_int_int v0 noP fun v w => ∃ x, v = r x ∧ sat W (B x ++ F) w)) : Cn Try.prog 46 [v0] W A r B :=
  Cn.of (shape := slices_Concat_int_int v0) Try.call46 (fun h => slices_Concat_int_int_calls h) h
theorem slices_Concat_int_int_cnP {v0 : Value} {W : World} {α β : Type} {A : List HP} {r : α → Value} {B : α → List HP} {pc : β → List PanicEntry} {Bp : β → List HP} (h : ∀ F, Ent W (A ++ F) (slices_Concat_int_int v0 (fun ch w => ∃ y, ch = pc y ∧ sat W (Bp y ++ F) w) fun v w => ∃ x, v = r x ∧ sat W (B x ++ F) w)) : CnP Try.prog 46 [v0] W A r B pc Bp :=
  CnP.of (shape := slices_Concat_int_int v0) Try.call46 (fun h => slices_Concat_int_int_calls h) h

/-- huff_merge_int -/
def huff_merge_int (v0 v1 : Value) (Kp : PK) (K : Value → WP) : WP :=
  opN Try.prog (sLen #[84] 3 [v0]) Kp fun x7 =>
  opN Try.prog (sLen #[84] 3 [v1]) Kp fun x9 =>
  opN Try.prog (sBin .add 3 x7 x9) Kp fun x10 =>
  opN Try.prog (sMkSl 84 (.int .i64 0) x10) Kp fun x11 =>
  loop3 (fun I1 m1 _ y0 y1 y5 =>
   opN Try.prog (sLen #[84] 3 [y0]) Kp fun x22 =>
   opN Try.prog (sEq .eql 3 (.tmp 22) (.const (.int .i64 0)) x22 (.int .i64 0)) Kp fun x23 =>
   condS x23
   (opN Try.prog (sApp #[84, 84] 84 [y5, y1]) Kp fun x26 =>
    K x26)
   (drS (stS Try.prog (sLen #[84] 3 [y1]) fun x29 =>
     stS Try.prog (sBin .gtr 3 x29 (.int .i64 0)) fun x30 =>
     gdK x30 true (fun k => k y1) fun x32 =>
     gdK x30 true (stS Try.prog (sIA 84 x32 (.int .i64 0))) fun x33 =>
     gdK x30 true (stS Try.prog (sFA 86 x33 0)) fun x34 =>
     gdK x30 true (stS Try.prog (sLoad 3 x34)) fun x35 =>
     gdK x30 true (fun k => k y0) fun x36 =>
     gdK x30 true (stS Try.prog (sIA 84 x36 (.int .i64 0))) fun x37 =>
     gdK x30 true (stS Try.prog (sFA 86 x37 0)) fun x38 =>
     gdK x30 true (stS Try.prog (sLoad 3 x38)) fun x39 =>
     gdK x30 true (stS Try.prog (sBin .lss 3 x35 x39)) fun x40 =>
     stS Try.prog (sPick x30 x40 (.bool false)) fun x41 =>
     condS x41
     (drS (stS Try.prog (sIA 84 y1 (.int .i64 0)) fun x44 =>
       stS Try.prog (sLoad 86 x44) fun x45 =>
       stD Try.prog (sSl 84 y1 (some (.int .i64 1)) none none) fun D7 x49 =>
       opN Try.prog (sBuildSl 84 1 [(0, x45)]) Kp fun x46 =>
       (fun w => D7 w ∧ (opN Try.prog (sApp #[84, 84] 84 [y5, x46]) Kp fun x47 =>
         (fun w => D7 w ∧ (next3 I1 m1 y0 x49 x47) w)) w)))
     (drS (stS Try.prog (sIA 84 y0 (.int .i64 0)) fun x14 =>
       stS Try.prog (sLoad 86 x14) fun x15 =>
       stD Try.prog (sSl 84 y0 (some (.int .i64 1)) none none) fun D7 x19 =>
       opN Try.prog (sBuildSl 84 1 [(0, x15)]) Kp fun x16 =>
       (fun w => D7 w ∧ (opN Try.prog (sApp #[84, 84] 84 [y5, x16]) Kp fun x17 =>
         (fun w => D7 w ∧ (next3 I1 m1 x19 y1 x17) w)) w)))))) v0 v1 x11
def huff_merge_int_an : Ann := { cuts := [], blks := [], loops := [(3, [0, 1, 5])], drs := [(2, [(0, 2), (1, 1), (2, 1), (3, 1), (6, 2), (7, 3), (4, 0), (5, 0), (8, 1), (9, 1)]), (5, [(0, 1), (1, 1), (2, 1), (3, 1), (4, 1), (5, 1), (6, 1), (7, 1), (8, 1), (9, 1), (10, 1), (11, 1), (12, 1), (13, 1), (14, 1)]), (6, [(0, 2), (1, 1), (2, 1), (3, 1), (6, 2), (7, 3), (4, 0), (5, 0), (8, 1), (9, 1)])] }
theorem huff_merge_int_eq (v0 v1 : Value) (Kp : PK) (K : Value → WP) : cevF Try.prog huff_merge_int_an Try.f47 [v0, v1] Kp K = huff_merge_int v0 v1 Kp K := by kernel_rfl
theorem huff_merge_int_calls {v0 v1 : Value} {Kp : PK} {K : Value → WP} {w : World} (h : huff_merge_int v0 v1 Kp K w) : Calls Try.prog 47 #[v0, v1] w (after Kp K) :=
  calls_of_shape (calls_of_cev wide Try.func47 (an := huff_merge_int_an) (args := [v0, v1]) (cast (congrFun (huff_merge_int_eq v0 v1 Kp K) w).symm h))
theorem huff_merge_int_cn {v0 v1 : Value} {W : World} {α : Type} {A : List HP} {r : α → Value} {B : α → List HP} (h : ∀ F, Ent W (A ++ F) (huff_merge_int v0 v1 noP fun v w => ∃ x, v = r x ∧ sat W (B x ++ F) w)) : Cn Try.prog 47 [v0, v1] W A r B :=
  Cn.of (shape := huff_merge_int v0 v1) Try.call47 (fun h => huff_merge_int_calls h) h
theorem huff_merge_int_cnP {v0 v1 : Value} {W : World} {α β : Type} {A : List HP} {r : α → Value} {B : α → List HP} {pc : β → List PanicEntry} {Bp : β → List HP} (h : ∀ F, Ent W (A ++ F) (huff_merge_int v0 v1 (fun ch w => ∃ y, ch = pc y ∧ sat W (Bp y ++ F) w) fun v w => ∃ x, v = r x ∧ sat W (B x ++ F) w)) : CnP Try.prog 47 [v0, v1] W A r B pc Bp :=
  CnP.of (shape := huff_merge_int v0 v1) Try.call47 (fun h => huff_merge_int_calls h) h

/-- ref03_coins -/
def ref03_coins (v0 : Value) (Kp : PK) (K : Value → WP) : WP :=
  loop2 (fun I1 m1 _ y3 y4 =>
   opN Try.prog (sLen #[22] 3 [v0]) Kp fun x9 =>
   opN Try.prog (sBin .lss 3 y4 x9) Kp fun x10 =>
   condS x10
   (opN Try.prog (sIA 22 v0 y4) Kp fun x15 =>
    opN Try.prog (sLoad 3 x15) Kp fun x16 =>
    opN Try.prog (sEq .eql 3 (.tmp 16) (.const (.int .i64 0)) x16 (.int .i64 0)) Kp fun x17 =>
    condS x17
    (opN Try.prog (sBin .add 3 y4 (.int .i64 1)) Kp fun x12 =>
     next2 I1 m1 y3 x12)
    (opN Try.prog (sLen #[92] 3 [y3]) Kp fun x19 =>
     loop1 (fun I2 m2 _ y5 =>
      drS (stS Try.prog (sBin .gtr 3 y5 (.int .i64 0)) fun x21 =>
       gdK x21 true (fun k => k y3) fun x23 =>
       gdK x21 true (fun k => k y5) fun x24 =>
       gdK x21 true (stS Try.prog (sBin .sub 3 x24 (.int .i64 1))) fun x25 =>
       gdK x21 true (stS Try.prog (sIA 92 x23 x25)) fun x26 =>
       gdK x21 true (stS Try.prog (sFA 95 x26 0)) fun x27 =>
       gdK x21 true (stS Try.prog (sLoad 3 x27)) fun x28 =>
       gdK x21 true (fun k => k v0) fun x29 =>
       gdK x21 true (fun k => k y4) fun x30 =>
       gdK x21 true (stS Try.prog (sIA 22 x29 x30)) fun x31 =>
       gdK x21 true (stS Try.prog (sLoad 3 x31)) fun x32 =>
       gdK x21 true (stS Try.prog (sBin .gtr 3 x28 x32)) fun x33 =>
       stS Try.prog (sPick x21 x33 (.bool false)) fun x34 =>
       condS x34
       (opN Try.prog (sBin .sub 3 y5 (.int .i64 1)) Kp fun x36 =>
        next1 I2 m2 x36)
       (opN Try.prog (sBuildSl 92 0 []) Kp fun x37 =>
        opN Try.prog (sSl 92 y3 (some y5) none none) Kp fun x40 =>
        opN Try.prog (sApp #[92, 92] 92 [x37, x40]) Kp fun x41 =>
        drS (stD Try.prog (sSl 92 y3 none (some y5) none) fun D2 x44 =>
         stD Try.prog (sIA 22 v0 y4) fun D5 x47 =>
         stD Try.prog (sLoad 3 x47) fun D6 x48 =>
         opN Try.prog (sBuildSl 22 1 [(0, y4)]) Kp fun x50 =>
         (fun w => D6 w ∧ (fun w => D5 w ∧ (fun w => D2 w ∧ (stS Try.prog (sBuild 95 [(0, x48), (1, x50)]) fun x51 =>
             opN Try.prog (sBuildSl 92 1 [(0, x51)]) Kp fun x52 =>
             (fun w => D2 w ∧ (opN Try.prog (sApp #[92, 92] 92 [x44, x52]) Kp fun x53 =>
               opN Try.prog (sApp #[92, 92] 92 [x53, x41]) Kp fun x55 =>
               opN Try.prog (sBin .add 3 y4 (.int .i64 1)) Kp fun x12 =>
               next2 I1 m1 x55 x12) w)) w) w) w))))) x19))
   (K y3)) (.slice none 0 0) (.int .i64 0)
def ref03_coins_an : Ann := { cuts := [], blks := [], loops := [(3, [3, 4]), (7, [5])], drs := [(7, [(0, 1), (1, 1), (2, 1), (3, 1), (4, 1), (5, 1), (6, 1), (7, 1), (8, 1), (9, 1), (10, 1), (11, 1), (12, 1), (13, 1), (14, 1)]), (10, [(0, 2), (1, 2), (2, 3), (3, 2), (4, 2), (5, 3), (6, 3), (7, 1), (12, 2), (8, 0), (9, 1), (10, 0), (11, 0), (13, 0), (14, 1)])] }
theorem ref03_coins_eq (v0 : Value) (Kp : PK) (K : Value → WP) : cevF Try.prog ref03_coins_an Try.f48 [v0] Kp K = ref03_coins v0 Kp K := by kernel_rfl
theorem ref03_coins_calls {v0 : Value} {Kp : PK} {K : Value → WP} {w : World} (h : ref03_coins v0 Kp K w) : Calls Try.prog 48 #[v0] w (after Kp K) :=
  calls_of_shape (calls_of_cev wide Try.func48 (an := ref03_coins_an) (args := [v0]) (cast (congrFun (ref03_coins_eq v0 Kp K) w).symm h))
theorem ref03_coins_cn {v0 : Value} {W : World} {α : Type} {A : List HP} {r : α → Value} {B : α → List HP} (h : ∀ F, Ent W (A ++ F) (ref03_coins v0 noP fun v w => ∃ x, v = r x ∧ sat W (B x ++ F) w)) : Cn Try.prog 48 [v0] W A r B :=
  Cn.of (shape := ref03_coins v0) Try.call48 (fun h => ref03_coins_calls h) h
theorem ref03_coins_cnP {v0 : Value} {W : World} {α β : Type} {A : List HP} {r : α → Value} {B : α → List HP} {pc : β → List PanicEntry} {Bp : β → List HP} (h : ∀ F, Ent W (A ++ F) (ref03_coins v0 (fun ch w => ∃ y, ch = pc y ∧ sat W (Bp y ++ F) w) fun v w => ∃ x, v = r x ∧ sat W (B x ++ F) w)) : CnP Try.prog 48 [v0] W A r B pc Bp :=
  CnP.of (shape := ref03_coins v0) Try.call48 (fun h => ref03_coins_calls h) h

/-- ref03_merged -/
def ref03_merged (v0 v1 : Value) (Kp : PK) (K : Value → WP) : WP :=
  loop3 (fun I1 m1 _ y5 y6 y7 =>
   opN Try.prog (sLen #[92] 3 [v0]) Kp fun x10 =>
   opN Try.prog (sBin .lss 3 y7 x10) Kp fun x11 =>
   condS x11
   (loop2 (fun I2 m2 _ y5 y6 =>
     drS (stS Try.prog (sLen #[92] 3 [v1]) fun x16 =>
      stS Try.prog (sBin .lss 3 y6 x16) fun x17 =>
      gdK x17 true (fun k => k v1) fun x19 =>
      gdK x17 true (fun k => k y6) fun x20 =>
      gdK x17 true (stS Try.prog (sIA 92 x19 x20)) fun x21 =>
      gdK x17 true (stS Try.prog (sFA 95 x21 0)) fun x22 =>
      gdK x17 true (stS Try.prog (sLoad 3 x22)) fun x23 =>
      gdK x17 true (fun k => k v0) fun x24 =>
      gdK x17 true (fun k => k y7) fun x25 =>
      gdK x17 true (stS Try.prog (sIA 92 x24 x25)) fun x26 =>
      gdK x17 true (stS Try.prog (sFA 95 x26 0)) fun x27 =>
      gdK x17 true (stS Try.prog (sLoad 3 x27)) fun x28 =>
      gdK x17 true (stS Try.prog (sBin .lss 3 x23 x28)) fun x29 =>
      stS Try.prog (sPick x17 x29 (.bool false)) fun x30 =>
      condS x30
      (opN Try.prog (sIA 92 v1 y6) Kp fun x34 =>
       opN Try.prog (sLoad 95 x34) Kp fun x35 =>
       opN Try.prog (sBuildSl 92 1 [(0, x35)]) Kp fun x36 =>
       opN Try.prog (sApp #[92, 92] 92 [y5, x36]) Kp fun x37 =>
       opN Try.prog (sBin .add 3 y6 (.int .i64 1)) Kp fun x39 =>
       next2 I2 m2 x37 x39)
      (opN Try.prog (sIA 92 v0 y7) Kp fun x43 =>
       opN Try.prog (sLoad 95 x43) Kp fun x44 =>
       opN Try.prog (sBuildSl 92 1 [(0, x44)]) Kp fun x45 =>
       opN Try.prog (sApp #[92, 92] 92 [y5, x45]) Kp fun x46 =>
       opN Try.prog (sBin .add 3 y7 (.int .i64 1)) Kp fun x13 =>
       next3 I1 m1 x46 y6 x13))) y5 y6)
   (opN Try.prog (sSl 92 v1 (some y6) none none) Kp fun x50 =>
    opN Try.prog (sApp #[92, 92] 92 [y5, x50]) Kp fun x51 =>
    K x51)) (.slice none 0 0) (.int .i64 0) (.int .i64 0)
def ref03_merged_an : Ann := { cuts := [], blks := [], loops := [(4, [5, 6, 7]), (6, [5, 6])], drs := [(6, [(0, 1), (1, 1), (2, 1), (3, 1), (4, 1), (5, 1), (6, 1), (7, 1), (8, 1), (9, 1), (10, 1), (11, 1), (12, 1), (13, 1), (14, 1), (15, 1), (16, 1)])] }
theorem ref03_merged_eq (v0 v1 : Value) (Kp : PK) (K : Value → WP) : cevF Try.prog ref03_merged_an Try.f49 [v0, v1] Kp K = ref03_merged v0 v1 Kp K := by kernel_rfl
theorem ref03_merged_calls {v0 v1 : Value} {Kp : PK} {K : Value → WP} {w : World} (h : ref03_merged v0 v1 Kp K w) : Calls Try.prog 49 #[v0, v1] w (after Kp K) :=
  calls_of_shape (calls_of_cev wide Try.func49 (an := ref03_merged_an) (args := [v0, v1]) (cast (congrFun (ref03_merged_eq v0 v1 Kp K) w).symm h))
theorem ref03_merged_cn {v0 v1 : Value} {W : World} {α : Type} {A : List HP} {r : α → Value} {B : α → List HP} (h : ∀ F, Ent W (A ++ F) (ref03_merged v0 v1 noP fun v w => ∃ x, v = r x ∧ sat W (B x ++ F) w)) : Cn Try.prog 49 [v0, v1] W A r B :=
  Cn.of (shape := ref03_merged v0 v1) Try.call49 (fun h => ref03_merged_calls h) h
theorem ref03_merged_cnP {v0 v1 : Value} {W : World} {α β : Type} {A : List HP} {r : α → Value} {B : α → List HP} {pc : β → List PanicEntry} {Bp : β → List HP} (h : ∀ F, Ent W (A ++ F) (ref03_merged v0 v1 (fun ch w => ∃ y, ch = pc y ∧ sat W (Bp y ++ F) w) fun v w => ∃ x, v = r x ∧ sat W (B x ++ F) w)) : CnP Try.prog 49 [v0, v1] W A r B pc Bp :=
  CnP.of (shape := ref03_merged v0 v1) Try.call49 (fun h => ref03_merged_calls h) h

/-- huff_counts -/
def huff_counts (v0 : Value) (Kp : PK) (K : Value → WP) : WP :=
  opN Try.prog (sAlloc 97) Kp fun x2 =>
  opN Try.prog (sLen #[22] 3 [v0]) Kp fun x10 =>
  opN Try.prog (sBin .gtr 3 x10 (.int .i64 320)) Kp fun x11 =>
  condS x11
  (opN Try.prog (sLoad 97 x2) Kp fun x12 =>
   opN Try.prog (sStore 97 x2 x12) Kp fun _ =>
   (stS Try.prog (sRes 97 x2) fun r0 => K (.tuple #[r0, (.bool false)])))
  (opN Try.prog (sLen #[22] 3 [v0]) Kp fun x14 =>
   loop1 (fun I1 m1 _ y15 =>
    opN Try.prog (sBin .lss 3 y15 x14) Kp fun x16 =>
    condS x16
    (opN Try.prog (sIA 22 v0 y15) Kp fun x17 =>
     opN Try.prog (sLoad 3 x17) Kp fun x18 =>
     opN Try.prog (sBin .lss 3 x18 (.int .i64 0)) Kp fun x20 =>
     gdK x20 false (fun k => k x18) fun x22 =>
     gdK x20 false (opN Try.prog (sBin .gtr 3 x22 (.int .i64 15)) Kp) fun x23 =>
     opN Try.prog (sPick x20 (.bool true) x23) Kp fun x24 =>
     condS x24
     (opN Try.prog (sLoad 97 x2) Kp fun x25 =>
      opN Try.prog (sStore 97 x2 x25) Kp fun _ =>
      (stS Try.prog (sRes 97 x2) fun r0 => K (.tuple #[r0, (.bool false)])))
     (opN Try.prog (sIA 97 x2 x18) Kp fun x27 =>
      opN Try.prog (sLoad 3 x27) Kp fun x28 =>
      opN Try.prog (sBin .add 3 x28 (.int .i64 1)) Kp fun x29 =>
      opN Try.prog (sIA 97 x2 x18) Kp fun x30 =>
      opN Try.prog (sStore 3 x30 x29) Kp fun _ =>
      opN Try.prog (sBin .add 3 y15 (.int .i64 1)) Kp fun x31 =>
      next1 I1 m1 x31))
    (opN Try.prog (sSl 97 x2 (some (.int .i64 1)) none none) Kp fun x32 =>
     opN Try.prog (sLen #[22] 3 [x32]) Kp fun x33 =>
     loop2 (fun I2 m2 _ y6 y34 =>
      opN Try.prog (sBin .lss 3 y34 x33) Kp fun x35 =>
      condS x35
      (opN Try.prog (sIA 22 x32 y34) Kp fun x36 =>
       opN Try.prog (sLoad 3 x36) Kp fun x37 =>
       opN Try.prog (sBin .mul 3 (.int .i64 2) y6) Kp fun x39 =>
       opN Try.prog (sBin .sub 3 x39 x37) Kp fun x41 =>
       opN Try.prog (sBin .lss 3 x41 (.int .i64 0)) Kp fun x43 =>
       condS x43
       (opN Try.prog (sLoad 97 x2) Kp fun x44 =>
        opN Try.prog (sStore 97 x2 x44) Kp fun _ =>
        (stS Try.prog (sRes 97 x2) fun r0 => K (.tuple #[r0, (.bool false)])))
       (opN Try.prog (sBin .add 3 y34 (.int .i64 1)) Kp fun x45 =>
        next2 I2 m2 x41 x45))
      (opN Try.prog (sLoad 97 x2) Kp fun x46 =>
       opN Try.prog (sStore 97 x2 x46) Kp fun _ =>
       (stS Try.prog (sRes 97 x2) fun r0 => K (.tuple #[r0, (.bool true)])))) (.int .i64 1) (.int .i64 0))) (.int .i64 0))
def huff_counts_an : Ann := { cuts := [], blks := [], loops := [(4, [15]), (12, [6, 34])], drs := [] }
theorem huff_counts_eq (v0 : Value) (Kp : PK) (K : Value → WP) : cevF Try.prog huff_counts_an Try.f50 [v0] Kp K = huff_counts v0 Kp K := by kernel_rfl
theorem huff_counts_calls {v0 : Value} {Kp : PK} {K : Value → WP} {w : World} (h : huff_counts v0 Kp K w) : Calls Try.prog 50 #[v0] w (after Kp K) :=
  calls_of_shape (calls_of_cev wide Try.func50 (an := huff_counts_an) (args := [v0]) (cast (congrFun (huff_counts_eq v0 Kp K) w).symm h))
theorem huff_counts_cn {v0 : Value} {W : World} {α : Type} {A : List HP} {r : α → Value} {B : α → List HP} (h : ∀ F, Ent W (A ++ F) (huff_counts v0 noP fun v w => ∃ x, v = r x ∧ sat W (B x ++ F) w)) : Cn Try.prog 50 [v0] W A r B :=
  Cn.of (shape := huff_counts v0) Try.call50 (fun h => huff_counts_calls h) h
theorem huff_counts_cnP {v0 : Value} {W : World} {α β : Type} {A : List HP} {r : α → Value} {B : α → List HP} {pc : β → List PanicEntry} {Bp : β → List HP} (h : ∀ F, Ent W (A ++ F) (huff_counts v0 (fun ch w => ∃ y, ch = pc y ∧ sat W (Bp y ++ F) w) fun v w => ∃ x, v = r x ∧ sat W (B x ++ F) w)) : CnP Try.prog 50 [v0] W A r B pc Bp :=
  CnP.of (shape := huff_counts v0) Try.call50 (fun h => huff_counts_calls h) h

/-- ref03_weight -/
def ref03_weight (v0 : Value) (Kp : PK) (K : Value → WP) : WP :=
  loop2 (fun I1 m1 _ y4 y5 =>
   opN Try.prog (sLen #[22] 3 [v0]) Kp fun x8 =>
   opN Try.prog (sBin .lss 3 y5 x8) Kp fun x9 =>
   condS x9
   (opN Try.prog (sIA 22 v0 y5) Kp fun x14 =>
    opN Try.prog (sLoad 3 x14) Kp fun x15 =>
    opN Try.prog (sBin .lss 3 x15 (.int .i64 0)) Kp fun x16 =>
    gdK x16 false (fun k => k v0) fun x18 =>
    gdK x16 false (fun k => k y5) fun x19 =>
    gdK x16 false (opN Try.prog (sIA 22 x18 x19) Kp) fun x20 =>
    gdK x16 false (opN Try.prog (sLoad 3 x20) Kp) fun x21 =>
    gdK x16 false (opN Try.prog (sBin .gtr 3 x21 (.int .i64 15)) Kp) fun x22 =>
    opN Try.prog (sPick x16 (.bool true) x22) Kp fun x23 =>
    condS x23
    (K (.tuple #[(.int .i64 0), (.bool false)]))
    (opN Try.prog (sIA 22 v0 y5) Kp fun x26 =>
     opN Try.prog (sLoad 3 x26) Kp fun x27 =>
     opN Try.prog (sBin .gtr 3 x27 (.int .i64 0)) Kp fun x28 =>
     condS x28
     (opN Try.prog (sIA 22 v0 y5) Kp fun x32 =>
      opN Try.prog (sLoad 3 x32) Kp fun x33 =>
      opN Try.prog (sBin .sub 3 (.int .i64 15) x33) Kp fun x34 =>
      opN Try.prog (sConv 3 33 x34) Kp fun x35 =>
      opN Try.prog (sBin .shl 3 (.int .i64 1) x35) Kp fun x36 =>
      opN Try.prog (sBin .add 3 y4 x36) Kp fun x37 =>
      opN Try.prog (sBin .add 3 y5 (.int .i64 1)) Kp fun x11 =>
      next2 I1 m1 x37 x11)
     (opN Try.prog (sBin .add 3 y5 (.int .i64 1)) Kp fun x11 =>
      next2 I1 m1 y4 x11)))
   (opN Try.prog (sLen #[22] 3 [v0]) Kp fun x40 =>
    opN Try.prog (sBin .leq 3 x40 (.int .i64 320)) Kp fun x41 =>
    gdK x41 true (fun k => k y4) fun x43 =>
    gdK x41 true (opN Try.prog (sBin .leq 3 x43 (.int .i64 32768)) Kp) fun x44 =>
    opN Try.prog (sPick x41 x44 (.bool false)) Kp fun x45 =>
    K (.tuple #[y4, x45]))) (.int .i64 0) (.int .i64 0)
def ref03_weight_an : Ann := { cuts := [], blks := [], loops := [(3, [4, 5])], drs := [] }
theorem ref03_weight_eq (v0 : Value) (Kp : PK) (K : Value → WP) : cevF Try.prog ref03_weight_an Try.f51 [v0] Kp K = ref03_weight v0 Kp K := by kernel_rfl
theorem ref03_weight_calls {v0 : Value} {Kp : PK} {K : Value → WP} {w : World} (h : ref03_weight v0 Kp K w) : Calls Try.prog 51 #[v0] w (after Kp K) :=
  calls_of_shape (calls_of_cev wide Try.func51 (an := ref03_weight_an) (args := [v0]) (cast (congrFun (ref03_weight_eq v0 Kp K) w).symm h))
theorem ref03_weight_cn {v0 : Value} {W : World} {α : Type} {A : List HP} {r : α → Value} {B : α → List HP} (h : ∀ F, Ent W (A ++ F) (ref03_weight v0 noP fun v w => ∃ x, v = r x ∧ sat W (B x ++ F) w)) : Cn Try.prog 51 [v0] W A r B :=
  Cn.of (shape := ref03_weight v0) Try.call51 (fun h => ref03_weight_calls h) h
theorem ref03_weight_cnP {v0 : Value} {W : World} {α β : Type} {A : List HP} {r : α → Value} {B : α → List HP} {pc : β → List PanicEntry} {Bp : β → List HP} (h : ∀ F, Ent W (A ++ F) (ref03_weight v0 (fun ch w => ∃ y, ch = pc y ∧ sat W (Bp y ++ F) w) fun v w => ∃ x, v = r x ∧ sat W (B x ++ F) w)) : CnP Try.prog 51 [v0] W A r B pc Bp :=
  CnP.of (shape := ref03_weight v0) Try.call51 (fun h => ref03_weight_calls h) h

/-- inflate_all -/
def inflate_all_ret (p0 p1 p2 p3 : Value) (K : Value → WP) : WP :=
  (stS Try.prog (sRes 39 p0) fun r0 => (stS Try.prog (sRes 46 p1) fun r1 => (stS Try.prog (sRes 3 p2) fun r2 => (stS Try.prog (sRes 23 p3) fun r3 => K (.tuple #[r0, r1, r2, r3])))))
def inflate_all (v0 v1 : Value) (Kp : PK) (K : Value → WP) : WP :=
  opN Try.prog (sAlloc 39) Kp fun x4 =>
  opN Try.prog (sAlloc 46) Kp fun x5 =>
  opN Try.prog (sAlloc 3) Kp fun x6 =>
  opN Try.prog (sAlloc 23) Kp fun x7 =>
  cut1 (fun J1 =>
   opN Try.prog (sBin .lss 3 v1 (.int .i64 0)) Kp fun x15 =>
   condS x15
   (J1 x15)
   (opN Try.prog (sBin .gtr 3 v1 (.int .i64 1048576)) Kp fun x17 =>
    J1 x17)) fun _ z13 =>
  condS z13
  (opN Try.prog (sStore 39 x4 (.slice none 0 0)) Kp fun _ =>
   opN Try.prog (sStore 46 x5 (.slice none 0 0)) Kp fun _ =>
   opN Try.prog (sStore 3 x6 (.int .i64 0)) Kp fun _ =>
   opN Try.prog (sStore 23 x7 (.int .i64 1)) Kp fun _ =>
   (stS Try.prog (sRes 39 x4) fun r0 => (stS Try.prog (sRes 46 x5) fun r1 => (stS Try.prog (sRes 3 x6) fun r2 => (stS Try.prog (sRes 23 x7) fun r3 => K (.tuple #[r0, r1, r2, r3]))))))
  (opN Try.prog (sLen #[39] 3 [v0]) Kp fun x20 =>
   opN Try.prog (sBin .gtr 3 x20 (.int .i64 1048576)) Kp fun x21 =>
   condS x21
   (opN Try.prog (sStore 39 x4 (.slice none 0 0)) Kp fun _ =>
    opN Try.prog (sStore 46 x5 (.slice none 0 0)) Kp fun _ =>
    opN Try.prog (sStore 3 x6 (.int .i64 0)) Kp fun _ =>
    opN Try.prog (sStore 23 x7 (.int .i64 6)) Kp fun _ =>
    (stS Try.prog (sRes 39 x4) fun r0 => (stS Try.prog (sRes 46 x5) fun r1 => (stS Try.prog (sRes 3 x6) fun r2 => (stS Try.prog (sRes 23 x7) fun r3 => K (.tuple #[r0, r1, r2, r3]))))))
   (opN Try.prog (sMkF (.func 66) [] [x4, x5, x6, x7]) Kp fun x22 =>
    opDf x22 [] fun d1 =>
    opN Try.prog (sCall (fn 37) [v0]) (KpD Try.prog d1 (inflate_all_ret x4 x5 x6 x7 K) Kp) fun x24 =>
    opN Try.prog (sBuild 126 [(0, x24), (2, v1)]) (KpD Try.prog d1 (inflate_all_ret x4 x5 x6 x7 K) Kp) fun x26 =>
    opN Try.prog (sBox 126 x26) (KpD Try.prog d1 (inflate_all_ret x4 x5 x6 x7 K) Kp) fun x27 =>
    opN Try.prog (sBuild 128 [(0, (fn 67)), (1, (fn 68)), (2, (fn 69)), (3, (fn 70))]) (KpD Try.prog d1 (inflate_all_ret x4 x5 x6 x7 K) Kp) fun x28 =>
    opN Try.prog (sAlloc 128) (KpD Try.prog d1 (inflate_all_ret x4 x5 x6 x7 K) Kp) fun x9 =>
    opN Try.prog (sStore 128 x9 x28) (KpD Try.prog d1 (inflate_all_ret x4 x5 x6 x7 K) Kp) fun _ =>
    loop1 (fun I1 m1 _ y10 =>
     opN Try.prog (sEq .eql 3 (.tmp 29) (.const (.int .i64 0)) y10 (.int .i64 0)) (KpD Try.prog d1 (inflate_all_ret x4 x5 x6 x7 K) Kp) fun x30 =>
     condS x30
     (opN Try.prog (sCall (fn 71) [x27, (.int .i64 1)]) (KpD Try.prog d1 (inflate_all_ret x4 x5 x6 x7 K) Kp) fun x32 =>
      drS (stD Try.prog (sNil x27) fun D3 x36 =>
       stD Try.prog (sFA 126 x36 1) fun D4 x37 =>
       stD Try.prog (sLoad 39 x37) fun D5 x38 =>
       stD Try.prog (sLen #[39] 3 [x38]) fun D6 x39 =>
       opN Try.prog (sCall (fn 71) [x27, (.int .i64 2)]) (KpD Try.prog d1 (inflate_all_ret x4 x5 x6 x7 K) Kp) fun x34 =>
       (fun w => D6 w ∧ (fun w => D5 w ∧ (fun w => D4 w ∧ (fun w => D3 w ∧ (opN Try.prog (sIA 128 x9 x34) (KpD Try.prog d1 (inflate_all_ret x4 x5 x6 x7 K) Kp) fun x41 =>
            opN Try.prog (sLoad 127 x41) (KpD Try.prog d1 (inflate_all_ret x4 x5 x6 x7 K) Kp) fun x42 =>
            opN Try.prog (sCall x42 [x27]) (KpD Try.prog d1 (inflate_all_ret x4 x5 x6 x7 K) Kp) fun x44 =>
            drS (stD Try.prog (sLoad 46 x5) fun D0 x45 =>
             stS Try.prog (sNil x27) fun x48 =>
             stS Try.prog (sFA 126 x48 1) fun x49 =>
             stS Try.prog (sLoad 39 x49) fun x50 =>
             stS Try.prog (sLen #[39] 3 [x50]) fun x51 =>
             stS Try.prog (sBin .sub 3 x51 x39) fun x53 =>
             stS Try.prog (sBuild 53 [(0, x34), (1, x53)]) fun x54 =>
             opN Try.prog (sBuildSl 46 1 [(0, x54)]) (KpD Try.prog d1 (inflate_all_ret x4 x5 x6 x7 K) Kp) fun x55 =>
             (fun w => D0 w ∧ (opN Try.prog (sApp #[46, 46] 46 [x45, x55]) (KpD Try.prog d1 (inflate_all_ret x4 x5 x6 x7 K) Kp) fun x56 =>
               opN Try.prog (sStore 46 x5 x56) (KpD Try.prog d1 (inflate_all_ret x4 x5 x6 x7 K) Kp) fun _ =>
               next1 I1 m1 x32) w))) w) w) w) w)))
     (drS (stD Try.prog (sNil x27) fun D1 x58 =>
       stD Try.prog (sFA 126 x58 1) fun D2 x59 =>
       stD Try.prog (sLoad 39 x59) fun D3 x60 =>
       stD Try.prog (sLoad 46 x5) fun D4 x61 =>
       stD Try.prog (sLen #[39] 3 [v0]) fun D6 x63 =>
       stS Try.prog (sNil x27) fun x65 =>
       stS Try.prog (sFA 126 x65 0) fun x66 =>
       stS Try.prog (sLoad 70 x66) fun x67 =>
       opN Try.prog (sCall (fn 41) [x67]) (KpD Try.prog d1 (inflate_all_ret x4 x5 x6 x7 K) Kp) fun x68 =>
       (fun w => D6 w ∧ (fun w => D4 w ∧ (fun w => D3 w ∧ (fun w => D2 w ∧ (fun w => D1 w ∧ (stD Try.prog (sBin .quo 3 x68 (.int .i64 8)) fun D12 x69 =>
             stD Try.prog (sBin .sub 3 x63 x69) fun D13 x70 =>
             opN Try.prog (sStore 39 x4 x60) (KpD Try.prog d1 (inflate_all_ret x4 x5 x6 x7 K) Kp) fun _ =>
             (fun w => D13 w ∧ (fun w => D12 w ∧ (fun w => D6 w ∧ (fun w => D4 w ∧ (opN Try.prog (sStore 46 x5 x61) (KpD Try.prog d1 (inflate_all_ret x4 x5 x6 x7 K) Kp) fun _ =>
                  (fun w => D13 w ∧ (fun w => D12 w ∧ (fun w => D6 w ∧ (opN Try.prog (sStore 3 x6 x70) (KpD Try.prog d1 (inflate_all_ret x4 x5 x6 x7 K) Kp) fun _ =>
                      opN Try.prog (sStore 23 x7 (.int .i64 0)) (KpD Try.prog d1 (inflate_all_ret x4 x5 x6 x7 K) Kp) fun _ =>
                      dfS Try.prog d1 .returning (inflate_all_ret x4 x5 x6 x7 K) Kp) w) w) w)) w) w) w) w)) w) w) w) w) w)))) (.int .i64 0)))
def inflate_all_an : Ann := { cuts := [(3, [13])], blks := [], loops := [(10, [10])], drs := [(12, [(0, 1), (2, 2), (3, 3), (4, 3), (5, 3), (6, 3), (1, 0), (7, 1), (8, 1)]), (14, [(0, 3), (1, 1), (2, 1), (3, 1), (4, 1), (5, 1), (6, 1), (7, 1), (8, 1), (9, 1), (10, 0), (11, 0), (12, 0)]), (15, [(0, 2), (1, 3), (2, 3), (3, 3), (4, 3), (5, 2), (6, 3), (7, 1), (8, 1), (9, 1), (10, 1), (11, 0), (12, 3), (13, 3), (14, 0), (15, 0), (16, 0), (17, 0)])] }
theorem inflate_all_eq (v0 v1 : Value) (Kp : PK) (K : Value → WP) : cevFD Try.prog inflate_all_an Try.f52 [v0, v1] Kp K = inflate_all v0 v1 Kp K := by kernel_rfl
theorem inflate_all_calls {v0 v1 : Value} {Kp : PK} {K : Value → WP} {w : World} (h : inflate_all v0 v1 Kp K w) : Calls Try.prog 52 #[v0, v1] w (after Kp K) :=
  calls_of_shape (calls_of_cevD wide Try.func52 (an := inflate_all_an) (args := [v0, v1]) (cast (congrFun (inflate_all_eq v0 v1 Kp K) w).symm h))
theorem inflate_all_cn {v0 v1 : Value} {W : World} {α : Type} {A : List HP} {r : α → Value} {B : α → List HP} (h : ∀ F, Ent W (A ++ F) (inflate_all v0 v1 noP fun v w => ∃ x, v = r x ∧ sat W (B x ++ F) w)) : Cn Try.prog 52 [v0, v1] W A r B :=
  Cn.of (shape := inflate_all v0 v1) Try.call52 (fun h => inflate_all_calls h) h
theorem inflate_all_cnP {v0 v1 : Value} {W : World} {α β : Type} {A : List HP} {r : α → Value} {B : α → List HP} {pc : β → List PanicEntry} {Bp : β → List HP} (h : ∀ F, Ent W (A ++ F) (inflate_all v0 v1 (fun ch w => ∃ y, ch = pc y ∧ sat W (Bp y ++ F) w) fun v w => ∃ x, v = r x ∧ sat W (B x ++ F) w)) : CnP Try.prog 52 [v0, v1] W A r B pc Bp :=
  CnP.of (shape := inflate_all v0 v1) Try.call52 (fun h => inflate_all_calls h) h

/-- ref05_all -/
def ref05_all (v0 v1 : Value) (Kp : PK) (K : Value → WP) : WP :=
  opN Try.prog (sBin .lss 3 v1 (.int .i64 0)) Kp fun x18 =>
  gdK x18 false (fun k => k v1) fun x20 =>
  gdK x18 false (opN Try.prog (sBin .gtr 3 x20 (.int .i64 1048576)) Kp) fun x21 =>
  opN Try.prog (sPick x18 (.bool true) x21) Kp fun x22 =>
  condS x22
  (K (.tuple #[(.slice none 0 0), (.slice none 0 0), (.int .i64 0), (.int .i64 1)]))
  (opN Try.prog (sLen #[39] 3 [v0]) Kp fun x24 =>
   opN Try.prog (sBin .gtr 3 x24 (.int .i64 1048576)) Kp fun x25 =>
   condS x25
   (K (.tuple #[(.slice none 0 0), (.slice none 0 0), (.int .i64 0), (.int .i64 6)]))
   (opN Try.prog (sCall (fn 38) [v0]) Kp fun x27 =>
    opN Try.prog (sBuild 132 [(0, x27), (2, v1)]) Kp fun x29 =>
    opN Try.prog (sBox 132 x29) Kp fun x30 =>
    loop2 (fun I1 m1 _ y9 y10 =>
     opN Try.prog (sEq .eql 3 (.tmp 31) (.const (.int .i64 0)) y10 (.int .i64 0)) Kp fun x32 =>
     gdK x32 true (fun k => k x30) fun x34 =>
     gdK x32 true (opN Try.prog (sNil x34) Kp) fun x35 =>
     gdK x32 true (opN Try.prog (sFA 132 x35 3) Kp) fun x36 =>
     gdK x32 true (opN Try.prog (sLoad 3 x36) Kp) fun x37 =>
     gdK x32 true (opN Try.prog (sEq .eql 3 (.tmp 37) (.const (.int .i64 0)) x37 (.int .i64 0)) Kp) fun x38 =>
     opN Try.prog (sPick x32 x38 (.bool false)) Kp fun x39 =>
     condS x39
     (opN Try.prog (sCall (fn 72) [x30, (.int .i64 1)]) Kp fun x41 =>
      opN Try.prog (sCall (fn 72) [x30, (.int .i64 2)]) Kp fun x43 =>
      opN Try.prog (sNil x30) Kp fun x45 =>
      opN Try.prog (sFA 132 x45 1) Kp fun x46 =>
      opN Try.prog (sLoad 39 x46) Kp fun x47 =>
      opN Try.prog (sLen #[39] 3 [x47]) Kp fun x48 =>
      cut0 (fun J1 =>
       opN Try.prog (sNil x30) Kp fun x53 =>
       opN Try.prog (sFA 132 x53 3) Kp fun x54 =>
       opN Try.prog (sLoad 3 x54) Kp fun x55 =>
       opN Try.prog (sEq .neq 3 (.tmp 55) (.const (.int .i64 0)) x55 (.int .i64 0)) Kp fun x56 =>
       condS x56
       (J1)
       (opN Try.prog (sEq .eql 3 (.tmp 58) (.const (.int .i64 0)) x43 (.int .i64 0)) Kp fun x59 =>
        condS x59
        (opN Try.prog (sCall (fn 73) [x30]) Kp fun x61 =>
         J1)
        (opN Try.prog (sEq .eql 3 (.tmp 63) (.const (.int .i64 1)) x43 (.int .i64 1)) Kp fun x64 =>
         condS x64
         (opN Try.prog (sCall (fn 74) []) Kp fun x66 =>
          opN Try.prog (sExt x66 0) Kp fun x67 =>
          opN Try.prog (sExt x66 1) Kp fun x68 =>
          opN Try.prog (sCall (fn 75) [x30, x67, x68]) Kp fun x72 =>
          J1)
         (opN Try.prog (sEq .eql 3 (.tmp 74) (.const (.int .i64 2)) x43 (.int .i64 2)) Kp fun x75 =>
          condS x75
          (opN Try.prog (sCall (fn 76) [x30]) Kp fun x78 =>
           opN Try.prog (sExt x78 0) Kp fun x79 =>
           opN Try.prog (sExt x78 1) Kp fun x80 =>
           opN Try.prog (sCall (fn 75) [x30, x79, x80]) Kp fun x84 =>
           J1)
          (opN Try.prog (sCall (fn 77) [x30, (.int .i64 31)]) Kp fun x50 =>
           J1))))) fun _ =>
      opN Try.prog (sNil x30) Kp fun x88 =>
      opN Try.prog (sFA 132 x88 1) Kp fun x89 =>
      opN Try.prog (sLoad 39 x89) Kp fun x90 =>
      opN Try.prog (sLen #[39] 3 [x90]) Kp fun x91 =>
      opN Try.prog (sBin .sub 3 x91 x48) Kp fun x93 =>
      opN Try.prog (sBuild 54 [(0, x43), (1, x93)]) Kp fun x94 =>
      opN Try.prog (sBuildSl 49 1 [(0, x94)]) Kp fun x95 =>
      opN Try.prog (sApp #[49, 49] 49 [y9, x95]) Kp fun x96 =>
      next2 I1 m1 x96 x41)
     (opN Try.prog (sNil x30) Kp fun x98 =>
      opN Try.prog (sFA 132 x98 3) Kp fun x99 =>
      opN Try.prog (sLoad 3 x99) Kp fun x100 =>
      opN Try.prog (sEq .neq 3 (.tmp 100) (.const (.int .i64 0)) x100 (.int .i64 0)) Kp fun x101 =>
      condS x101
      (drS (stS Try.prog (sNil x30) fun x103 =>
        stS Try.prog (sFA 132 x103 3) fun x104 =>
        stS Try.prog (sLoad 3 x104) fun x105 =>
        K (.tuple #[(.slice none 0 0), (.slice none 0 0), (.int .i64 0), x105])))
      (drS (stS Try.prog (sNil x30) fun x107 =>
        stS Try.prog (sFA 132 x107 1) fun x108 =>
        stS Try.prog (sLoad 39 x108) fun x109 =>
        stS Try.prog (sNil x30) fun x112 =>
        stS Try.prog (sFA 132 x112 0) fun x113 =>
        stS Try.prog (sLoad 72 x113) fun x114 =>
        stS Try.prog (sNil x114) fun x115 =>
        stS Try.prog (sFA 117 x115 1) fun x116 =>
        stS Try.prog (sLoad 3 x116) fun x117 =>
        stS Try.prog (sBin .add 3 x117 (.int .i64 7)) fun x118 =>
        stS Try.prog (sBin .quo 3 x118 (.int .i64 8)) fun x119 =>
        K (.tuple #[x109, y9, x119, (.int .i64 0)]))))) (.slice none 0 0) (.int .i64 0)))
def ref05_all_an : Ann := { cuts := [(22, [])], blks := [], loops := [(8, [9, 10])], drs := [(24, [(0, 1), (1, 1), (2, 1), (3, 1), (4, 1), (5, 1), (6, 1), (7, 1)]), (25, [(0, 1), (1, 1), (2, 1), (3, 1), (4, 1), (5, 1), (6, 1), (7, 1), (8, 1), (9, 1), (10, 1), (11, 1), (12, 1), (13, 1), (14, 1), (15, 1), (16, 1), (17, 1)])] }
theorem ref05_all_eq (v0 v1 : Value) (Kp : PK) (K : Value → WP) : cevF Try.prog ref05_all_an Try.f53 [v0, v1] Kp K = ref05_all v0 v1 Kp K := by kernel_rfl
theorem ref05_all_calls {v0 v1 : Value} {Kp : PK} {K : Value → WP} {w : World} (h : ref05_all v0 v1 Kp K w) : Calls Try.prog 53 #[v0, v1] w (after Kp K) :=
  calls_of_shape (calls_of_cev wide Try.func53 (an := ref05_all_an) (args := [v0, v1]) (cast (congrFun (ref05_all_eq v0 v1 Kp K) w).symm h))
theorem ref05_all_cn {v0 v1 : Value} {W : World} {α : Type} {A : List HP} {r : α → Value} {B : α → List HP} (h : ∀ F, Ent W (A ++ F) (ref05_all v0 v1 noP fun v w => ∃ x, v = r x ∧ sat W (B x ++ F) w)) : Cn Try.prog 53 [v0, v1] W A r B :=
  Cn.of (shape := ref05_all v0 v1) Try.call53 (fun h => ref05_all_calls h) h
theorem ref05_all_cnP {v0 v1 : Value} {W : World} {α β : Type} {A : List HP} {r : α → Value} {B : α → List HP} {pc : β → List PanicEntry} {Bp : β → List HP} (h : ∀ F, Ent W (A ++ F) (ref05_all v0 v1 (fun ch w => ∃ y, ch = pc y ∧ sat W (Bp y ++ F) w) fun v w => ∃ x, v = r x ∧ sat W (B x ++ F) w)) : CnP Try.prog 53 [v0, v1] W A r B pc Bp :=
  CnP.of (shape := ref05_all v0 v1) Try.call53 (fun h => ref05_all_calls h) h

/-- bits_Writer_Put -/
def bits_Writer_Put (v0 v1 v2 : Value) (Kp : PK) (K : Value → WP) : WP :=
  cut1 (fun J1 =>
   opN Try.prog (sCall (fn 58) [v0]) Kp fun x11 =>
   condS x11
   (J1 x11)
   (opN Try.prog (sBin .lss 3 v2 (.int .i64 0)) Kp fun x13 =>
    condS x13
    (J1 x13)
    (opN Try.prog (sBin .gtr 3 v2 (.int .i64 32)) Kp fun x15 =>
     condS x15
     (J1 x15)
     (opN Try.prog (sBin .lss 3 v1 (.int .i64 0)) Kp fun x17 =>
      condS x17
      (J1 x17)
      (opN Try.prog (sMin #[3, 3] 3 [v2, (.int .i64 32)]) Kp fun x20 =>
       opN Try.prog (sMax #[3, 3] 3 [(.int .i64 0), x20]) Kp fun x21 =>
       opN Try.prog (sConv 3 33 x21) Kp fun x22 =>
       opN Try.prog (sBin .shl 3 (.int .i64 1) x22) Kp fun x23 =>
       opN Try.prog (sBin .geq 3 v1 x23) Kp fun x24 =>
       J1 x24))))) fun _ z9 =>
  condS z9
  (K (.int .i64 1))
  (opN Try.prog (sNil v0) Kp fun x28 =>
   opN Try.prog (sFA 106 x28 1) Kp fun x29 =>
   opN Try.prog (sLoad 3 x29) Kp fun x30 =>
   opN Try.prog (sBin .sub 3 (.int .i64 8388608) x30) Kp fun x31 =>
   opN Try.prog (sBin .gtr 3 v2 x31) Kp fun x32 =>
   condS x32
   (K (.int .i64 6))
   (opN Try.prog (sCall (fn 78) []) Kp fun x33 =>
    opN Try.prog (sAlloc 137) Kp fun x7 =>
    opN Try.prog (sStore 137 x7 x33) Kp fun _ =>
    loop1 (fun I1 m1 _ y35 =>
     opN Try.prog (sBin .lss 3 y35 v2) Kp fun x36 =>
     condS x36
     (cut0 (fun J2 =>
       opN Try.prog (sNil v0) Kp fun x39 =>
       opN Try.prog (sFA 106 x39 1) Kp fun x40 =>
       opN Try.prog (sLoad 3 x40) Kp fun x41 =>
       opN Try.prog (sBin .rem 3 x41 (.int .i64 8)) Kp fun x42 =>
       opN Try.prog (sEq .eql 3 (.tmp 42) (.const (.int .i64 0)) x42 (.int .i64 0)) Kp fun x43 =>
       condS x43
       (opN Try.prog (sNil v0) Kp fun x46 =>
        opN Try.prog (sFA 106 x46 0) Kp fun x47 =>
        opN Try.prog (sLoad 39 x47) Kp fun x48 =>
        opN Try.prog (sBuildSl 39 1 [(0, (.int .u8 0))]) Kp fun x49 =>
        opN Try.prog (sApp #[39, 39] 39 [x48, x49]) Kp fun x50 =>
        opN Try.prog (sNil v0) Kp fun x51 =>
        opN Try.prog (sFA 106 x51 0) Kp fun x52 =>
        opN Try.prog (sStore 39 x52 x50) Kp fun _ =>
        J2)
       (J2)) fun _ =>
      cut0 (fun J3 =>
       opN Try.prog (sConv 3 33 y35) Kp fun x55 =>
       opN Try.prog (sBin .shr 3 v1 x55) Kp fun x56 =>
       opN Try.prog (sBin .and 3 x56 (.int .i64 1)) Kp fun x57 =>
       opN Try.prog (sEq .eql 3 (.tmp 57) (.const (.int .i64 1)) x57 (.int .i64 1)) Kp fun x58 =>
       condS x58
       (drS (stS Try.prog (sNil v0) fun x60 =>
         stS Try.prog (sFA 106 x60 0) fun x61 =>
         stS Try.prog (sLoad 39 x61) fun x62 =>
         stS Try.prog (sNil v0) fun x64 =>
         stS Try.prog (sFA 106 x64 1) fun x65 =>
         stS Try.prog (sLoad 3 x65) fun x66 =>
         stS Try.prog (sBin .quo 3 x66 (.int .i64 8)) fun x67 =>
         stS Try.prog (sIA 39 x62 x67) fun x68 =>
         stS Try.prog (sLoad 5 x68) fun x69 =>
         stS Try.prog (sNil v0) fun x71 =>
         stS Try.prog (sFA 106 x71 1) fun x72 =>
         stS Try.prog (sLoad 3 x72) fun x73 =>
         stS Try.prog (sBin .rem 3 x73 (.int .i64 8)) fun x74 =>
         stS Try.prog (sIA 137 x7 x74) fun x75 =>
         stS Try.prog (sLoad 5 x75) fun x76 =>
         stS Try.prog (sBin .or 5 x69 x76) fun x77 =>
         stS Try.prog (sIA 39 x62 x67) fun x78 =>
         opN Try.prog (sStore 5 x78 x77) Kp fun _ =>
         J3))
       (J3)) fun _ =>
      opN Try.prog (sNil v0) Kp fun x80 =>
      opN Try.prog (sFA 106 x80 1) Kp fun x81 =>
      opN Try.prog (sLoad 3 x81) Kp fun x82 =>
      opN Try.prog (sBin .add 3 x82 (.int .i64 1)) Kp fun x83 =>
      opN Try.prog (sNil v0) Kp fun x84 =>
      opN Try.prog (sFA 106 x84 1) Kp fun x85 =>
      opN Try.prog (sStore 3 x85 x83) Kp fun _ =>
      opN Try.prog (sBin .add 3 y35 (.int .i64 1)) Kp fun x86 =>
      next1 I1 m1 x86)
     (K (.int .i64 0))) (.int .i64 0)))
def bits_Writer_Put_an : Ann := { cuts := [(6, [9]), (15, []), (17, [])], blks := [], loops := [(11, [35])], drs := [(16, [(0, 1), (1, 1), (2, 1), (3, 1), (4, 1), (5, 1), (6, 1), (7, 1), (8, 1), (9, 1), (10, 1), (11, 1), (12, 1), (13, 1), (14, 1), (15, 1), (16, 1), (17, 1), (18, 1), (19, 1), (20, 0)])] }
theorem bits_Writer_Put_eq (v0 v1 v2 : Value) (Kp : PK) (K : Value → WP) : cevF Try.prog bits_Writer_Put_an Try.f54 [v0, v1, v2] Kp K = bits_Writer_Put v0 v1 v2 Kp K := by kernel_rfl
theorem bits_Writer_Put_calls {v0 v1 v2 : Value} {Kp : PK} {K : Value → WP} {w : World} (h : bits_Writer_Put v0 v1 v2 Kp K w) : Calls Try.prog 54 #[v0, v1, v2] w (after Kp K) :=
  calls_of_shape (calls_of_cev wide Try.func54 (an := bits_Writer_Put_an) (args := [v0, v1, v2]) (cast (congrFun (bits_Writer_Put_eq v0 v1 v2 Kp K) w).symm h))
theorem bits_Writer_Put_cn {v0 v1 v2 : Value} {W : World} {α : Type} {A : List HP} {r : α → Value} {B : α → List HP} (h : ∀ F, Ent W (A ++ F) (bits_Writer_Put v0 v1 v2 noP fun v w => ∃ x, v = r x ∧ sat W (B x ++ F) w)) : Cn Try.prog 54 [v0, v1, v2] W A r B :=
  Cn.of (shape := bits_Writer_Put v0 v1 v2) Try.call54 (fun h => bits_Writer_Put_calls h) h
theorem bits_Writer_Put_cnP {v0 v1 v2 : Value} {W : World} {α β : Type} {A : List HP} {r : α → Value} {B : α → List HP} {pc : β → List PanicEntry} {Bp : β → List HP} (h : ∀ F, Ent W (A ++ F) (bits_Writer_Put v0 v1 v2 (fun ch w => ∃ y, ch = pc y ∧ sat W (Bp y ++ F) w) fun v w => ∃ x, v = r x ∧ sat W (B x ++ F) w)) : CnP Try.prog 54 [v0, v1, v2] W A r B pc Bp :=
  CnP.of (shape := bits_Writer_Put v0 v1 v2) Try.call54 (fun h => bits_Writer_Put_calls h) h

/-- bits_Reverse -/
def bits_Reverse (v0 v1 : Value) (Kp : PK) (K : Value → WP) : WP :=
  opN Try.prog (sMin #[3, 3] 3 [v1, (.int .i64 32)]) Kp fun x8 =>
  opN Try.prog (sMax #[3, 3] 3 [(.int .i64 0), x8]) Kp fun x9 =>
  loop2 (fun I1 m1 _ y5 y10 =>
   opN Try.prog (sBin .lss 3 y10 x9) Kp fun x11 =>
   condS x11
   (opN Try.prog (sBin .shl 3 y5 (.int .u64 1)) Kp fun x14 =>
    opN Try.prog (sConv 3 33 y10) Kp fun x17 =>
    opN Try.prog (sBin .shr 3 v0 x17) Kp fun x18 =>
    opN Try.prog (sBin .and 3 x18 (.int .i64 1)) Kp fun x19 =>
    opN Try.prog (sBin .or 3 x14 x19) Kp fun x20 =>
    opN Try.prog (sBin .add 3 y10 (.int .i64 1)) Kp fun x21 =>
    next2 I1 m1 x20 x21)
   (K y5)) (.int .i64 0) (.int .i64 0)
def bits_Reverse_an : Ann := { cuts := [], blks := [], loops := [(3, [5, 10])], drs := [] }
theorem bits_Reverse_eq (v0 v1 : Value) (Kp : PK) (K : Value → WP) : cevF Try.prog bits_Reverse_an Try.f55 [v0, v1] Kp K = bits_Reverse v0 v1 Kp K := by kernel_rfl
theorem bits_Reverse_calls {v0 v1 : Value} {Kp : PK} {K : Value → WP} {w : World} (h : bits_Reverse v0 v1 Kp K w) : Calls Try.prog 55 #[v0, v1] w (after Kp K) :=
  calls_of_shape (calls_of_cev wide Try.func55 (an := bits_Reverse_an) (args := [v0, v1]) (cast (congrFun (bits_Reverse_eq v0 v1 Kp K) w).symm h))
theorem bits_Reverse_cn {v0 v1 : Value} {W : World} {α : Type} {A : List HP} {r : α → Value} {B : α → List HP} (h : ∀ F, Ent W (A ++ F) (bits_Reverse v0 v1 noP fun v w => ∃ x, v = r x ∧ sat W (B x ++ F) w)) : Cn Try.prog 55 [v0, v1] W A r B :=
  Cn.of (shape := bits_Reverse v0 v1) Try.call55 (fun h => bits_Reverse_calls h) h
theorem bits_Reverse_cnP {v0 v1 : Value} {W : World} {α β : Type} {A : List HP} {r : α → Value} {B : α → List HP} {pc : β → List PanicEntry} {Bp : β → List HP} (h : ∀ F, Ent W (A ++ F) (bits_Reverse v0 v1 (fun ch w => ∃ y, ch = pc y ∧ sat W (Bp y ++ F) w) fun v w => ∃ x, v = r x ∧ sat W (B x ++ F) w)) : CnP Try.prog 55 [v0, v1] W A r B pc Bp :=
  CnP.of (shape := bits_Reverse v0 v1) Try.call55 (fun h => bits_Reverse_calls h) h

/-- ref02_Writer_Put -/
def ref02_Writer_Put (v0 v1 v2 : Value) (Kp : PK) (K : Value → WP) : WP :=
  opN Try.prog (sBin .lss 3 v2 (.int .i64 0)) Kp fun x9 =>
  gdK x9 false (fun k => k v2) fun x11 =>
  gdK x9 false (opN Try.prog (sBin .gtr 3 x11 (.int .i64 32)) Kp) fun x12 =>
  opN Try.prog (sPick x9 (.bool true) x12) Kp fun x13 =>
  gdK x13 false (fun k => k v1) fun x15 =>
  gdK x13 false (opN Try.prog (sBin .lss 3 x15 (.int .i64 0)) Kp) fun x16 =>
  opN Try.prog (sPick x13 (.bool true) x16) Kp fun x17 =>
  gdK x17 false (fun k => k v1) fun x19 =>
  gdK x17 false (fun k => k v2) fun x20 =>
  gdK x17 false (opN Try.prog (sConv 3 33 x20) Kp) fun x21 =>
  gdK x17 false (opN Try.prog (sBin .shl 3 (.int .i64 1) x21) Kp) fun x22 =>
  gdK x17 false (opN Try.prog (sBin .geq 3 x19 x22) Kp) fun x23 =>
  opN Try.prog (sPick x17 (.bool true) x23) Kp fun x24 =>
  condS x24
  (K (.int .i64 1))
  (opN Try.prog (sNil v0) Kp fun x27 =>
   opN Try.prog (sFA 59 x27 0) Kp fun x28 =>
   opN Try.prog (sLoad 39 x28) Kp fun x29 =>
   opN Try.prog (sLen #[39] 3 [x29]) Kp fun x30 =>
   opN Try.prog (sBin .sub 3 (.int .i64 8388608) x30) Kp fun x31 =>
   opN Try.prog (sBin .gtr 3 v2 x31) Kp fun x32 =>
   condS x32
   (K (.int .i64 6))
   (loop1 (fun I1 m1 _ y7 =>
     opN Try.prog (sBin .lss 3 y7 v2) Kp fun x35 =>
     condS x35
     (opN Try.prog (sNil v0) Kp fun x40 =>
      opN Try.prog (sFA 59 x40 0) Kp fun x41 =>
      opN Try.prog (sLoad 39 x41) Kp fun x42 =>
      opN Try.prog (sConv 3 33 y7) Kp fun x45 =>
      opN Try.prog (sBin .shr 3 v1 x45) Kp fun x46 =>
      opN Try.prog (sBin .and 3 x46 (.int .i64 1)) Kp fun x47 =>
      opN Try.prog (sConv 3 5 x47) Kp fun x48 =>
      opN Try.prog (sBuildSl 39 1 [(0, x48)]) Kp fun x49 =>
      opN Try.prog (sApp #[39, 39] 39 [x42, x49]) Kp fun x50 =>
      opN Try.prog (sNil v0) Kp fun x51 =>
      opN Try.prog (sFA 59 x51 0) Kp fun x52 =>
      opN Try.prog (sStore 39 x52 x50) Kp fun _ =>
      opN Try.prog (sBin .add 3 y7 (.int .i64 1)) Kp fun x37 =>
      next1 I1 m1 x37)
     (K (.int .i64 0))) (.int .i64 0)))
def ref02_Writer_Put_an : Ann := { cuts := [], blks := [], loops := [(6, [7])], drs := [] }
theorem ref02_Writer_Put_eq (v0 v1 v2 : Value) (Kp : PK) (K : Value → WP) : cevF Try.prog ref02_Writer_Put_an Try.f56 [v0, v1, v2] Kp K = ref02_Writer_Put v0 v1 v2 Kp K := by kernel_rfl
theorem ref02_Writer_Put_calls {v0 v1 v2 : Value} {Kp : PK} {K : Value → WP} {w : World} (h : ref02_Writer_Put v0 v1 v2 Kp K w) : Calls Try.prog 56 #[v0, v1, v2] w (after Kp K) :=
  calls_of_shape (calls_of_cev wide Try.func56 (an := ref02_Writer_Put_an) (args := [v0, v1, v2]) (cast (congrFun (ref02_Writer_Put_eq v0 v1 v2 Kp K) w).symm h))
theorem ref02_Writer_Put_cn {v0 v1 v2 : Value} {W : World} {α : Type} {A : List HP} {r : α → Value} {B : α → List HP} (h : ∀ F, Ent W (A ++ F) (ref02_Writer_Put v0 v1 v2 noP fun v w => ∃ x, v = r x ∧ sat W (B x ++ F) w)) : Cn Try.prog 56 [v0, v1, v2] W A r B :=
  Cn.of (shape := ref02_Writer_Put v0 v1 v2) Try.call56 (fun h => ref02_Writer_Put_calls h) h
theorem ref02_Writer_Put_cnP {v0 v1 v2 : Value} {W : World} {α β : Type} {A : List HP} {r : α → Value} {B : α → List HP} {pc : β → List PanicEntry} {Bp : β → List HP} (h : ∀ F, Ent W (A ++ F) (ref02_Writer_Put v0 v1 v2 (fun ch w => ∃ y, ch = pc y ∧ sat W (Bp y ++ F) w) fun v w => ∃ x, v = r x ∧ sat W (B x ++ F) w)) : CnP Try.prog 56 [v0, v1, v2] W A r B pc Bp :=
  CnP.of (shape := ref02_Writer_Put v0 v1 v2) Try.call56 (fun h => ref02_Writer_Put_calls h) h

/-- ref02_Reverse -/
def ref02_Reverse (v0 v1 : Value) (Kp : PK) (K : Value → WP) : WP :=
  opN Try.prog (sMin #[3, 3] 3 [v1, (.int .i64 32)]) Kp fun x8 =>
  opN Try.prog (sMax #[3, 3] 3 [(.int .i64 0), x8]) Kp fun x9 =>
  loop2 (fun I1 m1 _ y5 y6 =>
   opN Try.prog (sBin .lss 3 y6 x9) Kp fun x12 =>
   condS x12
   (opN Try.prog (sBin .mul 3 (.int .i64 2) y5) Kp fun x16 =>
    opN Try.prog (sConv 3 33 y6) Kp fun x19 =>
    opN Try.prog (sBin .shr 3 v0 x19) Kp fun x20 =>
    opN Try.prog (sBin .and 3 x20 (.int .i64 1)) Kp fun x21 =>
    opN Try.prog (sBin .add 3 x16 x21) Kp fun x22 =>
    opN Try.prog (sBin .add 3 y6 (.int .i64 1)) Kp fun x14 =>
    next2 I1 m1 x22 x14)
   (K y5)) (.int .i64 0) (.int .i64 0)
def ref02_Reverse_an : Ann := { cuts := [], blks := [], loops := [(4, [5, 6])], drs := [] }
theorem ref02_Reverse_eq (v0 v1 : Value) (Kp : PK) (K : Value → WP) : cevF Try.prog ref02_Reverse_an Try.f57 [v0, v1] Kp K = ref02_Reverse v0 v1 Kp K := by kernel_rfl
theorem ref02_Reverse_calls {v0 v1 : Value} {Kp : PK} {K : Value → WP} {w : World} (h : ref02_Reverse v0 v1 Kp K w) : Calls Try.prog 57 #[v0, v1] w (after Kp K) :=
  calls_of_shape (calls_of_cev wide Try.func57 (an := ref02_Reverse_an) (args := [v0, v1]) (cast (congrFun (ref02_Reverse_eq v0 v1 Kp K) w).symm h))
theorem ref02_Reverse_cn {v0 v1 : Value} {W : World} {α : Type} {A : List HP} {r : α → Value} {B : α → List HP} (h : ∀ F, Ent W (A ++ F) (ref02_Reverse v0 v1 noP fun v w => ∃ x, v = r x ∧ sat W (B x ++ F) w)) : Cn Try.prog 57 [v0, v1] W A r B :=
  Cn.of (shape := ref02_Reverse v0 v1) Try.call57 (fun h => ref02_Reverse_calls h) h
theorem ref02_Reverse_cnP {v0 v1 : Value} {W : World} {α β : Type} {A : List HP} {r : α → Value} {B : α → List HP} {pc : β → List PanicEntry} {Bp : β → List HP} (h : ∀ F, Ent W (A ++ F) (ref02_Reverse v0 v1 (fun ch w => ∃ y, ch = pc y ∧ sat W (Bp y ++ F) w) fun v w => ∃ x, v = r x ∧ sat W (B x ++ F) w)) : CnP Try.prog 57 [v0, v1] W A r B pc Bp :=
  CnP.of (shape := ref02_Reverse v0 v1) Try.call57 (fun h => ref02_Reverse_calls h) h

/-- bits_Writer_none -/
def bits_Writer_none (v0 : Value) (Kp : PK) (K : Value → WP) : WP :=
  opN Try.prog (sEq .eql 55 (.tmp 3) (.const (.pointer none)) v0 (.pointer none)) Kp fun x4 =>
  gdK x4 false (fun k => k v0) fun x6 =>
  gdK x4 false (opN Try.prog (sNil x6) Kp) fun x7 =>
  gdK x4 false (opN Try.prog (sFA 106 x7 2) Kp) fun x8 =>
  gdK x4 false (opN Try.prog (sLoad 4 x8) Kp) fun x9 =>
  gdK x4 false (opN Try.prog (sUn .not x9) Kp) fun x10 =>
  opN Try.prog (sPick x4 (.bool true) x10) Kp fun x11 =>
  K x11
def bits_Writer_none_an : Ann := { cuts := [], blks := [], loops := [], drs := [] }
theorem bits_Writer_none_eq (v0 : Value) (Kp : PK) (K : Value → WP) : cevF Try.prog bits_Writer_none_an Try.f58 [v0] Kp K = bits_Writer_none v0 Kp K := by kernel_rfl
theorem bits_Writer_none_calls {v0 : Value} {Kp : PK} {K : Value → WP} {w : World} (h : bits_Writer_none v0 Kp K w) : Calls Try.prog 58 #[v0] w (after Kp K) :=
  calls_of_shape (calls_of_cev wide Try.func58 (an := bits_Writer_none_an) (args := [v0]) (cast (congrFun (bits_Writer_none_eq v0 Kp K) w).symm h))
theorem bits_Writer_none_cn {v0 : Value} {W : World} {α : Type} {A : List HP} {r : α → Value} {B : α → List HP} (h : ∀ F, Ent W (A ++ F) (bits_Writer_none v0 noP fun v w => ∃ x, v = r x ∧ sat W (B x ++ F) w)) : Cn Try.prog 58 [v0] W A r B :=
  Cn.of (shape := bits_Writer_none v0) Try.call58 (fun h => bits_Writer_none_calls h) h
theorem bits_Writer_none_cnP {v0 : Value} {W : World} {α β : Type} {A : List HP} {r : α → Value} {B : α → List HP} {pc : β → List PanicEntry} {Bp : β → List HP} (h : ∀ F, Ent W (A ++ F) (bits_Writer_none v0 (fun ch w => ∃ y, ch = pc y ∧ sat W (Bp y ++ F) w) fun v w => ∃ x, v = r x ∧ sat W (B x ++ F) w)) : CnP Try.prog 58 [v0] W A r B pc Bp :=
  CnP.of (shape := bits_Writer_none v0) Try.call58 (fun h => bits_Writer_none_calls h) h

/-- bits_Reader_Take -/
def bits_Reader_Take (v0 v1 : Value) (Kp : PK) (K : Value → WP) : WP :=
  cut1 (fun J1 =>
   opN Try.prog (sCall (fn 61) [v0]) Kp fun x10 =>
   condS x10
   (J1 x10)
   (opN Try.prog (sBin .lss 3 v1 (.int .i64 0)) Kp fun x12 =>
    condS x12
    (J1 x12)
    (opN Try.prog (sBin .gtr 3 v1 (.int .i64 32)) Kp fun x14 =>
     J1 x14))) fun _ z8 =>
  condS z8
  (K (.tuple #[(.int .i64 0), (.int .i64 1)]))
  (opN Try.prog (sNil v0) Kp fun x18 =>
   opN Try.prog (sFA 115 x18 0) Kp fun x19 =>
   opN Try.prog (sCall (fn 62) [x19]) Kp fun x20 =>
   opN Try.prog (sBin .gtr 3 v1 x20) Kp fun x21 =>
   condS x21
   (K (.tuple #[(.int .i64 0), (.int .i64 20)]))
   (loop2 (fun I1 m1 _ y6 y23 =>
     opN Try.prog (sBin .lss 3 y23 v1) Kp fun x24 =>
     condS x24
     (opN Try.prog (sNil v0) Kp fun x28 =>
      opN Try.prog (sFA 115 x28 0) Kp fun x29 =>
      opN Try.prog (sCall (fn 79) [x29]) Kp fun x30 =>
      opN Try.prog (sConv 3 33 y23) Kp fun x32 =>
      opN Try.prog (sBin .shl 3 x30 x32) Kp fun x33 =>
      opN Try.prog (sBin .or 3 y6 x33) Kp fun x34 =>
      opN Try.prog (sBin .add 3 y23 (.int .i64 1)) Kp fun x35 =>
      next2 I1 m1 x34 x35)
     (K (.tuple #[y6, (.int .i64 0)]))) (.int .i64 0) (.int .i64 0)))
def bits_Reader_Take_an : Ann := { cuts := [(4, [8])], blks := [], loops := [(9, [6, 23])], drs := [] }
theorem bits_Reader_Take_eq (v0 v1 : Value) (Kp : PK) (K : Value → WP) : cevF Try.prog bits_Reader_Take_an Try.f59 [v0, v1] Kp K = bits_Reader_Take v0 v1 Kp K := by kernel_rfl
theorem bits_Reader_Take_calls {v0 v1 : Value} {Kp : PK} {K : Value → WP} {w : World} (h : bits_Reader_Take v0 v1 Kp K w) : Calls Try.prog 59 #[v0, v1] w (after Kp K) :=
  calls_of_shape (calls_of_cev wide Try.func59 (an := bits_Reader_Take_an) (args := [v0, v1]) (cast (congrFun (bits_Reader_Take_eq v0 v1 Kp K) w).symm h))
theorem bits_Reader_Take_cn {v0 v1 : Value} {W : World} {α : Type} {A : List HP} {r : α → Value} {B : α → List HP} (h : ∀ F, Ent W (A ++ F) (bits_Reader_Take v0 v1 noP fun v w => ∃ x, v = r x ∧ sat W (B x ++ F) w)) : Cn Try.prog 59 [v0, v1] W A r B :=
  Cn.of (shape := bits_Reader_Take v0 v1) Try.call59 (fun h => bits_Reader_Take_calls h) h
theorem bits_Reader_Take_cnP {v0 v1 : Value} {W : World} {α β : Type} {A : List HP} {r : α → Value} {B : α → List HP} {pc : β → List PanicEntry} {Bp : β → List HP} (h : ∀ F, Ent W (A ++ F) (bits_Reader_Take v0 v1 (fun ch w => ∃ y, ch = pc y ∧ sat W (Bp y ++ F) w) fun v w => ∃ x, v = r x ∧ sat W (B x ++ F) w)) : CnP Try.prog 59 [v0, v1] W A r B pc Bp :=
  CnP.of (shape := bits_Reader_Take v0 v1) Try.call59 (fun h => bits_Reader_Take_calls h) h

/-- ref02_Reader_Take -/
def ref02_Reader_Take (v0 v1 : Value) (Kp : PK) (K : Value → WP) : WP :=
  opN Try.prog (sBin .lss 3 v1 (.int .i64 0)) Kp fun x9 =>
  gdK x9 false (fun k => k v1) fun x11 =>
  gdK x9 false (opN Try.prog (sBin .gtr 3 x11 (.int .i64 32)) Kp) fun x12 =>
  opN Try.prog (sPick x9 (.bool true) x12) Kp fun x13 =>
  condS x13
  (K (.tuple #[(.int .i64 0), (.int .i64 1)]))
  (opN Try.prog (sCall (fn 42) [v0]) Kp fun x16 =>
   opN Try.prog (sBin .gtr 3 v1 x16) Kp fun x17 =>
   condS x17
   (K (.tuple #[(.int .i64 0), (.int .i64 20)]))
   (loop2 (fun I1 m1 _ y6 y7 =>
     opN Try.prog (sBin .lss 3 y7 v1) Kp fun x20 =>
     condS x20
     (drS (stS Try.prog (sNil v0) fun x25 =>
       stS Try.prog (sFA 117 x25 0) fun x26 =>
       stS Try.prog (sLoad 39 x26) fun x27 =>
       stS Try.prog (sNil v0) fun x29 =>
       stS Try.prog (sFA 117 x29 1) fun x30 =>
       stS Try.prog (sLoad 3 x30) fun x31 =>
       stS Try.prog (sBin .quo 3 x31 (.int .i64 8)) fun x32 =>
       stS Try.prog (sIA 39 x27 x32) fun x33 =>
       stS Try.prog (sLoad 5 x33) fun x34 =>
       stS Try.prog (sNil v0) fun x36 =>
       stS Try.prog (sFA 117 x36 1) fun x37 =>
       stS Try.prog (sLoad 3 x37) fun x38 =>
       stS Try.prog (sBin .rem 3 x38 (.int .i64 8)) fun x39 =>
       stS Try.prog (sConv 3 33 x39) fun x40 =>
       stS Try.prog (sBin .shr 5 x34 x40) fun x41 =>
       stS Try.prog (sBin .and 5 x41 (.int .u8 1)) fun x42 =>
       stS Try.prog (sConv 5 3 x42) fun x43 =>
       stS Try.prog (sConv 3 33 y7) fun x45 =>
       stS Try.prog (sBin .shl 3 x43 x45) fun x46 =>
       stS Try.prog (sBin .or 3 y6 x46) fun x47 =>
       opN Try.prog (sNil v0) Kp fun x49 =>
       opN Try.prog (sFA 117 x49 1) Kp fun x50 =>
       opN Try.prog (sLoad 3 x50) Kp fun x51 =>
       opN Try.prog (sBin .add 3 x51 (.int .i64 1)) Kp fun x52 =>
       opN Try.prog (sNil v0) Kp fun x53 =>
       opN Try.prog (sFA 117 x53 1) Kp fun x54 =>
       opN Try.prog (sStore 3 x54 x52) Kp fun _ =>
       opN Try.prog (sBin .add 3 y7 (.int .i64 1)) Kp fun x22 =>
       next2 I1 m1 x47 x22))
     (K (.tuple #[y6, (.int .i64 0)]))) (.int .i64 0) (.int .i64 0)))
def ref02_Reader_Take_an : Ann := { cuts := [], blks := [], loops := [(7, [6, 7])], drs := [(9, [(0, 1), (1, 1), (2, 1), (3, 1), (4, 1), (5, 1), (6, 1), (7, 1), (8, 1), (9, 1), (10, 1), (11, 1), (12, 1), (13, 1), (14, 1), (15, 1), (16, 1), (17, 1), (18, 1), (19, 1), (20, 1), (21, 1), (22, 1), (23, 1), (24, 1), (25, 1)])] }
theorem ref02_Reader_Take_eq (v0 v1 : Value) (Kp : PK) (K : Value → WP) : cevF Try.prog ref02_Reader_Take_an Try.f60 [v0, v1] Kp K = ref02_Reader_Take v0 v1 Kp K := by kernel_rfl
theorem ref02_Reader_Take_calls {v0 v1 : Value} {Kp : PK} {K : Value → WP} {w : World} (h : ref02_Reader_Take v0 v1 Kp K w) : Calls Try.prog 60 #[v0, v1] w (after Kp K) :=
  calls_of_shape (calls_of_cev wide Try.func60 (an := ref02_Reader_Take_an) (args := [v0, v1]) (cast (congrFun (ref02_Reader_Take_eq v0 v1 Kp K) w).symm h))
theorem ref02_Reader_Take_cn {v0 v1 : Value} {W : World} {α : Type} {A : List HP} {r : α → Value} {B : α → List HP} (h : ∀ F, Ent W (A ++ F) (ref02_Reader_Take v0 v1 noP fun v w => ∃ x, v = r x ∧ sat W (B x ++ F) w)) : Cn Try.prog 60 [v0, v1] W A r B :=
  Cn.of (shape := ref02_Reader_Take v0 v1) Try.call60 (fun h => ref02_Reader_Take_calls h) h
theorem ref02_Reader_Take_cnP {v0 v1 : Value} {W : World} {α β : Type} {A : List HP} {r : α → Value} {B : α → List HP} {pc : β → List PanicEntry} {Bp : β → List HP} (h : ∀ F, Ent W (A ++ F) (ref02_Reader_Take v0 v1 (fun ch w => ∃ y, ch = pc y ∧ sat W (Bp y ++ F) w) fun v w => ∃ x, v = r x ∧ sat W (B x ++ F) w)) : CnP Try.prog 60 [v0, v1] W A r B pc Bp :=
  CnP.of (shape := ref02_Reader_Take v0 v1) Try.call60 (fun h => ref02_Reader_Take_calls h) h

/-- bits_Reader_none -/
def bits_Reader_none (v0 : Value) (Kp : PK) (K : Value → WP) : WP :=
  opN Try.prog (sEq .eql 70 (.tmp 3) (.const (.pointer none)) v0 (.pointer none)) Kp fun x4 =>
  gdK x4 false (fun k => k v0) fun x6 =>
  gdK x4 false (opN Try.prog (sNil x6) Kp) fun x7 =>
  gdK x4 false (opN Try.prog (sFA 115 x7 1) Kp) fun x8 =>
  gdK x4 false (opN Try.prog (sLoad 4 x8) Kp) fun x9 =>
  gdK x4 false (opN Try.prog (sUn .not x9) Kp) fun x10 =>
  opN Try.prog (sPick x4 (.bool true) x10) Kp fun x11 =>
  K x11
def bits_Reader_none_an : Ann := { cuts := [], blks := [], loops := [], drs := [] }
theorem bits_Reader_none_eq (v0 : Value) (Kp : PK) (K : Value → WP) : cevF Try.prog bits_Reader_none_an Try.f61 [v0] Kp K = bits_Reader_none v0 Kp K := by kernel_rfl
theorem bits_Reader_none_calls {v0 : Value} {Kp : PK} {K : Value → WP} {w : World} (h : bits_Reader_none v0 Kp K w) : Calls Try.prog 61 #[v0] w (after Kp K) :=
  calls_of_shape (calls_of_cev wide Try.func61 (an := bits_Reader_none_an) (args := [v0]) (cast (congrFun (bits_Reader_none_eq v0 Kp K) w).symm h))
theorem bits_Reader_none_cn {v0 : Value} {W : World} {α : Type} {A : List HP} {r : α → Value} {B : α → List HP} (h : ∀ F, Ent W (A ++ F) (bits_Reader_none v0 noP fun v w => ∃ x, v = r x ∧ sat W (B x ++ F) w)) : Cn Try.prog 61 [v0] W A r B :=
  Cn.of (shape := bits_Reader_none v0) Try.call61 (fun h => bits_Reader_none_calls h) h
theorem bits_Reader_none_cnP {v0 : Value} {W : World} {α β : Type} {A : List HP} {r : α → Value} {B : α → List HP} {pc : β → List PanicEntry} {Bp : β → List HP} (h : ∀ F, Ent W (A ++ F) (bits_Reader_none v0 (fun ch w => ∃ y, ch = pc y ∧ sat W (Bp y ++ F) w) fun v w => ∃ x, v = r x ∧ sat W (B x ++ F) w)) : CnP Try.prog 61 [v0] W A r B pc Bp :=
  CnP.of (shape := bits_Reader_none v0) Try.call61 (fun h => bits_Reader_none_calls h) h

/-- bits_source_left -/
def bits_source_left (v0 : Value) (Kp : PK) (K : Value → WP) : WP :=
  drS (stS Try.prog (sNil v0) fun x4 =>
   stS Try.prog (sFA 113 x4 0) fun x5 =>
   stS Try.prog (sLoad 39 x5) fun x6 =>
   stS Try.prog (sLen #[39] 3 [x6]) fun x7 =>
   stS Try.prog (sBin .mul 3 (.int .i64 8) x7) fun x8 =>
   stS Try.prog (sNil v0) fun x10 =>
   stS Try.prog (sFA 113 x10 1) fun x11 =>
   stS Try.prog (sLoad 3 x11) fun x12 =>
   stS Try.prog (sBin .sub 3 x8 x12) fun x13 =>
   K x13)
def bits_source_left_an : Ann := { cuts := [], blks := [], loops := [], drs := [(1, [(0, 1), (1, 1), (2, 1), (3, 1), (4, 1), (5, 1), (6, 1), (7, 1), (8, 1), (9, 1), (10, 1), (11, 1)])] }
theorem bits_source_left_eq (v0 : Value) (Kp : PK) (K : Value → WP) : cevF Try.prog bits_source_left_an Try.f62 [v0] Kp K = bits_source_left v0 Kp K := by kernel_rfl
theorem bits_source_left_calls {v0 : Value} {Kp : PK} {K : Value → WP} {w : World} (h : bits_source_left v0 Kp K w) : Calls Try.prog 62 #[v0] w (after Kp K) :=
  calls_of_shape (calls_of_cev wide Try.func62 (an := bits_source_left_an) (args := [v0]) (cast (congrFun (bits_source_left_eq v0 Kp K) w).symm h))
theorem bits_source_left_cn {v0 : Value} {W : World} {α : Type} {A : List HP} {r : α → Value} {B : α → List HP} (h : ∀ F, Ent W (A ++ F) (bits_source_left v0 noP fun v w => ∃ x, v = r x ∧ sat W (B x ++ F) w)) : Cn Try.prog 62 [v0] W A r B :=
  Cn.of (shape := bits_source_left v0) Try.call62 (fun h => bits_source_left_calls h) h
theorem bits_source_left_cnP {v0 : Value} {W : World} {α β : Type} {A : List HP} {r : α → Value} {B : α → List HP} {pc : β → List PanicEntry} {Bp : β → List HP} (h : ∀ F, Ent W (A ++ F) (bits_source_left v0 (fun ch w => ∃ y, ch = pc y ∧ sat W (Bp y ++ F) w) fun v w => ∃ x, v = r x ∧ sat W (B x ++ F) w)) : CnP Try.prog 62 [v0] W A r B pc Bp :=
  CnP.of (shape := bits_source_left v0) Try.call62 (fun h => bits_source_left_calls h) h

/-- slices_stableCmpFunc_huff_weighed_int -/
def slices_stableCmpFunc_huff_weighed_int (v0 v1 v2 : Value) (Kp : PK) (K : Value → WP) : WP :=
  loop2 (fun I1 m1 _ y7 y8 =>
   opN Try.prog (sBin .leq 3 y8 v1) Kp fun x13 =>
   condS x13
   (opN Try.prog (sCall (fn 80) [v0, y7, y8, v2]) Kp fun x18 =>
    opN Try.prog (sBin .add 3 y8 (.int .i64 20)) Kp fun x22 =>
    next2 I1 m1 y8 x22)
   (opN Try.prog (sCall (fn 80) [v0, y7, v1, v2]) Kp fun x27 =>
    loop1 (fun I2 m2 _ y6 =>
     opN Try.prog (sBin .lss 3 y6 v1) Kp fun x30 =>
     condS x30
     (opN Try.prog (sBin .mul 3 (.int .i64 2) y6) Kp fun x32 =>
      loop2 (fun I3 m3 _ y7_2 y8_2 =>
       opN Try.prog (sBin .leq 3 y8_2 v1) Kp fun x35 =>
       condS x35
       (opN Try.prog (sBin .add 3 y7_2 y6) Kp fun x40 =>
        opN Try.prog (sCall (fn 81) [v0, y7_2, x40, y8_2, v2]) Kp fun x43 =>
        opN Try.prog (sBin .mul 3 (.int .i64 2) y6) Kp fun x47 =>
        opN Try.prog (sBin .add 3 y8_2 x47) Kp fun x48 =>
        next2 I3 m3 y8_2 x48)
       (opN Try.prog (sBin .add 3 y7_2 y6) Kp fun x51 =>
        opN Try.prog (sBin .lss 3 x51 v1) Kp fun x54 =>
        condS x54
        (opN Try.prog (sCall (fn 81) [v0, y7_2, x51, v1, v2]) Kp fun x60 =>
         opN Try.prog (sBin .mul 3 y6 (.int .i64 2)) Kp fun x62 =>
         next1 I2 m2 x62)
        (opN Try.prog (sBin .mul 3 y6 (.int .i64 2)) Kp fun x62 =>
         next1 I2 m2 x62))) (.int .i64 0) x32)
     (K (.tuple #[]))) (.int .i64 20))) (.int .i64 0) (.int .i64 20)
def slices_stableCmpFunc_huff_weighed_int_an : Ann := { cuts := [], blks := [], loops := [(2, [7, 8]), (7, [6]), (9, [7, 8])], drs := [] }
theorem slices_stableCmpFunc_huff_weighed_int_eq (v0 v1 v2 : Value) (Kp : PK) (K : Value → WP) : cevF Try.prog slices_stableCmpFunc_huff_weighed_int_an Try.f63 [v0, v1, v2] Kp K = slices_stableCmpFunc_huff_weighed_int v0 v1 v2 Kp K := by kernel_rfl
theorem slices_stableCmpFunc_huff_weighed_int_calls {v0 v1 v2 : Value} {Kp : PK} {K : Value → WP} {w : World} (h : slices_stableCmpFunc_huff_weighed_int v0 v1 v2 Kp K w) : Calls Try.prog 63 #[v0, v1, v2] w (after Kp K) :=
  calls_of_shape (calls_of_cev wide Try.func63 (an := slices_stableCmpFunc_huff_weighed_int_an) (args := [v0, v1, v2]) (cast (congrFun (slices_stableCmpFunc_huff_weighed_int_eq v0 v1 v2 Kp K) w).symm h))
theorem slices_stableCmpFunc_huff_weighed_int_cn {v0 v1 v2 : Value} {W : World} {α : Type} {A : List HP} {r : α → Value} {B : α → List HP} (h : ∀ F, Ent W (A ++ F) (slices_stableCmpFunc_huff_weighed_int v0 v1 v2 noP fun v w => ∃ x, v = r x ∧ sat W (B x ++ F) w)) : Cn Try.prog 63 [v0, v1, v2] W A r B :=
  Cn.of (shape := slices_stableCmpFunc_huff_weighed_int v0 v1 v2) Try.call63 (fun h => slices_stableCmpFunc_huff_weighed_int_calls h) h
theorem slices_stableCmpFunc_huff_weighed_int_cnP {v0 v1 v2 : Value} {W : World} {α β : Type} {A : List HP} {r : α → Value} {B : α → List HP} {pc : β → List PanicEntry} {Bp : β → List HP} (h : ∀ F, Ent W (A ++ F) (slices_stableCmpFunc_huff_weighed_int v0 v1 v2 (fun ch w => ∃ y, ch = pc y ∧ sat W (Bp y ++ F) w) fun v w => ∃ x, v = r x ∧ sat W (B x ++ F) w)) : CnP Try.prog 63 [v0, v1, v2] W A r B pc Bp :=
  CnP.of (shape := slices_stableCmpFunc_huff_weighed_int v0 v1 v2) Try.call63 (fun h => slices_stableCmpFunc_huff_weighed_int_calls h) h

/-- cmp_isNaN_int -/
def cmp_isNaN_int (v0 : Value) (Kp : PK) (K : Value → WP) : WP :=
  opN Try.prog (sEq .neq 3 (.tmp 3) (.tmp 4) v0 v0) Kp fun x5 =>
  K x5
def cmp_isNaN_int_an : Ann := { cuts := [], blks := [], loops := [], drs := [] }
theorem cmp_isNaN_int_eq (v0 : Value) (Kp : PK) (K : Value → WP) : cevF Try.prog cmp_isNaN_int_an Try.f64 [v0] Kp K = cmp_isNaN_int v0 Kp K := by kernel_rfl
theorem cmp_isNaN_int_calls {v0 : Value} {Kp : PK} {K : Value → WP} {w : World} (h : cmp_isNaN_int v0 Kp K w) : Calls Try.prog 64 #[v0] w (after Kp K) :=
  calls_of_shape (calls_of_cev wide Try.func64 (an := cmp_isNaN_int_an) (args := [v0]) (cast (congrFun (cmp_isNaN_int_eq v0 Kp K) w).symm h))
theorem cmp_isNaN_int_cn {v0 : Value} {W : World} {α : Type} {A : List HP} {r : α → Value} {B : α → List HP} (h : ∀ F, Ent W (A ++ F) (cmp_isNaN_int v0 noP fun v w => ∃ x, v = r x ∧ sat W (B x ++ F) w)) : Cn Try.prog 64 [v0] W A r B :=
  Cn.of (shape := cmp_isNaN_int v0) Try.call64 (fun h => cmp_isNaN_int_calls h) h
theorem cmp_isNaN_int_cnP {v0 : Value} {W : World} {α β : Type} {A : List HP} {r : α → Value} {B : α → List HP} {pc : β → List PanicEntry} {Bp : β → List HP} (h : ∀ F, Ent W (A ++ F) (cmp_isNaN_int v0 (fun ch w => ∃ y, ch = pc y ∧ sat W (Bp y ++ F) w) fun v w => ∃ x, v = r x ∧ sat W (B x ++ F) w)) : CnP Try.prog 64 [v0] W A r B pc Bp :=
  CnP.of (shape := cmp_isNaN_int v0) Try.call64 (fun h => cmp_isNaN_int_calls h) h

/-- slices_Grow_int_int -/
def slices_Grow_int_int (v0 v1 : Value) (Kp : PK) (K : Value → WP) : WP :=
  cut0 (fun J1 =>
   opN Try.prog (sBin .lss 3 v1 (.int .i64 0)) Kp fun x6 =>
   condS x6
   (opN Try.prog (sMkI 9 (.string ⟨#[99, 97, 110, 110, 111, 116, 32, 98, 101, 32, 110, 101, 103, 97, 116, 105, 118, 101]⟩)) Kp fun x7 =>
    opN Try.prog (sPanic x7) Kp fun _ =>
    J1)
   (J1)) fun _ =>
  opN Try.prog (sCap #[22] 3 [v0]) Kp fun x10 =>
  opN Try.prog (sLen #[22] 3 [v0]) Kp fun x12 =>
  opN Try.prog (sBin .sub 3 x10 x12) Kp fun x13 =>
  opN Try.prog (sBin .sub 3 v1 x13) Kp fun x14 =>
  opN Try.prog (sBin .gtr 3 x14 (.int .i64 0)) Kp fun x16 =>
  condS x16
  (opN Try.prog (sCap #[22] 3 [v0]) Kp fun x19 =>
   opN Try.prog (sSl 22 v0 none (some x19) none) Kp fun x20 =>
   opN Try.prog (sApp #[22, 3] 22 [x20, x14]) Kp fun x22 =>
   opN Try.prog (sLen #[22] 3 [v0]) Kp fun x24 =>
   opN Try.prog (sSl 22 x22 none (some x24) none) Kp fun x25 =>
   K x25)
  (K v0)
def slices_Grow_int_int_an : Ann := { cuts := [(3, [])], blks := [], loops := [], drs := [] }
theorem slices_Grow_int_int_eq (v0 v1 : Value) (Kp : PK) (K : Value → WP) : cevF Try.prog slices_Grow_int_int_an Try.f65 [v0, v1] Kp K = slices_Grow_int_int v0 v1 Kp K := by kernel_rfl
theorem slices_Grow_int_int_calls {v0 v1 : Value} {Kp : PK} {K : Value → WP} {w : World} (h : slices_Grow_int_int v0 v1 Kp K w) : Calls Try.prog 65 #[v0, v1] w (after Kp K) :=
  calls_of_shape (calls_of_cev wide Try.func65 (an := slices_Grow_int_int_an) (args := [v0, v1]) (cast (congrFun (slices_Grow_int_int_eq v0 v1 Kp K) w).symm h))
theorem slices_Grow_int_int_cn {v0 v1 : Value} {W : World} {α : Type} {A : List HP} {r : α → Value} {B : α → List HP} (h : ∀ F, Ent W (A ++ F) (slices_Grow_int_int v0 v1 noP fun v w => ∃ x, v = r x ∧ sat W (B x ++ F) w)) : Cn Try.prog 65 [v0, v1] W A r B :=
  Cn.of (shape := slices_Grow_int_int v0 v1) Try.call65 (fun h => slices_Grow_int_int_calls h) h
theorem slices_Grow_int_int_cnP {v0 v1 : Value} {W : World} {α β : Type} {A : List HP} {r : α → Value} {B : α → List HP} {pc : β → List PanicEntry} {Bp : β → List HP} (h : ∀ F, Ent W (A ++ F) (slices_Grow_int_int v0 v1 (fun ch w => ∃ y, ch = pc y ∧ sat W (Bp y ++ F) w) fun v w => ∃ x, v = r x ∧ sat W (B x ++ F) w)) : CnP Try.prog 65 [v0, v1] W A r B pc Bp :=
  CnP.of (shape := slices_Grow_int_int v0 v1) Try.call65 (fun h => slices_Grow_int_int_calls h) h

/-- inflate_all_1: rv: what recover hands out -/
def inflate_all_1 (v0 v1 v2 v3 : Value) (rv : Value) (Kp : PK) (K : Value → WP) : WP :=
  opN Try.prog (sEq .neq 20 (.tmp 6) (.const .nilIface) rv .nilIface) Kp fun x7 =>
  condS x7
  (drS (stD Try.prog (sTA rv 20 23 false) fun D1 x9 =>
    opN Try.prog (sStore 39 v0 (.slice none 0 0)) Kp fun _ =>
    (fun w => D1 w ∧ (opN Try.prog (sStore 46 v1 (.slice none 0 0)) Kp fun _ =>
      (fun w => D1 w ∧ (opN Try.prog (sStore 3 v2 (.int .i64 0)) Kp fun _ =>
        (fun w => D1 w ∧ (opN Try.prog (sStore 23 v3 x9) Kp fun _ =>
          K (.tuple #[])) w)) w)) w)))
  (K (.tuple #[]))
def inflate_all_1_an : Ann := { cuts := [], blks := [], loops := [], drs := [(2, [(0, 2), (1, 3), (2, 0), (3, 0), (4, 0), (5, 0)])] }
theorem inflate_all_1_eq (v0 v1 v2 v3 : Value) (rv : Value) (Kp : PK) (K : Value → WP) : cevR Try.prog inflate_all_1_an Try.f66 [v0, v1, v2, v3] rv Kp K = inflate_all_1 v0 v1 v2 v3 rv Kp K := by kernel_rfl
theorem inflate_all_1_d {v0 v1 v2 v3 : Value} {u : FrameMode} {Kp : PK} {K : Value → WP} {w : World} (h : inflate_all_1 v0 v1 v2 v3 (recV u).1 Kp K w) : CallsD Try.prog 66 ([v0, v1, v2, v3] : List Value).toArray u w fun
      | .returned v, u', w' => u' = (recV u).2 ∧ K v w'
      | .panicked ch, u', w' => u' = (recV u).2 ∧ Kp ch w'
      | .outgrown, _, _ => False :=
  callsD_of_cevR wide Try.func66 (an := inflate_all_1_an) (args := [v0, v1, v2, v3]) (cast (congrFun (inflate_all_1_eq v0 v1 v2 v3 _ Kp K) w).symm h)

/-- inflate_stream_stored -/
def inflate_stream_stored (v0 : Value) (Kp : PK) (K : Value → WP) : WP :=
  opN Try.prog (sNil v0) Kp fun x6 =>
  opN Try.prog (sFA 126 x6 0) Kp fun x7 =>
  opN Try.prog (sLoad 70 x7) Kp fun x8 =>
  opN Try.prog (sCall (fn 82) [x8]) Kp fun x9 =>
  opN Try.prog (sCall (fn 71) [v0, (.int .i64 16)]) Kp fun x11 =>
  opN Try.prog (sCall (fn 71) [v0, (.int .i64 16)]) Kp fun x13 =>
  opN Try.prog (sBin .sub 3 (.int .i64 65535) x11) Kp fun x15 =>
  opN Try.prog (sEq .eql 3 (.tmp 13) (.tmp 15) x13 x15) Kp fun x16 =>
  opN Try.prog (sCall (fn 83) [x16, (.int .i64 31)]) Kp fun x17 =>
  opN Try.prog (sCall (fn 84) [v0, x11]) Kp fun x20 =>
  opN Try.prog (sNil v0) Kp fun x23 =>
  opN Try.prog (sFA 126 x23 0) Kp fun x24 =>
  opN Try.prog (sLoad 70 x24) Kp fun x25 =>
  opN Try.prog (sCall (fn 85) [x25, x11]) Kp fun x27 =>
  opN Try.prog (sExt x27 0) Kp fun x28 =>
  opN Try.prog (sExt x27 1) Kp fun x29 =>
  opN Try.prog (sCall (fn 86) [x29]) Kp fun x31 =>
  opN Try.prog (sNil v0) Kp fun x34 =>
  opN Try.prog (sFA 126 x34 1) Kp fun x35 =>
  opN Try.prog (sLoad 39 x35) Kp fun x36 =>
  opN Try.prog (sApp #[39, 39] 39 [x36, x28]) Kp fun x38 =>
  opN Try.prog (sNil v0) Kp fun x39 =>
  opN Try.prog (sFA 126 x39 1) Kp fun x40 =>
  opN Try.prog (sStore 39 x40 x38) Kp fun _ =>
  K (.tuple #[])
def inflate_stream_stored_an : Ann := { cuts := [], blks := [], loops := [], drs := [] }
theorem inflate_stream_stored_eq (v0 : Value) (Kp : PK) (K : Value → WP) : cevF Try.prog inflate_stream_stored_an Try.f67 [v0] Kp K = inflate_stream_stored v0 Kp K := by kernel_rfl
theorem inflate_stream_stored_calls {v0 : Value} {Kp : PK} {K : Value → WP} {w : World} (h : inflate_stream_stored v0 Kp K w) : Calls Try.prog 67 #[v0] w (after Kp K) :=
  calls_of_shape (calls_of_cev wide Try.func67 (an := inflate_stream_stored_an) (args := [v0]) (cast (congrFun (inflate_stream_stored_eq v0 Kp K) w).symm h))
theorem inflate_stream_stored_cn {v0 : Value} {W : World} {α : Type} {A : List HP} {r : α → Value} {B : α → List HP} (h : ∀ F, Ent W (A ++ F) (inflate_stream_stored v0 noP fun v w => ∃ x, v = r x ∧ sat W (B x ++ F) w)) : Cn Try.prog 67 [v0] W A r B :=
  Cn.of (shape := inflate_stream_stored v0) Try.call67 (fun h => inflate_stream_stored_calls h) h
theorem inflate_stream_stored_cnP {v0 : Value} {W : World} {α β : Type} {A : List HP} {r : α → Value} {B : α → List HP} {pc : β → List PanicEntry} {Bp : β → List HP} (h : ∀ F, Ent W (A ++ F) (inflate_stream_stored v0 (fun ch w => ∃ y, ch = pc y ∧ sat W (Bp y ++ F) w) fun v w => ∃ x, v = r x ∧ sat W (B x ++ F) w)) : CnP Try.prog 67 [v0] W A r B pc Bp :=
  CnP.of (shape := inflate_stream_stored v0) Try.call67 (fun h => inflate_stream_stored_calls h) h

/-- inflate_stream_fixed -/
def inflate_stream_fixed (v0 : Value) (Kp : PK) (K : Value → WP) : WP :=
  opN Try.prog (sCall (fn 87) []) Kp fun x5 =>
  opN Try.prog (sExt x5 0) Kp fun x6 =>
  opN Try.prog (sExt x5 1) Kp fun x7 =>
  opN Try.prog (sCall (fn 89) [x6]) Kp fun x10 =>
  opN Try.prog (sCall (fn 89) [x7]) Kp fun x12 =>
  opN Try.prog (sCall (fn 88) [v0, x10, x12]) Kp fun x13 =>
  K (.tuple #[])
def inflate_stream_fixed_an : Ann := { cuts := [], blks := [], loops := [], drs := [] }
theorem inflate_stream_fixed_eq (v0 : Value) (Kp : PK) (K : Value → WP) : cevF Try.prog inflate_stream_fixed_an Try.f68 [v0] Kp K = inflate_stream_fixed v0 Kp K := by kernel_rfl
theorem inflate_stream_fixed_calls {v0 : Value} {Kp : PK} {K : Value → WP} {w : World} (h : inflate_stream_fixed v0 Kp K w) : Calls Try.prog 68 #[v0] w (after Kp K) :=
  calls_of_shape (calls_of_cev wide Try.func68 (an := inflate_stream_fixed_an) (args := [v0]) (cast (congrFun (inflate_stream_fixed_eq v0 Kp K) w).symm h))
theorem inflate_stream_fixed_cn {v0 : Value} {W : World} {α : Type} {A : List HP} {r : α → Value} {B : α → List HP} (h : ∀ F, Ent W (A ++ F) (inflate_stream_fixed v0 noP fun v w => ∃ x, v = r x ∧ sat W (B x ++ F) w)) : Cn Try.prog 68 [v0] W A r B :=
  Cn.of (shape := inflate_stream_fixed v0) Try.call68 (fun h => inflate_stream_fixed_calls h) h
theorem inflate_stream_fixed_cnP {v0 : Value} {W : World} {α β : Type} {A : List HP} {r : α → Value} {B : α → List HP} {pc : β → List PanicEntry} {Bp : β → List HP} (h : ∀ F, Ent W (A ++ F) (inflate_stream_fixed v0 (fun ch w => ∃ y, ch = pc y ∧ sat W (Bp y ++ F) w) fun v w => ∃ x, v = r x ∧ sat W (B x ++ F) w)) : CnP Try.prog 68 [v0] W A r B pc Bp :=
  CnP.of (shape := inflate_stream_fixed v0) Try.call68 (fun h => inflate_stream_fixed_calls h) h

/-- inflate_stream_dynamic -/
def inflate_stream_dynamic (v0 : Value) (Kp : PK) (K : Value → WP) : WP :=
  opN Try.prog (sCall (fn 71) [v0, (.int .i64 5)]) Kp fun x13 =>
  opN Try.prog (sCall (fn 71) [v0, (.int .i64 5)]) Kp fun x15 =>
  opN Try.prog (sCall (fn 71) [v0, (.int .i64 4)]) Kp fun x17 =>
  opN Try.prog (sBin .leq 3 x13 (.int .i64 29)) Kp fun x19 =>
  gdK x19 true (fun k => k x15) fun x21 =>
  gdK x19 true (opN Try.prog (sBin .leq 3 x21 (.int .i64 29)) Kp) fun x22 =>
  opN Try.prog (sPick x19 x22 (.bool false)) Kp fun x23 =>
  opN Try.prog (sCall (fn 83) [x23, (.int .i64 31)]) Kp fun x24 =>
  opN Try.prog (sMkSl 22 (.int .i64 19) (.int .i64 19)) Kp fun x25 =>
  opN Try.prog (sBuild 148 [(0, (.int .i64 16)), (1, (.int .i64 17)), (2, (.int .i64 18)), (3, (.int .i64 0)), (4, (.int .i64 8)), (5, (.int .i64 7)), (6, (.int .i64 9)), (7, (.int .i64 6)), (8, (.int .i64 10)), (9, (.int .i64 5)), (10, (.int .i64 11)), (11, (.int .i64 4)), (12, (.int .i64 12)), (13, (.int .i64 3)), (14, (.int .i64 13)), (15, (.int .i64 2)), (16, (.int .i64 14)), (17, (.int .i64 1)), (18, (.int .i64 15))]) Kp fun x26 =>
  opN Try.prog (sAlloc 148) Kp fun x6 =>
  opN Try.prog (sStore 148 x6 x26) Kp fun _ =>
  opN Try.prog (sBin .add 3 x17 (.int .i64 4)) Kp fun x28 =>
  opN Try.prog (sSl 148 x6 none (some x28) none) Kp fun x29 =>
  opN Try.prog (sLen #[22] 3 [x29]) Kp fun x30 =>
  loop1 (fun I1 m1 _ y31 =>
   opN Try.prog (sBin .lss 3 y31 x30) Kp fun x32 =>
   condS x32
   (opN Try.prog (sIA 22 x29 y31) Kp fun x33 =>
    opN Try.prog (sLoad 3 x33) Kp fun x34 =>
    opN Try.prog (sCall (fn 71) [v0, (.int .i64 3)]) Kp fun x38 =>
    opN Try.prog (sIA 22 x25 x34) Kp fun x39 =>
    opN Try.prog (sStore 3 x39 x38) Kp fun _ =>
    opN Try.prog (sBin .add 3 y31 (.int .i64 1)) Kp fun x40 =>
    next1 I1 m1 x40)
   (opN Try.prog (sCall (fn 22) [x25]) Kp fun x42 =>
    opN Try.prog (sCall (fn 83) [x42, (.int .i64 30)]) Kp fun x43 =>
    opN Try.prog (sCall (fn 89) [x25]) Kp fun x46 =>
    opN Try.prog (sBin .add 3 x13 (.int .i64 257)) Kp fun x48 =>
    opN Try.prog (sBin .add 3 x48 x15) Kp fun x50 =>
    opN Try.prog (sBin .add 3 x50 (.int .i64 1)) Kp fun x51 =>
    opN Try.prog (sCall (fn 90) [v0, x46, x51]) Kp fun x52 =>
    drS (stS Try.prog (sBin .add 3 x13 (.int .i64 257)) fun x55 =>
     stS Try.prog (sSl 22 x52 none (some x55) none) fun x56 =>
     stS Try.prog (sBin .add 3 x13 (.int .i64 257)) fun x59 =>
     stS Try.prog (sSl 22 x52 (some x59) none none) fun x60 =>
     opN Try.prog (sIA 22 x56 (.int .i64 256)) Kp fun x62 =>
     opN Try.prog (sLoad 3 x62) Kp fun x63 =>
     opN Try.prog (sBin .gtr 3 x63 (.int .i64 0)) Kp fun x64 =>
     gdK x64 true (fun k => k x56) fun x66 =>
     gdK x64 true (opN Try.prog (sCall (fn 91) [x66]) Kp) fun x67 =>
     opN Try.prog (sPick x64 x67 (.bool false)) Kp fun x68 =>
     gdK x68 true (fun k => k x60) fun x70 =>
     gdK x68 true (opN Try.prog (sCall (fn 91) [x70]) Kp) fun x71 =>
     opN Try.prog (sPick x68 x71 (.bool false)) Kp fun x72 =>
     opN Try.prog (sCall (fn 83) [x72, (.int .i64 30)]) Kp fun x73 =>
     opN Try.prog (sCall (fn 89) [x56]) Kp fun x76 =>
     opN Try.prog (sCall (fn 89) [x60]) Kp fun x78 =>
     opN Try.prog (sCall (fn 88) [v0, x76, x78]) Kp fun x79 =>
     K (.tuple #[])))) (.int .i64 0)
def inflate_stream_dynamic_an : Ann := { cuts := [], blks := [], loops := [(5, [31])], drs := [(11, [(0, 1), (1, 1), (2, 1), (3, 1), (4, 1), (5, 1), (6, 1), (7, 1), (8, 1), (9, 1)])] }
theorem inflate_stream_dynamic_eq (v0 : Value) (Kp : PK) (K : Value → WP) : cevF Try.prog inflate_stream_dynamic_an Try.f69 [v0] Kp K = inflate_stream_dynamic v0 Kp K := by kernel_rfl
theorem inflate_stream_dynamic_calls {v0 : Value} {Kp : PK} {K : Value → WP} {w : World} (h : inflate_stream_dynamic v0 Kp K w) : Calls Try.prog 69 #[v0] w (after Kp K) :=
  calls_of_shape (calls_of_cev wide Try.func69 (an := inflate_stream_dynamic_an) (args := [v0]) (cast (congrFun (inflate_stream_dynamic_eq v0 Kp K) w).symm h))
theorem inflate_stream_dynamic_cn {v0 : Value} {W : World} {α : Type} {A : List HP} {r : α → Value} {B : α → List HP} (h : ∀ F, Ent W (A ++ F) (inflate_stream_dynamic v0 noP fun v w => ∃ x, v = r x ∧ sat W (B x ++ F) w)) : Cn Try.prog 69 [v0] W A r B :=
  Cn.of (shape := inflate_stream_dynamic v0) Try.call69 (fun h => inflate_stream_dynamic_calls h) h
theorem inflate_stream_dynamic_cnP {v0 : Value} {W : World} {α β : Type} {A : List HP} {r : α → Value} {B : α → List HP} {pc : β → List PanicEntry} {Bp : β → List HP} (h : ∀ F, Ent W (A ++ F) (inflate_stream_dynamic v0 (fun ch w => ∃ y, ch = pc y ∧ sat W (Bp y ++ F) w) fun v w => ∃ x, v = r x ∧ sat W (B x ++ F) w)) : CnP Try.prog 69 [v0] W A r B pc Bp :=
  CnP.of (shape := inflate_stream_dynamic v0) Try.call69 (fun h => inflate_stream_dynamic_calls h) h

/-- inflate_stream_none -/
def inflate_stream_none (v0 : Value) (Kp : PK) (K : Value → WP) : WP :=
  opN Try.prog (sMkI 23 (.int .i64 31)) Kp fun x2 =>
  opN Try.prog (sPanic x2) Kp fun _ =>
  K (.tuple #[])
def inflate_stream_none_an : Ann := { cuts := [], blks := [], loops := [], drs := [] }
theorem inflate_stream_none_eq (v0 : Value) (Kp : PK) (K : Value → WP) : cevF Try.prog inflate_stream_none_an Try.f70 [v0] Kp K = inflate_stream_none v0 Kp K := by kernel_rfl
theorem inflate_stream_none_calls {v0 : Value} {Kp : PK} {K : Value → WP} {w : World} (h : inflate_stream_none v0 Kp K w) : Calls Try.prog 70 #[v0] w (after Kp K) :=
  calls_of_shape (calls_of_cev wide Try.func70 (an := inflate_stream_none_an) (args := [v0]) (cast (congrFun (inflate_stream_none_eq v0 Kp K) w).symm h))
theorem inflate_stream_none_cn {v0 : Value} {W : World} {α : Type} {A : List HP} {r : α → Value} {B : α → List HP} (h : ∀ F, Ent W (A ++ F) (inflate_stream_none v0 noP fun v w => ∃ x, v = r x ∧ sat W (B x ++ F) w)) : Cn Try.prog 70 [v0] W A r B :=
  Cn.of (shape := inflate_stream_none v0) Try.call70 (fun h => inflate_stream_none_calls h) h
theorem inflate_stream_none_cnP {v0 : Value} {W : World} {α β : Type} {A : List HP} {r : α → Value} {B : α → List HP} {pc : β → List PanicEntry} {Bp : β → List HP} (h : ∀ F, Ent W (A ++ F) (inflate_stream_none v0 (fun ch w => ∃ y, ch = pc y ∧ sat W (Bp y ++ F) w) fun v w => ∃ x, v = r x ∧ sat W (B x ++ F) w)) : CnP Try.prog 70 [v0] W A r B pc Bp :=
  CnP.of (shape := inflate_stream_none v0) Try.call70 (fun h => inflate_stream_none_calls h) h

/-- inflate_stream_take -/
def inflate_stream_take (v0 v1 : Value) (Kp : PK) (K : Value → WP) : WP :=
  opN Try.prog (sNil v0) Kp fun x9 =>
  opN Try.prog (sFA 126 x9 0) Kp fun x10 =>
  opN Try.prog (sLoad 70 x10) Kp fun x11 =>
  opN Try.prog (sCall (fn 59) [x11, v1]) Kp fun x13 =>
  opN Try.prog (sExt x13 0) Kp fun x14 =>
  opN Try.prog (sExt x13 1) Kp fun x15 =>
  opN Try.prog (sCall (fn 86) [x15]) Kp fun x17 =>
  K x14
def inflate_stream_take_an : Ann := { cuts := [], blks := [], loops := [], drs := [] }
theorem inflate_stream_take_eq (v0 v1 : Value) (Kp : PK) (K : Value → WP) : cevF Try.prog inflate_stream_take_an Try.f71 [v0, v1] Kp K = inflate_stream_take v0 v1 Kp K := by kernel_rfl
theorem inflate_stream_take_calls {v0 v1 : Value} {Kp : PK} {K : Value → WP} {w : World} (h : inflate_stream_take v0 v1 Kp K w) : Calls Try.prog 71 #[v0, v1] w (after Kp K) :=
  calls_of_shape (calls_of_cev wide Try.func71 (an := inflate_stream_take_an) (args := [v0, v1]) (cast (congrFun (inflate_stream_take_eq v0 v1 Kp K) w).symm h))
theorem inflate_stream_take_cn {v0 v1 : Value} {W : World} {α : Type} {A : List HP} {r : α → Value} {B : α → List HP} (h : ∀ F, Ent W (A ++ F) (inflate_stream_take v0 v1 noP fun v w => ∃ x, v = r x ∧ sat W (B x ++ F) w)) : Cn Try.prog 71 [v0, v1] W A r B :=
  Cn.of (shape := inflate_stream_take v0 v1) Try.call71 (fun h => inflate_stream_take_calls h) h
theorem inflate_stream_take_cnP {v0 v1 : Value} {W : World} {α β : Type} {A : List HP} {r : α → Value} {B : α → List HP} {pc : β → List PanicEntry} {Bp : β → List HP} (h : ∀ F, Ent W (A ++ F) (inflate_stream_take v0 v1 (fun ch w => ∃ y, ch = pc y ∧ sat W (Bp y ++ F) w) fun v w => ∃ x, v = r x ∧ sat W (B x ++ F) w)) : CnP Try.prog 71 [v0, v1] W A r B pc Bp :=
  CnP.of (shape := inflate_stream_take v0 v1) Try.call71 (fun h => inflate_stream_take_calls h) h

/-- ref05_stream_take -/
def ref05_stream_take (v0 v1 : Value) (Kp : PK) (K : Value → WP) : WP :=
  opN Try.prog (sNil v0) Kp fun x8 =>
  opN Try.prog (sFA 132 x8 3) Kp fun x9 =>
  opN Try.prog (sLoad 3 x9) Kp fun x10 =>
  opN Try.prog (sEq .neq 3 (.tmp 10) (.const (.int .i64 0)) x10 (.int .i64 0)) Kp fun x11 =>
  condS x11
  (K (.int .i64 0))
  (opN Try.prog (sNil v0) Kp fun x14 =>
   opN Try.prog (sFA 132 x14 0) Kp fun x15 =>
   opN Try.prog (sLoad 72 x15) Kp fun x16 =>
   opN Try.prog (sCall (fn 60) [x16, v1]) Kp fun x18 =>
   opN Try.prog (sExt x18 0) Kp fun x19 =>
   opN Try.prog (sExt x18 1) Kp fun x20 =>
   opN Try.prog (sEq .neq 3 (.tmp 21) (.const (.int .i64 0)) x20 (.int .i64 0)) Kp fun x22 =>
   condS x22
   (opN Try.prog (sCall (fn 77) [v0, x20]) Kp fun x25 =>
    K x19)
   (K x19))
def ref05_stream_take_an : Ann := { cuts := [], blks := [], loops := [], drs := [] }
theorem ref05_stream_take_eq (v0 v1 : Value) (Kp : PK) (K : Value → WP) : cevF Try.prog ref05_stream_take_an Try.f72 [v0, v1] Kp K = ref05_stream_take v0 v1 Kp K := by kernel_rfl
theorem ref05_stream_take_calls {v0 v1 : Value} {Kp : PK} {K : Value → WP} {w : World} (h : ref05_stream_take v0 v1 Kp K w) : Calls Try.prog 72 #[v0, v1] w (after Kp K) :=
  calls_of_shape (calls_of_cev wide Try.func72 (an := ref05_stream_take_an) (args := [v0, v1]) (cast (congrFun (ref05_stream_take_eq v0 v1 Kp K) w).symm h))
theorem ref05_stream_take_cn {v0 v1 : Value} {W : World} {α : Type} {A : List HP} {r : α → Value} {B : α → List HP} (h : ∀ F, Ent W (A ++ F) (ref05_stream_take v0 v1 noP fun v w => ∃ x, v = r x ∧ sat W (B x ++ F) w)) : Cn Try.prog 72 [v0, v1] W A r B :=
  Cn.of (shape := ref05_stream_take v0 v1) Try.call72 (fun h => ref05_stream_take_calls h) h
theorem ref05_stream_take_cnP {v0 v1 : Value} {W : World} {α β : Type} {A : List HP} {r : α → Value} {B : α → List HP} {pc : β → List PanicEntry} {Bp : β → List HP} (h : ∀ F, Ent W (A ++ F) (ref05_stream_take v0 v1 (fun ch w => ∃ y, ch = pc y ∧ sat W (Bp y ++ F) w) fun v w => ∃ x, v = r x ∧ sat W (B x ++ F) w)) : CnP Try.prog 72 [v0, v1] W A r B pc Bp :=
  CnP.of (shape := ref05_stream_take v0 v1) Try.call72 (fun h => ref05_stream_take_calls h) h

/-- ref05_stream_stored -/
def ref05_stream_stored (v0 : Value) (Kp : PK) (K : Value → WP) : WP :=
  opN Try.prog (sNil v0) Kp fun x7 =>
  opN Try.prog (sFA 132 x7 0) Kp fun x8 =>
  opN Try.prog (sLoad 72 x8) Kp fun x9 =>
  opN Try.prog (sCall (fn 92) [x9]) Kp fun x10 =>
  opN Try.prog (sCall (fn 72) [v0, (.int .i64 16)]) Kp fun x12 =>
  opN Try.prog (sCall (fn 72) [v0, (.int .i64 16)]) Kp fun x14 =>
  cut0 (fun J1 =>
   opN Try.prog (sNil v0) Kp fun x16 =>
   opN Try.prog (sFA 132 x16 3) Kp fun x17 =>
   opN Try.prog (sLoad 3 x17) Kp fun x18 =>
   opN Try.prog (sEq .eql 3 (.tmp 18) (.const (.int .i64 0)) x18 (.int .i64 0)) Kp fun x19 =>
   gdK x19 true (fun k => k x14) fun x21 =>
   gdK x19 true (fun k => k x12) fun x22 =>
   gdK x19 true (opN Try.prog (sBin .sub 3 (.int .i64 65535) x22) Kp) fun x23 =>
   gdK x19 true (opN Try.prog (sEq .neq 3 (.tmp 21) (.tmp 23) x21 x23) Kp) fun x24 =>
   opN Try.prog (sPick x19 x24 (.bool false)) Kp fun x25 =>
   condS x25
   (opN Try.prog (sCall (fn 77) [v0, (.int .i64 31)]) Kp fun x27 =>
    J1)
   (J1)) fun _ =>
  cut0 (fun J2 =>
   drS (stS Try.prog (sNil v0) fun x29 =>
    stS Try.prog (sFA 132 x29 3) fun x30 =>
    stS Try.prog (sLoad 3 x30) fun x31 =>
    stS Try.prog (sEq .eql 3 (.tmp 31) (.const (.int .i64 0)) x31 (.int .i64 0)) fun x32 =>
    gdK x32 true (fun k => k x12) fun x34 =>
    gdK x32 true (fun k => k v0) fun x35 =>
    gdK x32 true (stS Try.prog (sNil x35)) fun x36 =>
    gdK x32 true (stS Try.prog (sFA 132 x36 2)) fun x37 =>
    gdK x32 true (stS Try.prog (sLoad 3 x37)) fun x38 =>
    gdK x32 true (fun k => k v0) fun x39 =>
    gdK x32 true (stS Try.prog (sNil x39)) fun x40 =>
    gdK x32 true (stS Try.prog (sFA 132 x40 1)) fun x41 =>
    gdK x32 true (stS Try.prog (sLoad 39 x41)) fun x42 =>
    gdK x32 true (stS Try.prog (sLen #[39] 3 [x42])) fun x43 =>
    gdK x32 true (stS Try.prog (sBin .sub 3 x38 x43)) fun x44 =>
    gdK x32 true (stS Try.prog (sBin .gtr 3 x34 x44)) fun x45 =>
    stS Try.prog (sPick x32 x45 (.bool false)) fun x46 =>
    condS x46
    (opN Try.prog (sCall (fn 77) [v0, (.int .i64 6)]) Kp fun x48 =>
     J2)
    (J2))) fun _ =>
  opN Try.prog (sNil v0) Kp fun x50 =>
  opN Try.prog (sFA 132 x50 3) Kp fun x51 =>
  opN Try.prog (sLoad 3 x51) Kp fun x52 =>
  opN Try.prog (sEq .neq 3 (.tmp 52) (.const (.int .i64 0)) x52 (.int .i64 0)) Kp fun x53 =>
  condS x53
  (K (.tuple #[]))
  (opN Try.prog (sNil v0) Kp fun x56 =>
   opN Try.prog (sFA 132 x56 0) Kp fun x57 =>
   opN Try.prog (sLoad 72 x57) Kp fun x58 =>
   opN Try.prog (sCall (fn 93) [x58, x12]) Kp fun x60 =>
   opN Try.prog (sExt x60 0) Kp fun x61 =>
   opN Try.prog (sExt x60 1) Kp fun x62 =>
   opN Try.prog (sEq .neq 3 (.tmp 63) (.const (.int .i64 0)) x62 (.int .i64 0)) Kp fun x64 =>
   condS x64
   (opN Try.prog (sCall (fn 77) [v0, x62]) Kp fun x67 =>
    K (.tuple #[]))
   (opN Try.prog (sNil v0) Kp fun x70 =>
    opN Try.prog (sFA 132 x70 1) Kp fun x71 =>
    opN Try.prog (sLoad 39 x71) Kp fun x72 =>
    opN Try.prog (sApp #[39, 39] 39 [x72, x61]) Kp fun x74 =>
    opN Try.prog (sNil v0) Kp fun x75 =>
    opN Try.prog (sFA 132 x75 1) Kp fun x76 =>
    opN Try.prog (sStore 39 x76 x74) Kp fun _ =>
    K (.tuple #[])))
def ref05_stream_stored_an : Ann := { cuts := [(5, []), (7, [])], blks := [], loops := [], drs := [(5, [(0, 1), (1, 1), (2, 1), (3, 1), (4, 1), (5, 1), (6, 1), (7, 1), (8, 1), (9, 1), (10, 1), (11, 1), (12, 1), (13, 1), (14, 1), (15, 1), (16, 1), (17, 1), (18, 1)])] }
theorem ref05_stream_stored_eq (v0 : Value) (Kp : PK) (K : Value → WP) : cevF Try.prog ref05_stream_stored_an Try.f73 [v0] Kp K = ref05_stream_stored v0 Kp K := by kernel_rfl
theorem ref05_stream_stored_calls {v0 : Value} {Kp : PK} {K : Value → WP} {w : World} (h : ref05_stream_stored v0 Kp K w) : Calls Try.prog 73 #[v0] w (after Kp K) :=
  calls_of_shape (calls_of_cev wide Try.func73 (an := ref05_stream_stored_an) (args := [v0]) (cast (congrFun (ref05_stream_stored_eq v0 Kp K) w).symm h))
theorem ref05_stream_stored_cn {v0 : Value} {W : World} {α : Type} {A : List HP} {r : α → Value} {B : α → List HP} (h : ∀ F, Ent W (A ++ F) (ref05_stream_stored v0 noP fun v w => ∃ x, v = r x ∧ sat W (B x ++ F) w)) : Cn Try.prog 73 [v0] W A r B :=
  Cn.of (shape := ref05_stream_stored v0) Try.call73 (fun h => ref05_stream_stored_calls h) h
theorem ref05_stream_stored_cnP {v0 : Value} {W : World} {α β : Type} {A : List HP} {r : α → Value} {B : α → List HP} {pc : β → List PanicEntry} {Bp : β → List HP} (h : ∀ F, Ent W (A ++ F) (ref05_stream_stored v0 (fun ch w => ∃ y, ch = pc y ∧ sat W (Bp y ++ F) w) fun v w => ∃ x, v = r x ∧ sat W (B x ++ F) w)) : CnP Try.prog 73 [v0] W A r B pc Bp :=
  CnP.of (shape := ref05_stream_stored v0) Try.call73 (fun h => ref05_stream_stored_calls h) h

/-- ref05_Fixed -/
def ref05_Fixed (Kp : PK) (K : Value → WP) : WP :=
  loop2 (fun I1 m1 _ y2 y4 =>
   opN Try.prog (sBin .lss 3 y4 (.int .i64 288)) Kp fun x8 =>
   condS x8
   (cut1 (fun J1 =>
     opN Try.prog (sBin .geq 3 y4 (.int .i64 144)) Kp fun x12 =>
     gdK x12 true (fun k => k y4) fun x14 =>
     gdK x12 true (opN Try.prog (sBin .lss 3 x14 (.int .i64 256)) Kp) fun x15 =>
     opN Try.prog (sPick x12 x15 (.bool false)) Kp fun x16 =>
     condS x16
     (J1 (.int .i64 9))
     (J1 (.int .i64 8))) fun _ z5 =>
    cut1 (fun J2 =>
     opN Try.prog (sBin .geq 3 y4 (.int .i64 256)) Kp fun x18 =>
     gdK x18 true (fun k => k y4) fun x20 =>
     gdK x18 true (opN Try.prog (sBin .lss 3 x20 (.int .i64 280)) Kp) fun x21 =>
     opN Try.prog (sPick x18 x21 (.bool false)) Kp fun x22 =>
     condS x22
     (J2 (.int .i64 7))
     (J2 z5)) fun _ z5 =>
    opN Try.prog (sBuildSl 22 1 [(0, z5)]) Kp fun x25 =>
    opN Try.prog (sApp #[22, 22] 22 [y2, x25]) Kp fun x26 =>
    opN Try.prog (sBin .add 3 y4 (.int .i64 1)) Kp fun x10 =>
    next2 I1 m1 x26 x10)
   (loop2 (fun I2 m2 _ y3 y6 =>
     opN Try.prog (sBin .lss 3 y6 (.int .i64 32)) Kp fun x28 =>
     condS x28
     (opN Try.prog (sBuildSl 22 1 [(0, (.int .i64 5))]) Kp fun x32 =>
      opN Try.prog (sApp #[22, 22] 22 [y3, x32]) Kp fun x33 =>
      opN Try.prog (sBin .add 3 y6 (.int .i64 1)) Kp fun x30 =>
      next2 I2 m2 x33 x30)
     (K (.tuple #[y2, y3]))) (.slice none 0 0) (.int .i64 0))) (.slice none 0 0) (.int .i64 0)
def ref05_Fixed_an : Ann := { cuts := [(9, [5]), (11, [5])], blks := [], loops := [(4, [2, 4]), (13, [3, 6])], drs := [] }
theorem ref05_Fixed_eq (Kp : PK) (K : Value → WP) : cevF Try.prog ref05_Fixed_an Try.f74 [] Kp K = ref05_Fixed Kp K := by kernel_rfl
theorem ref05_Fixed_calls  {Kp : PK} {K : Value → WP} {w : World} (h : ref05_Fixed Kp K w) : Calls Try.prog 74 #[] w (after Kp K) :=
  calls_of_shape (calls_of_cev wide Try.func74 (an := ref05_Fixed_an) (args := []) (cast (congrFun (ref05_Fixed_eq Kp K) w).symm h))
theorem ref05_Fixed_cn  {W : World} {α : Type} {A : List HP} {r : α → Value} {B : α → List HP} (h : ∀ F, Ent W (A ++ F) (ref05_Fixed noP fun v w => ∃ x, v = r x ∧ sat W (B x ++ F) w)) : Cn Try.prog 74 [] W A r B :=
  Cn.of (shape := ref05_Fixed) Try.call74 (fun h => ref05_Fixed_calls h) h
theorem ref05_Fixed_cnP  {W : World} {α β : Type} {A : List HP} {r : α → Value} {B : α → List HP} {pc : β → List PanicEntry} {Bp : β → List HP} (h : ∀ F, Ent W (A ++ F) (ref05_Fixed (fun ch w => ∃ y, ch = pc y ∧ sat W (Bp y ++ F) w) fun v w => ∃ x, v = r x ∧ sat W (B x ++ F) w)) : CnP Try.prog 74 [] W A r B pc Bp :=
  CnP.of (shape := ref05_Fixed) Try.call74 (fun h => ref05_Fixed_calls h) h

/-- ref05_stream_coded -/
def ref05_stream_coded (v0 v1 v2 : Value) (Kp : PK) (K : Value → WP) : WP :=
  opN Try.prog (sNil v0) Kp fun x12 =>
  opN Try.prog (sFA 132 x12 3) Kp fun x13 =>
  opN Try.prog (sLoad 3 x13) Kp fun x14 =>
  opN Try.prog (sEq .neq 3 (.tmp 14) (.const (.int .i64 0)) x14 (.int .i64 0)) Kp fun x15 =>
  condS x15
  (K (.tuple #[]))
  (opN Try.prog (sCall (fn 36) [v1]) Kp fun x18 =>
   opN Try.prog (sExt x18 0) Kp fun x19 =>
   opN Try.prog (sExt x18 1) Kp fun x20 =>
   opN Try.prog (sCall (fn 36) [v2]) Kp fun x23 =>
   opN Try.prog (sExt x23 0) Kp fun x24 =>
   opN Try.prog (sExt x23 1) Kp fun x25 =>
   loop0 (fun I1 m1 _  =>
    opN Try.prog (sNil v0) Kp fun x27 =>
    opN Try.prog (sFA 132 x27 3) Kp fun x28 =>
    opN Try.prog (sLoad 3 x28) Kp fun x29 =>
    opN Try.prog (sEq .eql 3 (.tmp 29) (.const (.int .i64 0)) x29 (.int .i64 0)) Kp fun x30 =>
    condS x30
    (opN Try.prog (sCall (fn 94) [v0, x19]) Kp fun x33 =>
     opN Try.prog (sNil v0) Kp fun x47 =>
     opN Try.prog (sFA 132 x47 3) Kp fun x48 =>
     opN Try.prog (sLoad 3 x48) Kp fun x49 =>
     opN Try.prog (sEq .neq 3 (.tmp 49) (.const (.int .i64 0)) x49 (.int .i64 0)) Kp fun x50 =>
     gdK x50 false (fun k => k x33) fun x52 =>
     gdK x50 false (opN Try.prog (sEq .eql 3 (.tmp 52) (.const (.int .i64 256)) x52 (.int .i64 256)) Kp) fun x53 =>
     opN Try.prog (sPick x50 (.bool true) x53) Kp fun x54 =>
     condS x54
     (K (.tuple #[]))
     (opN Try.prog (sBin .gtr 3 x33 (.int .i64 256)) Kp fun x57 =>
      condS x57
      (opN Try.prog (sCall (fn 95) [v0, x33, x24]) Kp fun x61 =>
       next0 I1 m1)
      (drS (stS Try.prog (sNil v0) fun x64 =>
        stS Try.prog (sFA 132 x64 1) fun x65 =>
        stS Try.prog (sLoad 39 x65) fun x66 =>
        stS Try.prog (sLen #[39] 3 [x66]) fun x67 =>
        stS Try.prog (sNil v0) fun x69 =>
        stS Try.prog (sFA 132 x69 2) fun x70 =>
        stS Try.prog (sLoad 3 x70) fun x71 =>
        stS Try.prog (sEq .eql 3 (.tmp 67) (.tmp 71) x67 x71) fun x72 =>
        condS x72
        (opN Try.prog (sCall (fn 77) [v0, (.int .i64 6)]) Kp fun x74 =>
         next0 I1 m1)
        (opN Try.prog (sNil v0) Kp fun x36 =>
         opN Try.prog (sFA 132 x36 1) Kp fun x37 =>
         opN Try.prog (sLoad 39 x37) Kp fun x38 =>
         opN Try.prog (sConv 3 5 x33) Kp fun x40 =>
         opN Try.prog (sBuildSl 39 1 [(0, x40)]) Kp fun x41 =>
         opN Try.prog (sApp #[39, 39] 39 [x38, x41]) Kp fun x42 =>
         opN Try.prog (sNil v0) Kp fun x43 =>
         opN Try.prog (sFA 132 x43 1) Kp fun x44 =>
         opN Try.prog (sStore 39 x44 x42) Kp fun _ =>
         next0 I1 m1)))))
    (K (.tuple #[]))))
def ref05_stream_coded_an : Ann := { cuts := [], blks := [], loops := [(3, [])], drs := [(9, [(0, 1), (1, 1), (2, 1), (3, 1), (4, 1), (5, 1), (6, 1), (7, 1), (8, 1), (9, 1), (10, 1)])] }
theorem ref05_stream_coded_eq (v0 v1 v2 : Value) (Kp : PK) (K : Value → WP) : cevF Try.prog ref05_stream_coded_an Try.f75 [v0, v1, v2] Kp K = ref05_stream_coded v0 v1 v2 Kp K := by kernel_rfl
theorem ref05_stream_coded_calls {v0 v1 v2 : Value} {Kp : PK} {K : Value → WP} {w : World} (h : ref05_stream_coded v0 v1 v2 Kp K w) : Calls Try.prog 75 #[v0, v1, v2] w (after Kp K) :=
  calls_of_shape (calls_of_cev wide Try.func75 (an := ref05_stream_coded_an) (args := [v0, v1, v2]) (cast (congrFun (ref05_stream_coded_eq v0 v1 v2 Kp K) w).symm h))
theorem ref05_stream_coded_cn {v0 v1 v2 : Value} {W : World} {α : Type} {A : List HP} {r : α → Value} {B : α → List HP} (h : ∀ F, Ent W (A ++ F) (ref05_stream_coded v0 v1 v2 noP fun v w => ∃ x, v = r x ∧ sat W (B x ++ F) w)) : Cn Try.prog 75 [v0, v1, v2] W A r B :=
  Cn.of (shape := ref05_stream_coded v0 v1 v2) Try.call75 (fun h => ref05_stream_coded_calls h) h
theorem ref05_stream_coded_cnP {v0 v1 v2 : Value} {W : World} {α β : Type} {A : List HP} {r : α → Value} {B : α → List HP} {pc : β → List PanicEntry} {Bp : β → List HP} (h : ∀ F, Ent W (A ++ F) (ref05_stream_coded v0 v1 v2 (fun ch w => ∃ y, ch = pc y ∧ sat W (Bp y ++ F) w) fun v w => ∃ x, v = r x ∧ sat W (B x ++ F) w)) : CnP Try.prog 75 [v0, v1, v2] W A r B pc Bp :=
  CnP.of (shape := ref05_stream_coded v0 v1 v2) Try.call75 (fun h => ref05_stream_coded_calls h) h

end Go.Proofs.Ytehfblkpbadikaa.S
