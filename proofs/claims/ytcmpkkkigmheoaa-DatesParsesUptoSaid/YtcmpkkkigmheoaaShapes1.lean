/- The shapes of functions of the loaded program, printed by a program of mine; each is proved to be what the model asks of the function. No conditions. -/
import Derived.Test.YtcmpkkkigmheoaaChecked
import Derived.Test.YtcmpkkkigmheoaaIter
import Derived.KernelRfl
set_option linter.unusedVariables false
namespace Go.Proofs.Ytcmpkkkigmheoaa.S
open Go Go.Proofs.Ytcmpkkkigmheoaa.Sh Go.Proofs.Ytcmpkkkigmheoaa.Sl

theorem wide : Try.prog.follows .mixedOrders = true := by kernel_rfl

/-- law09_DatesSplit -/
def law09_DatesSplit (v0 v1 : Value) (Kp : PK) (K : Value → WP) : WP :=
  opN Try.prog (sBox 23 v1) Kp fun x3 =>
  opN Try.prog (sCall (fn 9) [v0]) Kp fun x15 =>
  opN Try.prog (sExt x15 0) Kp fun x16 =>
  opN Try.prog (sExt x15 1) Kp fun x17 =>
  opN Try.prog (sAlloc 24) Kp fun x5 =>
  opN Try.prog (sStore 24 x5 x16) Kp fun _ =>
  opN Try.prog (sCall (fn 10) [v0]) Kp fun x20 =>
  opN Try.prog (sExt x20 0) Kp fun x21 =>
  opN Try.prog (sExt x20 1) Kp fun x22 =>
  opN Try.prog (sAlloc 23) Kp fun x7 =>
  opN Try.prog (sStore 23 x7 x21) Kp fun _ =>
  opN Try.prog (sFA 23 x3 0) Kp fun x24 =>
  opN Try.prog (sLoad 3 x24) Kp fun x25 =>
  opN Try.prog (sFA 23 x3 1) Kp fun x26 =>
  opN Try.prog (sLoad 3 x26) Kp fun x27 =>
  opN Try.prog (sFA 23 x3 2) Kp fun x28 =>
  opN Try.prog (sLoad 3 x28) Kp fun x29 =>
  opN Try.prog (sFA 23 x3 3) Kp fun x30 =>
  opN Try.prog (sLoad 3 x30) Kp fun x31 =>
  opN Try.prog (sFA 23 x3 4) Kp fun x32 =>
  opN Try.prog (sLoad 3 x32) Kp fun x33 =>
  opN Try.prog (sFA 23 x3 5) Kp fun x34 =>
  opN Try.prog (sLoad 3 x34) Kp fun x35 =>
  opN Try.prog (sFA 23 x3 6) Kp fun x36 =>
  opN Try.prog (sLoad 3 x36) Kp fun x37 =>
  opN Try.prog (sBuild 24 [(0, x25), (1, x27), (2, x29), (3, x31), (4, x33), (5, x35), (6, x37)]) Kp fun x38 =>
  opN Try.prog (sCall (fn 11) [x38]) Kp fun x39 =>
  opN Try.prog (sExt x39 0) Kp fun x40 =>
  opN Try.prog (sExt x39 1) Kp fun x41 =>
  opN Try.prog (sLoad 23 x3) Kp fun x43 =>
  opN Try.prog (sCall (fn 12) [x43]) Kp fun x44 =>
  opN Try.prog (sExt x44 0) Kp fun x45 =>
  opN Try.prog (sExt x44 1) Kp fun x46 =>
  opN Try.prog (sLoad 24 x5) Kp fun x47 =>
  opN Try.prog (sLoad 23 x7) Kp fun x48 =>
  opN Try.prog (sCall (fn 13) [x47, x48]) Kp fun x49 =>
  gdK x49 true (fun k => k x17) fun x51 =>
  gdK x49 true (opN Try.prog (sCall (fn 14) [x51]) Kp) fun x52 =>
  gdK x49 true (fun k => k x22) fun x53 =>
  gdK x49 true (opN Try.prog (sEq .eql 3 (.tmp 52) (.tmp 53) x52 x53) Kp) fun x54 =>
  opN Try.prog (sPick x49 x54 (.bool false)) Kp fun x55 =>
  gdK x55 true (fun k => k x40) fun x57 =>
  gdK x55 true (fun k => k x45) fun x58 =>
  gdK x55 true (opN Try.prog (sEq .eql 3 (.tmp 57) (.tmp 58) x57 x58) Kp) fun x59 =>
  opN Try.prog (sPick x55 x59 (.bool false)) Kp fun x60 =>
  gdK x60 true (fun k => k x41) fun x62 =>
  gdK x60 true (opN Try.prog (sCall (fn 14) [x62]) Kp) fun x63 =>
  gdK x60 true (fun k => k x46) fun x64 =>
  gdK x60 true (opN Try.prog (sEq .eql 3 (.tmp 63) (.tmp 64) x63 x64) Kp) fun x65 =>
  opN Try.prog (sPick x60 x65 (.bool false)) Kp fun x66 =>
  gdK x66 true (opN Try.prog (sCall (fn 15) []) Kp) fun x68 =>
  opN Try.prog (sPick x66 x68 (.bool false)) Kp fun x69 =>
  K x69
def law09_DatesSplit_an : Ann := { cuts := [], blks := [], loops := [], drs := [] }
theorem law09_DatesSplit_eq (v0 v1 : Value) (Kp : PK) (K : Value → WP) : cevF Try.prog law09_DatesSplit_an Try.f3 [v0, v1] Kp K = law09_DatesSplit v0 v1 Kp K := by kernel_rfl
theorem law09_DatesSplit_calls {v0 v1 : Value} {Kp : PK} {K : Value → WP} {w : World} (h : law09_DatesSplit v0 v1 Kp K w) : Calls Try.prog 3 #[v0, v1] w (after Kp K) :=
  calls_of_shape (calls_of_cev wide Try.func3 (an := law09_DatesSplit_an) (args := [v0, v1]) (cast (congrFun (law09_DatesSplit_eq v0 v1 Kp K) w).symm h))
theorem law09_DatesSplit_cn {v0 v1 : Value} {W : World} {α : Type} {A : List HP} {r : α → Value} {B : α → List HP} (h : ∀ F, Ent W (A ++ F) (law09_DatesSplit v0 v1 noP fun v w => ∃ x, v = r x ∧ sat W (B x ++ F) w)) : Cn Try.prog 3 [v0, v1] W A r B :=
  Cn.of (shape := law09_DatesSplit v0 v1) Try.call3 (fun h => law09_DatesSplit_calls h) h
theorem law09_DatesSplit_cnP {v0 v1 : Value} {W : World} {α β : Type} {A : List HP} {r : α → Value} {B : α → List HP} {pc : β → List PanicEntry} {Bp : β → List HP} (h : ∀ F, Ent W (A ++ F) (law09_DatesSplit v0 v1 (fun ch w => ∃ y, ch = pc y ∧ sat W (Bp y ++ F) w) fun v w => ∃ x, v = r x ∧ sat W (B x ++ F) w)) : CnP Try.prog 3 [v0, v1] W A r B pc Bp :=
  CnP.of (shape := law09_DatesSplit v0 v1) Try.call3 (fun h => law09_DatesSplit_calls h) h

/-- law09_DatesFormats -/
def law09_DatesFormats (v0 : Value) (Kp : PK) (K : Value → WP) : WP :=
  opN Try.prog (sCall (fn 16) [v0]) Kp fun x9 =>
  opN Try.prog (sExt x9 0) Kp fun x10 =>
  opN Try.prog (sExt x9 1) Kp fun x11 =>
  opN Try.prog (sCall (fn 17) [v0]) Kp fun x14 =>
  opN Try.prog (sExt x14 0) Kp fun x15 =>
  opN Try.prog (sExt x14 1) Kp fun x16 =>
  opN Try.prog (sEq .eql 9 (.tmp 17) (.tmp 18) x10 x15) Kp fun x19 =>
  gdK x19 true (fun k => k x11) fun x21 =>
  gdK x19 true (opN Try.prog (sCall (fn 14) [x21]) Kp) fun x22 =>
  gdK x19 true (fun k => k x16) fun x23 =>
  gdK x19 true (opN Try.prog (sEq .eql 3 (.tmp 22) (.tmp 23) x22 x23) Kp) fun x24 =>
  opN Try.prog (sPick x19 x24 (.bool false)) Kp fun x25 =>
  gdK x25 true (opN Try.prog (sCall (fn 15) []) Kp) fun x27 =>
  opN Try.prog (sPick x25 x27 (.bool false)) Kp fun x28 =>
  K x28
def law09_DatesFormats_an : Ann := { cuts := [], blks := [], loops := [], drs := [] }
theorem law09_DatesFormats_eq (v0 : Value) (Kp : PK) (K : Value → WP) : cevF Try.prog law09_DatesFormats_an Try.f4 [v0] Kp K = law09_DatesFormats v0 Kp K := by kernel_rfl
theorem law09_DatesFormats_calls {v0 : Value} {Kp : PK} {K : Value → WP} {w : World} (h : law09_DatesFormats v0 Kp K w) : Calls Try.prog 4 #[v0] w (after Kp K) :=
  calls_of_shape (calls_of_cev wide Try.func4 (an := law09_DatesFormats_an) (args := [v0]) (cast (congrFun (law09_DatesFormats_eq v0 Kp K) w).symm h))
theorem law09_DatesFormats_cn {v0 : Value} {W : World} {α : Type} {A : List HP} {r : α → Value} {B : α → List HP} (h : ∀ F, Ent W (A ++ F) (law09_DatesFormats v0 noP fun v w => ∃ x, v = r x ∧ sat W (B x ++ F) w)) : Cn Try.prog 4 [v0] W A r B :=
  Cn.of (shape := law09_DatesFormats v0) Try.call4 (fun h => law09_DatesFormats_calls h) h
theorem law09_DatesFormats_cnP {v0 : Value} {W : World} {α β : Type} {A : List HP} {r : α → Value} {B : α → List HP} {pc : β → List PanicEntry} {Bp : β → List HP} (h : ∀ F, Ent W (A ++ F) (law09_DatesFormats v0 (fun ch w => ∃ y, ch = pc y ∧ sat W (Bp y ++ F) w) fun v w => ∃ x, v = r x ∧ sat W (B x ++ F) w)) : CnP Try.prog 4 [v0] W A r B pc Bp :=
  CnP.of (shape := law09_DatesFormats v0) Try.call4 (fun h => law09_DatesFormats_calls h) h

/-- law09_DatesParses -/
def law09_DatesParses (v0 v1 : Value) (Kp : PK) (K : Value → WP) : WP :=
  opN Try.prog (sCall (fn 18) [v0, v1]) Kp fun x12 =>
  opN Try.prog (sExt x12 0) Kp fun x13 =>
  opN Try.prog (sExt x12 1) Kp fun x14 =>
  opN Try.prog (sCall (fn 19) [v0, v1]) Kp fun x18 =>
  opN Try.prog (sExt x18 0) Kp fun x19 =>
  opN Try.prog (sExt x18 1) Kp fun x20 =>
  opN Try.prog (sEq .eql 3 (.tmp 21) (.tmp 22) x13 x19) Kp fun x23 =>
  gdK x23 true (fun k => k x14) fun x25 =>
  gdK x23 true (opN Try.prog (sCall (fn 14) [x25]) Kp) fun x26 =>
  gdK x23 true (fun k => k x20) fun x27 =>
  gdK x23 true (opN Try.prog (sEq .eql 3 (.tmp 26) (.tmp 27) x26 x27) Kp) fun x28 =>
  opN Try.prog (sPick x23 x28 (.bool false)) Kp fun x29 =>
  gdK x29 true (opN Try.prog (sCall (fn 15) []) Kp) fun x31 =>
  opN Try.prog (sPick x29 x31 (.bool false)) Kp fun x32 =>
  K x32
def law09_DatesParses_an : Ann := { cuts := [], blks := [], loops := [], drs := [] }
theorem law09_DatesParses_eq (v0 v1 : Value) (Kp : PK) (K : Value → WP) : cevF Try.prog law09_DatesParses_an Try.f5 [v0, v1] Kp K = law09_DatesParses v0 v1 Kp K := by kernel_rfl
theorem law09_DatesParses_calls {v0 v1 : Value} {Kp : PK} {K : Value → WP} {w : World} (h : law09_DatesParses v0 v1 Kp K w) : Calls Try.prog 5 #[v0, v1] w (after Kp K) :=
  calls_of_shape (calls_of_cev wide Try.func5 (an := law09_DatesParses_an) (args := [v0, v1]) (cast (congrFun (law09_DatesParses_eq v0 v1 Kp K) w).symm h))
theorem law09_DatesParses_cn {v0 v1 : Value} {W : World} {α : Type} {A : List HP} {r : α → Value} {B : α → List HP} (h : ∀ F, Ent W (A ++ F) (law09_DatesParses v0 v1 noP fun v w => ∃ x, v = r x ∧ sat W (B x ++ F) w)) : Cn Try.prog 5 [v0, v1] W A r B :=
  Cn.of (shape := law09_DatesParses v0 v1) Try.call5 (fun h => law09_DatesParses_calls h) h
theorem law09_DatesParses_cnP {v0 v1 : Value} {W : World} {α β : Type} {A : List HP} {r : α → Value} {B : α → List HP} {pc : β → List PanicEntry} {Bp : β → List HP} (h : ∀ F, Ent W (A ++ F) (law09_DatesParses v0 v1 (fun ch w => ∃ y, ch = pc y ∧ sat W (Bp y ++ F) w) fun v w => ∃ x, v = r x ∧ sat W (B x ++ F) w)) : CnP Try.prog 5 [v0, v1] W A r B pc Bp :=
  CnP.of (shape := law09_DatesParses v0 v1) Try.call5 (fun h => law09_DatesParses_calls h) h

/-- law09_DatesBack -/
def law09_DatesBack (v0 v1 : Value) (Kp : PK) (K : Value → WP) : WP :=
  opN Try.prog (sCall (fn 20) [v0]) Kp fun x14 =>
  opN Try.prog (sCall (fn 16) [x14]) Kp fun x17 =>
  opN Try.prog (sExt x17 0) Kp fun x18 =>
  opN Try.prog (sExt x17 1) Kp fun x19 =>
  opN Try.prog (sCall (fn 18) [x18, v1]) Kp fun x23 =>
  opN Try.prog (sExt x23 0) Kp fun x24 =>
  opN Try.prog (sExt x23 1) Kp fun x25 =>
  opN Try.prog (sCall (fn 9) [x14]) Kp fun x28 =>
  opN Try.prog (sExt x28 0) Kp fun x29 =>
  opN Try.prog (sExt x28 1) Kp fun x30 =>
  opN Try.prog (sAlloc 24) Kp fun x9 =>
  opN Try.prog (sStore 24 x9 x29) Kp fun _ =>
  opN Try.prog (sLoad 24 x9) Kp fun x32 =>
  opN Try.prog (sCall (fn 11) [x32]) Kp fun x33 =>
  opN Try.prog (sExt x33 0) Kp fun x34 =>
  opN Try.prog (sExt x33 1) Kp fun x35 =>
  opN Try.prog (sCall (fn 14) [x19]) Kp fun x37 =>
  opN Try.prog (sCall (fn 14) [x25]) Kp fun x39 =>
  opN Try.prog (sBin .add 3 x37 x39) Kp fun x40 =>
  opN Try.prog (sCall (fn 14) [x30]) Kp fun x42 =>
  opN Try.prog (sBin .add 3 x40 x42) Kp fun x43 =>
  opN Try.prog (sCall (fn 14) [x35]) Kp fun x45 =>
  opN Try.prog (sBin .add 3 x43 x45) Kp fun x46 =>
  opN Try.prog (sEq .eql 3 (.tmp 46) (.const (.int .i64 0)) x46 (.int .i64 0)) Kp fun x47 =>
  gdK x47 true (fun k => k x24) fun x49 =>
  gdK x47 true (fun k => k x14) fun x50 =>
  gdK x47 true (opN Try.prog (sEq .eql 3 (.tmp 49) (.tmp 50) x49 x50) Kp) fun x51 =>
  opN Try.prog (sPick x47 x51 (.bool false)) Kp fun x52 =>
  gdK x52 true (fun k => k x34) fun x54 =>
  gdK x52 true (fun k => k x14) fun x55 =>
  gdK x52 true (opN Try.prog (sEq .eql 3 (.tmp 54) (.tmp 55) x54 x55) Kp) fun x56 =>
  opN Try.prog (sPick x52 x56 (.bool false)) Kp fun x57 =>
  gdK x57 true (fun k => k x18) fun x59 =>
  gdK x57 true (opN Try.prog (sLen #[9] 3 [x59]) Kp) fun x60 =>
  gdK x57 true (opN Try.prog (sEq .eql 3 (.tmp 60) (.const (.int .i64 29)) x60 (.int .i64 29)) Kp) fun x61 =>
  opN Try.prog (sPick x57 x61 (.bool false)) Kp fun x62 =>
  gdK x62 true (opN Try.prog (sCall (fn 15) []) Kp) fun x64 =>
  opN Try.prog (sPick x62 x64 (.bool false)) Kp fun x65 =>
  K x65
def law09_DatesBack_an : Ann := { cuts := [], blks := [], loops := [], drs := [] }
theorem law09_DatesBack_eq (v0 v1 : Value) (Kp : PK) (K : Value → WP) : cevF Try.prog law09_DatesBack_an Try.f6 [v0, v1] Kp K = law09_DatesBack v0 v1 Kp K := by kernel_rfl
theorem law09_DatesBack_calls {v0 v1 : Value} {Kp : PK} {K : Value → WP} {w : World} (h : law09_DatesBack v0 v1 Kp K w) : Calls Try.prog 6 #[v0, v1] w (after Kp K) :=
  calls_of_shape (calls_of_cev wide Try.func6 (an := law09_DatesBack_an) (args := [v0, v1]) (cast (congrFun (law09_DatesBack_eq v0 v1 Kp K) w).symm h))
theorem law09_DatesBack_cn {v0 v1 : Value} {W : World} {α : Type} {A : List HP} {r : α → Value} {B : α → List HP} (h : ∀ F, Ent W (A ++ F) (law09_DatesBack v0 v1 noP fun v w => ∃ x, v = r x ∧ sat W (B x ++ F) w)) : Cn Try.prog 6 [v0, v1] W A r B :=
  Cn.of (shape := law09_DatesBack v0 v1) Try.call6 (fun h => law09_DatesBack_calls h) h
theorem law09_DatesBack_cnP {v0 v1 : Value} {W : World} {α β : Type} {A : List HP} {r : α → Value} {B : α → List HP} {pc : β → List PanicEntry} {Bp : β → List HP} (h : ∀ F, Ent W (A ++ F) (law09_DatesBack v0 v1 (fun ch w => ∃ y, ch = pc y ∧ sat W (Bp y ++ F) w) fun v w => ∃ x, v = r x ∧ sat W (B x ++ F) w)) : CnP Try.prog 6 [v0, v1] W A r B pc Bp :=
  CnP.of (shape := law09_DatesBack v0 v1) Try.call6 (fun h => law09_DatesBack_calls h) h

/-- law09_DatesDays -/
def law09_DatesDays (v0 : Value) (Kp : PK) (K : Value → WP) : WP :=
  opN Try.prog (sCall (fn 20) [v0]) Kp fun x8 =>
  cut1 (fun J1 =>
   opN Try.prog (sBin .gtr 3 x8 (.int .i64 253402214399)) Kp fun x10 =>
   condS x10
   (opN Try.prog (sBin .sub 3 x8 (.int .i64 86400)) Kp fun x12 =>
    J1 x12)
   (J1 x8)) fun _ z0 =>
  opN Try.prog (sCall (fn 9) [z0]) Kp fun x15 =>
  opN Try.prog (sExt x15 0) Kp fun x16 =>
  opN Try.prog (sExt x15 1) Kp fun x17 =>
  opN Try.prog (sAlloc 24) Kp fun x3 =>
  opN Try.prog (sStore 24 x3 x16) Kp fun _ =>
  opN Try.prog (sBin .add 3 z0 (.int .i64 86400)) Kp fun x20 =>
  opN Try.prog (sCall (fn 9) [x20]) Kp fun x21 =>
  opN Try.prog (sExt x21 0) Kp fun x22 =>
  opN Try.prog (sExt x21 1) Kp fun x23 =>
  opN Try.prog (sAlloc 24) Kp fun x5 =>
  opN Try.prog (sStore 24 x5 x22) Kp fun _ =>
  opN Try.prog (sCall (fn 14) [x17]) Kp fun x25 =>
  opN Try.prog (sCall (fn 14) [x23]) Kp fun x27 =>
  opN Try.prog (sBin .add 3 x25 x27) Kp fun x28 =>
  opN Try.prog (sEq .neq 3 (.tmp 28) (.const (.int .i64 0)) x28 (.int .i64 0)) Kp fun x29 =>
  gdK x29 false (opN Try.prog (sFA 24 x5 6) Kp) fun x31 =>
  gdK x29 false (opN Try.prog (sLoad 3 x31) Kp) fun x32 =>
  gdK x29 false (opN Try.prog (sFA 24 x3 6) Kp) fun x33 =>
  gdK x29 false (opN Try.prog (sLoad 3 x33) Kp) fun x34 =>
  gdK x29 false (opN Try.prog (sBin .add 3 x34 (.int .i64 1)) Kp) fun x35 =>
  gdK x29 false (opN Try.prog (sBin .rem 3 x35 (.int .i64 7)) Kp) fun x36 =>
  gdK x29 false (opN Try.prog (sEq .neq 3 (.tmp 32) (.tmp 36) x32 x36) Kp) fun x37 =>
  opN Try.prog (sPick x29 (.bool true) x37) Kp fun x38 =>
  gdK x38 false (opN Try.prog (sFA 24 x3 3) Kp) fun x40 =>
  gdK x38 false (opN Try.prog (sLoad 3 x40) Kp) fun x41 =>
  gdK x38 false (opN Try.prog (sFA 24 x5 3) Kp) fun x42 =>
  gdK x38 false (opN Try.prog (sLoad 3 x42) Kp) fun x43 =>
  gdK x38 false (opN Try.prog (sEq .neq 3 (.tmp 41) (.tmp 43) x41 x43) Kp) fun x44 =>
  opN Try.prog (sPick x38 (.bool true) x44) Kp fun x45 =>
  gdK x45 false (opN Try.prog (sFA 24 x3 4) Kp) fun x47 =>
  gdK x45 false (opN Try.prog (sLoad 3 x47) Kp) fun x48 =>
  gdK x45 false (opN Try.prog (sFA 24 x5 4) Kp) fun x49 =>
  gdK x45 false (opN Try.prog (sLoad 3 x49) Kp) fun x50 =>
  gdK x45 false (opN Try.prog (sEq .neq 3 (.tmp 48) (.tmp 50) x48 x50) Kp) fun x51 =>
  opN Try.prog (sPick x45 (.bool true) x51) Kp fun x52 =>
  gdK x52 false (opN Try.prog (sFA 24 x3 5) Kp) fun x54 =>
  gdK x52 false (opN Try.prog (sLoad 3 x54) Kp) fun x55 =>
  gdK x52 false (opN Try.prog (sFA 24 x5 5) Kp) fun x56 =>
  gdK x52 false (opN Try.prog (sLoad 3 x56) Kp) fun x57 =>
  gdK x52 false (opN Try.prog (sEq .neq 3 (.tmp 55) (.tmp 57) x55 x57) Kp) fun x58 =>
  opN Try.prog (sPick x52 (.bool true) x58) Kp fun x59 =>
  gdK x59 false (opN Try.prog (sCall (fn 15) []) Kp) fun x61 =>
  gdK x59 false (opN Try.prog (sUn .not x61) Kp) fun x62 =>
  opN Try.prog (sPick x59 (.bool true) x62) Kp fun x63 =>
  condS x63
  (K (.bool false))
  (opN Try.prog (sFA 24 x5 2) Kp fun x64 =>
   opN Try.prog (sLoad 3 x64) Kp fun x65 =>
   opN Try.prog (sFA 24 x3 2) Kp fun x66 =>
   opN Try.prog (sLoad 3 x66) Kp fun x67 =>
   opN Try.prog (sBin .add 3 x67 (.int .i64 1)) Kp fun x68 =>
   opN Try.prog (sEq .eql 3 (.tmp 65) (.tmp 68) x65 x68) Kp fun x69 =>
   condS x69
   (opN Try.prog (sFA 24 x3 1) Kp fun x70 =>
    opN Try.prog (sLoad 3 x70) Kp fun x71 =>
    opN Try.prog (sFA 24 x5 1) Kp fun x72 =>
    opN Try.prog (sLoad 3 x72) Kp fun x73 =>
    opN Try.prog (sEq .eql 3 (.tmp 71) (.tmp 73) x71 x73) Kp fun x74 =>
    gdK x74 true (opN Try.prog (sFA 24 x3 0) Kp) fun x76 =>
    gdK x74 true (opN Try.prog (sLoad 3 x76) Kp) fun x77 =>
    gdK x74 true (opN Try.prog (sFA 24 x5 0) Kp) fun x78 =>
    gdK x74 true (opN Try.prog (sLoad 3 x78) Kp) fun x79 =>
    gdK x74 true (opN Try.prog (sEq .eql 3 (.tmp 77) (.tmp 79) x77 x79) Kp) fun x80 =>
    opN Try.prog (sPick x74 x80 (.bool false)) Kp fun x81 =>
    gdK x81 true (opN Try.prog (sFA 24 x5 2) Kp) fun x83 =>
    gdK x81 true (opN Try.prog (sLoad 3 x83) Kp) fun x84 =>
    gdK x81 true (opN Try.prog (sBin .leq 3 x84 (.int .i64 31)) Kp) fun x85 =>
    opN Try.prog (sPick x81 x85 (.bool false)) Kp fun x86 =>
    K x86)
   (opN Try.prog (sFA 24 x5 2) Kp fun x87 =>
    opN Try.prog (sLoad 3 x87) Kp fun x88 =>
    opN Try.prog (sEq .eql 3 (.tmp 88) (.const (.int .i64 1)) x88 (.int .i64 1)) Kp fun x89 =>
    gdK x89 true (opN Try.prog (sFA 24 x3 2) Kp) fun x91 =>
    gdK x89 true (opN Try.prog (sLoad 3 x91) Kp) fun x92 =>
    gdK x89 true (opN Try.prog (sBin .geq 3 x92 (.int .i64 28)) Kp) fun x93 =>
    opN Try.prog (sPick x89 x93 (.bool false)) Kp fun x94 =>
    gdK x94 true (opN Try.prog (sFA 24 x5 1) Kp) fun x96 =>
    gdK x94 true (opN Try.prog (sLoad 3 x96) Kp) fun x97 =>
    gdK x94 true (opN Try.prog (sFA 24 x3 1) Kp) fun x98 =>
    gdK x94 true (opN Try.prog (sLoad 3 x98) Kp) fun x99 =>
    gdK x94 true (opN Try.prog (sBin .rem 3 x99 (.int .i64 12)) Kp) fun x100 =>
    gdK x94 true (opN Try.prog (sBin .add 3 x100 (.int .i64 1)) Kp) fun x101 =>
    gdK x94 true (opN Try.prog (sEq .eql 3 (.tmp 97) (.tmp 101) x97 x101) Kp) fun x102 =>
    opN Try.prog (sPick x94 x102 (.bool false)) Kp fun x103 =>
    gdK x103 true (opN Try.prog (sFA 24 x5 0) Kp) fun x105 =>
    gdK x103 true (opN Try.prog (sLoad 3 x105) Kp) fun x106 =>
    gdK x103 true (opN Try.prog (sFA 24 x3 0) Kp) fun x107 =>
    gdK x103 true (opN Try.prog (sLoad 3 x107) Kp) fun x108 =>
    gdK x103 true (opN Try.prog (sEq .eql 3 (.tmp 106) (.tmp 108) x106 x108) Kp) fun x109 =>
    gdK x103 true (fun k => k x109) fun x110 =>
    gdK x110 true (opN Try.prog (sFA 24 x3 1) Kp) fun x111 =>
    gdK x110 true (opN Try.prog (sLoad 3 x111) Kp) fun x112 =>
    gdK x110 true (opN Try.prog (sBin .lss 3 x112 (.int .i64 12)) Kp) fun x113 =>
    gdK x103 true (opN Try.prog (sPick x110 x113 (.bool false)) Kp) fun x114 =>
    gdK x103 true (fun k => k x114) fun x115 =>
    gdK x115 false (opN Try.prog (sFA 24 x5 0) Kp) fun x116 =>
    gdK x115 false (opN Try.prog (sLoad 3 x116) Kp) fun x117 =>
    gdK x115 false (opN Try.prog (sFA 24 x3 0) Kp) fun x118 =>
    gdK x115 false (opN Try.prog (sLoad 3 x118) Kp) fun x119 =>
    gdK x115 false (opN Try.prog (sBin .add 3 x119 (.int .i64 1)) Kp) fun x120 =>
    gdK x115 false (opN Try.prog (sEq .eql 3 (.tmp 117) (.tmp 120) x117 x120) Kp) fun x121 =>
    gdK x115 false (fun k => k x121) fun x122 =>
    gdK x122 true (opN Try.prog (sFA 24 x3 1) Kp) fun x123 =>
    gdK x122 true (opN Try.prog (sLoad 3 x123) Kp) fun x124 =>
    gdK x122 true (opN Try.prog (sEq .eql 3 (.tmp 124) (.const (.int .i64 12)) x124 (.int .i64 12)) Kp) fun x125 =>
    gdK x115 false (opN Try.prog (sPick x122 x125 (.bool false)) Kp) fun x126 =>
    gdK x103 true (opN Try.prog (sPick x115 (.bool true) x126) Kp) fun x127 =>
    opN Try.prog (sPick x103 x127 (.bool false)) Kp fun x128 =>
    K x128))
def law09_DatesDays_an : Ann := { cuts := [(4, [0])], blks := [], loops := [], drs := [] }
theorem law09_DatesDays_eq (v0 : Value) (Kp : PK) (K : Value → WP) : cevF Try.prog law09_DatesDays_an Try.f7 [v0] Kp K = law09_DatesDays v0 Kp K := by kernel_rfl
theorem law09_DatesDays_calls {v0 : Value} {Kp : PK} {K : Value → WP} {w : World} (h : law09_DatesDays v0 Kp K w) : Calls Try.prog 7 #[v0] w (after Kp K) :=
  calls_of_shape (calls_of_cev wide Try.func7 (an := law09_DatesDays_an) (args := [v0]) (cast (congrFun (law09_DatesDays_eq v0 Kp K) w).symm h))
theorem law09_DatesDays_cn {v0 : Value} {W : World} {α : Type} {A : List HP} {r : α → Value} {B : α → List HP} (h : ∀ F, Ent W (A ++ F) (law09_DatesDays v0 noP fun v w => ∃ x, v = r x ∧ sat W (B x ++ F) w)) : Cn Try.prog 7 [v0] W A r B :=
  Cn.of (shape := law09_DatesDays v0) Try.call7 (fun h => law09_DatesDays_calls h) h
theorem law09_DatesDays_cnP {v0 : Value} {W : World} {α β : Type} {A : List HP} {r : α → Value} {B : α → List HP} {pc : β → List PanicEntry} {Bp : β → List HP} (h : ∀ F, Ent W (A ++ F) (law09_DatesDays v0 (fun ch w => ∃ y, ch = pc y ∧ sat W (Bp y ++ F) w) fun v w => ∃ x, v = r x ∧ sat W (B x ++ F) w)) : CnP Try.prog 7 [v0] W A r B pc Bp :=
  CnP.of (shape := law09_DatesDays v0) Try.call7 (fun h => law09_DatesDays_calls h) h

/-- law09_DatesForms -/
def law09_DatesForms (v0 v1 : Value) (Kp : PK) (K : Value → WP) : WP :=
  opN Try.prog (sCall (fn 20) [v0]) Kp fun x18 =>
  opN Try.prog (sBin .rem 3 v1 (.int .i64 1545264000)) Kp fun x21 =>
  opN Try.prog (sBin .add 3 x18 x21) Kp fun x22 =>
  opN Try.prog (sMin #[3, 3] 3 [x22, (.int .i64 253402300799)]) Kp fun x24 =>
  opN Try.prog (sMax #[3, 3] 3 [(.int .i64 0), x24]) Kp fun x25 =>
  opN Try.prog (sCall (fn 10) [x18]) Kp fun x28 =>
  opN Try.prog (sExt x28 0) Kp fun x29 =>
  opN Try.prog (sExt x28 1) Kp fun x30 =>
  opN Try.prog (sAlloc 23) Kp fun x6 =>
  opN Try.prog (sStore 23 x6 x29) Kp fun _ =>
  opN Try.prog (sLoad 23 x6) Kp fun x32 =>
  opN Try.prog (sCall (fn 21) [x32]) Kp fun x33 =>
  opN Try.prog (sExt x33 0) Kp fun x34 =>
  opN Try.prog (sExt x33 1) Kp fun x35 =>
  opN Try.prog (sExt x33 2) Kp fun x36 =>
  opN Try.prog (sCall (fn 18) [x34, x25]) Kp fun x40 =>
  opN Try.prog (sExt x40 0) Kp fun x41 =>
  opN Try.prog (sExt x40 1) Kp fun x42 =>
  opN Try.prog (sCall (fn 18) [x35, x25]) Kp fun x46 =>
  opN Try.prog (sExt x46 0) Kp fun x47 =>
  opN Try.prog (sExt x46 1) Kp fun x48 =>
  opN Try.prog (sCall (fn 18) [x36, x25]) Kp fun x52 =>
  opN Try.prog (sExt x52 0) Kp fun x53 =>
  opN Try.prog (sExt x52 1) Kp fun x54 =>
  opN Try.prog (sEq .eql 3 (.tmp 55) (.const (.int .i64 0)) x30 (.int .i64 0)) Kp fun x56 =>
  gdK x56 true (fun k => k x42) fun x58 =>
  gdK x56 true (opN Try.prog (sCall (fn 14) [x58]) Kp) fun x59 =>
  gdK x56 true (fun k => k x48) fun x60 =>
  gdK x56 true (opN Try.prog (sCall (fn 14) [x60]) Kp) fun x61 =>
  gdK x56 true (opN Try.prog (sBin .add 3 x59 x61) Kp) fun x62 =>
  gdK x56 true (fun k => k x54) fun x63 =>
  gdK x56 true (opN Try.prog (sCall (fn 14) [x63]) Kp) fun x64 =>
  gdK x56 true (opN Try.prog (sBin .add 3 x62 x64) Kp) fun x65 =>
  gdK x56 true (opN Try.prog (sEq .eql 3 (.tmp 65) (.const (.int .i64 0)) x65 (.int .i64 0)) Kp) fun x66 =>
  opN Try.prog (sPick x56 x66 (.bool false)) Kp fun x67 =>
  gdK x67 true (fun k => k x41) fun x69 =>
  gdK x67 true (fun k => k x18) fun x70 =>
  gdK x67 true (opN Try.prog (sEq .eql 3 (.tmp 69) (.tmp 70) x69 x70) Kp) fun x71 =>
  opN Try.prog (sPick x67 x71 (.bool false)) Kp fun x72 =>
  gdK x72 true (fun k => k x47) fun x74 =>
  gdK x72 true (fun k => k x18) fun x75 =>
  gdK x72 true (opN Try.prog (sEq .eql 3 (.tmp 74) (.tmp 75) x74 x75) Kp) fun x76 =>
  opN Try.prog (sPick x72 x76 (.bool false)) Kp fun x77 =>
  gdK x77 true (fun k => k x53) fun x79 =>
  gdK x77 true (fun k => k x18) fun x80 =>
  gdK x77 true (opN Try.prog (sEq .eql 3 (.tmp 79) (.tmp 80) x79 x80) Kp) fun x81 =>
  opN Try.prog (sPick x77 x81 (.bool false)) Kp fun x82 =>
  gdK x82 true (opN Try.prog (sCall (fn 15) []) Kp) fun x84 =>
  opN Try.prog (sPick x82 x84 (.bool false)) Kp fun x85 =>
  K x85
def law09_DatesForms_an : Ann := { cuts := [], blks := [], loops := [], drs := [] }
theorem law09_DatesForms_eq (v0 v1 : Value) (Kp : PK) (K : Value → WP) : cevF Try.prog law09_DatesForms_an Try.f8 [v0, v1] Kp K = law09_DatesForms v0 v1 Kp K := by kernel_rfl
theorem law09_DatesForms_calls {v0 v1 : Value} {Kp : PK} {K : Value → WP} {w : World} (h : law09_DatesForms v0 v1 Kp K w) : Calls Try.prog 8 #[v0, v1] w (after Kp K) :=
  calls_of_shape (calls_of_cev wide Try.func8 (an := law09_DatesForms_an) (args := [v0, v1]) (cast (congrFun (law09_DatesForms_eq v0 v1 Kp K) w).symm h))
theorem law09_DatesForms_cn {v0 v1 : Value} {W : World} {α : Type} {A : List HP} {r : α → Value} {B : α → List HP} (h : ∀ F, Ent W (A ++ F) (law09_DatesForms v0 v1 noP fun v w => ∃ x, v = r x ∧ sat W (B x ++ F) w)) : Cn Try.prog 8 [v0, v1] W A r B :=
  Cn.of (shape := law09_DatesForms v0 v1) Try.call8 (fun h => law09_DatesForms_calls h) h
theorem law09_DatesForms_cnP {v0 v1 : Value} {W : World} {α β : Type} {A : List HP} {r : α → Value} {B : α → List HP} {pc : β → List PanicEntry} {Bp : β → List HP} (h : ∀ F, Ent W (A ++ F) (law09_DatesForms v0 v1 (fun ch w => ∃ y, ch = pc y ∧ sat W (Bp y ++ F) w) fun v w => ∃ x, v = r x ∧ sat W (B x ++ F) w)) : CnP Try.prog 8 [v0, v1] W A r B pc Bp :=
  CnP.of (shape := law09_DatesForms v0 v1) Try.call8 (fun h => law09_DatesForms_calls h) h

/-- dates_Split -/
def dates_Split (v0 : Value) (Kp : PK) (K : Value → WP) : WP :=
  opN Try.prog (sAlloc 24) Kp fun x2 =>
  opN Try.prog (sBin .lss 3 v0 (.int .i64 0)) Kp fun x6 =>
  gdK x6 false (fun k => k v0) fun x8 =>
  gdK x6 false (opN Try.prog (sBin .gtr 3 x8 (.int .i64 253402300799)) Kp) fun x9 =>
  opN Try.prog (sPick x6 (.bool true) x9) Kp fun x10 =>
  condS x10
  (opN Try.prog (sBuild 24 []) Kp fun x11 =>
   opN Try.prog (sStore 24 x2 x11) Kp fun _ =>
   (stS Try.prog (sRes 24 x2) fun r0 => K (.tuple #[r0, (.int .i64 11)])))
  (opN Try.prog (sBin .quo 3 v0 (.int .i64 86400)) Kp fun x13 =>
   opN Try.prog (sBin .add 3 x13 (.int .i64 4)) Kp fun x14 =>
   opN Try.prog (sBin .rem 3 x14 (.int .i64 7)) Kp fun x15 =>
   opN Try.prog (sBin .rem 3 v0 (.int .i64 86400)) Kp fun x17 =>
   opN Try.prog (sBin .quo 3 x17 (.int .i64 3600)) Kp fun x18 =>
   opN Try.prog (sBin .rem 3 v0 (.int .i64 3600)) Kp fun x20 =>
   opN Try.prog (sBin .quo 3 x20 (.int .i64 60)) Kp fun x21 =>
   opN Try.prog (sBin .rem 3 v0 (.int .i64 60)) Kp fun x23 =>
   opN Try.prog (sBuild 24 [(6, x15), (3, x18), (4, x21), (5, x23)]) Kp fun x24 =>
   opN Try.prog (sAlloc 24) Kp fun x4 =>
   opN Try.prog (sStore 24 x4 x24) Kp fun _ =>
   opN Try.prog (sBin .quo 3 v0 (.int .i64 86400)) Kp fun x27 =>
   opN Try.prog (sCall (fn 22) [x27]) Kp fun x28 =>
   opN Try.prog (sExt x28 0) Kp fun x29 =>
   opN Try.prog (sExt x28 1) Kp fun x30 =>
   opN Try.prog (sExt x28 2) Kp fun x31 =>
   opN Try.prog (sFA 24 x4 0) Kp fun x32 =>
   opN Try.prog (sStore 3 x32 x29) Kp fun _ =>
   opN Try.prog (sFA 24 x4 1) Kp fun x33 =>
   opN Try.prog (sStore 3 x33 x30) Kp fun _ =>
   opN Try.prog (sFA 24 x4 2) Kp fun x34 =>
   opN Try.prog (sStore 3 x34 x31) Kp fun _ =>
   opN Try.prog (sLoad 24 x4) Kp fun x35 =>
   opN Try.prog (sStore 24 x2 x35) Kp fun _ =>
   (stS Try.prog (sRes 24 x2) fun r0 => K (.tuple #[r0, (.int .i64 0)])))
def dates_Split_an : Ann := { cuts := [], blks := [], loops := [], drs := [] }
theorem dates_Split_eq (v0 : Value) (Kp : PK) (K : Value → WP) : cevF Try.prog dates_Split_an Try.f9 [v0] Kp K = dates_Split v0 Kp K := by kernel_rfl
theorem dates_Split_calls {v0 : Value} {Kp : PK} {K : Value → WP} {w : World} (h : dates_Split v0 Kp K w) : Calls Try.prog 9 #[v0] w (after Kp K) :=
  calls_of_shape (calls_of_cev wide Try.func9 (an := dates_Split_an) (args := [v0]) (cast (congrFun (dates_Split_eq v0 Kp K) w).symm h))
theorem dates_Split_cn {v0 : Value} {W : World} {α : Type} {A : List HP} {r : α → Value} {B : α → List HP} (h : ∀ F, Ent W (A ++ F) (dates_Split v0 noP fun v w => ∃ x, v = r x ∧ sat W (B x ++ F) w)) : Cn Try.prog 9 [v0] W A r B :=
  Cn.of (shape := dates_Split v0) Try.call9 (fun h => dates_Split_calls h) h
theorem dates_Split_cnP {v0 : Value} {W : World} {α β : Type} {A : List HP} {r : α → Value} {B : α → List HP} {pc : β → List PanicEntry} {Bp : β → List HP} (h : ∀ F, Ent W (A ++ F) (dates_Split v0 (fun ch w => ∃ y, ch = pc y ∧ sat W (Bp y ++ F) w) fun v w => ∃ x, v = r x ∧ sat W (B x ++ F) w)) : CnP Try.prog 9 [v0] W A r B pc Bp :=
  CnP.of (shape := dates_Split v0) Try.call9 (fun h => dates_Split_calls h) h

/-- ref09_Split -/
def ref09_Split (v0 : Value) (Kp : PK) (K : Value → WP) : WP :=
  opN Try.prog (sAlloc 23) Kp fun x2 =>
  opN Try.prog (sBin .lss 3 v0 (.int .i64 0)) Kp fun x7 =>
  gdK x7 false (fun k => k v0) fun x9 =>
  gdK x7 false (opN Try.prog (sBin .gtr 3 x9 (.int .i64 253402300799)) Kp) fun x10 =>
  opN Try.prog (sPick x7 (.bool true) x10) Kp fun x11 =>
  condS x11
  (opN Try.prog (sBuild 23 []) Kp fun x12 =>
   opN Try.prog (sStore 23 x2 x12) Kp fun _ =>
   (stS Try.prog (sRes 23 x2) fun r0 => K (.tuple #[r0, (.int .i64 11)])))
  (opN Try.prog (sBin .quo 3 v0 (.int .i64 3600)) Kp fun x14 =>
   opN Try.prog (sBin .rem 3 x14 (.int .i64 24)) Kp fun x15 =>
   opN Try.prog (sBin .quo 3 v0 (.int .i64 60)) Kp fun x17 =>
   opN Try.prog (sBin .rem 3 x17 (.int .i64 60)) Kp fun x18 =>
   opN Try.prog (sBin .rem 3 v0 (.int .i64 60)) Kp fun x20 =>
   opN Try.prog (sBuild 23 [(0, (.int .i64 1970)), (1, (.int .i64 1)), (3, x15), (4, x18), (5, x20)]) Kp fun x21 =>
   opN Try.prog (sAlloc 23) Kp fun x4 =>
   opN Try.prog (sStore 23 x4 x21) Kp fun _ =>
   opN Try.prog (sBin .quo 3 v0 (.int .i64 86400)) Kp fun x23 =>
   opN Try.prog (sBin .add 3 x23 (.int .i64 4)) Kp fun x25 =>
   opN Try.prog (sBin .rem 3 x25 (.int .i64 7)) Kp fun x26 =>
   opN Try.prog (sFA 23 x4 6) Kp fun x27 =>
   opN Try.prog (sStore 3 x27 x26) Kp fun _ =>
   loop1 (fun I1 m1 _ y5 =>
    opN Try.prog (sFA 23 x4 0) Kp fun x29 =>
    opN Try.prog (sLoad 3 x29) Kp fun x30 =>
    opN Try.prog (sCall (fn 23) [x30]) Kp fun x31 =>
    opN Try.prog (sBin .geq 3 y5 x31) Kp fun x32 =>
    condS x32
    (opN Try.prog (sFA 23 x4 0) Kp fun x34 =>
     opN Try.prog (sLoad 3 x34) Kp fun x35 =>
     opN Try.prog (sCall (fn 23) [x35]) Kp fun x36 =>
     opN Try.prog (sBin .sub 3 y5 x36) Kp fun x37 =>
     opN Try.prog (sFA 23 x4 0) Kp fun x38 =>
     opN Try.prog (sLoad 3 x38) Kp fun x39 =>
     opN Try.prog (sBin .add 3 x39 (.int .i64 1)) Kp fun x40 =>
     opN Try.prog (sFA 23 x4 0) Kp fun x41 =>
     opN Try.prog (sStore 3 x41 x40) Kp fun _ =>
     next1 I1 m1 x37)
    (loop1 (fun I2 m2 _ y5_2 =>
      opN Try.prog (sFA 23 x4 0) Kp fun x43 =>
      opN Try.prog (sLoad 3 x43) Kp fun x44 =>
      opN Try.prog (sFA 23 x4 1) Kp fun x45 =>
      opN Try.prog (sLoad 3 x45) Kp fun x46 =>
      opN Try.prog (sCall (fn 24) [x44, x46]) Kp fun x47 =>
      opN Try.prog (sBin .geq 3 y5_2 x47) Kp fun x48 =>
      condS x48
      (opN Try.prog (sFA 23 x4 0) Kp fun x50 =>
       opN Try.prog (sLoad 3 x50) Kp fun x51 =>
       opN Try.prog (sFA 23 x4 1) Kp fun x52 =>
       opN Try.prog (sLoad 3 x52) Kp fun x53 =>
       opN Try.prog (sCall (fn 24) [x51, x53]) Kp fun x54 =>
       opN Try.prog (sBin .sub 3 y5_2 x54) Kp fun x55 =>
       opN Try.prog (sFA 23 x4 1) Kp fun x56 =>
       opN Try.prog (sLoad 3 x56) Kp fun x57 =>
       opN Try.prog (sBin .add 3 x57 (.int .i64 1)) Kp fun x58 =>
       opN Try.prog (sFA 23 x4 1) Kp fun x59 =>
       opN Try.prog (sStore 3 x59 x58) Kp fun _ =>
       next1 I2 m2 x55)
      (opN Try.prog (sBin .add 3 y5_2 (.int .i64 1)) Kp fun x61 =>
       opN Try.prog (sFA 23 x4 2) Kp fun x62 =>
       opN Try.prog (sStore 3 x62 x61) Kp fun _ =>
       opN Try.prog (sLoad 23 x4) Kp fun x63 =>
       opN Try.prog (sStore 23 x2 x63) Kp fun _ =>
       (stS Try.prog (sRes 23 x2) fun r0 => K (.tuple #[r0, (.int .i64 0)])))) y5)) x23)
def ref09_Split_an : Ann := { cuts := [], blks := [], loops := [(6, [5]), (9, [5])], drs := [] }
theorem ref09_Split_eq (v0 : Value) (Kp : PK) (K : Value → WP) : cevF Try.prog ref09_Split_an Try.f10 [v0] Kp K = ref09_Split v0 Kp K := by kernel_rfl
theorem ref09_Split_calls {v0 : Value} {Kp : PK} {K : Value → WP} {w : World} (h : ref09_Split v0 Kp K w) : Calls Try.prog 10 #[v0] w (after Kp K) :=
  calls_of_shape (calls_of_cev wide Try.func10 (an := ref09_Split_an) (args := [v0]) (cast (congrFun (ref09_Split_eq v0 Kp K) w).symm h))
theorem ref09_Split_cn {v0 : Value} {W : World} {α : Type} {A : List HP} {r : α → Value} {B : α → List HP} (h : ∀ F, Ent W (A ++ F) (ref09_Split v0 noP fun v w => ∃ x, v = r x ∧ sat W (B x ++ F) w)) : Cn Try.prog 10 [v0] W A r B :=
  Cn.of (shape := ref09_Split v0) Try.call10 (fun h => ref09_Split_calls h) h
theorem ref09_Split_cnP {v0 : Value} {W : World} {α β : Type} {A : List HP} {r : α → Value} {B : α → List HP} {pc : β → List PanicEntry} {Bp : β → List HP} (h : ∀ F, Ent W (A ++ F) (ref09_Split v0 (fun ch w => ∃ y, ch = pc y ∧ sat W (Bp y ++ F) w) fun v w => ∃ x, v = r x ∧ sat W (B x ++ F) w)) : CnP Try.prog 10 [v0] W A r B pc Bp :=
  CnP.of (shape := ref09_Split v0) Try.call10 (fun h => ref09_Split_calls h) h

/-- dates_Join -/
def dates_Join (v0 : Value) (Kp : PK) (K : Value → WP) : WP :=
  opN Try.prog (sBox 24 v0) Kp fun x1 =>
  opN Try.prog (sFA 24 x1 0) Kp fun x10 =>
  opN Try.prog (sLoad 3 x10) Kp fun x11 =>
  opN Try.prog (sCall (fn 25) [x11, (.int .i64 1970), (.int .i64 9999)]) Kp fun x12 =>
  opN Try.prog (sUn .not x12) Kp fun x13 =>
  gdK x13 false (fun k => k (fn 25)) fun x15 =>
  gdK x13 false (opN Try.prog (sFA 24 x1 1) Kp) fun x16 =>
  gdK x13 false (opN Try.prog (sLoad 3 x16) Kp) fun x17 =>
  gdK x13 false (opN Try.prog (sCall x15 [x17, (.int .i64 1), (.int .i64 12)]) Kp) fun x18 =>
  gdK x13 false (opN Try.prog (sUn .not x18) Kp) fun x19 =>
  opN Try.prog (sPick x13 (.bool true) x19) Kp fun x20 =>
  gdK x20 false (fun k => k (fn 25)) fun x22 =>
  gdK x20 false (opN Try.prog (sFA 24 x1 2) Kp) fun x23 =>
  gdK x20 false (opN Try.prog (sLoad 3 x23) Kp) fun x24 =>
  gdK x20 false (opN Try.prog (sCall x22 [x24, (.int .i64 1), (.int .i64 31)]) Kp) fun x25 =>
  gdK x20 false (opN Try.prog (sUn .not x25) Kp) fun x26 =>
  opN Try.prog (sPick x20 (.bool true) x26) Kp fun x27 =>
  gdK x27 false (fun k => k (fn 25)) fun x29 =>
  gdK x27 false (opN Try.prog (sFA 24 x1 3) Kp) fun x30 =>
  gdK x27 false (opN Try.prog (sLoad 3 x30) Kp) fun x31 =>
  gdK x27 false (opN Try.prog (sCall x29 [x31, (.int .i64 0), (.int .i64 23)]) Kp) fun x32 =>
  gdK x27 false (opN Try.prog (sUn .not x32) Kp) fun x33 =>
  opN Try.prog (sPick x27 (.bool true) x33) Kp fun x34 =>
  gdK x34 false (fun k => k (fn 25)) fun x36 =>
  gdK x34 false (opN Try.prog (sFA 24 x1 4) Kp) fun x37 =>
  gdK x34 false (opN Try.prog (sLoad 3 x37) Kp) fun x38 =>
  gdK x34 false (opN Try.prog (sCall x36 [x38, (.int .i64 0), (.int .i64 59)]) Kp) fun x39 =>
  gdK x34 false (opN Try.prog (sUn .not x39) Kp) fun x40 =>
  opN Try.prog (sPick x34 (.bool true) x40) Kp fun x41 =>
  gdK x41 false (fun k => k (fn 25)) fun x43 =>
  gdK x41 false (opN Try.prog (sFA 24 x1 5) Kp) fun x44 =>
  gdK x41 false (opN Try.prog (sLoad 3 x44) Kp) fun x45 =>
  gdK x41 false (opN Try.prog (sCall x43 [x45, (.int .i64 0), (.int .i64 59)]) Kp) fun x46 =>
  gdK x41 false (opN Try.prog (sUn .not x46) Kp) fun x47 =>
  opN Try.prog (sPick x41 (.bool true) x47) Kp fun x48 =>
  condS x48
  (K (.tuple #[(.int .i64 0), (.int .i64 41)]))
  (opN Try.prog (sFA 24 x1 0) Kp fun x49 =>
   opN Try.prog (sLoad 3 x49) Kp fun x50 =>
   opN Try.prog (sFA 24 x1 1) Kp fun x51 =>
   opN Try.prog (sLoad 3 x51) Kp fun x52 =>
   opN Try.prog (sFA 24 x1 2) Kp fun x53 =>
   opN Try.prog (sLoad 3 x53) Kp fun x54 =>
   opN Try.prog (sCall (fn 26) [x50, x52, x54]) Kp fun x55 =>
   opN Try.prog (sCall (fn 22) [x55]) Kp fun x58 =>
   opN Try.prog (sExt x58 0) Kp fun x59 =>
   opN Try.prog (sExt x58 1) Kp fun x60 =>
   opN Try.prog (sExt x58 2) Kp fun x61 =>
   opN Try.prog (sFA 24 x1 1) Kp fun x63 =>
   opN Try.prog (sLoad 3 x63) Kp fun x64 =>
   opN Try.prog (sEq .neq 3 (.tmp 62) (.tmp 64) x60 x64) Kp fun x65 =>
   condS x65
   (K (.tuple #[(.int .i64 0), (.int .i64 41)]))
   (opN Try.prog (sBin .mul 3 x55 (.int .i64 86400)) Kp fun x67 =>
    opN Try.prog (sFA 24 x1 3) Kp fun x68 =>
    opN Try.prog (sLoad 3 x68) Kp fun x69 =>
    opN Try.prog (sBin .mul 3 x69 (.int .i64 3600)) Kp fun x70 =>
    opN Try.prog (sBin .add 3 x67 x70) Kp fun x71 =>
    opN Try.prog (sFA 24 x1 4) Kp fun x72 =>
    opN Try.prog (sLoad 3 x72) Kp fun x73 =>
    opN Try.prog (sBin .mul 3 x73 (.int .i64 60)) Kp fun x74 =>
    opN Try.prog (sBin .add 3 x71 x74) Kp fun x75 =>
    opN Try.prog (sFA 24 x1 5) Kp fun x76 =>
    opN Try.prog (sLoad 3 x76) Kp fun x77 =>
    opN Try.prog (sBin .add 3 x75 x77) Kp fun x78 =>
    K (.tuple #[x78, (.int .i64 0)])))
def dates_Join_an : Ann := { cuts := [], blks := [], loops := [], drs := [] }
theorem dates_Join_eq (v0 : Value) (Kp : PK) (K : Value → WP) : cevF Try.prog dates_Join_an Try.f11 [v0] Kp K = dates_Join v0 Kp K := by kernel_rfl
theorem dates_Join_calls {v0 : Value} {Kp : PK} {K : Value → WP} {w : World} (h : dates_Join v0 Kp K w) : Calls Try.prog 11 #[v0] w (after Kp K) :=
  calls_of_shape (calls_of_cev wide Try.func11 (an := dates_Join_an) (args := [v0]) (cast (congrFun (dates_Join_eq v0 Kp K) w).symm h))
theorem dates_Join_cn {v0 : Value} {W : World} {α : Type} {A : List HP} {r : α → Value} {B : α → List HP} (h : ∀ F, Ent W (A ++ F) (dates_Join v0 noP fun v w => ∃ x, v = r x ∧ sat W (B x ++ F) w)) : Cn Try.prog 11 [v0] W A r B :=
  Cn.of (shape := dates_Join v0) Try.call11 (fun h => dates_Join_calls h) h
theorem dates_Join_cnP {v0 : Value} {W : World} {α β : Type} {A : List HP} {r : α → Value} {B : α → List HP} {pc : β → List PanicEntry} {Bp : β → List HP} (h : ∀ F, Ent W (A ++ F) (dates_Join v0 (fun ch w => ∃ y, ch = pc y ∧ sat W (Bp y ++ F) w) fun v w => ∃ x, v = r x ∧ sat W (B x ++ F) w)) : CnP Try.prog 11 [v0] W A r B pc Bp :=
  CnP.of (shape := dates_Join v0) Try.call11 (fun h => dates_Join_calls h) h

/-- ref09_Join -/
def ref09_Join (v0 : Value) (Kp : PK) (K : Value → WP) : WP :=
  opN Try.prog (sBox 23 v0) Kp fun x1 =>
  drS (stS Try.prog (sFA 23 x1 0) fun x7 =>
   stS Try.prog (sLoad 3 x7) fun x8 =>
   stS Try.prog (sBin .lss 3 x8 (.int .i64 1970)) fun x9 =>
   gdK x9 false (stS Try.prog (sFA 23 x1 0)) fun x11 =>
   gdK x9 false (stS Try.prog (sLoad 3 x11)) fun x12 =>
   gdK x9 false (stS Try.prog (sBin .gtr 3 x12 (.int .i64 9999))) fun x13 =>
   stS Try.prog (sPick x9 (.bool true) x13) fun x14 =>
   gdK x14 false (stS Try.prog (sFA 23 x1 1)) fun x16 =>
   gdK x14 false (stS Try.prog (sLoad 3 x16)) fun x17 =>
   gdK x14 false (stS Try.prog (sBin .lss 3 x17 (.int .i64 1))) fun x18 =>
   stS Try.prog (sPick x14 (.bool true) x18) fun x19 =>
   gdK x19 false (stS Try.prog (sFA 23 x1 1)) fun x21 =>
   gdK x19 false (stS Try.prog (sLoad 3 x21)) fun x22 =>
   gdK x19 false (stS Try.prog (sBin .gtr 3 x22 (.int .i64 12))) fun x23 =>
   stS Try.prog (sPick x19 (.bool true) x23) fun x24 =>
   gdK x24 false (stS Try.prog (sFA 23 x1 2)) fun x26 =>
   gdK x24 false (stS Try.prog (sLoad 3 x26)) fun x27 =>
   gdK x24 false (stS Try.prog (sBin .lss 3 x27 (.int .i64 1))) fun x28 =>
   stS Try.prog (sPick x24 (.bool true) x28) fun x29 =>
   gdD x29 false (stD Try.prog (sFA 23 x1 2)) fun D24 x31 =>
   gdD x29 false (stD Try.prog (sLoad 3 x31)) fun D25 x32 =>
   gdK x29 false (stS Try.prog (sFA 23 x1 0)) fun x33 =>
   gdK x29 false (stS Try.prog (sLoad 3 x33)) fun x34 =>
   gdK x29 false (stS Try.prog (sFA 23 x1 1)) fun x35 =>
   gdK x29 false (stS Try.prog (sLoad 3 x35)) fun x36 =>
   gdK x29 false (opN Try.prog (sCall (fn 24) [x34, x36]) Kp) fun x37 =>
   (fun w => D25 w ∧ (fun w => D24 w ∧ (gdK x29 false (stS Try.prog (sBin .gtr 3 x32 x37)) fun x38 =>
      stS Try.prog (sPick x29 (.bool true) x38) fun x39 =>
      condS x39
      (K (.tuple #[(.int .i64 0), (.int .i64 41)]))
      (opN Try.prog (sFA 23 x1 3) Kp fun x40 =>
       opN Try.prog (sLoad 3 x40) Kp fun x41 =>
       opN Try.prog (sBin .lss 3 x41 (.int .i64 0)) Kp fun x42 =>
       gdK x42 false (opN Try.prog (sFA 23 x1 3) Kp) fun x44 =>
       gdK x42 false (opN Try.prog (sLoad 3 x44) Kp) fun x45 =>
       gdK x42 false (opN Try.prog (sBin .gtr 3 x45 (.int .i64 23)) Kp) fun x46 =>
       opN Try.prog (sPick x42 (.bool true) x46) Kp fun x47 =>
       gdK x47 false (opN Try.prog (sFA 23 x1 4) Kp) fun x49 =>
       gdK x47 false (opN Try.prog (sLoad 3 x49) Kp) fun x50 =>
       gdK x47 false (opN Try.prog (sBin .lss 3 x50 (.int .i64 0)) Kp) fun x51 =>
       opN Try.prog (sPick x47 (.bool true) x51) Kp fun x52 =>
       gdK x52 false (opN Try.prog (sFA 23 x1 4) Kp) fun x54 =>
       gdK x52 false (opN Try.prog (sLoad 3 x54) Kp) fun x55 =>
       gdK x52 false (opN Try.prog (sBin .gtr 3 x55 (.int .i64 59)) Kp) fun x56 =>
       opN Try.prog (sPick x52 (.bool true) x56) Kp fun x57 =>
       gdK x57 false (opN Try.prog (sFA 23 x1 5) Kp) fun x59 =>
       gdK x57 false (opN Try.prog (sLoad 3 x59) Kp) fun x60 =>
       gdK x57 false (opN Try.prog (sBin .lss 3 x60 (.int .i64 0)) Kp) fun x61 =>
       opN Try.prog (sPick x57 (.bool true) x61) Kp fun x62 =>
       gdK x62 false (opN Try.prog (sFA 23 x1 5) Kp) fun x64 =>
       gdK x62 false (opN Try.prog (sLoad 3 x64) Kp) fun x65 =>
       gdK x62 false (opN Try.prog (sBin .gtr 3 x65 (.int .i64 59)) Kp) fun x66 =>
       opN Try.prog (sPick x62 (.bool true) x66) Kp fun x67 =>
       condS x67
       (K (.tuple #[(.int .i64 0), (.int .i64 41)]))
       (opN Try.prog (sFA 23 x1 2) Kp fun x68 =>
        opN Try.prog (sLoad 3 x68) Kp fun x69 =>
        opN Try.prog (sBin .sub 3 x69 (.int .i64 1)) Kp fun x70 =>
        loop2 (fun I1 m1 _ y4 y5 =>
         opN Try.prog (sFA 23 x1 0) Kp fun x72 =>
         opN Try.prog (sLoad 3 x72) Kp fun x73 =>
         opN Try.prog (sBin .lss 3 y5 x73) Kp fun x74 =>
         condS x74
         (opN Try.prog (sCall (fn 23) [y5]) Kp fun x79 =>
          opN Try.prog (sBin .add 3 y4 x79) Kp fun x80 =>
          opN Try.prog (sBin .add 3 y5 (.int .i64 1)) Kp fun x76 =>
          next2 I1 m1 x80 x76)
         (loop2 (fun I2 m2 _ y4 y6 =>
           opN Try.prog (sFA 23 x1 1) Kp fun x82 =>
           opN Try.prog (sLoad 3 x82) Kp fun x83 =>
           opN Try.prog (sBin .lss 3 y6 x83) Kp fun x84 =>
           condS x84
           (opN Try.prog (sFA 23 x1 0) Kp fun x88 =>
            opN Try.prog (sLoad 3 x88) Kp fun x89 =>
            opN Try.prog (sCall (fn 24) [x89, y6]) Kp fun x91 =>
            opN Try.prog (sBin .add 3 y4 x91) Kp fun x92 =>
            opN Try.prog (sBin .add 3 y6 (.int .i64 1)) Kp fun x86 =>
            next2 I2 m2 x92 x86)
           (opN Try.prog (sBin .mul 3 y4 (.int .i64 86400)) Kp fun x94 =>
            opN Try.prog (sFA 23 x1 3) Kp fun x95 =>
            opN Try.prog (sLoad 3 x95) Kp fun x96 =>
            opN Try.prog (sBin .mul 3 x96 (.int .i64 3600)) Kp fun x97 =>
            opN Try.prog (sBin .add 3 x94 x97) Kp fun x98 =>
            opN Try.prog (sFA 23 x1 4) Kp fun x99 =>
            opN Try.prog (sLoad 3 x99) Kp fun x100 =>
            opN Try.prog (sBin .mul 3 x100 (.int .i64 60)) Kp fun x101 =>
            opN Try.prog (sBin .add 3 x98 x101) Kp fun x102 =>
            opN Try.prog (sFA 23 x1 5) Kp fun x103 =>
            opN Try.prog (sLoad 3 x103) Kp fun x104 =>
            opN Try.prog (sBin .add 3 x102 x104) Kp fun x105 =>
            K (.tuple #[x105, (.int .i64 0)]))) y4 (.int .i64 1))) x70 (.int .i64 1970)))) w) w))
def ref09_Join_an : Ann := { cuts := [], blks := [], loops := [(7, [4, 5]), (11, [4, 6])], drs := [(1, [(0, 1), (1, 1), (2, 1), (3, 1), (4, 1), (5, 1), (6, 1), (7, 1), (8, 1), (9, 1), (10, 1), (11, 1), (12, 1), (13, 1), (14, 1), (15, 1), (16, 1), (17, 1), (18, 1), (19, 1), (20, 1), (21, 1), (22, 1), (23, 1), (24, 3), (25, 3), (26, 1), (27, 1), (28, 1), (29, 1), (30, 0), (31, 1), (32, 1)])] }
theorem ref09_Join_eq (v0 : Value) (Kp : PK) (K : Value → WP) : cevF Try.prog ref09_Join_an Try.f12 [v0] Kp K = ref09_Join v0 Kp K := by kernel_rfl
theorem ref09_Join_calls {v0 : Value} {Kp : PK} {K : Value → WP} {w : World} (h : ref09_Join v0 Kp K w) : Calls Try.prog 12 #[v0] w (after Kp K) :=
  calls_of_shape (calls_of_cev wide Try.func12 (an := ref09_Join_an) (args := [v0]) (cast (congrFun (ref09_Join_eq v0 Kp K) w).symm h))
theorem ref09_Join_cn {v0 : Value} {W : World} {α : Type} {A : List HP} {r : α → Value} {B : α → List HP} (h : ∀ F, Ent W (A ++ F) (ref09_Join v0 noP fun v w => ∃ x, v = r x ∧ sat W (B x ++ F) w)) : Cn Try.prog 12 [v0] W A r B :=
  Cn.of (shape := ref09_Join v0) Try.call12 (fun h => ref09_Join_calls h) h
theorem ref09_Join_cnP {v0 : Value} {W : World} {α β : Type} {A : List HP} {r : α → Value} {B : α → List HP} {pc : β → List PanicEntry} {Bp : β → List HP} (h : ∀ F, Ent W (A ++ F) (ref09_Join v0 (fun ch w => ∃ y, ch = pc y ∧ sat W (Bp y ++ F) w) fun v w => ∃ x, v = r x ∧ sat W (B x ++ F) w)) : CnP Try.prog 12 [v0] W A r B pc Bp :=
  CnP.of (shape := ref09_Join v0) Try.call12 (fun h => ref09_Join_calls h) h

/-- law09_same -/
def law09_same (v0 v1 : Value) (Kp : PK) (K : Value → WP) : WP :=
  opN Try.prog (sBox 24 v0) Kp fun x2 =>
  opN Try.prog (sBox 23 v1) Kp fun x3 =>
  opN Try.prog (sFA 24 x2 0) Kp fun x5 =>
  opN Try.prog (sLoad 3 x5) Kp fun x6 =>
  opN Try.prog (sFA 23 x3 0) Kp fun x7 =>
  opN Try.prog (sLoad 3 x7) Kp fun x8 =>
  opN Try.prog (sEq .eql 3 (.tmp 6) (.tmp 8) x6 x8) Kp fun x9 =>
  gdK x9 true (opN Try.prog (sFA 24 x2 1) Kp) fun x11 =>
  gdK x9 true (opN Try.prog (sLoad 3 x11) Kp) fun x12 =>
  gdK x9 true (opN Try.prog (sFA 23 x3 1) Kp) fun x13 =>
  gdK x9 true (opN Try.prog (sLoad 3 x13) Kp) fun x14 =>
  gdK x9 true (opN Try.prog (sEq .eql 3 (.tmp 12) (.tmp 14) x12 x14) Kp) fun x15 =>
  opN Try.prog (sPick x9 x15 (.bool false)) Kp fun x16 =>
  gdK x16 true (opN Try.prog (sFA 24 x2 2) Kp) fun x18 =>
  gdK x16 true (opN Try.prog (sLoad 3 x18) Kp) fun x19 =>
  gdK x16 true (opN Try.prog (sFA 23 x3 2) Kp) fun x20 =>
  gdK x16 true (opN Try.prog (sLoad 3 x20) Kp) fun x21 =>
  gdK x16 true (opN Try.prog (sEq .eql 3 (.tmp 19) (.tmp 21) x19 x21) Kp) fun x22 =>
  opN Try.prog (sPick x16 x22 (.bool false)) Kp fun x23 =>
  gdK x23 true (opN Try.prog (sFA 24 x2 3) Kp) fun x25 =>
  gdK x23 true (opN Try.prog (sLoad 3 x25) Kp) fun x26 =>
  gdK x23 true (opN Try.prog (sFA 23 x3 3) Kp) fun x27 =>
  gdK x23 true (opN Try.prog (sLoad 3 x27) Kp) fun x28 =>
  gdK x23 true (opN Try.prog (sEq .eql 3 (.tmp 26) (.tmp 28) x26 x28) Kp) fun x29 =>
  opN Try.prog (sPick x23 x29 (.bool false)) Kp fun x30 =>
  gdK x30 true (opN Try.prog (sFA 24 x2 4) Kp) fun x32 =>
  gdK x30 true (opN Try.prog (sLoad 3 x32) Kp) fun x33 =>
  gdK x30 true (opN Try.prog (sFA 23 x3 4) Kp) fun x34 =>
  gdK x30 true (opN Try.prog (sLoad 3 x34) Kp) fun x35 =>
  gdK x30 true (opN Try.prog (sEq .eql 3 (.tmp 33) (.tmp 35) x33 x35) Kp) fun x36 =>
  opN Try.prog (sPick x30 x36 (.bool false)) Kp fun x37 =>
  gdK x37 true (opN Try.prog (sFA 24 x2 5) Kp) fun x39 =>
  gdK x37 true (opN Try.prog (sLoad 3 x39) Kp) fun x40 =>
  gdK x37 true (opN Try.prog (sFA 23 x3 5) Kp) fun x41 =>
  gdK x37 true (opN Try.prog (sLoad 3 x41) Kp) fun x42 =>
  gdK x37 true (opN Try.prog (sEq .eql 3 (.tmp 40) (.tmp 42) x40 x42) Kp) fun x43 =>
  opN Try.prog (sPick x37 x43 (.bool false)) Kp fun x44 =>
  gdK x44 true (opN Try.prog (sFA 24 x2 6) Kp) fun x46 =>
  gdK x44 true (opN Try.prog (sLoad 3 x46) Kp) fun x47 =>
  gdK x44 true (opN Try.prog (sFA 23 x3 6) Kp) fun x48 =>
  gdK x44 true (opN Try.prog (sLoad 3 x48) Kp) fun x49 =>
  gdK x44 true (opN Try.prog (sEq .eql 3 (.tmp 47) (.tmp 49) x47 x49) Kp) fun x50 =>
  opN Try.prog (sPick x44 x50 (.bool false)) Kp fun x51 =>
  K x51
def law09_same_an : Ann := { cuts := [], blks := [], loops := [], drs := [] }
theorem law09_same_eq (v0 v1 : Value) (Kp : PK) (K : Value → WP) : cevF Try.prog law09_same_an Try.f13 [v0, v1] Kp K = law09_same v0 v1 Kp K := by kernel_rfl
theorem law09_same_calls {v0 v1 : Value} {Kp : PK} {K : Value → WP} {w : World} (h : law09_same v0 v1 Kp K w) : Calls Try.prog 13 #[v0, v1] w (after Kp K) :=
  calls_of_shape (calls_of_cev wide Try.func13 (an := law09_same_an) (args := [v0, v1]) (cast (congrFun (law09_same_eq v0 v1 Kp K) w).symm h))
theorem law09_same_cn {v0 v1 : Value} {W : World} {α : Type} {A : List HP} {r : α → Value} {B : α → List HP} (h : ∀ F, Ent W (A ++ F) (law09_same v0 v1 noP fun v w => ∃ x, v = r x ∧ sat W (B x ++ F) w)) : Cn Try.prog 13 [v0, v1] W A r B :=
  Cn.of (shape := law09_same v0 v1) Try.call13 (fun h => law09_same_calls h) h
theorem law09_same_cnP {v0 v1 : Value} {W : World} {α β : Type} {A : List HP} {r : α → Value} {B : α → List HP} {pc : β → List PanicEntry} {Bp : β → List HP} (h : ∀ F, Ent W (A ++ F) (law09_same v0 v1 (fun ch w => ∃ y, ch = pc y ∧ sat W (Bp y ++ F) w) fun v w => ∃ x, v = r x ∧ sat W (B x ++ F) w)) : CnP Try.prog 13 [v0, v1] W A r B pc Bp :=
  CnP.of (shape := law09_same v0 v1) Try.call13 (fun h => law09_same_calls h) h

/-- law09_num -/
def law09_num (v0 : Value) (Kp : PK) (K : Value → WP) : WP :=
  K v0
def law09_num_an : Ann := { cuts := [], blks := [], loops := [], drs := [] }
theorem law09_num_eq (v0 : Value) (Kp : PK) (K : Value → WP) : cevF Try.prog law09_num_an Try.f14 [v0] Kp K = law09_num v0 Kp K := by kernel_rfl
theorem law09_num_calls {v0 : Value} {Kp : PK} {K : Value → WP} {w : World} (h : law09_num v0 Kp K w) : Calls Try.prog 14 #[v0] w (after Kp K) :=
  calls_of_shape (calls_of_cev wide Try.func14 (an := law09_num_an) (args := [v0]) (cast (congrFun (law09_num_eq v0 Kp K) w).symm h))
theorem law09_num_cn {v0 : Value} {W : World} {α : Type} {A : List HP} {r : α → Value} {B : α → List HP} (h : ∀ F, Ent W (A ++ F) (law09_num v0 noP fun v w => ∃ x, v = r x ∧ sat W (B x ++ F) w)) : Cn Try.prog 14 [v0] W A r B :=
  Cn.of (shape := law09_num v0) Try.call14 (fun h => law09_num_calls h) h
theorem law09_num_cnP {v0 : Value} {W : World} {α β : Type} {A : List HP} {r : α → Value} {B : α → List HP} {pc : β → List PanicEntry} {Bp : β → List HP} (h : ∀ F, Ent W (A ++ F) (law09_num v0 (fun ch w => ∃ y, ch = pc y ∧ sat W (Bp y ++ F) w) fun v w => ∃ x, v = r x ∧ sat W (B x ++ F) w)) : CnP Try.prog 14 [v0] W A r B pc Bp :=
  CnP.of (shape := law09_num v0) Try.call14 (fun h => law09_num_calls h) h

/-- law09_knows -/
def law09_knows (Kp : PK) (K : Value → WP) : WP :=
  opN Try.prog (sCall (fn 16) [(.int .i64 784111777)]) Kp fun x6 =>
  opN Try.prog (sExt x6 0) Kp fun x7 =>
  opN Try.prog (sExt x6 1) Kp fun x8 =>
  opN Try.prog (sCall (fn 18) [(.string ⟨#[83, 117, 110, 100, 97, 121, 44, 32, 48, 54, 45, 78, 111, 118, 45, 57, 52, 32, 48, 56, 58, 52, 57, 58, 51, 55, 32, 71, 77, 84]⟩), (.int .i64 784111777)]) Kp fun x10 =>
  opN Try.prog (sExt x10 0) Kp fun x11 =>
  opN Try.prog (sExt x10 1) Kp fun x12 =>
  opN Try.prog (sCall (fn 14) [x8]) Kp fun x14 =>
  opN Try.prog (sCall (fn 14) [x12]) Kp fun x16 =>
  opN Try.prog (sBin .add 3 x14 x16) Kp fun x17 =>
  opN Try.prog (sEq .eql 3 (.tmp 17) (.const (.int .i64 0)) x17 (.int .i64 0)) Kp fun x18 =>
  gdK x18 true (fun k => k x7) fun x20 =>
  gdK x18 true (opN Try.prog (sEq .eql 9 (.tmp 20) (.const (.string ⟨#[83, 117, 110, 44, 32, 48, 54, 32, 78, 111, 118, 32, 49, 57, 57, 52, 32, 48, 56, 58, 52, 57, 58, 51, 55, 32, 71, 77, 84]⟩)) x20 (.string ⟨#[83, 117, 110, 44, 32, 48, 54, 32, 78, 111, 118, 32, 49, 57, 57, 52, 32, 48, 56, 58, 52, 57, 58, 51, 55, 32, 71, 77, 84]⟩)) Kp) fun x21 =>
  opN Try.prog (sPick x18 x21 (.bool false)) Kp fun x22 =>
  gdK x22 true (fun k => k x11) fun x24 =>
  gdK x22 true (opN Try.prog (sEq .eql 3 (.tmp 24) (.const (.int .i64 784111777)) x24 (.int .i64 784111777)) Kp) fun x25 =>
  opN Try.prog (sPick x22 x25 (.bool false)) Kp fun x26 =>
  K x26
def law09_knows_an : Ann := { cuts := [], blks := [], loops := [], drs := [] }
theorem law09_knows_eq (Kp : PK) (K : Value → WP) : cevF Try.prog law09_knows_an Try.f15 [] Kp K = law09_knows Kp K := by kernel_rfl
theorem law09_knows_calls  {Kp : PK} {K : Value → WP} {w : World} (h : law09_knows Kp K w) : Calls Try.prog 15 #[] w (after Kp K) :=
  calls_of_shape (calls_of_cev wide Try.func15 (an := law09_knows_an) (args := []) (cast (congrFun (law09_knows_eq Kp K) w).symm h))
theorem law09_knows_cn  {W : World} {α : Type} {A : List HP} {r : α → Value} {B : α → List HP} (h : ∀ F, Ent W (A ++ F) (law09_knows noP fun v w => ∃ x, v = r x ∧ sat W (B x ++ F) w)) : Cn Try.prog 15 [] W A r B :=
  Cn.of (shape := law09_knows) Try.call15 (fun h => law09_knows_calls h) h
theorem law09_knows_cnP  {W : World} {α β : Type} {A : List HP} {r : α → Value} {B : α → List HP} {pc : β → List PanicEntry} {Bp : β → List HP} (h : ∀ F, Ent W (A ++ F) (law09_knows (fun ch w => ∃ y, ch = pc y ∧ sat W (Bp y ++ F) w) fun v w => ∃ x, v = r x ∧ sat W (B x ++ F) w)) : CnP Try.prog 15 [] W A r B pc Bp :=
  CnP.of (shape := law09_knows) Try.call15 (fun h => law09_knows_calls h) h

/-- dates_Format -/
def dates_Format (v0 : Value) (Kp : PK) (K : Value → WP) : WP :=
  opN Try.prog (sCall (fn 9) [v0]) Kp fun x8 =>
  opN Try.prog (sExt x8 0) Kp fun x9 =>
  opN Try.prog (sExt x8 1) Kp fun x10 =>
  opN Try.prog (sAlloc 24) Kp fun x4 =>
  opN Try.prog (sStore 24 x4 x9) Kp fun _ =>
  opN Try.prog (sEq .neq 25 (.tmp 11) (.const (.int .i64 0)) x10 (.int .i64 0)) Kp fun x12 =>
  condS x12
  (K (.tuple #[(.string ⟨#[]⟩), x10]))
  (opN Try.prog (sLoad 24 x4) Kp fun x14 =>
   opN Try.prog (sCall (fn 27) [x14, (.int .i64 0)]) Kp fun x15 =>
   K (.tuple #[x15, (.int .i64 0)]))
def dates_Format_an : Ann := { cuts := [], blks := [], loops := [], drs := [] }
theorem dates_Format_eq (v0 : Value) (Kp : PK) (K : Value → WP) : cevF Try.prog dates_Format_an Try.f16 [v0] Kp K = dates_Format v0 Kp K := by kernel_rfl
theorem dates_Format_calls {v0 : Value} {Kp : PK} {K : Value → WP} {w : World} (h : dates_Format v0 Kp K w) : Calls Try.prog 16 #[v0] w (after Kp K) :=
  calls_of_shape (calls_of_cev wide Try.func16 (an := dates_Format_an) (args := [v0]) (cast (congrFun (dates_Format_eq v0 Kp K) w).symm h))
theorem dates_Format_cn {v0 : Value} {W : World} {α : Type} {A : List HP} {r : α → Value} {B : α → List HP} (h : ∀ F, Ent W (A ++ F) (dates_Format v0 noP fun v w => ∃ x, v = r x ∧ sat W (B x ++ F) w)) : Cn Try.prog 16 [v0] W A r B :=
  Cn.of (shape := dates_Format v0) Try.call16 (fun h => dates_Format_calls h) h
theorem dates_Format_cnP {v0 : Value} {W : World} {α β : Type} {A : List HP} {r : α → Value} {B : α → List HP} {pc : β → List PanicEntry} {Bp : β → List HP} (h : ∀ F, Ent W (A ++ F) (dates_Format v0 (fun ch w => ∃ y, ch = pc y ∧ sat W (Bp y ++ F) w) fun v w => ∃ x, v = r x ∧ sat W (B x ++ F) w)) : CnP Try.prog 16 [v0] W A r B pc Bp :=
  CnP.of (shape := dates_Format v0) Try.call16 (fun h => dates_Format_calls h) h

/-- ref09_Format -/
def ref09_Format (v0 : Value) (Kp : PK) (K : Value → WP) : WP :=
  opN Try.prog (sCall (fn 10) [v0]) Kp fun x11 =>
  opN Try.prog (sExt x11 0) Kp fun x12 =>
  opN Try.prog (sExt x11 1) Kp fun x13 =>
  opN Try.prog (sAlloc 23) Kp fun x4 =>
  opN Try.prog (sStore 23 x4 x12) Kp fun _ =>
  opN Try.prog (sEq .neq 3 (.tmp 14) (.const (.int .i64 0)) x13 (.int .i64 0)) Kp fun x15 =>
  condS x15
  (K (.tuple #[(.string ⟨#[]⟩), x13]))
  (opN Try.prog (sLoad 23 x4) Kp fun x18 =>
   opN Try.prog (sCall (fn 21) [x18]) Kp fun x19 =>
   opN Try.prog (sExt x19 0) Kp fun x20 =>
   opN Try.prog (sExt x19 1) Kp fun x21 =>
   opN Try.prog (sExt x19 2) Kp fun x22 =>
   K (.tuple #[x20, (.int .i64 0)]))
def ref09_Format_an : Ann := { cuts := [], blks := [], loops := [], drs := [] }
theorem ref09_Format_eq (v0 : Value) (Kp : PK) (K : Value → WP) : cevF Try.prog ref09_Format_an Try.f17 [v0] Kp K = ref09_Format v0 Kp K := by kernel_rfl
theorem ref09_Format_calls {v0 : Value} {Kp : PK} {K : Value → WP} {w : World} (h : ref09_Format v0 Kp K w) : Calls Try.prog 17 #[v0] w (after Kp K) :=
  calls_of_shape (calls_of_cev wide Try.func17 (an := ref09_Format_an) (args := [v0]) (cast (congrFun (ref09_Format_eq v0 Kp K) w).symm h))
theorem ref09_Format_cn {v0 : Value} {W : World} {α : Type} {A : List HP} {r : α → Value} {B : α → List HP} (h : ∀ F, Ent W (A ++ F) (ref09_Format v0 noP fun v w => ∃ x, v = r x ∧ sat W (B x ++ F) w)) : Cn Try.prog 17 [v0] W A r B :=
  Cn.of (shape := ref09_Format v0) Try.call17 (fun h => ref09_Format_calls h) h
theorem ref09_Format_cnP {v0 : Value} {W : World} {α β : Type} {A : List HP} {r : α → Value} {B : α → List HP} {pc : β → List PanicEntry} {Bp : β → List HP} (h : ∀ F, Ent W (A ++ F) (ref09_Format v0 (fun ch w => ∃ y, ch = pc y ∧ sat W (Bp y ++ F) w) fun v w => ∃ x, v = r x ∧ sat W (B x ++ F) w)) : CnP Try.prog 17 [v0] W A r B pc Bp :=
  CnP.of (shape := ref09_Format v0) Try.call17 (fun h => ref09_Format_calls h) h

/-- dates_Parse -/
def dates_Parse (v0 v1 : Value) (Kp : PK) (K : Value → WP) : WP :=
  opN Try.prog (sBuild 59 [(0, (fn 28)), (1, (fn 29)), (2, (fn 30))]) Kp fun x12 =>
  loop3 (fun I1 m1 _ y6 y7 y13 =>
   opN Try.prog (sBin .lss 3 y13 (.int .i64 3)) Kp fun x14 =>
   condS x14
   (opN Try.prog (sIx 59 x12 y13) Kp fun x16 =>
    opN Try.prog (sCall (fn 31) [v0, y13, v1, x16]) Kp fun x22 =>
    opN Try.prog (sExt x22 0) Kp fun x23 =>
    opN Try.prog (sExt x22 1) Kp fun x24 =>
    condS x24
    (K (.tuple #[x23, (.int .i64 0)]))
    (opN Try.prog (sBin .add 3 y13 (.int .i64 1)) Kp fun x27 =>
     next3 I1 m1 y6 y7 x27))
   (K (.tuple #[y6, y7]))) (.int .i64 0) (.int .i64 41) (.int .i64 0)
def dates_Parse_an : Ann := { cuts := [], blks := [], loops := [(3, [6, 7, 13])], drs := [] }
theorem dates_Parse_eq (v0 v1 : Value) (Kp : PK) (K : Value → WP) : cevF Try.prog dates_Parse_an Try.f18 [v0, v1] Kp K = dates_Parse v0 v1 Kp K := by kernel_rfl
theorem dates_Parse_calls {v0 v1 : Value} {Kp : PK} {K : Value → WP} {w : World} (h : dates_Parse v0 v1 Kp K w) : Calls Try.prog 18 #[v0, v1] w (after Kp K) :=
  calls_of_shape (calls_of_cev wide Try.func18 (an := dates_Parse_an) (args := [v0, v1]) (cast (congrFun (dates_Parse_eq v0 v1 Kp K) w).symm h))
theorem dates_Parse_cn {v0 v1 : Value} {W : World} {α : Type} {A : List HP} {r : α → Value} {B : α → List HP} (h : ∀ F, Ent W (A ++ F) (dates_Parse v0 v1 noP fun v w => ∃ x, v = r x ∧ sat W (B x ++ F) w)) : Cn Try.prog 18 [v0, v1] W A r B :=
  Cn.of (shape := dates_Parse v0 v1) Try.call18 (fun h => dates_Parse_calls h) h
theorem dates_Parse_cnP {v0 v1 : Value} {W : World} {α β : Type} {A : List HP} {r : α → Value} {B : α → List HP} {pc : β → List PanicEntry} {Bp : β → List HP} (h : ∀ F, Ent W (A ++ F) (dates_Parse v0 v1 (fun ch w => ∃ y, ch = pc y ∧ sat W (Bp y ++ F) w) fun v w => ∃ x, v = r x ∧ sat W (B x ++ F) w)) : CnP Try.prog 18 [v0, v1] W A r B pc Bp :=
  CnP.of (shape := dates_Parse v0 v1) Try.call18 (fun h => dates_Parse_calls h) h

/-- ref09_Parse -/
def ref09_Parse (v0 v1 : Value) (Kp : PK) (K : Value → WP) : WP :=
  opN Try.prog (sCall (fn 34) [v0, (.int .i64 12), (.int .i64 4)]) Kp fun x15 =>
  opN Try.prog (sCall (fn 33) [v0, (.int .i64 5), (.int .i64 8), (.int .i64 17), x15]) Kp fun x16 =>
  opN Try.prog (sCall (fn 32) [v0, x16, (.int .i64 1)]) Kp fun x17 =>
  opN Try.prog (sExt x17 0) Kp fun x18 =>
  opN Try.prog (sExt x17 1) Kp fun x19 =>
  opN Try.prog (sEq .eql 3 (.tmp 20) (.const (.int .i64 0)) x19 (.int .i64 0)) Kp fun x21 =>
  condS x21
  (K (.tuple #[x18, (.int .i64 0)]))
  (loop1 (fun I1 m1 _ y8 =>
    opN Try.prog (sLen #[9] 3 [v0]) Kp fun x25 =>
    opN Try.prog (sBin .lss 3 y8 x25) Kp fun x26 =>
    gdK x26 true (fun k => k v0) fun x28 =>
    gdK x26 true (fun k => k y8) fun x29 =>
    gdK x26 true (opN Try.prog (sIx 9 x28 x29) Kp) fun x30 =>
    gdK x26 true (opN Try.prog (sEq .neq 5 (.tmp 30) (.const (.int .u8 44)) x30 (.int .u8 44)) Kp) fun x31 =>
    opN Try.prog (sPick x26 x31 (.bool false)) Kp fun x32 =>
    condS x32
    (opN Try.prog (sBin .add 3 y8 (.int .i64 1)) Kp fun x34 =>
     next1 I1 m1 x34)
    (opN Try.prog (sBin .add 3 y8 (.int .i64 9)) Kp fun x37 =>
     opN Try.prog (sCall (fn 34) [v0, x37, (.int .i64 2)]) Kp fun x38 =>
     cut0 (fun J1 =>
      opN Try.prog (sBin .geq 3 x38 (.int .i64 0)) Kp fun x40 =>
      condS x40
      (opN Try.prog (sBin .add 3 y8 (.int .i64 2)) Kp fun x45 =>
       opN Try.prog (sBin .add 3 y8 (.int .i64 5)) Kp fun x47 =>
       opN Try.prog (sBin .add 3 y8 (.int .i64 12)) Kp fun x49 =>
       opN Try.prog (sCall (fn 35) [x38, v1]) Kp fun x52 =>
       opN Try.prog (sCall (fn 33) [v0, x45, x47, x49, x52]) Kp fun x53 =>
       opN Try.prog (sCall (fn 32) [v0, x53, (.int .i64 2)]) Kp fun x54 =>
       opN Try.prog (sExt x54 0) Kp fun x55 =>
       opN Try.prog (sExt x54 1) Kp fun x56 =>
       opN Try.prog (sEq .eql 3 (.tmp 57) (.const (.int .i64 0)) x56 (.int .i64 0)) Kp fun x58 =>
       condS x58
       (K (.tuple #[x55, (.int .i64 0)]))
       (J1))
      (J1)) fun _ =>
     opN Try.prog (sCall (fn 34) [v0, (.int .i64 20), (.int .i64 4)]) Kp fun x62 =>
     opN Try.prog (sCall (fn 33) [v0, (.int .i64 8), (.int .i64 4), (.int .i64 11), x62]) Kp fun x63 =>
     opN Try.prog (sAlloc 23) Kp fun x10 =>
     opN Try.prog (sStore 23 x10 x63) Kp fun _ =>
     cut0 (fun J2 =>
      opN Try.prog (sLen #[9] 3 [v0]) Kp fun x65 =>
      opN Try.prog (sBin .gtr 3 x65 (.int .i64 9)) Kp fun x66 =>
      gdK x66 true (fun k => k v0) fun x68 =>
      gdK x66 true (opN Try.prog (sIx 9 x68 (.int .i64 8)) Kp) fun x69 =>
      gdK x66 true (opN Try.prog (sEq .eql 5 (.tmp 69) (.const (.int .u8 32)) x69 (.int .u8 32)) Kp) fun x70 =>
      opN Try.prog (sPick x66 x70 (.bool false)) Kp fun x71 =>
      condS x71
      (opN Try.prog (sCall (fn 34) [v0, (.int .i64 9), (.int .i64 1)]) Kp fun x73 =>
       opN Try.prog (sFA 23 x10 2) Kp fun x74 =>
       opN Try.prog (sStore 3 x74 x73) Kp fun _ =>
       J2)
      (J2)) fun _ =>
     opN Try.prog (sLoad 23 x10) Kp fun x76 =>
     opN Try.prog (sCall (fn 32) [v0, x76, (.int .i64 3)]) Kp fun x77 =>
     opN Try.prog (sExt x77 0) Kp fun x78 =>
     opN Try.prog (sExt x77 1) Kp fun x79 =>
     K (.tuple #[x78, x79]))) (.int .i64 0))
def ref09_Parse_an : Ann := { cuts := [(12, []), (15, [])], blks := [], loops := [(5, [8])], drs := [] }
theorem ref09_Parse_eq (v0 v1 : Value) (Kp : PK) (K : Value → WP) : cevF Try.prog ref09_Parse_an Try.f19 [v0, v1] Kp K = ref09_Parse v0 v1 Kp K := by kernel_rfl
theorem ref09_Parse_calls {v0 v1 : Value} {Kp : PK} {K : Value → WP} {w : World} (h : ref09_Parse v0 v1 Kp K w) : Calls Try.prog 19 #[v0, v1] w (after Kp K) :=
  calls_of_shape (calls_of_cev wide Try.func19 (an := ref09_Parse_an) (args := [v0, v1]) (cast (congrFun (ref09_Parse_eq v0 v1 Kp K) w).symm h))
theorem ref09_Parse_cn {v0 v1 : Value} {W : World} {α : Type} {A : List HP} {r : α → Value} {B : α → List HP} (h : ∀ F, Ent W (A ++ F) (ref09_Parse v0 v1 noP fun v w => ∃ x, v = r x ∧ sat W (B x ++ F) w)) : Cn Try.prog 19 [v0, v1] W A r B :=
  Cn.of (shape := ref09_Parse v0 v1) Try.call19 (fun h => ref09_Parse_calls h) h
theorem ref09_Parse_cnP {v0 v1 : Value} {W : World} {α β : Type} {A : List HP} {r : α → Value} {B : α → List HP} {pc : β → List PanicEntry} {Bp : β → List HP} (h : ∀ F, Ent W (A ++ F) (ref09_Parse v0 v1 (fun ch w => ∃ y, ch = pc y ∧ sat W (Bp y ++ F) w) fun v w => ∃ x, v = r x ∧ sat W (B x ++ F) w)) : CnP Try.prog 19 [v0, v1] W A r B pc Bp :=
  CnP.of (shape := ref09_Parse v0 v1) Try.call19 (fun h => ref09_Parse_calls h) h

/-- law09_time -/
def law09_time (v0 : Value) (Kp : PK) (K : Value → WP) : WP :=
  opN Try.prog (sBin .rem 3 v0 (.int .i64 253402300800)) Kp fun x4 =>
  opN Try.prog (sBin .add 3 x4 (.int .i64 253402300799)) Kp fun x5 =>
  opN Try.prog (sBin .add 3 x5 (.int .i64 1)) Kp fun x6 =>
  opN Try.prog (sBin .rem 3 x6 (.int .i64 253402300800)) Kp fun x7 =>
  K x7
def law09_time_an : Ann := { cuts := [], blks := [], loops := [], drs := [] }
theorem law09_time_eq (v0 : Value) (Kp : PK) (K : Value → WP) : cevF Try.prog law09_time_an Try.f20 [v0] Kp K = law09_time v0 Kp K := by kernel_rfl
theorem law09_time_calls {v0 : Value} {Kp : PK} {K : Value → WP} {w : World} (h : law09_time v0 Kp K w) : Calls Try.prog 20 #[v0] w (after Kp K) :=
  calls_of_shape (calls_of_cev wide Try.func20 (an := law09_time_an) (args := [v0]) (cast (congrFun (law09_time_eq v0 Kp K) w).symm h))
theorem law09_time_cn {v0 : Value} {W : World} {α : Type} {A : List HP} {r : α → Value} {B : α → List HP} (h : ∀ F, Ent W (A ++ F) (law09_time v0 noP fun v w => ∃ x, v = r x ∧ sat W (B x ++ F) w)) : Cn Try.prog 20 [v0] W A r B :=
  Cn.of (shape := law09_time v0) Try.call20 (fun h => law09_time_calls h) h
theorem law09_time_cnP {v0 : Value} {W : World} {α β : Type} {A : List HP} {r : α → Value} {B : α → List HP} {pc : β → List PanicEntry} {Bp : β → List HP} (h : ∀ F, Ent W (A ++ F) (law09_time v0 (fun ch w => ∃ y, ch = pc y ∧ sat W (Bp y ++ F) w) fun v w => ∃ x, v = r x ∧ sat W (B x ++ F) w)) : CnP Try.prog 20 [v0] W A r B pc Bp :=
  CnP.of (shape := law09_time v0) Try.call20 (fun h => law09_time_calls h) h

/-- ref09_Forms -/
def ref09_Forms (v0 : Value) (Kp : PK) (K : Value → WP) : WP :=
  opN Try.prog (sBox 23 v0) Kp fun x1 =>
  opN Try.prog (sCall (fn 36) []) Kp fun x15 =>
  opN Try.prog (sExt x15 0) Kp fun x16 =>
  opN Try.prog (sExt x15 1) Kp fun x17 =>
  opN Try.prog (sExt x15 2) Kp fun x18 =>
  opN Try.prog (sFA 23 x1 1) Kp fun x20 =>
  opN Try.prog (sLoad 3 x20) Kp fun x21 =>
  opN Try.prog (sBin .sub 3 x21 (.int .i64 1)) Kp fun x22 =>
  opN Try.prog (sIA 65 x18 x22) Kp fun x23 =>
  opN Try.prog (sLoad 9 x23) Kp fun x24 =>
  opN Try.prog (sFA 23 x1 2) Kp fun x25 =>
  opN Try.prog (sLoad 3 x25) Kp fun x26 =>
  opN Try.prog (sCall (fn 37) [x26]) Kp fun x27 =>
  cut1 (fun J1 =>
   opN Try.prog (sFA 23 x1 2) Kp fun x28 =>
   opN Try.prog (sLoad 3 x28) Kp fun x29 =>
   opN Try.prog (sBin .lss 3 x29 (.int .i64 10)) Kp fun x30 =>
   condS x30
   (opN Try.prog (sSl 9 x27 (some (.int .i64 1)) none none) Kp fun x32 =>
    opN Try.prog (sBin .add 9 (.string ⟨#[32]⟩) x32) Kp fun x33 =>
    J1 x33)
   (J1 x27)) fun _ z9 =>
  drS (stS Try.prog (sFA 23 x1 0) fun x34 =>
   stS Try.prog (sLoad 3 x34) fun x35 =>
   stS Try.prog (sBin .quo 3 x35 (.int .i64 100)) fun x36 =>
   stD Try.prog (sFA 23 x1 0) fun D4 x38 =>
   stD Try.prog (sLoad 3 x38) fun D5 x39 =>
   opN Try.prog (sCall (fn 37) [x36]) Kp fun x37 =>
   (fun w => D5 w ∧ (fun w => D4 w ∧ (opN Try.prog (sCall (fn 37) [x39]) Kp fun x40 =>
      stS Try.prog (sBin .add 9 x37 x40) fun x41 =>
      drS (stD Try.prog (sFA 23 x1 6) fun D1 x43 =>
       stD Try.prog (sLoad 3 x43) fun D2 x44 =>
       stD Try.prog (sIA 65 x16 x44) fun D3 x45 =>
       stD Try.prog (sLoad 9 x45) fun D4 x46 =>
       stD Try.prog (sBin .add 9 x46 (.string ⟨#[44, 32]⟩)) fun D5 x47 =>
       stS Try.prog (sFA 23 x1 2) fun x48 =>
       stS Try.prog (sLoad 3 x48) fun x49 =>
       stD Try.prog (sLoad 23 x1) fun D17 x59 =>
       opN Try.prog (sCall (fn 37) [x49]) Kp fun x50 =>
       (fun w => D17 w ∧ (fun w => D5 w ∧ (fun w => D4 w ∧ (fun w => D3 w ∧ (fun w => D2 w ∧ (fun w => D1 w ∧ (stD Try.prog (sBin .add 9 x47 x50) fun D9 x51 =>
              stD Try.prog (sBin .add 9 x51 (.string ⟨#[32]⟩)) fun D10 x52 =>
              stD Try.prog (sBin .add 9 x52 x24) fun D12 x54 =>
              stD Try.prog (sBin .add 9 x54 (.string ⟨#[32]⟩)) fun D13 x55 =>
              stD Try.prog (sBin .add 9 x55 x41) fun D15 x57 =>
              stD Try.prog (sBin .add 9 x57 (.string ⟨#[32]⟩)) fun D16 x58 =>
              opN Try.prog (sCall (fn 38) [x59]) Kp fun x60 =>
              (fun w => D16 w ∧ (fun w => D15 w ∧ (fun w => D13 w ∧ (fun w => D12 w ∧ (fun w => D10 w ∧ (fun w => D9 w ∧ (fun w => D5 w ∧ (fun w => D4 w ∧ (fun w => D3 w ∧ (fun w => D2 w ∧ (fun w => D1 w ∧ (stS Try.prog (sBin .add 9 x58 x60) fun x61 =>
                      stS Try.prog (sBin .add 9 x61 (.string ⟨#[32, 71, 77, 84]⟩)) fun x62 =>
                      drS (stD Try.prog (sFA 23 x1 6) fun D1 x64 =>
                      stD Try.prog (sLoad 3 x64) fun D2 x65 =>
                      stD Try.prog (sIA 65 x17 x65) fun D3 x66 =>
                      stD Try.prog (sLoad 9 x66) fun D4 x67 =>
                      stD Try.prog (sBin .add 9 x67 (.string ⟨#[44, 32]⟩)) fun D5 x68 =>
                      stS Try.prog (sFA 23 x1 2) fun x69 =>
                      stS Try.prog (sLoad 3 x69) fun x70 =>
                      stD Try.prog (sFA 23 x1 0) fun D14 x77 =>
                      stD Try.prog (sLoad 3 x77) fun D15 x78 =>
                      stD Try.prog (sLoad 23 x1) fun D19 x82 =>
                      opN Try.prog (sCall (fn 37) [x70]) Kp fun x71 =>
                      (fun w => D19 w ∧ (fun w => D15 w ∧ (fun w => D14 w ∧ (fun w => D5 w ∧ (fun w => D4 w ∧ (fun w => D3 w ∧ (fun w => D2 w ∧ (fun w => D1 w ∧ (stD Try.prog (sBin .add 9 x68 x71) fun D9 x72 =>
                      stD Try.prog (sBin .add 9 x72 (.string ⟨#[45]⟩)) fun D10 x73 =>
                      stD Try.prog (sBin .add 9 x73 x24) fun D12 x75 =>
                      stD Try.prog (sBin .add 9 x75 (.string ⟨#[45]⟩)) fun D13 x76 =>
                      opN Try.prog (sCall (fn 37) [x78]) Kp fun x79 =>
                      (fun w => D13 w ∧ (fun w => D12 w ∧ (fun w => D10 w ∧ (fun w => D9 w ∧ (fun w => D19 w ∧ (fun w => D5 w ∧ (fun w => D4 w ∧ (fun w => D3 w ∧ (fun w => D2 w ∧ (fun w => D1 w ∧ (stD Try.prog (sBin .add 9 x76 x79) fun D17 x80 =>
                      stD Try.prog (sBin .add 9 x80 (.string ⟨#[32]⟩)) fun D18 x81 =>
                      opN Try.prog (sCall (fn 38) [x82]) Kp fun x83 =>
                      (fun w => D18 w ∧ (fun w => D17 w ∧ (fun w => D13 w ∧ (fun w => D12 w ∧ (fun w => D10 w ∧ (fun w => D9 w ∧ (fun w => D5 w ∧ (fun w => D4 w ∧ (fun w => D3 w ∧ (fun w => D2 w ∧ (fun w => D1 w ∧ (stS Try.prog (sBin .add 9 x81 x83) fun x84 =>
                      stS Try.prog (sBin .add 9 x84 (.string ⟨#[32, 71, 77, 84]⟩)) fun x85 =>
                      drS (stD Try.prog (sFA 23 x1 6) fun D1 x87 =>
                      stD Try.prog (sLoad 3 x87) fun D2 x88 =>
                      stD Try.prog (sIA 65 x16 x88) fun D3 x89 =>
                      stD Try.prog (sLoad 9 x89) fun D4 x90 =>
                      stD Try.prog (sBin .add 9 x90 (.string ⟨#[32]⟩)) fun D5 x91 =>
                      stD Try.prog (sBin .add 9 x91 x24) fun D7 x93 =>
                      stD Try.prog (sBin .add 9 x93 (.string ⟨#[32]⟩)) fun D8 x94 =>
                      stD Try.prog (sBin .add 9 x94 z9) fun D10 x96 =>
                      stD Try.prog (sBin .add 9 x96 (.string ⟨#[32]⟩)) fun D11 x97 =>
                      stS Try.prog (sLoad 23 x1) fun x98 =>
                      opN Try.prog (sCall (fn 38) [x98]) Kp fun x99 =>
                      (fun w => D11 w ∧ (fun w => D10 w ∧ (fun w => D8 w ∧ (fun w => D7 w ∧ (fun w => D5 w ∧ (fun w => D4 w ∧ (fun w => D3 w ∧ (fun w => D2 w ∧ (fun w => D1 w ∧ (stS Try.prog (sBin .add 9 x97 x99) fun x100 =>
                      stS Try.prog (sBin .add 9 x100 (.string ⟨#[32]⟩)) fun x101 =>
                      stS Try.prog (sBin .add 9 x101 x41) fun x103 =>
                      K (.tuple #[x62, x85, x103])) w) w) w) w) w) w) w) w) w))) w) w) w) w) w) w) w) w) w) w) w)) w) w) w) w) w) w) w) w) w) w)) w) w) w) w) w) w) w) w))) w) w) w) w) w) w) w) w) w) w) w)) w) w) w) w) w) w))) w) w))
def ref09_Forms_an : Ann := { cuts := [(6, [9])], blks := [], loops := [], drs := [(6, [(0, 1), (1, 1), (2, 1), (4, 3), (5, 3), (3, 0), (6, 0), (7, 1), (8, 1)]), (7, [(0, 2), (1, 3), (2, 3), (3, 3), (4, 3), (5, 3), (6, 1), (7, 1), (11, 2), (14, 2), (17, 3), (8, 0), (9, 3), (10, 3), (12, 3), (13, 3), (15, 3), (16, 3), (18, 0), (19, 1), (20, 1), (21, 1)]), (8, [(0, 2), (1, 3), (2, 3), (3, 3), (4, 3), (5, 3), (6, 1), (7, 1), (11, 2), (14, 3), (15, 3), (19, 3), (8, 0), (9, 3), (10, 3), (12, 3), (13, 3), (16, 0), (17, 3), (18, 3), (20, 0), (21, 1), (22, 1), (23, 1)]), (9, [(0, 2), (1, 3), (2, 3), (3, 3), (4, 3), (5, 3), (6, 2), (7, 3), (8, 3), (9, 2), (10, 3), (11, 3), (12, 1), (16, 2), (13, 0), (14, 1), (15, 1), (17, 1), (18, 1)])] }
theorem ref09_Forms_eq (v0 : Value) (Kp : PK) (K : Value → WP) : cevF Try.prog ref09_Forms_an Try.f21 [v0] Kp K = ref09_Forms v0 Kp K := by kernel_rfl
theorem ref09_Forms_calls {v0 : Value} {Kp : PK} {K : Value → WP} {w : World} (h : ref09_Forms v0 Kp K w) : Calls Try.prog 21 #[v0] w (after Kp K) :=
  calls_of_shape (calls_of_cev wide Try.func21 (an := ref09_Forms_an) (args := [v0]) (cast (congrFun (ref09_Forms_eq v0 Kp K) w).symm h))
theorem ref09_Forms_cn {v0 : Value} {W : World} {α : Type} {A : List HP} {r : α → Value} {B : α → List HP} (h : ∀ F, Ent W (A ++ F) (ref09_Forms v0 noP fun v w => ∃ x, v = r x ∧ sat W (B x ++ F) w)) : Cn Try.prog 21 [v0] W A r B :=
  Cn.of (shape := ref09_Forms v0) Try.call21 (fun h => ref09_Forms_calls h) h
theorem ref09_Forms_cnP {v0 : Value} {W : World} {α β : Type} {A : List HP} {r : α → Value} {B : α → List HP} {pc : β → List PanicEntry} {Bp : β → List HP} (h : ∀ F, Ent W (A ++ F) (ref09_Forms v0 (fun ch w => ∃ y, ch = pc y ∧ sat W (Bp y ++ F) w) fun v w => ∃ x, v = r x ∧ sat W (B x ++ F) w)) : CnP Try.prog 21 [v0] W A r B pc Bp :=
  CnP.of (shape := ref09_Forms v0) Try.call21 (fun h => ref09_Forms_calls h) h

/-- dates_civil -/
def dates_civil (v0 : Value) (Kp : PK) (K : Value → WP) : WP :=
  opN Try.prog (sBin .add 3 v0 (.int .i64 719468)) Kp fun x11 =>
  opN Try.prog (sBin .quo 3 x11 (.int .i64 146097)) Kp fun x13 =>
  opN Try.prog (sBin .rem 3 x11 (.int .i64 146097)) Kp fun x15 =>
  opN Try.prog (sBin .quo 3 x15 (.int .i64 1460)) Kp fun x18 =>
  opN Try.prog (sBin .sub 3 x15 x18) Kp fun x19 =>
  opN Try.prog (sBin .quo 3 x15 (.int .i64 36524)) Kp fun x21 =>
  opN Try.prog (sBin .add 3 x19 x21) Kp fun x22 =>
  opN Try.prog (sBin .quo 3 x15 (.int .i64 146096)) Kp fun x24 =>
  opN Try.prog (sBin .sub 3 x22 x24) Kp fun x25 =>
  opN Try.prog (sBin .quo 3 x25 (.int .i64 365)) Kp fun x26 =>
  opN Try.prog (sBin .mul 3 (.int .i64 365) x26) Kp fun x29 =>
  opN Try.prog (sBin .quo 3 x26 (.int .i64 4)) Kp fun x31 =>
  opN Try.prog (sBin .add 3 x29 x31) Kp fun x32 =>
  opN Try.prog (sBin .quo 3 x26 (.int .i64 100)) Kp fun x34 =>
  opN Try.prog (sBin .sub 3 x32 x34) Kp fun x35 =>
  opN Try.prog (sBin .sub 3 x15 x35) Kp fun x36 =>
  opN Try.prog (sBin .mul 3 (.int .i64 5) x36) Kp fun x38 =>
  opN Try.prog (sBin .add 3 x38 (.int .i64 2)) Kp fun x39 =>
  opN Try.prog (sBin .quo 3 x39 (.int .i64 153)) Kp fun x40 =>
  opN Try.prog (sBin .mul 3 x13 (.int .i64 400)) Kp fun x42 =>
  opN Try.prog (sBin .add 3 x42 x26) Kp fun x44 =>
  opN Try.prog (sBin .add 3 x40 (.int .i64 2)) Kp fun x46 =>
  opN Try.prog (sBin .rem 3 x46 (.int .i64 12)) Kp fun x47 =>
  opN Try.prog (sBin .add 3 x47 (.int .i64 1)) Kp fun x48 =>
  opN Try.prog (sBin .mul 3 (.int .i64 153) x40) Kp fun x51 =>
  opN Try.prog (sBin .add 3 x51 (.int .i64 2)) Kp fun x52 =>
  opN Try.prog (sBin .quo 3 x52 (.int .i64 5)) Kp fun x53 =>
  opN Try.prog (sBin .sub 3 x36 x53) Kp fun x54 =>
  opN Try.prog (sBin .add 3 x54 (.int .i64 1)) Kp fun x55 =>
  cut1 (fun J1 =>
   opN Try.prog (sBin .leq 3 x48 (.int .i64 2)) Kp fun x57 =>
   condS x57
   (opN Try.prog (sBin .add 3 x44 (.int .i64 1)) Kp fun x59 =>
    J1 x59)
   (J1 x44)) fun _ z2 =>
  K (.tuple #[z2, x48, x55])
def dates_civil_an : Ann := { cuts := [(9, [2])], blks := [], loops := [], drs := [] }
theorem dates_civil_eq (v0 : Value) (Kp : PK) (K : Value → WP) : cevF Try.prog dates_civil_an Try.f22 [v0] Kp K = dates_civil v0 Kp K := by kernel_rfl
theorem dates_civil_calls {v0 : Value} {Kp : PK} {K : Value → WP} {w : World} (h : dates_civil v0 Kp K w) : Calls Try.prog 22 #[v0] w (after Kp K) :=
  calls_of_shape (calls_of_cev wide Try.func22 (an := dates_civil_an) (args := [v0]) (cast (congrFun (dates_civil_eq v0 Kp K) w).symm h))
theorem dates_civil_cn {v0 : Value} {W : World} {α : Type} {A : List HP} {r : α → Value} {B : α → List HP} (h : ∀ F, Ent W (A ++ F) (dates_civil v0 noP fun v w => ∃ x, v = r x ∧ sat W (B x ++ F) w)) : Cn Try.prog 22 [v0] W A r B :=
  Cn.of (shape := dates_civil v0) Try.call22 (fun h => dates_civil_calls h) h
theorem dates_civil_cnP {v0 : Value} {W : World} {α β : Type} {A : List HP} {r : α → Value} {B : α → List HP} {pc : β → List PanicEntry} {Bp : β → List HP} (h : ∀ F, Ent W (A ++ F) (dates_civil v0 (fun ch w => ∃ y, ch = pc y ∧ sat W (Bp y ++ F) w) fun v w => ∃ x, v = r x ∧ sat W (B x ++ F) w)) : CnP Try.prog 22 [v0] W A r B pc Bp :=
  CnP.of (shape := dates_civil v0) Try.call22 (fun h => dates_civil_calls h) h

/-- ref09_year -/
def ref09_year (v0 : Value) (Kp : PK) (K : Value → WP) : WP :=
  opN Try.prog (sCall (fn 39) [v0]) Kp fun x4 =>
  condS x4
  (K (.int .i64 366))
  (K (.int .i64 365))
def ref09_year_an : Ann := { cuts := [], blks := [], loops := [], drs := [] }
theorem ref09_year_eq (v0 : Value) (Kp : PK) (K : Value → WP) : cevF Try.prog ref09_year_an Try.f23 [v0] Kp K = ref09_year v0 Kp K := by kernel_rfl
theorem ref09_year_calls {v0 : Value} {Kp : PK} {K : Value → WP} {w : World} (h : ref09_year v0 Kp K w) : Calls Try.prog 23 #[v0] w (after Kp K) :=
  calls_of_shape (calls_of_cev wide Try.func23 (an := ref09_year_an) (args := [v0]) (cast (congrFun (ref09_year_eq v0 Kp K) w).symm h))
theorem ref09_year_cn {v0 : Value} {W : World} {α : Type} {A : List HP} {r : α → Value} {B : α → List HP} (h : ∀ F, Ent W (A ++ F) (ref09_year v0 noP fun v w => ∃ x, v = r x ∧ sat W (B x ++ F) w)) : Cn Try.prog 23 [v0] W A r B :=
  Cn.of (shape := ref09_year v0) Try.call23 (fun h => ref09_year_calls h) h
theorem ref09_year_cnP {v0 : Value} {W : World} {α β : Type} {A : List HP} {r : α → Value} {B : α → List HP} {pc : β → List PanicEntry} {Bp : β → List HP} (h : ∀ F, Ent W (A ++ F) (ref09_year v0 (fun ch w => ∃ y, ch = pc y ∧ sat W (Bp y ++ F) w) fun v w => ∃ x, v = r x ∧ sat W (B x ++ F) w)) : CnP Try.prog 23 [v0] W A r B pc Bp :=
  CnP.of (shape := ref09_year v0) Try.call23 (fun h => ref09_year_calls h) h

/-- ref09_days -/
def ref09_days (v0 v1 : Value) (Kp : PK) (K : Value → WP) : WP :=
  opN Try.prog (sEq .eql 3 (.tmp 5) (.const (.int .i64 2)) v1 (.int .i64 2)) Kp fun x7 =>
  condS x7
  (opN Try.prog (sCall (fn 39) [v0]) Kp fun x9 =>
   condS x9
   (K (.int .i64 29))
   (K (.int .i64 28)))
  (opN Try.prog (sEq .eql 3 (.tmp 5) (.const (.int .i64 4)) v1 (.int .i64 4)) Kp fun x11 =>
   condS x11
   (condS x11
    (K (.int .i64 30))
    (K (.int .i64 31)))
   (opN Try.prog (sEq .eql 3 (.tmp 5) (.const (.int .i64 6)) v1 (.int .i64 6)) Kp fun x12 =>
    condS x12
    (condS x12
     (K (.int .i64 30))
     (K (.int .i64 31)))
    (opN Try.prog (sEq .eql 3 (.tmp 5) (.const (.int .i64 9)) v1 (.int .i64 9)) Kp fun x13 =>
     condS x13
     (condS x13
      (K (.int .i64 30))
      (K (.int .i64 31)))
     (opN Try.prog (sEq .eql 3 (.tmp 5) (.const (.int .i64 11)) v1 (.int .i64 11)) Kp fun x14 =>
      condS x14
      (K (.int .i64 30))
      (K (.int .i64 31))))))
def ref09_days_an : Ann := { cuts := [], blks := [], loops := [], drs := [] }
theorem ref09_days_eq (v0 v1 : Value) (Kp : PK) (K : Value → WP) : cevF Try.prog ref09_days_an Try.f24 [v0, v1] Kp K = ref09_days v0 v1 Kp K := by kernel_rfl
theorem ref09_days_calls {v0 v1 : Value} {Kp : PK} {K : Value → WP} {w : World} (h : ref09_days v0 v1 Kp K w) : Calls Try.prog 24 #[v0, v1] w (after Kp K) :=
  calls_of_shape (calls_of_cev wide Try.func24 (an := ref09_days_an) (args := [v0, v1]) (cast (congrFun (ref09_days_eq v0 v1 Kp K) w).symm h))
theorem ref09_days_cn {v0 v1 : Value} {W : World} {α : Type} {A : List HP} {r : α → Value} {B : α → List HP} (h : ∀ F, Ent W (A ++ F) (ref09_days v0 v1 noP fun v w => ∃ x, v = r x ∧ sat W (B x ++ F) w)) : Cn Try.prog 24 [v0, v1] W A r B :=
  Cn.of (shape := ref09_days v0 v1) Try.call24 (fun h => ref09_days_calls h) h
theorem ref09_days_cnP {v0 v1 : Value} {W : World} {α β : Type} {A : List HP} {r : α → Value} {B : α → List HP} {pc : β → List PanicEntry} {Bp : β → List HP} (h : ∀ F, Ent W (A ++ F) (ref09_days v0 v1 (fun ch w => ∃ y, ch = pc y ∧ sat W (Bp y ++ F) w) fun v w => ∃ x, v = r x ∧ sat W (B x ++ F) w)) : CnP Try.prog 24 [v0, v1] W A r B pc Bp :=
  CnP.of (shape := ref09_days v0 v1) Try.call24 (fun h => ref09_days_calls h) h

/-- dates_Join_1 -/
def dates_Join_1 (v0 v1 v2 : Value) (Kp : PK) (K : Value → WP) : WP :=
  opN Try.prog (sBin .geq 3 v0 v1) Kp fun x9 =>
  gdK x9 true (fun k => k v0) fun x11 =>
  gdK x9 true (fun k => k v2) fun x12 =>
  gdK x9 true (opN Try.prog (sBin .leq 3 x11 x12) Kp) fun x13 =>
  opN Try.prog (sPick x9 x13 (.bool false)) Kp fun x14 =>
  K x14
def dates_Join_1_an : Ann := { cuts := [], blks := [], loops := [], drs := [] }
theorem dates_Join_1_eq (v0 v1 v2 : Value) (Kp : PK) (K : Value → WP) : cevF Try.prog dates_Join_1_an Try.f25 [v0, v1, v2] Kp K = dates_Join_1 v0 v1 v2 Kp K := by kernel_rfl
theorem dates_Join_1_calls {v0 v1 v2 : Value} {Kp : PK} {K : Value → WP} {w : World} (h : dates_Join_1 v0 v1 v2 Kp K w) : Calls Try.prog 25 #[v0, v1, v2] w (after Kp K) :=
  calls_of_shape (calls_of_cev wide Try.func25 (an := dates_Join_1_an) (args := [v0, v1, v2]) (cast (congrFun (dates_Join_1_eq v0 v1 v2 Kp K) w).symm h))
theorem dates_Join_1_cn {v0 v1 v2 : Value} {W : World} {α : Type} {A : List HP} {r : α → Value} {B : α → List HP} (h : ∀ F, Ent W (A ++ F) (dates_Join_1 v0 v1 v2 noP fun v w => ∃ x, v = r x ∧ sat W (B x ++ F) w)) : Cn Try.prog 25 [v0, v1, v2] W A r B :=
  Cn.of (shape := dates_Join_1 v0 v1 v2) Try.call25 (fun h => dates_Join_1_calls h) h
theorem dates_Join_1_cnP {v0 v1 v2 : Value} {W : World} {α β : Type} {A : List HP} {r : α → Value} {B : α → List HP} {pc : β → List PanicEntry} {Bp : β → List HP} (h : ∀ F, Ent W (A ++ F) (dates_Join_1 v0 v1 v2 (fun ch w => ∃ y, ch = pc y ∧ sat W (Bp y ++ F) w) fun v w => ∃ x, v = r x ∧ sat W (B x ++ F) w)) : CnP Try.prog 25 [v0, v1, v2] W A r B pc Bp :=
  CnP.of (shape := dates_Join_1 v0 v1 v2) Try.call25 (fun h => dates_Join_1_calls h) h

/-- dates_days -/
def dates_days (v0 v1 v2 : Value) (Kp : PK) (K : Value → WP) : WP :=
  cut1 (fun J1 =>
   opN Try.prog (sBin .leq 3 v1 (.int .i64 2)) Kp fun x11 =>
   condS x11
   (opN Try.prog (sBin .sub 3 v0 (.int .i64 1)) Kp fun x13 =>
    J1 x13)
   (J1 v0)) fun _ z0 =>
  opN Try.prog (sBin .quo 3 z0 (.int .i64 400)) Kp fun x15 =>
  opN Try.prog (sBin .rem 3 z0 (.int .i64 400)) Kp fun x17 =>
  opN Try.prog (sBin .add 3 v1 (.int .i64 9)) Kp fun x19 =>
  opN Try.prog (sBin .rem 3 x19 (.int .i64 12)) Kp fun x20 =>
  opN Try.prog (sBin .mul 3 (.int .i64 153) x20) Kp fun x21 =>
  opN Try.prog (sBin .add 3 x21 (.int .i64 2)) Kp fun x22 =>
  opN Try.prog (sBin .quo 3 x22 (.int .i64 5)) Kp fun x23 =>
  opN Try.prog (sBin .add 3 x23 v2) Kp fun x25 =>
  opN Try.prog (sBin .sub 3 x25 (.int .i64 1)) Kp fun x26 =>
  opN Try.prog (sBin .mul 3 x15 (.int .i64 146097)) Kp fun x28 =>
  opN Try.prog (sBin .mul 3 x17 (.int .i64 365)) Kp fun x30 =>
  opN Try.prog (sBin .add 3 x28 x30) Kp fun x31 =>
  opN Try.prog (sBin .quo 3 x17 (.int .i64 4)) Kp fun x33 =>
  opN Try.prog (sBin .add 3 x31 x33) Kp fun x34 =>
  opN Try.prog (sBin .quo 3 x17 (.int .i64 100)) Kp fun x36 =>
  opN Try.prog (sBin .sub 3 x34 x36) Kp fun x37 =>
  opN Try.prog (sBin .add 3 x37 x26) Kp fun x39 =>
  opN Try.prog (sBin .sub 3 x39 (.int .i64 719468)) Kp fun x40 =>
  K x40
def dates_days_an : Ann := { cuts := [(3, [0])], blks := [], loops := [], drs := [] }
theorem dates_days_eq (v0 v1 v2 : Value) (Kp : PK) (K : Value → WP) : cevF Try.prog dates_days_an Try.f26 [v0, v1, v2] Kp K = dates_days v0 v1 v2 Kp K := by kernel_rfl
theorem dates_days_calls {v0 v1 v2 : Value} {Kp : PK} {K : Value → WP} {w : World} (h : dates_days v0 v1 v2 Kp K w) : Calls Try.prog 26 #[v0, v1, v2] w (after Kp K) :=
  calls_of_shape (calls_of_cev wide Try.func26 (an := dates_days_an) (args := [v0, v1, v2]) (cast (congrFun (dates_days_eq v0 v1 v2 Kp K) w).symm h))
theorem dates_days_cn {v0 v1 v2 : Value} {W : World} {α : Type} {A : List HP} {r : α → Value} {B : α → List HP} (h : ∀ F, Ent W (A ++ F) (dates_days v0 v1 v2 noP fun v w => ∃ x, v = r x ∧ sat W (B x ++ F) w)) : Cn Try.prog 26 [v0, v1, v2] W A r B :=
  Cn.of (shape := dates_days v0 v1 v2) Try.call26 (fun h => dates_days_calls h) h
theorem dates_days_cnP {v0 v1 v2 : Value} {W : World} {α β : Type} {A : List HP} {r : α → Value} {B : α → List HP} {pc : β → List PanicEntry} {Bp : β → List HP} (h : ∀ F, Ent W (A ++ F) (dates_days v0 v1 v2 (fun ch w => ∃ y, ch = pc y ∧ sat W (Bp y ++ F) w) fun v w => ∃ x, v = r x ∧ sat W (B x ++ F) w)) : CnP Try.prog 26 [v0, v1, v2] W A r B pc Bp :=
  CnP.of (shape := dates_days v0 v1 v2) Try.call26 (fun h => dates_days_calls h) h

/-- dates_Date_form -/
def dates_Date_form (v0 v1 : Value) (Kp : PK) (K : Value → WP) : WP :=
  opN Try.prog (sBox 24 v0) Kp fun x2 =>
  drS (stD Try.prog (sFA 24 x2 6) fun D1 x8 =>
   stD Try.prog (sLoad 3 x8) fun D2 x9 =>
   stD Try.prog (sFA 24 x2 1) fun D5 x12 =>
   stD Try.prog (sLoad 3 x12) fun D6 x13 =>
   stD Try.prog (sBin .sub 3 x13 (.int .i64 1)) fun D7 x14 =>
   opN Try.prog (sCall (fn 40) []) Kp fun x7 =>
   (fun w => D7 w ∧ (fun w => D6 w ∧ (fun w => D5 w ∧ (fun w => D2 w ∧ (fun w => D1 w ∧ (stD Try.prog (sIx 69 x7 x9) fun D3 x10 =>
         opN Try.prog (sCall (fn 41) []) Kp fun x11 =>
         (fun w => D3 w ∧ (fun w => D7 w ∧ (fun w => D6 w ∧ (fun w => D5 w ∧ (fun w => D2 w ∧ (fun w => D1 w ∧ (stS Try.prog (sIx 71 x11 x14) fun x15 =>
                opN Try.prog (sEq .eql 3 (.tmp 16) (.const (.int .i64 0)) v1 (.int .i64 0)) Kp fun x18 =>
                condS x18
                (drS (stD Try.prog (sSl 9 x10 none (some (.int .i64 3)) none) fun D1 x20 =>
                  stD Try.prog (sBin .add 9 x20 (.string ⟨#[44, 32]⟩)) fun D2 x21 =>
                  stS Try.prog (sFA 24 x2 2) fun x22 =>
                  stS Try.prog (sLoad 3 x22) fun x23 =>
                  stD Try.prog (sFA 24 x2 0) fun D11 x30 =>
                  stD Try.prog (sLoad 3 x30) fun D12 x31 =>
                  stD Try.prog (sLoad 24 x2) fun D16 x35 =>
                  opN Try.prog (sCall (fn 42) [x23, (.int .i64 2), (.int .u8 48)]) Kp fun x24 =>
                  (fun w => D16 w ∧ (fun w => D12 w ∧ (fun w => D11 w ∧ (fun w => D2 w ∧ (fun w => D1 w ∧ (stD Try.prog (sBin .add 9 x21 x24) fun D6 x25 =>
                      stD Try.prog (sBin .add 9 x25 (.string ⟨#[32]⟩)) fun D7 x26 =>
                      stD Try.prog (sBin .add 9 x26 x15) fun D9 x28 =>
                      stD Try.prog (sBin .add 9 x28 (.string ⟨#[32]⟩)) fun D10 x29 =>
                      opN Try.prog (sCall (fn 42) [x31, (.int .i64 4), (.int .u8 48)]) Kp fun x32 =>
                      (fun w => D10 w ∧ (fun w => D9 w ∧ (fun w => D7 w ∧ (fun w => D6 w ∧ (fun w => D16 w ∧ (fun w => D2 w ∧ (fun w => D1 w ∧ (stD Try.prog (sBin .add 9 x29 x32) fun D14 x33 =>
                      stD Try.prog (sBin .add 9 x33 (.string ⟨#[32]⟩)) fun D15 x34 =>
                      opN Try.prog (sCall (fn 43) [x35]) Kp fun x36 =>
                      (fun w => D15 w ∧ (fun w => D14 w ∧ (fun w => D10 w ∧ (fun w => D9 w ∧ (fun w => D7 w ∧ (fun w => D6 w ∧ (fun w => D2 w ∧ (fun w => D1 w ∧ (stS Try.prog (sBin .add 9 x34 x36) fun x37 =>
                      stS Try.prog (sBin .add 9 x37 (.string ⟨#[32, 71, 77, 84]⟩)) fun x38 =>
                      K x38) w) w) w) w) w) w) w) w)) w) w) w) w) w) w) w)) w) w) w) w) w)))
                (opN Try.prog (sEq .eql 3 (.tmp 16) (.const (.int .i64 1)) v1 (.int .i64 1)) Kp fun x40 =>
                 condS x40
                 (drS (stD Try.prog (sBin .add 9 x10 (.string ⟨#[44, 32]⟩)) fun D1 x42 =>
                   stS Try.prog (sFA 24 x2 2) fun x43 =>
                   stS Try.prog (sLoad 3 x43) fun x44 =>
                   stD Try.prog (sFA 24 x2 0) fun D10 x51 =>
                   stD Try.prog (sLoad 3 x51) fun D11 x52 =>
                   stD Try.prog (sBin .rem 3 x52 (.int .i64 100)) fun D12 x53 =>
                   stD Try.prog (sLoad 24 x2) fun D16 x57 =>
                   opN Try.prog (sCall (fn 42) [x44, (.int .i64 2), (.int .u8 48)]) Kp fun x45 =>
                   (fun w => D16 w ∧ (fun w => D12 w ∧ (fun w => D11 w ∧ (fun w => D10 w ∧ (fun w => D1 w ∧ (stD Try.prog (sBin .add 9 x42 x45) fun D5 x46 =>
                      stD Try.prog (sBin .add 9 x46 (.string ⟨#[45]⟩)) fun D6 x47 =>
                      stD Try.prog (sBin .add 9 x47 x15) fun D8 x49 =>
                      stD Try.prog (sBin .add 9 x49 (.string ⟨#[45]⟩)) fun D9 x50 =>
                      opN Try.prog (sCall (fn 42) [x53, (.int .i64 2), (.int .u8 48)]) Kp fun x54 =>
                      (fun w => D9 w ∧ (fun w => D8 w ∧ (fun w => D6 w ∧ (fun w => D5 w ∧ (fun w => D16 w ∧ (fun w => D1 w ∧ (stD Try.prog (sBin .add 9 x50 x54) fun D14 x55 =>
                      stD Try.prog (sBin .add 9 x55 (.string ⟨#[32]⟩)) fun D15 x56 =>
                      opN Try.prog (sCall (fn 43) [x57]) Kp fun x58 =>
                      (fun w => D15 w ∧ (fun w => D14 w ∧ (fun w => D9 w ∧ (fun w => D8 w ∧ (fun w => D6 w ∧ (fun w => D5 w ∧ (fun w => D1 w ∧ (stS Try.prog (sBin .add 9 x56 x58) fun x59 =>
                      stS Try.prog (sBin .add 9 x59 (.string ⟨#[32, 71, 77, 84]⟩)) fun x60 =>
                      K x60) w) w) w) w) w) w) w)) w) w) w) w) w) w)) w) w) w) w) w)))
                 (drS (stD Try.prog (sSl 9 x10 none (some (.int .i64 3)) none) fun D1 x62 =>
                   stD Try.prog (sBin .add 9 x62 (.string ⟨#[32]⟩)) fun D2 x63 =>
                   stD Try.prog (sBin .add 9 x63 x15) fun D4 x65 =>
                   stD Try.prog (sBin .add 9 x65 (.string ⟨#[32]⟩)) fun D5 x66 =>
                   stS Try.prog (sFA 24 x2 2) fun x67 =>
                   stS Try.prog (sLoad 3 x67) fun x68 =>
                   stD Try.prog (sLoad 24 x2) fun D11 x72 =>
                   stD Try.prog (sFA 24 x2 0) fun D15 x76 =>
                   stD Try.prog (sLoad 3 x76) fun D16 x77 =>
                   opN Try.prog (sCall (fn 42) [x68, (.int .i64 2), (.int .u8 32)]) Kp fun x69 =>
                   (fun w => D16 w ∧ (fun w => D15 w ∧ (fun w => D11 w ∧ (fun w => D5 w ∧ (fun w => D4 w ∧ (fun w => D2 w ∧ (fun w => D1 w ∧ (stD Try.prog (sBin .add 9 x66 x69) fun D9 x70 =>
                      stD Try.prog (sBin .add 9 x70 (.string ⟨#[32]⟩)) fun D10 x71 =>
                      opN Try.prog (sCall (fn 43) [x72]) Kp fun x73 =>
                      (fun w => D10 w ∧ (fun w => D9 w ∧ (fun w => D16 w ∧ (fun w => D15 w ∧ (fun w => D5 w ∧ (fun w => D4 w ∧ (fun w => D2 w ∧ (fun w => D1 w ∧ (stD Try.prog (sBin .add 9 x71 x73) fun D13 x74 =>
                      stD Try.prog (sBin .add 9 x74 (.string ⟨#[32]⟩)) fun D14 x75 =>
                      opN Try.prog (sCall (fn 42) [x77, (.int .i64 4), (.int .u8 48)]) Kp fun x78 =>
                      (fun w => D14 w ∧ (fun w => D13 w ∧ (fun w => D10 w ∧ (fun w => D9 w ∧ (fun w => D5 w ∧ (fun w => D4 w ∧ (fun w => D2 w ∧ (fun w => D1 w ∧ (stS Try.prog (sBin .add 9 x75 x78) fun x79 =>
                      K x79) w) w) w) w) w) w) w) w)) w) w) w) w) w) w) w) w)) w) w) w) w) w) w) w))))) w) w) w) w) w) w)) w) w) w) w) w))
def dates_Date_form_an : Ann := { cuts := [], blks := [], loops := [], drs := [(1, [(1, 3), (2, 3), (5, 3), (6, 3), (7, 3), (0, 0), (3, 3), (4, 0), (8, 1), (9, 1), (10, 1)]), (4, [(0, 2), (1, 3), (2, 3), (3, 1), (4, 1), (8, 2), (11, 3), (12, 3), (16, 3), (5, 0), (6, 3), (7, 3), (9, 3), (10, 3), (13, 0), (14, 3), (15, 3), (17, 0), (18, 1), (19, 1), (20, 1)]), (6, [(0, 2), (1, 3), (2, 1), (3, 1), (7, 2), (10, 3), (11, 3), (12, 3), (16, 3), (4, 0), (5, 3), (6, 3), (8, 3), (9, 3), (13, 0), (14, 3), (15, 3), (17, 0), (18, 1), (19, 1), (20, 1)]), (7, [(0, 2), (1, 3), (2, 3), (3, 2), (4, 3), (5, 3), (6, 1), (7, 1), (11, 3), (15, 3), (16, 3), (8, 0), (9, 3), (10, 3), (12, 0), (13, 3), (14, 3), (17, 0), (18, 1), (19, 1)])] }
theorem dates_Date_form_eq (v0 v1 : Value) (Kp : PK) (K : Value → WP) : cevF Try.prog dates_Date_form_an Try.f27 [v0, v1] Kp K = dates_Date_form v0 v1 Kp K := by kernel_rfl
theorem dates_Date_form_calls {v0 v1 : Value} {Kp : PK} {K : Value → WP} {w : World} (h : dates_Date_form v0 v1 Kp K w) : Calls Try.prog 27 #[v0, v1] w (after Kp K) :=
  calls_of_shape (calls_of_cev wide Try.func27 (an := dates_Date_form_an) (args := [v0, v1]) (cast (congrFun (dates_Date_form_eq v0 v1 Kp K) w).symm h))
theorem dates_Date_form_cn {v0 v1 : Value} {W : World} {α : Type} {A : List HP} {r : α → Value} {B : α → List HP} (h : ∀ F, Ent W (A ++ F) (dates_Date_form v0 v1 noP fun v w => ∃ x, v = r x ∧ sat W (B x ++ F) w)) : Cn Try.prog 27 [v0, v1] W A r B :=
  Cn.of (shape := dates_Date_form v0 v1) Try.call27 (fun h => dates_Date_form_calls h) h
theorem dates_Date_form_cnP {v0 v1 : Value} {W : World} {α β : Type} {A : List HP} {r : α → Value} {B : α → List HP} {pc : β → List PanicEntry} {Bp : β → List HP} (h : ∀ F, Ent W (A ++ F) (dates_Date_form v0 v1 (fun ch w => ∃ y, ch = pc y ∧ sat W (Bp y ++ F) w) fun v w => ∃ x, v = r x ∧ sat W (B x ++ F) w)) : CnP Try.prog 27 [v0, v1] W A r B pc Bp :=
  CnP.of (shape := dates_Date_form v0 v1) Try.call27 (fun h => dates_Date_form_calls h) h

/-- dates_reader_first -/
def dates_reader_first (v0 v1 : Value) (Kp : PK) (K : Value → WP) : WP :=
  opN Try.prog (sAlloc 24) Kp fun x4 =>
  opN Try.prog (sCall (fn 44) [v0, (.int .i64 5)]) Kp fun x6 =>
  opN Try.prog (sCall (fn 45) [v0, (.int .i64 2)]) Kp fun x8 =>
  opN Try.prog (sFA 24 x4 2) Kp fun x9 =>
  opN Try.prog (sStore 3 x9 x8) Kp fun _ =>
  opN Try.prog (sCall (fn 44) [v0, (.int .i64 1)]) Kp fun x11 =>
  opN Try.prog (sCall (fn 46) [v0]) Kp fun x13 =>
  opN Try.prog (sFA 24 x4 1) Kp fun x14 =>
  opN Try.prog (sStore 3 x14 x13) Kp fun _ =>
  opN Try.prog (sCall (fn 44) [v0, (.int .i64 1)]) Kp fun x16 =>
  opN Try.prog (sCall (fn 45) [v0, (.int .i64 4)]) Kp fun x18 =>
  opN Try.prog (sFA 24 x4 0) Kp fun x19 =>
  opN Try.prog (sStore 3 x19 x18) Kp fun _ =>
  opN Try.prog (sCall (fn 44) [v0, (.int .i64 1)]) Kp fun x21 =>
  opN Try.prog (sCall (fn 47) [v0, x4]) Kp fun x23 =>
  opN Try.prog (sLoad 24 x4) Kp fun x24 =>
  opN Try.prog (sStore 24 x4 x24) Kp fun _ =>
  (stS Try.prog (sRes 24 x4) fun r0 => K r0)
def dates_reader_first_an : Ann := { cuts := [], blks := [], loops := [], drs := [] }
theorem dates_reader_first_eq (v0 v1 : Value) (Kp : PK) (K : Value → WP) : cevF Try.prog dates_reader_first_an Try.f28 [v0, v1] Kp K = dates_reader_first v0 v1 Kp K := by kernel_rfl
theorem dates_reader_first_calls {v0 v1 : Value} {Kp : PK} {K : Value → WP} {w : World} (h : dates_reader_first v0 v1 Kp K w) : Calls Try.prog 28 #[v0, v1] w (after Kp K) :=
  calls_of_shape (calls_of_cev wide Try.func28 (an := dates_reader_first_an) (args := [v0, v1]) (cast (congrFun (dates_reader_first_eq v0 v1 Kp K) w).symm h))
theorem dates_reader_first_cn {v0 v1 : Value} {W : World} {α : Type} {A : List HP} {r : α → Value} {B : α → List HP} (h : ∀ F, Ent W (A ++ F) (dates_reader_first v0 v1 noP fun v w => ∃ x, v = r x ∧ sat W (B x ++ F) w)) : Cn Try.prog 28 [v0, v1] W A r B :=
  Cn.of (shape := dates_reader_first v0 v1) Try.call28 (fun h => dates_reader_first_calls h) h
theorem dates_reader_first_cnP {v0 v1 : Value} {W : World} {α β : Type} {A : List HP} {r : α → Value} {B : α → List HP} {pc : β → List PanicEntry} {Bp : β → List HP} (h : ∀ F, Ent W (A ++ F) (dates_reader_first v0 v1 (fun ch w => ∃ y, ch = pc y ∧ sat W (Bp y ++ F) w) fun v w => ∃ x, v = r x ∧ sat W (B x ++ F) w)) : CnP Try.prog 28 [v0, v1] W A r B pc Bp :=
  CnP.of (shape := dates_reader_first v0 v1) Try.call28 (fun h => dates_reader_first_calls h) h

/-- dates_reader_second -/
def dates_reader_second (v0 v1 : Value) (Kp : PK) (K : Value → WP) : WP :=
  opN Try.prog (sAlloc 24) Kp fun x4 =>
  opN Try.prog (sNil v0) Kp fun x12 =>
  opN Try.prog (sFA 80 x12 0) Kp fun x13 =>
  opN Try.prog (sLoad 9 x13) Kp fun x14 =>
  opN Try.prog (sBin .add 9 x14 (.string ⟨#[44]⟩)) Kp fun x15 =>
  opN Try.prog (sCall (fn 48) [x15, (.int .u8 44)]) Kp fun x16 =>
  opN Try.prog (sBin .add 3 x16 (.int .i64 2)) Kp fun x17 =>
  opN Try.prog (sCall (fn 44) [v0, x17]) Kp fun x18 =>
  opN Try.prog (sCall (fn 45) [v0, (.int .i64 2)]) Kp fun x20 =>
  opN Try.prog (sFA 24 x4 2) Kp fun x21 =>
  opN Try.prog (sStore 3 x21 x20) Kp fun _ =>
  opN Try.prog (sCall (fn 44) [v0, (.int .i64 1)]) Kp fun x23 =>
  opN Try.prog (sCall (fn 46) [v0]) Kp fun x25 =>
  opN Try.prog (sFA 24 x4 1) Kp fun x26 =>
  opN Try.prog (sStore 3 x26 x25) Kp fun _ =>
  opN Try.prog (sCall (fn 44) [v0, (.int .i64 1)]) Kp fun x28 =>
  opN Try.prog (sCall (fn 45) [v0, (.int .i64 2)]) Kp fun x30 =>
  opN Try.prog (sCall (fn 44) [v0, (.int .i64 1)]) Kp fun x32 =>
  opN Try.prog (sCall (fn 47) [v0, x4]) Kp fun x34 =>
  cut1 (fun J1 =>
   opN Try.prog (sCall (fn 9) [v1]) Kp fun x37 =>
   opN Try.prog (sExt x37 0) Kp fun x38 =>
   opN Try.prog (sExt x37 1) Kp fun x39 =>
   opN Try.prog (sAlloc 24) Kp fun x7 =>
   opN Try.prog (sStore 24 x7 x38) Kp fun _ =>
   opN Try.prog (sEq .eql 25 (.tmp 40) (.const (.int .i64 0)) x39 (.int .i64 0)) Kp fun x41 =>
   condS x41
   (opN Try.prog (sFA 24 x7 0) Kp fun x42 =>
    opN Try.prog (sLoad 3 x42) Kp fun x43 =>
    J1 x43)
   (J1 (.int .i64 1970))) fun _ z6 =>
  opN Try.prog (sBin .add 3 z6 (.int .i64 50)) Kp fun x45 =>
  opN Try.prog (sMin #[3, 3] 3 [x45, (.int .i64 9999)]) Kp fun x46 =>
  opN Try.prog (sBin .sub 3 x46 x30) Kp fun x50 =>
  opN Try.prog (sBin .add 3 x50 (.int .i64 10000)) Kp fun x51 =>
  opN Try.prog (sBin .rem 3 x51 (.int .i64 100)) Kp fun x52 =>
  opN Try.prog (sBin .sub 3 x46 x52) Kp fun x53 =>
  opN Try.prog (sFA 24 x4 0) Kp fun x54 =>
  opN Try.prog (sStore 3 x54 x53) Kp fun _ =>
  opN Try.prog (sLoad 24 x4) Kp fun x55 =>
  opN Try.prog (sStore 24 x4 x55) Kp fun _ =>
  (stS Try.prog (sRes 24 x4) fun r0 => K r0)
def dates_reader_second_an : Ann := { cuts := [(13, [6])], blks := [], loops := [], drs := [] }
theorem dates_reader_second_eq (v0 v1 : Value) (Kp : PK) (K : Value → WP) : cevF Try.prog dates_reader_second_an Try.f29 [v0, v1] Kp K = dates_reader_second v0 v1 Kp K := by kernel_rfl
theorem dates_reader_second_calls {v0 v1 : Value} {Kp : PK} {K : Value → WP} {w : World} (h : dates_reader_second v0 v1 Kp K w) : Calls Try.prog 29 #[v0, v1] w (after Kp K) :=
  calls_of_shape (calls_of_cev wide Try.func29 (an := dates_reader_second_an) (args := [v0, v1]) (cast (congrFun (dates_reader_second_eq v0 v1 Kp K) w).symm h))
theorem dates_reader_second_cn {v0 v1 : Value} {W : World} {α : Type} {A : List HP} {r : α → Value} {B : α → List HP} (h : ∀ F, Ent W (A ++ F) (dates_reader_second v0 v1 noP fun v w => ∃ x, v = r x ∧ sat W (B x ++ F) w)) : Cn Try.prog 29 [v0, v1] W A r B :=
  Cn.of (shape := dates_reader_second v0 v1) Try.call29 (fun h => dates_reader_second_calls h) h
theorem dates_reader_second_cnP {v0 v1 : Value} {W : World} {α β : Type} {A : List HP} {r : α → Value} {B : α → List HP} {pc : β → List PanicEntry} {Bp : β → List HP} (h : ∀ F, Ent W (A ++ F) (dates_reader_second v0 v1 (fun ch w => ∃ y, ch = pc y ∧ sat W (Bp y ++ F) w) fun v w => ∃ x, v = r x ∧ sat W (B x ++ F) w)) : CnP Try.prog 29 [v0, v1] W A r B pc Bp :=
  CnP.of (shape := dates_reader_second v0 v1) Try.call29 (fun h => dates_reader_second_calls h) h

/-- dates_reader_third -/
def dates_reader_third (v0 v1 : Value) (Kp : PK) (K : Value → WP) : WP :=
  opN Try.prog (sAlloc 24) Kp fun x4 =>
  opN Try.prog (sCall (fn 44) [v0, (.int .i64 4)]) Kp fun x6 =>
  opN Try.prog (sCall (fn 46) [v0]) Kp fun x8 =>
  opN Try.prog (sFA 24 x4 1) Kp fun x9 =>
  opN Try.prog (sStore 3 x9 x8) Kp fun _ =>
  opN Try.prog (sCall (fn 44) [v0, (.int .i64 1)]) Kp fun x11 =>
  opN Try.prog (sCall (fn 45) [v0, (.int .i64 2)]) Kp fun x13 =>
  opN Try.prog (sFA 24 x4 2) Kp fun x14 =>
  opN Try.prog (sStore 3 x14 x13) Kp fun _ =>
  opN Try.prog (sCall (fn 44) [v0, (.int .i64 1)]) Kp fun x16 =>
  opN Try.prog (sCall (fn 47) [v0, x4]) Kp fun x18 =>
  opN Try.prog (sCall (fn 44) [v0, (.int .i64 1)]) Kp fun x20 =>
  opN Try.prog (sCall (fn 45) [v0, (.int .i64 4)]) Kp fun x22 =>
  opN Try.prog (sFA 24 x4 0) Kp fun x23 =>
  opN Try.prog (sStore 3 x23 x22) Kp fun _ =>
  opN Try.prog (sLoad 24 x4) Kp fun x24 =>
  opN Try.prog (sStore 24 x4 x24) Kp fun _ =>
  (stS Try.prog (sRes 24 x4) fun r0 => K r0)
def dates_reader_third_an : Ann := { cuts := [], blks := [], loops := [], drs := [] }
theorem dates_reader_third_eq (v0 v1 : Value) (Kp : PK) (K : Value → WP) : cevF Try.prog dates_reader_third_an Try.f30 [v0, v1] Kp K = dates_reader_third v0 v1 Kp K := by kernel_rfl
theorem dates_reader_third_calls {v0 v1 : Value} {Kp : PK} {K : Value → WP} {w : World} (h : dates_reader_third v0 v1 Kp K w) : Calls Try.prog 30 #[v0, v1] w (after Kp K) :=
  calls_of_shape (calls_of_cev wide Try.func30 (an := dates_reader_third_an) (args := [v0, v1]) (cast (congrFun (dates_reader_third_eq v0 v1 Kp K) w).symm h))
theorem dates_reader_third_cn {v0 v1 : Value} {W : World} {α : Type} {A : List HP} {r : α → Value} {B : α → List HP} (h : ∀ F, Ent W (A ++ F) (dates_reader_third v0 v1 noP fun v w => ∃ x, v = r x ∧ sat W (B x ++ F) w)) : Cn Try.prog 30 [v0, v1] W A r B :=
  Cn.of (shape := dates_reader_third v0 v1) Try.call30 (fun h => dates_reader_third_calls h) h
theorem dates_reader_third_cnP {v0 v1 : Value} {W : World} {α β : Type} {A : List HP} {r : α → Value} {B : α → List HP} {pc : β → List PanicEntry} {Bp : β → List HP} (h : ∀ F, Ent W (A ++ F) (dates_reader_third v0 v1 (fun ch w => ∃ y, ch = pc y ∧ sat W (Bp y ++ F) w) fun v w => ∃ x, v = r x ∧ sat W (B x ++ F) w)) : CnP Try.prog 30 [v0, v1] W A r B pc Bp :=
  CnP.of (shape := dates_reader_third v0 v1) Try.call30 (fun h => dates_reader_third_calls h) h

/-- dates_try -/
def dates_try_ret (p0 p1 : Value) (K : Value → WP) : WP :=
  (stS Try.prog (sRes 3 p0) fun r0 => (stS Try.prog (sRes 4 p1) fun r1 => K (.tuple #[r0, r1])))
def dates_try (v0 v1 v2 v3 : Value) (Kp : PK) (K : Value → WP) : WP :=
  opN Try.prog (sAlloc 3) Kp fun x8 =>
  opN Try.prog (sAlloc 4) Kp fun x9 =>
  opN Try.prog (sMkF (.func 49) [] [x8, x9]) Kp fun x13 =>
  opDf x13 [] fun d1 =>
  opN Try.prog (sBuild 80 [(0, v0)]) (KpD Try.prog d1 (dates_try_ret x8 x9 K) Kp) fun x17 =>
  opN Try.prog (sBox 80 x17) (KpD Try.prog d1 (dates_try_ret x8 x9 K) Kp) fun x18 =>
  opN Try.prog (sCall v3 [x18, v2]) (KpD Try.prog d1 (dates_try_ret x8 x9 K) Kp) fun x20 =>
  opN Try.prog (sCall (fn 11) [x20]) (KpD Try.prog d1 (dates_try_ret x8 x9 K) Kp) fun x21 =>
  opN Try.prog (sExt x21 0) (KpD Try.prog d1 (dates_try_ret x8 x9 K) Kp) fun x22 =>
  opN Try.prog (sExt x21 1) (KpD Try.prog d1 (dates_try_ret x8 x9 K) Kp) fun x23 =>
  opN Try.prog (sStore 3 x8 x22) (KpD Try.prog d1 (dates_try_ret x8 x9 K) Kp) fun _ =>
  opN Try.prog (sLoad 3 x8) (KpD Try.prog d1 (dates_try_ret x8 x9 K) Kp) fun x25 =>
  opN Try.prog (sCall (fn 9) [x25]) (KpD Try.prog d1 (dates_try_ret x8 x9 K) Kp) fun x26 =>
  opN Try.prog (sExt x26 0) (KpD Try.prog d1 (dates_try_ret x8 x9 K) Kp) fun x27 =>
  opN Try.prog (sExt x26 1) (KpD Try.prog d1 (dates_try_ret x8 x9 K) Kp) fun x28 =>
  opN Try.prog (sAlloc 24) (KpD Try.prog d1 (dates_try_ret x8 x9 K) Kp) fun x11 =>
  opN Try.prog (sStore 24 x11 x27) (KpD Try.prog d1 (dates_try_ret x8 x9 K) Kp) fun _ =>
  opN Try.prog (sEq .neq 25 (.tmp 29) (.const (.int .i64 0)) x23 (.int .i64 0)) (KpD Try.prog d1 (dates_try_ret x8 x9 K) Kp) fun x30 =>
  gdK x30 false (opN Try.prog (sLoad 24 x11) (KpD Try.prog d1 (dates_try_ret x8 x9 K) Kp)) fun x32 =>
  gdK x30 false (fun k => k v1) fun x33 =>
  gdK x30 false (opN Try.prog (sCall (fn 27) [x32, x33]) (KpD Try.prog d1 (dates_try_ret x8 x9 K) Kp)) fun x34 =>
  gdK x30 false (fun k => k v0) fun x35 =>
  gdK x30 false (opN Try.prog (sEq .neq 9 (.tmp 34) (.tmp 35) x34 x35) (KpD Try.prog d1 (dates_try_ret x8 x9 K) Kp)) fun x36 =>
  opN Try.prog (sPick x30 (.bool true) x36) (KpD Try.prog d1 (dates_try_ret x8 x9 K) Kp) fun x37 =>
  condS x37
  (opN Try.prog (sStore 3 x8 (.int .i64 0)) (KpD Try.prog d1 (dates_try_ret x8 x9 K) Kp) fun _ =>
   opN Try.prog (sStore 4 x9 (.bool false)) (KpD Try.prog d1 (dates_try_ret x8 x9 K) Kp) fun _ =>
   dfS Try.prog d1 .returning (dates_try_ret x8 x9 K) Kp)
  (opN Try.prog (sLoad 3 x8) (KpD Try.prog d1 (dates_try_ret x8 x9 K) Kp) fun x38 =>
   opN Try.prog (sStore 3 x8 x38) (KpD Try.prog d1 (dates_try_ret x8 x9 K) Kp) fun _ =>
   opN Try.prog (sStore 4 x9 (.bool true)) (KpD Try.prog d1 (dates_try_ret x8 x9 K) Kp) fun _ =>
   dfS Try.prog d1 .returning (dates_try_ret x8 x9 K) Kp)
def dates_try_an : Ann := { cuts := [], blks := [], loops := [], drs := [] }
theorem dates_try_eq (v0 v1 v2 v3 : Value) (Kp : PK) (K : Value → WP) : cevFD Try.prog dates_try_an Try.f31 [v0, v1, v2, v3] Kp K = dates_try v0 v1 v2 v3 Kp K := by kernel_rfl
theorem dates_try_calls {v0 v1 v2 v3 : Value} {Kp : PK} {K : Value → WP} {w : World} (h : dates_try v0 v1 v2 v3 Kp K w) : Calls Try.prog 31 #[v0, v1, v2, v3] w (after Kp K) :=
  calls_of_shape (calls_of_cevD wide Try.func31 (an := dates_try_an) (args := [v0, v1, v2, v3]) (cast (congrFun (dates_try_eq v0 v1 v2 v3 Kp K) w).symm h))
theorem dates_try_cn {v0 v1 v2 v3 : Value} {W : World} {α : Type} {A : List HP} {r : α → Value} {B : α → List HP} (h : ∀ F, Ent W (A ++ F) (dates_try v0 v1 v2 v3 noP fun v w => ∃ x, v = r x ∧ sat W (B x ++ F) w)) : Cn Try.prog 31 [v0, v1, v2, v3] W A r B :=
  Cn.of (shape := dates_try v0 v1 v2 v3) Try.call31 (fun h => dates_try_calls h) h
theorem dates_try_cnP {v0 v1 v2 v3 : Value} {W : World} {α β : Type} {A : List HP} {r : α → Value} {B : α → List HP} {pc : β → List PanicEntry} {Bp : β → List HP} (h : ∀ F, Ent W (A ++ F) (dates_try v0 v1 v2 v3 (fun ch w => ∃ y, ch = pc y ∧ sat W (Bp y ++ F) w) fun v w => ∃ x, v = r x ∧ sat W (B x ++ F) w)) : CnP Try.prog 31 [v0, v1, v2, v3] W A r B pc Bp :=
  CnP.of (shape := dates_try v0 v1 v2 v3) Try.call31 (fun h => dates_try_calls h) h

/-- ref09_same -/
def ref09_same (v0 v1 v2 : Value) (Kp : PK) (K : Value → WP) : WP :=
  opN Try.prog (sBox 23 v1) Kp fun x4 =>
  opN Try.prog (sLoad 23 x4) Kp fun x14 =>
  opN Try.prog (sCall (fn 12) [x14]) Kp fun x15 =>
  opN Try.prog (sExt x15 0) Kp fun x16 =>
  opN Try.prog (sExt x15 1) Kp fun x17 =>
  opN Try.prog (sEq .neq 3 (.tmp 18) (.const (.int .i64 0)) x17 (.int .i64 0)) Kp fun x19 =>
  condS x19
  (K (.tuple #[(.int .i64 0), (.int .i64 41)]))
  (opN Try.prog (sCall (fn 10) [x16]) Kp fun x22 =>
   opN Try.prog (sExt x22 0) Kp fun x23 =>
   opN Try.prog (sExt x22 1) Kp fun x24 =>
   opN Try.prog (sStore 23 x4 x23) Kp fun _ =>
   opN Try.prog (sLoad 23 x4) Kp fun x26 =>
   opN Try.prog (sCall (fn 21) [x26]) Kp fun x27 =>
   opN Try.prog (sExt x27 0) Kp fun x28 =>
   opN Try.prog (sExt x27 1) Kp fun x29 =>
   opN Try.prog (sExt x27 2) Kp fun x30 =>
   opN Try.prog (sEq .eql 3 (.tmp 31) (.const (.int .i64 1)) v2 (.int .i64 1)) Kp fun x32 =>
   gdK x32 true (fun k => k v0) fun x34 =>
   gdK x32 true (fun k => k x28) fun x35 =>
   gdK x32 true (opN Try.prog (sEq .neq 9 (.tmp 34) (.tmp 35) x34 x35) Kp) fun x36 =>
   opN Try.prog (sPick x32 x36 (.bool false)) Kp fun x37 =>
   gdK x37 false (fun k => k v2) fun x39 =>
   gdK x37 false (opN Try.prog (sEq .eql 3 (.tmp 39) (.const (.int .i64 2)) x39 (.int .i64 2)) Kp) fun x40 =>
   gdK x37 false (fun k => k x40) fun x41 =>
   gdK x41 true (fun k => k v0) fun x42 =>
   gdK x41 true (fun k => k x29) fun x43 =>
   gdK x41 true (opN Try.prog (sEq .neq 9 (.tmp 42) (.tmp 43) x42 x43) Kp) fun x44 =>
   gdK x37 false (opN Try.prog (sPick x41 x44 (.bool false)) Kp) fun x45 =>
   opN Try.prog (sPick x37 (.bool true) x45) Kp fun x46 =>
   gdK x46 false (fun k => k v2) fun x48 =>
   gdK x46 false (opN Try.prog (sEq .eql 3 (.tmp 48) (.const (.int .i64 3)) x48 (.int .i64 3)) Kp) fun x49 =>
   gdK x46 false (fun k => k x49) fun x50 =>
   gdK x50 true (fun k => k v0) fun x51 =>
   gdK x50 true (fun k => k x30) fun x52 =>
   gdK x50 true (opN Try.prog (sEq .neq 9 (.tmp 51) (.tmp 52) x51 x52) Kp) fun x53 =>
   gdK x46 false (opN Try.prog (sPick x50 x53 (.bool false)) Kp) fun x54 =>
   opN Try.prog (sPick x46 (.bool true) x54) Kp fun x55 =>
   condS x55
   (K (.tuple #[(.int .i64 0), (.int .i64 41)]))
   (K (.tuple #[x16, (.int .i64 0)])))
def ref09_same_an : Ann := { cuts := [], blks := [], loops := [], drs := [] }
theorem ref09_same_eq (v0 v1 v2 : Value) (Kp : PK) (K : Value → WP) : cevF Try.prog ref09_same_an Try.f32 [v0, v1, v2] Kp K = ref09_same v0 v1 v2 Kp K := by kernel_rfl
theorem ref09_same_calls {v0 v1 v2 : Value} {Kp : PK} {K : Value → WP} {w : World} (h : ref09_same v0 v1 v2 Kp K w) : Calls Try.prog 32 #[v0, v1, v2] w (after Kp K) :=
  calls_of_shape (calls_of_cev wide Try.func32 (an := ref09_same_an) (args := [v0, v1, v2]) (cast (congrFun (ref09_same_eq v0 v1 v2 Kp K) w).symm h))
theorem ref09_same_cn {v0 v1 v2 : Value} {W : World} {α : Type} {A : List HP} {r : α → Value} {B : α → List HP} (h : ∀ F, Ent W (A ++ F) (ref09_same v0 v1 v2 noP fun v w => ∃ x, v = r x ∧ sat W (B x ++ F) w)) : Cn Try.prog 32 [v0, v1, v2] W A r B :=
  Cn.of (shape := ref09_same v0 v1 v2) Try.call32 (fun h => ref09_same_calls h) h
theorem ref09_same_cnP {v0 v1 v2 : Value} {W : World} {α β : Type} {A : List HP} {r : α → Value} {B : α → List HP} {pc : β → List PanicEntry} {Bp : β → List HP} (h : ∀ F, Ent W (A ++ F) (ref09_same v0 v1 v2 (fun ch w => ∃ y, ch = pc y ∧ sat W (Bp y ++ F) w) fun v w => ∃ x, v = r x ∧ sat W (B x ++ F) w)) : CnP Try.prog 32 [v0, v1, v2] W A r B pc Bp :=
  CnP.of (shape := ref09_same v0 v1 v2) Try.call32 (fun h => ref09_same_calls h) h

/-- ref09_read -/
def ref09_read (v0 v1 v2 v3 v4 : Value) (Kp : PK) (K : Value → WP) : WP :=
  opN Try.prog (sAlloc 23) Kp fun x10 =>
  opN Try.prog (sCall (fn 50) [v0, v2]) Kp fun x14 =>
  opN Try.prog (sCall (fn 34) [v0, v1, (.int .i64 2)]) Kp fun x17 =>
  opN Try.prog (sCall (fn 34) [v0, v3, (.int .i64 2)]) Kp fun x20 =>
  opN Try.prog (sBin .add 3 v3 (.int .i64 3)) Kp fun x23 =>
  opN Try.prog (sCall (fn 34) [v0, x23, (.int .i64 2)]) Kp fun x24 =>
  opN Try.prog (sBin .add 3 v3 (.int .i64 6)) Kp fun x27 =>
  opN Try.prog (sCall (fn 34) [v0, x27, (.int .i64 2)]) Kp fun x28 =>
  opN Try.prog (sBuild 23 [(0, v4), (1, x14), (2, x17), (3, x20), (4, x24), (5, x28)]) Kp fun x29 =>
  opN Try.prog (sStore 23 x10 x29) Kp fun _ =>
  (stS Try.prog (sRes 23 x10) fun r0 => K r0)
def ref09_read_an : Ann := { cuts := [], blks := [], loops := [], drs := [] }
theorem ref09_read_eq (v0 v1 v2 v3 v4 : Value) (Kp : PK) (K : Value → WP) : cevF Try.prog ref09_read_an Try.f33 [v0, v1, v2, v3, v4] Kp K = ref09_read v0 v1 v2 v3 v4 Kp K := by kernel_rfl
theorem ref09_read_calls {v0 v1 v2 v3 v4 : Value} {Kp : PK} {K : Value → WP} {w : World} (h : ref09_read v0 v1 v2 v3 v4 Kp K w) : Calls Try.prog 33 #[v0, v1, v2, v3, v4] w (after Kp K) :=
  calls_of_shape (calls_of_cev wide Try.func33 (an := ref09_read_an) (args := [v0, v1, v2, v3, v4]) (cast (congrFun (ref09_read_eq v0 v1 v2 v3 v4 Kp K) w).symm h))
theorem ref09_read_cn {v0 v1 v2 v3 v4 : Value} {W : World} {α : Type} {A : List HP} {r : α → Value} {B : α → List HP} (h : ∀ F, Ent W (A ++ F) (ref09_read v0 v1 v2 v3 v4 noP fun v w => ∃ x, v = r x ∧ sat W (B x ++ F) w)) : Cn Try.prog 33 [v0, v1, v2, v3, v4] W A r B :=
  Cn.of (shape := ref09_read v0 v1 v2 v3 v4) Try.call33 (fun h => ref09_read_calls h) h
theorem ref09_read_cnP {v0 v1 v2 v3 v4 : Value} {W : World} {α β : Type} {A : List HP} {r : α → Value} {B : α → List HP} {pc : β → List PanicEntry} {Bp : β → List HP} (h : ∀ F, Ent W (A ++ F) (ref09_read v0 v1 v2 v3 v4 (fun ch w => ∃ y, ch = pc y ∧ sat W (Bp y ++ F) w) fun v w => ∃ x, v = r x ∧ sat W (B x ++ F) w)) : CnP Try.prog 33 [v0, v1, v2, v3, v4] W A r B pc Bp :=
  CnP.of (shape := ref09_read v0 v1 v2 v3 v4) Try.call33 (fun h => ref09_read_calls h) h

/-- ref09_digits -/
def ref09_digits (v0 v1 v2 : Value) (Kp : PK) (K : Value → WP) : WP :=
  opN Try.prog (sBin .lss 3 v1 (.int .i64 0)) Kp fun x10 =>
  gdK x10 false (fun k => k v1) fun x12 =>
  gdK x10 false (fun k => k v2) fun x13 =>
  gdK x10 false (opN Try.prog (sBin .add 3 x12 x13) Kp) fun x14 =>
  gdK x10 false (fun k => k v0) fun x15 =>
  gdK x10 false (opN Try.prog (sLen #[9] 3 [x15]) Kp) fun x16 =>
  gdK x10 false (opN Try.prog (sBin .gtr 3 x14 x16) Kp) fun x17 =>
  opN Try.prog (sPick x10 (.bool true) x17) Kp fun x18 =>
  condS x18
  (K (.int .i64 (-1)))
  (loop2 (fun I1 m1 _ y7 y8 =>
    opN Try.prog (sBin .add 3 v1 v2) Kp fun x23 =>
    opN Try.prog (sBin .lss 3 y8 x23) Kp fun x24 =>
    condS x24
    (opN Try.prog (sIx 9 v0 y8) Kp fun x29 =>
     opN Try.prog (sBin .lss 5 x29 (.int .u8 48)) Kp fun x30 =>
     gdK x30 false (fun k => k v0) fun x32 =>
     gdK x30 false (fun k => k y8) fun x33 =>
     gdK x30 false (opN Try.prog (sIx 9 x32 x33) Kp) fun x34 =>
     gdK x30 false (opN Try.prog (sBin .gtr 5 x34 (.int .u8 57)) Kp) fun x35 =>
     opN Try.prog (sPick x30 (.bool true) x35) Kp fun x36 =>
     condS x36
     (K (.int .i64 (-1)))
     (opN Try.prog (sBin .mul 3 (.int .i64 10) y7) Kp fun x38 =>
      opN Try.prog (sIx 9 v0 y8) Kp fun x41 =>
      opN Try.prog (sBin .sub 5 x41 (.int .u8 48)) Kp fun x42 =>
      opN Try.prog (sConv 5 3 x42) Kp fun x43 =>
      opN Try.prog (sBin .add 3 x38 x43) Kp fun x44 =>
      opN Try.prog (sBin .add 3 y8 (.int .i64 1)) Kp fun x26 =>
      next2 I1 m1 x44 x26))
    (K y7)) (.int .i64 0) v1)
def ref09_digits_an : Ann := { cuts := [], blks := [], loops := [(5, [7, 8])], drs := [] }
theorem ref09_digits_eq (v0 v1 v2 : Value) (Kp : PK) (K : Value → WP) : cevF Try.prog ref09_digits_an Try.f34 [v0, v1, v2] Kp K = ref09_digits v0 v1 v2 Kp K := by kernel_rfl
theorem ref09_digits_calls {v0 v1 v2 : Value} {Kp : PK} {K : Value → WP} {w : World} (h : ref09_digits v0 v1 v2 Kp K w) : Calls Try.prog 34 #[v0, v1, v2] w (after Kp K) :=
  calls_of_shape (calls_of_cev wide Try.func34 (an := ref09_digits_an) (args := [v0, v1, v2]) (cast (congrFun (ref09_digits_eq v0 v1 v2 Kp K) w).symm h))
theorem ref09_digits_cn {v0 v1 v2 : Value} {W : World} {α : Type} {A : List HP} {r : α → Value} {B : α → List HP} (h : ∀ F, Ent W (A ++ F) (ref09_digits v0 v1 v2 noP fun v w => ∃ x, v = r x ∧ sat W (B x ++ F) w)) : Cn Try.prog 34 [v0, v1, v2] W A r B :=
  Cn.of (shape := ref09_digits v0 v1 v2) Try.call34 (fun h => ref09_digits_calls h) h
theorem ref09_digits_cnP {v0 v1 v2 : Value} {W : World} {α β : Type} {A : List HP} {r : α → Value} {B : α → List HP} {pc : β → List PanicEntry} {Bp : β → List HP} (h : ∀ F, Ent W (A ++ F) (ref09_digits v0 v1 v2 (fun ch w => ∃ y, ch = pc y ∧ sat W (Bp y ++ F) w) fun v w => ∃ x, v = r x ∧ sat W (B x ++ F) w)) : CnP Try.prog 34 [v0, v1, v2] W A r B pc Bp :=
  CnP.of (shape := ref09_digits v0 v1 v2) Try.call34 (fun h => ref09_digits_calls h) h

/-- ref09_century -/
def ref09_century (v0 v1 : Value) (Kp : PK) (K : Value → WP) : WP :=
  opN Try.prog (sCall (fn 10) [v1]) Kp fun x11 =>
  opN Try.prog (sExt x11 0) Kp fun x12 =>
  opN Try.prog (sExt x11 1) Kp fun x13 =>
  opN Try.prog (sAlloc 23) Kp fun x6 =>
  opN Try.prog (sStore 23 x6 x12) Kp fun _ =>
  cut1 (fun J1 =>
   opN Try.prog (sEq .eql 3 (.tmp 14) (.const (.int .i64 0)) x13 (.int .i64 0)) Kp fun x15 =>
   condS x15
   (opN Try.prog (sFA 23 x6 0) Kp fun x16 =>
    opN Try.prog (sLoad 3 x16) Kp fun x17 =>
    J1 x17)
   (J1 (.int .i64 1970))) fun _ z5 =>
  opN Try.prog (sBin .add 3 z5 (.int .i64 50)) Kp fun x19 =>
  opN Try.prog (sMin #[3, 3] 3 [x19, (.int .i64 9999)]) Kp fun x20 =>
  loop1 (fun I1 m1 _ y8 =>
   opN Try.prog (sBin .geq 3 y8 (.int .i64 1970)) Kp fun x22 =>
   condS x22
   (opN Try.prog (sBin .rem 3 y8 (.int .i64 100)) Kp fun x26 =>
    opN Try.prog (sEq .eql 3 (.tmp 26) (.tmp 27) x26 v0) Kp fun x28 =>
    condS x28
    (K y8)
    (opN Try.prog (sBin .sub 3 y8 (.int .i64 1)) Kp fun x24 =>
     next1 I1 m1 x24))
   (K (.int .i64 (-1)))) x20
def ref09_century_an : Ann := { cuts := [(5, [5])], blks := [], loops := [(6, [8])], drs := [] }
theorem ref09_century_eq (v0 v1 : Value) (Kp : PK) (K : Value → WP) : cevF Try.prog ref09_century_an Try.f35 [v0, v1] Kp K = ref09_century v0 v1 Kp K := by kernel_rfl
theorem ref09_century_calls {v0 v1 : Value} {Kp : PK} {K : Value → WP} {w : World} (h : ref09_century v0 v1 Kp K w) : Calls Try.prog 35 #[v0, v1] w (after Kp K) :=
  calls_of_shape (calls_of_cev wide Try.func35 (an := ref09_century_an) (args := [v0, v1]) (cast (congrFun (ref09_century_eq v0 v1 Kp K) w).symm h))
theorem ref09_century_cn {v0 v1 : Value} {W : World} {α : Type} {A : List HP} {r : α → Value} {B : α → List HP} (h : ∀ F, Ent W (A ++ F) (ref09_century v0 v1 noP fun v w => ∃ x, v = r x ∧ sat W (B x ++ F) w)) : Cn Try.prog 35 [v0, v1] W A r B :=
  Cn.of (shape := ref09_century v0 v1) Try.call35 (fun h => ref09_century_calls h) h
theorem ref09_century_cnP {v0 v1 : Value} {W : World} {α β : Type} {A : List HP} {r : α → Value} {B : α → List HP} {pc : β → List PanicEntry} {Bp : β → List HP} (h : ∀ F, Ent W (A ++ F) (ref09_century v0 v1 (fun ch w => ∃ y, ch = pc y ∧ sat W (Bp y ++ F) w) fun v w => ∃ x, v = r x ∧ sat W (B x ++ F) w)) : CnP Try.prog 35 [v0, v1] W A r B pc Bp :=
  CnP.of (shape := ref09_century v0 v1) Try.call35 (fun h => ref09_century_calls h) h

/-- ref09_names -/
def ref09_names (Kp : PK) (K : Value → WP) : WP :=
  opN Try.prog (sBuildSl 65 7 [(0, (.string ⟨#[83, 117, 110, 100, 97, 121]⟩)), (1, (.string ⟨#[77, 111, 110, 100, 97, 121]⟩)), (2, (.string ⟨#[84, 117, 101, 115, 100, 97, 121]⟩)), (3, (.string ⟨#[87, 101, 100, 110, 101, 115, 100, 97, 121]⟩)), (4, (.string ⟨#[84, 104, 117, 114, 115, 100, 97, 121]⟩)), (5, (.string ⟨#[70, 114, 105, 100, 97, 121]⟩)), (6, (.string ⟨#[83, 97, 116, 117, 114, 100, 97, 121]⟩))]) Kp fun x6 =>
  loop2 (fun I1 m1 _ y4 y5 =>
   opN Try.prog (sBin .lss 3 y5 (.int .i64 7)) Kp fun x8 =>
   condS x8
   (opN Try.prog (sIA 65 x6 y5) Kp fun x14 =>
    opN Try.prog (sLoad 9 x14) Kp fun x15 =>
    opN Try.prog (sSl 9 x15 none (some (.int .i64 3)) none) Kp fun x16 =>
    opN Try.prog (sBuildSl 65 1 [(0, x16)]) Kp fun x17 =>
    opN Try.prog (sApp #[65, 65] 65 [y4, x17]) Kp fun x18 =>
    opN Try.prog (sBin .add 3 y5 (.int .i64 1)) Kp fun x10 =>
    next2 I1 m1 x18 x10)
   (opN Try.prog (sBuildSl 65 12 [(0, (.string ⟨#[74, 97, 110]⟩)), (1, (.string ⟨#[70, 101, 98]⟩)), (2, (.string ⟨#[77, 97, 114]⟩)), (3, (.string ⟨#[65, 112, 114]⟩)), (4, (.string ⟨#[77, 97, 121]⟩)), (5, (.string ⟨#[74, 117, 110]⟩)), (6, (.string ⟨#[74, 117, 108]⟩)), (7, (.string ⟨#[65, 117, 103]⟩)), (8, (.string ⟨#[83, 101, 112]⟩)), (9, (.string ⟨#[79, 99, 116]⟩)), (10, (.string ⟨#[78, 111, 118]⟩)), (11, (.string ⟨#[68, 101, 99]⟩))]) Kp fun x21 =>
    K (.tuple #[y4, x6, x21]))) (.slice none 0 0) (.int .i64 0)
def ref09_names_an : Ann := { cuts := [], blks := [], loops := [(4, [4, 5])], drs := [] }
theorem ref09_names_eq (Kp : PK) (K : Value → WP) : cevF Try.prog ref09_names_an Try.f36 [] Kp K = ref09_names Kp K := by kernel_rfl
theorem ref09_names_calls  {Kp : PK} {K : Value → WP} {w : World} (h : ref09_names Kp K w) : Calls Try.prog 36 #[] w (after Kp K) :=
  calls_of_shape (calls_of_cev wide Try.func36 (an := ref09_names_an) (args := []) (cast (congrFun (ref09_names_eq Kp K) w).symm h))
theorem ref09_names_cn  {W : World} {α : Type} {A : List HP} {r : α → Value} {B : α → List HP} (h : ∀ F, Ent W (A ++ F) (ref09_names noP fun v w => ∃ x, v = r x ∧ sat W (B x ++ F) w)) : Cn Try.prog 36 [] W A r B :=
  Cn.of (shape := ref09_names) Try.call36 (fun h => ref09_names_calls h) h
theorem ref09_names_cnP  {W : World} {α β : Type} {A : List HP} {r : α → Value} {B : α → List HP} {pc : β → List PanicEntry} {Bp : β → List HP} (h : ∀ F, Ent W (A ++ F) (ref09_names (fun ch w => ∃ y, ch = pc y ∧ sat W (Bp y ++ F) w) fun v w => ∃ x, v = r x ∧ sat W (B x ++ F) w)) : CnP Try.prog 36 [] W A r B pc Bp :=
  CnP.of (shape := ref09_names) Try.call36 (fun h => ref09_names_calls h) h

/-- ref09_two -/
def ref09_two (v0 : Value) (Kp : PK) (K : Value → WP) : WP :=
  opN Try.prog (sBin .quo 3 v0 (.int .i64 10)) Kp fun x4 =>
  opN Try.prog (sBin .rem 3 x4 (.int .i64 10)) Kp fun x5 =>
  opN Try.prog (sBin .add 3 (.int .i64 48) x5) Kp fun x6 =>
  opN Try.prog (sConv 3 5 x6) Kp fun x7 =>
  opN Try.prog (sBin .rem 3 v0 (.int .i64 10)) Kp fun x9 =>
  opN Try.prog (sBin .add 3 (.int .i64 48) x9) Kp fun x10 =>
  opN Try.prog (sConv 3 5 x10) Kp fun x11 =>
  opN Try.prog (sBuildSl 82 2 [(0, x7), (1, x11)]) Kp fun x12 =>
  opN Try.prog (sConv 82 9 x12) Kp fun x13 =>
  K x13
def ref09_two_an : Ann := { cuts := [], blks := [], loops := [], drs := [] }
theorem ref09_two_eq (v0 : Value) (Kp : PK) (K : Value → WP) : cevF Try.prog ref09_two_an Try.f37 [v0] Kp K = ref09_two v0 Kp K := by kernel_rfl
theorem ref09_two_calls {v0 : Value} {Kp : PK} {K : Value → WP} {w : World} (h : ref09_two v0 Kp K w) : Calls Try.prog 37 #[v0] w (after Kp K) :=
  calls_of_shape (calls_of_cev wide Try.func37 (an := ref09_two_an) (args := [v0]) (cast (congrFun (ref09_two_eq v0 Kp K) w).symm h))
theorem ref09_two_cn {v0 : Value} {W : World} {α : Type} {A : List HP} {r : α → Value} {B : α → List HP} (h : ∀ F, Ent W (A ++ F) (ref09_two v0 noP fun v w => ∃ x, v = r x ∧ sat W (B x ++ F) w)) : Cn Try.prog 37 [v0] W A r B :=
  Cn.of (shape := ref09_two v0) Try.call37 (fun h => ref09_two_calls h) h
theorem ref09_two_cnP {v0 : Value} {W : World} {α β : Type} {A : List HP} {r : α → Value} {B : α → List HP} {pc : β → List PanicEntry} {Bp : β → List HP} (h : ∀ F, Ent W (A ++ F) (ref09_two v0 (fun ch w => ∃ y, ch = pc y ∧ sat W (Bp y ++ F) w) fun v w => ∃ x, v = r x ∧ sat W (B x ++ F) w)) : CnP Try.prog 37 [v0] W A r B pc Bp :=
  CnP.of (shape := ref09_two v0) Try.call37 (fun h => ref09_two_calls h) h

/-- ref09_clock -/
def ref09_clock (v0 : Value) (Kp : PK) (K : Value → WP) : WP :=
  opN Try.prog (sBox 23 v0) Kp fun x1 =>
  drS (stS Try.prog (sFA 23 x1 3) fun x3 =>
   stS Try.prog (sLoad 3 x3) fun x4 =>
   stD Try.prog (sFA 23 x1 4) fun D4 x7 =>
   stD Try.prog (sLoad 3 x7) fun D5 x8 =>
   stD Try.prog (sFA 23 x1 5) fun D9 x12 =>
   stD Try.prog (sLoad 3 x12) fun D10 x13 =>
   opN Try.prog (sCall (fn 37) [x4]) Kp fun x5 =>
   (fun w => D10 w ∧ (fun w => D9 w ∧ (fun w => D5 w ∧ (fun w => D4 w ∧ (stD Try.prog (sBin .add 9 x5 (.string ⟨#[58]⟩)) fun D3 x6 =>
        opN Try.prog (sCall (fn 37) [x8]) Kp fun x9 =>
        (fun w => D3 w ∧ (fun w => D10 w ∧ (fun w => D9 w ∧ (stD Try.prog (sBin .add 9 x6 x9) fun D7 x10 =>
            stD Try.prog (sBin .add 9 x10 (.string ⟨#[58]⟩)) fun D8 x11 =>
            opN Try.prog (sCall (fn 37) [x13]) Kp fun x14 =>
            (fun w => D8 w ∧ (fun w => D7 w ∧ (fun w => D3 w ∧ (stS Try.prog (sBin .add 9 x11 x14) fun x15 =>
                K x15) w) w) w)) w) w) w)) w) w) w) w))
def ref09_clock_an : Ann := { cuts := [], blks := [], loops := [], drs := [(1, [(0, 1), (1, 1), (4, 3), (5, 3), (9, 3), (10, 3), (2, 0), (3, 3), (6, 0), (7, 3), (8, 3), (11, 0), (12, 1), (13, 1)])] }
theorem ref09_clock_eq (v0 : Value) (Kp : PK) (K : Value → WP) : cevF Try.prog ref09_clock_an Try.f38 [v0] Kp K = ref09_clock v0 Kp K := by kernel_rfl
theorem ref09_clock_calls {v0 : Value} {Kp : PK} {K : Value → WP} {w : World} (h : ref09_clock v0 Kp K w) : Calls Try.prog 38 #[v0] w (after Kp K) :=
  calls_of_shape (calls_of_cev wide Try.func38 (an := ref09_clock_an) (args := [v0]) (cast (congrFun (ref09_clock_eq v0 Kp K) w).symm h))
theorem ref09_clock_cn {v0 : Value} {W : World} {α : Type} {A : List HP} {r : α → Value} {B : α → List HP} (h : ∀ F, Ent W (A ++ F) (ref09_clock v0 noP fun v w => ∃ x, v = r x ∧ sat W (B x ++ F) w)) : Cn Try.prog 38 [v0] W A r B :=
  Cn.of (shape := ref09_clock v0) Try.call38 (fun h => ref09_clock_calls h) h
theorem ref09_clock_cnP {v0 : Value} {W : World} {α β : Type} {A : List HP} {r : α → Value} {B : α → List HP} {pc : β → List PanicEntry} {Bp : β → List HP} (h : ∀ F, Ent W (A ++ F) (ref09_clock v0 (fun ch w => ∃ y, ch = pc y ∧ sat W (Bp y ++ F) w) fun v w => ∃ x, v = r x ∧ sat W (B x ++ F) w)) : CnP Try.prog 38 [v0] W A r B pc Bp :=
  CnP.of (shape := ref09_clock v0) Try.call38 (fun h => ref09_clock_calls h) h

/-- ref09_leap -/
def ref09_leap (v0 : Value) (Kp : PK) (K : Value → WP) : WP :=
  opN Try.prog (sBin .rem 3 v0 (.int .i64 4)) Kp fun x4 =>
  opN Try.prog (sEq .eql 3 (.tmp 4) (.const (.int .i64 0)) x4 (.int .i64 0)) Kp fun x5 =>
  gdK x5 true (fun k => k v0) fun x7 =>
  gdK x5 true (opN Try.prog (sBin .rem 3 x7 (.int .i64 100)) Kp) fun x8 =>
  gdK x5 true (opN Try.prog (sEq .neq 3 (.tmp 8) (.const (.int .i64 0)) x8 (.int .i64 0)) Kp) fun x9 =>
  opN Try.prog (sPick x5 x9 (.bool false)) Kp fun x10 =>
  gdK x10 false (fun k => k v0) fun x12 =>
  gdK x10 false (opN Try.prog (sBin .rem 3 x12 (.int .i64 400)) Kp) fun x13 =>
  gdK x10 false (opN Try.prog (sEq .eql 3 (.tmp 13) (.const (.int .i64 0)) x13 (.int .i64 0)) Kp) fun x14 =>
  opN Try.prog (sPick x10 (.bool true) x14) Kp fun x15 =>
  K x15
def ref09_leap_an : Ann := { cuts := [], blks := [], loops := [], drs := [] }
theorem ref09_leap_eq (v0 : Value) (Kp : PK) (K : Value → WP) : cevF Try.prog ref09_leap_an Try.f39 [v0] Kp K = ref09_leap v0 Kp K := by kernel_rfl
theorem ref09_leap_calls {v0 : Value} {Kp : PK} {K : Value → WP} {w : World} (h : ref09_leap v0 Kp K w) : Calls Try.prog 39 #[v0] w (after Kp K) :=
  calls_of_shape (calls_of_cev wide Try.func39 (an := ref09_leap_an) (args := [v0]) (cast (congrFun (ref09_leap_eq v0 Kp K) w).symm h))
theorem ref09_leap_cn {v0 : Value} {W : World} {α : Type} {A : List HP} {r : α → Value} {B : α → List HP} (h : ∀ F, Ent W (A ++ F) (ref09_leap v0 noP fun v w => ∃ x, v = r x ∧ sat W (B x ++ F) w)) : Cn Try.prog 39 [v0] W A r B :=
  Cn.of (shape := ref09_leap v0) Try.call39 (fun h => ref09_leap_calls h) h
theorem ref09_leap_cnP {v0 : Value} {W : World} {α β : Type} {A : List HP} {r : α → Value} {B : α → List HP} {pc : β → List PanicEntry} {Bp : β → List HP} (h : ∀ F, Ent W (A ++ F) (ref09_leap v0 (fun ch w => ∃ y, ch = pc y ∧ sat W (Bp y ++ F) w) fun v w => ∃ x, v = r x ∧ sat W (B x ++ F) w)) : CnP Try.prog 39 [v0] W A r B pc Bp :=
  CnP.of (shape := ref09_leap v0) Try.call39 (fun h => ref09_leap_calls h) h

/-- dates_weekdays -/
def dates_weekdays (Kp : PK) (K : Value → WP) : WP :=
  opN Try.prog (sAlloc 69) Kp fun x0 =>
  opN Try.prog (sBuild 69 [(0, (.string ⟨#[83, 117, 110, 100, 97, 121]⟩)), (1, (.string ⟨#[77, 111, 110, 100, 97, 121]⟩)), (2, (.string ⟨#[84, 117, 101, 115, 100, 97, 121]⟩)), (3, (.string ⟨#[87, 101, 100, 110, 101, 115, 100, 97, 121]⟩)), (4, (.string ⟨#[84, 104, 117, 114, 115, 100, 97, 121]⟩)), (5, (.string ⟨#[70, 114, 105, 100, 97, 121]⟩)), (6, (.string ⟨#[83, 97, 116, 117, 114, 100, 97, 121]⟩))]) Kp fun x1 =>
  opN Try.prog (sStore 69 x0 x1) Kp fun _ =>
  (stS Try.prog (sRes 69 x0) fun r0 => K r0)
def dates_weekdays_an : Ann := { cuts := [], blks := [], loops := [], drs := [] }
theorem dates_weekdays_eq (Kp : PK) (K : Value → WP) : cevF Try.prog dates_weekdays_an Try.f40 [] Kp K = dates_weekdays Kp K := by kernel_rfl
theorem dates_weekdays_calls  {Kp : PK} {K : Value → WP} {w : World} (h : dates_weekdays Kp K w) : Calls Try.prog 40 #[] w (after Kp K) :=
  calls_of_shape (calls_of_cev wide Try.func40 (an := dates_weekdays_an) (args := []) (cast (congrFun (dates_weekdays_eq Kp K) w).symm h))
theorem dates_weekdays_cn  {W : World} {α : Type} {A : List HP} {r : α → Value} {B : α → List HP} (h : ∀ F, Ent W (A ++ F) (dates_weekdays noP fun v w => ∃ x, v = r x ∧ sat W (B x ++ F) w)) : Cn Try.prog 40 [] W A r B :=
  Cn.of (shape := dates_weekdays) Try.call40 (fun h => dates_weekdays_calls h) h
theorem dates_weekdays_cnP  {W : World} {α β : Type} {A : List HP} {r : α → Value} {B : α → List HP} {pc : β → List PanicEntry} {Bp : β → List HP} (h : ∀ F, Ent W (A ++ F) (dates_weekdays (fun ch w => ∃ y, ch = pc y ∧ sat W (Bp y ++ F) w) fun v w => ∃ x, v = r x ∧ sat W (B x ++ F) w)) : CnP Try.prog 40 [] W A r B pc Bp :=
  CnP.of (shape := dates_weekdays) Try.call40 (fun h => dates_weekdays_calls h) h

/-- dates_months -/
def dates_months (Kp : PK) (K : Value → WP) : WP :=
  opN Try.prog (sAlloc 71) Kp fun x0 =>
  opN Try.prog (sBuild 71 [(0, (.string ⟨#[74, 97, 110]⟩)), (1, (.string ⟨#[70, 101, 98]⟩)), (2, (.string ⟨#[77, 97, 114]⟩)), (3, (.string ⟨#[65, 112, 114]⟩)), (4, (.string ⟨#[77, 97, 121]⟩)), (5, (.string ⟨#[74, 117, 110]⟩)), (6, (.string ⟨#[74, 117, 108]⟩)), (7, (.string ⟨#[65, 117, 103]⟩)), (8, (.string ⟨#[83, 101, 112]⟩)), (9, (.string ⟨#[79, 99, 116]⟩)), (10, (.string ⟨#[78, 111, 118]⟩)), (11, (.string ⟨#[68, 101, 99]⟩))]) Kp fun x1 =>
  opN Try.prog (sStore 71 x0 x1) Kp fun _ =>
  (stS Try.prog (sRes 71 x0) fun r0 => K r0)
def dates_months_an : Ann := { cuts := [], blks := [], loops := [], drs := [] }
theorem dates_months_eq (Kp : PK) (K : Value → WP) : cevF Try.prog dates_months_an Try.f41 [] Kp K = dates_months Kp K := by kernel_rfl
theorem dates_months_calls  {Kp : PK} {K : Value → WP} {w : World} (h : dates_months Kp K w) : Calls Try.prog 41 #[] w (after Kp K) :=
  calls_of_shape (calls_of_cev wide Try.func41 (an := dates_months_an) (args := []) (cast (congrFun (dates_months_eq Kp K) w).symm h))
theorem dates_months_cn  {W : World} {α : Type} {A : List HP} {r : α → Value} {B : α → List HP} (h : ∀ F, Ent W (A ++ F) (dates_months noP fun v w => ∃ x, v = r x ∧ sat W (B x ++ F) w)) : Cn Try.prog 41 [] W A r B :=
  Cn.of (shape := dates_months) Try.call41 (fun h => dates_months_calls h) h
theorem dates_months_cnP  {W : World} {α β : Type} {A : List HP} {r : α → Value} {B : α → List HP} {pc : β → List PanicEntry} {Bp : β → List HP} (h : ∀ F, Ent W (A ++ F) (dates_months (fun ch w => ∃ y, ch = pc y ∧ sat W (Bp y ++ F) w) fun v w => ∃ x, v = r x ∧ sat W (B x ++ F) w)) : CnP Try.prog 41 [] W A r B pc Bp :=
  CnP.of (shape := dates_months) Try.call41 (fun h => dates_months_calls h) h

/-- dates_digits -/
def dates_digits (v0 v1 v2 : Value) (Kp : PK) (K : Value → WP) : WP :=
  opN Try.prog (sMkSl 82 v1 v1) Kp fun x10 =>
  opN Try.prog (sBin .sub 3 v1 (.int .i64 1)) Kp fun x12 =>
  loop2 (fun I1 m1 _ y0 y8 =>
   opN Try.prog (sBin .geq 3 y8 (.int .i64 0)) Kp fun x14 =>
   condS x14
   (opN Try.prog (sBin .rem 3 y0 (.int .i64 10)) Kp fun x20 =>
    opN Try.prog (sBin .add 3 (.int .i64 48) x20) Kp fun x21 =>
    opN Try.prog (sConv 3 5 x21) Kp fun x22 =>
    opN Try.prog (sIA 82 x10 y8) Kp fun x23 =>
    opN Try.prog (sStore 5 x23 x22) Kp fun _ =>
    cut0 (fun J1 =>
     opN Try.prog (sEq .eql 3 (.tmp 24) (.const (.int .i64 0)) y0 (.int .i64 0)) Kp fun x25 =>
     gdK x25 true (fun k => k y8) fun x27 =>
     gdK x25 true (fun k => k v1) fun x28 =>
     gdK x25 true (opN Try.prog (sBin .sub 3 x28 (.int .i64 1)) Kp) fun x29 =>
     gdK x25 true (opN Try.prog (sBin .lss 3 x27 x29) Kp) fun x30 =>
     opN Try.prog (sPick x25 x30 (.bool false)) Kp fun x31 =>
     condS x31
     (opN Try.prog (sIA 82 x10 y8) Kp fun x35 =>
      opN Try.prog (sStore 5 x35 v2) Kp fun _ =>
      J1)
     (J1)) fun _ =>
    opN Try.prog (sBin .quo 3 y0 (.int .i64 10)) Kp fun x37 =>
    opN Try.prog (sBin .sub 3 y8 (.int .i64 1)) Kp fun x16 =>
    next2 I1 m1 x37 x16)
   (opN Try.prog (sConv 82 9 x10) Kp fun x39 =>
    K x39)) v0 x12
def dates_digits_an : Ann := { cuts := [(8, [])], blks := [], loops := [(3, [0, 8])], drs := [] }
theorem dates_digits_eq (v0 v1 v2 : Value) (Kp : PK) (K : Value → WP) : cevF Try.prog dates_digits_an Try.f42 [v0, v1, v2] Kp K = dates_digits v0 v1 v2 Kp K := by kernel_rfl
theorem dates_digits_calls {v0 v1 v2 : Value} {Kp : PK} {K : Value → WP} {w : World} (h : dates_digits v0 v1 v2 Kp K w) : Calls Try.prog 42 #[v0, v1, v2] w (after Kp K) :=
  calls_of_shape (calls_of_cev wide Try.func42 (an := dates_digits_an) (args := [v0, v1, v2]) (cast (congrFun (dates_digits_eq v0 v1 v2 Kp K) w).symm h))
theorem dates_digits_cn {v0 v1 v2 : Value} {W : World} {α : Type} {A : List HP} {r : α → Value} {B : α → List HP} (h : ∀ F, Ent W (A ++ F) (dates_digits v0 v1 v2 noP fun v w => ∃ x, v = r x ∧ sat W (B x ++ F) w)) : Cn Try.prog 42 [v0, v1, v2] W A r B :=
  Cn.of (shape := dates_digits v0 v1 v2) Try.call42 (fun h => dates_digits_calls h) h
theorem dates_digits_cnP {v0 v1 v2 : Value} {W : World} {α β : Type} {A : List HP} {r : α → Value} {B : α → List HP} {pc : β → List PanicEntry} {Bp : β → List HP} (h : ∀ F, Ent W (A ++ F) (dates_digits v0 v1 v2 (fun ch w => ∃ y, ch = pc y ∧ sat W (Bp y ++ F) w) fun v w => ∃ x, v = r x ∧ sat W (B x ++ F) w)) : CnP Try.prog 42 [v0, v1, v2] W A r B pc Bp :=
  CnP.of (shape := dates_digits v0 v1 v2) Try.call42 (fun h => dates_digits_calls h) h

/-- dates_Date_clock -/
def dates_Date_clock (v0 : Value) (Kp : PK) (K : Value → WP) : WP :=
  opN Try.prog (sBox 24 v0) Kp fun x1 =>
  drS (stS Try.prog (sFA 24 x1 3) fun x3 =>
   stS Try.prog (sLoad 3 x3) fun x4 =>
   stD Try.prog (sFA 24 x1 4) fun D4 x7 =>
   stD Try.prog (sLoad 3 x7) fun D5 x8 =>
   stD Try.prog (sFA 24 x1 5) fun D9 x12 =>
   stD Try.prog (sLoad 3 x12) fun D10 x13 =>
   opN Try.prog (sCall (fn 42) [x4, (.int .i64 2), (.int .u8 48)]) Kp fun x5 =>
   (fun w => D10 w ∧ (fun w => D9 w ∧ (fun w => D5 w ∧ (fun w => D4 w ∧ (stD Try.prog (sBin .add 9 x5 (.string ⟨#[58]⟩)) fun D3 x6 =>
        opN Try.prog (sCall (fn 42) [x8, (.int .i64 2), (.int .u8 48)]) Kp fun x9 =>
        (fun w => D3 w ∧ (fun w => D10 w ∧ (fun w => D9 w ∧ (stD Try.prog (sBin .add 9 x6 x9) fun D7 x10 =>
            stD Try.prog (sBin .add 9 x10 (.string ⟨#[58]⟩)) fun D8 x11 =>
            opN Try.prog (sCall (fn 42) [x13, (.int .i64 2), (.int .u8 48)]) Kp fun x14 =>
            (fun w => D8 w ∧ (fun w => D7 w ∧ (fun w => D3 w ∧ (stS Try.prog (sBin .add 9 x11 x14) fun x15 =>
                K x15) w) w) w)) w) w) w)) w) w) w) w))
def dates_Date_clock_an : Ann := { cuts := [], blks := [], loops := [], drs := [(1, [(0, 1), (1, 1), (4, 3), (5, 3), (9, 3), (10, 3), (2, 0), (3, 3), (6, 0), (7, 3), (8, 3), (11, 0), (12, 1), (13, 1)])] }
theorem dates_Date_clock_eq (v0 : Value) (Kp : PK) (K : Value → WP) : cevF Try.prog dates_Date_clock_an Try.f43 [v0] Kp K = dates_Date_clock v0 Kp K := by kernel_rfl
theorem dates_Date_clock_calls {v0 : Value} {Kp : PK} {K : Value → WP} {w : World} (h : dates_Date_clock v0 Kp K w) : Calls Try.prog 43 #[v0] w (after Kp K) :=
  calls_of_shape (calls_of_cev wide Try.func43 (an := dates_Date_clock_an) (args := [v0]) (cast (congrFun (dates_Date_clock_eq v0 Kp K) w).symm h))
theorem dates_Date_clock_cn {v0 : Value} {W : World} {α : Type} {A : List HP} {r : α → Value} {B : α → List HP} (h : ∀ F, Ent W (A ++ F) (dates_Date_clock v0 noP fun v w => ∃ x, v = r x ∧ sat W (B x ++ F) w)) : Cn Try.prog 43 [v0] W A r B :=
  Cn.of (shape := dates_Date_clock v0) Try.call43 (fun h => dates_Date_clock_calls h) h
theorem dates_Date_clock_cnP {v0 : Value} {W : World} {α β : Type} {A : List HP} {r : α → Value} {B : α → List HP} {pc : β → List PanicEntry} {Bp : β → List HP} (h : ∀ F, Ent W (A ++ F) (dates_Date_clock v0 (fun ch w => ∃ y, ch = pc y ∧ sat W (Bp y ++ F) w) fun v w => ∃ x, v = r x ∧ sat W (B x ++ F) w)) : CnP Try.prog 43 [v0] W A r B pc Bp :=
  CnP.of (shape := dates_Date_clock v0) Try.call43 (fun h => dates_Date_clock_calls h) h

/-- dates_reader_take -/
def dates_reader_take (v0 v1 : Value) (Kp : PK) (K : Value → WP) : WP :=
  cut0 (fun J1 =>
   opN Try.prog (sNil v0) Kp fun x8 =>
   opN Try.prog (sFA 80 x8 0) Kp fun x9 =>
   opN Try.prog (sLoad 9 x9) Kp fun x10 =>
   opN Try.prog (sLen #[9] 3 [x10]) Kp fun x11 =>
   opN Try.prog (sBin .gtr 3 v1 x11) Kp fun x12 =>
   condS x12
   (opN Try.prog (sMkI 25 (.int .i64 41)) Kp fun x13 =>
    opN Try.prog (sPanic x13) Kp fun _ =>
    J1)
   (J1)) fun _ =>
  opN Try.prog (sNil v0) Kp fun x15 =>
  opN Try.prog (sFA 80 x15 0) Kp fun x16 =>
  opN Try.prog (sLoad 9 x16) Kp fun x17 =>
  opN Try.prog (sSl 9 x17 none (some v1) none) Kp fun x19 =>
  opN Try.prog (sNil v0) Kp fun x22 =>
  opN Try.prog (sFA 80 x22 0) Kp fun x23 =>
  opN Try.prog (sLoad 9 x23) Kp fun x24 =>
  opN Try.prog (sSl 9 x24 (some v1) none none) Kp fun x26 =>
  opN Try.prog (sNil v0) Kp fun x27 =>
  opN Try.prog (sFA 80 x27 0) Kp fun x28 =>
  opN Try.prog (sStore 9 x28 x26) Kp fun _ =>
  K x19
def dates_reader_take_an : Ann := { cuts := [(3, [])], blks := [], loops := [], drs := [] }
theorem dates_reader_take_eq (v0 v1 : Value) (Kp : PK) (K : Value → WP) : cevF Try.prog dates_reader_take_an Try.f44 [v0, v1] Kp K = dates_reader_take v0 v1 Kp K := by kernel_rfl
theorem dates_reader_take_calls {v0 v1 : Value} {Kp : PK} {K : Value → WP} {w : World} (h : dates_reader_take v0 v1 Kp K w) : Calls Try.prog 44 #[v0, v1] w (after Kp K) :=
  calls_of_shape (calls_of_cev wide Try.func44 (an := dates_reader_take_an) (args := [v0, v1]) (cast (congrFun (dates_reader_take_eq v0 v1 Kp K) w).symm h))
theorem dates_reader_take_cn {v0 v1 : Value} {W : World} {α : Type} {A : List HP} {r : α → Value} {B : α → List HP} (h : ∀ F, Ent W (A ++ F) (dates_reader_take v0 v1 noP fun v w => ∃ x, v = r x ∧ sat W (B x ++ F) w)) : Cn Try.prog 44 [v0, v1] W A r B :=
  Cn.of (shape := dates_reader_take v0 v1) Try.call44 (fun h => dates_reader_take_calls h) h
theorem dates_reader_take_cnP {v0 v1 : Value} {W : World} {α β : Type} {A : List HP} {r : α → Value} {B : α → List HP} {pc : β → List PanicEntry} {Bp : β → List HP} (h : ∀ F, Ent W (A ++ F) (dates_reader_take v0 v1 (fun ch w => ∃ y, ch = pc y ∧ sat W (Bp y ++ F) w) fun v w => ∃ x, v = r x ∧ sat W (B x ++ F) w)) : CnP Try.prog 44 [v0, v1] W A r B pc Bp :=
  CnP.of (shape := dates_reader_take v0 v1) Try.call44 (fun h => dates_reader_take_calls h) h

/-- dates_reader_number -/
def dates_reader_number (v0 v1 : Value) (Kp : PK) (K : Value → WP) : WP :=
  opN Try.prog (sCall (fn 44) [v0, v1]) Kp fun x10 =>
  opN Try.prog (sConv 9 82 x10) Kp fun x11 =>
  opN Try.prog (sLen #[82] 3 [x11]) Kp fun x12 =>
  loop2 (fun I1 m1 _ y5 y13 =>
   opN Try.prog (sBin .lss 3 y13 x12) Kp fun x14 =>
   condS x14
   (opN Try.prog (sIA 82 x11 y13) Kp fun x16 =>
    opN Try.prog (sLoad 5 x16) Kp fun x17 =>
    cut1 (fun J1 =>
     opN Try.prog (sEq .eql 5 (.tmp 18) (.const (.int .u8 32)) x17 (.int .u8 32)) Kp fun x19 =>
     gdK x19 true (fun k => k y13) fun x21 =>
     gdK x19 true (opN Try.prog (sEq .eql 3 (.tmp 21) (.const (.int .i64 0)) x21 (.int .i64 0)) Kp) fun x22 =>
     opN Try.prog (sPick x19 x22 (.bool false)) Kp fun x23 =>
     condS x23
     (J1 (.int .u8 48))
     (J1 x17)) fun _ z7 =>
    cut0 (fun J2 =>
     opN Try.prog (sBin .lss 5 z7 (.int .u8 48)) Kp fun x25 =>
     gdK x25 false (fun k => k z7) fun x27 =>
     gdK x25 false (opN Try.prog (sBin .gtr 5 x27 (.int .u8 57)) Kp) fun x28 =>
     opN Try.prog (sPick x25 (.bool true) x28) Kp fun x29 =>
     condS x29
     (opN Try.prog (sMkI 25 (.int .i64 41)) Kp fun x30 =>
      opN Try.prog (sPanic x30) Kp fun _ =>
      J2)
     (J2)) fun _ =>
    opN Try.prog (sBin .mul 3 (.int .i64 10) y5) Kp fun x32 =>
    opN Try.prog (sBin .sub 5 z7 (.int .u8 48)) Kp fun x34 =>
    opN Try.prog (sConv 5 3 x34) Kp fun x35 =>
    opN Try.prog (sBin .add 3 x32 x35) Kp fun x36 =>
    opN Try.prog (sBin .add 3 y13 (.int .i64 1)) Kp fun x37 =>
    next2 I1 m1 x36 x37)
   (K y5)) (.int .i64 0) (.int .i64 0)
def dates_reader_number_an : Ann := { cuts := [(7, [7]), (9, [])], blks := [], loops := [(3, [5, 13])], drs := [] }
theorem dates_reader_number_eq (v0 v1 : Value) (Kp : PK) (K : Value → WP) : cevF Try.prog dates_reader_number_an Try.f45 [v0, v1] Kp K = dates_reader_number v0 v1 Kp K := by kernel_rfl
theorem dates_reader_number_calls {v0 v1 : Value} {Kp : PK} {K : Value → WP} {w : World} (h : dates_reader_number v0 v1 Kp K w) : Calls Try.prog 45 #[v0, v1] w (after Kp K) :=
  calls_of_shape (calls_of_cev wide Try.func45 (an := dates_reader_number_an) (args := [v0, v1]) (cast (congrFun (dates_reader_number_eq v0 v1 Kp K) w).symm h))
theorem dates_reader_number_cn {v0 v1 : Value} {W : World} {α : Type} {A : List HP} {r : α → Value} {B : α → List HP} (h : ∀ F, Ent W (A ++ F) (dates_reader_number v0 v1 noP fun v w => ∃ x, v = r x ∧ sat W (B x ++ F) w)) : Cn Try.prog 45 [v0, v1] W A r B :=
  Cn.of (shape := dates_reader_number v0 v1) Try.call45 (fun h => dates_reader_number_calls h) h
theorem dates_reader_number_cnP {v0 v1 : Value} {W : World} {α β : Type} {A : List HP} {r : α → Value} {B : α → List HP} {pc : β → List PanicEntry} {Bp : β → List HP} (h : ∀ F, Ent W (A ++ F) (dates_reader_number v0 v1 (fun ch w => ∃ y, ch = pc y ∧ sat W (Bp y ++ F) w) fun v w => ∃ x, v = r x ∧ sat W (B x ++ F) w)) : CnP Try.prog 45 [v0, v1] W A r B pc Bp :=
  CnP.of (shape := dates_reader_number v0 v1) Try.call45 (fun h => dates_reader_number_calls h) h

/-- dates_reader_month -/
def dates_reader_month (v0 : Value) (Kp : PK) (K : Value → WP) : WP :=
  opN Try.prog (sCall (fn 44) [v0, (.int .i64 3)]) Kp fun x7 =>
  opN Try.prog (sCall (fn 41) []) Kp fun x8 =>
  loop2 (fun I1 m1 _ y2 y9 =>
   opN Try.prog (sBin .lss 3 y9 (.int .i64 12)) Kp fun x10 =>
   condS x10
   (opN Try.prog (sIx 71 x8 y9) Kp fun x12 =>
    opN Try.prog (sEq .eql 9 (.tmp 13) (.tmp 14) x12 x7) Kp fun x15 =>
    condS x15
    (opN Try.prog (sBin .add 3 y9 (.int .i64 1)) Kp fun x17 =>
     K x17)
    (opN Try.prog (sBin .add 3 y9 (.int .i64 1)) Kp fun x18 =>
     next2 I1 m1 y2 x18))
   (opN Try.prog (sMkI 25 (.int .i64 41)) Kp fun x19 =>
    opN Try.prog (sPanic x19) Kp fun _ =>
    K y2)) (.int .i64 0) (.int .i64 0)
def dates_reader_month_an : Ann := { cuts := [], blks := [], loops := [(3, [2, 9])], drs := [] }
theorem dates_reader_month_eq (v0 : Value) (Kp : PK) (K : Value → WP) : cevF Try.prog dates_reader_month_an Try.f46 [v0] Kp K = dates_reader_month v0 Kp K := by kernel_rfl
theorem dates_reader_month_calls {v0 : Value} {Kp : PK} {K : Value → WP} {w : World} (h : dates_reader_month v0 Kp K w) : Calls Try.prog 46 #[v0] w (after Kp K) :=
  calls_of_shape (calls_of_cev wide Try.func46 (an := dates_reader_month_an) (args := [v0]) (cast (congrFun (dates_reader_month_eq v0 Kp K) w).symm h))
theorem dates_reader_month_cn {v0 : Value} {W : World} {α : Type} {A : List HP} {r : α → Value} {B : α → List HP} (h : ∀ F, Ent W (A ++ F) (dates_reader_month v0 noP fun v w => ∃ x, v = r x ∧ sat W (B x ++ F) w)) : Cn Try.prog 46 [v0] W A r B :=
  Cn.of (shape := dates_reader_month v0) Try.call46 (fun h => dates_reader_month_calls h) h
theorem dates_reader_month_cnP {v0 : Value} {W : World} {α β : Type} {A : List HP} {r : α → Value} {B : α → List HP} {pc : β → List PanicEntry} {Bp : β → List HP} (h : ∀ F, Ent W (A ++ F) (dates_reader_month v0 (fun ch w => ∃ y, ch = pc y ∧ sat W (Bp y ++ F) w) fun v w => ∃ x, v = r x ∧ sat W (B x ++ F) w)) : CnP Try.prog 46 [v0] W A r B pc Bp :=
  CnP.of (shape := dates_reader_month v0) Try.call46 (fun h => dates_reader_month_calls h) h

/-- dates_reader_clock -/
def dates_reader_clock (v0 v1 : Value) (Kp : PK) (K : Value → WP) : WP :=
  opN Try.prog (sCall (fn 45) [v0, (.int .i64 2)]) Kp fun x6 =>
  opN Try.prog (sNil v1) Kp fun x7 =>
  opN Try.prog (sFA 24 x7 3) Kp fun x8 =>
  opN Try.prog (sStore 3 x8 x6) Kp fun _ =>
  opN Try.prog (sCall (fn 44) [v0, (.int .i64 1)]) Kp fun x10 =>
  opN Try.prog (sCall (fn 45) [v0, (.int .i64 2)]) Kp fun x13 =>
  opN Try.prog (sNil v1) Kp fun x14 =>
  opN Try.prog (sFA 24 x14 4) Kp fun x15 =>
  opN Try.prog (sStore 3 x15 x13) Kp fun _ =>
  opN Try.prog (sCall (fn 44) [v0, (.int .i64 1)]) Kp fun x17 =>
  opN Try.prog (sCall (fn 45) [v0, (.int .i64 2)]) Kp fun x20 =>
  opN Try.prog (sNil v1) Kp fun x21 =>
  opN Try.prog (sFA 24 x21 5) Kp fun x22 =>
  opN Try.prog (sStore 3 x22 x20) Kp fun _ =>
  K (.tuple #[])
def dates_reader_clock_an : Ann := { cuts := [], blks := [], loops := [], drs := [] }
theorem dates_reader_clock_eq (v0 v1 : Value) (Kp : PK) (K : Value → WP) : cevF Try.prog dates_reader_clock_an Try.f47 [v0, v1] Kp K = dates_reader_clock v0 v1 Kp K := by kernel_rfl
theorem dates_reader_clock_calls {v0 v1 : Value} {Kp : PK} {K : Value → WP} {w : World} (h : dates_reader_clock v0 v1 Kp K w) : Calls Try.prog 47 #[v0, v1] w (after Kp K) :=
  calls_of_shape (calls_of_cev wide Try.func47 (an := dates_reader_clock_an) (args := [v0, v1]) (cast (congrFun (dates_reader_clock_eq v0 v1 Kp K) w).symm h))
theorem dates_reader_clock_cn {v0 v1 : Value} {W : World} {α : Type} {A : List HP} {r : α → Value} {B : α → List HP} (h : ∀ F, Ent W (A ++ F) (dates_reader_clock v0 v1 noP fun v w => ∃ x, v = r x ∧ sat W (B x ++ F) w)) : Cn Try.prog 47 [v0, v1] W A r B :=
  Cn.of (shape := dates_reader_clock v0 v1) Try.call47 (fun h => dates_reader_clock_calls h) h
theorem dates_reader_clock_cnP {v0 v1 : Value} {W : World} {α β : Type} {A : List HP} {r : α → Value} {B : α → List HP} {pc : β → List PanicEntry} {Bp : β → List HP} (h : ∀ F, Ent W (A ++ F) (dates_reader_clock v0 v1 (fun ch w => ∃ y, ch = pc y ∧ sat W (Bp y ++ F) w) fun v w => ∃ x, v = r x ∧ sat W (B x ++ F) w)) : CnP Try.prog 47 [v0, v1] W A r B pc Bp :=
  CnP.of (shape := dates_reader_clock v0 v1) Try.call47 (fun h => dates_reader_clock_calls h) h

/-- strings_IndexByte -/
def strings_IndexByte (v0 v1 : Value) (Kp : PK) (K : Value → WP) : WP :=
  opN Try.prog (sCall (fn 51) [v0, v1]) Kp fun x7 =>
  K x7
def strings_IndexByte_an : Ann := { cuts := [], blks := [], loops := [], drs := [] }
theorem strings_IndexByte_eq (v0 v1 : Value) (Kp : PK) (K : Value → WP) : cevF Try.prog strings_IndexByte_an Try.f48 [v0, v1] Kp K = strings_IndexByte v0 v1 Kp K := by kernel_rfl
theorem strings_IndexByte_calls {v0 v1 : Value} {Kp : PK} {K : Value → WP} {w : World} (h : strings_IndexByte v0 v1 Kp K w) : Calls Try.prog 48 #[v0, v1] w (after Kp K) :=
  calls_of_shape (calls_of_cev wide Try.func48 (an := strings_IndexByte_an) (args := [v0, v1]) (cast (congrFun (strings_IndexByte_eq v0 v1 Kp K) w).symm h))
theorem strings_IndexByte_cn {v0 v1 : Value} {W : World} {α : Type} {A : List HP} {r : α → Value} {B : α → List HP} (h : ∀ F, Ent W (A ++ F) (strings_IndexByte v0 v1 noP fun v w => ∃ x, v = r x ∧ sat W (B x ++ F) w)) : Cn Try.prog 48 [v0, v1] W A r B :=
  Cn.of (shape := strings_IndexByte v0 v1) Try.call48 (fun h => strings_IndexByte_calls h) h
theorem strings_IndexByte_cnP {v0 v1 : Value} {W : World} {α β : Type} {A : List HP} {r : α → Value} {B : α → List HP} {pc : β → List PanicEntry} {Bp : β → List HP} (h : ∀ F, Ent W (A ++ F) (strings_IndexByte v0 v1 (fun ch w => ∃ y, ch = pc y ∧ sat W (Bp y ++ F) w) fun v w => ∃ x, v = r x ∧ sat W (B x ++ F) w)) : CnP Try.prog 48 [v0, v1] W A r B pc Bp :=
  CnP.of (shape := strings_IndexByte v0 v1) Try.call48 (fun h => strings_IndexByte_calls h) h

/-- dates_try_1: rv: what recover hands out -/
def dates_try_1 (v0 v1 : Value) (rv : Value) (Kp : PK) (K : Value → WP) : WP :=
  stS Try.prog (sEq .neq 20 (.tmp 2) (.const .nilIface) rv .nilIface) fun x3 =>
  condS x3
  (opN Try.prog (sStore 3 v0 (.int .i64 0)) Kp fun _ =>
   opN Try.prog (sStore 4 v1 (.bool false)) Kp fun _ =>
   K (.tuple #[]))
  (K (.tuple #[]))
def dates_try_1_an : Ann := { cuts := [], blks := [], loops := [], drs := [] }
theorem dates_try_1_eq (v0 v1 : Value) (rv : Value) (Kp : PK) (K : Value → WP) : cevR Try.prog dates_try_1_an Try.f49 [v0, v1] rv Kp K = dates_try_1 v0 v1 rv Kp K := by kernel_rfl
theorem dates_try_1_d {v0 v1 : Value} {u : FrameMode} {Kp : PK} {K : Value → WP} {w : World} (h : dates_try_1 v0 v1 (recV u).1 Kp K w) : CallsD Try.prog 49 ([v0, v1] : List Value).toArray u w fun
      | .returned v, u', w' => u' = (recV u).2 ∧ K v w'
      | .panicked ch, u', w' => u' = (recV u).2 ∧ Kp ch w'
      | .outgrown, _, _ => False :=
  callsD_of_cevR wide Try.func49 (an := dates_try_1_an) (args := [v0, v1]) (cast (congrFun (dates_try_1_eq v0 v1 _ Kp K) w).symm h)

/-- ref09_month -/
def ref09_month (v0 v1 : Value) (Kp : PK) (K : Value → WP) : WP :=
  opN Try.prog (sCall (fn 36) []) Kp fun x10 =>
  opN Try.prog (sExt x10 0) Kp fun x11 =>
  opN Try.prog (sExt x10 1) Kp fun x12 =>
  opN Try.prog (sExt x10 2) Kp fun x13 =>
  loop1 (fun I1 m1 _ y8 =>
   opN Try.prog (sBin .lss 3 y8 (.int .i64 12)) Kp fun x15 =>
   condS x15
   (drS (stS Try.prog (sBin .add 3 v1 (.int .i64 3)) fun x19 =>
     stS Try.prog (sLen #[9] 3 [v0]) fun x21 =>
     stS Try.prog (sBin .leq 3 x19 x21) fun x22 =>
     gdK x22 true (fun k => k v0) fun x24 =>
     gdK x22 true (fun k => k v1) fun x25 =>
     gdK x22 true (fun k => k v1) fun x26 =>
     gdK x22 true (stS Try.prog (sBin .add 3 x26 (.int .i64 3))) fun x27 =>
     gdK x22 true (stS Try.prog (sSl 9 x24 (some x25) (some x27) none)) fun x28 =>
     gdK x22 true (fun k => k x13) fun x29 =>
     gdK x22 true (fun k => k y8) fun x30 =>
     gdK x22 true (stS Try.prog (sIA 65 x29 x30)) fun x31 =>
     gdK x22 true (stS Try.prog (sLoad 9 x31)) fun x32 =>
     gdK x22 true (stS Try.prog (sEq .eql 9 (.tmp 28) (.tmp 32) x28 x32)) fun x33 =>
     stS Try.prog (sPick x22 x33 (.bool false)) fun x34 =>
     condS x34
     (opN Try.prog (sBin .add 3 y8 (.int .i64 1)) Kp fun x36 =>
      K x36)
     (opN Try.prog (sBin .add 3 y8 (.int .i64 1)) Kp fun x17 =>
      next1 I1 m1 x17)))
   (K (.int .i64 0))) (.int .i64 0)
def ref09_month_an : Ann := { cuts := [], blks := [], loops := [(3, [8])], drs := [(5, [(0, 1), (1, 1), (2, 1), (3, 1), (4, 1), (5, 1), (6, 1), (7, 1), (8, 1), (9, 1), (10, 1), (11, 1), (12, 1), (13, 1), (14, 1), (15, 1), (16, 1)])] }
theorem ref09_month_eq (v0 v1 : Value) (Kp : PK) (K : Value → WP) : cevF Try.prog ref09_month_an Try.f50 [v0, v1] Kp K = ref09_month v0 v1 Kp K := by kernel_rfl
theorem ref09_month_calls {v0 v1 : Value} {Kp : PK} {K : Value → WP} {w : World} (h : ref09_month v0 v1 Kp K w) : Calls Try.prog 50 #[v0, v1] w (after Kp K) :=
  calls_of_shape (calls_of_cev wide Try.func50 (an := ref09_month_an) (args := [v0, v1]) (cast (congrFun (ref09_month_eq v0 v1 Kp K) w).symm h))
theorem ref09_month_cn {v0 v1 : Value} {W : World} {α : Type} {A : List HP} {r : α → Value} {B : α → List HP} (h : ∀ F, Ent W (A ++ F) (ref09_month v0 v1 noP fun v w => ∃ x, v = r x ∧ sat W (B x ++ F) w)) : Cn Try.prog 50 [v0, v1] W A r B :=
  Cn.of (shape := ref09_month v0 v1) Try.call50 (fun h => ref09_month_calls h) h
theorem ref09_month_cnP {v0 v1 : Value} {W : World} {α β : Type} {A : List HP} {r : α → Value} {B : α → List HP} {pc : β → List PanicEntry} {Bp : β → List HP} (h : ∀ F, Ent W (A ++ F) (ref09_month v0 v1 (fun ch w => ∃ y, ch = pc y ∧ sat W (Bp y ++ F) w) fun v w => ∃ x, v = r x ∧ sat W (B x ++ F) w)) : CnP Try.prog 50 [v0, v1] W A r B pc Bp :=
  CnP.of (shape := ref09_month v0 v1) Try.call50 (fun h => ref09_month_calls h) h

/-- stringslite_IndexByte -/
def stringslite_IndexByte (v0 v1 : Value) (Kp : PK) (K : Value → WP) : WP :=
  opN Try.prog (sCall (fn 52) [v0, v1]) Kp fun x7 =>
  K x7
def stringslite_IndexByte_an : Ann := { cuts := [], blks := [], loops := [], drs := [] }
theorem stringslite_IndexByte_eq (v0 v1 : Value) (Kp : PK) (K : Value → WP) : cevF Try.prog stringslite_IndexByte_an Try.f51 [v0, v1] Kp K = stringslite_IndexByte v0 v1 Kp K := by kernel_rfl
theorem stringslite_IndexByte_calls {v0 v1 : Value} {Kp : PK} {K : Value → WP} {w : World} (h : stringslite_IndexByte v0 v1 Kp K w) : Calls Try.prog 51 #[v0, v1] w (after Kp K) :=
  calls_of_shape (calls_of_cev wide Try.func51 (an := stringslite_IndexByte_an) (args := [v0, v1]) (cast (congrFun (stringslite_IndexByte_eq v0 v1 Kp K) w).symm h))
theorem stringslite_IndexByte_cn {v0 v1 : Value} {W : World} {α : Type} {A : List HP} {r : α → Value} {B : α → List HP} (h : ∀ F, Ent W (A ++ F) (stringslite_IndexByte v0 v1 noP fun v w => ∃ x, v = r x ∧ sat W (B x ++ F) w)) : Cn Try.prog 51 [v0, v1] W A r B :=
  Cn.of (shape := stringslite_IndexByte v0 v1) Try.call51 (fun h => stringslite_IndexByte_calls h) h
theorem stringslite_IndexByte_cnP {v0 v1 : Value} {W : World} {α β : Type} {A : List HP} {r : α → Value} {B : α → List HP} {pc : β → List PanicEntry} {Bp : β → List HP} (h : ∀ F, Ent W (A ++ F) (stringslite_IndexByte v0 v1 (fun ch w => ∃ y, ch = pc y ∧ sat W (Bp y ++ F) w) fun v w => ∃ x, v = r x ∧ sat W (B x ++ F) w)) : CnP Try.prog 51 [v0, v1] W A r B pc Bp :=
  CnP.of (shape := stringslite_IndexByte v0 v1) Try.call51 (fun h => stringslite_IndexByte_calls h) h

end Go.Proofs.Ytcmpkkkigmheoaa.S
