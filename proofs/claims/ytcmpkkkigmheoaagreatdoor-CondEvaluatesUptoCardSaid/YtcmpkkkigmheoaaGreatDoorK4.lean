/- The shapes of functions of the loaded program, printed by a program of mine; each is proved to be what the model asks of the function. No conditions. (24 texts made one; each says below what it is.) -/
import Derived.Test.YtcmpkkkigmheoaaGreatDoorChecked
import Derived.Test.YtcmpkkkigmheoaaGreatDoorK3
import Derived.KernelRfl
import Derived.Test.YtcmpkkkigmheoaaGreatDoorK2
import Derived.Laws.Externs
import Derived.Lib.Strings
import Derived.Lib.Walk
import Derived.Lib.BufferWrite
import Derived.Lib.UnsafeStr
import Derived.Laws.MakeOwn
import Derived.WalkKit
import Derived.Lib.Slices
import Derived.Lib.Builder
import Derived.Lib.MakeNoZero
import Derived.Laws.IdiomCopy
import Derived.Laws.BitsLemmas
import Derived.Shelf.RegionOpenPlain
import Derived.Lib.IfaceEq
import Derived.Laws.StructEq
import Derived.Test.YtcmpkkkigmheoaaGreatDoorK1
set_option linter.unusedVariables false
set_option linter.unusedSimpArgs false
set_option linter.unusedSectionVars false
/-! The shapes of functions of the loaded program, printed by a program of mine; each is proved to be what the model asks of the function. No conditions. -/
namespace Go.Proofs.YtcmpkkkigmheoaaGreatDoor.S
open Go Go.Proofs.YtcmpkkkigmheoaaGreatDoor.Sh Go.Proofs.YtcmpkkkigmheoaaGreatDoor.Sl


/-- ascii_classes -/
def ascii_classes (Kp : PK) (K : Value → WP) : WP :=
  opN Tryz.prog (sAlloc 141) Kp fun x0 =>
  opN Tryz.prog (sAlloc 141) Kp fun x1 =>
  loop1 (fun I1 m1 _ y4 =>
   opN Tryz.prog (sBin .lss 3 y4 (.int .i64 256)) Kp fun x5 =>
   condS x5
   (opN Tryz.prog (sBin .geq 3 y4 (.int .i64 97)) Kp fun x8 =>
    gdK x8 true (fun k => k y4) fun x10 =>
    gdK x8 true (opN Tryz.prog (sBin .leq 3 x10 (.int .i64 122)) Kp) fun x11 =>
    opN Tryz.prog (sPick x8 x11 (.bool false)) Kp fun x12 =>
    gdK x12 false (fun k => k y4) fun x14 =>
    gdK x12 false (opN Tryz.prog (sBin .geq 3 x14 (.int .i64 65)) Kp) fun x15 =>
    gdK x12 false (fun k => k x15) fun x16 =>
    gdK x16 true (fun k => k y4) fun x17 =>
    gdK x16 true (opN Tryz.prog (sBin .leq 3 x17 (.int .i64 90)) Kp) fun x18 =>
    gdK x12 false (opN Tryz.prog (sPick x16 x18 (.bool false)) Kp) fun x19 =>
    opN Tryz.prog (sPick x12 (.bool true) x19) Kp fun x20 =>
    gdK x20 false (fun k => k y4) fun x22 =>
    gdK x20 false (opN Tryz.prog (sBin .geq 3 x22 (.int .i64 48)) Kp) fun x23 =>
    gdK x20 false (fun k => k x23) fun x24 =>
    gdK x24 true (fun k => k y4) fun x25 =>
    gdK x24 true (opN Tryz.prog (sBin .leq 3 x25 (.int .i64 57)) Kp) fun x26 =>
    gdK x20 false (opN Tryz.prog (sPick x24 x26 (.bool false)) Kp) fun x27 =>
    opN Tryz.prog (sPick x20 (.bool true) x27) Kp fun x28 =>
    cut0 (fun J1 =>
     gdK x28 false (fun k => k y4) fun x31 =>
     gdK x28 false (opN Tryz.prog (sBin .gtr 3 x31 (.int .i64 32)) Kp) fun x32 =>
     gdK x28 false (fun k => k x32) fun x33 =>
     gdK x33 true (fun k => k y4) fun x34 =>
     gdK x33 true (opN Tryz.prog (sBin .lss 3 x34 (.int .i64 127)) Kp) fun x35 =>
     gdK x28 false (opN Tryz.prog (sPick x33 x35 (.bool false)) Kp) fun x36 =>
     gdK x28 false (fun k => k x36) fun x37 =>
     gdK x37 true (fun k => k y4) fun x38 =>
     gdK x37 true (opN Tryz.prog (sConv 3 5 x38) Kp) fun x39 =>
     gdK x37 true (opN Tryz.prog (sCall (fn 57) [(.string ⟨#[33, 35, 36, 37, 38, 39, 42, 43, 45, 46, 94, 95, 96, 124, 126]⟩), x39]) Kp) fun x40 =>
     gdK x37 true (opN Tryz.prog (sBin .geq 3 x40 (.int .i64 0)) Kp) fun x41 =>
     gdK x28 false (opN Tryz.prog (sPick x37 x41 (.bool false)) Kp) fun x42 =>
     opN Tryz.prog (sPick x28 (.bool true) x42) Kp fun x43 =>
     condS x43
     (opN Tryz.prog (sIA 141 x1 y4) Kp fun x45 =>
      opN Tryz.prog (sLoad 3 x45) Kp fun x46 =>
      opN Tryz.prog (sBin .or 3 x46 (.int .i64 1)) Kp fun x47 =>
      opN Tryz.prog (sIA 141 x1 y4) Kp fun x48 =>
      opN Tryz.prog (sStore 3 x48 x47) Kp fun _ =>
      J1)
     (J1)) fun _ =>
    cut0 (fun J2 =>
     opN Tryz.prog (sEq .eql 3 (.tmp 49) (.const (.int .i64 9)) y4 (.int .i64 9)) Kp fun x50 =>
     gdK x50 false (fun k => k y4) fun x52 =>
     gdK x50 false (opN Tryz.prog (sBin .geq 3 x52 (.int .i64 32)) Kp) fun x53 =>
     gdK x50 false (fun k => k x53) fun x54 =>
     gdK x54 true (fun k => k y4) fun x55 =>
     gdK x54 true (opN Tryz.prog (sEq .neq 3 (.tmp 55) (.const (.int .i64 127)) x55 (.int .i64 127)) Kp) fun x56 =>
     gdK x50 false (opN Tryz.prog (sPick x54 x56 (.bool false)) Kp) fun x57 =>
     opN Tryz.prog (sPick x50 (.bool true) x57) Kp fun x58 =>
     condS x58
     (opN Tryz.prog (sIA 141 x1 y4) Kp fun x60 =>
      opN Tryz.prog (sLoad 3 x60) Kp fun x61 =>
      opN Tryz.prog (sBin .or 3 x61 (.int .i64 2)) Kp fun x62 =>
      opN Tryz.prog (sIA 141 x1 y4) Kp fun x63 =>
      opN Tryz.prog (sStore 3 x63 x62) Kp fun _ =>
      J2)
     (J2)) fun _ =>
    opN Tryz.prog (sBin .geq 3 y4 (.int .i64 65)) Kp fun x65 =>
    gdK x65 true (fun k => k y4) fun x67 =>
    gdK x65 true (opN Tryz.prog (sBin .leq 3 x67 (.int .i64 90)) Kp) fun x68 =>
    opN Tryz.prog (sPick x65 x68 (.bool false)) Kp fun x69 =>
    condS x69
    (opN Tryz.prog (sIA 141 x1 y4) Kp fun x71 =>
     opN Tryz.prog (sLoad 3 x71) Kp fun x72 =>
     opN Tryz.prog (sBin .or 3 x72 (.int .i64 4)) Kp fun x73 =>
     opN Tryz.prog (sIA 141 x1 y4) Kp fun x74 =>
     opN Tryz.prog (sStore 3 x74 x73) Kp fun _ =>
     opN Tryz.prog (sBin .add 3 y4 (.int .i64 1)) Kp fun x75 =>
     next1 I1 m1 x75)
    (opN Tryz.prog (sBin .add 3 y4 (.int .i64 1)) Kp fun x75 =>
     next1 I1 m1 x75))
   (opN Tryz.prog (sLoad 141 x1) Kp fun x76 =>
    opN Tryz.prog (sStore 141 x0 x76) Kp fun _ =>
    (stS Tryz.prog (sRes 141 x0) fun r0 => K r0))) (.int .i64 0)
def ascii_classes_an : Ann := { cuts := [(8, []), (10, [])], blks := [], loops := [(3, [4])], drs := [] }
theorem ascii_classes_eq (Kp : PK) (K : Value → WP) : cevF Tryz.prog ascii_classes_an Tryz.f87 [] Kp K = ascii_classes Kp K := by kernel_rfl
theorem ascii_classes_calls  {Kp : PK} {K : Value → WP} {w : World} (h : ascii_classes Kp K w) : Calls Tryz.prog 87 #[] w (after Kp K) :=
  calls_of_shape (calls_of_cev wide Tryz.func87 (an := ascii_classes_an) (args := []) (cast (congrFun (ascii_classes_eq Kp K) w).symm h))
theorem ascii_classes_cn  {W : World} {α : Type} {A : List HP} {r : α → Value} {B : α → List HP} (h : ∀ F, Ent W (A ++ F) (ascii_classes noP fun v w => ∃ x, v = r x ∧ sat W (B x ++ F) w)) : Cn Tryz.prog 87 [] W A r B :=
  Cn.of (shape := ascii_classes) Tryz.call87 (fun h => ascii_classes_calls h) h
theorem ascii_classes_cnP  {W : World} {α β : Type} {A : List HP} {r : α → Value} {B : α → List HP} {pc : β → List PanicEntry} {Bp : β → List HP} (h : ∀ F, Ent W (A ++ F) (ascii_classes (fun ch w => ∃ y, ch = pc y ∧ sat W (Bp y ++ F) w) fun v w => ∃ x, v = r x ∧ sat W (B x ++ F) w)) : CnP Tryz.prog 87 [] W A r B pc Bp :=
  CnP.of (shape := ascii_classes) Tryz.call87 (fun h => ascii_classes_calls h) h

/-- strings_trimLeftByte -/
def strings_trimLeftByte (v0 v1 : Value) (Kp : PK) (K : Value → WP) : WP :=
  loop1 (fun I1 m1 _ y0 =>
   opN Tryz.prog (sLen #[9] 3 [y0]) Kp fun x6 =>
   opN Tryz.prog (sBin .gtr 3 x6 (.int .i64 0)) Kp fun x7 =>
   gdK x7 true (fun k => k y0) fun x9 =>
   gdK x7 true (opN Tryz.prog (sIx 9 x9 (.int .i64 0)) Kp) fun x10 =>
   gdK x7 true (fun k => k v1) fun x11 =>
   gdK x7 true (opN Tryz.prog (sEq .eql 5 (.tmp 10) (.tmp 11) x10 x11) Kp) fun x12 =>
   opN Tryz.prog (sPick x7 x12 (.bool false)) Kp fun x13 =>
   condS x13
   (opN Tryz.prog (sSl 9 y0 (some (.int .i64 1)) none none) Kp fun x15 =>
    next1 I1 m1 x15)
   (K y0)) v0
def strings_trimLeftByte_an : Ann := { cuts := [], blks := [], loops := [(1, [0])], drs := [] }
theorem strings_trimLeftByte_eq (v0 v1 : Value) (Kp : PK) (K : Value → WP) : cevF Tryz.prog strings_trimLeftByte_an Tryz.f88 [v0, v1] Kp K = strings_trimLeftByte v0 v1 Kp K := by kernel_rfl
theorem strings_trimLeftByte_calls {v0 v1 : Value} {Kp : PK} {K : Value → WP} {w : World} (h : strings_trimLeftByte v0 v1 Kp K w) : Calls Tryz.prog 88 #[v0, v1] w (after Kp K) :=
  calls_of_shape (calls_of_cev wide Tryz.func88 (an := strings_trimLeftByte_an) (args := [v0, v1]) (cast (congrFun (strings_trimLeftByte_eq v0 v1 Kp K) w).symm h))
theorem strings_trimLeftByte_cn {v0 v1 : Value} {W : World} {α : Type} {A : List HP} {r : α → Value} {B : α → List HP} (h : ∀ F, Ent W (A ++ F) (strings_trimLeftByte v0 v1 noP fun v w => ∃ x, v = r x ∧ sat W (B x ++ F) w)) : Cn Tryz.prog 88 [v0, v1] W A r B :=
  Cn.of (shape := strings_trimLeftByte v0 v1) Tryz.call88 (fun h => strings_trimLeftByte_calls h) h
theorem strings_trimLeftByte_cnP {v0 v1 : Value} {W : World} {α β : Type} {A : List HP} {r : α → Value} {B : α → List HP} {pc : β → List PanicEntry} {Bp : β → List HP} (h : ∀ F, Ent W (A ++ F) (strings_trimLeftByte v0 v1 (fun ch w => ∃ y, ch = pc y ∧ sat W (Bp y ++ F) w) fun v w => ∃ x, v = r x ∧ sat W (B x ++ F) w)) : CnP Tryz.prog 88 [v0, v1] W A r B pc Bp :=
  CnP.of (shape := strings_trimLeftByte v0 v1) Tryz.call88 (fun h => strings_trimLeftByte_calls h) h

/-- strings_trimRightByte -/
def strings_trimRightByte (v0 v1 : Value) (Kp : PK) (K : Value → WP) : WP :=
  loop1 (fun I1 m1 _ y0 =>
   opN Tryz.prog (sLen #[9] 3 [y0]) Kp fun x6 =>
   opN Tryz.prog (sBin .gtr 3 x6 (.int .i64 0)) Kp fun x7 =>
   gdK x7 true (fun k => k y0) fun x9 =>
   gdK x7 true (fun k => k y0) fun x10 =>
   gdK x7 true (opN Tryz.prog (sLen #[9] 3 [x10]) Kp) fun x11 =>
   gdK x7 true (opN Tryz.prog (sBin .sub 3 x11 (.int .i64 1)) Kp) fun x12 =>
   gdK x7 true (opN Tryz.prog (sIx 9 x9 x12) Kp) fun x13 =>
   gdK x7 true (fun k => k v1) fun x14 =>
   gdK x7 true (opN Tryz.prog (sEq .eql 5 (.tmp 13) (.tmp 14) x13 x14) Kp) fun x15 =>
   opN Tryz.prog (sPick x7 x15 (.bool false)) Kp fun x16 =>
   condS x16
   (opN Tryz.prog (sLen #[9] 3 [y0]) Kp fun x19 =>
    opN Tryz.prog (sBin .sub 3 x19 (.int .i64 1)) Kp fun x20 =>
    opN Tryz.prog (sSl 9 y0 none (some x20) none) Kp fun x21 =>
    next1 I1 m1 x21)
   (K y0)) v0
def strings_trimRightByte_an : Ann := { cuts := [], blks := [], loops := [(1, [0])], drs := [] }
theorem strings_trimRightByte_eq (v0 v1 : Value) (Kp : PK) (K : Value → WP) : cevF Tryz.prog strings_trimRightByte_an Tryz.f89 [v0, v1] Kp K = strings_trimRightByte v0 v1 Kp K := by kernel_rfl
theorem strings_trimRightByte_calls {v0 v1 : Value} {Kp : PK} {K : Value → WP} {w : World} (h : strings_trimRightByte v0 v1 Kp K w) : Calls Tryz.prog 89 #[v0, v1] w (after Kp K) :=
  calls_of_shape (calls_of_cev wide Tryz.func89 (an := strings_trimRightByte_an) (args := [v0, v1]) (cast (congrFun (strings_trimRightByte_eq v0 v1 Kp K) w).symm h))
theorem strings_trimRightByte_cn {v0 v1 : Value} {W : World} {α : Type} {A : List HP} {r : α → Value} {B : α → List HP} (h : ∀ F, Ent W (A ++ F) (strings_trimRightByte v0 v1 noP fun v w => ∃ x, v = r x ∧ sat W (B x ++ F) w)) : Cn Tryz.prog 89 [v0, v1] W A r B :=
  Cn.of (shape := strings_trimRightByte v0 v1) Tryz.call89 (fun h => strings_trimRightByte_calls h) h
theorem strings_trimRightByte_cnP {v0 v1 : Value} {W : World} {α β : Type} {A : List HP} {r : α → Value} {B : α → List HP} {pc : β → List PanicEntry} {Bp : β → List HP} (h : ∀ F, Ent W (A ++ F) (strings_trimRightByte v0 v1 (fun ch w => ∃ y, ch = pc y ∧ sat W (Bp y ++ F) w) fun v w => ∃ x, v = r x ∧ sat W (B x ++ F) w)) : CnP Tryz.prog 89 [v0, v1] W A r B pc Bp :=
  CnP.of (shape := strings_trimRightByte v0 v1) Tryz.call89 (fun h => strings_trimRightByte_calls h) h

/-- strings_makeASCIISet -/
def strings_makeASCIISet (v0 : Value) (Kp : PK) (K : Value → WP) : WP :=
  opN Tryz.prog (sAlloc 145) Kp fun x2 =>
  loop1 (fun I1 m1 _ y4 =>
   opN Tryz.prog (sLen #[9] 3 [v0]) Kp fun x8 =>
   opN Tryz.prog (sBin .lss 3 y4 x8) Kp fun x9 =>
   condS x9
   (opN Tryz.prog (sIx 9 v0 y4) Kp fun x14 =>
    opN Tryz.prog (sBin .geq 5 x14 (.int .u8 128)) Kp fun x16 =>
    condS x16
    (opN Tryz.prog (sLoad 145 x2) Kp fun x17 =>
     opN Tryz.prog (sStore 145 x2 x17) Kp fun _ =>
     (stS Tryz.prog (sRes 145 x2) fun r0 => K (.tuple #[r0, (.bool false)])))
    (opN Tryz.prog (sIA 145 x2 x14) Kp fun x19 =>
     opN Tryz.prog (sStore 4 x19 (.bool true)) Kp fun _ =>
     opN Tryz.prog (sBin .add 3 y4 (.int .i64 1)) Kp fun x11 =>
     next1 I1 m1 x11))
   (opN Tryz.prog (sLoad 145 x2) Kp fun x20 =>
    opN Tryz.prog (sStore 145 x2 x20) Kp fun _ =>
    (stS Tryz.prog (sRes 145 x2) fun r0 => K (.tuple #[r0, (.bool true)])))) (.int .i64 0)
def strings_makeASCIISet_an : Ann := { cuts := [], blks := [], loops := [(2, [4])], drs := [] }
theorem strings_makeASCIISet_eq (v0 : Value) (Kp : PK) (K : Value → WP) : cevF Tryz.prog strings_makeASCIISet_an Tryz.f90 [v0] Kp K = strings_makeASCIISet v0 Kp K := by kernel_rfl
theorem strings_makeASCIISet_calls {v0 : Value} {Kp : PK} {K : Value → WP} {w : World} (h : strings_makeASCIISet v0 Kp K w) : Calls Tryz.prog 90 #[v0] w (after Kp K) :=
  calls_of_shape (calls_of_cev wide Tryz.func90 (an := strings_makeASCIISet_an) (args := [v0]) (cast (congrFun (strings_makeASCIISet_eq v0 Kp K) w).symm h))
theorem strings_makeASCIISet_cn {v0 : Value} {W : World} {α : Type} {A : List HP} {r : α → Value} {B : α → List HP} (h : ∀ F, Ent W (A ++ F) (strings_makeASCIISet v0 noP fun v w => ∃ x, v = r x ∧ sat W (B x ++ F) w)) : Cn Tryz.prog 90 [v0] W A r B :=
  Cn.of (shape := strings_makeASCIISet v0) Tryz.call90 (fun h => strings_makeASCIISet_calls h) h
theorem strings_makeASCIISet_cnP {v0 : Value} {W : World} {α β : Type} {A : List HP} {r : α → Value} {B : α → List HP} {pc : β → List PanicEntry} {Bp : β → List HP} (h : ∀ F, Ent W (A ++ F) (strings_makeASCIISet v0 (fun ch w => ∃ y, ch = pc y ∧ sat W (Bp y ++ F) w) fun v w => ∃ x, v = r x ∧ sat W (B x ++ F) w)) : CnP Tryz.prog 90 [v0] W A r B pc Bp :=
  CnP.of (shape := strings_makeASCIISet v0) Tryz.call90 (fun h => strings_makeASCIISet_calls h) h

/-- strings_trimLeftASCII -/
def strings_trimLeftASCII (v0 v1 : Value) (Kp : PK) (K : Value → WP) : WP :=
  loop1 (fun I1 m1 _ y0 =>
   opN Tryz.prog (sLen #[9] 3 [y0]) Kp fun x6 =>
   opN Tryz.prog (sBin .gtr 3 x6 (.int .i64 0)) Kp fun x7 =>
   condS x7
   (opN Tryz.prog (sIx 9 y0 (.int .i64 0)) Kp fun x10 =>
    opN Tryz.prog (sCall (fn 101) [v1, x10]) Kp fun x11 =>
    opN Tryz.prog (sUn .not x11) Kp fun x12 =>
    condS x12
    (K y0)
    (opN Tryz.prog (sSl 9 y0 (some (.int .i64 1)) none none) Kp fun x14 =>
     next1 I1 m1 x14))
   (K y0)) v0
def strings_trimLeftASCII_an : Ann := { cuts := [], blks := [], loops := [(1, [0])], drs := [] }
theorem strings_trimLeftASCII_eq (v0 v1 : Value) (Kp : PK) (K : Value → WP) : cevF Tryz.prog strings_trimLeftASCII_an Tryz.f91 [v0, v1] Kp K = strings_trimLeftASCII v0 v1 Kp K := by kernel_rfl
theorem strings_trimLeftASCII_calls {v0 v1 : Value} {Kp : PK} {K : Value → WP} {w : World} (h : strings_trimLeftASCII v0 v1 Kp K w) : Calls Tryz.prog 91 #[v0, v1] w (after Kp K) :=
  calls_of_shape (calls_of_cev wide Tryz.func91 (an := strings_trimLeftASCII_an) (args := [v0, v1]) (cast (congrFun (strings_trimLeftASCII_eq v0 v1 Kp K) w).symm h))
theorem strings_trimLeftASCII_cn {v0 v1 : Value} {W : World} {α : Type} {A : List HP} {r : α → Value} {B : α → List HP} (h : ∀ F, Ent W (A ++ F) (strings_trimLeftASCII v0 v1 noP fun v w => ∃ x, v = r x ∧ sat W (B x ++ F) w)) : Cn Tryz.prog 91 [v0, v1] W A r B :=
  Cn.of (shape := strings_trimLeftASCII v0 v1) Tryz.call91 (fun h => strings_trimLeftASCII_calls h) h
theorem strings_trimLeftASCII_cnP {v0 v1 : Value} {W : World} {α β : Type} {A : List HP} {r : α → Value} {B : α → List HP} {pc : β → List PanicEntry} {Bp : β → List HP} (h : ∀ F, Ent W (A ++ F) (strings_trimLeftASCII v0 v1 (fun ch w => ∃ y, ch = pc y ∧ sat W (Bp y ++ F) w) fun v w => ∃ x, v = r x ∧ sat W (B x ++ F) w)) : CnP Tryz.prog 91 [v0, v1] W A r B pc Bp :=
  CnP.of (shape := strings_trimLeftASCII v0 v1) Tryz.call91 (fun h => strings_trimLeftASCII_calls h) h

/-- strings_trimRightASCII -/
def strings_trimRightASCII (v0 v1 : Value) (Kp : PK) (K : Value → WP) : WP :=
  loop1 (fun I1 m1 _ y0 =>
   opN Tryz.prog (sLen #[9] 3 [y0]) Kp fun x6 =>
   opN Tryz.prog (sBin .gtr 3 x6 (.int .i64 0)) Kp fun x7 =>
   condS x7
   (opN Tryz.prog (sLen #[9] 3 [y0]) Kp fun x11 =>
    opN Tryz.prog (sBin .sub 3 x11 (.int .i64 1)) Kp fun x12 =>
    opN Tryz.prog (sIx 9 y0 x12) Kp fun x13 =>
    opN Tryz.prog (sCall (fn 101) [v1, x13]) Kp fun x14 =>
    opN Tryz.prog (sUn .not x14) Kp fun x15 =>
    condS x15
    (K y0)
    (opN Tryz.prog (sLen #[9] 3 [y0]) Kp fun x18 =>
     opN Tryz.prog (sBin .sub 3 x18 (.int .i64 1)) Kp fun x19 =>
     opN Tryz.prog (sSl 9 y0 none (some x19) none) Kp fun x20 =>
     next1 I1 m1 x20))
   (K y0)) v0
def strings_trimRightASCII_an : Ann := { cuts := [], blks := [], loops := [(1, [0])], drs := [] }
theorem strings_trimRightASCII_eq (v0 v1 : Value) (Kp : PK) (K : Value → WP) : cevF Tryz.prog strings_trimRightASCII_an Tryz.f92 [v0, v1] Kp K = strings_trimRightASCII v0 v1 Kp K := by kernel_rfl
theorem strings_trimRightASCII_calls {v0 v1 : Value} {Kp : PK} {K : Value → WP} {w : World} (h : strings_trimRightASCII v0 v1 Kp K w) : Calls Tryz.prog 92 #[v0, v1] w (after Kp K) :=
  calls_of_shape (calls_of_cev wide Tryz.func92 (an := strings_trimRightASCII_an) (args := [v0, v1]) (cast (congrFun (strings_trimRightASCII_eq v0 v1 Kp K) w).symm h))
theorem strings_trimRightASCII_cn {v0 v1 : Value} {W : World} {α : Type} {A : List HP} {r : α → Value} {B : α → List HP} (h : ∀ F, Ent W (A ++ F) (strings_trimRightASCII v0 v1 noP fun v w => ∃ x, v = r x ∧ sat W (B x ++ F) w)) : Cn Tryz.prog 92 [v0, v1] W A r B :=
  Cn.of (shape := strings_trimRightASCII v0 v1) Tryz.call92 (fun h => strings_trimRightASCII_calls h) h
theorem strings_trimRightASCII_cnP {v0 v1 : Value} {W : World} {α β : Type} {A : List HP} {r : α → Value} {B : α → List HP} {pc : β → List PanicEntry} {Bp : β → List HP} (h : ∀ F, Ent W (A ++ F) (strings_trimRightASCII v0 v1 (fun ch w => ∃ y, ch = pc y ∧ sat W (Bp y ++ F) w) fun v w => ∃ x, v = r x ∧ sat W (B x ++ F) w)) : CnP Tryz.prog 92 [v0, v1] W A r B pc Bp :=
  CnP.of (shape := strings_trimRightASCII v0 v1) Tryz.call92 (fun h => strings_trimRightASCII_calls h) h

/-- strings_trimLeftUnicode -/
def strings_trimLeftUnicode (v0 v1 : Value) (Kp : PK) (K : Value → WP) : WP :=
  loop1 (fun I1 m1 _ y0 =>
   opN Tryz.prog (sLen #[9] 3 [y0]) Kp fun x8 =>
   opN Tryz.prog (sBin .gtr 3 x8 (.int .i64 0)) Kp fun x9 =>
   condS x9
   (opN Tryz.prog (sCall (fn 102) [y0]) Kp fun x12 =>
    opN Tryz.prog (sExt x12 0) Kp fun x13 =>
    opN Tryz.prog (sExt x12 1) Kp fun x14 =>
    opN Tryz.prog (sCall (fn 103) [v1, x13]) Kp fun x17 =>
    opN Tryz.prog (sUn .not x17) Kp fun x18 =>
    condS x18
    (K y0)
    (opN Tryz.prog (sSl 9 y0 (some x14) none none) Kp fun x21 =>
     next1 I1 m1 x21))
   (K y0)) v0
def strings_trimLeftUnicode_an : Ann := { cuts := [], blks := [], loops := [(1, [0])], drs := [] }
theorem strings_trimLeftUnicode_eq (v0 v1 : Value) (Kp : PK) (K : Value → WP) : cevF Tryz.prog strings_trimLeftUnicode_an Tryz.f93 [v0, v1] Kp K = strings_trimLeftUnicode v0 v1 Kp K := by kernel_rfl
theorem strings_trimLeftUnicode_calls {v0 v1 : Value} {Kp : PK} {K : Value → WP} {w : World} (h : strings_trimLeftUnicode v0 v1 Kp K w) : Calls Tryz.prog 93 #[v0, v1] w (after Kp K) :=
  calls_of_shape (calls_of_cev wide Tryz.func93 (an := strings_trimLeftUnicode_an) (args := [v0, v1]) (cast (congrFun (strings_trimLeftUnicode_eq v0 v1 Kp K) w).symm h))
theorem strings_trimLeftUnicode_cn {v0 v1 : Value} {W : World} {α : Type} {A : List HP} {r : α → Value} {B : α → List HP} (h : ∀ F, Ent W (A ++ F) (strings_trimLeftUnicode v0 v1 noP fun v w => ∃ x, v = r x ∧ sat W (B x ++ F) w)) : Cn Tryz.prog 93 [v0, v1] W A r B :=
  Cn.of (shape := strings_trimLeftUnicode v0 v1) Tryz.call93 (fun h => strings_trimLeftUnicode_calls h) h
theorem strings_trimLeftUnicode_cnP {v0 v1 : Value} {W : World} {α β : Type} {A : List HP} {r : α → Value} {B : α → List HP} {pc : β → List PanicEntry} {Bp : β → List HP} (h : ∀ F, Ent W (A ++ F) (strings_trimLeftUnicode v0 v1 (fun ch w => ∃ y, ch = pc y ∧ sat W (Bp y ++ F) w) fun v w => ∃ x, v = r x ∧ sat W (B x ++ F) w)) : CnP Tryz.prog 93 [v0, v1] W A r B pc Bp :=
  CnP.of (shape := strings_trimLeftUnicode v0 v1) Tryz.call93 (fun h => strings_trimLeftUnicode_calls h) h

/-- strings_trimRightUnicode -/
def strings_trimRightUnicode (v0 v1 : Value) (Kp : PK) (K : Value → WP) : WP :=
  loop1 (fun I1 m1 _ y0 =>
   opN Tryz.prog (sLen #[9] 3 [y0]) Kp fun x8 =>
   opN Tryz.prog (sBin .gtr 3 x8 (.int .i64 0)) Kp fun x9 =>
   condS x9
   (opN Tryz.prog (sLen #[9] 3 [y0]) Kp fun x12 =>
    opN Tryz.prog (sBin .sub 3 x12 (.int .i64 1)) Kp fun x13 =>
    opN Tryz.prog (sIx 9 y0 x13) Kp fun x14 =>
    opN Tryz.prog (sConv 5 21 x14) Kp fun x15 =>
    cut2 (fun J1 =>
     opN Tryz.prog (sBin .geq 21 x15 (.int .i32 128)) Kp fun x17 =>
     condS x17
     (opN Tryz.prog (sCall (fn 104) [y0]) Kp fun x20 =>
      opN Tryz.prog (sExt x20 0) Kp fun x21 =>
      opN Tryz.prog (sExt x20 1) Kp fun x22 =>
      J1 x21 x22)
     (J1 x15 (.int .i64 1))) fun _ z5 z6 =>
    opN Tryz.prog (sCall (fn 103) [v1, z5]) Kp fun x25 =>
    opN Tryz.prog (sUn .not x25) Kp fun x26 =>
    condS x26
    (K y0)
    (opN Tryz.prog (sLen #[9] 3 [y0]) Kp fun x29 =>
     opN Tryz.prog (sBin .sub 3 x29 z6) Kp fun x31 =>
     opN Tryz.prog (sSl 9 y0 none (some x31) none) Kp fun x32 =>
     next1 I1 m1 x32))
   (K y0)) v0
def strings_trimRightUnicode_an : Ann := { cuts := [(5, [5, 6])], blks := [], loops := [(1, [0])], drs := [] }
theorem strings_trimRightUnicode_eq (v0 v1 : Value) (Kp : PK) (K : Value → WP) : cevF Tryz.prog strings_trimRightUnicode_an Tryz.f94 [v0, v1] Kp K = strings_trimRightUnicode v0 v1 Kp K := by kernel_rfl
theorem strings_trimRightUnicode_calls {v0 v1 : Value} {Kp : PK} {K : Value → WP} {w : World} (h : strings_trimRightUnicode v0 v1 Kp K w) : Calls Tryz.prog 94 #[v0, v1] w (after Kp K) :=
  calls_of_shape (calls_of_cev wide Tryz.func94 (an := strings_trimRightUnicode_an) (args := [v0, v1]) (cast (congrFun (strings_trimRightUnicode_eq v0 v1 Kp K) w).symm h))
theorem strings_trimRightUnicode_cn {v0 v1 : Value} {W : World} {α : Type} {A : List HP} {r : α → Value} {B : α → List HP} (h : ∀ F, Ent W (A ++ F) (strings_trimRightUnicode v0 v1 noP fun v w => ∃ x, v = r x ∧ sat W (B x ++ F) w)) : Cn Tryz.prog 94 [v0, v1] W A r B :=
  Cn.of (shape := strings_trimRightUnicode v0 v1) Tryz.call94 (fun h => strings_trimRightUnicode_calls h) h
theorem strings_trimRightUnicode_cnP {v0 v1 : Value} {W : World} {α β : Type} {A : List HP} {r : α → Value} {B : α → List HP} {pc : β → List PanicEntry} {Bp : β → List HP} (h : ∀ F, Ent W (A ++ F) (strings_trimRightUnicode v0 v1 (fun ch w => ∃ y, ch = pc y ∧ sat W (Bp y ++ F) w) fun v w => ∃ x, v = r x ∧ sat W (B x ++ F) w)) : CnP Tryz.prog 94 [v0, v1] W A r B pc Bp :=
  CnP.of (shape := strings_trimRightUnicode v0 v1) Tryz.call94 (fun h => strings_trimRightUnicode_calls h) h

/-- fields_kind_fields_Tag_elements_1 -/
def fields_kind_fields_Tag_elements_1 (v0 v1 v2 : Value) (Kp : PK) (K : Value → WP) : WP :=
  loop3 (fun I1 m1 _ y4 y5 y6 =>
   opN Tryz.prog (sLoad 9 v1) Kp fun x11 =>
   opN Tryz.prog (sLen #[9] 3 [x11]) Kp fun x12 =>
   opN Tryz.prog (sBin .lss 3 y6 x12) Kp fun x13 =>
   condS x13
   (opN Tryz.prog (sLoad 9 v1) Kp fun x16 =>
    opN Tryz.prog (sIx 9 x16 y6) Kp fun x18 =>
    opN Tryz.prog (sEq .eql 5 (.tmp 20) (.const (.int .u8 92)) x18 (.int .u8 92)) Kp fun x21 =>
    gdK x21 true (fun k => k y4) fun x23 =>
    opN Tryz.prog (sPick x21 x23 (.bool false)) Kp fun x24 =>
    gdK x24 true (opN Tryz.prog (sFA 93 v2 1) Kp) fun x26 =>
    gdK x24 true (opN Tryz.prog (sLoad 4 x26) Kp) fun x27 =>
    opN Tryz.prog (sPick x24 x27 (.bool false)) Kp fun x28 =>
    condS x28
    (opN Tryz.prog (sBin .add 3 y6 (.int .i64 1)) Kp fun x30 =>
     opN Tryz.prog (sBin .add 3 x30 (.int .i64 1)) Kp fun x15 =>
     next3 I1 m1 y4 y5 x15)
    (opN Tryz.prog (sEq .eql 5 (.tmp 32) (.const (.int .u8 34)) x18 (.int .u8 34)) Kp fun x33 =>
     gdK x33 true (opN Tryz.prog (sFA 93 v2 0) Kp) fun x35 =>
     gdK x33 true (opN Tryz.prog (sLoad 4 x35) Kp) fun x36 =>
     opN Tryz.prog (sPick x33 x36 (.bool false)) Kp fun x37 =>
     condS x37
     (opN Tryz.prog (sUn .not y4) Kp fun x39 =>
      opN Tryz.prog (sBin .add 3 y6 (.int .i64 1)) Kp fun x15 =>
      next3 I1 m1 x39 y5 x15)
     (opN Tryz.prog (sEq .eql 5 (.tmp 41) (.const (.int .u8 44)) x18 (.int .u8 44)) Kp fun x42 =>
      gdK x42 true (fun k => k y4) fun x44 =>
      gdK x42 true (opN Tryz.prog (sUn .not x44) Kp) fun x45 =>
      opN Tryz.prog (sPick x42 x45 (.bool false)) Kp fun x46 =>
      condS x46
      (opN Tryz.prog (sLoad 9 v1) Kp fun x47 =>
       opN Tryz.prog (sSl 9 x47 (some y5) (some y6) none) Kp fun x50 =>
       opN Tryz.prog (sCall (fn 44) [x50]) Kp fun x51 =>
       opN Tryz.prog (sEq .neq 9 (.tmp 52) (.const (.string ⟨#[]⟩)) x51 (.string ⟨#[]⟩)) Kp fun x53 =>
       gdK x53 true (fun k => k v0) fun x55 =>
       gdK x53 true (fun k => k x51) fun x56 =>
       gdK x53 true (opN Tryz.prog (sCall x55 [x56]) Kp) fun x57 =>
       gdK x53 true (opN Tryz.prog (sUn .not x57) Kp) fun x58 =>
       opN Tryz.prog (sPick x53 x58 (.bool false)) Kp fun x59 =>
       condS x59
       (K (.tuple #[]))
       (opN Tryz.prog (sBin .add 3 y6 (.int .i64 1)) Kp fun x61 =>
        opN Tryz.prog (sBin .add 3 y6 (.int .i64 1)) Kp fun x15 =>
        next3 I1 m1 y4 x61 x15))
      (opN Tryz.prog (sBin .add 3 y6 (.int .i64 1)) Kp fun x15 =>
       next3 I1 m1 y4 y5 x15))))
   (opN Tryz.prog (sLoad 9 v1) Kp fun x62 =>
    opN Tryz.prog (sSl 9 x62 (some y5) none none) Kp fun x64 =>
    opN Tryz.prog (sCall (fn 44) [x64]) Kp fun x65 =>
    opN Tryz.prog (sEq .neq 9 (.tmp 66) (.const (.string ⟨#[]⟩)) x65 (.string ⟨#[]⟩)) Kp fun x67 =>
    condS x67
    (opN Tryz.prog (sCall v0 [x65]) Kp fun x70 =>
     K (.tuple #[]))
    (K (.tuple #[])))) (.bool false) (.int .i64 0) (.int .i64 0)
def fields_kind_fields_Tag_elements_1_an : Ann := { cuts := [], blks := [], loops := [(2, [4, 5, 6])], drs := [] }
theorem fields_kind_fields_Tag_elements_1_eq (v0 v1 v2 : Value) (Kp : PK) (K : Value → WP) : cevF Tryz.prog fields_kind_fields_Tag_elements_1_an Tryz.f95 [v0, v1, v2] Kp K = fields_kind_fields_Tag_elements_1 v0 v1 v2 Kp K := by kernel_rfl
theorem fields_kind_fields_Tag_elements_1_calls {v0 v1 v2 : Value} {Kp : PK} {K : Value → WP} {w : World} (h : fields_kind_fields_Tag_elements_1 v0 v1 v2 Kp K w) : Calls Tryz.prog 95 #[v0, v1, v2] w (after Kp K) :=
  calls_of_shape (calls_of_cev wide Tryz.func95 (an := fields_kind_fields_Tag_elements_1_an) (args := [v0, v1, v2]) (cast (congrFun (fields_kind_fields_Tag_elements_1_eq v0 v1 v2 Kp K) w).symm h))
theorem fields_kind_fields_Tag_elements_1_cn {v0 v1 v2 : Value} {W : World} {α : Type} {A : List HP} {r : α → Value} {B : α → List HP} (h : ∀ F, Ent W (A ++ F) (fields_kind_fields_Tag_elements_1 v0 v1 v2 noP fun v w => ∃ x, v = r x ∧ sat W (B x ++ F) w)) : Cn Tryz.prog 95 [v0, v1, v2] W A r B :=
  Cn.of (shape := fields_kind_fields_Tag_elements_1 v0 v1 v2) Tryz.call95 (fun h => fields_kind_fields_Tag_elements_1_calls h) h
theorem fields_kind_fields_Tag_elements_1_cnP {v0 v1 v2 : Value} {W : World} {α β : Type} {A : List HP} {r : α → Value} {B : α → List HP} {pc : β → List PanicEntry} {Bp : β → List HP} (h : ∀ F, Ent W (A ++ F) (fields_kind_fields_Tag_elements_1 v0 v1 v2 (fun ch w => ∃ y, ch = pc y ∧ sat W (Bp y ++ F) w) fun v w => ∃ x, v = r x ∧ sat W (B x ++ F) w)) : CnP Tryz.prog 95 [v0, v1, v2] W A r B pc Bp :=
  CnP.of (shape := fields_kind_fields_Tag_elements_1 v0 v1 v2) Tryz.call95 (fun h => fields_kind_fields_Tag_elements_1_calls h) h

/-- stringslite_HasPrefix -/
def stringslite_HasPrefix (v0 v1 : Value) (Kp : PK) (K : Value → WP) : WP :=
  opN Tryz.prog (sLen #[9] 3 [v0]) Kp fun x6 =>
  opN Tryz.prog (sLen #[9] 3 [v1]) Kp fun x8 =>
  opN Tryz.prog (sBin .geq 3 x6 x8) Kp fun x9 =>
  gdK x9 true (fun k => k v0) fun x11 =>
  gdK x9 true (fun k => k v1) fun x12 =>
  gdK x9 true (opN Tryz.prog (sLen #[9] 3 [x12]) Kp) fun x13 =>
  gdK x9 true (opN Tryz.prog (sSl 9 x11 none (some x13) none) Kp) fun x14 =>
  gdK x9 true (fun k => k v1) fun x15 =>
  gdK x9 true (opN Tryz.prog (sEq .eql 9 (.tmp 14) (.tmp 15) x14 x15) Kp) fun x16 =>
  opN Tryz.prog (sPick x9 x16 (.bool false)) Kp fun x17 =>
  K x17
def stringslite_HasPrefix_an : Ann := { cuts := [], blks := [], loops := [], drs := [] }
theorem stringslite_HasPrefix_eq (v0 v1 : Value) (Kp : PK) (K : Value → WP) : cevF Tryz.prog stringslite_HasPrefix_an Tryz.f98 [v0, v1] Kp K = stringslite_HasPrefix v0 v1 Kp K := by kernel_rfl
theorem stringslite_HasPrefix_calls {v0 v1 : Value} {Kp : PK} {K : Value → WP} {w : World} (h : stringslite_HasPrefix v0 v1 Kp K w) : Calls Tryz.prog 98 #[v0, v1] w (after Kp K) :=
  calls_of_shape (calls_of_cev wide Tryz.func98 (an := stringslite_HasPrefix_an) (args := [v0, v1]) (cast (congrFun (stringslite_HasPrefix_eq v0 v1 Kp K) w).symm h))
theorem stringslite_HasPrefix_cn {v0 v1 : Value} {W : World} {α : Type} {A : List HP} {r : α → Value} {B : α → List HP} (h : ∀ F, Ent W (A ++ F) (stringslite_HasPrefix v0 v1 noP fun v w => ∃ x, v = r x ∧ sat W (B x ++ F) w)) : Cn Tryz.prog 98 [v0, v1] W A r B :=
  Cn.of (shape := stringslite_HasPrefix v0 v1) Tryz.call98 (fun h => stringslite_HasPrefix_calls h) h
theorem stringslite_HasPrefix_cnP {v0 v1 : Value} {W : World} {α β : Type} {A : List HP} {r : α → Value} {B : α → List HP} {pc : β → List PanicEntry} {Bp : β → List HP} (h : ∀ F, Ent W (A ++ F) (stringslite_HasPrefix v0 v1 (fun ch w => ∃ y, ch = pc y ∧ sat W (Bp y ++ F) w) fun v w => ∃ x, v = r x ∧ sat W (B x ++ F) w)) : CnP Tryz.prog 98 [v0, v1] W A r B pc Bp :=
  CnP.of (shape := stringslite_HasPrefix v0 v1) Tryz.call98 (fun h => stringslite_HasPrefix_calls h) h

/-- ref09_leap -/
def ref09_leap (v0 : Value) (Kp : PK) (K : Value → WP) : WP :=
  opN Tryz.prog (sBin .rem 3 v0 (.int .i64 4)) Kp fun x4 =>
  opN Tryz.prog (sEq .eql 3 (.tmp 4) (.const (.int .i64 0)) x4 (.int .i64 0)) Kp fun x5 =>
  gdK x5 true (fun k => k v0) fun x7 =>
  gdK x5 true (opN Tryz.prog (sBin .rem 3 x7 (.int .i64 100)) Kp) fun x8 =>
  gdK x5 true (opN Tryz.prog (sEq .neq 3 (.tmp 8) (.const (.int .i64 0)) x8 (.int .i64 0)) Kp) fun x9 =>
  opN Tryz.prog (sPick x5 x9 (.bool false)) Kp fun x10 =>
  gdK x10 false (fun k => k v0) fun x12 =>
  gdK x10 false (opN Tryz.prog (sBin .rem 3 x12 (.int .i64 400)) Kp) fun x13 =>
  gdK x10 false (opN Tryz.prog (sEq .eql 3 (.tmp 13) (.const (.int .i64 0)) x13 (.int .i64 0)) Kp) fun x14 =>
  opN Tryz.prog (sPick x10 (.bool true) x14) Kp fun x15 =>
  K x15
def ref09_leap_an : Ann := { cuts := [], blks := [], loops := [], drs := [] }
theorem ref09_leap_eq (v0 : Value) (Kp : PK) (K : Value → WP) : cevF Tryz.prog ref09_leap_an Tryz.f100 [v0] Kp K = ref09_leap v0 Kp K := by kernel_rfl
theorem ref09_leap_calls {v0 : Value} {Kp : PK} {K : Value → WP} {w : World} (h : ref09_leap v0 Kp K w) : Calls Tryz.prog 100 #[v0] w (after Kp K) :=
  calls_of_shape (calls_of_cev wide Tryz.func100 (an := ref09_leap_an) (args := [v0]) (cast (congrFun (ref09_leap_eq v0 Kp K) w).symm h))
theorem ref09_leap_cn {v0 : Value} {W : World} {α : Type} {A : List HP} {r : α → Value} {B : α → List HP} (h : ∀ F, Ent W (A ++ F) (ref09_leap v0 noP fun v w => ∃ x, v = r x ∧ sat W (B x ++ F) w)) : Cn Tryz.prog 100 [v0] W A r B :=
  Cn.of (shape := ref09_leap v0) Tryz.call100 (fun h => ref09_leap_calls h) h
theorem ref09_leap_cnP {v0 : Value} {W : World} {α β : Type} {A : List HP} {r : α → Value} {B : α → List HP} {pc : β → List PanicEntry} {Bp : β → List HP} (h : ∀ F, Ent W (A ++ F) (ref09_leap v0 (fun ch w => ∃ y, ch = pc y ∧ sat W (Bp y ++ F) w) fun v w => ∃ x, v = r x ∧ sat W (B x ++ F) w)) : CnP Tryz.prog 100 [v0] W A r B pc Bp :=
  CnP.of (shape := ref09_leap v0) Tryz.call100 (fun h => ref09_leap_calls h) h

/-- strings_asciiSet_contains -/
def strings_asciiSet_contains (v0 v1 : Value) (Kp : PK) (K : Value → WP) : WP :=
  opN Tryz.prog (sNil v0) Kp fun x7 =>
  opN Tryz.prog (sIA 145 x7 v1) Kp fun x8 =>
  opN Tryz.prog (sLoad 4 x8) Kp fun x9 =>
  K x9
def strings_asciiSet_contains_an : Ann := { cuts := [], blks := [], loops := [], drs := [] }
theorem strings_asciiSet_contains_eq (v0 v1 : Value) (Kp : PK) (K : Value → WP) : cevF Tryz.prog strings_asciiSet_contains_an Tryz.f101 [v0, v1] Kp K = strings_asciiSet_contains v0 v1 Kp K := by kernel_rfl
theorem strings_asciiSet_contains_calls {v0 v1 : Value} {Kp : PK} {K : Value → WP} {w : World} (h : strings_asciiSet_contains v0 v1 Kp K w) : Calls Tryz.prog 101 #[v0, v1] w (after Kp K) :=
  calls_of_shape (calls_of_cev wide Tryz.func101 (an := strings_asciiSet_contains_an) (args := [v0, v1]) (cast (congrFun (strings_asciiSet_contains_eq v0 v1 Kp K) w).symm h))
theorem strings_asciiSet_contains_cn {v0 v1 : Value} {W : World} {α : Type} {A : List HP} {r : α → Value} {B : α → List HP} (h : ∀ F, Ent W (A ++ F) (strings_asciiSet_contains v0 v1 noP fun v w => ∃ x, v = r x ∧ sat W (B x ++ F) w)) : Cn Tryz.prog 101 [v0, v1] W A r B :=
  Cn.of (shape := strings_asciiSet_contains v0 v1) Tryz.call101 (fun h => strings_asciiSet_contains_calls h) h
theorem strings_asciiSet_contains_cnP {v0 v1 : Value} {W : World} {α β : Type} {A : List HP} {r : α → Value} {B : α → List HP} {pc : β → List PanicEntry} {Bp : β → List HP} (h : ∀ F, Ent W (A ++ F) (strings_asciiSet_contains v0 v1 (fun ch w => ∃ y, ch = pc y ∧ sat W (Bp y ++ F) w) fun v w => ∃ x, v = r x ∧ sat W (B x ++ F) w)) : CnP Tryz.prog 101 [v0, v1] W A r B pc Bp :=
  CnP.of (shape := strings_asciiSet_contains v0 v1) Tryz.call101 (fun h => strings_asciiSet_contains_calls h) h

/-- strings_ContainsRune -/
def strings_ContainsRune (v0 v1 : Value) (Kp : PK) (K : Value → WP) : WP :=
  opN Tryz.prog (sCall (fn 106) [v0, v1]) Kp fun x7 =>
  opN Tryz.prog (sBin .geq 3 x7 (.int .i64 0)) Kp fun x8 =>
  K x8
def strings_ContainsRune_an : Ann := { cuts := [], blks := [], loops := [], drs := [] }
theorem strings_ContainsRune_eq (v0 v1 : Value) (Kp : PK) (K : Value → WP) : cevF Tryz.prog strings_ContainsRune_an Tryz.f103 [v0, v1] Kp K = strings_ContainsRune v0 v1 Kp K := by kernel_rfl
theorem strings_ContainsRune_calls {v0 v1 : Value} {Kp : PK} {K : Value → WP} {w : World} (h : strings_ContainsRune v0 v1 Kp K w) : Calls Tryz.prog 103 #[v0, v1] w (after Kp K) :=
  calls_of_shape (calls_of_cev wide Tryz.func103 (an := strings_ContainsRune_an) (args := [v0, v1]) (cast (congrFun (strings_ContainsRune_eq v0 v1 Kp K) w).symm h))
theorem strings_ContainsRune_cn {v0 v1 : Value} {W : World} {α : Type} {A : List HP} {r : α → Value} {B : α → List HP} (h : ∀ F, Ent W (A ++ F) (strings_ContainsRune v0 v1 noP fun v w => ∃ x, v = r x ∧ sat W (B x ++ F) w)) : Cn Tryz.prog 103 [v0, v1] W A r B :=
  Cn.of (shape := strings_ContainsRune v0 v1) Tryz.call103 (fun h => strings_ContainsRune_calls h) h
theorem strings_ContainsRune_cnP {v0 v1 : Value} {W : World} {α β : Type} {A : List HP} {r : α → Value} {B : α → List HP} {pc : β → List PanicEntry} {Bp : β → List HP} (h : ∀ F, Ent W (A ++ F) (strings_ContainsRune v0 v1 (fun ch w => ∃ y, ch = pc y ∧ sat W (Bp y ++ F) w) fun v w => ∃ x, v = r x ∧ sat W (B x ++ F) w)) : CnP Tryz.prog 103 [v0, v1] W A r B pc Bp :=
  CnP.of (shape := strings_ContainsRune v0 v1) Tryz.call103 (fun h => strings_ContainsRune_calls h) h

/-- bytealg_Cutover -/
def bytealg_Cutover (v0 : Value) (Kp : PK) (K : Value → WP) : WP :=
  opN Tryz.prog (sBin .add 3 v0 (.int .i64 16)) Kp fun x4 =>
  opN Tryz.prog (sBin .quo 3 x4 (.int .i64 8)) Kp fun x5 =>
  K x5
def bytealg_Cutover_an : Ann := { cuts := [], blks := [], loops := [], drs := [] }
theorem bytealg_Cutover_eq (v0 : Value) (Kp : PK) (K : Value → WP) : cevF Tryz.prog bytealg_Cutover_an Tryz.f109 [v0] Kp K = bytealg_Cutover v0 Kp K := by kernel_rfl
theorem bytealg_Cutover_calls {v0 : Value} {Kp : PK} {K : Value → WP} {w : World} (h : bytealg_Cutover v0 Kp K w) : Calls Tryz.prog 109 #[v0] w (after Kp K) :=
  calls_of_shape (calls_of_cev wide Tryz.func109 (an := bytealg_Cutover_an) (args := [v0]) (cast (congrFun (bytealg_Cutover_eq v0 Kp K) w).symm h))
theorem bytealg_Cutover_cn {v0 : Value} {W : World} {α : Type} {A : List HP} {r : α → Value} {B : α → List HP} (h : ∀ F, Ent W (A ++ F) (bytealg_Cutover v0 noP fun v w => ∃ x, v = r x ∧ sat W (B x ++ F) w)) : Cn Tryz.prog 109 [v0] W A r B :=
  Cn.of (shape := bytealg_Cutover v0) Tryz.call109 (fun h => bytealg_Cutover_calls h) h
theorem bytealg_Cutover_cnP {v0 : Value} {W : World} {α β : Type} {A : List HP} {r : α → Value} {B : α → List HP} {pc : β → List PanicEntry} {Bp : β → List HP} (h : ∀ F, Ent W (A ++ F) (bytealg_Cutover v0 (fun ch w => ∃ y, ch = pc y ∧ sat W (Bp y ++ F) w) fun v w => ∃ x, v = r x ∧ sat W (B x ++ F) w)) : CnP Tryz.prog 109 [v0] W A r B pc Bp :=
  CnP.of (shape := bytealg_Cutover v0) Tryz.call109 (fun h => bytealg_Cutover_calls h) h

end Go.Proofs.YtcmpkkkigmheoaaGreatDoor.S
/-! The shapes, all parts. No conditions. -/

/-! Two conditions joined; a store in a row of bytes that a string may share; where a byte is found. No conditions but those that each names. -/
namespace Go.Proofs.YtcmpkkkigmheoaaGreatDoor.FD
open Go Go.Proofs Go.RowKit Go.Proofs.YtcmpkkkigmheoaaGreatDoor.Sh Go.Proofs.YtcmpkkkigmheoaaGreatDoor.Sl Go.Proofs.YtcmpkkkigmheoaaGreatDoor.T
section
variable {P : Program} {W : World} {L L' : List HP} {Kp : PK} {k : Value → WP}
theorem e_and {a b : Bool} {y : Value} {s : Value → Sem Next} (h2 : a = true → RunV P W [] (s y) (.bool b)) (h : Ent W L (k (.bool (a && b)))) :
    Ent W L (gdK (.bool a) true (fun k => k y) fun x => gdK (.bool a) true (opN P (s x) Kp) fun x2 => opN P (sPick (.bool a) x2 (.bool false)) Kp k) := by
  cases a with
  | true =>
    refine e_gdT ?_
    refine e_gdT ?_
    refine e_opN (h2 rfl) Imp.nil ?_
    refine e_opN v_pickT Imp.nil ?_
    simpa using h
  | false =>
    refine e_gdF2 ?_
    refine e_gdF2 ?_
    refine e_opN v_pickF Imp.nil ?_
    simpa using h
theorem e_orand {a b c : Bool} {y : Value} {s1 s2 : Value → Sem Next} (h1 : a = false → RunV P W [] (s1 y) (.bool b)) (h2 : a = false → b = true → RunV P W [] (s2 y) (.bool c)) (h : Ent W L (k (.bool (a || (b && c))))) :
    Ent W L (gdK (.bool a) false (fun k => k y) fun x14 => gdK (.bool a) false (opN P (s1 x14) Kp) fun x15 => gdK (.bool a) false (fun k => k x15) fun x16 => gdK x16 true (fun k => k y) fun x17 => gdK x16 true (opN P (s2 x17) Kp) fun x18 =>
      gdK (.bool a) false (opN P (sPick x16 x18 (.bool false)) Kp) fun x19 => opN P (sPick (.bool a) (.bool true) x19) Kp k) := by
  cases a with
  | true =>
    refine e_gdF1 ?_
    refine e_gdF1 ?_
    refine e_gdF1 ?_
    refine e_gdU ?_
    refine e_gdU ?_
    refine e_gdF1 ?_
    refine e_opN v_pickT Imp.nil ?_
    simpa using h
  | false =>
    refine e_gdT ?_
    refine e_gdT ?_
    refine e_opN (h1 rfl) Imp.nil ?_
    refine e_gdT ?_
    cases b with
    | true =>
      refine e_gdT ?_
      refine e_gdT ?_
      refine e_opN (h2 rfl rfl) Imp.nil ?_
      refine e_gdT ?_
      refine e_opN v_pickT Imp.nil ?_
      refine e_opN v_pickF Imp.nil ?_
      simpa using h
    | false =>
      refine e_gdF2 ?_
      refine e_gdF2 ?_
      refine e_gdT ?_
      refine e_opN v_pickF Imp.nil ?_
      refine e_opN v_pickF Imp.nil ?_
      simpa using h
theorem e_stF {t : TypeId} {g o : Nat} {cs : Array Value} {T : TypeId} {fz : Nat × Nat} {v : Value} [ht : OneT P t] [hv : OC v] (p : Pick L (pt g (.cells cs T fz)) L') (ho : o < cs.size) (hfz : ¬ (fz.1 ≤ o ∧ o < fz.2))
    (h : Ent W (pt g (.cells (cs.setIfInBounds o v) T fz) :: L') (k undef)) : Ent W L (opN P (sStore t (.pointer (some ⟨g, o, none⟩)) v) Kp k) := fun w hw => by
  have hw' := hw.pick p
  have hc : w.cell? ⟨g, o, none⟩ = some cs[o] := by rw [hw'.cell, Array.getElem?_eq_getElem ho]
  have hf : w.frozen? ⟨g, o, none⟩ = false := by
    simp only [World.frozen?, hw'.pt_.1]
    simp
    intro h1
    by_cases c : o < fz.2
    · exact absurd ⟨h1, c⟩ hfz
    · omega
  have hcells : v.cells = #[v] := by exact cells_one hv.one
  refine ⟨?_⟩
  have hr : (sStore t (.pointer (some ⟨g, o, none⟩)) v).run P w = .ok .skip (w.setCell ⟨g, o, none⟩ v) := by
    simp [sStore, Instr.storeAt, Instr.sureAddr, storeVar, ht.size, hcells, storeCells, Addr.add, run_store, hv.one, hc, hf]
  rw [hr]
  exact h _ (hw'.setCell v)
theorem e_sbytesF {s t e : TypeId} {l : List UInt8} [hs : StrT P s] (ht : P.underlying t = some (.slice e)) (he : P.underlying e = some (.int .u8))
    (h : ∀ g c (rest : List Value), Ent W (pt g (.cells (l.map B ++ rest).toArray e (l.length + rest.length, l.length + rest.length + 1)) :: L) (k (.slice (some ⟨g, 0, none⟩) l.length c))) : Ent W L (opN P (sConv s t (txt l)) Kp k) := fun w hw => by
  refine ⟨?_⟩
  have hr := run_bytes_of_string (P := P) w s t e ⟨l.toArray⟩ hs.ut ht he
  have hb : bytesRow ⟨l.toArray⟩ (grownCap w l.length 0 e) = (l.map B ++ (Array.replicate (grownCap w l.length 0 e - l.length) (Value.int .u8 0)).toList).toArray := by
    apply Array.ext'
    simp [bytesRow, B, ByteArray.size]
  have : (sConv s t (txt l)).run P w = .ok (.value (.slice (some ⟨w.heap.size, 0, none⟩) l.length (grownCap w l.length 0 e))) (w.drew.alloc (.cells (bytesRow ⟨l.toArray⟩ (grownCap w l.length 0 e)) e ((bytesRow ⟨l.toArray⟩ (grownCap w l.length 0 e)).size, (bytesRow ⟨l.toArray⟩ (grownCap w l.length 0 e)).size + 1))) := by
    simp [sConv, txt, hr, ByteArray.size]
  rw [this]
  have h2 := (hw.drew).alloc (.cells (bytesRow ⟨l.toArray⟩ (grownCap w l.length 0 e)) e ((bytesRow ⟨l.toArray⟩ (grownCap w l.length 0 e)).size, (bytesRow ⟨l.toArray⟩ (grownCap w l.length 0 e)).size + 1))
  rw [hb] at h2 ⊢
  have hz : ((l.map B ++ (Array.replicate (grownCap w l.length 0 e - l.length) (Value.int .u8 0)).toList).toArray).size = l.length + ((Array.replicate (grownCap w l.length 0 e - l.length) (Value.int .u8 0)).toList).length := by simp
  rw [hz] at h2 ⊢
  exact h _ _ _ _ h2
end
/-- where a byte is found -/
def ixF (l : List UInt8) (c : UInt8) : Int := if c ∈ l then ((l.findIdx (· == c) : Nat) : Int) else -1
theorem firstIdx_eq {l : List UInt8} {c : UInt8} : firstIdx ⟨l.toArray⟩ c = ixF l c := by
  have e : ∀ i, i < l.length → ((⟨l.toArray⟩ : ByteArray)[i]! == c) = (l.getD i 0 == c) := fun i hi => by
    have h2 : i < (⟨l.toArray⟩ : ByteArray).size := hi
    rw [getElem!_pos _ i h2]
    simp [ByteArray.getElem_eq_getElem_data, List.getD_eq_getElem?_getD, hi]
  unfold ixF
  by_cases h : c ∈ l
  · rw [if_pos h]
    have hlt : l.findIdx (· == c) < l.length := List.findIdx_lt_length_of_exists ⟨c, h, by simp⟩
    have hf : (List.range (⟨l.toArray⟩ : ByteArray).size).find? (fun i => (⟨l.toArray⟩ : ByteArray)[i]! == c) = some (l.findIdx (· == c)) := by
      rw [List.find?_eq_some_iff_getElem]
      refine ⟨?_, l.findIdx (· == c), by simpa [ByteArray.size] using hlt, by simp, fun j hj => ?_⟩
      · rw [e _ hlt]
        have := List.findIdx_getElem (w := hlt)
        simpa [List.getD_eq_getElem?_getD, hlt] using this
      · have hjl : j < l.length := by omega
        simp only [List.getElem_range]
        rw [e _ hjl]
        have := List.not_of_lt_findIdx hj
        simpa [List.getD_eq_getElem?_getD, hjl] using this
    unfold firstIdx
    rw [hf]
  · rw [if_neg h]
    have hf : (List.range (⟨l.toArray⟩ : ByteArray).size).find? (fun i => (⟨l.toArray⟩ : ByteArray)[i]! == c) = none := by
      rw [List.find?_eq_none]
      intro i hi
      have hil : i < l.length := by simpa [ByteArray.size] using hi
      rw [e i hil]
      simp [List.getD_eq_getElem?_getD, hil]
      rintro rfl
      exact h (List.getElem_mem hil)
    unfold firstIdx
    rw [hf]
theorem ixF_nn {l : List UInt8} {c : UInt8} : (0 ≤ ixF l c) ↔ c ∈ l := by
  unfold ixF
  by_cases h : c ∈ l
  · rw [if_pos h]; simp [h]
  · rw [if_neg h]; simp [h]
theorem indexByte0 {W : World} {l : List UInt8} {c : UInt8} : Cn Tryz.prog 75 [txt l, Sl.B c] W [] (fun _ : Unit => .int .i64 (ixF l c)) (fun _ => []) := by
  have ext : RunV Tryz.prog W [] (sCall (fn 99) [txt l, Sl.B c]) (.int .i64 (ixF l c)) := fun w _ => by
    have hr : (callFunc 99 #[txt l, Sl.B c]).run Tryz.prog w = .ok (.value (.int .i64 (ixF l c))) w := by
      rw [run_callFunc_extern Tryz.func99 (by kernel_rfl) (by kernel_rfl) (by kernel_rfl) (e := Extern.BytealgIndexByte.indexByte) (by kernel_rfl)]
      have := run_indexByte_string (P := Tryz.prog) ⟨l.toArray⟩ (c.toNat : Int) w
      unfold txt Sl.B
      rw [this]
      simp only [Result.andThen_ok]
      rw [show (↑c.toNat : Int).toNat.toUInt8 = c by simp, firstIdx_eq]
    simp [sCall, Deferred.ofValue, invoke, fn, hr]
  (refine S.stringslite_IndexByte_cn fun F => ?_; unfold S.stringslite_IndexByte; simp only [List.cons_append, List.nil_append])
  refine e_opN ext Imp.nil ?_
  (first | refine e_ret (()) rfl ?_ | refine e_retT (()) ?_)
  (repeat (first | exact Imp.refl | exact Imp.nil | (apply Imp.pick; (focus ((repeat constructor); done))) | refine Imp.drop ?_))
theorem indexByte {W : World} {l : List UInt8} {c : UInt8} : Cn Tryz.prog 57 [txt l, Sl.B c] W [] (fun _ : Unit => .int .i64 (ixF l c)) (fun _ => []) := by
  (refine S.strings_IndexByte_cn fun F => ?_; unfold S.strings_IndexByte; simp only [List.cons_append, List.nil_append])
  (refine' e_call (indexByte0) ?hp fun _ => ?_; (case hp => (repeat (first | exact Picks.nil | (apply Picks.cons; (focus (repeat constructor)))))); (try simp only [List.cons_append, List.nil_append, Bool.not_true, Bool.not_false]))
  (first | refine e_ret (()) rfl ?_ | refine e_retT (()) ?_)
  (repeat (first | exact Imp.refl | exact Imp.nil | (apply Imp.pick; (focus ((repeat constructor); done))) | refine Imp.drop ?_))
end Go.Proofs.YtcmpkkkigmheoaaGreatDoor.FD
/-! A text copied. Its text must not be longer than what a slice may hold. -/
namespace Go.Proofs.YtcmpkkkigmheoaaGreatDoor.FD
open Go Go.Proofs Go.RowKit Go.Proofs.YtcmpkkkigmheoaaGreatDoor.Sh Go.Proofs.YtcmpkkkigmheoaaGreatDoor.Sl Go.Proofs.YtcmpkkkigmheoaaGreatDoor.T
theorem info8 : (Tryz.prog.info? 5).map (fun i => (i.zero, i.size, i.bytes)) = some (some (.int .u8 0), 1, 1) := by kernel_rfl
theorem sat_below {W w w' : World} {L : List HP} (H : sat W L w) (hb : Below w.heap.size w w') : sat W L w' := by
  obtain ⟨h, hl, hh⟩ := H.heap
  refine ⟨⟨hb.os.trans H.base.os, hb.tape.trans H.base.tape, hb.output.trans H.base.output, Nat.le_trans H.base.size hb.size, fun k hk => (hb.block k (Nat.lt_of_lt_of_le hk H.base.size)).trans (H.base.block k hk)⟩, h, hl, fun i o c => ?_⟩
  obtain ⟨h1, h2⟩ := hh i o c
  have hlt : i < w.heap.size := (Array.getElem?_eq_some_iff.1 h2).1
  exact ⟨h1, by rw [hb.block i hlt, h2]⟩
end Go.Proofs.YtcmpkkkigmheoaaGreatDoor.FD
/-! What bytes may be; texts in small letters; tokens. No conditions but those that each names. -/
namespace Go.Proofs.YtcmpkkkigmheoaaGreatDoor.FD
open Go Go.Proofs Go.RowKit Go.Proofs.YtcmpkkkigmheoaaGreatDoor.Sh Go.Proofs.YtcmpkkkigmheoaaGreatDoor.Sl Go.Proofs.YtcmpkkkigmheoaaGreatDoor.T
instance zero256 : ZeroT Tryz.prog 141 (.agg (An 256 fun _ => 0)) := ⟨fun w => (Tryz.zeroValue141 w).trans (by
  have : Tryz.zeroCells141 = An 256 fun _ => 0 := by kernel_rfl
  rw [this])⟩
def u8 (i : Nat) : UInt8 := UInt8.ofNat i
theorem u8_nat {i : Nat} (h : i < 256) : (u8 i).toNat = i := by
  unfold u8
  rw [UInt8.toNat_ofNat']
  omega
def clT (i : Nat) : Int := if tokB (u8 i) then 1 else 0
def clV (i : Nat) : Int := clT i + (if i = 9 ∨ (32 ≤ i ∧ i ≠ 127) then 2 else 0)
def cls (i : Nat) : Int := clV i + (if 65 ≤ i ∧ i ≤ 90 then 4 else 0)
theorem aln_i {i : Nat} (h : i < 256) : ((decide ((97 : Int) ≤ (i : Int)) && decide ((i : Int) ≤ 122)) || (decide ((65 : Int) ≤ (i : Int)) && decide ((i : Int) ≤ 90)) || (decide ((48 : Int) ≤ (i : Int)) && decide ((i : Int) ≤ 57))) = alnB (u8 i) := by
  unfold alnB
  have e := u8_nat h
  simp only [UInt8.le_iff_toNat_le, e]
  rw [← Bool.decide_and, ← Bool.decide_and, ← Bool.decide_and, ← Bool.decide_or, ← Bool.decide_or, decide_eq_decide]
  simp only [show (97 : UInt8).toNat = 97 from rfl, show (122 : UInt8).toNat = 122 from rfl, show (65 : UInt8).toNat = 65 from rfl, show (90 : UInt8).toNat = 90 from rfl, show (48 : UInt8).toNat = 48 from rfl, show (57 : UInt8).toNat = 57 from rfl]
  omega
theorem tokC_b (c : UInt8) : tokC.contains c = true → 32 < c.toNat ∧ c.toNat < 127 := by
  refine all8 (p := fun c => tokC.contains c = true → 32 < c.toNat ∧ c.toNat < 127) ?_ c
  decide +kernel
def clA (i : Nat) (x : Int) : Nat → Int := fun j => if j < i then cls j else if j = i then x else 0
theorem clA_set {i : Nat} {x y : Int} : (An 256 (clA i x)).setIfInBounds i (.int .i64 y) = An 256 (clA i y) := by
  refine An_set.trans (An_congr fun j _ => ?_)
  unfold clA
  by_cases h : j = i
  · subst h; simp
  · simp [h]
theorem clA_at {i : Nat} {x : Int} (h : i < 256) : (An 256 (clA i x))[i]? = some (.int .i64 x) := by
  rw [An_get h]; simp [clA, I]
theorem clA_next {i : Nat} : An 256 (clA i (cls i)) = An 256 (clA (i + 1) 0) := An_congr fun j _ => by
  unfold clA
  by_cases h : j < i
  · rw [if_pos h, if_pos (by omega)]
  · by_cases h2 : j = i
    · subst h2; simp
    · rw [if_neg h, if_neg h2, if_neg (by omega)]; simp
theorem an_one {n : Nat} {f : Nat → Int} : ∀ u ∈ (An n f).toList, u.oneCell' = true := by
  intro u hu
  simp only [An] at hu
  obtain ⟨j, _, rfl⟩ := List.mem_map.1 hu
  rfl
theorem or1 : bitOp .or .i64 0 1 = 1 := by rfl
theorem or2 {x : Int} (h : x = 0 ∨ x = 1) : bitOp .or .i64 x 2 = x + 2 := by rcases h with rfl | rfl <;> rfl
theorem or4 {x : Int} (h : x = 0 ∨ x = 1 ∨ x = 2 ∨ x = 3) : bitOp .or .i64 x 4 = x + 4 := by rcases h with rfl | rfl | rfl | rfl <;> rfl
theorem clT_v (i : Nat) : clT i = 0 ∨ clT i = 1 := by unfold clT; split <;> simp
theorem clV_v (i : Nat) : clV i = 0 ∨ clV i = 1 ∨ clV i = 2 ∨ clV i = 3 := by
  have := clT_v i
  unfold clV
  split <;> omega
theorem classes {W : World} : Cn Tryz.prog 87 [] W [] (fun _ : Unit => .agg (An 256 cls)) (fun _ => []) := by
  (refine S.ascii_classes_cn fun F => ?_; unfold S.ascii_classes; simp only [List.cons_append, List.nil_append])
  refine e_newA fun b0 => ?_
  refine e_newA fun b1 => ?_
  refine e_loop1 (fun m y => [ex fun i : Nat => all [pu (m + i = 256 ∧ y = .int .i64 (i : Int)), pt b1 (.cells (An 256 (clA i 0)) 141 (0, 0)), pt b0 (.cells (An 256 fun _ => 0) 141 (0, 0))]] ++ F) 256 ?_ ?_
  · refine Imp.ex 0 (.all ?_)
    (try simp only [List.cons_append, List.nil_append, -eq_self])
    have e : An 256 (clA 0 0) = An 256 fun _ => 0 := An_congr fun j _ => by unfold clA; simp
    rw [e]
    exact .pu ⟨by omega, rfl⟩ .refl
  intro m ds y
  (try simp only [List.cons_append, List.nil_append, -eq_self])
  refine e_ex Pick.here fun i => e_all Pick.here ?_
  (try simp only [List.cons_append, List.nil_append, -eq_self])
  refine e_pu Pick.here fun hi => ?_
  obtain ⟨hmi, rfl⟩ := hi
  (refine e_ask v_lss Imp.nil (fun h => ?_) (fun h => ?_))
  · have hil : i < 256 := by omega
    refine e_condT ?_
    refine e_opN v_geq Imp.nil ?_
    refine e_and (fun _ => v_leq) ?_
    refine e_orand (fun _ => v_geq) (fun _ _ => v_leq) ?_
    refine e_orand (fun _ => v_geq) (fun _ _ => v_leq) ?_
    rw [aln_i hil]
    refine e_cut0 (pt b1 (.cells (An 256 (clA i (clT i))) 141 (0, 0)) :: pt b0 (.cells (An 256 fun _ => 0) 141 (0, 0)) :: F) ?_ ?_
    · intro ds1
      refine e_cut0 (pt b1 (.cells (An 256 (clA i (clV i))) 141 (0, 0)) :: pt b0 (.cells (An 256 fun _ => 0) 141 (0, 0)) :: F) ?_ ?_
      · intro ds2
        have fin : ∀ x, x = cls i → Ent W (pt b1 (.cells (An 256 (clA i x)) 141 (0, 0)) :: pt b0 (.cells (An 256 fun _ => 0) 141 (0, 0)) :: F) (next1 (fun m y w => sat W ([ex fun i : Nat => all [pu (m + i = 256 ∧ y = .int .i64 (i : Int)), pt b1 (.cells (An 256 (clA i 0)) 141 (0, 0)), pt b0 (.cells (An 256 fun _ => 0) 141 (0, 0))]] ++ F) w) m (.int .i64 ((i : Int) + 1))) := by
          intro x hx
          subst hx
          rw [clA_next]
          refine e_next1 (m - 1) (by omega) (.ex (i + 1) (.all ?_))
          (try simp only [List.cons_append, List.nil_append, -eq_self])
          exact .pu ⟨by omega, rfl⟩ .refl
        refine e_opN v_geq Imp.nil ?_
        refine e_and (fun _ => v_leq) ?_
        rw [← Bool.decide_and]
        by_cases h4 : (65 : Int) ≤ (i : Int) ∧ (i : Int) ≤ 90
        · rw [decide_eq_true h4]
          refine e_condT ?_
          refine e_opN (v_iaA i rfl hil) Imp.nil ?_
          rw [Nat.zero_add, Nat.mul_one]
          refine e_opN (v_ld (clA_at hil)) (.pick .here .nil) ?_
          refine e_opN v_or Imp.nil ?_
          refine e_opN (v_iaA i rfl hil) Imp.nil ?_
          rw [Nat.zero_add, Nat.mul_one]
          refine e_st .here (by rw [An_size]; exact hil) ?_
          rw [clA_set, or4 (clV_v i)]
          (((with_reducible refine e_opN (v_add ?h1 ?h2) Imp.nil ?_); (case h1 => omega); (case h2 => omega)))
          exact fin _ (by unfold cls; rw [if_pos (by omega)])
        · rw [decide_eq_false h4]
          refine e_condF ?_
          (((with_reducible refine e_opN (v_add ?h1 ?h2) Imp.nil ?_); (case h1 => omega); (case h2 => omega)))
          exact fin _ (by unfold cls; rw [if_neg (by omega), Int.add_zero])
      · have fin : ∀ b : Bool, b = decide (i = 9 ∨ (32 ≤ i ∧ i ≠ 127)) → Ent W (pt b1 (.cells (An 256 (clA i (clT i))) 141 (0, 0)) :: pt b0 (.cells (An 256 fun _ => 0) 141 (0, 0)) :: F) (condS (.bool b)
            (opN Tryz.prog (sIA 141 (.pointer (some ⟨b1, 0, none⟩)) (.int .i64 (i : Int))) noP fun x60 =>
              opN Tryz.prog (sLoad 3 x60) noP fun x61 =>
              opN Tryz.prog (sBin .or 3 x61 (.int .i64 2)) noP fun x62 =>
              opN Tryz.prog (sIA 141 (.pointer (some ⟨b1, 0, none⟩)) (.int .i64 (i : Int))) noP fun x63 =>
              opN Tryz.prog (sStore 3 x63 x62) noP fun _ => fun w => sat W (pt b1 (.cells (An 256 (clA i (clV i))) 141 (0, 0)) :: pt b0 (.cells (An 256 fun _ => 0) 141 (0, 0)) :: F) w)
            (fun w => sat W (pt b1 (.cells (An 256 (clA i (clV i))) 141 (0, 0)) :: pt b0 (.cells (An 256 fun _ => 0) 141 (0, 0)) :: F) w)) := by
          intro b hb
          by_cases h2 : i = 9 ∨ (32 ≤ i ∧ i ≠ 127)
          · rw [hb, decide_eq_true h2]
            refine e_condT ?_
            refine e_opN (v_iaA i rfl hil) Imp.nil ?_
            rw [Nat.zero_add, Nat.mul_one]
            refine e_opN (v_ld (clA_at hil)) (.pick .here .nil) ?_
            refine e_opN v_or Imp.nil ?_
            refine e_opN (v_iaA i rfl hil) Imp.nil ?_
            rw [Nat.zero_add, Nat.mul_one]
            refine e_st .here (by rw [An_size]; exact hil) ?_
            rw [clA_set, or2 (clT_v i), show clT i + 2 = clV i by unfold clV; rw [if_pos h2]]
            exact e_sat .refl
          · rw [hb, decide_eq_false h2]
            refine e_condF ?_
            rw [show clT i = clV i by unfold clV; rw [if_neg h2, Int.add_zero]]
            exact e_sat .refl
        refine e_opN v_eql Imp.nil ?_
        refine e_orand (fun _ => v_geq) (fun _ _ => v_neq) ?_
        refine fin _ ?_
        rw [← Bool.decide_and, ← Bool.decide_or, decide_eq_decide]
        omega
    · have finT : tokB (u8 i) = true → Ent W (pt b1 (.cells (An 256 (clA i 0)) 141 (0, 0)) :: pt b0 (.cells (An 256 fun _ => 0) 141 (0, 0)) :: F)
            (opN Tryz.prog (sIA 141 (.pointer (some ⟨b1, 0, none⟩)) (.int .i64 (i : Int))) noP fun x60 =>
              opN Tryz.prog (sLoad 3 x60) noP fun x61 =>
              opN Tryz.prog (sBin .or 3 x61 (.int .i64 1)) noP fun x62 =>
              opN Tryz.prog (sIA 141 (.pointer (some ⟨b1, 0, none⟩)) (.int .i64 (i : Int))) noP fun x63 =>
              opN Tryz.prog (sStore 3 x63 x62) noP fun _ => fun w => sat W (pt b1 (.cells (An 256 (clA i (clT i))) 141 (0, 0)) :: pt b0 (.cells (An 256 fun _ => 0) 141 (0, 0)) :: F) w) := by
        intro hb
        refine e_opN (v_iaA i rfl hil) Imp.nil ?_
        rw [Nat.zero_add, Nat.mul_one]
        refine e_opN (v_ld (clA_at hil)) (.pick .here .nil) ?_
        refine e_opN v_or Imp.nil ?_
        refine e_opN (v_iaA i rfl hil) Imp.nil ?_
        rw [Nat.zero_add, Nat.mul_one]
        refine e_st .here (by rw [An_size]; exact hil) ?_
        rw [clA_set, or1, show (1 : Int) = clT i by unfold clT; rw [hb]; rfl]
        exact e_sat .refl
      have finF : tokB (u8 i) = false → Ent W (pt b1 (.cells (An 256 (clA i 0)) 141 (0, 0)) :: pt b0 (.cells (An 256 fun _ => 0) 141 (0, 0)) :: F)
            (fun w => sat W (pt b1 (.cells (An 256 (clA i (clT i))) 141 (0, 0)) :: pt b0 (.cells (An 256 fun _ => 0) 141 (0, 0)) :: F) w) := by
        intro hb
        rw [show clT i = 0 by unfold clT; rw [hb]; rfl]
        exact e_sat .refl
      have htk : tokB (u8 i) = (alnB (u8 i) || tokC.contains (u8 i)) := rfl
      cases ha : alnB (u8 i) with
      | true =>
        rw [ha] at htk
        ((with_reducible refine e_gdF1 ?_)); ((with_reducible refine e_gdF1 ?_)); ((with_reducible refine e_gdF1 ?_)); ((with_reducible refine e_gdU ?_)); ((with_reducible refine e_gdU ?_)); ((with_reducible refine e_gdF1 ?_)); ((with_reducible refine e_gdF1 ?_)); ((with_reducible refine e_gdU ?_)); ((with_reducible refine e_gdU ?_)); ((with_reducible refine e_gdU ?_)); ((with_reducible refine e_gdU ?_)); ((with_reducible refine e_gdF1 ?_)); (((with_reducible refine e_opN v_pickT Imp.nil ?_))); ((with_reducible refine e_condT ?_))
        exact finT (by rw [htk]; rfl)
      | false =>
        rw [ha, Bool.false_or] at htk
        have hcb := tokC_b (u8 i)
        rw [u8_nat hil] at hcb
        ((with_reducible refine e_gdT ?_)); ((with_reducible refine e_gdT ?_))
        (refine e_ask v_gtr Imp.nil (fun h => ?_) (fun h => ?_))
        · ((with_reducible refine e_gdT ?_)); ((with_reducible refine e_gdT ?_)); ((with_reducible refine e_gdT ?_))
          (refine e_ask v_lss Imp.nil (fun h => ?_) (fun h => ?_))
          · ((with_reducible refine e_gdT ?_)); (((with_reducible refine e_opN v_pickT Imp.nil ?_))); ((with_reducible refine e_gdT ?_)); ((with_reducible refine e_gdT ?_)); ((with_reducible refine e_gdT ?_))
            refine e_opN v_conv Imp.nil ?_
            rw [show (IntKind.u8.wrap (i : Int)) = ((u8 i).toNat : Int) by rw [u8_nat hil]; simp [IntKind.wrap, IntKind.signed, IntKind.bits]; omega]
            ((with_reducible refine e_gdT ?_))
            refine e_call (indexByte (l := tokC) (c := u8 i)) .nil fun _ => ?_
            (try simp only [List.cons_append, List.nil_append, -eq_self])
            ((with_reducible refine e_gdT ?_))
            (refine e_ask v_geq Imp.nil (fun h => ?_) (fun h => ?_))
            · ((with_reducible refine e_gdT ?_)); (((with_reducible refine e_opN v_pickT Imp.nil ?_))); (((with_reducible refine e_opN v_pickF Imp.nil ?_))); ((with_reducible refine e_condT ?_))
              exact finT (by rw [htk]; simpa using ixF_nn.1 h)
            · ((with_reducible refine e_gdT ?_)); (((with_reducible refine e_opN v_pickT Imp.nil ?_))); (((with_reducible refine e_opN v_pickF Imp.nil ?_))); ((with_reducible refine e_condF ?_))
              exact finF (by rw [htk]; simpa using fun c => h (ixF_nn.2 c))
          · ((with_reducible refine e_gdT ?_)); (((with_reducible refine e_opN v_pickT Imp.nil ?_))); ((with_reducible refine e_gdT ?_)); ((with_reducible refine e_gdF2 ?_)); ((with_reducible refine e_gdF2 ?_)); ((with_reducible refine e_gdF2 ?_)); ((with_reducible refine e_gdF2 ?_)); ((with_reducible refine e_gdT ?_)); (((with_reducible refine e_opN v_pickF Imp.nil ?_))); (((with_reducible refine e_opN v_pickF Imp.nil ?_))); ((with_reducible refine e_condF ?_))
            exact finF (by rw [htk]; cases hx : tokC.contains (u8 i) with
              | true => have := hcb hx; omega
              | false => rfl)
        · ((with_reducible refine e_gdT ?_)); ((with_reducible refine e_gdF2 ?_)); ((with_reducible refine e_gdF2 ?_)); ((with_reducible refine e_gdT ?_)); (((with_reducible refine e_opN v_pickF Imp.nil ?_))); ((with_reducible refine e_gdT ?_)); ((with_reducible refine e_gdF2 ?_)); ((with_reducible refine e_gdF2 ?_)); ((with_reducible refine e_gdF2 ?_)); ((with_reducible refine e_gdF2 ?_)); ((with_reducible refine e_gdT ?_)); (((with_reducible refine e_opN v_pickF Imp.nil ?_))); (((with_reducible refine e_opN v_pickF Imp.nil ?_))); ((with_reducible refine e_condF ?_))
          exact finF (by rw [htk]; cases hx : tokC.contains (u8 i) with
            | true => have := hcb hx; omega
            | false => rfl)
  · have h256 : i = 256 := by omega
    subst h256
    refine e_condF ?_
    have e : An 256 (clA 256 0) = An 256 cls := An_congr fun j hj => by unfold clA; rw [if_pos hj]
    rw [e]
    refine e_opN (v_ldAgg (An_size 256 cls)) (.pick .here .nil) ?_
    refine e_stAgg (.there .here) (An_size 256 _) (An_size 256 _) an_one ?_
    refine e_stS (v_resA (An_size 256 cls)) (.pick .here .nil) ?_
    (first | refine e_ret (()) rfl ?_ | refine e_retT (()) ?_)
    (repeat (first | exact Imp.refl | exact Imp.nil | (apply Imp.pick; (focus ((repeat constructor); done))) | refine Imp.drop ?_))
theorem u8_id (c : UInt8) : u8 c.toNat = c := by simp [u8]
theorem and1 (c : UInt8) : bitOp .and .i64 (cls c.toNat) 1 = 0 ↔ tokB c = false := by
  refine all8 (p := fun c => bitOp .and .i64 (cls c.toNat) 1 = 0 ↔ tokB c = false) ?_ c
  decide +kernel
theorem and4 (c : UInt8) : bitOp .and .i64 (cls c.toNat) 4 ≠ 0 ↔ (65 ≤ c ∧ c ≤ 90) := by
  refine all8 (p := fun c => bitOp .and .i64 (cls c.toNat) 4 ≠ 0 ↔ (65 ≤ c ∧ c ≤ 90)) ?_ c
  decide +kernel
theorem lower {W : World} {l : List UInt8} (hl : l.length ≤ 4611686018427387904) : Cn Tryz.prog 66 [txt l] W [] (fun _ : Unit => txt (lowF l)) (fun _ => []) := by
  (refine S.ascii_Lower_cn fun F => ?_; unfold S.ascii_Lower; simp only [List.cons_append, List.nil_append])
  (refine' e_call (classes) ?hp fun _ => ?_; (case hp => (repeat (first | exact Picks.nil | (apply Picks.cons; (focus (repeat constructor)))))); (try simp only [List.cons_append, List.nil_append, Bool.not_true, Bool.not_false]))
  refine e_newA fun b1 => ?_
  refine e_stAgg .here (An_size 256 _) (An_size 256 _) an_one ?_
  refine e_sbytesF Tryz.underlying95 Tryz.underlying5 fun g c rest => ?_
  (((with_reducible refine e_opN v_len Imp.nil ?_)))
  refine e_loop1 (fun m y => [ex fun i : Nat => all [pu (m + i = l.length ∧ y = .int .i64 (i : Int)), pt g (.cells (((l.take i).map lowB ++ l.drop i).map B ++ rest).toArray 5 (l.length + rest.length, l.length + rest.length + 1)), pt b1 (.cells (An 256 cls) 141 (0, 0))]] ++ F) l.length ?_ ?_
  · refine Imp.ex 0 (.all ?_)
    (try simp only [List.cons_append, List.nil_append, -eq_self])
    rw [List.take_zero, List.drop_zero, List.map_nil, List.nil_append]
    exact .pu ⟨by omega, rfl⟩ .refl
  intro m ds y
  (try simp only [List.cons_append, List.nil_append, -eq_self])
  refine e_ex Pick.here fun i => e_all Pick.here ?_
  (try simp only [List.cons_append, List.nil_append, -eq_self])
  refine e_pu Pick.here fun hi => ?_
  obtain ⟨hmi, rfl⟩ := hi
  (refine e_ask v_lss Imp.nil (fun h => ?_) (fun h => ?_))
  · have hil : i < l.length := by omega
    refine e_condT ?_
    have hcl : ((l.take i).map lowB ++ l.drop i).length = l.length := by simp; omega
    have hget : ((((l.take i).map lowB ++ l.drop i).map B ++ rest).toArray)[i]? = some (B l[i]) := by
      simp [List.getElem?_append, hil, Nat.min_eq_left (Nat.le_of_lt hil)]
      intro h0; omega
    refine e_opN (v_ia1 i rfl hil) Imp.nil ?_
    rw [Nat.zero_add]
    refine e_opN (v_ld hget) (.pick .here .nil) ?_
    have hc := (l[i]).toNat_lt
    refine e_opN (v_iaA (l[i]).toNat rfl hc) Imp.nil ?_
    rw [Nat.zero_add, Nat.mul_one]
    refine e_opN (v_ld (An_get hc)) (.pick (.there .here) .nil) ?_
    refine e_opN v_and Imp.nil ?_
    have step : ∀ x, x = lowB l[i] → (((l.take i).map lowB ++ l.drop i).map B ++ rest).toArray.setIfInBounds i (B x) = (((l.take (i + 1)).map lowB ++ l.drop (i + 1)).map B ++ rest).toArray := by
      intro x hx
      subst hx
      rw [List.setIfInBounds_toArray]
      congr 1
      rw [dr hil, List.take_succ_eq_append_getElem hil]
      rw [List.map_append, List.map_append, List.map_append, List.map_append]
      have hk : (List.map B (List.map lowB (List.take i l))).length = i := by simp; omega
      rw [List.append_assoc, List.append_assoc, List.append_assoc, List.set_append, if_neg (by rw [hk]; omega), hk, Nat.sub_self]
      rfl
    refine e_ask v_neq Imp.nil (fun h => ?_) (fun h => ?_)
    · have h65 := (and4 l[i]).1 h
      have hlo : lowB l[i] = l[i] + 32 := if_pos h65
      have hn : (lowB l[i]).toNat = (l[i]).toNat + 32 := by
        rw [hlo, UInt8.toNat_add]
        have := UInt8.le_iff_toNat_le.1 h65.2
        simp only [show (90 : UInt8).toNat = 90 from rfl] at this
        simp only [show (32 : UInt8).toNat = 32 from rfl]
        omega
      refine e_condT ?_
      refine e_opN v_addw Imp.nil ?_
      rw [show IntKind.u8.wrap ((l[i].toNat : Int) + 32) = ((lowB l[i]).toNat : Int) by
        rw [hn]
        have := UInt8.le_iff_toNat_le.1 h65.2
        simp only [show (90 : UInt8).toNat = 90 from rfl] at this
        simp [IntKind.wrap, IntKind.signed, IntKind.bits]; omega]
      refine e_opN (v_ia1 i rfl hil) Imp.nil ?_
      rw [Nat.zero_add]
      refine e_stF (v := B (lowB l[i])) .here (by simp; omega) (by simp; omega) ?_
      rw [step _ rfl]
      (((with_reducible refine e_opN (v_add ?h1 ?h2) Imp.nil ?_); (case h1 => omega); (case h2 => omega)))
      refine e_next1 (m - 1) (by omega) (.ex (i + 1) (.all ?_))
      (try simp only [List.cons_append, List.nil_append, -eq_self])
      exact .pu ⟨by omega, rfl⟩ .refl
    · have hlo : lowB l[i] = l[i] := if_neg (fun c => h ((and4 l[i]).2 c))
      refine e_condF ?_
      have e2 : (((l.take i).map lowB ++ l.drop i).map B ++ rest).toArray = (((l.take (i + 1)).map lowB ++ l.drop (i + 1)).map B ++ rest).toArray := by
        rw [← step _ hlo.symm]
        refine Array.ext_getElem? fun j => ?_
        rw [Array.getElem?_setIfInBounds]
        by_cases hj : i = j
        · subst hj
          rw [if_pos rfl, hget, if_pos (by simp; omega)]
        · rw [if_neg hj]
      rw [e2]
      (((with_reducible refine e_opN (v_add ?h1 ?h2) Imp.nil ?_); (case h1 => omega); (case h2 => omega)))
      refine e_next1 (m - 1) (by omega) (.ex (i + 1) (.all ?_))
      (try simp only [List.cons_append, List.nil_append, -eq_self])
      exact .pu ⟨by omega, rfl⟩ .refl
  · have hie : i = l.length := by omega
    subst hie
    refine e_condF ?_
    rw [List.take_length, List.drop_length, List.append_nil]
    have hrd := rd_row (W := W) (g := g) (e := 5) (fz := (l.length + rest.length, l.length + rest.length + 1)) (cs := (lowF l).map B) (rest := rest)
    have e1 : ((lowF l).map B).length = l.length := by simp [lowF]
    rw [e1] at hrd
    refine e_opN (v_str (l := lowF l) hrd (by intro h; cases h)) (.pick .here .nil) ?_
    (first | refine e_ret (()) rfl ?_ | refine e_retT (()) ?_)
    (repeat (first | exact Imp.refl | exact Imp.nil | (apply Imp.pick; (focus ((repeat constructor); done))) | refine Imp.drop ?_))
end Go.Proofs.YtcmpkkkigmheoaaGreatDoor.FD
/-! For seats whose shapes all stand in the first parts. No conditions. -/

/-! Texts without blanks at both ends, cut at a byte, alike but for great letters. No conditions but those that each names. -/
namespace Go.Proofs.YtcmpkkkigmheoaaGreatDoor.FD
open Go Go.Proofs Go.RowKit Go.Proofs.YtcmpkkkigmheoaaGreatDoor.Sh Go.Proofs.YtcmpkkkigmheoaaGreatDoor.Sl Go.Proofs.YtcmpkkkigmheoaaGreatDoor.T
def Bn (n : Nat) (f : Nat → Bool) : Array Value := ((List.range n).map fun j => Value.bool (f j)).toArray
theorem Bn_size (n : Nat) (f : Nat → Bool) : (Bn n f).size = n := by simp [Bn]
theorem Bn_get {n j : Nat} {f : Nat → Bool} (h : j < n) : (Bn n f)[j]? = some (.bool (f j)) := by simp [Bn, h]
theorem Bn_congr {n : Nat} {f g : Nat → Bool} (h : ∀ j, j < n → f j = g j) : Bn n f = Bn n g := by
  unfold Bn
  congr 1
  exact List.map_congr_left fun j hj => by rw [h j (List.mem_range.1 hj)]
theorem Bn_set {n j : Nat} {f : Nat → Bool} {v : Bool} : (Bn n f).setIfInBounds j (.bool v) = Bn n fun i => if i = j then v else f i := by
  apply Array.ext_getElem?
  intro i
  rw [Array.getElem?_setIfInBounds, Bn_size]
  by_cases c : j = i
  · subst c
    rw [if_pos rfl]
    by_cases h : j < n
    · rw [if_pos h, Bn_get h]; simp
    · rw [if_neg h, Array.getElem?_eq_none (by rw [Bn_size]; omega)]
  · rw [if_neg c]
    by_cases h : i < n
    · rw [Bn_get h, Bn_get h, if_neg (fun e => c e.symm)]
    · rw [Array.getElem?_eq_none (by rw [Bn_size]; omega), Array.getElem?_eq_none (by rw [Bn_size]; omega)]
theorem bn_one {n : Nat} {f : Nat → Bool} : ∀ u ∈ (Bn n f).toList, u.oneCell' = true := by
  intro u hu
  simp only [Bn] at hu
  obtain ⟨j, _, rfl⟩ := List.mem_map.1 hu
  rfl
instance zeroSet : ZeroT Tryz.prog 145 (.agg (Bn 256 fun _ => false)) := ⟨fun w => (Tryz.zeroValue145 w).trans (by
  have : Tryz.zeroCells145 = Bn 256 fun _ => false := by kernel_rfl
  rw [this])⟩
def blN (j : Nat) : Bool := decide (j = 32 ∨ j = 9)
theorem blN_c (c : UInt8) : blN c.toNat = isBl c := by
  refine all8 (p := fun c => blN c.toNat = isBl c) ?_ c
  decide +kernel
theorem makeSet {W : World} : Cn Tryz.prog 90 [txt [32, 9]] W [] (fun _ : Unit => .tuple #[.agg (Bn 256 blN), .bool true]) (fun _ => []) := by
  (refine S.strings_makeASCIISet_cn fun F => ?_; unfold S.strings_makeASCIISet; simp only [List.cons_append, List.nil_append])
  refine e_newA fun b => ?_
  refine e_loop1 (fun m y => [ex fun i : Nat => all [pu (m + i = 2 ∧ y = .int .i64 (i : Int)), pt b (.cells (Bn 256 fun j => decide ((j = 32 ∧ 0 < i) ∨ (j = 9 ∧ 1 < i))) 145 (0, 0))]] ++ F) 2 ?_ ?_
  · refine Imp.ex 0 (.all ?_)
    (try simp only [List.cons_append, List.nil_append, -eq_self])
    refine .pu ⟨by omega, rfl⟩ ?_
    have e : (Bn 256 fun j => decide ((j = 32 ∧ 0 < 0) ∨ (j = 9 ∧ 1 < 0))) = Bn 256 fun _ => false := Bn_congr fun j _ => by simp
    rw [e]
    exact .refl
  intro m ds y
  (try simp only [List.cons_append, List.nil_append, -eq_self])
  refine e_ex Pick.here fun i => e_all Pick.here ?_
  (try simp only [List.cons_append, List.nil_append, -eq_self])
  refine e_pu Pick.here fun hi => ?_
  obtain ⟨hmi, rfl⟩ := hi
  refine e_opN v_lent Imp.nil ?_
  (refine e_ask v_lss Imp.nil (fun h => ?_) (fun h => ?_))
  · have hil : i < ([32, 9] : List UInt8).length := Int.ofNat_lt.1 h
    have hi2 : i < 2 := hil
    refine e_condT ?_
    have step : ∀ (c : UInt8), ([32, 9] : List UInt8)[i]? = some c → c.toNat < 128 → (Bn 256 fun j => if j = c.toNat then true else decide ((j = 32 ∧ 0 < i) ∨ (j = 9 ∧ 1 < i))) = (Bn 256 fun j => decide ((j = 32 ∧ 0 < i + 1) ∨ (j = 9 ∧ 1 < i + 1))) := by
      intro c hc _
      refine Bn_congr fun j _ => ?_
      have : i = 0 ∨ i = 1 := by omega
      rcases this with rfl | rfl
      · have : c = 32 := by simpa using hc.symm
        subst this
        by_cases h1 : j = 32 <;> simp [h1]
      · have : c = 9 := by simpa using hc.symm
        subst this
        by_cases h1 : j = 9 <;> simp [h1]
    have hc : ([32, 9] : List UInt8)[i].toNat < 128 := by
      have : i = 0 ∨ i = 1 := by omega
      rcases this with rfl | rfl
      · show (32 : UInt8).toNat < 128
        decide
      · show (9 : UInt8).toNat < 128
        decide
    refine e_opN (v_ixS (l := [32, 9]) i rfl hil) Imp.nil ?_
    have hstep := step _ (List.getElem?_eq_getElem hil) hc
    obtain ⟨c, hce⟩ : ∃ c, c = ([32, 9] : List UInt8)[i] := ⟨_, rfl⟩
    rw [← hce] at hstep hc ⊢
    refine e_opN (v_geq (q := .u8) (a := (c.toNat : Int)) (b := 128)) Imp.nil ?_
    rw [decide_eq_false (by omega)]
    refine e_condF ?_
    refine e_opN (v_iaA c.toNat rfl (by omega)) Imp.nil ?_
    rw [Nat.zero_add, Nat.mul_one]
    refine e_st .here (by rw [Bn_size]; omega) ?_
    rw [Bn_set, hstep]
    (((with_reducible refine e_opN (v_add ?h1 ?h2) Imp.nil ?_); (case h1 => omega); (case h2 => omega)))
    refine e_next1 (m - 1) (by omega) (.ex (i + 1) (.all ?_))
    (try simp only [List.cons_append, List.nil_append, -eq_self])
    exact .pu ⟨by omega, rfl⟩ .refl
  · have hi2 : i = 2 := by simp at h; omega
    subst hi2
    refine e_condF ?_
    have e : (Bn 256 fun j => decide ((j = 32 ∧ 0 < 2) ∨ (j = 9 ∧ 1 < 2))) = Bn 256 blN := Bn_congr fun j _ => by simp [blN]
    rw [e]
    refine e_opN (v_ldAgg (Bn_size 256 _)) (.pick .here .nil) ?_
    refine e_stAgg .here (Bn_size 256 _) (Bn_size 256 _) bn_one ?_
    refine e_stS (v_resA (Bn_size 256 _)) (.pick .here .nil) ?_
    (first | refine e_ret (()) rfl ?_ | refine e_retT (()) ?_)
    (repeat (first | exact Imp.refl | exact Imp.nil | (apply Imp.pick; (focus ((repeat constructor); done))) | refine Imp.drop ?_))
theorem contains {W : World} {g : Nat} {c : UInt8} : Cn Tryz.prog 101 [.pointer (some ⟨g, 0, none⟩), Sl.B c] W [pt g (.cells (Bn 256 blN) 145 (0, 0))] (fun _ : Unit => .bool (isBl c)) (fun _ => [pt g (.cells (Bn 256 blN) 145 (0, 0))]) := by
  (refine S.strings_asciiSet_contains_cn fun F => ?_; unfold S.strings_asciiSet_contains; simp only [List.cons_append, List.nil_append])
  (((with_reducible refine e_opN v_nil Imp.nil ?_)))
  have hc := c.toNat_lt
  refine e_opN (v_iaA c.toNat rfl hc) Imp.nil ?_
  rw [Nat.zero_add, Nat.mul_one]
  refine e_opN (v_ld (Bn_get hc)) (.pick .here .nil) ?_
  rw [blN_c]
  (first | refine e_ret (()) rfl ?_ | refine e_retT (()) ?_)
  (repeat (first | exact Imp.refl | exact Imp.nil | (apply Imp.pick; (focus ((repeat constructor); done))) | refine Imp.drop ?_))
theorem trimLeft {W : World} {g : Nat} {l : List UInt8} (hl : l.length ≤ 4611686018427387904) : Cn Tryz.prog 91 [txt l, .pointer (some ⟨g, 0, none⟩)] W [pt g (.cells (Bn 256 blN) 145 (0, 0))] (fun _ : Unit => txt (trimL l)) (fun _ => [pt g (.cells (Bn 256 blN) 145 (0, 0))]) := by
  (refine S.strings_trimLeftASCII_cn fun F => ?_; unfold S.strings_trimLeftASCII; simp only [List.cons_append, List.nil_append])
  refine e_loop1 (fun m y => [ex fun u : List UInt8 => all [pu (m = u.length ∧ y = txt u ∧ trimL u = trimL l ∧ u.length ≤ l.length), pt g (.cells (Bn 256 blN) 145 (0, 0))]] ++ F) l.length ?_ ?_
  · refine Imp.ex l (.all ?_)
    (try simp only [List.cons_append, List.nil_append, -eq_self])
    exact .pu ⟨rfl, rfl, rfl, Nat.le_refl _⟩ .refl
  intro m ds y
  (try simp only [List.cons_append, List.nil_append, -eq_self])
  refine e_ex Pick.here fun u => e_all Pick.here ?_
  (try simp only [List.cons_append, List.nil_append, -eq_self])
  refine e_pu Pick.here fun hi => ?_
  obtain ⟨hmi, rfl, htr, hul⟩ := hi
  refine e_opN v_lent Imp.nil ?_
  (refine e_ask v_gtr Imp.nil (fun h => ?_) (fun h => ?_))
  · have h0 : 0 < u.length := by omega
    refine e_condT ?_
    refine e_opN (v_ixS 0 rfl h0) Imp.nil ?_
    (refine' e_call (contains) ?hp fun _ => ?_; (case hp => (repeat (first | exact Picks.nil | (apply Picks.cons; (focus (repeat constructor)))))); (try simp only [List.cons_append, List.nil_append, Bool.not_true, Bool.not_false]))
    refine e_opN v_not Imp.nil ?_
    cases hb : isBl u[0] with
    | true =>
      refine e_condF ?_
      refine e_opN (v_ssl 1 rfl (by omega)) Imp.nil ?_
      refine e_next1 (m - 1) (by omega) (.ex (u.drop 1) (.all ?_))
      (try simp only [List.cons_append, List.nil_append, -eq_self])
      refine .pu ⟨by rw [List.length_drop]; omega, rfl, (trimL_t h0 hb).symm.trans htr, by rw [List.length_drop]; omega⟩ ?_
      (repeat (first | exact Imp.refl | exact Imp.nil | (apply Imp.pick; (focus ((repeat constructor); done))) | refine Imp.drop ?_))
    | false =>
      refine e_condT ?_
      rw [← htr, trimL_f h0 hb]
      (first | refine e_ret (()) rfl ?_ | refine e_retT (()) ?_)
      (repeat (first | exact Imp.refl | exact Imp.nil | (apply Imp.pick; (focus ((repeat constructor); done))) | refine Imp.drop ?_))
  · have h0 : u = [] := List.eq_nil_of_length_eq_zero (by omega)
    subst h0
    refine e_condF ?_
    rw [← htr]
    (first | refine e_ret (()) rfl ?_ | refine e_retT (()) ?_)
    (repeat (first | exact Imp.refl | exact Imp.nil | (apply Imp.pick; (focus ((repeat constructor); done))) | refine Imp.drop ?_))
theorem trimRight {W : World} {g : Nat} {l : List UInt8} (hl : l.length ≤ 4611686018427387904) : Cn Tryz.prog 92 [txt l, .pointer (some ⟨g, 0, none⟩)] W [pt g (.cells (Bn 256 blN) 145 (0, 0))] (fun _ : Unit => txt (trimR l)) (fun _ => [pt g (.cells (Bn 256 blN) 145 (0, 0))]) := by
  (refine S.strings_trimRightASCII_cn fun F => ?_; unfold S.strings_trimRightASCII; simp only [List.cons_append, List.nil_append])
  refine e_loop1 (fun m y => [ex fun u : List UInt8 => all [pu (m = u.length ∧ y = txt u ∧ trimR u = trimR l ∧ u.length ≤ l.length), pt g (.cells (Bn 256 blN) 145 (0, 0))]] ++ F) l.length ?_ ?_
  · refine Imp.ex l (.all ?_)
    (try simp only [List.cons_append, List.nil_append, -eq_self])
    exact .pu ⟨rfl, rfl, rfl, Nat.le_refl _⟩ .refl
  intro m ds y
  (try simp only [List.cons_append, List.nil_append, -eq_self])
  refine e_ex Pick.here fun u => e_all Pick.here ?_
  (try simp only [List.cons_append, List.nil_append, -eq_self])
  refine e_pu Pick.here fun hi => ?_
  obtain ⟨hmi, rfl, htr, hul⟩ := hi
  refine e_opN v_lent Imp.nil ?_
  (refine e_ask v_gtr Imp.nil (fun h => ?_) (fun h => ?_))
  · obtain ⟨n, hn⟩ : ∃ n, u.length = n + 1 := ⟨u.length - 1, by omega⟩
    refine e_condT ?_
    refine e_opN v_lent Imp.nil ?_
    refine e_opN (v_sub (by omega) (by omega)) Imp.nil ?_
    refine e_opN (v_ixS n (by omega) (by omega)) Imp.nil ?_
    (refine' e_call (contains) ?hp fun _ => ?_; (case hp => (repeat (first | exact Picks.nil | (apply Picks.cons; (focus (repeat constructor)))))); (try simp only [List.cons_append, List.nil_append, Bool.not_true, Bool.not_false]))
    refine e_opN v_not Imp.nil ?_
    cases hb : isBl (u[n]'(by omega)) with
    | true =>
      refine e_condF ?_
      refine e_opN v_lent Imp.nil ?_
      refine e_opN (v_sub (by omega) (by omega)) Imp.nil ?_
      refine e_opN (v_ssh n (by omega) (by omega)) Imp.nil ?_
      refine e_next1 (m - 1) (by omega) (.ex (u.take n) (.all ?_))
      (try simp only [List.cons_append, List.nil_append, -eq_self])
      refine .pu ⟨by rw [List.length_take]; omega, rfl, (trimR_t hn hb).symm.trans htr, by rw [List.length_take]; omega⟩ ?_
      (repeat (first | exact Imp.refl | exact Imp.nil | (apply Imp.pick; (focus ((repeat constructor); done))) | refine Imp.drop ?_))
    | false =>
      refine e_condT ?_
      rw [← htr, trimR_f hn hb]
      (first | refine e_ret (()) rfl ?_ | refine e_retT (()) ?_)
      (repeat (first | exact Imp.refl | exact Imp.nil | (apply Imp.pick; (focus ((repeat constructor); done))) | refine Imp.drop ?_))
  · have h0 : u = [] := List.eq_nil_of_length_eq_zero (by omega)
    subst h0
    refine e_condF ?_
    rw [← htr]
    (first | refine e_ret (()) rfl ?_ | refine e_retT (()) ?_)
    (repeat (first | exact Imp.refl | exact Imp.nil | (apply Imp.pick; (focus ((repeat constructor); done))) | refine Imp.drop ?_))
theorem trimR_len (l : List UInt8) : (trimR l).length ≤ l.length := by
  have h2 := (List.dropWhile_sublist (p := isBl) (l := l.reverse)).length_le
  unfold trimR
  rw [List.length_reverse] at h2 ⊢
  exact h2
theorem trimS {W : World} {l : List UInt8} (hl : l.length ≤ 4611686018427387904) : Cn Tryz.prog 67 [txt l, txt [32, 9]] W [] (fun _ : Unit => txt (trimB l)) (fun _ => []) := by
  (refine S.strings_Trim_cn fun F => ?_; unfold S.strings_Trim; simp only [List.cons_append, List.nil_append])
  have e0 : (Value.string ⟨#[]⟩) = txt [] := rfl
  rw [e0]
  refine e_ask v_streq Imp.nil (fun h => ?_) (fun h => ?_)
  · subst h
    ((with_reducible refine e_gdF1 ?_)); ((with_reducible refine e_gdF1 ?_)); (((with_reducible refine e_opN v_pickT Imp.nil ?_))); ((with_reducible refine e_condT ?_))
    (first | refine e_ret (()) rfl ?_ | refine e_retT (()) ?_)
    (repeat (first | exact Imp.refl | exact Imp.nil | (apply Imp.pick; (focus ((repeat constructor); done))) | refine Imp.drop ?_))
  · ((with_reducible refine e_gdT ?_)); ((with_reducible refine e_gdT ?_))
    refine e_opN v_streq Imp.nil ?_
    rw [decide_eq_false (by decide)]
    (((with_reducible refine e_opN v_pickF Imp.nil ?_))); ((with_reducible refine e_condF ?_))
    refine e_opN v_lent Imp.nil ?_
    refine e_opN v_eql Imp.nil ?_
    rw [decide_eq_false (by decide)]
    ((with_reducible refine e_gdF2 ?_)); ((with_reducible refine e_gdF2 ?_)); ((with_reducible refine e_gdF2 ?_)); (((with_reducible refine e_opN v_pickF Imp.nil ?_))); ((with_reducible refine e_condF ?_))
    (refine' e_call (makeSet) ?hp fun _ => ?_; (case hp => (repeat (first | exact Picks.nil | (apply Picks.cons; (focus (repeat constructor)))))); (try simp only [List.cons_append, List.nil_append, Bool.not_true, Bool.not_false]))
    refine e_opN (v_extN (vs := [_, _]) .here) Imp.nil ?_
    refine e_opN (v_extN (vs := [_, _]) (.there .here)) Imp.nil ?_
    refine e_newA fun b => ?_
    refine e_stAgg .here (Bn_size 256 _) (Bn_size 256 _) bn_one ?_
    refine e_condT ?_
    (refine' e_call (trimRight hl) ?hp fun _ => ?_; (case hp => (repeat (first | exact Picks.nil | (apply Picks.cons; (focus (repeat constructor)))))); (try simp only [List.cons_append, List.nil_append, Bool.not_true, Bool.not_false]))
    (refine' e_call (trimLeft (Nat.le_trans (trimR_len l) hl)) ?hp fun _ => ?_; (case hp => (repeat (first | exact Picks.nil | (apply Picks.cons; (focus (repeat constructor)))))); (try simp only [List.cons_append, List.nil_append, Bool.not_true, Bool.not_false]))
    (first | refine e_ret (()) rfl ?_ | refine e_retT (()) ?_)
    (repeat (first | exact Imp.refl | exact Imp.nil | (apply Imp.pick; (focus ((repeat constructor); done))) | refine Imp.drop ?_))
theorem trim {W : World} {l : List UInt8} (hl : l.length ≤ 4611686018427387904) : Cn Tryz.prog 44 [txt l] W [] (fun _ : Unit => txt (trimB l)) (fun _ => []) := by
  (refine S.ascii_Trim_cn fun F => ?_; unfold S.ascii_Trim; simp only [List.cons_append, List.nil_append])
  have e0 : (Value.string ⟨#[32, 9]⟩) = txt [32, 9] := rfl
  rw [e0]
  (refine' e_call (trimS hl) ?hp fun _ => ?_; (case hp => (repeat (first | exact Picks.nil | (apply Picks.cons; (focus (repeat constructor)))))); (try simp only [List.cons_append, List.nil_append, Bool.not_true, Bool.not_false]))
  (first | refine e_ret (()) rfl ?_ | refine e_retT (()) ?_)
  (repeat (first | exact Imp.refl | exact Imp.nil | (apply Imp.pick; (focus ((repeat constructor); done))) | refine Imp.drop ?_))
theorem cut_ix {c : UInt8} : ∀ {l : List UInt8}, (c ∈ l → cutS c l = true ∧ l.take (l.findIdx (· == c)) = cutA c l ∧ l.drop (l.findIdx (· == c) + 1) = cutB c l) ∧ (c ∉ l → cutS c l = false ∧ cutA c l = l ∧ cutB c l = [])
  | [] => ⟨fun h => (by cases h), fun _ => ⟨rfl, rfl, rfl⟩⟩
  | x :: r => by
    have ih := cut_ix (c := c) (l := r)
    by_cases hx : x = c
    · subst hx
      refine ⟨fun _ => ?_, fun h => absurd (List.mem_cons_self) h⟩
      simp [cutS, cutA, cutB, List.findIdx_cons]
    · have hb : (x == c) = false := by simpa using hx
      refine ⟨fun h => ?_, fun h => ?_⟩
      · have hr : c ∈ r := by
          rcases List.mem_cons.1 h with h | h
          · exact absurd h.symm hx
          · exact h
        obtain ⟨i1, i2, i3⟩ := ih.1 hr
        simp [cutS, cutA, cutB, List.findIdx_cons, hx, hb, i1, i2, i3]
      · obtain ⟨i1, i2, i3⟩ := ih.2 (fun c => h (List.mem_cons_of_mem _ c))
        simp [cutS, cutA, cutB, hx, i1, i2, i3]
def eqlF (a b : List UInt8) : Bool := decide (a.length = b.length) && decide (lowF a = lowF b)
theorem equal {W : World} {a b : List UInt8} (ha : a.length ≤ 4611686018427387904) (hb : b.length ≤ 4611686018427387904) : Cn Tryz.prog 43 [txt a, txt b] W [] (fun _ : Unit => .bool (eqlF a b)) (fun _ => []) := by
  (refine S.ascii_Equal_cn fun F => ?_; unfold S.ascii_Equal; simp only [List.cons_append, List.nil_append])
  refine e_opN v_lent Imp.nil ?_
  refine e_opN v_lent Imp.nil ?_
  refine e_ask v_eql Imp.nil (fun h => ?_) (fun h => ?_)
  · have e : eqlF a b = decide (lowF a = lowF b) := by unfold eqlF; rw [decide_eq_true (by omega)]; rfl
    rw [e]
    ((with_reducible refine e_gdT ?_)); ((with_reducible refine e_gdT ?_))
    (refine' e_call (lower ha) ?hp fun _ => ?_; (case hp => (repeat (first | exact Picks.nil | (apply Picks.cons; (focus (repeat constructor)))))); (try simp only [List.cons_append, List.nil_append, Bool.not_true, Bool.not_false]))
    ((with_reducible refine e_gdT ?_)); ((with_reducible refine e_gdT ?_))
    (refine' e_call (lower hb) ?hp fun _ => ?_; (case hp => (repeat (first | exact Picks.nil | (apply Picks.cons; (focus (repeat constructor)))))); (try simp only [List.cons_append, List.nil_append, Bool.not_true, Bool.not_false]))
    ((with_reducible refine e_gdT ?_))
    refine e_opN v_streq Imp.nil ?_
    (((with_reducible refine e_opN v_pickT Imp.nil ?_)))
    (first | refine e_ret (()) rfl ?_ | refine e_retT (()) ?_)
    (repeat (first | exact Imp.refl | exact Imp.nil | (apply Imp.pick; (focus ((repeat constructor); done))) | refine Imp.drop ?_))
  · have e : eqlF a b = false := by unfold eqlF; rw [decide_eq_false (by omega)]; rfl
    rw [e]
    ((with_reducible refine e_gdF2 ?_)); ((with_reducible refine e_gdF2 ?_)); ((with_reducible refine e_gdF2 ?_)); ((with_reducible refine e_gdF2 ?_)); ((with_reducible refine e_gdF2 ?_)); (((with_reducible refine e_opN v_pickF Imp.nil ?_)))
    (first | refine e_ret (()) rfl ?_ | refine e_retT (()) ?_)
    (repeat (first | exact Imp.refl | exact Imp.nil | (apply Imp.pick; (focus ((repeat constructor); done))) | refine Imp.drop ?_))
theorem hasPre {W : World} {l : List UInt8} (hl : l.length ≤ 4611686018427387904) : Cn Tryz.prog 98 [txt l, txt [87, 47]] W [] (fun _ : Unit => .bool (weakF l)) (fun _ => []) := by
  (refine S.stringslite_HasPrefix_cn fun F => ?_; unfold S.stringslite_HasPrefix; simp only [List.cons_append, List.nil_append])
  refine e_opN v_lent Imp.nil ?_
  refine e_opN v_lent Imp.nil ?_
  (refine e_ask v_geq Imp.nil (fun h => ?_) (fun h => ?_))
  · have h2 : 2 ≤ l.length := Int.ofNat_le.1 h
    ((with_reducible refine e_gdT ?_)); ((with_reducible refine e_gdT ?_)); ((with_reducible refine e_gdT ?_))
    refine e_opN v_lent Imp.nil ?_
    ((with_reducible refine e_gdT ?_))
    refine e_opN (v_ssh 2 rfl h2) Imp.nil ?_
    ((with_reducible refine e_gdT ?_)); ((with_reducible refine e_gdT ?_))
    refine e_opN v_streq Imp.nil ?_
    have e : decide (l.take 2 = [87, 47]) = weakF l := by
      unfold weakF
      rw [Bool.eq_iff_iff]; simp
    rw [e]
    (((with_reducible refine e_opN v_pickT Imp.nil ?_)))
    (first | refine e_ret (()) rfl ?_ | refine e_retT (()) ?_)
    (repeat (first | exact Imp.refl | exact Imp.nil | (apply Imp.pick; (focus ((repeat constructor); done))) | refine Imp.drop ?_))
  · have h2 : l.length < 2 := by simp at h; omega
    ((with_reducible refine e_gdF2 ?_)); ((with_reducible refine e_gdF2 ?_)); ((with_reducible refine e_gdF2 ?_)); ((with_reducible refine e_gdF2 ?_)); ((with_reducible refine e_gdF2 ?_)); ((with_reducible refine e_gdF2 ?_)); (((with_reducible refine e_opN v_pickF Imp.nil ?_)))
    have e : weakF l = false := by
      unfold weakF
      cases hx : (l.take 2 == [87, 47]) with
      | false => rfl
      | true =>
        have := congrArg List.length (by simpa using hx : l.take 2 = [87, 47])
        simp at this; omega
    rw [e]
    (first | refine e_ret (()) rfl ?_ | refine e_retT (()) ?_)
    (repeat (first | exact Imp.refl | exact Imp.nil | (apply Imp.pick; (focus ((repeat constructor); done))) | refine Imp.drop ?_))
theorem cutPre0 {W : World} {l : List UInt8} (hl : l.length ≤ 4611686018427387904) : Cn Tryz.prog 73 [txt l, txt [87, 47]] W [] (fun _ : Unit => .tuple #[txt (tagV l), .bool (weakF l)]) (fun _ => []) := by
  (refine S.stringslite_CutPrefix_cn fun F => ?_; unfold S.stringslite_CutPrefix; simp only [List.cons_append, List.nil_append])
  (refine' e_call (hasPre hl) ?hp fun _ => ?_; (case hp => (repeat (first | exact Picks.nil | (apply Picks.cons; (focus (repeat constructor)))))); (try simp only [List.cons_append, List.nil_append, Bool.not_true, Bool.not_false]))
  refine e_opN v_not Imp.nil ?_
  cases h : weakF l with
  | true =>
    have h2 : 2 ≤ l.length := by
      unfold weakF at h
      have := congrArg List.length (by simpa using h : l.take 2 = [87, 47])
      simp at this; omega
    refine e_condF ?_
    refine e_opN v_lent Imp.nil ?_
    refine e_opN (v_ssl 2 rfl h2) Imp.nil ?_
    rw [show tagV l = l.drop 2 by unfold tagV; rw [if_pos h]]
    (first | refine e_ret (()) rfl ?_ | refine e_retT (()) ?_)
    (repeat (first | exact Imp.refl | exact Imp.nil | (apply Imp.pick; (focus ((repeat constructor); done))) | refine Imp.drop ?_))
  | false =>
    refine e_condT ?_
    rw [show tagV l = l by unfold tagV; rw [h]; rfl]
    (first | refine e_ret (()) rfl ?_ | refine e_retT (()) ?_)
    (repeat (first | exact Imp.refl | exact Imp.nil | (apply Imp.pick; (focus ((repeat constructor); done))) | refine Imp.drop ?_))
theorem cutPre {W : World} {l : List UInt8} (hl : l.length ≤ 4611686018427387904) : Cn Tryz.prog 52 [txt l, txt [87, 47]] W [] (fun _ : Unit => .tuple #[txt (tagV l), .bool (weakF l)]) (fun _ => []) := by
  (refine S.strings_CutPrefix_cn fun F => ?_; unfold S.strings_CutPrefix; simp only [List.cons_append, List.nil_append])
  (refine' e_call (cutPre0 hl) ?hp fun _ => ?_; (case hp => (repeat (first | exact Picks.nil | (apply Picks.cons; (focus (repeat constructor)))))); (try simp only [List.cons_append, List.nil_append, Bool.not_true, Bool.not_false]))
  (((with_reducible refine' e_opN (v_extN ?hc) Imp.nil ?_); (case hc => (repeat (first | exact Nth.here | apply Nth.there))))); (((with_reducible refine' e_opN (v_extN ?hc) Imp.nil ?_); (case hc => (repeat (first | exact Nth.here | apply Nth.there)))))
  (first | refine e_ret (()) rfl ?_ | refine e_retT (()) ?_)
  (repeat (first | exact Imp.refl | exact Imp.nil | (apply Imp.pick; (focus ((repeat constructor); done))) | refine Imp.drop ?_))
end Go.Proofs.YtcmpkkkigmheoaaGreatDoor.FD
/-! The elements of a list: lengths, places; conditions joined. No conditions but those that each names. -/
namespace Go.Proofs.YtcmpkkkigmheoaaGreatDoor.FD
open Go Go.Proofs Go.RowKit Go.Proofs.YtcmpkkkigmheoaaGreatDoor.Sh Go.Proofs.YtcmpkkkigmheoaaGreatDoor.Sl Go.Proofs.YtcmpkkkigmheoaaGreatDoor.T
section
variable {P : Program} {W : World} {L L' : List HP} {Kp : PK} {k : Value → WP}
theorem e_and0 {a b : Bool} (h : Ent W L (k (.bool (a && b)))) : Ent W L (gdK (.bool a) true (fun k => k (.bool b)) fun x2 => opN P (sPick (.bool a) x2 (.bool false)) Kp k) := by
  cases a with
  | true =>
    refine e_gdT ?_
    refine e_opN v_pickT Imp.nil ?_
    simpa using h
  | false =>
    refine e_gdF2 ?_
    refine e_opN v_pickF Imp.nil ?_
    simpa using h
theorem e_and2 {a b : Bool} {A : List HP} {s1 : Sem Next} {v1 : Value} {s2 : Value → Sem Next} (h1 : RunV P W [] s1 v1) (h2 : RunV P W A (s2 v1) (.bool b)) (i : Imp W L A) (h : Ent W L (k (.bool (a && b)))) :
    Ent W L (gdK (.bool a) true (opN P s1 Kp) fun x => gdK (.bool a) true (opN P (s2 x) Kp) fun x2 => opN P (sPick (.bool a) x2 (.bool false)) Kp k) := by
  cases a with
  | true =>
    refine e_gdT ?_
    refine e_opN h1 Imp.nil ?_
    refine e_gdT ?_
    refine e_opN h2 i ?_
    refine e_opN v_pickT Imp.nil ?_
    simpa using h
  | false =>
    refine e_gdF2 ?_
    refine e_gdF2 ?_
    refine e_opN v_pickF Imp.nil ?_
    simpa using h
theorem e_cond {φ : Prop} [Decidable φ] {b : Bool} {X Y : WP} (hb : b = decide φ) (ht : φ → Ent W L X) (hf : ¬ φ → Ent W L Y) : Ent W L (condS (.bool b) X Y) := by
  subst hb
  by_cases h : φ
  · rw [decide_eq_true h]; exact e_condT (ht h)
  · rw [decide_eq_false h]; exact e_condF (hf h)
theorem v_sslh {t : TypeId} {l : List UInt8} {q r : IntKind} {i j : Int} (a b : Nat) [ht : StrT P t] (hi : i = (a : Int)) (hj : j = (b : Int)) (hab : a ≤ b) (hb : b ≤ l.length) : RunV P W [] (sSl t (txt l) (some (.int q i)) (some (.int r j)) none) (txt (sub l a b)) := fun w _ => by
  have e : (⟨l.toArray⟩ : ByteArray).size = l.length := rfl
  have e2 : (⟨l.toArray⟩ : ByteArray).extract a b = ⟨(sub l a b).toArray⟩ := by
    apply ByteArray.ext
    rw [ByteArray.data_extract]
    simp [sub]
  simp [sSl, Instr.sliceAt, Instr.slice, Instr.sliceBounds, run_underlying ht.ut, txt, e, run_sb b hj hb, run_sb a hi hab, e2]
theorem B_eq {t : TypeId} {ox oy : Operand} {c : UInt8} {n : Int} (d : UInt8) (hn : n = (d.toNat : Int)) : RunV P W [] (sEq .eql t ox oy (Sl.B c) (.int .u8 n)) (.bool (decide (c = d))) := by
  have e : decide (c = d) = decide ((c.toNat : Int) = n) := by
    rw [decide_eq_decide, hn]
    constructor
    · rintro rfl; rfl
    · intro h
      exact UInt8.toNat_inj.1 (by omega)
  rw [e]
  exact v_eql
theorem B_ne {t : TypeId} {ox oy : Operand} {c : UInt8} {n : Int} (d : UInt8) (hn : n = (d.toNat : Int)) : RunV P W [] (sEq .neq t ox oy (Sl.B c) (.int .u8 n)) (.bool (decide (c ≠ d))) := by
  have e : decide (c ≠ d) = decide ((c.toNat : Int) ≠ n) := by
    rw [decide_eq_decide, hn]
    constructor
    · intro h1 h2
      exact h1 (UInt8.toNat_inj.1 (by omega))
    · rintro h rfl
      exact h rfl
  rw [e]
  exact v_neq
end
theorem els_len (q e : Bool) : ∀ (n : Nat) (l : List UInt8), l.length ≤ n → ∀ (inn : Bool) (cur p : List UInt8), p ∈ els q e inn cur l → p.length ≤ cur.length + l.length
  | _, [], _, inn, cur, p, h => by
    have : p = cur := by simpa [els] using h
    subst this; simp
  | n + 1, c :: r, hn, inn, cur, p, h => by
    have hr : r.length ≤ n := by simpa using hn
    rw [els_cons] at h
    split at h
    · cases r with
      | nil =>
        have : p = cur ++ [c] := by simpa using h
        subst this; simp
      | cons d r' =>
        have := els_len q e n r' (by simp at hr; omega) _ _ _ h
        simp at this ⊢; omega
    · split at h
      · have := els_len q e n r hr _ _ _ h
        simp at this ⊢; omega
      · split at h
        · rcases List.mem_cons.1 h with h | h
          · subst h; simp
          · have := els_len q e n r hr _ _ _ h
            simp at this ⊢; omega
        · have := els_len q e n r hr _ _ _ h
          simp at this ⊢; omega
theorem elems_len {q e : Bool} {l w : List UInt8} (h : w ∈ elemsF q e l) : w.length ≤ l.length := by
  obtain ⟨_, v, hv, rfl⟩ := tidy_mem h
  have := els_len q e _ _ (Nat.le_refl _) _ _ _ hv
  have h2 := trim_len v
  simp [sub] at this
  omega
theorem els_num (q e : Bool) : ∀ (n : Nat) (l : List UInt8), l.length ≤ n → ∀ (inn : Bool) (cur : List UInt8), (els q e inn cur l).length ≤ l.length + 1
  | _, [], _, inn, cur => by simp [els]
  | n + 1, c :: r, hn, inn, cur => by
    have hr : r.length ≤ n := by simpa using hn
    rw [els_cons]
    split
    · cases r with
      | nil => simp
      | cons d r' =>
        have := els_num q e n r' (by simp at hr; omega) inn (cur ++ [c, d])
        simp; omega
    · split
      · have := els_num q e n r hr (!inn) (cur ++ [c])
        simp; omega
      · split
        · have := els_num q e n r hr false []
          simp; omega
        · have := els_num q e n r hr inn (cur ++ [c])
          simp; omega
theorem elems_num {q e : Bool} {l : List UInt8} : (elemsF q e l).length ≤ l.length + 1 := by
  have h1 := tidy_len (stE l q e false 0 0)
  have h2 := els_num q e _ (l.drop 0) (Nat.le_refl _) false (sub l 0 0)
  rw [List.length_drop] at h2
  unfold elemsF
  unfold stE at h1 ⊢
  omega
theorem at_drop {α : Type} {xs r : List α} {k : Nat} {x : α} (h : xs.drop k = x :: r) : xs[k]? = some x ∧ xs.drop (k + 1) = r ∧ k < xs.length := by
  have hk : k < xs.length := by
    rcases Nat.lt_or_ge k xs.length with c | c
    · exact c
    · rw [List.drop_of_length_le c] at h; cases h
  rw [List.drop_eq_getElem_cons hk] at h
  injection h with h1 h2
  exact ⟨by rw [List.getElem?_eq_getElem hk, h1], h2, hk⟩
/-- what is handed in, round by round -/
def ewv (q e : Bool) (l : List UInt8) : List (List Value) := (elemsF q e l).map fun w => [txt w]
theorem ewv_at {q e : Bool} {l w : List UInt8} {k : Nat} (h : (elemsF q e l)[k]? = some w) : (ewv q e l)[k]? = some [txt w] := by simp [ewv, h]
theorem ewv_len {q e : Bool} {l : List UInt8} : (ewv q e l).length = (elemsF q e l).length := by simp [ewv]
end Go.Proofs.YtcmpkkkigmheoaaGreatDoor.FD
/-! The shapes, all parts (in a seat whose shapes of a builder were printed later: the real text lies in its folder). No conditions. -/

/-! A builder of text: its own address, room, text put behind, what it holds in the end. No conditions but those that each names. -/
namespace Go.Proofs.YtcmpkkkigmheoaaGreatDoor.FD
open Go Go.Proofs Go.RowKit Go.Proofs.YtcmpkkkigmheoaaGreatDoor.Sh Go.Proofs.YtcmpkkkigmheoaaGreatDoor.Sl Go.Proofs.YtcmpkkkigmheoaaGreatDoor.T
theorem infoBd : (Tryz.prog.info? 97).map (·.size) = some 2 := by kernel_rfl
theorem liesBd : liesAt Tryz.prog Tryz.prog.depth 97 (2 / Tryz.prog.cellsOf 97) 0 97 1 = true := by kernel_rfl
set_option maxHeartbeats 1000000 in
set_option maxRecDepth 100000 in
theorem cc_used (b : Nat) (w : World) (h0 : w.cell? ⟨b, 0, none⟩ = some (.pointer (some ⟨b, 0, none⟩))) :
    Calls Tryz.prog 69 #[.pointer (some ⟨b, 0, none⟩)] w fun e w' => e = .returned (.tuple #[]) ∧ w' = w := by
  obtain ⟨j, hj, _⟩ := Option.map_eq_some_iff.1 infoBd
  go_enter Tryz.func69, Tryz.ntmps69
  go_wp2
  rw [Lib.run_neq_ptr_same w _ Tryz.underlying94 hj]
  go_wp2
  go_end0
  exact ⟨rfl, rfl⟩
set_option maxHeartbeats 1000000 in
set_option maxRecDepth 100000 in
theorem cc_fresh (b : Nat) (w : World) (h0 : w.cell? ⟨b, 0, none⟩ = some (.pointer none)) (hsh : w.shape? b = some (97, 2)) (hfz : w.frozen? ⟨b, 0, none⟩ = false) :
    Calls Tryz.prog 69 #[.pointer (some ⟨b, 0, none⟩)] w fun e w' => e = .returned (.tuple #[]) ∧ w' = w.setCell ⟨b, 0, none⟩ (.pointer (some ⟨b, 0, none⟩)) := by
  obtain ⟨j, hj, hjs⟩ := Option.map_eq_some_iff.1 infoBd
  go_enter Tryz.func69, Tryz.ntmps69
  go_wp2
  rw [Lib.run_to_unsafe w ⟨b, 0, none⟩ Tryz.underlying94 Tryz.underlying151 hj (by rw [hjs]; decide) hsh (Nat.zero_lt_succ 1)]
  simp only [Result.andThen]
  rw [Oper.upon_value]
  go_wp2
  rw [run_callFunc_extern Tryz.func96 (by kernel_rfl) (by kernel_rfl) (by kernel_rfl) (e := Extern.AbiNoEscape.same) (by kernel_rfl)]
  rw [Lib.run_noEscape]
  simp only [Result.andThen]
  rw [Oper.upon_value]
  go_wp2
  rw [Lib.run_from_unsafe w ⟨b, 0, none⟩ Tryz.underlying151 Tryz.underlying94 hj hsh liesBd]
  simp only [Result.andThen]
  rw [Oper.upon_value]
  go_wp2
  go_end0
  exact ⟨rfl, rfl⟩
/-- a builder: not yet used; that holds l -/
def bd0 (b : Nat) : HP := pt b (.cells #[.pointer none, .slice none 0 0] 97 (0, 0))
def bd (b : Nat) (r : Option Addr × Nat) (l : List UInt8) : HP := all [pt b (.cells #[.pointer (some ⟨b, 0, none⟩), .slice r.1 l.length r.2] 97 (0, 0)), Sl 1 5 r.1 r.2 l.length (l.map B)]
theorem check0 {W : World} {b : Nat} {v : Value} : Cn Tryz.prog 69 [.pointer (some ⟨b, 0, none⟩)] W [pt b (.cells #[.pointer none, v] 97 (0, 0))] (fun _ : Unit => .tuple #[]) (fun _ => [pt b (.cells #[.pointer (some ⟨b, 0, none⟩), v] 97 (0, 0))]) :=
  ⟨Tryz.call69, fun F w hw => (cc_fresh b w (by rw [(show sat W (pt b _ :: F) w from hw).cell]; rfl) (by rw [World.shape?, (show sat W (pt b _ :: F) w from hw).pt_.1]; rfl) (show sat W (pt b _ :: F) w from hw).free).mono fun e w' ⟨he, hb⟩ => ⟨(), he, by
    rw [hb]
    exact (show sat W (pt b _ :: F) w from hw).setCell (o := 0) (.pointer (some ⟨b, 0, none⟩))⟩⟩
theorem check1 {W : World} {b : Nat} {v : Value} : Cn Tryz.prog 69 [.pointer (some ⟨b, 0, none⟩)] W [pt b (.cells #[.pointer (some ⟨b, 0, none⟩), v] 97 (0, 0))] (fun _ : Unit => .tuple #[]) (fun _ => [pt b (.cells #[.pointer (some ⟨b, 0, none⟩), v] 97 (0, 0))]) :=
  ⟨Tryz.call69, fun F w hw => (cc_used b w (by rw [(show sat W (pt b _ :: F) w from hw).cell]; rfl)).mono fun e w' ⟨he, hb⟩ => ⟨(), he, by rw [hb]; exact hw⟩⟩
end Go.Proofs.YtcmpkkkigmheoaaGreatDoor.FD
/-! What a builder of text holds in the end. No conditions but those that each names. -/
namespace Go.Proofs.YtcmpkkkigmheoaaGreatDoor.FD
open Go Go.Proofs Go.RowKit Go.Proofs.YtcmpkkkigmheoaaGreatDoor.Sh Go.Proofs.YtcmpkkkigmheoaaGreatDoor.Sl Go.Proofs.YtcmpkkkigmheoaaGreatDoor.T
set_option maxHeartbeats 2000000 in
set_option maxRecDepth 100000 in
theorem str_run (b g cap : Nat) (cur : Array Value) (l : List UInt8) (w : World) (hb : w.cell? ⟨b, 1, none⟩ = some (.slice (some ⟨g, 0, none⟩) l.length cap)) (hg : w.heap[g]? = some (.cells cur 5 (0, 0))) (h0 : l ≠ []) (hc : l.length ≤ cap) (hcs : cap ≤ cur.size) (hcm : cap ≤ maxLen)
    (hcell : ∀ j x, l[j]? = some x → w.cell? ⟨g, j, none⟩ = some (B x)) :
    Calls Tryz.prog 48 #[.pointer (some ⟨b, 0, none⟩)] w fun e w' => e = .returned (.string ⟨l.toArray⟩) ∧ w' = w.drew.freeze ⟨g, 0, none⟩ l.length := by
  have hl0 : l.length ≠ 0 := by simpa using h0
  have c1 : w.drew.cell? ⟨b, 1, none⟩ = some (.slice (some ⟨g, 0, none⟩) l.length cap) := hb
  have hSD : (Builtin.unsafeSliceData_ #[95] 127 #[.slice (some ⟨g, 0, none⟩) l.length cap]).run Tryz.prog w.drew = .ok (.pointer (some ⟨g, 0, none⟩)) w.drew :=
    Lib.run_unsafeSliceData_row _ _ _ _ _ _ (by omega)
  have hUS : (Builtin.unsafeString_ #[127, 3] 9 #[.pointer (some ⟨g, 0, none⟩), .int .i64 l.length]).run Tryz.prog w.drew = .ok (.string ⟨l.toArray⟩) (w.drew.freeze ⟨g, 0, none⟩ l.length) := by
    refine Lib.run_unsafeString_row w.drew 127 3 9 5 Tryz.underlying127 (by kernel_rfl) g cur.size (by have hg' : w.drew.heap[g]? = some (.cells cur 5 (0, 0)) := hg; simp [World.shape?, hg']) l h0 (by omega) (by unfold maxLen at hcm; omega) ?_
    intro j x hx
    rw [addr_add, Nat.zero_add]
    exact hcell j x hx
  have mixed := S.wide
  go_enter Tryz.func48, Tryz.ntmps48
  go_wp2
  go_region_o
  all_goals (go_wp2; go_ret; exact ⟨rfl, rfl⟩)
theorem bdString {W : World} {b : Nat} {r : Option Addr × Nat} {l : List UInt8} (h0 : l ≠ []) : Cn Tryz.prog 48 [.pointer (some ⟨b, 0, none⟩)] W [bd b r l] (fun _ : Unit => txt l) (fun _ => []) :=
  ⟨Tryz.call48, fun F w hw => by
    have hl0 : 0 < l.length := List.length_pos_iff.2 h0
    obtain ⟨ra, rc⟩ := r
    have h1 : sat W ([pt b (.cells #[.pointer (some ⟨b, 0, none⟩), .slice ra l.length rc] 97 (0, 0)), Sl 1 5 ra rc l.length (l.map B)] ++ F) w :=
      sat.map (L := all [pt b (.cells #[.pointer (some ⟨b, 0, none⟩), .slice ra l.length rc] 97 (0, 0)), Sl 1 5 ra rc l.length (l.map B)] :: F) (fun _ H => all_append' H) hw
    simp only [List.cons_append, List.nil_append] at h1
    have h2 := h1.pick (.there .here)
    obtain ⟨g, hg⟩ : ∃ g, ra = some ⟨g, 0, none⟩ := by
      obtain ⟨f, ⟨l1, l2, l3, hd⟩, _⟩ := h2.fst
      rcases hd with ⟨_, hc0⟩ | ⟨g, rest, hr, _, _⟩
      · omega
      · exact ⟨g, hr⟩
    subst hg
    obtain ⟨rest, r1, r2, r3, r4, hp⟩ := sl_row h2
    have hcur : (l.map B ++ rest).length = rc := by rw [List.length_append, r1]; simp; omega
    refine (str_run b g rc (l.map B ++ rest).toArray l w (by rw [h1.cell]; rfl) hp.pt_.1 h0 r3 (by simpa using Nat.le_of_eq hcur.symm) r4 (fun j x hx => ?_)).mono fun e w' ⟨he, hb⟩ => ⟨(), he, ?_⟩
    · rw [hp.cell]
      have hj : j < l.length := by
        rcases Nat.lt_or_ge j l.length with c | c
        · exact c
        · rw [List.getElem?_eq_none c] at hx; cases hx
      rw [List.getElem?_toArray, List.getElem?_append_left (by simpa using hj), List.getElem?_map, hx]; rfl
    · subst hb
      have h3 := hp.drew
      have h4 : sat W (pt g (.cells (l.map B ++ rest).toArray 5 (0, l.length)) :: _) (w.drew.freeze ⟨g, 0, none⟩ l.length) := h3.turn (by simp [World.freeze]; split <;> rfl) (by simp [World.freeze]; split <;> rfl) (by simp [World.freeze]; split <;> rfl) (by simp [World.freeze]; split <;> simp) (by
        rw [World.freeze, if_neg (by omega)]
        simp only [Array.getElem?_modify, if_pos, h3.pt_.1]
        simp) (fun i hi => by
        rw [World.freeze, if_neg (by omega)]
        simp only [Array.getElem?_modify]
        rw [if_neg (fun c => hi c.symm)])
      exact h4.drop.drop⟩
end Go.Proofs.YtcmpkkkigmheoaaGreatDoor.FD
/-! Interfaces that hold a named number: whether nil, what they hold. No conditions but those that each names. -/
namespace Go.Proofs.YtcmpkkkigmheoaaGreatDoor.Sl
open Go Go.Proofs.YtcmpkkkigmheoaaGreatDoor.Sh
variable {P : Program} {W : World}
instance {f : FuncId} : OC (fn f) := ⟨rfl⟩
theorem v_neIf {t u : TypeId} {ox oy : Operand} {x : Value} (h : P.underlying t = some (.interface (P.methodsAt t))) : RunV P W [] (sEq .neq t ox oy (.iface u x) .nilIface) (.bool true) := fun w _ => by
  simp [sEq, sv, eqGuard, run_neq_held_nil w t u x h]
theorem v_neIf0 {t : TypeId} {ox : Operand} {c : Value} (h : P.underlying t = some (.interface (P.methodsAt t))) : RunV P W [] (sEq .neq t ox (.const c) .nilIface .nilIface) (.bool false) := fun w _ => by
  simp [sEq, sv, eqGuard, run_neq_nil_nil w t h]
theorem v_ta {t a : TypeId} {k : IntKind} {v : Value} (h : P.underlying a = some (.int k)) : RunV P W [] (sTA (.iface a v) t a false) v := fun w _ => by
  simp [sTA, Instr.typeAssert, run_underlying h]
end Go.Proofs.YtcmpkkkigmheoaaGreatDoor.Sl
/-! Numbers in decimal. The library's own error (strconv.ErrRange) can be read: 'Gl'; a text must not be longer than what a slice may hold. -/
namespace Go.Proofs.YtcmpkkkigmheoaaGreatDoor.FD
open Go Go.Proofs Go.RowKit Go.Proofs.YtcmpkkkigmheoaaGreatDoor.Sh Go.Proofs.YtcmpkkkigmheoaaGreatDoor.Sl Go.Proofs.YtcmpkkkigmheoaaGreatDoor.T
/-- the library's error for numbers out of range can be read -/
class Gl (W : World) : Prop where
  lt : 0 < W.heap.size
  rd : ∃ t v, W.cell? ⟨0, 0, none⟩ = some (.iface t v)
theorem ifT : Tryz.prog.underlying 100 = some (.interface (Tryz.prog.methodsAt 100)) := by kernel_rfl
theorem v_mkP {W : World} {t u : TypeId} {a : Option Addr} (h : Tryz.prog.underlying t = some (.pointer u)) : RunV Tryz.prog W [] (sMkI t (.pointer a)) (.iface t (.pointer a)) := fun w _ => by
  simp [sMkI, Instr.makeInterface, run_underlying h]
theorem valF_snoc (l : List UInt8) (c : UInt8) : valF (l ++ [c]) = valF l * 10 + (c.toNat - 48) := by simp [valF]
theorem valF_mono (l r : List UInt8) : valF l ≤ valF (l ++ r) := by
  induction r generalizing l with
  | nil => simp
  | cons c r ih =>
    have h1 := ih (l ++ [c])
    rw [valF_snoc] at h1
    have e : l ++ c :: r = l ++ [c] ++ r := by simp
    rw [e]; omega
theorem valF_take {l : List UInt8} {i : Nat} (h : i < l.length) : valF (l.take (i + 1)) = valF (l.take i) * 10 + (l[i].toNat - 48) := by
  rw [List.take_succ_eq_append_getElem h, valF_snoc]
theorem valF_le {l : List UInt8} (i : Nat) : valF (l.take i) ≤ valF l := by
  have := valF_mono (l.take i) (l.drop i)
  rwa [List.take_append_drop] at this
def dgC : List UInt8 := [48, 49, 50, 51, 52, 53, 54, 55, 56, 57, 97, 98, 99, 100, 101, 102]
theorem dg_ix (c : UInt8) : (ixF dgC (lowB c) < 0 ∨ 10 ≤ ixF dgC (lowB c)) ↔ digB c = false := by
  refine all8 (p := fun c => (ixF dgC (lowB c) < 0 ∨ 10 ≤ ixF dgC (lowB c)) ↔ digB c = false) ?_ c
  decide +kernel
theorem dg_low {l : List UInt8} (h : l.all digB = true) : lowF l = l := by
  unfold lowF
  conv => rhs; rw [← List.map_id l]
  refine List.map_congr_left fun c hc => ?_
  have := dg_b (List.all_eq_true.1 h c hc)
  unfold lowB
  rw [if_neg]
  · rfl
  · rintro ⟨h1, _⟩
    have := UInt8.le_iff_toNat_le.1 h1
    simp only [show (65 : UInt8).toNat = 65 from rfl] at this
    omega
end Go.Proofs.YtcmpkkkigmheoaaGreatDoor.FD
/-! The elements of a list, one by one, for each kind of list. Printed by a program of mine (d20.py). A text must not be longer than a half of what an int may count. -/
namespace Go.Proofs.YtcmpkkkigmheoaaGreatDoor.FD
open Go Go.Proofs Go.RowKit Go.Proofs.YtcmpkkkigmheoaaGreatDoor.Sh Go.Proofs.YtcmpkkkigmheoaaGreatDoor.Sl Go.Proofs.YtcmpkkkigmheoaaGreatDoor.T
theorem els_Tag {W : World} {l : List UInt8} {q e : Bool} {fv : Value} : Cn Tryz.prog 68 [.agg #[.bool q, .bool e, fv], txt l] W [] (fun c : Nat × Nat => .func (.func 95) #[] [.pointer (some ⟨c.1, 0, none⟩), .pointer (some ⟨c.2, 0, none⟩)].toArray) (fun c => [pt c.1 (.cells #[txt l] 9 (0, 0)), pt c.2 (.cells #[.bool q, .bool e, fv] 93 (0, 0))]) := by
  (refine S.fields_kind_fields_Tag_elements_cn fun F => ?_; unfold S.fields_kind_fields_Tag_elements; simp only [List.cons_append, List.nil_append])
  refine e_boxA fun gk => ?_
  refine e_box1 fun gs => ?_
  refine e_opN v_mkF Imp.nil ?_
  (first | refine e_ret ((gs, gk)) rfl ?_ | refine e_retT ((gs, gk)) ?_)
  exact .refl
theorem els1_Tag {W : World} {l : List UInt8} {q e : Bool} {fv : Value} {gs gk lp : Nat} {G : Nat → HP} {Gx T T' : HP} (hl : l.length ≤ 4611686018427387904)
    (hy : YieldC Tryz.prog lp (ewv q e l) (fun k => all [T, all [pt gs (.cells #[txt l] 9 (0, 0)), pt gk (.cells #[.bool q, .bool e, fv] 93 (0, 0)), G k]]) (all [T', Gx]) W) :
    Cn Tryz.prog 95 [yv lp, .pointer (some ⟨gs, 0, none⟩), .pointer (some ⟨gk, 0, none⟩)] W [all [T, all [pt gs (.cells #[txt l] 9 (0, 0)), pt gk (.cells #[.bool q, .bool e, fv] 93 (0, 0)), G 0]]] (fun _ : Bool => .tuple #[]) (fun b => [if b then all [T, all [pt gs (.cells #[txt l] 9 (0, 0)), pt gk (.cells #[.bool q, .bool e, fv] 93 (0, 0)), G (elemsF q e l).length]] else all [T', Gx]]) := by
  (refine S.fields_kind_fields_Tag_elements_1_cn fun F => ?_; unfold S.fields_kind_fields_Tag_elements_1; simp only [List.cons_append, List.nil_append])
  refine e_all .here ?_
  (try simp only [List.cons_append, List.nil_append, -eq_self])
  refine e_all (.there .here) ?_
  (try simp only [List.cons_append, List.nil_append, -eq_self])
  refine e_loop3 (fun m x y z => [ex fun st : Bool × Nat × Nat × Nat => all [pu (m + st.2.2.1 = l.length + 1 ∧ x = .bool st.1 ∧ y = .int .i64 (st.2.1 : Int) ∧ z = .int .i64 (st.2.2.1 : Int) ∧ st.2.1 ≤ st.2.2.1 ∧ st.2.1 ≤ l.length ∧ (elemsF q e l).drop st.2.2.2 = tidy (stE l q e st.1 st.2.1 st.2.2.1) ∧ st.2.2.2 ≤ (elemsF q e l).length),
      T, pt gs (.cells #[txt l] 9 (0, 0)), pt gk (.cells #[.bool q, .bool e, fv] 93 (0, 0)), G st.2.2.2]] ++ F) (l.length + 1) ?_ ?_
  · refine Imp.ex (false, 0, 0, 0) (.all ?_)
    (try simp only [List.cons_append, List.nil_append, -eq_self])
    refine .pu ⟨by simp, rfl, rfl, rfl, Nat.le_refl _, Nat.zero_le _, rfl, Nat.zero_le _⟩ ?_
    (repeat (first | exact Imp.refl | exact Imp.nil | (apply Imp.pick; (focus ((repeat constructor); done))) | refine Imp.drop ?_))
  intro m ds x y z
  (try simp only [List.cons_append, List.nil_append, -eq_self])
  refine e_ex Pick.here fun st => e_all Pick.here ?_
  obtain ⟨inn, a, i, k⟩ := st
  (try simp only [List.cons_append, List.nil_append, -eq_self])
  refine e_pu Pick.here fun hi => ?_
  (try dsimp only at hi)
  obtain ⟨hmi, rfl, rfl, rfl, hai, hal, hdr, hkl⟩ := hi
  refine e_opN (v_ldN .here) (.pick (by (repeat constructor)) .nil) ?_
  refine e_opN v_lent Imp.nil ?_
  (refine e_ask v_lss Imp.nil (fun h => ?_) (fun h => ?_))
  · have hil : i < l.length := by omega
    refine e_condT ?_
    refine e_opN (v_ldN .here) (.pick (by (repeat constructor)) .nil) ?_
    refine e_opN (v_ixS i rfl hil) Imp.nil ?_
    refine e_opN (B_eq 92 rfl) Imp.nil ?_
    refine e_and0 ?_
    refine e_and2 v_fa0 (v_ldN (.there .here)) (.pick (by (repeat constructor)) .nil) ?_
    refine e_cond (φ := l[i] = 92 ∧ inn = true ∧ e = true) (by cases inn <;> cases e <;> simp) (fun h1 => ?_) (fun h1 => ?_)
    · refine e_opN (v_add (by omega) (by omega)) Imp.nil ?_
      refine e_opN (v_add (by omega) (by omega)) Imp.nil ?_
      rw [stE_esc hil hai h1.1 h1.2.1 h1.2.2] at hdr
      refine e_next3 (m - 2) (by omega) (.ex (inn, a, i + 2, k) (.all ?_))
      (try simp only [List.cons_append, List.nil_append, -eq_self])
      refine .pu ⟨by (try dsimp only); omega, rfl, rfl, by (try dsimp only); rw [Int.add_assoc]; rfl, by (try dsimp only); omega, hal, hdr, hkl⟩ ?_
      (repeat (first | exact Imp.refl | exact Imp.nil | (apply Imp.pick; (focus ((repeat constructor); done))) | refine Imp.drop ?_))
    · refine e_opN (B_eq 34 rfl) Imp.nil ?_
      refine e_and2 v_fa0 (v_ldN .here) (.pick (by (repeat constructor)) .nil) ?_
      refine e_cond (φ := l[i] = 34 ∧ q = true) (by cases q <;> simp) (fun h2 => ?_) (fun h2 => ?_)
      · refine e_opN v_not Imp.nil ?_
        refine e_opN (v_add (by omega) (by omega)) Imp.nil ?_
        rw [stE_q hil hai h1 h2.1 h2.2] at hdr
        refine e_next3 (m - 1) (by omega) (.ex (!inn, a, i + 1, k) (.all ?_))
        (try simp only [List.cons_append, List.nil_append, -eq_self])
        refine .pu ⟨by (try dsimp only); omega, rfl, rfl, rfl, by (try dsimp only); omega, hal, hdr, hkl⟩ ?_
        (repeat (first | exact Imp.refl | exact Imp.nil | (apply Imp.pick; (focus ((repeat constructor); done))) | refine Imp.drop ?_))
      · refine e_opN (B_eq 44 rfl) Imp.nil ?_
        refine e_and (fun _ => v_not) ?_
        refine e_cond (φ := l[i] = 44 ∧ inn = false) (by cases inn <;> simp) (fun h3 => ?_) (fun h3 => ?_)
        · refine e_opN (v_ldN .here) (.pick (by (repeat constructor)) .nil) ?_
          refine e_opN (v_sslh a i rfl rfl hai (by omega)) Imp.nil ?_
          refine e_call (trim (by simp [sub]; omega)) .nil fun _ => ?_
          (try simp only [List.cons_append, List.nil_append, -eq_self])
          have e0 : (Value.string ⟨#[]⟩) = txt [] := rfl
          rw [stE_c hil hai h3.1 h3.2, tidy_cons] at hdr
          rw [e0]
          refine e_opN v_strne Imp.nil ?_
          by_cases h4 : trimB (sub l a i) = []
          · rw [if_pos h4] at hdr
            rw [decide_eq_false (fun c => c h4)]
            ((with_reducible refine e_gdF2 ?_)); ((with_reducible refine e_gdF2 ?_)); ((with_reducible refine e_gdF2 ?_)); ((with_reducible refine e_gdF2 ?_)); (((with_reducible refine e_opN v_pickF Imp.nil ?_))); ((with_reducible refine e_condF ?_)); (((with_reducible refine e_opN (v_add ?h1 ?h2) Imp.nil ?_); (case h1 => omega); (case h2 => omega))); (((with_reducible refine e_opN (v_add ?h1 ?h2) Imp.nil ?_); (case h1 => omega); (case h2 => omega)))
            refine e_next3 (m - 1) (by omega) (.ex (inn, i + 1, i + 1, k) (.all ?_))
            (try simp only [List.cons_append, List.nil_append, -eq_self])
            refine .pu ⟨by (try dsimp only); omega, rfl, rfl, rfl, Nat.le_refl _, by (try dsimp only); omega, by rw [h3.2]; exact hdr, hkl⟩ ?_
            (repeat (first | exact Imp.refl | exact Imp.nil | (apply Imp.pick; (focus ((repeat constructor); done))) | refine Imp.drop ?_))
          · rw [if_neg h4] at hdr
            obtain ⟨hg, hd2, hk2⟩ := at_drop hdr
            rw [decide_eq_true h4]
            refine e_gdT ?_
            refine e_gdT ?_
            refine e_gdT ?_
            refine e_imp (M := all [T, all [pt gs (.cells #[txt l] 9 (0, 0)), pt gk (.cells #[.bool q, .bool e, fv] 93 (0, 0)), G k]] :: F) ?_ ?_
            · refine .all ?_
              (try simp only [List.cons_append, List.nil_append, -eq_self])
              refine .pick (by (repeat constructor)) (.all ?_)
              (try simp only [List.cons_append, List.nil_append, -eq_self])
              (repeat (first | exact Imp.refl | exact Imp.nil | (apply Imp.pick; (focus ((repeat constructor); done))) | refine Imp.drop ?_))
            refine e_yield hy k (ewv_at hg) .here ?_ ?_
            · ((with_reducible refine e_gdT ?_)); (((with_reducible refine e_opN v_notT Imp.nil ?_))); (((with_reducible refine e_opN v_pickT Imp.nil ?_))); ((with_reducible refine e_condF ?_)); (((with_reducible refine e_opN (v_add ?h1 ?h2) Imp.nil ?_); (case h1 => omega); (case h2 => omega))); (((with_reducible refine e_opN (v_add ?h1 ?h2) Imp.nil ?_); (case h1 => omega); (case h2 => omega)))
              refine e_all .here ?_
              (try simp only [List.cons_append, List.nil_append, -eq_self])
              refine e_all (.there .here) ?_
              (try simp only [List.cons_append, List.nil_append, -eq_self])
              refine e_next3 (m - 1) (by omega) (.ex (inn, i + 1, i + 1, k + 1) (.all ?_))
              (try simp only [List.cons_append, List.nil_append, -eq_self])
              refine .pu ⟨by (try dsimp only); omega, rfl, rfl, rfl, Nat.le_refl _, by (try dsimp only); omega, by rw [h3.2]; exact hd2, by (try dsimp only); omega⟩ ?_
              (repeat (first | exact Imp.refl | exact Imp.nil | (apply Imp.pick; (focus ((repeat constructor); done))) | refine Imp.drop ?_))
            · ((with_reducible refine e_gdT ?_)); (((with_reducible refine e_opN v_notF Imp.nil ?_))); (((with_reducible refine e_opN v_pickT Imp.nil ?_))); ((with_reducible refine e_condT ?_))
              (first | refine e_ret (false) rfl ?_ | refine e_retT (false) ?_)
              exact .refl
        · refine e_opN (v_add (by omega) (by omega)) Imp.nil ?_
          rw [stE_o hil hai h1 h2 h3] at hdr
          refine e_next3 (m - 1) (by omega) (.ex (inn, a, i + 1, k) (.all ?_))
          (try simp only [List.cons_append, List.nil_append, -eq_self])
          refine .pu ⟨by (try dsimp only); omega, rfl, rfl, rfl, by (try dsimp only); omega, hal, hdr, hkl⟩ ?_
          (repeat (first | exact Imp.refl | exact Imp.nil | (apply Imp.pick; (focus ((repeat constructor); done))) | refine Imp.drop ?_))
  · refine e_condF ?_
    refine e_opN (v_ldN .here) (.pick (by (repeat constructor)) .nil) ?_
    refine e_opN (v_ssl a rfl hal) Imp.nil ?_
    refine e_call (trim (by simp; omega)) .nil fun _ => ?_
    (try simp only [List.cons_append, List.nil_append, -eq_self])
    have e0 : (Value.string ⟨#[]⟩) = txt [] := rfl
    rw [e0]
    rw [stE_end (by omega), tidy_cons, tidy_nil] at hdr
    refine e_opN v_strne Imp.nil ?_
    by_cases h4 : trimB (l.drop a) = []
    · rw [if_pos h4] at hdr
      rw [decide_eq_false (fun c => c h4)]
      have hkn : k = (elemsF q e l).length := by
        have := congrArg List.length hdr
        rw [List.length_drop, List.length_nil] at this; omega
      subst hkn
      refine e_condF ?_
      (first | refine e_ret (true) rfl ?_ | refine e_retT (true) ?_)
      refine .all ?_
      (try simp only [List.cons_append, List.nil_append, -eq_self])
      refine .pick (by (repeat constructor)) (.all ?_)
      (try simp only [List.cons_append, List.nil_append, -eq_self])
      (repeat (first | exact Imp.refl | exact Imp.nil | (apply Imp.pick; (focus ((repeat constructor); done))) | refine Imp.drop ?_))
    · rw [if_neg h4] at hdr
      obtain ⟨hg, hd2, hk2⟩ := at_drop hdr
      rw [decide_eq_true h4]
      refine e_condT ?_
      refine e_imp (M := all [T, all [pt gs (.cells #[txt l] 9 (0, 0)), pt gk (.cells #[.bool q, .bool e, fv] 93 (0, 0)), G k]] :: F) ?_ ?_
      · refine .all ?_
        (try simp only [List.cons_append, List.nil_append, -eq_self])
        refine .pick (by (repeat constructor)) (.all ?_)
        (try simp only [List.cons_append, List.nil_append, -eq_self])
        (repeat (first | exact Imp.refl | exact Imp.nil | (apply Imp.pick; (focus ((repeat constructor); done))) | refine Imp.drop ?_))
      have hkn : k + 1 = (elemsF q e l).length := by
        have := congrArg List.length hd2
        rw [List.length_drop, List.length_nil] at this; omega
      refine e_yield hy k (ewv_at hg) .here ?_ ?_
      · rw [hkn]
        (first | refine e_ret (true) rfl ?_ | refine e_retT (true) ?_)
        exact .refl
      · (first | refine e_ret (false) rfl ?_ | refine e_retT (false) ?_)
        exact .refl
end Go.Proofs.YtcmpkkkigmheoaaGreatDoor.FD
/-! A list, all of it, for each kind of list. Printed by a program of mine (d21.py). A text of at most 1048576 bytes; what reads one element has its contract. -/
namespace Go.Proofs.YtcmpkkkigmheoaaGreatDoor.FD
open Go Go.Proofs Go.RowKit Go.Proofs.YtcmpkkkigmheoaaGreatDoor.Sh Go.Proofs.YtcmpkkkigmheoaaGreatDoor.Sl Go.Proofs.YtcmpkkkigmheoaaGreatDoor.T
def vstring (x : List UInt8) : Value := txt x
def pstring (x : List UInt8) : List Value := [txt x]
def vSpan (x : Int × Int) : Value := .agg #[.int .i64 x.1, .int .i64 x.2]
def pSpan (x : Int × Int) : List Value := [.int .i64 x.1, .int .i64 x.2]
def vChoice (x : List UInt8 × Int) : Value := .agg #[txt x.1, .int .i64 x.2]
def pChoice (x : List UInt8 × Int) : List Value := [txt x.1, .int .i64 x.2]
def vDir (x : Dir) : Value := .agg #[txt x.name, txt x.value, .bool x.has]
def pDir (x : Dir) : List Value := [txt x.name, txt x.value, .bool x.has]
def vTag (x : Bool × List UInt8) : Value := .agg #[.bool x.1, txt x.2]
def pTag (x : Bool × List UInt8) : List Value := [.bool x.1, txt x.2]
theorem list_Tag {W : World} {l : List UInt8} {q e : Bool} {f : FuncId} {one : List UInt8 → (Bool × List UInt8) × Bool} (hl : l.length ≤ 2097152)
    (hone : ∀ w : List UInt8, w.length ≤ l.length → Cn Tryz.prog f [txt w] W [] (fun _ : Unit => .tuple #[vTag (one w).1, .bool (one w).2]) (fun _ => [])) :
    Cn Tryz.prog 45 [txt l, .agg #[.bool q, .bool e, fn f]] W [] (fun r : Option Addr × Nat => .tuple #[.slice r.1 (lsF (listF one (elemsF q e l))).1.length r.2, .int .i64 (lsF (listF one (elemsF q e l))).2])
      (fun r => [Sl 2 28 r.1 r.2 (lsF (listF one (elemsF q e l))).1.length ((lsF (listF one (elemsF q e l))).1.flatMap pTag)]) := by
  have hnum := elems_num (q := q) (e := e) (l := l)
  (refine S.fields_list_fields_Tag_cn fun F => ?_; unfold S.fields_list_fields_Tag; simp only [List.cons_append, List.nil_append])
  refine e_boxA fun b3 => ?_
  refine e_new1 fun b4 => ?_
  refine e_new1 fun b5 => ?_
  refine e_new1 fun b6 => ?_
  refine e_opN (v_ldAgg (cs := #[.bool q, .bool e, fn f]) rfl) (.pick (by (repeat constructor)) .nil) ?_
  refine e_call els_Tag .nil fun c => ?_
  obtain ⟨gs, gk⟩ := c
  (try simp only [List.cons_append, List.nil_append, -eq_self])
  refine e_rf (f := 95) (cap := [.pointer (some ⟨gs, 0, none⟩), .pointer (some ⟨gk, 0, none⟩)]) (ewv q e l)
    (fun k => all [pt gs (.cells #[txt l] 9 (0, 0)), pt gk (.cells #[.bool q, .bool e, fn f] 93 (0, 0)), all [pu (((elemsF q e l).take k).all (fun w => (one w).2) = true ∧ k ≤ (elemsF q e l).length), pt b3 (.cells #[.bool q, .bool e, fn f] 93 (0, 0)), pt b4 (.cells #[.slice none 0 0] 68 (0, 0)), pt b5 (.cells #[.int .i64 0] 52 (0, 0)),
      ex fun r : Option Addr × Nat => all [pt b6 (.cells #[.slice r.1 k r.2] 68 (0, 0)), Sl 2 28 r.1 r.2 k (((elemsF q e l).take k).flatMap fun w => pTag (one w).1)], all F]])
    (all [pu ((elemsF q e l).all (fun w => (one w).2) = false), pt b4 (.cells #[.slice none 0 0] 68 (0, 0)), pt b5 (.cells #[.int .i64 42] 52 (0, 0)), all F]) rfl ?_ ?_ ?_ ?_ ?_ ?_
  · intro x hx
    obtain ⟨w, _, rfl⟩ := List.mem_map.1 hx
    rfl
  · refine .all ?_
    (try simp only [List.cons_append, List.nil_append, -eq_self])
    refine .pick (by (repeat constructor)) (.pick (by (repeat constructor)) (.all ?_))
    (try simp only [List.cons_append, List.nil_append, -eq_self])
    refine .pu ⟨rfl, Nat.zero_le _⟩ ?_
    refine .pick (by (repeat constructor)) (.pick (by (repeat constructor)) (.pick (by (repeat constructor)) (.ex (none, 0) (.all ?_))))
    (try simp only [List.cons_append, List.nil_append, -eq_self])
    refine .pick (by (repeat constructor)) (imp_nil (.all ?_))
    rw [List.append_nil]
    exact .refl
  · intro lp T T' hy
    rw [ewv_len]
    exact els1_Tag (by omega) hy
  · intro k hk F2 T0 T1 B N J hB hN hJ
    rw [ewv_len] at hk
    obtain ⟨w, hwe⟩ : ∃ w, w = (elemsF q e l)[k] := ⟨_, rfl⟩
    have hwl : w.length ≤ l.length := elems_len (by rw [hwe]; exact List.getElem_mem hk)
    have hat : (elemsF q e l)[k]? = some w := by rw [hwe, List.getElem?_eq_getElem hk]
    have e0 : ∀ h, (ewv q e l)[k]'h = [txt w] := fun h => by
      have := ewv_at hat
      rw [List.getElem?_eq_getElem h] at this
      exact Option.some.inj this
    rw [e0]
    simp only [vapp, List.headD_cons, List.tail_cons]
    refine e_all (.there .here) ?_
    (try simp only [List.cons_append, List.nil_append, -eq_self])
    refine e_all (.there (.there .here)) ?_
    (try simp only [List.cons_append, List.nil_append, -eq_self])
    refine e_pu .here fun hp => ?_
    obtain ⟨hp, hkn⟩ := hp
    have htk : (elemsF q e l).take (k + 1) = (elemsF q e l).take k ++ [w] := by rw [List.take_succ_eq_append_getElem hk, hwe]
    refine hB _ _ _ (by (repeat constructor)) ?_
    refine e_ex (A := fun r : Option Addr × Nat => all [pt b6 (.cells #[.slice r.1 k r.2] 68 (0, 0)), Sl 2 28 r.1 r.2 k (((elemsF q e l).take k).flatMap fun w => pTag (one w).1)]) (by (repeat constructor)) fun r => e_all Pick.here ?_
    obtain ⟨a, c⟩ := r
    (try simp only [List.cons_append, List.nil_append, -eq_self])
    refine e_opN v_fa0 Imp.nil ?_
    refine e_opN (v_ldN (.there (.there .here))) (.pick (by (repeat constructor)) .nil) ?_
    refine e_call (hone w hwl) .nil fun _ => ?_
    (try simp only [List.cons_append, List.nil_append, -eq_self])
    unfold vTag
    refine e_opN (v_extN (vs := [_, _]) .here) Imp.nil ?_
    refine e_opN (v_extN (vs := [_, _]) (.there .here)) Imp.nil ?_
    refine e_newA fun b8 => ?_
    refine e_stAgg .here (by rfl) (by rfl) (by intro u hu; simp [vTag] at hu; rcases hu with rfl | rfl <;> rfl) ?_
    refine e_opN v_not Imp.nil ?_
    cases hok : (one w).2 with
    | false =>
      refine e_condT ?_
      refine e_stN (by (repeat constructor)) .here ?_
      refine e_stN (by (repeat constructor)) .here ?_
      refine hJ _ ?_
      refine .pick (by (repeat constructor)) (.all ?_)
      (try simp only [List.cons_append, List.nil_append, -eq_self])
      refine .pu ?_ ?_
      · rw [Bool.eq_false_iff]
        intro hall
        have := List.all_eq_true.1 hall w (by rw [hwe]; exact List.getElem_mem hk)
        rw [hok] at this; cases this
      refine .pick (by (repeat constructor)) (.pick (by (repeat constructor)) ?_)
      (repeat (first | exact Imp.refl | exact Imp.nil | (apply Imp.pick; (focus ((repeat constructor); done))) | refine Imp.drop ?_))
    | true =>
      refine e_condF ?_
      refine e_opN (v_ldN .here) (.pick (by (repeat constructor)) .nil) ?_
      refine e_opN (v_ldAgg (cs := #[.bool (one w).1.1, txt (one w).1.2]) rfl) (.pick (by (repeat constructor)) .nil) ?_
      refine e_bslS (n := 1) (vs := [vTag (one w).1]) rfl (by omega) rfl (by intro v hv; rw [List.mem_singleton.1 hv]; rfl) (by omega) fun gb => ?_
      refine e_app (m := 1) (news := pTag (one w).1) (by (repeat constructor)) (src_pt (s := 2) (e' := 28) (by kernel_rfl) .here (by rfl) (by intro u hu; simp [pTag] at hu; rcases hu with rfl | rfl <;> rfl)) (by omega) (by omega) fun a' c' => ?_
      refine e_stN (by (repeat constructor)) .here ?_
      refine hN _ ?_
      refine .pick (by (repeat constructor)) (.all ?_)
      (try simp only [List.cons_append, List.nil_append, -eq_self])
      refine .pick (by (repeat constructor)) (.pick (by (repeat constructor)) (.all ?_))
      (try simp only [List.cons_append, List.nil_append, -eq_self])
      refine .pu ⟨?_, by omega⟩ ?_
      · rw [htk, List.all_append, hp]
        simp [hok]
      refine .pick (by (repeat constructor)) (.pick (by (repeat constructor)) (.pick (by (repeat constructor)) (.ex (a', c') (.all ?_))))
      (try simp only [List.cons_append, List.nil_append, -eq_self])
      rw [htk, List.flatMap_append, List.flatMap_singleton]
      refine .pick (by (repeat constructor)) (.pick (by (repeat constructor)) ?_)
      (repeat (first | exact Imp.refl | exact Imp.nil | (apply Imp.pick; (focus ((repeat constructor); done))) | refine Imp.drop ?_))
  · intro d
    rw [ewv_len]
    refine e_all (.there .here) ?_
    (try simp only [List.cons_append, List.nil_append, -eq_self])
    refine e_all (.there (.there .here)) ?_
    (try simp only [List.cons_append, List.nil_append, -eq_self])
    refine e_pu .here fun hp => ?_
    obtain ⟨hp, _⟩ := hp
    rw [List.take_length] at hp ⊢
    refine e_ex (A := fun r : Option Addr × Nat => all [pt b6 (.cells #[.slice r.1 (elemsF q e l).length r.2] 68 (0, 0)), Sl 2 28 r.1 r.2 (elemsF q e l).length ((elemsF q e l).flatMap fun w => pTag (one w).1)]) (by (repeat constructor)) fun r => e_all Pick.here ?_
    obtain ⟨a, c⟩ := r
    (try simp only [List.cons_append, List.nil_append, -eq_self])
    refine e_opN (v_ldN .here) (.pick (by (repeat constructor)) .nil) ?_
    refine e_stN (by (repeat constructor)) .here ?_
    refine e_stN (by (repeat constructor)) .here ?_
    refine e_tk (by (repeat constructor)) ?_
    refine e_stS (v_res1 .here) (.pick (by (repeat constructor)) .nil) ?_
    refine e_stS (v_res1 .here) (.pick (by (repeat constructor)) .nil) ?_
    have e1 : lsF (listF one (elemsF q e l)) = ((elemsF q e l).map fun w => (one w).1, 0) := by
      unfold listF
      rw [if_pos hp]; rfl
    rw [e1]
    refine e_rest (M := [Sl 2 28 a c (elemsF q e l).length ((elemsF q e l).flatMap fun w => pTag (one w).1)]) (F := F) (by (repeat (first | exact Imp.refl | exact Imp.nil | (apply Imp.pick; (focus ((repeat constructor); done))) | refine Imp.drop ?_))) ?_
    (try simp only [List.cons_append, List.nil_append, -eq_self])
    refine e_ret (a, c) (by simp) ?_
    simp only [List.length_map, List.flatMap_map]
    exact .refl
  · intro d
    refine e_all (.there .here) ?_
    (try simp only [List.cons_append, List.nil_append, -eq_self])
    refine e_pu .here fun hp => ?_
    refine e_tk (by (repeat constructor)) ?_
    refine e_stS (v_res1 .here) (.pick (by (repeat constructor)) .nil) ?_
    refine e_stS (v_res1 .here) (.pick (by (repeat constructor)) .nil) ?_
    have e1 : lsF (listF one (elemsF q e l)) = ([], 42) := by
      unfold listF
      rw [if_neg (by rw [hp]; simp)]; rfl
    rw [e1]
    refine e_rest (M := []) (F := F) (by (repeat (first | exact Imp.refl | exact Imp.nil | (apply Imp.pick; (focus ((repeat constructor); done))) | refine Imp.drop ?_))) ?_
    (try simp only [List.cons_append, List.nil_append, -eq_self])
    refine e_ret (none, 0) rfl ?_
    exact imp_nil .refl
end Go.Proofs.YtcmpkkkigmheoaaGreatDoor.FD
/-! Structs compared. No conditions. -/
namespace Go.Proofs.YtcmpkkkigmheoaaGreatDoor.FD
open Go Go.Proofs Go.RowKit Go.Proofs.YtcmpkkkigmheoaaGreatDoor.Sh Go.Proofs.YtcmpkkkigmheoaaGreatDoor.Sl Go.Proofs.YtcmpkkkigmheoaaGreatDoor.T
theorem txt_beq (a b : List UInt8) : ((⟨a.toArray⟩ : ByteArray).toList == (⟨b.toArray⟩ : ByteArray).toList) = decide (a = b) := by
  rw [ByteArray.toList_eq, ByteArray.toList_eq]
  show (a == b) = decide (a = b)
  by_cases h : a = b <;> simp [h]
theorem eq_i {w : World} {d : Nat} {a b : Int} : (Op.equalIn (d + 1) 3 (.int .i64 a) (.int .i64 b)).run Tryz.prog w = .ok (decide (a = b)) w := by
  rw [run_equalIn_int w d 3 .i64 .i64 a b Tryz.underlying3]; rfl
theorem eq_b {w : World} {d : Nat} {a b : Bool} : (Op.equalIn (d + 1) 4 (.bool a) (.bool b)).run Tryz.prog w = .ok (decide (a = b)) w := by
  rw [run_equalIn_bool' w d 4 a b Tryz.underlying4]
  cases a <;> cases b <;> rfl
theorem eq_s {w : World} {d : Nat} {a b : List UInt8} : (Op.equalIn (d + 1) 9 (txt a) (txt b)).run Tryz.prog w = .ok (decide (a = b)) w := by
  unfold txt
  rw [run_equalIn_string w d 9 _ _ Tryz.underlying9, txt_beq]
theorem pt1 {w : World} {t : TypeId} {cs : Array Value} {o : Nat} {v : Value} [h : OneT Tryz.prog t] (hv : cs[o]? = some v) : (part t cs o).run Tryz.prog w = .ok v w := by
  simp [part, h.agg, hv]
theorem eqStep {w : World} {d : Nat} {f : Field} {fs : List Field} {xs ys : Array Value} {a b : Value} {φ : Bool} (hn : f.name ≠ "_") (h1 : (part f.type xs f.offset).run Tryz.prog w = .ok a w) (h2 : (part f.type ys f.offset).run Tryz.prog w = .ok b w)
    (h3 : (Op.equalIn d f.type a b).run Tryz.prog w = .ok φ w) : (Op.eqFields d xs ys (f :: fs)).run Tryz.prog w = if φ then (Op.eqFields d xs ys fs).run Tryz.prog w else .ok false w := by
  rw [Op.eqFields, if_pos hn]
  simp only [Sem.run_bind, h1, h2, h3, Result.andThen_ok]
  cases φ <;> simp
theorem eqEnd {w : World} {d : Nat} {xs ys : Array Value} : (Op.eqFields d xs ys []).run Tryz.prog w = .ok true w := by simp [Op.eqFields]
theorem eqI {w : World} {f : Field} {fs : List Field} {xs ys : Array Value} {φ : Bool} (a b : Int) (hn : f.name ≠ "_") (ht : f.type = 3) (h1 : xs[f.offset]? = some (.int .i64 a)) (h2 : ys[f.offset]? = some (.int .i64 b))
    (hr : (Op.eqFields 9999 xs ys fs).run Tryz.prog w = .ok φ w) : (Op.eqFields 9999 xs ys (f :: fs)).run Tryz.prog w = .ok (decide (a = b) && φ) w := by
  rw [eqStep hn (by rw [ht]; exact pt1 h1) (by rw [ht]; exact pt1 h2) (by rw [ht]; exact eq_i (d := 9998)), hr]
  by_cases h : a = b <;> simp [h]
theorem eqB {w : World} {f : Field} {fs : List Field} {xs ys : Array Value} {φ : Bool} (a b : Bool) (hn : f.name ≠ "_") (ht : f.type = 4) (h1 : xs[f.offset]? = some (.bool a)) (h2 : ys[f.offset]? = some (.bool b))
    (hr : (Op.eqFields 9999 xs ys fs).run Tryz.prog w = .ok φ w) : (Op.eqFields 9999 xs ys (f :: fs)).run Tryz.prog w = .ok (decide (a = b) && φ) w := by
  rw [eqStep hn (by rw [ht]; exact pt1 h1) (by rw [ht]; exact pt1 h2) (by rw [ht]; exact eq_b (d := 9998)), hr]
  by_cases h : a = b <;> simp [h]
theorem eqS {w : World} {f : Field} {fs : List Field} {xs ys : Array Value} {φ : Bool} (a b : List UInt8) (hn : f.name ≠ "_") (ht : f.type = 9) (h1 : xs[f.offset]? = some (txt a)) (h2 : ys[f.offset]? = some (txt b))
    (hr : (Op.eqFields 9999 xs ys fs).run Tryz.prog w = .ok φ w) : (Op.eqFields 9999 xs ys (f :: fs)).run Tryz.prog w = .ok (decide (a = b) && φ) w := by
  rw [eqStep hn (by rw [ht]; exact pt1 h1) (by rw [ht]; exact pt1 h2) (by rw [ht]; exact eq_s (d := 9998)), hr]
  by_cases h : a = b <;> simp [h]
theorem v_agEq {W : World} {t : TypeId} {ox oy : Operand} {xs ys : Array Value} {φ : Bool} (ht : Tryz.prog.underlying t = some (.struct (Tryz.prog.fieldsOf t))) (hp : Tryz.prog.stoodInHeld t = false) (hm : Tryz.prog.eqGuardType Tryz.prog.depth t = false)
    (h : ∀ w, (Op.eqFields 9999 xs ys (Tryz.prog.fieldsOf t).toList).run Tryz.prog w = .ok φ w) : RunV Tryz.prog W [] (sEq .eql t ox oy (.agg xs) (.agg ys)) (.bool φ) := fun w _ => by
  have e := run_equalIn_agg (P := Tryz.prog) w 9999 t xs ys ht hp
  rw [h w] at e
  have h1 := run_eql_struct (P := Tryz.prog) w t xs ys
  rw [show (10000 : Nat) = 9999 + 1 from rfl, e] at h1
  have h2 := run_eqGuard_agg (P := Tryz.prog) w .eql t ox oy xs ys hm
  simp [sEq, sv, h2, h1]
theorem v_agNe {W : World} {t : TypeId} {ox oy : Operand} {xs ys : Array Value} {φ : Bool} (ht : Tryz.prog.underlying t = some (.struct (Tryz.prog.fieldsOf t))) (hp : Tryz.prog.stoodInHeld t = false) (hm : Tryz.prog.eqGuardType Tryz.prog.depth t = false)
    (h : ∀ w, (Op.eqFields 9999 xs ys (Tryz.prog.fieldsOf t).toList).run Tryz.prog w = .ok φ w) : RunV Tryz.prog W [] (sEq .neq t ox oy (.agg xs) (.agg ys)) (.bool (!φ)) := fun w _ => by
  have e := run_equalIn_agg (P := Tryz.prog) w 9999 t xs ys ht hp
  rw [h w] at e
  have h1 := run_neq_struct (P := Tryz.prog) w t xs ys
  rw [show (10000 : Nat) = 9999 + 1 from rfl, e] at h1
  have h2 := run_eqGuard_agg (P := Tryz.prog) w .neq t ox oy xs ys hm
  simp [sEq, sv, h2, h1]
theorem eqTag (x y : Bool × List UInt8) : ∀ w, (Op.eqFields 9999 (pTag x).toArray (pTag y).toArray (Tryz.prog.fieldsOf 28).toList).run Tryz.prog w = .ok (decide (x.1 = y.1) && (decide (x.2 = y.2) && (true))) w := fun w => by
  have hf : (Tryz.prog.fieldsOf 28).toList = (#[⟨"Weak", 4, 0, false, "", "", 0⟩, ⟨"Value", 9, 1, false, "", "", 8⟩] : Array Field).toList := by kernel_rfl
  rw [hf]
  exact eqB x.1 y.1 (by decide) (by rfl) (by rfl) (by rfl) (eqS x.2 y.2 (by decide) (by rfl) (by rfl) (by rfl) (eqEnd))
theorem v_tagEq {W : World} {ox oy : Operand} (x y : Bool × List UInt8) : RunV Tryz.prog W [] (sEq .eql 28 ox oy (vTag x) (vTag y)) (.bool (decide (x.1 = y.1 ∧ x.2 = y.2))) := by
  have h := v_agEq (W := W) (t := 28) (ox := ox) (oy := oy) (by kernel_rfl) (by kernel_rfl) (by kernel_rfl) (eqTag x y)
  have e : decide (x.1 = y.1 ∧ x.2 = y.2) = (decide (x.1 = y.1) && (decide (x.2 = y.2) && (true))) := by simp [Bool.decide_and]
  rw [e]
  exact h
theorem v_tagNe {W : World} {ox oy : Operand} (x y : Bool × List UInt8) : RunV Tryz.prog W [] (sEq .neq 28 ox oy (vTag x) (vTag y)) (.bool (!decide (x.1 = y.1 ∧ x.2 = y.2))) := by
  have h := v_agNe (W := W) (t := 28) (ox := ox) (oy := oy) (by kernel_rfl) (by kernel_rfl) (by kernel_rfl) (eqTag x y)
  have e : decide (x.1 = y.1 ∧ x.2 = y.2) = (decide (x.1 = y.1) && (decide (x.2 = y.2) && (true))) := by simp [Bool.decide_and]
  rw [e]
  exact h
end Go.Proofs.YtcmpkkkigmheoaaGreatDoor.FD
/-! Elements of lists: tokens, weights, choices, spans. The library's own error can be read ('Gl'); a text of at most 4194304 bytes. -/
namespace Go.Proofs.YtcmpkkkigmheoaaGreatDoor.FD
open Go Go.Proofs Go.RowKit Go.Proofs.YtcmpkkkigmheoaaGreatDoor.Sh Go.Proofs.YtcmpkkkigmheoaaGreatDoor.Sl Go.Proofs.YtcmpkkkigmheoaaGreatDoor.T
section
variable {P : Program} {W : World} {L L' : List HP} {Kp : PK} {k : Value → WP}
theorem e_or1 {a b : Bool} {y : Value} {s1 : Value → Sem Next} (h1 : a = false → RunV P W [] (s1 y) (.bool b)) (h : Ent W L (k (.bool (a || b)))) :
    Ent W L (gdK (.bool a) false (fun k => k y) fun x1 => gdK (.bool a) false (opN P (s1 x1) Kp) fun x2 => opN P (sPick (.bool a) (.bool true) x2) Kp k) := by
  cases a with
  | true =>
    refine e_gdF1 ?_
    refine e_gdF1 ?_
    refine e_opN v_pickT Imp.nil ?_
    simpa using h
  | false =>
    refine e_gdT ?_
    refine e_gdT ?_
    refine e_opN (h1 rfl) Imp.nil ?_
    refine e_opN v_pickF Imp.nil ?_
    simpa using h
theorem e_or2 {a b : Bool} {y v1 : Value} {s1 s2 : Value → Sem Next} (h1 : a = false → RunV P W [] (s1 y) v1) (h2 : a = false → RunV P W [] (s2 v1) (.bool b)) (h : Ent W L (k (.bool (a || b)))) :
    Ent W L (gdK (.bool a) false (fun k => k y) fun x1 => gdK (.bool a) false (opN P (s1 x1) Kp) fun x2 => gdK (.bool a) false (opN P (s2 x2) Kp) fun x3 => opN P (sPick (.bool a) (.bool true) x3) Kp k) := by
  cases a with
  | true =>
    refine e_gdF1 ?_
    refine e_gdF1 ?_
    refine e_gdF1 ?_
    refine e_opN v_pickT Imp.nil ?_
    simpa using h
  | false =>
    refine e_gdT ?_
    refine e_gdT ?_
    refine e_opN (h1 rfl) Imp.nil ?_
    refine e_gdT ?_
    refine e_opN (h2 rfl) Imp.nil ?_
    refine e_opN v_pickF Imp.nil ?_
    simpa using h
end
theorem cutB_len {c : UInt8} : ∀ s : List UInt8, (cutB c s).length ≤ s.length
  | [] => by simp [cutB]
  | x :: r => by
    have := cutB_len (c := c) r
    unfold cutB
    split <;> simp <;> omega
theorem lowF_len (l : List UInt8) : (lowF l).length = l.length := by simp [lowF]
theorem low_q1 {w : List UInt8} (h : 2 ≤ w.length) : eqlF (w.take 2) [113, 61] = decide (lowF (w.take 2) = [113, 61]) := by
  unfold eqlF
  rw [decide_eq_true (by simp; omega), Bool.true_and]
  rfl
end Go.Proofs.YtcmpkkkigmheoaaGreatDoor.FD
/-! The document's texts: without blanks, in small letters, tokens, numbers. No conditions but those that each names. -/
namespace Go.Proofs.YtcmpkkkigmheoaaGreatDoor.FD
open Go Go.Proofs Go.RowKit Go.Proofs.YtcmpkkkigmheoaaGreatDoor.Sh Go.Proofs.YtcmpkkkigmheoaaGreatDoor.Sl Go.Proofs.YtcmpkkkigmheoaaGreatDoor.T
theorem rblank {W : World} {c : UInt8} : Cn Tryz.prog 72 [Sl.B c] W [] (fun _ : Unit => .bool (isBl c)) (fun _ => []) := by
  (refine S.ref01_blank_cn fun F => ?_; unfold S.ref01_blank; simp only [List.cons_append, List.nil_append])
  refine e_opN (B_eq 9 rfl) Imp.nil ?_
  refine e_or1 (fun _ => B_eq 32 rfl) ?_
  refine e_ret () (by unfold isBl; rw [Bool.or_comm]; rfl) ?_
  (repeat (first | exact Imp.refl | exact Imp.nil | (apply Imp.pick; (focus ((repeat constructor); done))) | refine Imp.drop ?_))
theorem trimL_len (l : List UInt8) : (trimL l).length ≤ l.length := (List.dropWhile_sublist (p := isBl) (l := l)).length_le
theorem rtrim {W : World} {l : List UInt8} (hl : l.length ≤ 4611686018427387904) : Cn Tryz.prog 50 [txt l] W [] (fun _ : Unit => txt (trimB l)) (fun _ => []) := by
  have hlr : trimB l = trimR (trimL l) := trimLR l
  have hll := trimL_len l
  (refine S.ref01_Trim_cn fun F => ?_; unfold S.ref01_Trim; simp only [List.cons_append, List.nil_append])
  rw [hlr]
  refine e_loop1 (fun m y => (ex fun u : List UInt8 => pu (m = u.length ∧ y = txt u ∧ trimL u = trimL l ∧ u.length ≤ l.length)) :: F) l.length ?_ ?_
  · refine .ex l (.pu ⟨rfl, rfl, rfl, Nat.le_refl _⟩ ?_)
    (repeat (first | exact Imp.refl | exact Imp.nil | (apply Imp.pick; (focus ((repeat constructor); done))) | refine Imp.drop ?_))
  intro m ds y
  (try simp only [List.cons_append, List.nil_append, -eq_self])
  refine e_ex Pick.here fun u => e_pu Pick.here fun hi => ?_
  obtain ⟨hmi, rfl, htr, hul⟩ := hi
  have tail : u = trimL l → Ent W F (loop1 (fun I2 m2 _ y0_2 =>
     opN Tryz.prog (sLen #[9] 3 [y0_2]) noP fun x14 =>
     opN Tryz.prog (sBin .gtr 3 x14 (.int .i64 0)) noP fun x15 =>
     gdK x15 true (fun k => k y0_2) fun x17 =>
     gdK x15 true (fun k => k y0_2) fun x18 =>
     gdK x15 true (opN Tryz.prog (sLen #[9] 3 [x18]) noP) fun x19 =>
     gdK x15 true (opN Tryz.prog (sBin .sub 3 x19 (.int .i64 1)) noP) fun x20 =>
     gdK x15 true (opN Tryz.prog (sIx 9 x17 x20) noP) fun x21 =>
     gdK x15 true (opN Tryz.prog (sCall (fn 72) [x21]) noP) fun x22 =>
     opN Tryz.prog (sPick x15 x22 (.bool false)) noP fun x23 =>
     condS x23
     (opN Tryz.prog (sLen #[9] 3 [y0_2]) noP fun x26 =>
      opN Tryz.prog (sBin .sub 3 x26 (.int .i64 1)) noP fun x27 =>
      opN Tryz.prog (sSl 9 y0_2 none (some x27) none) noP fun x28 =>
      next1 I2 m2 x28)
     (fun w => ∃ x : Unit, y0_2 = txt (trimR (trimL l)) ∧ sat W ([] ++ F) w)) (txt u)) := by
    intro hu
    refine e_loop1 (fun m y => (ex fun v : List UInt8 => pu (m = v.length ∧ y = txt v ∧ trimR v = trimR (trimL l) ∧ v.length ≤ l.length)) :: F) u.length ?_ ?_
    · refine .ex u (.pu ⟨rfl, rfl, by rw [hu], hul⟩ ?_)
      (repeat (first | exact Imp.refl | exact Imp.nil | (apply Imp.pick; (focus ((repeat constructor); done))) | refine Imp.drop ?_))
    intro m2 ds2 y2
    (try simp only [List.cons_append, List.nil_append, -eq_self])
    refine e_ex Pick.here fun v => e_pu Pick.here fun hi => ?_
    obtain ⟨hm2, rfl, htv, hvl⟩ := hi
    refine e_opN v_lent Imp.nil ?_
    refine e_ask v_gtr Imp.nil (fun h => ?_) (fun h => ?_)
    · obtain ⟨n, hn⟩ : ∃ n, v.length = n + 1 := ⟨v.length - 1, by omega⟩
      ((with_reducible refine e_gdT ?_)); ((with_reducible refine e_gdT ?_)); ((with_reducible refine e_gdT ?_))
      refine e_opN v_lent Imp.nil ?_
      ((with_reducible refine e_gdT ?_)); (((with_reducible refine e_opN (v_sub ?h1 ?h2) Imp.nil ?_); (case h1 => omega); (case h2 => omega))); ((with_reducible refine e_gdT ?_))
      refine e_opN (v_ixS n (by omega) (by omega)) Imp.nil ?_
      ((with_reducible refine e_gdT ?_))
      refine e_call rblank .nil fun _ => ?_
      (try simp only [List.cons_append, List.nil_append, -eq_self])
      (((with_reducible refine e_opN v_pickT Imp.nil ?_)))
      cases hb : isBl (v[n]'(by omega)) with
      | true =>
        refine e_condT ?_
        refine e_opN v_lent Imp.nil ?_
        refine e_opN (v_sub (by omega) (by omega)) Imp.nil ?_
        refine e_opN (v_ssh n (by omega) (by omega)) Imp.nil ?_
        refine e_next1 (m2 - 1) (by omega) (.ex (v.take n) (.pu ⟨by rw [List.length_take]; omega, rfl, (trimR_t hn hb).symm.trans htv, by rw [List.length_take]; omega⟩ ?_))
        (repeat (first | exact Imp.refl | exact Imp.nil | (apply Imp.pick; (focus ((repeat constructor); done))) | refine Imp.drop ?_))
      | false =>
        refine e_condF ?_
        rw [← htv, trimR_f hn hb]
        (first | refine e_ret (()) rfl ?_ | refine e_retT (()) ?_)
        (repeat (first | exact Imp.refl | exact Imp.nil | (apply Imp.pick; (focus ((repeat constructor); done))) | refine Imp.drop ?_))
    · have h0 : v = [] := List.eq_nil_of_length_eq_zero (by omega)
      subst h0
      ((with_reducible refine e_gdF2 ?_)); ((with_reducible refine e_gdF2 ?_)); ((with_reducible refine e_gdF2 ?_)); ((with_reducible refine e_gdF2 ?_)); ((with_reducible refine e_gdF2 ?_)); ((with_reducible refine e_gdF2 ?_)); (((with_reducible refine e_opN v_pickF Imp.nil ?_))); ((with_reducible refine e_condF ?_))
      rw [← htv]
      (first | refine e_ret (()) rfl ?_ | refine e_retT (()) ?_)
      (repeat (first | exact Imp.refl | exact Imp.nil | (apply Imp.pick; (focus ((repeat constructor); done))) | refine Imp.drop ?_))
  refine e_opN v_lent Imp.nil ?_
  refine e_ask v_gtr Imp.nil (fun h => ?_) (fun h => ?_)
  · have h0 : 0 < u.length := by omega
    ((with_reducible refine e_gdT ?_)); ((with_reducible refine e_gdT ?_))
    refine e_opN (v_ixS 0 rfl h0) Imp.nil ?_
    ((with_reducible refine e_gdT ?_))
    refine e_call rblank .nil fun _ => ?_
    (try simp only [List.cons_append, List.nil_append, -eq_self])
    (((with_reducible refine e_opN v_pickT Imp.nil ?_)))
    cases hb : isBl u[0] with
    | true =>
      refine e_condT ?_
      refine e_opN (v_ssl 1 rfl (by omega)) Imp.nil ?_
      refine e_next1 (m - 1) (by omega) (.ex (u.drop 1) (.pu ⟨by rw [List.length_drop]; omega, rfl, (trimL_t h0 hb).symm.trans htr, by rw [List.length_drop]; omega⟩ ?_))
      (repeat (first | exact Imp.refl | exact Imp.nil | (apply Imp.pick; (focus ((repeat constructor); done))) | refine Imp.drop ?_))
    | false =>
      refine e_condF ?_
      exact tail (by rw [← htr, trimL_f h0 hb])
  · have h0 : u = [] := List.eq_nil_of_length_eq_zero (by omega)
    ((with_reducible refine e_gdF2 ?_)); ((with_reducible refine e_gdF2 ?_)); ((with_reducible refine e_gdF2 ?_)); (((with_reducible refine e_opN v_pickF Imp.nil ?_))); ((with_reducible refine e_condF ?_))
    exact tail (by rw [← htr, h0]; rfl)
theorem rlower {W : World} {l : List UInt8} (hl : l.length ≤ 4611686018427387904) : Cn Tryz.prog 71 [txt l] W [] (fun _ : Unit => txt (lowF l)) (fun _ => []) := by
  (refine S.ref01_Lower_cn fun F => ?_; unfold S.ref01_Lower; simp only [List.cons_append, List.nil_append])
  refine e_sbytesF Tryz.underlying95 Tryz.underlying5 fun g c rest => ?_
  refine e_loop1 (fun m y => [ex fun i : Nat => all [pu (m + i = l.length ∧ y = .int .i64 (i : Int)), pt g (.cells (((l.take i).map lowB ++ l.drop i).map B ++ rest).toArray 5 (l.length + rest.length, l.length + rest.length + 1))]] ++ F) l.length ?_ ?_
  · refine Imp.ex 0 (.all ?_)
    (try simp only [List.cons_append, List.nil_append, -eq_self])
    rw [List.take_zero, List.drop_zero, List.map_nil, List.nil_append]
    exact .pu ⟨by omega, rfl⟩ .refl
  intro m ds y
  (try simp only [List.cons_append, List.nil_append, -eq_self])
  refine e_ex Pick.here fun i => e_all Pick.here ?_
  (try simp only [List.cons_append, List.nil_append, -eq_self])
  refine e_pu Pick.here fun hi => ?_
  obtain ⟨hmi, rfl⟩ := hi
  refine e_opN v_len Imp.nil ?_
  (refine e_ask v_lss Imp.nil (fun h => ?_) (fun h => ?_))
  · have hil : i < l.length := by omega
    refine e_condT ?_
    have hcl : ((l.take i).map lowB ++ l.drop i).length = l.length := by simp; omega
    have hget : ((((l.take i).map lowB ++ l.drop i).map B ++ rest).toArray)[i]? = some (B l[i]) := by
      simp [List.getElem?_append, hil, Nat.min_eq_left (Nat.le_of_lt hil)]
      intro h0; omega
    have ld : RunV Tryz.prog W [pt g (.cells (((l.take i).map lowB ++ l.drop i).map B ++ rest).toArray 5 (l.length + rest.length, l.length + rest.length + 1))] (sLoad 5 (.pointer (some ⟨g, i, none⟩))) (B l[i]) := v_ld hget
    refine e_opN (v_ia1 i rfl hil) Imp.nil ?_
    rw [Nat.zero_add]
    refine e_opN ld (.pick .here .nil) ?_
    have step : ∀ x, x = lowB l[i] → (((l.take i).map lowB ++ l.drop i).map B ++ rest).toArray.setIfInBounds i (B x) = (((l.take (i + 1)).map lowB ++ l.drop (i + 1)).map B ++ rest).toArray := by
      intro x hx
      subst hx
      rw [List.setIfInBounds_toArray]
      congr 1
      rw [dr hil, List.take_succ_eq_append_getElem hil]
      rw [List.map_append, List.map_append, List.map_append, List.map_append]
      have hk : (List.map B (List.map lowB (List.take i l))).length = i := by simp; omega
      rw [List.append_assoc, List.append_assoc, List.append_assoc, List.set_append, if_neg (by rw [hk]; omega), hk, Nat.sub_self]
      rfl
    have h65 : ((65 : Int) ≤ (l[i].toNat : Int) ∧ (l[i].toNat : Int) ≤ 90) ↔ (65 ≤ l[i] ∧ l[i] ≤ 90) := by
      rw [UInt8.le_iff_toNat_le, UInt8.le_iff_toNat_le]
      simp only [show (65 : UInt8).toNat = 65 from rfl, show (90 : UInt8).toNat = 90 from rfl]
      omega
    have no : ¬ (65 ≤ l[i] ∧ l[i] ≤ 90) → Ent W (pt g (.cells (((l.take i).map lowB ++ l.drop i).map B ++ rest).toArray 5 (l.length + rest.length, l.length + rest.length + 1)) :: F) (opN Tryz.prog (sBin .add 3 (.int .i64 (i : Int)) (.int .i64 1)) noP fun x12 => next1 (fun m y w => sat W ([ex fun i : Nat => all [pu (m + i = l.length ∧ y = .int .i64 (i : Int)), pt g (.cells (((l.take i).map lowB ++ l.drop i).map B ++ rest).toArray 5 (l.length + rest.length, l.length + rest.length + 1))]] ++ F) w) m x12) := by
      intro hno
      have hlo : lowB l[i] = l[i] := if_neg hno
      have e2 : (((l.take i).map lowB ++ l.drop i).map B ++ rest).toArray = (((l.take (i + 1)).map lowB ++ l.drop (i + 1)).map B ++ rest).toArray := by
        rw [← step _ hlo.symm]
        refine Array.ext_getElem? fun j => ?_
        rw [Array.getElem?_setIfInBounds]
        by_cases hj : i = j
        · subst hj
          rw [if_pos rfl, hget, if_pos (by simp; omega)]
        · rw [if_neg hj]
      rw [e2]
      refine e_opN (v_add (by omega) (by omega)) Imp.nil ?_
      refine e_next1 (m - 1) (by omega) (.ex (i + 1) (.all ?_))
      (try simp only [List.cons_append, List.nil_append, -eq_self])
      exact .pu ⟨by omega, rfl⟩ .refl
    refine e_opN (v_geq (q := .u8) (a := (l[i].toNat : Int)) (b := 65)) Imp.nil ?_
    by_cases h1 : (65 : Int) ≤ (l[i].toNat : Int)
    · rw [decide_eq_true h1]
      refine e_gdT ?_
      refine e_gdT ?_
      refine e_gdT ?_
      refine e_opN (v_ia1 i rfl hil) Imp.nil ?_
      rw [Nat.zero_add]
      refine e_gdT ?_
      refine e_opN ld (.pick .here .nil) ?_
      refine e_gdT ?_
      refine e_opN (v_leq (q := .u8) (a := (l[i].toNat : Int)) (b := 90)) Imp.nil ?_
      refine e_opN v_pickT Imp.nil ?_
      by_cases h2 : (l[i].toNat : Int) ≤ 90
      · rw [decide_eq_true h2]
        refine e_condT ?_
        have hlo : lowB l[i] = l[i] + 32 := if_pos (h65.1 ⟨h1, h2⟩)
        have hn : (lowB l[i]).toNat = (l[i]).toNat + 32 := by
          rw [hlo, UInt8.toNat_add]
          simp only [show (32 : UInt8).toNat = 32 from rfl]
          omega
        refine e_opN (v_ia1 i rfl hil) Imp.nil ?_
        rw [Nat.zero_add]
        refine e_opN ld (.pick .here .nil) ?_
        refine e_opN (v_addw (q := .u8) (a := (l[i].toNat : Int)) (b := 32)) Imp.nil ?_
        rw [show IntKind.u8.wrap ((l[i].toNat : Int) + 32) = ((lowB l[i]).toNat : Int) by
          rw [hn]
          simp [IntKind.wrap, IntKind.signed, IntKind.bits]; omega]
        refine e_opN (v_ia1 i rfl hil) Imp.nil ?_
        rw [Nat.zero_add]
        refine e_stF (v := B (lowB l[i])) .here (by simp; omega) (by simp; omega) ?_
        rw [step _ rfl]
        refine e_opN (v_add (by omega) (by omega)) Imp.nil ?_
        refine e_next1 (m - 1) (by omega) (.ex (i + 1) (.all ?_))
        (try simp only [List.cons_append, List.nil_append, -eq_self])
        exact .pu ⟨by omega, rfl⟩ .refl
      · rw [decide_eq_false h2]
        refine e_condF ?_
        exact no (fun c => h2 (h65.2 c).2)
    · rw [decide_eq_false h1]
      refine e_gdF2 ?_
      refine e_gdF2 ?_
      refine e_gdF2 ?_
      refine e_gdF2 ?_
      refine e_gdF2 ?_
      refine e_opN v_pickF Imp.nil ?_
      refine e_condF ?_
      exact no (fun c => h1 (h65.2 c).1)
  · have hie : i = l.length := by omega
    subst hie
    refine e_condF ?_
    rw [List.take_length, List.drop_length, List.append_nil]
    have hrd := rd_row (W := W) (g := g) (e := 5) (fz := (l.length + rest.length, l.length + rest.length + 1)) (cs := (lowF l).map B) (rest := rest)
    have e1 : ((lowF l).map B).length = l.length := by simp [lowF]
    rw [e1] at hrd
    refine e_opN (v_str (l := lowF l) hrd (by intro h; cases h)) (.pick .here .nil) ?_
    (first | refine e_ret (()) rfl ?_ | refine e_retT (()) ?_)
    (repeat (first | exact Imp.refl | exact Imp.nil | (apply Imp.pick; (focus ((repeat constructor); done))) | refine Imp.drop ?_))
def worF (c : UInt8) : Int := if digB c then (c.toNat : Int) - 48 else -1
end Go.Proofs.YtcmpkkkigmheoaaGreatDoor.FD
/-! As many assertions as there are numbers below n; shorter slices. No conditions but those that each names. -/
namespace Go.Proofs.YtcmpkkkigmheoaaGreatDoor.Sl
open Go Go.RowKit Go.Proofs.YtcmpkkkigmheoaaGreatDoor.Sh
variable {P : Program} {W : World} {L L' L'' : List HP} {Kp : PK} {k : Value → WP}
theorem big_out {F : Nat → HP} {i : Nat} : ∀ (l : List Nat), i ∈ l → l.Nodup → ∀ {h : Frag}, all (l.map F) W h → star (F i) (all ((l.filter fun j => decide (j ≠ i)).map F)) W h
  | [], hi, _, _, _ => by simp at hi
  | j :: l, hi, hn, h, H => by
    rw [List.nodup_cons] at hn
    by_cases c : j = i
    · subst c
      have e : (List.filter (fun x => decide (x ≠ j)) (j :: l)) = l := by
        rw [List.filter_cons_of_neg (by simp)]
        exact List.filter_eq_self.2 fun x hx => by
          simp only [ne_eq, decide_not, Bool.not_eq_eq_eq_not, Bool.not_true, decide_eq_false_iff_not]
          rintro rfl
          exact hn.1 hx
      rw [e]
      exact H
    · have hi' : i ∈ l := by
        rcases List.mem_cons.1 hi with e | e
        · exact absurd e.symm c
        · exact e
      rw [List.filter_cons_of_pos (by simpa using c), List.map_cons]
      have := star_mono (fun h => big_out (i := i) l hi' hn.2 (h := h)) H
      exact star_swap this
theorem big_in {F : Nat → HP} {i : Nat} : ∀ (l : List Nat), i ∈ l → l.Nodup → ∀ {h : Frag}, star (F i) (all ((l.filter fun j => decide (j ≠ i)).map F)) W h → all (l.map F) W h
  | [], hi, _, _, _ => by simp at hi
  | j :: l, hi, hn, h, H => by
    rw [List.nodup_cons] at hn
    by_cases c : j = i
    · subst c
      have e : (List.filter (fun x => decide (x ≠ j)) (j :: l)) = l := by
        rw [List.filter_cons_of_neg (by simp)]
        exact List.filter_eq_self.2 fun x hx => by
          simp only [ne_eq, decide_not, Bool.not_eq_eq_eq_not, Bool.not_true, decide_eq_false_iff_not]
          rintro rfl
          exact hn.1 hx
      rw [e] at H
      exact H
    · have hi' : i ∈ l := by
        rcases List.mem_cons.1 hi with e | e
        · exact absurd e.symm c
        · exact e
      rw [List.filter_cons_of_pos (by simpa using c), List.map_cons] at H
      exact star_mono (fun h => big_in (i := i) l hi' hn.2 (h := h)) (star_swap H)
def BS (n : Nat) (F : Nat → HP) : HP := all ((List.range n).map F)
/-- all but one -/
def BH (n : Nat) (F : Nat → HP) (i : Nat) : HP := all (((List.range n).filter fun j => decide (j ≠ i)).map F)
theorem BH.congr {n i : Nat} {F F' : Nat → HP} (h : ∀ j, j < n → j ≠ i → F j = F' j) : BH n F i = BH n F' i := by
  unfold BH
  congr 1
  exact List.map_congr_left fun j hj => by
    rw [List.mem_filter] at hj
    exact h j (List.mem_range.1 hj.1) (by simpa using hj.2)
theorem e_big {n : Nat} {F : Nat → HP} {S : WP} (p : Pick L (BS n F) L') (i : Nat) (hi : i < n) (h : Ent W (F i :: BH n F i :: L') S) : Ent W L S := fun w hw => by
  refine h w (sat.map (L := BS n F :: L') (fun f H => ?_) (hw.pick p))
  have H2 : star (all [F i, BH n F i]) (all L') W f := by
    obtain ⟨h1, h2, ha, r⟩ := H
    refine ⟨h1, h2, ?_, r⟩
    obtain ⟨k1, k2, b1, b2, d, t1, t2⟩ := big_out (List.range n) (List.mem_range.2 hi) List.nodup_range ha
    exact ⟨k1, k2, b1, ⟨k2, fun _ => none, b2, trivial, fun _ => .inr rfl, fun _ _ c => c, fun _ _ c => by cases c⟩, d, t1, t2⟩
  exact all_append' H2
theorem imp_big {n : Nat} {F F' : Nat → HP} {M : List HP} (i : Nat) (hi : i < n) (hF : ∀ j, j < n → j ≠ i → F j = F' j) (h : Imp W L (F' i :: BH n F i :: M)) : Imp W L (BS n F' :: M) := by
  refine .conv (B := all [F' i, BH n F i]) (fun f H => ?_) (.all h)
  refine big_in (List.range n) (List.mem_range.2 hi) List.nodup_range ?_
  have e := BH.congr hF
  obtain ⟨k1, k2, b1, ⟨k3, k4, b2, _, _, t3, _⟩, d, t1, t2⟩ := H
  rw [e] at b2
  refine ⟨k1, k3, b1, b2, fun j => ?_, t1, fun j o c => t2 j o (t3 j o c)⟩
  rcases d j with c | c
  · exact .inl c
  · right
    cases c' : k3 j with
    | none => rfl
    | some o => rw [t3 j o c'] at c; cases c
theorem imp_bs0 {F : Nat → HP} {M : List HP} (h : Imp W L M) : Imp W L (BS 0 F :: M) := .all (M := M) (N := []) h
theorem imp_bsS {n : Nat} {F F' : Nat → HP} {M : List HP} (hF : ∀ j, j < n → F j = F' j) (h : Imp W L (BS n F :: F' n :: M)) : Imp W L (BS (n + 1) F' :: M) := by
  refine .conv (B := all [BS n F, F' n]) (fun f H => ?_) (.all h)
  unfold BS
  rw [List.range_succ, List.map_append]
  refine all_append' ?_
  obtain ⟨k1, k2, b1, b2, d, t1, t2⟩ := H
  refine ⟨k1, k2, ?_, b2, d, t1, t2⟩
  have e : (List.range n).map F' = (List.range n).map F := List.map_congr_left fun j hj => (hF j (List.mem_range.1 hj)).symm
  rw [e]; exact b1
/-- a slice's first elements -/
theorem e_slcut {s : Nat} {e : TypeId} {a : Option Addr} {cap n m : Nat} {cs : List Value} {S : WP} (p : Pick L (Sl s e a cap n cs) L') (hm : m ≤ n) (h : Ent W (Sl s e a cap m (cs.take (m * s)) :: L') S) : Ent W L S := by
  refine e_conv p (fun f H => ?_) h
  obtain ⟨h1, h2, h3, h4⟩ := H
  have hms : m * s ≤ n * s := Nat.mul_le_mul_right _ hm
  refine ⟨by rw [List.length_take]; omega, by omega, h3, ?_⟩
  rcases h4 with ⟨rfl, rfl⟩ | ⟨g, rest, rfl, hr, hg⟩
  · exact .inl ⟨rfl, rfl⟩
  · refine .inr ⟨g, cs.drop (m * s) ++ rest, rfl, ?_, ?_⟩
    · rw [List.length_append, List.length_drop, hr, h1, ← Nat.sub_mul, ← Nat.add_mul]; congr 1; omega
    · rw [← List.append_assoc, List.take_append_drop]; exact hg
theorem v_slh0 {t e : TypeId} {s b n cap : Nat} {g : Nat} {r : IntKind} {j : Int} (h : Nat) [ht : SlT P t e s b] (hj : j = (h : Int)) (h2 : h ≤ cap) :
    RunV P W [] (sSl t (.slice (some ⟨g, 0, none⟩) n cap) none (some (.int r j)) none) (.slice (some ⟨g, 0, none⟩) h cap) := by
  have := v_slh (P := P) (W := W) (t := t) (n := n) (a := some ⟨g, 0, none⟩) (r := r) h hj h2
  have e : (if cap = 0 then some (⟨g, 0, none⟩ : Addr) else (some (⟨g, 0, none⟩ : Addr)).map (·.add (0 * s))) = some ⟨g, 0, none⟩ := by
    split
    · rfl
    · simp [addr_add]
  rwa [e] at this
theorem v_ldRd2 {t : TypeId} {g o n i j : Nat} {cs : List Value} {v : Value} {A : HP} [ht : OneT P t] (H : RdB W A (some ⟨g, o, none⟩) n cs) (hv : cs[i + j]? = some v) : RunV P W [A] (sLoad t (.pointer (some ⟨g, o + i + j, none⟩))) v := by
  rw [Nat.add_assoc]; exact v_ldRd H hv
end Go.Proofs.YtcmpkkkigmheoaaGreatDoor.Sl
/-! Fields of a head: those with a name, the first of them. Texts of at most 4194304 bytes, and as many fields. -/
namespace Go.Proofs.YtcmpkkkigmheoaaGreatDoor.FD
open Go Go.Proofs Go.RowKit Go.Proofs.YtcmpkkkigmheoaaGreatDoor.Sh Go.Proofs.YtcmpkkkigmheoaaGreatDoor.Sl Go.Proofs.YtcmpkkkigmheoaaGreatDoor.T
abbrev Fd := List UInt8 × List UInt8
def vFd (x : Fd) : Value := .agg #[txt x.1, txt x.2]
def pFd (x : Fd) : List Value := [txt x.1, txt x.2]
theorem pFd_len (x : Fd) : (pFd x).length = 2 := rfl
theorem fd_at {xs : List Fd} {i : Nat} (h : i < xs.length) : (xs.flatMap pFd)[i * 2 + 0]? = some (txt xs[i].1) ∧ (xs.flatMap pFd)[i * 2 + 1]? = some (txt xs[i].2) :=
  ⟨flat_get (f := pFd) (s := 2) pFd_len xs i 0 h (by omega), flat_get (f := pFd) (s := 2) pFd_len xs i 1 h (by omega)⟩
theorem ld_fd {W : World} {xs : List Fd} {i n g c : Nat} (h : i < xs.length) (hn : n = xs.length) : RunV Tryz.prog W [Sl 2 63 (some ⟨g, 0, none⟩) c n (xs.flatMap pFd)] (sLoad 63 (.pointer (some ⟨g, 0 + i * 2, none⟩))) (vFd xs[i]) := by
  subst hn
  exact v_ldRdG (vs := pFd xs[i]) (rd_slG (flat_len (f := pFd) (s := 2) (fun _ => rfl) xs) (fun _ => ⟨g, rfl⟩)) rfl (fun j hj => flat_get (f := pFd) (s := 2) (fun _ => rfl) xs i j h hj)
/-- fields that can be read, wherever they lie -/
def RdF (W : World) (A : HP) (a : Option Addr) (l : List Fd) : Prop := RdB W A a (l.length * 2) (l.flatMap pFd)
theorem rdF_at {W : World} {A : HP} {a : Option Addr} {l : List Fd} (h : RdF W A a l) (hl : 0 < l.length) : ∃ g o, a = some ⟨g, o, none⟩ := by
  obtain ⟨g, o, e, _⟩ := h.at_ (by omega)
  exact ⟨g, o, e⟩
theorem rdF_sl {W : World} {g c : Nat} {l : List Fd} : RdF W (Sl 2 63 (some ⟨g, 0, none⟩) c l.length (l.flatMap pFd)) (some ⟨g, 0, none⟩) l := rd_slG (flat_len (f := pFd) (s := 2) (fun _ => rfl) l) (fun _ => ⟨g, rfl⟩)
theorem rdF_nil {W : World} {c : Nat} : RdF W (Sl 2 63 none c 0 []) none [] := ⟨rfl, fun h => absurd h (by decide)⟩
theorem ld_fdA {W : World} {A : HP} {l : List Fd} {i g o : Nat} (hA : RdF W A (some ⟨g, o, none⟩) l) (h : i < l.length) : RunV Tryz.prog W [A] (sLoad 63 (.pointer (some ⟨g, o + i * 2, none⟩))) (vFd l[i]) :=
  v_ldRdG (vs := pFd l[i]) hA rfl (fun j hj => flat_get (f := pFd) (s := 2) (fun _ => rfl) l i j h hj)
/-- bounds of a head's fields -/
def hOK (l : List Fd) : Prop := l.length ≤ 4194304 ∧ ∀ f ∈ l, f.1.length ≤ 4194304 ∧ f.2.length ≤ 4194304
def valsF (l : List Fd) (n : List UInt8) : List (List UInt8) := (l.filter fun f => eqlF f.1 n).map (·.2)
def firstF (l : List Fd) (n : List UInt8) : List UInt8 × Bool := match valsF l n with
  | [] => ([], false)
  | v :: _ => (v, true)
theorem vals_take {l : List Fd} {n : List UInt8} {i : Nat} (h : i < l.length) : valsF (l.take (i + 1)) n = valsF (l.take i) n ++ (if eqlF l[i].1 n then [l[i].2] else []) := by
  unfold valsF
  rw [List.take_succ_eq_append_getElem h, List.filter_append, List.map_append]
  congr 1
  cases he : eqlF l[i].1 n <;> simp [he]
theorem vals_len (l : List Fd) (n : List UInt8) : (valsF l n).length ≤ l.length := by
  unfold valsF
  rw [List.length_map]
  exact List.length_filter_le _ _
theorem vals_mem {l : List Fd} {n v : List UInt8} (h : v ∈ valsF l n) : ∃ f ∈ l, v = f.2 := by
  unfold valsF at h
  obtain ⟨f, hf, rfl⟩ := List.mem_map.1 h
  exact ⟨f, (List.mem_filter.1 hf).1, rfl⟩
theorem values {W : World} {l : List Fd} {n : List UInt8} {a : Option Addr} {c : Nat} {A : HP} (hA : RdF W A a l) (hl : hOK l) (hn : n.length ≤ 4194304) : Cn Tryz.prog 28 [.slice a l.length c, txt n] W [A] (fun r : Option Addr × Nat => .slice r.1 (valsF l n).length r.2)
    (fun r => [A, Sl 1 9 r.1 r.2 (valsF l n).length ((valsF l n).map txt)]) := by
  (refine S.head_Values_cn fun F => ?_; unfold S.head_Values; simp only [List.cons_append, List.nil_append])
  refine e_opN v_len Imp.nil ?_
  refine e_loop2 (fun m x y => [ex fun st : (Option Addr × Nat) × Nat => all [pu (m + st.2 = l.length ∧ x = .slice st.1.1 (valsF (l.take st.2) n).length st.1.2 ∧ y = .int .i64 (st.2 : Int)), Sl 1 9 st.1.1 st.1.2 (valsF (l.take st.2) n).length ((valsF (l.take st.2) n).map txt), A]] ++ F) l.length ?_ ?_
  · refine Imp.ex ((none, 0), 0) (.all ?_)
    (try simp only [List.cons_append, List.nil_append, -eq_self])
    refine .pu ⟨rfl, rfl, rfl⟩ ?_
    exact imp_nil .refl
  intro m ds x y
  (try simp only [List.cons_append, List.nil_append, -eq_self])
  refine e_ex Pick.here fun st => e_all Pick.here ?_
  obtain ⟨⟨sa, sc⟩, i⟩ := st
  (try simp only [List.cons_append, List.nil_append, -eq_self])
  refine e_pu Pick.here fun hi => ?_
  (try dsimp only at hi)
  obtain ⟨hmi, rfl, rfl⟩ := hi
  refine e_ask v_lss Imp.nil (fun h => ?_) (fun h => ?_)
  · have hil : i < l.length := by omega
    have hb := hl.2 _ (List.getElem_mem hil)
    have hv := vals_take (n := n) hil
    have hvl := vals_len (l.take i) n
    have hl1 := hl.1
    rw [List.length_take] at hvl
    refine e_condT ?_
    obtain ⟨g, o, rfl⟩ := rdF_at hA (Nat.zero_lt_of_lt hil)
    refine e_opN (v_ia i rfl hil) Imp.nil ?_
    refine e_opN (ld_fdA hA hil) (.pick (by (repeat constructor)) .nil) ?_
    generalize l[i] = x at hb hv ⊢
    unfold vFd
    refine e_newA fun b7 => ?_
    refine e_stAgg .here (by rfl) (by rfl) (by intro u hu; simp at hu; rcases hu with rfl | rfl <;> rfl) ?_
    (((with_reducible refine e_opN v_fa0 Imp.nil ?_))); (((with_reducible refine' e_opN (v_ldN ?hc) ?hi ?_); (case hi => (repeat (first | exact Imp.refl | exact Imp.nil | (apply Imp.pick; (focus ((repeat constructor); done))) | refine Imp.drop ?_))); (case hc => (repeat (first | exact Nth.here | apply Nth.there)))))
    refine e_call (equal (a := x.1) (b := n) (by omega) (by omega)) .nil fun _ => ?_
    (try simp only [List.cons_append, List.nil_append, -eq_self])
    cases he : eqlF x.1 n with
    | true =>
      rw [he, if_pos rfl] at hv
      refine e_condT ?_
      (((with_reducible refine e_opN v_fa0 Imp.nil ?_))); (((with_reducible refine' e_opN (v_ldN ?hc) ?hi ?_); (case hi => (repeat (first | exact Imp.refl | exact Imp.nil | (apply Imp.pick; (focus ((repeat constructor); done))) | refine Imp.drop ?_))); (case hc => (repeat (first | exact Nth.here | apply Nth.there))))); (((with_reducible refine e_bsl1 fun g => ?_)))
      refine e_app (m := 1) (news := [txt x.2]) (by (repeat constructor)) (src_pt (e' := 9) (by kernel_rfl) .here (by rfl) (by intro u hu; rw [List.mem_singleton.1 hu]; rfl)) (by omega) (by omega) fun a' c' => ?_
      refine e_opN (v_add (by omega) (by omega)) Imp.nil ?_
      refine e_next2 (m - 1) (by omega) (.ex ((a', c'), i + 1) (.all ?_))
      (try simp only [List.cons_append, List.nil_append, -eq_self])
      (try dsimp only)
      rw [hv, List.length_append, List.map_append]
      refine .pu ⟨by omega, rfl, rfl⟩ ?_
      refine .pick .here ?_
      (repeat (first | exact Imp.refl | exact Imp.nil | (apply Imp.pick; (focus ((repeat constructor); done))) | refine Imp.drop ?_))
    | false =>
      rw [he, if_neg (by decide), List.append_nil] at hv
      refine e_condF ?_
      refine e_opN (v_add (by omega) (by omega)) Imp.nil ?_
      refine e_next2 (m - 1) (by omega) (.ex ((sa, sc), i + 1) (.all ?_))
      (try simp only [List.cons_append, List.nil_append, -eq_self])
      (try dsimp only)
      rw [hv]
      refine .pu ⟨by omega, rfl, rfl⟩ ?_
      (repeat (first | exact Imp.refl | exact Imp.nil | (apply Imp.pick; (focus ((repeat constructor); done))) | refine Imp.drop ?_))
  · have : i = l.length := by omega
    subst this
    rw [List.take_length]
    refine e_condF ?_
    (first | refine e_ret ((sa, sc)) rfl ?_ | refine e_retT ((sa, sc)) ?_)
    (repeat (first | exact Imp.refl | exact Imp.nil | (apply Imp.pick; (focus ((repeat constructor); done))) | refine Imp.drop ?_))
theorem requal {W : World} {a b : List UInt8} (ha : a.length ≤ 4611686018427387904) (hb : b.length ≤ 4611686018427387904) : Cn Tryz.prog 49 [txt a, txt b] W [] (fun _ : Unit => .bool (eqlF a b)) (fun _ => []) := by
  (refine S.ref01_Equal_cn fun F => ?_; unfold S.ref01_Equal; simp only [List.cons_append, List.nil_append])
  refine e_call (rlower (l := a) ha) .nil fun _ => ?_
  (try simp only [List.cons_append, List.nil_append, -eq_self])
  refine e_call (rlower (l := b) hb) .nil fun _ => ?_
  (try simp only [List.cons_append, List.nil_append, -eq_self])
  refine e_opN v_streq Imp.nil ?_
  have e : decide (lowF a = lowF b) = eqlF a b := by
    unfold eqlF
    by_cases h : lowF a = lowF b
    · have hl : a.length = b.length := by have := congrArg List.length h; simpa [lowF] using this
      simp [h, hl]
    · simp [h]
  rw [e]
  (first | refine e_ret (()) rfl ?_ | refine e_retT (()) ?_)
  (repeat (first | exact Imp.refl | exact Imp.nil | (apply Imp.pick; (focus ((repeat constructor); done))) | refine Imp.drop ?_))
theorem rvalues {W : World} {l : List Fd} {n : List UInt8} {a : Option Addr} {c : Nat} {A : HP} (hA : RdF W A a l) (hl : hOK l) (hn : n.length ≤ 4194304) : Cn Tryz.prog 31 [.slice a l.length c, txt n] W [A] (fun r : Option Addr × Nat => .slice r.1 (valsF l n).length r.2)
    (fun r => [A, Sl 1 9 r.1 r.2 (valsF l n).length ((valsF l n).map txt)]) := by
  (refine S.ref11_Values_cn fun F => ?_; unfold S.ref11_Values; simp only [List.cons_append, List.nil_append])
  refine e_loop2 (fun m x y => [ex fun st : (Option Addr × Nat) × Nat => all [pu (m + st.2 = l.length ∧ x = .slice st.1.1 (valsF (l.take st.2) n).length st.1.2 ∧ y = .int .i64 (st.2 : Int)), Sl 1 9 st.1.1 st.1.2 (valsF (l.take st.2) n).length ((valsF (l.take st.2) n).map txt), A]] ++ F) l.length ?_ ?_
  · refine Imp.ex ((none, 0), 0) (.all ?_)
    (try simp only [List.cons_append, List.nil_append, -eq_self])
    refine .pu ⟨rfl, rfl, rfl⟩ ?_
    exact imp_nil .refl
  intro m ds x y
  (try simp only [List.cons_append, List.nil_append, -eq_self])
  refine e_ex Pick.here fun st => e_all Pick.here ?_
  obtain ⟨⟨sa, sc⟩, i⟩ := st
  (try simp only [List.cons_append, List.nil_append, -eq_self])
  refine e_pu Pick.here fun hi => ?_
  (try dsimp only at hi)
  obtain ⟨hmi, rfl, rfl⟩ := hi
  refine e_opN v_len Imp.nil ?_
  refine e_ask v_lss Imp.nil (fun h => ?_) (fun h => ?_)
  · have hil : i < l.length := by omega
    have hb := hl.2 _ (List.getElem_mem hil)
    have hat := fd_at hil
    have hv := vals_take (n := n) hil
    have hvl := vals_len (l.take i) n
    have hl1 := hl.1
    rw [List.length_take] at hvl
    refine e_condT ?_
    obtain ⟨g, o, rfl⟩ := rdF_at hA (Nat.zero_lt_of_lt hil)
    generalize l[i] = x at hb hv hat ⊢
    have l0 : RunV Tryz.prog W [A] (sLoad 9 (.pointer (some ⟨g, o + i * 2 + 0, none⟩))) (txt x.1) := v_ldRd2 hA hat.1
    have l1 : RunV Tryz.prog W [A] (sLoad 9 (.pointer (some ⟨g, o + i * 2 + 1, none⟩))) (txt x.2) := v_ldRd2 hA hat.2
    refine e_opN (v_ia i rfl hil) Imp.nil ?_
    refine e_opN v_fa Imp.nil ?_
    refine e_opN l0 (.pick (by (repeat constructor)) .nil) ?_
    refine e_call (requal (a := x.1) (b := n) (by omega) (by omega)) .nil fun _ => ?_
    (try simp only [List.cons_append, List.nil_append, -eq_self])
    cases he : eqlF x.1 n with
    | true =>
      rw [he, if_pos rfl] at hv
      refine e_condT ?_
      refine e_opN (v_ia i rfl hil) Imp.nil ?_
      refine e_opN v_fa Imp.nil ?_
      refine e_opN l1 (.pick (by (repeat constructor)) .nil) ?_
      refine e_bsl1 fun gb => ?_
      refine e_app (m := 1) (news := [txt x.2]) (by (repeat constructor)) (src_pt (e' := 9) (by kernel_rfl) .here (by rfl) (by intro u hu; rw [List.mem_singleton.1 hu]; rfl)) (by omega) (by omega) fun a' c' => ?_
      refine e_opN (v_add (by omega) (by omega)) Imp.nil ?_
      refine e_next2 (m - 1) (by omega) (.ex ((a', c'), i + 1) (.all ?_))
      (try simp only [List.cons_append, List.nil_append, -eq_self])
      (try dsimp only)
      rw [hv, List.length_append, List.map_append]
      refine .pu ⟨by omega, rfl, rfl⟩ ?_
      refine .pick .here ?_
      (repeat (first | exact Imp.refl | exact Imp.nil | (apply Imp.pick; (focus ((repeat constructor); done))) | refine Imp.drop ?_))
    | false =>
      rw [he, if_neg (by decide), List.append_nil] at hv
      refine e_condF ?_
      refine e_opN (v_add (by omega) (by omega)) Imp.nil ?_
      refine e_next2 (m - 1) (by omega) (.ex ((sa, sc), i + 1) (.all ?_))
      (try simp only [List.cons_append, List.nil_append, -eq_self])
      (try dsimp only)
      rw [hv]
      refine .pu ⟨by omega, rfl, rfl⟩ ?_
      (repeat (first | exact Imp.refl | exact Imp.nil | (apply Imp.pick; (focus ((repeat constructor); done))) | refine Imp.drop ?_))
  · have : i = l.length := by omega
    subst this
    rw [List.take_length]
    refine e_condF ?_
    (first | refine e_ret ((sa, sc)) rfl ?_ | refine e_retT ((sa, sc)) ?_)
    (repeat (first | exact Imp.refl | exact Imp.nil | (apply Imp.pick; (focus ((repeat constructor); done))) | refine Imp.drop ?_))
theorem first {W : World} {l : List Fd} {n : List UInt8} {a : Option Addr} {c : Nat} {A : HP} (hA : RdF W A a l) (hl : hOK l) (hn : n.length ≤ 4194304) : Cn Tryz.prog 19 [.slice a l.length c, txt n] W [A] (fun _ : Unit => .tuple #[txt (firstF l n).1, .bool (firstF l n).2])
    (fun r => [A]) := by
  (refine S.head_First_cn fun F => ?_; unfold S.head_First; simp only [List.cons_append, List.nil_append])
  refine e_call (values hA hl hn) (.cons .here .nil) fun r => ?_
  obtain ⟨sa, sc⟩ := r
  (try simp only [List.cons_append, List.nil_append, -eq_self])
  unfold firstF
  generalize valsF l n = V
  refine e_opN v_len Imp.nil ?_
  refine e_loop1 (fun m y => pu (y = .int .i64 0) :: A :: Sl 1 9 sa sc V.length (V.map txt) :: F) 0 ?_ ?_
  · exact .pu rfl .refl
  intro m ds y
  refine e_pu .here fun hy => ?_
  subst hy
  cases V with
  | nil =>
    refine e_opN (v_lss (a := 0) (b := 0)) Imp.nil ?_
    refine e_condF ?_
    (first | refine e_ret (()) rfl ?_ | refine e_retT (()) ?_)
    (repeat (first | exact Imp.refl | exact Imp.nil | (apply Imp.pick; (focus ((repeat constructor); done))) | refine Imp.drop ?_))
  | cons v r =>
    refine e_opN v_lss Imp.nil ?_
    rw [decide_eq_true (by simp)]
    refine e_condT ?_
    refine e_slsome (a := sa) (.there .here) (by simp) fun g hg => ?_
    subst hg
    have ld : RunV Tryz.prog W [Sl 1 9 (some ⟨g, 0, none⟩) sc (v :: r).length ((v :: r).map txt)] (sLoad 9 (.pointer (some ⟨g, 0 + 0, none⟩))) (txt v) := v_ldSl rfl
    refine e_opN (v_ia1 0 rfl (by simp)) Imp.nil ?_
    refine e_opN ld (.pick (by (repeat constructor)) .nil) ?_
    (first | refine e_ret (()) rfl ?_ | refine e_retT (()) ?_)
    (repeat (first | exact Imp.refl | exact Imp.nil | (apply Imp.pick; (focus ((repeat constructor); done))) | refine Imp.drop ?_))
end Go.Proofs.YtcmpkkkigmheoaaGreatDoor.FD
/-! Text put behind a builder's; texts joined. Texts of together at most 4194304 bytes. -/
namespace Go.Proofs.YtcmpkkkigmheoaaGreatDoor.FD
open Go Go.Proofs Go.RowKit Go.Proofs.YtcmpkkkigmheoaaGreatDoor.Sh Go.Proofs.YtcmpkkkigmheoaaGreatDoor.Sl Go.Proofs.YtcmpkkkigmheoaaGreatDoor.T
section
variable {P : Program} {W : World} {L L' : List HP} {Kp : PK} {k : Value → WP}
theorem e_own0 {s : Nat} {e : TypeId} {g : Nat} {cs : List Value} {n : Nat} {S : WP} (p : Pick L (pt g (.cells cs.toArray e (0, 0))) L') (hn : cs.length = n * s) (hm : n ≤ maxLen) (h : Ent W (Sl s e (some ⟨g, 0, none⟩) n 0 [] :: L') S) : Ent W L S :=
  e_conv p (fun h hh => ⟨by simp, Nat.zero_le _, hm, .inr ⟨g, cs, rfl, by simpa using hn, hh⟩⟩) h
theorem v_copy0 {dT sT ty e : TypeId} {b : Nat} {d a : Option Addr} {dLen dCap sLen sCap : Nat} [ht : SlT P dT e 1 b] (hn : Nat.min sLen dLen = 0) : RunV P W [] (sCopy #[dT, sT] ty [.slice d dLen dCap, .slice a sLen sCap]) (.int .i64 0) := fun w _ => by
  obtain ⟨i, z, hi, hz, hsz, hb, hzs⟩ := ht.info
  have hr := run_copy_none (P := P) w dT sT ty e d a dLen dCap sLen sCap ht.ut (by rw [hi]; simp [hsz]) hn
  simp [sCopy, hr, goInt]
theorem src_str {tx : TypeId} {l : List UInt8} (hk : P.underlying tx = some .string) : ∀ w, sat W L w → Src P 1 tx (txt l) l.length (l.map B) w := fun w _ => Src.ofString w hk ⟨l.toArray⟩
end
theorem e_mnz {W : World} {L : List HP} {Kp : PK} {k : Value → WP} {n : Nat} (hn : n ≤ 281474976710656) (h : ∀ g (cs : List Value), n ≤ cs.length → cs.length ≤ maxLen → Ent W (pt g (.cells cs.toArray 5 (0, 0)) :: L) (k (.slice (some ⟨g, 0, none⟩) n cs.length))) :
    Ent W L (opN Tryz.prog (sCall (fn 97) [.int .i64 (n : Int)]) Kp k) := fun w hw => by
  obtain ⟨cs, hrun, hle, hmx⟩ := Lib.run_makeNoZero (P := Tryz.prog) w #[3] 95 5 Tryz.underlying95 n hn
  have hr : (callFunc 97 #[.int .i64 (n : Int)]).run Tryz.prog w = .ok (.value (.slice (some ⟨w.heap.size, 0, none⟩) n cs.size)) (w.drew.drew.alloc (.cells cs 5)) := by
    rw [run_callFunc_extern Tryz.func97 (by kernel_rfl) (by kernel_rfl) (by kernel_rfl) (e := Extern.BytealgMakeNoZero.makeNoZero #[3] #[95]) (by kernel_rfl), hrun]
    rfl
  refine ⟨?_⟩
  rw [show (sCall (fn 97) [.int .i64 (n : Int)]).run Tryz.prog w = .ok (.value (.slice (some ⟨w.heap.size, 0, none⟩) n cs.size)) (w.drew.drew.alloc (.cells cs 5)) by simp [sCall, Deferred.ofValue, invoke, fn, hr]]
  have := h w.heap.size cs.toList (by simpa using hle) (by simpa using hmx (by unfold maxLen; omega))
  simp only [Array.toArray_toList, Array.length_toList] at this
  exact this _ ((hw.drew.drew).alloc (.cells cs 5))
theorem grow0 {W : World} {b n : Nat} {p : Value} (hn : n ≤ 4194304) : Cn Tryz.prog 70 [.pointer (some ⟨b, 0, none⟩), .int .i64 (n : Int)] W [pt b (.cells #[p, .slice none 0 0] 97 (0, 0))] (fun _ : Nat × Nat => .tuple #[])
    (fun r => [pt b (.cells #[p, .slice (some ⟨r.1, 0, none⟩) 0 r.2] 97 (0, 0)), Sl 1 5 (some ⟨r.1, 0, none⟩) r.2 0 []]) := by
  (refine S.strings_Builder_grow_cn fun F => ?_; unfold S.strings_Builder_grow; simp only [List.cons_append, List.nil_append])
  refine e_drS ?_
  refine e_stS v_nil Imp.nil ?_
  refine e_stS v_fa0 Imp.nil ?_
  refine e_stS (v_ldN (.there .here)) (.pick .here .nil) ?_
  refine e_stS v_capG Imp.nil ?_
  refine e_stS (v_mul (by decide) (by decide)) Imp.nil ?_
  refine e_stS (v_add (by omega) (by omega)) Imp.nil ?_
  refine e_stD v_nil Imp.nil ?_
  refine e_stD v_fa0 Imp.nil ?_
  refine e_stD (v_ldN (.there .here)) (.pick .here .nil) ?_
  refine e_stD v_len Imp.nil ?_
  rw [show (2 * ((0 : Nat) : Int) + (n : Int)) = ((n : Nat) : Int) by omega]
  refine e_mnz (by omega) fun g cs h1 h2 => ?_
  refine e_obl (by (repeat (first | exact Imp.refl | exact Imp.nil | (apply Imp.pick; (focus ((repeat constructor); done))) | refine Imp.drop ?_))) ?_
  refine e_obl (by (repeat (first | exact Imp.refl | exact Imp.nil | (apply Imp.pick; (focus ((repeat constructor); done))) | refine Imp.drop ?_))) ?_
  refine e_obl (by (repeat (first | exact Imp.refl | exact Imp.nil | (apply Imp.pick; (focus ((repeat constructor); done))) | refine Imp.drop ?_))) ?_
  refine e_obl (by (repeat (first | exact Imp.refl | exact Imp.nil | (apply Imp.pick; (focus ((repeat constructor); done))) | refine Imp.drop ?_))) ?_
  refine e_stS (v_slh0 0 rfl (Nat.zero_le _)) Imp.nil ?_
  refine e_opN v_nil Imp.nil ?_
  refine e_opN v_fa0 Imp.nil ?_
  refine e_opN (v_ldN (.there .here)) (.pick (by (repeat constructor)) .nil) ?_
  refine e_opN (v_copy0 rfl) Imp.nil ?_
  refine e_opN v_nil Imp.nil ?_
  refine e_opN v_fa0 Imp.nil ?_
  refine e_stN (.there .here) (.there .here) ?_
  refine e_own0 (s := 1) (n := cs.length) (.there .here) (by omega) h2 ?_
  (first | refine e_ret ((g, cs.length)) rfl ?_ | refine e_retT ((g, cs.length)) ?_)
  refine .pick (by (repeat constructor)) ?_
  (repeat (first | exact Imp.refl | exact Imp.nil | (apply Imp.pick; (focus ((repeat constructor); done))) | refine Imp.drop ?_))
theorem grow1 {W : World} {b n : Nat} (hn : 0 < n) (hm : n ≤ 4194304) : Cn Tryz.prog 46 [.pointer (some ⟨b, 0, none⟩), .int .i64 (n : Int)] W [pt b (.cells #[.pointer none, .slice none 0 0] 97 (0, 0))] (fun _ : Nat × Nat => .tuple #[])
    (fun r => [bd b (some ⟨r.1, 0, none⟩, r.2) []]) := by
  (refine S.strings_Builder_Grow_cn fun F => ?_; unfold S.strings_Builder_Grow; simp only [List.cons_append, List.nil_append])
  refine e_call check0 (.cons .here .nil) fun _ => ?_
  (try simp only [List.cons_append, List.nil_append, -eq_self])
  refine e_cut0d ?_
  refine e_opN v_lss Imp.nil ?_
  rw [decide_eq_false (by omega)]
  refine e_condF ?_
  refine e_allds fun ds => ?_
  refine e_drS ?_
  refine e_stS v_nil Imp.nil ?_
  refine e_stS v_fa0 Imp.nil ?_
  refine e_stS (v_ldN (.there .here)) (.pick .here .nil) ?_
  refine e_stS v_capG Imp.nil ?_
  refine e_stS v_nil Imp.nil ?_
  refine e_stS v_fa0 Imp.nil ?_
  refine e_stS (v_ldN (.there .here)) (.pick .here .nil) ?_
  refine e_stS v_len Imp.nil ?_
  refine e_stS (v_sub (by decide) (by decide)) Imp.nil ?_
  refine e_stS v_lss Imp.nil ?_
  rw [decide_eq_true (by omega)]
  refine e_condT ?_
  refine e_call (grow0 hm) (.cons .here .nil) fun r => ?_
  (try simp only [List.cons_append, List.nil_append, -eq_self])
  refine e_retT r ?_
  unfold bd
  refine .all ?_
  (try simp only [List.cons_append, List.nil_append, -eq_self])
  exact .refl
theorem writeStr {W : World} {b : Nat} {r : Option Addr × Nat} {l m : List UInt8} (hl : l.length + m.length ≤ 16777216) : Cn Tryz.prog 47 [.pointer (some ⟨b, 0, none⟩), txt m] W [bd b r l] (fun _ : Option Addr × Nat => .tuple #[.int .i64 (m.length : Int), .nilIface]) (fun r' => [bd b r' (l ++ m)]) := by
  (refine S.strings_Builder_WriteString_cn fun F => ?_; unfold S.strings_Builder_WriteString; simp only [List.cons_append, List.nil_append])
  unfold bd
  refine e_all .here ?_
  (try simp only [List.cons_append, List.nil_append, -eq_self])
  refine e_call check1 (.cons .here .nil) fun _ => ?_
  (try simp only [List.cons_append, List.nil_append, -eq_self])
  refine e_opN v_nil Imp.nil ?_
  refine e_opN v_fa0 Imp.nil ?_
  refine e_opN (v_ldN (.there .here)) (.pick .here .nil) ?_
  refine e_app (m := m.length) (news := m.map B) (by (repeat constructor)) (src_str (by kernel_rfl)) (by omega) (by omega) fun a' c' => ?_
  refine e_opN v_nil Imp.nil ?_
  refine e_opN v_fa0 Imp.nil ?_
  refine e_stN (.there .here) (.there .here) ?_
  refine e_opN v_lent Imp.nil ?_
  (first | refine e_ret ((a', c')) rfl ?_ | refine e_retT ((a', c')) ?_)
  refine .all ?_
  (try simp only [List.cons_append, List.nil_append, -eq_self])
  rw [List.length_append, List.map_append]
  refine .pick (by (repeat constructor)) ?_
  (repeat (first | exact Imp.refl | exact Imp.nil | (apply Imp.pick; (focus ((repeat constructor); done))) | refine Imp.drop ?_))
end Go.Proofs.YtcmpkkkigmheoaaGreatDoor.FD
/-! Texts joined; fields without some names. Texts of together at most 4194304 bytes, as many of them. -/
namespace Go.Proofs.YtcmpkkkigmheoaaGreatDoor.FD
open Go Go.Proofs Go.RowKit Go.Proofs.YtcmpkkkigmheoaaGreatDoor.Sh Go.Proofs.YtcmpkkkigmheoaaGreatDoor.Sl Go.Proofs.YtcmpkkkigmheoaaGreatDoor.T
def joinF (sep : List UInt8) : List (List UInt8) → List UInt8
  | [] => []
  | v :: r => v ++ r.flatMap (fun w => sep ++ w)
def sumL : List (List UInt8) → Nat
  | [] => 0
  | v :: r => v.length + sumL r
theorem sum_app (a b : List (List UInt8)) : sumL (a ++ b) = sumL a + sumL b := by
  induction a with
  | nil => simp [sumL]
  | cons v r ih => simp [sumL, ih]; omega
theorem flat_sum (sep : List UInt8) (r : List (List UInt8)) : (r.flatMap (fun w => sep ++ w)).length = sumL r + sep.length * r.length := by
  induction r with
  | nil => simp [sumL]
  | cons v r ih =>
    rw [List.flatMap_cons, List.length_append, ih, sumL, List.length_append, List.length_cons, Nat.mul_add, Nat.mul_one]
    omega
theorem sum_take {V : List (List UInt8)} {i : Nat} (h : i < V.length) : sumL (V.take (i + 1)) = sumL (V.take i) + V[i].length := by
  rw [List.take_succ_eq_append_getElem h, sum_app]
  simp [sumL]
theorem sum_take_le (V : List (List UInt8)) (i : Nat) : sumL (V.take i) ≤ sumL V := by
  have := sum_app (V.take i) (V.drop i)
  rw [List.take_append_drop] at this; omega
theorem quo_big {k : Nat} (h1 : 1 ≤ k) (h2 : k ≤ 4194304) : 16 < 9223372036854775807 / k := by
  have := Nat.div_le_div_left (a := 9223372036854775807) h2 (by omega)
  have e : 9223372036854775807 / 4194304 = 2199023255551 := rfl
  omega
theorem join {W : World} {sep : List UInt8} {V : List (List UInt8)} {a : Option Addr} {c : Nat} (hs : 0 < sep.length) (hs2 : sep.length ≤ 16) (hV : (joinF sep V).length ≤ 4194304) (hn : V.length ≤ 4194304) :
    Cn Tryz.prog 30 [.slice a V.length c, txt sep] W [Sl 1 9 a c V.length (V.map txt)] (fun _ : Unit => txt (joinF sep V)) (fun _ => []) := by
  (refine S.strings_Join_cn fun F => ?_; unfold S.strings_Join; simp only [List.cons_append, List.nil_append])
  match V, hV, hn with
  | [], _, _ =>
    refine e_opN v_len Imp.nil ?_
    refine e_opN v_eql Imp.nil ?_
    rw [decide_eq_true (by rfl)]
    refine e_condT ?_
    (first | refine e_ret (()) rfl ?_ | refine e_retT (()) ?_)
    (repeat (first | exact Imp.refl | exact Imp.nil | (apply Imp.pick; (focus ((repeat constructor); done))) | refine Imp.drop ?_))
  | [v], _, _ =>
    refine e_opN v_len Imp.nil ?_
    refine e_opN v_eql Imp.nil ?_
    rw [decide_eq_false (by simp)]
    refine e_condF ?_
    refine e_opN v_eql Imp.nil ?_
    rw [decide_eq_true (by rfl)]
    refine e_condT ?_
    refine e_slsome (a := a) .here (by simp) fun g hg => ?_
    subst hg
    have ld : RunV Tryz.prog W [Sl 1 9 (some ⟨g, 0, none⟩) c [v].length ([v].map txt)] (sLoad 9 (.pointer (some ⟨g, 0 + 0, none⟩))) (txt v) := v_ldSl rfl
    refine e_opN (v_ia1 0 rfl (by simp)) Imp.nil ?_
    refine e_opN ld (.pick (by (repeat constructor)) .nil) ?_
    refine e_ret () (by simp [joinF]) ?_
    (repeat (first | exact Imp.refl | exact Imp.nil | (apply Imp.pick; (focus ((repeat constructor); done))) | refine Imp.drop ?_))
  | v :: u :: r, hV, hn =>
    have hjl : (joinF sep (v :: u :: r)).length = sumL (v :: u :: r) + sep.length * ((v :: u :: r).length - 1) := by
      unfold joinF
      rw [List.length_append, flat_sum]
      simp only [sumL, List.length_cons, Nat.add_sub_cancel]
      omega
    obtain ⟨V, hVe⟩ : ∃ V, V = v :: u :: r := ⟨_, rfl⟩
    have h2 : 2 ≤ V.length := by rw [hVe]; simp
    have hv0 : V[0]? = some v := by rw [hVe]; rfl
    have hj0 : joinF sep V = v ++ (V.drop 1).flatMap (fun w => sep ++ w) := by rw [hVe]; rfl
    rw [← hVe] at hV hn hjl ⊢
    clear hVe
    have hq := quo_big (k := V.length - 1) (by omega) (by omega)
    refine e_opN v_len Imp.nil ?_
    refine e_opN v_eql Imp.nil ?_
    rw [decide_eq_false (by omega)]
    refine e_condF ?_
    refine e_opN v_eql Imp.nil ?_
    rw [decide_eq_false (by omega)]
    refine e_condF ?_
    refine e_slsome (a := a) .here (by omega) fun g hg => ?_
    subst hg
    refine e_slfacts .here fun f1 f2 f3 f4 => ?_
    have ld : ∀ i (h : i < V.length), RunV Tryz.prog W [Sl 1 9 (some ⟨g, 0, none⟩) c V.length (V.map txt)] (sLoad 9 (.pointer (some ⟨g, i, none⟩))) (txt V[i]) := fun i h => v_ldSl (by rw [List.getElem?_map, List.getElem?_eq_getElem h]; rfl)
    have hml : sep.length * (V.length - 1) ≤ 4194304 := by omega
    refine e_cut1 (fun z => pu (z = .int .i64 ((sep.length * (V.length - 1) : Nat) : Int)) :: Sl 1 9 (some ⟨g, 0, none⟩) c V.length (V.map txt) :: F) ?_ ?_
    rotate_left
    · refine e_opN v_lent Imp.nil ?_
      refine e_opN v_gtr Imp.nil ?_
      rw [decide_eq_true (by omega)]
      refine e_condT ?_
      refine e_cut0d ?_
      refine e_opN v_lent Imp.nil ?_
      refine e_opN v_len Imp.nil ?_
      refine e_opN (v_sub (by omega) (by omega)) Imp.nil ?_
      rw [show ((V.length : Nat) : Int) - 1 = ((V.length - 1 : Nat) : Int) by omega]
      refine e_opN (v_quo (by omega) (by omega) (by omega)) Imp.nil ?_
      refine e_opN v_geq Imp.nil ?_
      rw [decide_eq_false (by
        have e : (9223372036854775807 : Int) / ((V.length - 1 : Nat) : Int) = ((9223372036854775807 / (V.length - 1) : Nat) : Int) := rfl
        rw [e]
        omega)]
      refine e_condF ?_
      refine e_allds fun ds => ?_
      refine e_opN v_lent Imp.nil ?_
      refine e_opN v_len Imp.nil ?_
      refine e_opN (v_sub (by omega) (by omega)) Imp.nil ?_
      rw [show ((V.length : Nat) : Int) - 1 = ((V.length - 1 : Nat) : Int) by omega]
      have hm : ((sep.length : Nat) : Int) * ((V.length - 1 : Nat) : Int) = ((sep.length * (V.length - 1) : Nat) : Int) := by push_cast; rfl
      refine e_opN (v_mul (by rw [hm]; omega) (by rw [hm]; omega)) Imp.nil ?_
      rw [hm]
      refine e_opN (v_add (by omega) (by omega)) Imp.nil ?_
      refine e_sat (.pu (by congr 1; push_cast; omega) ?_)
      exact .refl
    · intro ds z
      refine e_pu .here fun hz => ?_
      subst hz
      refine e_opN v_len Imp.nil ?_
      have hsum : sumL V + sep.length * (V.length - 1) ≤ 4194304 := by omega
      generalize hM : sep.length * (V.length - 1) = M at hml hsum hjl ⊢
      have hMp : 0 < M := by
        rw [← hM]
        exact Nat.mul_pos hs (by omega)
      refine e_loop2 (fun m x y => (ex fun i : Nat => pu (m + i = V.length ∧ x = .int .i64 ((M + sumL (V.take i) : Nat) : Int) ∧ y = .int .i64 (i : Int))) :: Sl 1 9 (some ⟨g, 0, none⟩) c V.length (V.map txt) :: F) V.length ?_ ?_
      · exact .ex 0 (.pu ⟨rfl, rfl, rfl⟩ .refl)
      intro m ds2 x y
      refine e_ex .here fun i => e_pu .here fun hi => ?_
      obtain ⟨hmi, rfl, rfl⟩ := hi
      have hst := sum_take_le V i
      refine e_ask v_lss Imp.nil (fun h => ?_) (fun h => ?_)
      · have hil : i < V.length := by omega
        have hsu := sum_take hil
        have hst2 := sum_take_le V (i + 1)
        refine e_condT ?_
        refine e_opN (v_ia1 i rfl hil) Imp.nil ?_
        rw [Nat.zero_add]
        refine e_opN (ld i hil) (.pick .here .nil) ?_
        refine e_cut0d ?_
        refine e_opN v_lent Imp.nil ?_
        refine e_opN (v_sub (by omega) (by omega)) Imp.nil ?_
        refine e_opN v_gtr Imp.nil ?_
        rw [decide_eq_false (by omega)]
        refine e_condF ?_
        refine e_allds fun ds3 => ?_
        refine e_opN v_lent Imp.nil ?_
        refine e_opN (v_add (by omega) (by omega)) Imp.nil ?_
        refine e_opN (v_add (by omega) (by omega)) Imp.nil ?_
        exact e_next2 (m - 1) (by omega) (.ex (i + 1) (.pu ⟨by omega, by rw [hsu]; congr 1; omega, rfl⟩ .refl))
      · have hie : i = V.length := by omega
        subst hie
        rw [List.take_length]
        refine e_condF ?_
        refine e_newA fun b => ?_
        refine e_call (grow1 (n := M + sumL V) (by omega) (by omega)) (.cons .here .nil) fun r => ?_
        (try simp only [List.cons_append, List.nil_append, -eq_self])
        obtain ⟨v', hv'⟩ : ∃ v', v' = v := ⟨_, rfl⟩
        have hV0 : V[0]'(by omega) = v := by
          rw [List.getElem?_eq_getElem (by omega)] at hv0
          exact Option.some.inj hv0
        have hvl : v.length ≤ 4194304 := by
          rw [hj0, List.length_append] at hV
          omega
        refine e_opN (v_ia1 0 rfl (by omega)) Imp.nil ?_
        have ld0 := ld 0 (by omega)
        rw [hV0] at ld0
        refine e_opN ld0 (.pick (by (repeat constructor)) .nil) ?_
        refine e_call (writeStr (l := []) (m := v) (by simp; omega)) (.cons .here .nil) fun r => ?_
        (try simp only [List.cons_append, List.nil_append, -eq_self])
        refine e_opN (v_sll 1 rfl (by omega)) Imp.nil ?_
        rw [if_neg (by omega), show (some (⟨g, 0, none⟩ : Addr)).map (·.add (1 * 1)) = some ⟨g, 1, none⟩ by simp [addr_add]]
        refine e_opN v_len Imp.nil ?_
        refine e_loop1 (fun m y => (ex fun st : Nat × Option Addr × Nat => all [pu (m + st.1 = V.length - 1 ∧ y = .int .i64 (st.1 : Int)), bd b st.2 (v ++ ((V.drop 1).take st.1).flatMap (fun w => sep ++ w))]) :: Sl 1 9 (some ⟨g, 0, none⟩) c V.length (V.map txt) :: F) (V.length - 1) ?_ ?_
        · refine .ex (0, r) (.all ?_)
          (try simp only [List.cons_append, List.nil_append, -eq_self])
          refine .pu ⟨rfl, rfl⟩ ?_
          simp only [List.take_zero, List.flatMap_nil, List.append_nil]
          exact .refl
        intro m ds4 y
        refine e_ex .here fun st => e_all .here ?_
        obtain ⟨i, r⟩ := st
        (try simp only [List.cons_append, List.nil_append, -eq_self])
        refine e_pu .here fun hi => ?_
        (try dsimp only at hi)
        obtain ⟨hmi, rfl⟩ := hi
        have hfl := flat_sum sep ((V.drop 1).take i)
        have hle : (v ++ ((V.drop 1).take i).flatMap (fun w => sep ++ w)).length ≤ 4194304 := by
          have e : (V.drop 1).flatMap (fun w => sep ++ w) = ((V.drop 1).take i).flatMap (fun w => sep ++ w) ++ ((V.drop 1).drop i).flatMap (fun w => sep ++ w) := by
            rw [← List.flatMap_append, List.take_append_drop]
          rw [hj0, e, List.length_append, List.length_append] at hV
          rw [List.length_append]
          omega
        refine e_ask v_lss Imp.nil (fun h => ?_) (fun h => ?_)
        · have hil : i < V.length - 1 := by omega
          have hwl : V[1 + i]'(by omega) ∈ V := List.getElem_mem _
          have htk : (V.drop 1).take (i + 1) = (V.drop 1).take i ++ [V[1 + i]'(by omega)] := by
            rw [List.take_succ_eq_append_getElem (by rw [List.length_drop]; omega), List.getElem_drop]
          have hle2 : (v ++ ((V.drop 1).take (i + 1)).flatMap (fun w => sep ++ w)).length ≤ 4194304 := by
            have e : (V.drop 1).flatMap (fun w => sep ++ w) = ((V.drop 1).take (i + 1)).flatMap (fun w => sep ++ w) ++ ((V.drop 1).drop (i + 1)).flatMap (fun w => sep ++ w) := by
              rw [← List.flatMap_append, List.take_append_drop]
            rw [hj0, e, List.length_append, List.length_append] at hV
            rw [List.length_append]
            omega
          have hstep : v ++ ((V.drop 1).take (i + 1)).flatMap (fun w => sep ++ w) = ((v ++ ((V.drop 1).take i).flatMap (fun w => sep ++ w)) ++ sep) ++ V[1 + i]'(by omega) := by
            rw [htk, List.flatMap_append]
            simp
          rw [hstep, List.length_append, List.length_append] at hle2
          refine e_condT ?_
          refine e_opN (v_ia1 i rfl hil) Imp.nil ?_
          refine e_opN (ld (1 + i) (by omega)) (.pick (by (repeat constructor)) .nil) ?_
          refine e_call (writeStr (by omega)) (.cons .here .nil) fun r1 => ?_
          (try simp only [List.cons_append, List.nil_append, -eq_self])
          refine e_call (writeStr (by rw [List.length_append]; omega)) (.cons .here .nil) fun r2 => ?_
          (try simp only [List.cons_append, List.nil_append, -eq_self])
          refine e_opN (v_add (by omega) (by omega)) Imp.nil ?_
          refine e_next1 (m - 1) (by omega) (.ex (i + 1, r2) (.all ?_))
          (try simp only [List.cons_append, List.nil_append, -eq_self])
          refine .pu ⟨by (try dsimp only); omega, rfl⟩ ?_
          (try dsimp only)
          rw [hstep]
          exact .refl
        · have hie : i = V.length - 1 := by omega
          have ht : (V.drop 1).take i = V.drop 1 := List.take_of_length_le (by rw [List.length_drop]; omega)
          rw [ht, ← hj0]
          refine e_condF ?_
          refine e_call (bdString (by
            intro e
            rw [e] at hjl
            simp at hjl
            omega)) (.cons .here .nil) fun _ => ?_
          (try simp only [List.cons_append, List.nil_append, -eq_self])
          (first | refine e_ret (()) rfl ?_ | refine e_retT (()) ?_)
          (repeat (first | exact Imp.refl | exact Imp.nil | (apply Imp.pick; (focus ((repeat constructor); done))) | refine Imp.drop ?_))
def noneF (names : List (List UInt8)) (f : Fd) : Bool := !names.any (fun n => eqlF f.1 n)
def withF (l : List Fd) (names : List (List UInt8)) : List Fd := l.filter (noneF names)
theorem with_take {l : List Fd} {N : List (List UInt8)} {i : Nat} (h : i < l.length) : withF (l.take (i + 1)) N = withF (l.take i) N ++ (if noneF N l[i] then [l[i]] else []) := by
  unfold withF
  rw [List.take_succ_eq_append_getElem h, List.filter_append]
  congr 1
  cases he : noneF N l[i] <;> simp [he]
theorem with_len (l : List Fd) (N : List (List UInt8)) : (withF l N).length ≤ l.length := List.length_filter_le _ _
end Go.Proofs.YtcmpkkkigmheoaaGreatDoor.FD
/-! The document's elements of a list. A text of at most 2097152 bytes. -/
namespace Go.Proofs.YtcmpkkkigmheoaaGreatDoor.FD
open Go Go.Proofs Go.RowKit Go.Proofs.YtcmpkkkigmheoaaGreatDoor.Sh Go.Proofs.YtcmpkkkigmheoaaGreatDoor.Sl Go.Proofs.YtcmpkkkigmheoaaGreatDoor.T
section
variable {P : Program} {W : World} {L L' : List HP} {Kp : PK} {k : Value → WP}
theorem e_and12 {a b : Bool} {y1 y2 v : Value} {s1 : Value → Value → Sem Next} {s2 : Value → Sem Next} (h1 : a = true → RunV P W [] (s1 y1 y2) v) (h2 : a = true → RunV P W [] (s2 v) (.bool b)) (h : Ent W L (k (.bool (a && b)))) :
    Ent W L (gdK (.bool a) true (fun k => k y1) fun x1 => gdK (.bool a) true (fun k => k y2) fun x2 => gdK (.bool a) true (opN P (s1 x1 x2) Kp) fun x3 => gdK (.bool a) true (opN P (s2 x3) Kp) fun x4 => opN P (sPick (.bool a) x4 (.bool false)) Kp k) := by
  cases a with
  | true =>
    refine e_gdT ?_
    refine e_gdT ?_
    refine e_gdT ?_
    refine e_opN (h1 rfl) Imp.nil ?_
    refine e_gdT ?_
    refine e_opN (h2 rfl) Imp.nil ?_
    refine e_opN v_pickT Imp.nil ?_
    simpa using h
  | false =>
    refine e_gdF2 ?_
    refine e_gdF2 ?_
    refine e_gdF2 ?_
    refine e_gdF2 ?_
    refine e_opN v_pickF Imp.nil ?_
    simpa using h
theorem e_and12or {a b c : Bool} {y1 y2 v : Value} {s1 : Value → Value → Sem Next} {s2 : Value → Sem Next} (h1 : a = true → RunV P W [] (s1 y1 y2) v) (h2 : a = true → RunV P W [] (s2 v) (.bool b)) (h : Ent W L (k (.bool (a && (b || c))))) :
    Ent W L (gdK (.bool a) true (fun k => k y1) fun x1 => gdK (.bool a) true (fun k => k y2) fun x2 => gdK (.bool a) true (opN P (s1 x1 x2) Kp) fun x3 => gdK (.bool a) true (opN P (s2 x3) Kp) fun x4 => gdK (.bool a) true (fun k => k x4) fun x5 => gdK x5 false (fun k => k (.bool c)) fun x6 =>
      gdK (.bool a) true (opN P (sPick x5 (.bool true) x6) Kp) fun x7 => opN P (sPick (.bool a) x7 (.bool false)) Kp k) := by
  cases a with
  | true =>
    refine e_gdT ?_
    refine e_gdT ?_
    refine e_gdT ?_
    refine e_opN (h1 rfl) Imp.nil ?_
    refine e_gdT ?_
    refine e_opN (h2 rfl) Imp.nil ?_
    refine e_gdT ?_
    cases b with
    | true =>
      refine e_gdF1 ?_
      refine e_gdT ?_
      refine e_opN v_pickT Imp.nil ?_
      refine e_opN v_pickT Imp.nil ?_
      simpa using h
    | false =>
      refine e_gdT ?_
      refine e_gdT ?_
      refine e_opN v_pickF Imp.nil ?_
      refine e_opN v_pickT Imp.nil ?_
      simpa using h
  | false =>
    refine e_gdF2 ?_
    refine e_gdF2 ?_
    refine e_gdF2 ?_
    refine e_gdF2 ?_
    refine e_gdF2 ?_
    refine e_gdU ?_
    refine e_gdF2 ?_
    refine e_opN v_pickF Imp.nil ?_
    simpa using h
end
theorem map_txt (l : List (List UInt8)) : l.map txt = l.flatMap pstring := by
  induction l with
  | nil => rfl
  | cons x r ih => rw [List.map_cons, List.flatMap_cons, ih]; rfl
def gt (l : List UInt8) (i : Nat) : UInt8 := l.getD i 0
theorem gt_at {l : List UInt8} {i : Nat} (h : i < l.length) : gt l i = l[i] := by simp [gt, List.getD_eq_getElem?_getD, h]
theorem v_gt {P : Program} {W : World} {t : TypeId} {l : List UInt8} {q : IntKind} {i : Nat} [ht : StrT P t] (h : i < l.length) : RunV P W [] (sIx t (txt l) (.int q (i : Int))) (B (gt l i)) := by
  rw [gt_at h]
  exact v_ixS i rfl h
def phA (l : List UInt8) (q e : Bool) (out : List (List UInt8)) (inn : Bool) (a i : Nat) : Prop := i ≤ l.length ∧ a ≤ i ∧ elemsF q e l = out ++ tidy (stE l q e inn a i)
def phB (l : List UInt8) (q e : Bool) (out : List (List UInt8)) (i : Nat) : Prop := i = l.length + 1 ∧ elemsF q e l = out
theorem relements {W : World} {l : List UInt8} {q e : Bool} (hl : l.length ≤ 2097152) : Cn Tryz.prog 51 [txt l, .bool q, .bool e] W [] (fun r : Option Addr × Nat => .slice r.1 (elemsF q e l).length r.2)
    (fun r => [Sl 1 9 r.1 r.2 (elemsF q e l).length ((elemsF q e l).map txt)]) := by
  have hnum := elems_num (q := q) (e := e) (l := l)
  have hle : ∀ out r, elemsF q e l = out ++ r → out.length ≤ 2097153 := fun out r h => by
    have := congrArg List.length h
    rw [List.length_append] at this; omega
  (refine S.ref10_elements_cn fun F => ?_; unfold S.ref10_elements; simp only [List.cons_append, List.nil_append])
  refine e_loop4 (fun m y7 y8 y9 y10 => [ex fun st : (List (List UInt8) × Option Addr × Nat) × Bool × Nat × Nat => all [pu (m + st.2.2.2 = l.length + 1 ∧ y7 = .slice st.1.2.1 st.1.1.length st.1.2.2 ∧ y8 = .bool st.2.1 ∧ y9 = .int .i64 (st.2.2.1 : Int) ∧ y10 = .int .i64 (st.2.2.2 : Int) ∧ (phA l q e st.1.1 st.2.1 st.2.2.1 st.2.2.2 ∨ phB l q e st.1.1 st.2.2.2)),
      Sl 1 9 st.1.2.1 st.1.2.2 st.1.1.length (st.1.1.map txt)]] ++ F) (l.length + 1) ?_ ?_
  · refine Imp.ex (([], none, 0), false, 0, 0) (.all ?_)
    (try simp only [List.cons_append, List.nil_append, -eq_self])
    refine .pu ⟨rfl, rfl, rfl, rfl, rfl, .inl ⟨Nat.zero_le _, Nat.le_refl _, rfl⟩⟩ ?_
    exact imp_nil .refl
  intro m ds y7 y8 y9 y10
  (try simp only [List.cons_append, List.nil_append, -eq_self])
  refine e_ex Pick.here fun st => e_all Pick.here ?_
  obtain ⟨⟨out, sa, sc⟩, inn, a, i⟩ := st
  (try simp only [List.cons_append, List.nil_append, -eq_self])
  refine e_pu Pick.here fun hi => ?_
  (try dsimp only at hi)
  obtain ⟨hmi, rfl, rfl, rfl, rfl, hph⟩ := hi
  refine e_opN v_lent Imp.nil ?_
  refine e_ask v_leq Imp.nil (fun hil => ?_) (fun hil => ?_)
  rotate_left
  · refine e_condF ?_
    rcases hph with h | h
    · exact absurd h.1 (by omega)
    · rw [h.2]
      refine e_ret (sa, sc) rfl ?_
      exact .refl
  obtain ⟨hil2, hai, hel⟩ : phA l q e out inn a i := by
    rcases hph with h | h
    · exact h
    · exact absurd h.1 (by omega)
  have hol := hle _ _ hel
  refine e_condT ?_
  refine e_cut1 (fun z => (ex fun i2 : Nat => pu (z = .int .i64 (i2 : Int) ∧ i ≤ i2 ∧ i2 ≤ l.length ∧ elemsF q e l = out ++ tidy (stE l q e inn a i2) ∧ ¬ (i2 < l.length ∧ gt l i2 = 92 ∧ inn = true ∧ e = true))) :: Sl 1 9 sa sc out.length (out.map txt) :: F) ?_ ?_
  rotate_left
  · refine e_opN v_lent Imp.nil ?_
    refine e_opN v_lss Imp.nil ?_
    refine e_and0 ?_
    refine e_and0 ?_
    refine e_and12 (v := B (gt l i)) (b := decide (gt l i = 92)) (fun h => v_gt (by simp at h; omega)) (fun _ => B_eq 92 rfl) ?_
    refine e_cond (φ := i < l.length ∧ gt l i = 92 ∧ inn = true ∧ e = true) (by
      have e3 : decide ((i : Int) < (l.length : Int)) = decide (i < l.length) := by rw [decide_eq_decide]; omega
      rw [e3]
      by_cases h1 : i < l.length <;> by_cases h2 : gt l i = 92 <;> cases inn <;> cases e <;> simp [h1, h2]) (fun h => ?_) (fun h => ?_)
    · obtain ⟨h1, h2, h3, h4⟩ := h
      rw [gt_at h1] at h2
      have hes := stE_esc (q := q) h1 hai h2 h3 h4
      rw [hes] at hel
      refine e_opN (v_add (by omega) (by omega)) Imp.nil ?_
      refine e_opN v_lent Imp.nil ?_
      refine e_ask v_lss Imp.nil (fun h5 => ?_) (fun h5 => ?_)
      · refine e_condT ?_
        refine e_opN (v_add (by omega) (by omega)) Imp.nil ?_
        refine e_next4 (m - 2) (by omega) (.ex ((out, sa, sc), inn, a, i + 2) (.all ?_))
        (try simp only [List.cons_append, List.nil_append, -eq_self])
        refine .pu ⟨by (try dsimp only); omega, rfl, rfl, rfl, by (try dsimp only); rw [Int.add_assoc]; rfl, .inl ⟨by (try dsimp only); omega, by (try dsimp only); omega, hel⟩⟩ ?_
        exact .refl
      · refine e_condF ?_
        refine e_sat (.ex (i + 1) (.pu ⟨rfl, by omega, by omega, ?_, by omega⟩ .refl))
        rw [hel, stE_end (by omega), stE_end (by omega)]
    · refine e_sat (.ex i (.pu ⟨rfl, by omega, by omega, hel, h⟩ .refl))
  intro ds2 z
  refine e_ex .here fun j => e_pu .here fun hz => ?_
  obtain ⟨rfl, hij, hjl, hel, hne⟩ := hz
  have haj : a ≤ j := by omega
  refine e_cut1 (fun z => (ex fun i2 : Bool => pu (z = .bool i2 ∧ ((j < l.length ∧ gt l j = 34 ∧ q = true ∧ i2 = !inn) ∨ (¬ (j < l.length ∧ gt l j = 34 ∧ q = true) ∧ i2 = inn)))) :: Sl 1 9 sa sc out.length (out.map txt) :: F) ?_ ?_
  rotate_left
  · refine e_opN v_lent Imp.nil ?_
    refine e_opN v_lss Imp.nil ?_
    refine e_and0 ?_
    refine e_and12 (v := B (gt l j)) (b := decide (gt l j = 34)) (fun h => v_gt (by simp at h; omega)) (fun _ => B_eq 34 rfl) ?_
    refine e_cond (φ := j < l.length ∧ gt l j = 34 ∧ q = true) (by
      have e3 : decide ((j : Int) < (l.length : Int)) = decide (j < l.length) := by rw [decide_eq_decide]; omega
      rw [e3]
      by_cases h1 : j < l.length <;> by_cases h2 : gt l j = 34 <;> cases q <;> simp [h1, h2]) (fun h => ?_) (fun h => ?_)
    · refine e_opN v_not Imp.nil ?_
      refine e_sat (.ex (!inn) (.pu ⟨rfl, .inl ⟨h.1, h.2.1, h.2.2, rfl⟩⟩ .refl))
    · refine e_sat (.ex inn (.pu ⟨rfl, .inr ⟨h, rfl⟩⟩ .refl))
  intro ds3 z
  refine e_ex .here fun in2 => e_pu .here fun hz => ?_
  obtain ⟨rfl, hq⟩ := hz
  refine e_opN v_lent Imp.nil ?_
  refine e_opN v_lss Imp.nil ?_
  refine e_and12or (v := B (gt l j)) (b := decide (gt l j ≠ 44)) (fun h => v_gt (by simp at h; omega)) (fun _ => B_ne 44 rfl) ?_
  refine e_cond (φ := j < l.length ∧ (gt l j ≠ 44 ∨ in2 = true)) (by
    have e3 : decide ((j : Int) < (l.length : Int)) = decide (j < l.length) := by rw [decide_eq_decide]; omega
    rw [e3]
    by_cases h1 : j < l.length <;> by_cases h2 : gt l j = 44 <;> cases in2 <;> simp [h1, h2]) (fun h => ?_) (fun h => ?_)
  · obtain ⟨hj, h⟩ := h
    have hel2 : elemsF q e l = out ++ tidy (stE l q e in2 a (j + 1)) := by
      rcases hq with ⟨_, h2, h3, rfl⟩ | ⟨h1, rfl⟩
      · rw [gt_at hj] at h2
        rw [hel, stE_q hj haj (by rw [h2]; rintro ⟨c, _⟩; exact absurd c (by decide)) h2 h3]
      · rw [gt_at hj] at h h1 hne
        rw [hel, stE_o hj haj (fun c => hne ⟨hj, c⟩) (fun c => h1 ⟨hj, c⟩) (fun c => by rcases h with h | h; exact h c.1; rw [c.2] at h; cases h)]
    refine e_opN (v_add (by omega) (by omega)) Imp.nil ?_
    refine e_next4 (m - (j + 1 - i)) (by omega) (.ex ((out, sa, sc), in2, a, j + 1) (.all ?_))
    (try simp only [List.cons_append, List.nil_append, -eq_self])
    refine .pu ⟨by (try dsimp only); omega, rfl, rfl, rfl, rfl, .inl ⟨by (try dsimp only); omega, by (try dsimp only); omega, hel2⟩⟩ ?_
    exact .refl
  · have h44 : j < l.length → gt l j = 44 ∧ in2 = false := fun hj => by
      refine ⟨Decidable.byContradiction fun c => h ⟨hj, .inl c⟩, ?_⟩
      cases hx : in2 with
      | false => rfl
      | true => exact absurd ⟨hj, .inr hx⟩ h
    have hin : in2 = inn := by
      rcases hq with ⟨h1, h2, _, _⟩ | ⟨_, h2⟩
      · have := (h44 h1).1
        rw [h2] at this
        exact absurd this (by decide)
      · exact h2
    subst hin
    have hel2 : ∃ r, elemsF q e l = out ++ tidy (sub l a j :: r) ∧ (j < l.length → r = stE l q e in2 (j + 1) (j + 1)) ∧ (j = l.length → r = []) := by
      by_cases hj : j < l.length
      · have h4 := h44 hj
        rw [gt_at hj] at h4
        refine ⟨_, by rw [hel, stE_c hj haj h4.1 h4.2], fun _ => by rw [h4.2], fun c => by omega⟩
      · have hje : j = l.length := by omega
        refine ⟨[], by rw [hel, stE_end (by omega), sub_end (by omega)], fun c => absurd c hj, fun _ => rfl⟩
    obtain ⟨r, hel2, hr1, hr2⟩ := hel2
    rw [tidy_cons] at hel2
    refine e_opN v_lent Imp.nil ?_
    refine e_opN v_min Imp.nil ?_
    rw [show (if (l.length : Int) < (j : Int) then (l.length : Int) else (j : Int)) = (j : Int) from if_neg (by omega)]
    refine e_opN (v_sslh a j rfl rfl haj hjl) Imp.nil ?_
    refine e_call (rtrim (l := sub l a j) (by simp [sub]; omega)) .nil fun _ => ?_
    (try simp only [List.cons_append, List.nil_append, -eq_self])
    have e0 : (Value.string ⟨#[]⟩) = txt [] := rfl
    rw [e0]
    refine e_cut1 (fun z => [ex fun w : List (List UInt8) × Option Addr × Nat => all [pu (z = .slice w.2.1 w.1.length w.2.2 ∧ elemsF q e l = w.1 ++ tidy r), Sl 1 9 w.2.1 w.2.2 w.1.length (w.1.map txt)]] ++ F) ?_ ?_
    · intro ds4 z
      (try simp only [List.cons_append, List.nil_append, -eq_self])
      refine e_ex .here fun w => e_all .here ?_
      obtain ⟨out2, sa2, sc2⟩ := w
      (try simp only [List.cons_append, List.nil_append, -eq_self])
      refine e_pu .here fun hz => ?_
      obtain ⟨rfl, hz⟩ := hz
      refine e_opN (v_add (by omega) (by omega)) Imp.nil ?_
      refine e_opN (v_add (by omega) (by omega)) Imp.nil ?_
      refine e_next4 (m - (j + 1 - i)) (by omega) (.ex ((out2, sa2, sc2), in2, j + 1, j + 1) (.all ?_))
      (try simp only [List.cons_append, List.nil_append, -eq_self])
      refine .pu ⟨by (try dsimp only); omega, rfl, rfl, rfl, rfl, ?_⟩ ?_
      · by_cases hj : j < l.length
        · left
          refine ⟨by (try dsimp only); omega, by (try dsimp only); omega, ?_⟩
          rw [← hr1 hj]; exact hz
        · right
          have hje : j = l.length := by omega
          refine ⟨by (try dsimp only); omega, ?_⟩
          rw [hr2 hje, tidy_nil, List.append_nil] at hz
          exact hz
      · exact .refl
    · refine e_opN v_strne Imp.nil ?_
      by_cases ht : trimB (sub l a j) = []
      · rw [decide_eq_false (fun c => c ht)]
        rw [if_pos ht] at hel2
        refine e_condF ?_
        refine e_sat (.ex (out, sa, sc) (.all ?_))
        (try simp only [List.cons_append, List.nil_append, -eq_self])
        exact .pu ⟨rfl, hel2⟩ .refl
      · rw [decide_eq_true ht]
        rw [if_neg ht] at hel2
        refine e_condT ?_
        refine e_bsl1 fun gb => ?_
        refine e_app (m := 1) (news := [txt (trimB (sub l a j))]) (by (repeat constructor)) (src_pt (e' := 9) (by kernel_rfl) .here (by rfl) (by intro u hu; rw [List.mem_singleton.1 hu]; rfl)) (by omega) (by omega) fun a' c' => ?_
        refine e_sat (.ex (out ++ [trimB (sub l a j)], a', c') (.all ?_))
        (try simp only [List.cons_append, List.nil_append, -eq_self])
        refine .pu ⟨by simp, by rw [List.append_assoc]; exact hel2⟩ ?_
        rw [List.length_append, List.map_append]
        simp only [List.length_singleton, List.map_cons, List.map_nil]
        (repeat (first | exact Imp.refl | exact Imp.nil | (apply Imp.pick; (focus ((repeat constructor); done))) | refine Imp.drop ?_))
end Go.Proofs.YtcmpkkkigmheoaaGreatDoor.FD
/-! A span of bytes. The library's own error can be read ('Gl'); a text of at most 4194304 bytes. -/
namespace Go.Proofs.YtcmpkkkigmheoaaGreatDoor.FD
open Go Go.Proofs Go.RowKit Go.Proofs.YtcmpkkkigmheoaaGreatDoor.Sh Go.Proofs.YtcmpkkkigmheoaaGreatDoor.Sl Go.Proofs.YtcmpkkkigmheoaaGreatDoor.T
theorem v_ixAG {P : Program} {W : World} {t e : TypeId} {n s : Nat} {cs : Array Value} {q : IntKind} {i : Int} (j : Nat) [ht : ArrT P t n e s] [ha : AggT P e s] (hi : i = (j : Int)) (hj : j < n) : RunV P W [] (sIx t (.agg cs) (.int q i)) (.agg (cs.extract (j * s) (j * s + s))) := fun w _ => by
  subst hi
  simp [sIx, Instr.index, asIntOf, ht.ut, ht.size, hj, part, ha.agg, ha.size]
def spOk (l : List UInt8) (i : Nat) : Bool := cutS 45 l && (if 0 < i then endOk (cutA 45 l) else true) && (if 1 < i then endOk (cutB 45 l) else true)
def spF (l : List UInt8) (i : Nat) : Int := if 0 < i then endF (cutA 45 l) else -1
def spL (l : List UInt8) (i : Nat) : Int := if 1 < i then endF (cutB 45 l) else -1
theorem endOk_e {s : List UInt8} (h : s = []) : endOk s = true := by subst h; rfl
theorem endF_e {s : List UInt8} (h : s = []) : endF s = -1 := by subst h; rfl
theorem endOk_n {s : List UInt8} (h : s ≠ []) : endOk s = decide ((decF s).2 = 0) := by unfold endOk; simp [h]
theorem endF_n {s : List UInt8} (h : s ≠ []) : endF s = (decF s).1 := by unfold endF; rw [if_neg h]
end Go.Proofs.YtcmpkkkigmheoaaGreatDoor.FD
