/- The shapes of functions of the loaded program, printed by a program of mine; each is proved to be what the model asks of the function. No conditions. -/
import Derived.Test.YtcigoifhcfbcdaaGreatDoorChecked
import Derived.Test.YtcigoifhcfbcdaaGreatDoorIter
import Derived.KernelRfl
set_option linter.unusedVariables false
namespace Go.Proofs.YtcigoifhcfbcdaaGreatDoor.S
open Go Go.Proofs.YtcigoifhcfbcdaaGreatDoor.Sh Go.Proofs.YtcigoifhcfbcdaaGreatDoor.Sl

theorem wide : Tryz.prog.follows .mixedOrders = true := by kernel_rfl

/-- law10_FieldsDirectives -/
def law10_FieldsDirectives (v0 v1 : Value) (Kp : PK) (K : Value → WP) : WP :=
  opN Tryz.prog (sCall (fn 5) [v0]) Kp fun x15 =>
  opN Tryz.prog (sExt x15 0) Kp fun x16 =>
  opN Tryz.prog (sExt x15 1) Kp fun x17 =>
  opN Tryz.prog (sCall (fn 6) [v0]) Kp fun x20 =>
  opN Tryz.prog (sExt x20 0) Kp fun x21 =>
  opN Tryz.prog (sExt x20 1) Kp fun x22 =>
  opN Tryz.prog (sCall (fn 7) [x16, x21]) Kp fun x25 =>
  opN Tryz.prog (sUn .not x25) Kp fun x26 =>
  gdK x26 false (fun k => k x17) fun x28 =>
  gdK x26 false (opN Tryz.prog (sCall (fn 8) [x28]) Kp) fun x29 =>
  gdK x26 false (fun k => k x22) fun x30 =>
  gdK x26 false (opN Tryz.prog (sEq .neq 3 (.tmp 29) (.tmp 30) x29 x30) Kp) fun x31 =>
  opN Tryz.prog (sPick x26 (.bool true) x31) Kp fun x32 =>
  gdK x32 false (fun k => k v0) fun x34 =>
  gdK x32 false (opN Tryz.prog (sCall (fn 9) [x34]) Kp) fun x35 =>
  gdK x32 false (fun k => k v0) fun x36 =>
  gdK x32 false (opN Tryz.prog (sCall (fn 10) [x36]) Kp) fun x37 =>
  gdK x32 false (opN Tryz.prog (sEq .neq 9 (.tmp 35) (.tmp 37) x35 x37) Kp) fun x38 =>
  opN Tryz.prog (sPick x32 (.bool true) x38) Kp fun x39 =>
  condS x39
  (K (.bool false))
  (opN Tryz.prog (sCall (fn 11) [x16, v1]) Kp fun x43 =>
   opN Tryz.prog (sExt x43 0) Kp fun x44 =>
   opN Tryz.prog (sExt x43 1) Kp fun x45 =>
   opN Tryz.prog (sCall (fn 12) [x21, v1]) Kp fun x49 =>
   opN Tryz.prog (sExt x49 0) Kp fun x50 =>
   opN Tryz.prog (sExt x49 1) Kp fun x51 =>
   opN Tryz.prog (sEq .eql 3 (.tmp 52) (.tmp 53) x44 x50) Kp fun x54 =>
   gdK x54 true (fun k => k x45) fun x56 =>
   gdK x54 true (fun k => k x51) fun x57 =>
   gdK x54 true (opN Tryz.prog (sEq .eql 4 (.tmp 56) (.tmp 57) x56 x57) Kp) fun x58 =>
   opN Tryz.prog (sPick x54 x58 (.bool false)) Kp fun x59 =>
   gdK x59 true (opN Tryz.prog (sCall (fn 13) []) Kp) fun x61 =>
   opN Tryz.prog (sPick x59 x61 (.bool false)) Kp fun x62 =>
   K x62)
def law10_FieldsDirectives_an : Ann := { cuts := [], blks := [], loops := [], drs := [] }
theorem law10_FieldsDirectives_eq (v0 v1 : Value) (Kp : PK) (K : Value → WP) : cevF Tryz.prog law10_FieldsDirectives_an Tryz.f3 [v0, v1] Kp K = law10_FieldsDirectives v0 v1 Kp K := by kernel_rfl
theorem law10_FieldsDirectives_calls {v0 v1 : Value} {Kp : PK} {K : Value → WP} {w : World} (h : law10_FieldsDirectives v0 v1 Kp K w) : Calls Tryz.prog 3 #[v0, v1] w (after Kp K) :=
  calls_of_shape (calls_of_cev wide Tryz.func3 (an := law10_FieldsDirectives_an) (args := [v0, v1]) (cast (congrFun (law10_FieldsDirectives_eq v0 v1 Kp K) w).symm h))
theorem law10_FieldsDirectives_cn {v0 v1 : Value} {W : World} {α : Type} {A : List HP} {r : α → Value} {B : α → List HP} (h : ∀ F, Ent W (A ++ F) (law10_FieldsDirectives v0 v1 noP fun v w => ∃ x, v = r x ∧ sat W (B x ++ F) w)) : Cn Tryz.prog 3 [v0, v1] W A r B :=
  Cn.of (shape := law10_FieldsDirectives v0 v1) Tryz.call3 (fun h => law10_FieldsDirectives_calls h) h
theorem law10_FieldsDirectives_cnP {v0 v1 : Value} {W : World} {α β : Type} {A : List HP} {r : α → Value} {B : α → List HP} {pc : β → List PanicEntry} {Bp : β → List HP} (h : ∀ F, Ent W (A ++ F) (law10_FieldsDirectives v0 v1 (fun ch w => ∃ y, ch = pc y ∧ sat W (Bp y ++ F) w) fun v w => ∃ x, v = r x ∧ sat W (B x ++ F) w)) : CnP Tryz.prog 3 [v0, v1] W A r B pc Bp :=
  CnP.of (shape := law10_FieldsDirectives v0 v1) Tryz.call3 (fun h => law10_FieldsDirectives_calls h) h

/-- law10_FieldsBack -/
def law10_FieldsBack (v0 v1 v2 : Value) (Kp : PK) (K : Value → WP) : WP :=
  loop2 (fun I1 m1 _ y7 y8 =>
   opN Tryz.prog (sLen #[9] 3 [v1]) Kp fun x18 =>
   opN Tryz.prog (sBin .lss 3 y8 x18) Kp fun x19 =>
   condS x19
   (opN Tryz.prog (sIx 9 v1 y8) Kp fun x24 =>
    opN Tryz.prog (sBin .lss 5 x24 (.int .u8 33)) Kp fun x25 =>
    gdK x25 false (fun k => k v1) fun x27 =>
    gdK x25 false (fun k => k y8) fun x28 =>
    gdK x25 false (opN Tryz.prog (sIx 9 x27 x28) Kp) fun x29 =>
    gdK x25 false (opN Tryz.prog (sEq .eql 5 (.tmp 29) (.const (.int .u8 34)) x29 (.int .u8 34)) Kp) fun x30 =>
    opN Tryz.prog (sPick x25 (.bool true) x30) Kp fun x31 =>
    gdK x31 false (fun k => k v1) fun x33 =>
    gdK x31 false (fun k => k y8) fun x34 =>
    gdK x31 false (opN Tryz.prog (sIx 9 x33 x34) Kp) fun x35 =>
    gdK x31 false (opN Tryz.prog (sEq .eql 5 (.tmp 35) (.const (.int .u8 127)) x35 (.int .u8 127)) Kp) fun x36 =>
    opN Tryz.prog (sPick x31 (.bool true) x36) Kp fun x37 =>
    condS x37
    (opN Tryz.prog (sBin .add 3 y8 (.int .i64 1)) Kp fun x21 =>
     next2 I1 m1 (.bool false) x21)
    (opN Tryz.prog (sBin .add 3 y8 (.int .i64 1)) Kp fun x21 =>
     next2 I1 m1 y7 x21))
   (opN Tryz.prog (sBuild 38 [(0, v0), (1, v1)]) Kp fun x40 =>
    opN Tryz.prog (sAlloc 38) Kp fun x9 =>
    opN Tryz.prog (sStore 38 x9 x40) Kp fun _ =>
    opN Tryz.prog (sLoad 38 x9) Kp fun x42 =>
    opN Tryz.prog (sCall (fn 15) [x42]) Kp fun x43 =>
    opN Tryz.prog (sCall (fn 14) [x43]) Kp fun x44 =>
    opN Tryz.prog (sExt x44 0) Kp fun x45 =>
    opN Tryz.prog (sExt x44 1) Kp fun x46 =>
    opN Tryz.prog (sAlloc 38) Kp fun x10 =>
    opN Tryz.prog (sStore 38 x10 x45) Kp fun _ =>
    opN Tryz.prog (sCall (fn 8) [x46]) Kp fun x48 =>
    opN Tryz.prog (sEq .eql 3 (.tmp 48) (.const (.int .i64 0)) x48 (.int .i64 0)) Kp fun x49 =>
    opN Tryz.prog (sEq .neq 4 (.tmp 49) (.tmp 50) x49 y7) Kp fun x51 =>
    gdK x51 false (fun k => k y7) fun x53 =>
    gdK x51 false (fun k => k x53) fun x54 =>
    gdK x54 true (opN Tryz.prog (sLoad 38 x10) Kp) fun x55 =>
    gdK x54 true (opN Tryz.prog (sLoad 38 x9) Kp) fun x56 =>
    gdK x54 true (opN Tryz.prog (sEq .neq 38 (.tmp 55) (.tmp 56) x55 x56) Kp) fun x57 =>
    gdK x51 false (opN Tryz.prog (sPick x54 x57 (.bool false)) Kp) fun x58 =>
    opN Tryz.prog (sPick x51 (.bool true) x58) Kp fun x59 =>
    condS x59
    (K (.bool false))
    (loop2 (fun I2 m2 _ y12 y13 =>
      opN Tryz.prog (sLen #[9] 3 [v1]) Kp fun x62 =>
      opN Tryz.prog (sBin .lss 3 y13 x62) Kp fun x63 =>
      condS x63
      (opN Tryz.prog (sIx 9 v1 y13) Kp fun x68 =>
       opN Tryz.prog (sEq .neq 5 (.tmp 68) (.const (.int .u8 9)) x68 (.int .u8 9)) Kp fun x69 =>
       gdK x69 true (fun k => k v1) fun x71 =>
       gdK x69 true (fun k => k y13) fun x72 =>
       gdK x69 true (opN Tryz.prog (sIx 9 x71 x72) Kp) fun x73 =>
       gdK x69 true (opN Tryz.prog (sBin .lss 5 x73 (.int .u8 32)) Kp) fun x74 =>
       gdK x69 true (fun k => k x74) fun x75 =>
       gdK x75 false (fun k => k v1) fun x76 =>
       gdK x75 false (fun k => k y13) fun x77 =>
       gdK x75 false (opN Tryz.prog (sIx 9 x76 x77) Kp) fun x78 =>
       gdK x75 false (opN Tryz.prog (sEq .eql 5 (.tmp 78) (.const (.int .u8 127)) x78 (.int .u8 127)) Kp) fun x79 =>
       gdK x69 true (opN Tryz.prog (sPick x75 (.bool true) x79) Kp) fun x80 =>
       opN Tryz.prog (sPick x69 x80 (.bool false)) Kp fun x81 =>
       condS x81
       (opN Tryz.prog (sBin .add 3 y13 (.int .i64 1)) Kp fun x65 =>
        next2 I2 m2 (.bool false) x65)
       (opN Tryz.prog (sBin .add 3 y13 (.int .i64 1)) Kp fun x65 =>
        next2 I2 m2 y12 x65))
      (opN Tryz.prog (sCall (fn 16) [v2]) Kp fun x83 =>
       opN Tryz.prog (sUn .not x83) Kp fun x84 =>
       gdK x84 false (fun k => k y12) fun x86 =>
       gdK x84 false (opN Tryz.prog (sUn .not x86) Kp) fun x87 =>
       opN Tryz.prog (sPick x84 (.bool true) x87) Kp fun x88 =>
       condS x88
       (opN Tryz.prog (sCall (fn 13) []) Kp fun x89 =>
        K x89)
       (opN Tryz.prog (sBin .add 9 v2 (.string ⟨#[61]⟩)) Kp fun x92 =>
        opN Tryz.prog (sCall (fn 9) [v1]) Kp fun x94 =>
        opN Tryz.prog (sBin .add 9 x92 x94) Kp fun x95 =>
        opN Tryz.prog (sCall (fn 5) [x95]) Kp fun x96 =>
        opN Tryz.prog (sExt x96 0) Kp fun x97 =>
        opN Tryz.prog (sExt x96 1) Kp fun x98 =>
        drS (opN Tryz.prog (sCall (fn 8) [x98]) Kp fun x100 =>
         stS Tryz.prog (sEq .eql 3 (.tmp 100) (.const (.int .i64 0)) x100 (.int .i64 0)) fun x101 =>
         gdK x101 true (fun k => k x97) fun x103 =>
         gdK x101 true (stS Tryz.prog (sLen #[22] 3 [x103])) fun x104 =>
         gdK x101 true (stS Tryz.prog (sEq .eql 3 (.tmp 104) (.const (.int .i64 1)) x104 (.int .i64 1))) fun x105 =>
         stS Tryz.prog (sPick x101 x105 (.bool false)) fun x106 =>
         gdK x106 true (fun k => k x97) fun x108 =>
         gdD x106 true (stD Tryz.prog (sIA 22 x108 (.int .i64 0))) fun D10 x109 =>
         gdD x106 true (stD Tryz.prog (sFA 44 x109 0)) fun D11 x110 =>
         gdD x106 true (stD Tryz.prog (sLoad 9 x110)) fun D12 x111 =>
         gdK x106 true (fun k => k v2) fun x112 =>
         gdK x106 true (opN Tryz.prog (sCall (fn 17) [x112]) Kp) fun x113 =>
         (fun w => D12 w ∧ (fun w => D11 w ∧ (fun w => D10 w ∧ (gdK x106 true (stS Tryz.prog (sEq .eql 9 (.tmp 111) (.tmp 113) x111 x113)) fun x114 =>
             stS Tryz.prog (sPick x106 x114 (.bool false)) fun x115 =>
             gdK x115 true (fun k => k x97) fun x117 =>
             gdK x115 true (stS Tryz.prog (sIA 22 x117 (.int .i64 0))) fun x118 =>
             gdK x115 true (stS Tryz.prog (sFA 44 x118 2)) fun x119 =>
             gdK x115 true (stS Tryz.prog (sLoad 4 x119)) fun x120 =>
             stS Tryz.prog (sPick x115 x120 (.bool false)) fun x121 =>
             gdK x121 true (fun k => k x97) fun x123 =>
             gdK x121 true (stS Tryz.prog (sIA 22 x123 (.int .i64 0))) fun x124 =>
             gdK x121 true (stS Tryz.prog (sFA 44 x124 1)) fun x125 =>
             gdK x121 true (stS Tryz.prog (sLoad 9 x125)) fun x126 =>
             gdK x121 true (fun k => k v1) fun x127 =>
             gdK x121 true (stS Tryz.prog (sEq .eql 9 (.tmp 126) (.tmp 127) x126 x127)) fun x128 =>
             stS Tryz.prog (sPick x121 x128 (.bool false)) fun x129 =>
             gdK x129 true (opN Tryz.prog (sCall (fn 13) []) Kp) fun x131 =>
             stS Tryz.prog (sPick x129 x131 (.bool false)) fun x132 =>
             K x132) w) w) w))))) (.bool true) (.int .i64 0)))) (.bool true) (.int .i64 0)
def law10_FieldsBack_an : Ann := { cuts := [], blks := [], loops := [(3, [7, 8]), (13, [12, 13])], drs := [(20, [(0, 1), (1, 0), (2, 1), (3, 1), (4, 1), (5, 1), (6, 1), (7, 1), (8, 1), (9, 2), (10, 3), (11, 3), (12, 3), (13, 1), (14, 0), (15, 1), (16, 1), (17, 1), (18, 1), (19, 1), (20, 1), (21, 1), (22, 1), (23, 1), (24, 1), (25, 1), (26, 1), (27, 1), (28, 1), (29, 1), (30, 1), (31, 1), (32, 0), (33, 1), (34, 1)])] }
theorem law10_FieldsBack_eq (v0 v1 v2 : Value) (Kp : PK) (K : Value → WP) : cevF Tryz.prog law10_FieldsBack_an Tryz.f4 [v0, v1, v2] Kp K = law10_FieldsBack v0 v1 v2 Kp K := by kernel_rfl
theorem law10_FieldsBack_calls {v0 v1 v2 : Value} {Kp : PK} {K : Value → WP} {w : World} (h : law10_FieldsBack v0 v1 v2 Kp K w) : Calls Tryz.prog 4 #[v0, v1, v2] w (after Kp K) :=
  calls_of_shape (calls_of_cev wide Tryz.func4 (an := law10_FieldsBack_an) (args := [v0, v1, v2]) (cast (congrFun (law10_FieldsBack_eq v0 v1 v2 Kp K) w).symm h))
theorem law10_FieldsBack_cn {v0 v1 v2 : Value} {W : World} {α : Type} {A : List HP} {r : α → Value} {B : α → List HP} (h : ∀ F, Ent W (A ++ F) (law10_FieldsBack v0 v1 v2 noP fun v w => ∃ x, v = r x ∧ sat W (B x ++ F) w)) : Cn Tryz.prog 4 [v0, v1, v2] W A r B :=
  Cn.of (shape := law10_FieldsBack v0 v1 v2) Tryz.call4 (fun h => law10_FieldsBack_calls h) h
theorem law10_FieldsBack_cnP {v0 v1 v2 : Value} {W : World} {α β : Type} {A : List HP} {r : α → Value} {B : α → List HP} {pc : β → List PanicEntry} {Bp : β → List HP} (h : ∀ F, Ent W (A ++ F) (law10_FieldsBack v0 v1 v2 (fun ch w => ∃ y, ch = pc y ∧ sat W (Bp y ++ F) w) fun v w => ∃ x, v = r x ∧ sat W (B x ++ F) w)) : CnP Tryz.prog 4 [v0, v1, v2] W A r B pc Bp :=
  CnP.of (shape := law10_FieldsBack v0 v1 v2) Tryz.call4 (fun h => law10_FieldsBack_calls h) h

/-- fields_Directives -/
def fields_Directives (v0 : Value) (Kp : PK) (K : Value → WP) : WP :=
  opN Tryz.prog (sBuild 49 [(0, (.bool true)), (1, (.bool true)), (2, (fn 19))]) Kp fun x5 =>
  opN Tryz.prog (sCall (fn 18) [v0, x5]) Kp fun x6 =>
  opN Tryz.prog (sExt x6 0) Kp fun x7 =>
  opN Tryz.prog (sExt x6 1) Kp fun x8 =>
  K (.tuple #[x7, x8])
def fields_Directives_an : Ann := { cuts := [], blks := [], loops := [], drs := [] }
theorem fields_Directives_eq (v0 : Value) (Kp : PK) (K : Value → WP) : cevF Tryz.prog fields_Directives_an Tryz.f5 [v0] Kp K = fields_Directives v0 Kp K := by kernel_rfl
theorem fields_Directives_calls {v0 : Value} {Kp : PK} {K : Value → WP} {w : World} (h : fields_Directives v0 Kp K w) : Calls Tryz.prog 5 #[v0] w (after Kp K) :=
  calls_of_shape (calls_of_cev wide Tryz.func5 (an := fields_Directives_an) (args := [v0]) (cast (congrFun (fields_Directives_eq v0 Kp K) w).symm h))
theorem fields_Directives_cn {v0 : Value} {W : World} {α : Type} {A : List HP} {r : α → Value} {B : α → List HP} (h : ∀ F, Ent W (A ++ F) (fields_Directives v0 noP fun v w => ∃ x, v = r x ∧ sat W (B x ++ F) w)) : Cn Tryz.prog 5 [v0] W A r B :=
  Cn.of (shape := fields_Directives v0) Tryz.call5 (fun h => fields_Directives_calls h) h
theorem fields_Directives_cnP {v0 : Value} {W : World} {α β : Type} {A : List HP} {r : α → Value} {B : α → List HP} {pc : β → List PanicEntry} {Bp : β → List HP} (h : ∀ F, Ent W (A ++ F) (fields_Directives v0 (fun ch w => ∃ y, ch = pc y ∧ sat W (Bp y ++ F) w) fun v w => ∃ x, v = r x ∧ sat W (B x ++ F) w)) : CnP Tryz.prog 5 [v0] W A r B pc Bp :=
  CnP.of (shape := fields_Directives v0) Tryz.call5 (fun h => fields_Directives_calls h) h

/-- ref10_Directives -/
def ref10_Directives (v0 : Value) (Kp : PK) (K : Value → WP) : WP :=
  opN Tryz.prog (sCall (fn 20) [v0, (.bool true), (.bool true)]) Kp fun x10 =>
  loop2 (fun I1 m1 _ y5 y6 =>
   opN Tryz.prog (sLen #[50] 3 [x10]) Kp fun x13 =>
   opN Tryz.prog (sBin .lss 3 y6 x13) Kp fun x14 =>
   condS x14
   (opN Tryz.prog (sIA 50 x10 y6) Kp fun x20 =>
    opN Tryz.prog (sLoad 9 x20) Kp fun x21 =>
    opN Tryz.prog (sCall (fn 21) [x21]) Kp fun x22 =>
    opN Tryz.prog (sExt x22 0) Kp fun x23 =>
    opN Tryz.prog (sExt x22 1) Kp fun x24 =>
    opN Tryz.prog (sAlloc 52) Kp fun x7 =>
    opN Tryz.prog (sStore 52 x7 x23) Kp fun _ =>
    opN Tryz.prog (sUn .not x24) Kp fun x26 =>
    condS x26
    (K (.tuple #[(.slice none 0 0), (.int .i64 42)]))
    (opN Tryz.prog (sLoad 52 x7) Kp fun x28 =>
     opN Tryz.prog (sBuildSl 26 1 [(0, x28)]) Kp fun x29 =>
     opN Tryz.prog (sApp #[26, 26] 26 [y5, x29]) Kp fun x30 =>
     opN Tryz.prog (sBin .add 3 y6 (.int .i64 1)) Kp fun x16 =>
     next2 I1 m1 x30 x16))
   (K (.tuple #[y5, (.int .i64 0)]))) (.slice none 0 0) (.int .i64 0)
def ref10_Directives_an : Ann := { cuts := [], blks := [], loops := [(4, [5, 6])], drs := [] }
theorem ref10_Directives_eq (v0 : Value) (Kp : PK) (K : Value → WP) : cevF Tryz.prog ref10_Directives_an Tryz.f6 [v0] Kp K = ref10_Directives v0 Kp K := by kernel_rfl
theorem ref10_Directives_calls {v0 : Value} {Kp : PK} {K : Value → WP} {w : World} (h : ref10_Directives v0 Kp K w) : Calls Tryz.prog 6 #[v0] w (after Kp K) :=
  calls_of_shape (calls_of_cev wide Tryz.func6 (an := ref10_Directives_an) (args := [v0]) (cast (congrFun (ref10_Directives_eq v0 Kp K) w).symm h))
theorem ref10_Directives_cn {v0 : Value} {W : World} {α : Type} {A : List HP} {r : α → Value} {B : α → List HP} (h : ∀ F, Ent W (A ++ F) (ref10_Directives v0 noP fun v w => ∃ x, v = r x ∧ sat W (B x ++ F) w)) : Cn Tryz.prog 6 [v0] W A r B :=
  Cn.of (shape := ref10_Directives v0) Tryz.call6 (fun h => ref10_Directives_calls h) h
theorem ref10_Directives_cnP {v0 : Value} {W : World} {α β : Type} {A : List HP} {r : α → Value} {B : α → List HP} {pc : β → List PanicEntry} {Bp : β → List HP} (h : ∀ F, Ent W (A ++ F) (ref10_Directives v0 (fun ch w => ∃ y, ch = pc y ∧ sat W (Bp y ++ F) w) fun v w => ∃ x, v = r x ∧ sat W (B x ++ F) w)) : CnP Tryz.prog 6 [v0] W A r B pc Bp :=
  CnP.of (shape := ref10_Directives v0) Tryz.call6 (fun h => ref10_Directives_calls h) h

/-- law10_directives -/
def law10_directives (v0 v1 : Value) (Kp : PK) (K : Value → WP) : WP :=
  opN Tryz.prog (sLen #[22] 3 [v0]) Kp fun x7 =>
  opN Tryz.prog (sLen #[26] 3 [v1]) Kp fun x9 =>
  opN Tryz.prog (sEq .neq 3 (.tmp 7) (.tmp 9) x7 x9) Kp fun x10 =>
  condS x10
  (K (.bool false))
  (loop1 (fun I1 m1 _ y5 =>
    opN Tryz.prog (sLen #[22] 3 [v0]) Kp fun x13 =>
    opN Tryz.prog (sBin .lss 3 y5 x13) Kp fun x14 =>
    condS x14
    (drS (stS Tryz.prog (sIA 22 v0 y5) fun x19 =>
      stS Tryz.prog (sFA 44 x19 0) fun x20 =>
      stS Tryz.prog (sLoad 9 x20) fun x21 =>
      stS Tryz.prog (sIA 26 v1 y5) fun x24 =>
      stS Tryz.prog (sFA 52 x24 0) fun x25 =>
      stS Tryz.prog (sLoad 9 x25) fun x26 =>
      stS Tryz.prog (sEq .neq 9 (.tmp 21) (.tmp 26) x21 x26) fun x27 =>
      gdK x27 false (fun k => k v0) fun x29 =>
      gdK x27 false (fun k => k y5) fun x30 =>
      gdK x27 false (stS Tryz.prog (sIA 22 x29 x30)) fun x31 =>
      gdK x27 false (stS Tryz.prog (sFA 44 x31 1)) fun x32 =>
      gdK x27 false (stS Tryz.prog (sLoad 9 x32)) fun x33 =>
      gdK x27 false (fun k => k v1) fun x34 =>
      gdK x27 false (fun k => k y5) fun x35 =>
      gdK x27 false (stS Tryz.prog (sIA 26 x34 x35)) fun x36 =>
      gdK x27 false (stS Tryz.prog (sFA 52 x36 1)) fun x37 =>
      gdK x27 false (stS Tryz.prog (sLoad 9 x37)) fun x38 =>
      gdK x27 false (stS Tryz.prog (sEq .neq 9 (.tmp 33) (.tmp 38) x33 x38)) fun x39 =>
      stS Tryz.prog (sPick x27 (.bool true) x39) fun x40 =>
      gdK x40 false (fun k => k v0) fun x42 =>
      gdK x40 false (fun k => k y5) fun x43 =>
      gdK x40 false (stS Tryz.prog (sIA 22 x42 x43)) fun x44 =>
      gdK x40 false (stS Tryz.prog (sFA 44 x44 2)) fun x45 =>
      gdK x40 false (stS Tryz.prog (sLoad 4 x45)) fun x46 =>
      gdK x40 false (fun k => k v1) fun x47 =>
      gdK x40 false (fun k => k y5) fun x48 =>
      gdK x40 false (stS Tryz.prog (sIA 26 x47 x48)) fun x49 =>
      gdK x40 false (stS Tryz.prog (sFA 52 x49 2)) fun x50 =>
      gdK x40 false (stS Tryz.prog (sLoad 4 x50)) fun x51 =>
      gdK x40 false (stS Tryz.prog (sEq .neq 4 (.tmp 46) (.tmp 51) x46 x51)) fun x52 =>
      stS Tryz.prog (sPick x40 (.bool true) x52) fun x53 =>
      condS x53
      (K (.bool false))
      (opN Tryz.prog (sBin .add 3 y5 (.int .i64 1)) Kp fun x16 =>
       next1 I1 m1 x16)))
    (K (.bool true))) (.int .i64 0))
def law10_directives_an : Ann := { cuts := [], blks := [], loops := [(4, [5])], drs := [(6, [(0, 1), (1, 1), (2, 1), (3, 1), (4, 1), (5, 1), (6, 1), (7, 1), (8, 1), (9, 1), (10, 1), (11, 1), (12, 1), (13, 1), (14, 1), (15, 1), (16, 1), (17, 1), (18, 1), (19, 1), (20, 1), (21, 1), (22, 1), (23, 1), (24, 1), (25, 1), (26, 1), (27, 1), (28, 1), (29, 1), (30, 1), (31, 1), (32, 1), (33, 1), (34, 1), (35, 1), (36, 1)])] }
theorem law10_directives_eq (v0 v1 : Value) (Kp : PK) (K : Value → WP) : cevF Tryz.prog law10_directives_an Tryz.f7 [v0, v1] Kp K = law10_directives v0 v1 Kp K := by kernel_rfl
theorem law10_directives_calls {v0 v1 : Value} {Kp : PK} {K : Value → WP} {w : World} (h : law10_directives v0 v1 Kp K w) : Calls Tryz.prog 7 #[v0, v1] w (after Kp K) :=
  calls_of_shape (calls_of_cev wide Tryz.func7 (an := law10_directives_an) (args := [v0, v1]) (cast (congrFun (law10_directives_eq v0 v1 Kp K) w).symm h))
theorem law10_directives_cn {v0 v1 : Value} {W : World} {α : Type} {A : List HP} {r : α → Value} {B : α → List HP} (h : ∀ F, Ent W (A ++ F) (law10_directives v0 v1 noP fun v w => ∃ x, v = r x ∧ sat W (B x ++ F) w)) : Cn Tryz.prog 7 [v0, v1] W A r B :=
  Cn.of (shape := law10_directives v0 v1) Tryz.call7 (fun h => law10_directives_calls h) h
theorem law10_directives_cnP {v0 v1 : Value} {W : World} {α β : Type} {A : List HP} {r : α → Value} {B : α → List HP} {pc : β → List PanicEntry} {Bp : β → List HP} (h : ∀ F, Ent W (A ++ F) (law10_directives v0 v1 (fun ch w => ∃ y, ch = pc y ∧ sat W (Bp y ++ F) w) fun v w => ∃ x, v = r x ∧ sat W (B x ++ F) w)) : CnP Tryz.prog 7 [v0, v1] W A r B pc Bp :=
  CnP.of (shape := law10_directives v0 v1) Tryz.call7 (fun h => law10_directives_calls h) h

/-- law10_num -/
def law10_num (v0 : Value) (Kp : PK) (K : Value → WP) : WP :=
  K v0
def law10_num_an : Ann := { cuts := [], blks := [], loops := [], drs := [] }
theorem law10_num_eq (v0 : Value) (Kp : PK) (K : Value → WP) : cevF Tryz.prog law10_num_an Tryz.f8 [v0] Kp K = law10_num v0 Kp K := by kernel_rfl
theorem law10_num_calls {v0 : Value} {Kp : PK} {K : Value → WP} {w : World} (h : law10_num v0 Kp K w) : Calls Tryz.prog 8 #[v0] w (after Kp K) :=
  calls_of_shape (calls_of_cev wide Tryz.func8 (an := law10_num_an) (args := [v0]) (cast (congrFun (law10_num_eq v0 Kp K) w).symm h))
theorem law10_num_cn {v0 : Value} {W : World} {α : Type} {A : List HP} {r : α → Value} {B : α → List HP} (h : ∀ F, Ent W (A ++ F) (law10_num v0 noP fun v w => ∃ x, v = r x ∧ sat W (B x ++ F) w)) : Cn Tryz.prog 8 [v0] W A r B :=
  Cn.of (shape := law10_num v0) Tryz.call8 (fun h => law10_num_calls h) h
theorem law10_num_cnP {v0 : Value} {W : World} {α β : Type} {A : List HP} {r : α → Value} {B : α → List HP} {pc : β → List PanicEntry} {Bp : β → List HP} (h : ∀ F, Ent W (A ++ F) (law10_num v0 (fun ch w => ∃ y, ch = pc y ∧ sat W (Bp y ++ F) w) fun v w => ∃ x, v = r x ∧ sat W (B x ++ F) w)) : CnP Tryz.prog 8 [v0] W A r B pc Bp :=
  CnP.of (shape := law10_num v0) Tryz.call8 (fun h => law10_num_calls h) h

/-- fields_Quote -/
def fields_Quote (v0 : Value) (Kp : PK) (K : Value → WP) : WP :=
  opN Tryz.prog (sBuildSl 50 4 [(0, (.string ⟨#[34]⟩)), (1, (.string ⟨#[92, 34]⟩)), (2, (.string ⟨#[92]⟩)), (3, (.string ⟨#[92, 92]⟩))]) Kp fun x3 =>
  opN Tryz.prog (sCall (fn 22) [x3]) Kp fun x4 =>
  opN Tryz.prog (sCall (fn 23) [x4, v0]) Kp fun x6 =>
  opN Tryz.prog (sBin .add 9 (.string ⟨#[34]⟩) x6) Kp fun x7 =>
  opN Tryz.prog (sBin .add 9 x7 (.string ⟨#[34]⟩)) Kp fun x8 =>
  K x8
def fields_Quote_an : Ann := { cuts := [], blks := [], loops := [], drs := [] }
theorem fields_Quote_eq (v0 : Value) (Kp : PK) (K : Value → WP) : cevF Tryz.prog fields_Quote_an Tryz.f9 [v0] Kp K = fields_Quote v0 Kp K := by kernel_rfl
theorem fields_Quote_calls {v0 : Value} {Kp : PK} {K : Value → WP} {w : World} (h : fields_Quote v0 Kp K w) : Calls Tryz.prog 9 #[v0] w (after Kp K) :=
  calls_of_shape (calls_of_cev wide Tryz.func9 (an := fields_Quote_an) (args := [v0]) (cast (congrFun (fields_Quote_eq v0 Kp K) w).symm h))
theorem fields_Quote_cn {v0 : Value} {W : World} {α : Type} {A : List HP} {r : α → Value} {B : α → List HP} (h : ∀ F, Ent W (A ++ F) (fields_Quote v0 noP fun v w => ∃ x, v = r x ∧ sat W (B x ++ F) w)) : Cn Tryz.prog 9 [v0] W A r B :=
  Cn.of (shape := fields_Quote v0) Tryz.call9 (fun h => fields_Quote_calls h) h
theorem fields_Quote_cnP {v0 : Value} {W : World} {α β : Type} {A : List HP} {r : α → Value} {B : α → List HP} {pc : β → List PanicEntry} {Bp : β → List HP} (h : ∀ F, Ent W (A ++ F) (fields_Quote v0 (fun ch w => ∃ y, ch = pc y ∧ sat W (Bp y ++ F) w) fun v w => ∃ x, v = r x ∧ sat W (B x ++ F) w)) : CnP Tryz.prog 9 [v0] W A r B pc Bp :=
  CnP.of (shape := fields_Quote v0) Tryz.call9 (fun h => fields_Quote_calls h) h

/-- ref10_Quote -/
def ref10_Quote (v0 : Value) (Kp : PK) (K : Value → WP) : WP :=
  opN Tryz.prog (sBuildSl 57 1 [(0, (.int .u8 34))]) Kp fun x5 =>
  loop2 (fun I1 m1 _ y3 y4 =>
   opN Tryz.prog (sLen #[9] 3 [v0]) Kp fun x8 =>
   opN Tryz.prog (sBin .lss 3 y4 x8) Kp fun x9 =>
   condS x9
   (cut1 (fun J1 =>
     opN Tryz.prog (sIx 9 v0 y4) Kp fun x14 =>
     opN Tryz.prog (sEq .eql 5 (.tmp 14) (.const (.int .u8 34)) x14 (.int .u8 34)) Kp fun x15 =>
     gdK x15 false (fun k => k v0) fun x17 =>
     gdK x15 false (fun k => k y4) fun x18 =>
     gdK x15 false (opN Tryz.prog (sIx 9 x17 x18) Kp) fun x19 =>
     gdK x15 false (opN Tryz.prog (sEq .eql 5 (.tmp 19) (.const (.int .u8 92)) x19 (.int .u8 92)) Kp) fun x20 =>
     opN Tryz.prog (sPick x15 (.bool true) x20) Kp fun x21 =>
     condS x21
     (opN Tryz.prog (sBuildSl 57 1 [(0, (.int .u8 92))]) Kp fun x23 =>
      opN Tryz.prog (sApp #[57, 57] 57 [y3, x23]) Kp fun x24 =>
      J1 x24)
     (J1 y3)) fun _ z3 =>
    opN Tryz.prog (sIx 9 v0 y4) Kp fun x28 =>
    opN Tryz.prog (sBuildSl 57 1 [(0, x28)]) Kp fun x29 =>
    opN Tryz.prog (sApp #[57, 57] 57 [z3, x29]) Kp fun x30 =>
    opN Tryz.prog (sBin .add 3 y4 (.int .i64 1)) Kp fun x11 =>
    next2 I1 m1 x30 x11)
   (opN Tryz.prog (sBuildSl 57 1 [(0, (.int .u8 34))]) Kp fun x32 =>
    opN Tryz.prog (sApp #[57, 57] 57 [y3, x32]) Kp fun x33 =>
    opN Tryz.prog (sConv 57 9 x33) Kp fun x34 =>
    K x34)) x5 (.int .i64 0)
def ref10_Quote_an : Ann := { cuts := [(7, [3])], blks := [], loops := [(3, [3, 4])], drs := [] }
theorem ref10_Quote_eq (v0 : Value) (Kp : PK) (K : Value → WP) : cevF Tryz.prog ref10_Quote_an Tryz.f10 [v0] Kp K = ref10_Quote v0 Kp K := by kernel_rfl
theorem ref10_Quote_calls {v0 : Value} {Kp : PK} {K : Value → WP} {w : World} (h : ref10_Quote v0 Kp K w) : Calls Tryz.prog 10 #[v0] w (after Kp K) :=
  calls_of_shape (calls_of_cev wide Tryz.func10 (an := ref10_Quote_an) (args := [v0]) (cast (congrFun (ref10_Quote_eq v0 Kp K) w).symm h))
theorem ref10_Quote_cn {v0 : Value} {W : World} {α : Type} {A : List HP} {r : α → Value} {B : α → List HP} (h : ∀ F, Ent W (A ++ F) (ref10_Quote v0 noP fun v w => ∃ x, v = r x ∧ sat W (B x ++ F) w)) : Cn Tryz.prog 10 [v0] W A r B :=
  Cn.of (shape := ref10_Quote v0) Tryz.call10 (fun h => ref10_Quote_calls h) h
theorem ref10_Quote_cnP {v0 : Value} {W : World} {α β : Type} {A : List HP} {r : α → Value} {B : α → List HP} {pc : β → List PanicEntry} {Bp : β → List HP} (h : ∀ F, Ent W (A ++ F) (ref10_Quote v0 (fun ch w => ∃ y, ch = pc y ∧ sat W (Bp y ++ F) w) fun v w => ∃ x, v = r x ∧ sat W (B x ++ F) w)) : CnP Tryz.prog 10 [v0] W A r B pc Bp :=
  CnP.of (shape := ref10_Quote v0) Tryz.call10 (fun h => ref10_Quote_calls h) h

/-- fields_Seconds -/
def fields_Seconds (v0 v1 : Value) (Kp : PK) (K : Value → WP) : WP :=
  opN Tryz.prog (sLen #[22] 3 [v0]) Kp fun x11 =>
  loop1 (fun I1 m1 _ y12 =>
   opN Tryz.prog (sBin .lss 3 y12 x11) Kp fun x13 =>
   condS x13
   (opN Tryz.prog (sIA 22 v0 y12) Kp fun x14 =>
    opN Tryz.prog (sLoad 44 x14) Kp fun x15 =>
    opN Tryz.prog (sAlloc 44) Kp fun x7 =>
    opN Tryz.prog (sStore 44 x7 x15) Kp fun _ =>
    opN Tryz.prog (sFA 44 x7 0) Kp fun x16 =>
    opN Tryz.prog (sLoad 9 x16) Kp fun x17 =>
    opN Tryz.prog (sEq .neq 9 (.tmp 17) (.tmp 18) x17 v1) Kp fun x19 =>
    condS x19
    (opN Tryz.prog (sBin .add 3 y12 (.int .i64 1)) Kp fun x37 =>
     next1 I1 m1 x37)
    (opN Tryz.prog (sFA 44 x7 1) Kp fun x21 =>
     opN Tryz.prog (sLoad 9 x21) Kp fun x22 =>
     opN Tryz.prog (sCall (fn 24) [x22]) Kp fun x23 =>
     opN Tryz.prog (sExt x23 0) Kp fun x24 =>
     opN Tryz.prog (sExt x23 1) Kp fun x25 =>
     cut1 (fun J1 =>
      opN Tryz.prog (sEq .eql 23 (.tmp 27) (.const (.int .i64 11)) x25 (.int .i64 11)) Kp fun x28 =>
      condS x28
      (J1 (.int .i64 2147483648))
      (opN Tryz.prog (sEq .neq 23 (.tmp 30) (.const (.int .i64 0)) x25 (.int .i64 0)) Kp fun x31 =>
       condS x31
       (condS x31
        (J1 (.int .i64 0))
        (J1 x24))
       (opN Tryz.prog (sFA 44 x7 2) Kp fun x32 =>
        opN Tryz.prog (sLoad 4 x32) Kp fun x33 =>
        opN Tryz.prog (sUn .not x33) Kp fun x34 =>
        condS x34
        (J1 (.int .i64 0))
        (J1 x24)))) fun _ z8 =>
     opN Tryz.prog (sMin #[3, 3] 3 [z8, (.int .i64 2147483648)]) Kp fun x36 =>
     K (.tuple #[x36, (.bool true)])))
   (K (.tuple #[(.int .i64 0), (.bool false)]))) (.int .i64 0)
def fields_Seconds_an : Ann := { cuts := [(11, [8])], blks := [], loops := [(2, [12])], drs := [] }
theorem fields_Seconds_eq (v0 v1 : Value) (Kp : PK) (K : Value → WP) : cevF Tryz.prog fields_Seconds_an Tryz.f11 [v0, v1] Kp K = fields_Seconds v0 v1 Kp K := by kernel_rfl
theorem fields_Seconds_calls {v0 v1 : Value} {Kp : PK} {K : Value → WP} {w : World} (h : fields_Seconds v0 v1 Kp K w) : Calls Tryz.prog 11 #[v0, v1] w (after Kp K) :=
  calls_of_shape (calls_of_cev wide Tryz.func11 (an := fields_Seconds_an) (args := [v0, v1]) (cast (congrFun (fields_Seconds_eq v0 v1 Kp K) w).symm h))
theorem fields_Seconds_cn {v0 v1 : Value} {W : World} {α : Type} {A : List HP} {r : α → Value} {B : α → List HP} (h : ∀ F, Ent W (A ++ F) (fields_Seconds v0 v1 noP fun v w => ∃ x, v = r x ∧ sat W (B x ++ F) w)) : Cn Tryz.prog 11 [v0, v1] W A r B :=
  Cn.of (shape := fields_Seconds v0 v1) Tryz.call11 (fun h => fields_Seconds_calls h) h
theorem fields_Seconds_cnP {v0 v1 : Value} {W : World} {α β : Type} {A : List HP} {r : α → Value} {B : α → List HP} {pc : β → List PanicEntry} {Bp : β → List HP} (h : ∀ F, Ent W (A ++ F) (fields_Seconds v0 v1 (fun ch w => ∃ y, ch = pc y ∧ sat W (Bp y ++ F) w) fun v w => ∃ x, v = r x ∧ sat W (B x ++ F) w)) : CnP Tryz.prog 11 [v0, v1] W A r B pc Bp :=
  CnP.of (shape := fields_Seconds v0 v1) Tryz.call11 (fun h => fields_Seconds_calls h) h

/-- ref10_Seconds -/
def ref10_Seconds (v0 v1 : Value) (Kp : PK) (K : Value → WP) : WP :=
  loop1 (fun I1 m1 _ y6 =>
   opN Tryz.prog (sLen #[26] 3 [v0]) Kp fun x11 =>
   opN Tryz.prog (sBin .lss 3 y6 x11) Kp fun x12 =>
   condS x12
   (opN Tryz.prog (sIA 26 v0 y6) Kp fun x17 =>
    opN Tryz.prog (sFA 52 x17 0) Kp fun x18 =>
    opN Tryz.prog (sLoad 9 x18) Kp fun x19 =>
    opN Tryz.prog (sEq .neq 9 (.tmp 19) (.tmp 20) x19 v1) Kp fun x21 =>
    condS x21
    (opN Tryz.prog (sBin .add 3 y6 (.int .i64 1)) Kp fun x14 =>
     next1 I1 m1 x14)
    (opN Tryz.prog (sIA 26 v0 y6) Kp fun x25 =>
     opN Tryz.prog (sFA 52 x25 1) Kp fun x26 =>
     opN Tryz.prog (sLoad 9 x26) Kp fun x27 =>
     opN Tryz.prog (sCall (fn 25) [x27]) Kp fun x28 =>
     opN Tryz.prog (sExt x28 0) Kp fun x29 =>
     opN Tryz.prog (sExt x28 1) Kp fun x30 =>
     opN Tryz.prog (sEq .eql 3 (.tmp 32) (.const (.int .i64 11)) x30 (.int .i64 11)) Kp fun x33 =>
     gdK x33 false (fun k => k x29) fun x35 =>
     gdK x33 false (opN Tryz.prog (sBin .gtr 3 x35 (.int .i64 2147483648)) Kp) fun x36 =>
     opN Tryz.prog (sPick x33 (.bool true) x36) Kp fun x37 =>
     condS x37
     (K (.tuple #[(.int .i64 2147483648), (.bool true)]))
     (opN Tryz.prog (sEq .neq 3 (.tmp 39) (.const (.int .i64 0)) x30 (.int .i64 0)) Kp fun x40 =>
      gdK x40 false (fun k => k v0) fun x42 =>
      gdK x40 false (fun k => k y6) fun x43 =>
      gdK x40 false (opN Tryz.prog (sIA 26 x42 x43) Kp) fun x44 =>
      gdK x40 false (opN Tryz.prog (sFA 52 x44 2) Kp) fun x45 =>
      gdK x40 false (opN Tryz.prog (sLoad 4 x45) Kp) fun x46 =>
      gdK x40 false (opN Tryz.prog (sUn .not x46) Kp) fun x47 =>
      opN Tryz.prog (sPick x40 (.bool true) x47) Kp fun x48 =>
      condS x48
      (K (.tuple #[(.int .i64 0), (.bool true)]))
      (K (.tuple #[x29, (.bool true)])))))
   (K (.tuple #[(.int .i64 0), (.bool false)]))) (.int .i64 0)
def ref10_Seconds_an : Ann := { cuts := [], blks := [], loops := [(2, [6])], drs := [] }
theorem ref10_Seconds_eq (v0 v1 : Value) (Kp : PK) (K : Value → WP) : cevF Tryz.prog ref10_Seconds_an Tryz.f12 [v0, v1] Kp K = ref10_Seconds v0 v1 Kp K := by kernel_rfl
theorem ref10_Seconds_calls {v0 v1 : Value} {Kp : PK} {K : Value → WP} {w : World} (h : ref10_Seconds v0 v1 Kp K w) : Calls Tryz.prog 12 #[v0, v1] w (after Kp K) :=
  calls_of_shape (calls_of_cev wide Tryz.func12 (an := ref10_Seconds_an) (args := [v0, v1]) (cast (congrFun (ref10_Seconds_eq v0 v1 Kp K) w).symm h))
theorem ref10_Seconds_cn {v0 v1 : Value} {W : World} {α : Type} {A : List HP} {r : α → Value} {B : α → List HP} (h : ∀ F, Ent W (A ++ F) (ref10_Seconds v0 v1 noP fun v w => ∃ x, v = r x ∧ sat W (B x ++ F) w)) : Cn Tryz.prog 12 [v0, v1] W A r B :=
  Cn.of (shape := ref10_Seconds v0 v1) Tryz.call12 (fun h => ref10_Seconds_calls h) h
theorem ref10_Seconds_cnP {v0 v1 : Value} {W : World} {α β : Type} {A : List HP} {r : α → Value} {B : α → List HP} {pc : β → List PanicEntry} {Bp : β → List HP} (h : ∀ F, Ent W (A ++ F) (ref10_Seconds v0 v1 (fun ch w => ∃ y, ch = pc y ∧ sat W (Bp y ++ F) w) fun v w => ∃ x, v = r x ∧ sat W (B x ++ F) w)) : CnP Tryz.prog 12 [v0, v1] W A r B pc Bp :=
  CnP.of (shape := ref10_Seconds v0 v1) Tryz.call12 (fun h => ref10_Seconds_calls h) h

/-- law10_knows -/
def law10_knows (Kp : PK) (K : Value → WP) : WP :=
  opN Tryz.prog (sCall (fn 26) [(.string ⟨#[103, 122, 105, 112, 59, 113, 61, 48, 46, 53, 44, 32, 98, 114]⟩)]) Kp fun x6 =>
  opN Tryz.prog (sExt x6 0) Kp fun x7 =>
  opN Tryz.prog (sExt x6 1) Kp fun x8 =>
  opN Tryz.prog (sCall (fn 27) [(.string ⟨#[98, 121, 116, 101, 115, 61, 48, 45, 52, 44, 32, 45, 51]⟩)]) Kp fun x10 =>
  opN Tryz.prog (sExt x10 0) Kp fun x11 =>
  opN Tryz.prog (sExt x10 1) Kp fun x12 =>
  opN Tryz.prog (sCall (fn 8) [x8]) Kp fun x14 =>
  opN Tryz.prog (sCall (fn 8) [x12]) Kp fun x16 =>
  opN Tryz.prog (sBin .add 3 x14 x16) Kp fun x17 =>
  opN Tryz.prog (sEq .eql 3 (.tmp 17) (.const (.int .i64 0)) x17 (.int .i64 0)) Kp fun x18 =>
  gdK x18 true (fun k => k x7) fun x20 =>
  gdK x18 true (opN Tryz.prog (sLen #[62] 3 [x20]) Kp) fun x21 =>
  gdK x18 true (opN Tryz.prog (sEq .eql 3 (.tmp 21) (.const (.int .i64 2)) x21 (.int .i64 2)) Kp) fun x22 =>
  opN Tryz.prog (sPick x18 x22 (.bool false)) Kp fun x23 =>
  gdK x23 true (fun k => k x7) fun x25 =>
  gdK x23 true (opN Tryz.prog (sIA 62 x25 (.int .i64 0)) Kp) fun x26 =>
  gdK x23 true (opN Tryz.prog (sFA 69 x26 1) Kp) fun x27 =>
  gdK x23 true (opN Tryz.prog (sLoad 3 x27) Kp) fun x28 =>
  gdK x23 true (opN Tryz.prog (sEq .eql 3 (.tmp 28) (.const (.int .i64 500)) x28 (.int .i64 500)) Kp) fun x29 =>
  opN Tryz.prog (sPick x23 x29 (.bool false)) Kp fun x30 =>
  gdK x30 true (fun k => k x7) fun x32 =>
  gdK x30 true (opN Tryz.prog (sIA 62 x32 (.int .i64 1)) Kp) fun x33 =>
  gdK x30 true (opN Tryz.prog (sFA 69 x33 0) Kp) fun x34 =>
  gdK x30 true (opN Tryz.prog (sLoad 9 x34) Kp) fun x35 =>
  gdK x30 true (opN Tryz.prog (sEq .eql 9 (.tmp 35) (.const (.string ⟨#[98, 114]⟩)) x35 (.string ⟨#[98, 114]⟩)) Kp) fun x36 =>
  opN Tryz.prog (sPick x30 x36 (.bool false)) Kp fun x37 =>
  gdK x37 true (fun k => k x11) fun x39 =>
  gdK x37 true (opN Tryz.prog (sLen #[65] 3 [x39]) Kp) fun x40 =>
  gdK x37 true (opN Tryz.prog (sEq .eql 3 (.tmp 40) (.const (.int .i64 2)) x40 (.int .i64 2)) Kp) fun x41 =>
  opN Tryz.prog (sPick x37 x41 (.bool false)) Kp fun x42 =>
  gdK x42 true (fun k => k x11) fun x44 =>
  gdK x42 true (opN Tryz.prog (sIA 65 x44 (.int .i64 1)) Kp) fun x45 =>
  gdK x42 true (opN Tryz.prog (sFA 71 x45 0) Kp) fun x46 =>
  gdK x42 true (opN Tryz.prog (sLoad 3 x46) Kp) fun x47 =>
  gdK x42 true (opN Tryz.prog (sEq .eql 3 (.tmp 47) (.const (.int .i64 (-1))) x47 (.int .i64 (-1))) Kp) fun x48 =>
  opN Tryz.prog (sPick x42 x48 (.bool false)) Kp fun x49 =>
  gdK x49 true (fun k => k x11) fun x51 =>
  gdK x49 true (opN Tryz.prog (sIA 65 x51 (.int .i64 1)) Kp) fun x52 =>
  gdK x49 true (opN Tryz.prog (sFA 71 x52 1) Kp) fun x53 =>
  gdK x49 true (opN Tryz.prog (sLoad 3 x53) Kp) fun x54 =>
  gdK x49 true (opN Tryz.prog (sEq .eql 3 (.tmp 54) (.const (.int .i64 3)) x54 (.int .i64 3)) Kp) fun x55 =>
  opN Tryz.prog (sPick x49 x55 (.bool false)) Kp fun x56 =>
  K x56
def law10_knows_an : Ann := { cuts := [], blks := [], loops := [], drs := [] }
theorem law10_knows_eq (Kp : PK) (K : Value → WP) : cevF Tryz.prog law10_knows_an Tryz.f13 [] Kp K = law10_knows Kp K := by kernel_rfl
theorem law10_knows_calls  {Kp : PK} {K : Value → WP} {w : World} (h : law10_knows Kp K w) : Calls Tryz.prog 13 #[] w (after Kp K) :=
  calls_of_shape (calls_of_cev wide Tryz.func13 (an := law10_knows_an) (args := []) (cast (congrFun (law10_knows_eq Kp K) w).symm h))
theorem law10_knows_cn  {W : World} {α : Type} {A : List HP} {r : α → Value} {B : α → List HP} (h : ∀ F, Ent W (A ++ F) (law10_knows noP fun v w => ∃ x, v = r x ∧ sat W (B x ++ F) w)) : Cn Tryz.prog 13 [] W A r B :=
  Cn.of (shape := law10_knows) Tryz.call13 (fun h => law10_knows_calls h) h
theorem law10_knows_cnP  {W : World} {α β : Type} {A : List HP} {r : α → Value} {B : α → List HP} {pc : β → List PanicEntry} {Bp : β → List HP} (h : ∀ F, Ent W (A ++ F) (law10_knows (fun ch w => ∃ y, ch = pc y ∧ sat W (Bp y ++ F) w) fun v w => ∃ x, v = r x ∧ sat W (B x ++ F) w)) : CnP Tryz.prog 13 [] W A r B pc Bp :=
  CnP.of (shape := law10_knows) Tryz.call13 (fun h => law10_knows_calls h) h

/-- fields_ParseTag -/
def fields_ParseTag (v0 : Value) (Kp : PK) (K : Value → WP) : WP :=
  opN Tryz.prog (sAlloc 38) Kp fun x2 =>
  opN Tryz.prog (sCall (fn 28) [v0]) Kp fun x8 =>
  opN Tryz.prog (sExt x8 0) Kp fun x9 =>
  opN Tryz.prog (sExt x8 1) Kp fun x10 =>
  opN Tryz.prog (sAlloc 38) Kp fun x4 =>
  opN Tryz.prog (sStore 38 x4 x9) Kp fun _ =>
  opN Tryz.prog (sUn .not x10) Kp fun x12 =>
  condS x12
  (opN Tryz.prog (sBuild 38 []) Kp fun x13 =>
   opN Tryz.prog (sStore 38 x2 x13) Kp fun _ =>
   (stS Tryz.prog (sRes 38 x2) fun r0 => K (.tuple #[r0, (.int .i64 42)])))
  (opN Tryz.prog (sLoad 38 x4) Kp fun x14 =>
   opN Tryz.prog (sStore 38 x2 x14) Kp fun _ =>
   (stS Tryz.prog (sRes 38 x2) fun r0 => K (.tuple #[r0, (.int .i64 0)])))
def fields_ParseTag_an : Ann := { cuts := [], blks := [], loops := [], drs := [] }
theorem fields_ParseTag_eq (v0 : Value) (Kp : PK) (K : Value → WP) : cevF Tryz.prog fields_ParseTag_an Tryz.f14 [v0] Kp K = fields_ParseTag v0 Kp K := by kernel_rfl
theorem fields_ParseTag_calls {v0 : Value} {Kp : PK} {K : Value → WP} {w : World} (h : fields_ParseTag v0 Kp K w) : Calls Tryz.prog 14 #[v0] w (after Kp K) :=
  calls_of_shape (calls_of_cev wide Tryz.func14 (an := fields_ParseTag_an) (args := [v0]) (cast (congrFun (fields_ParseTag_eq v0 Kp K) w).symm h))
theorem fields_ParseTag_cn {v0 : Value} {W : World} {α : Type} {A : List HP} {r : α → Value} {B : α → List HP} (h : ∀ F, Ent W (A ++ F) (fields_ParseTag v0 noP fun v w => ∃ x, v = r x ∧ sat W (B x ++ F) w)) : Cn Tryz.prog 14 [v0] W A r B :=
  Cn.of (shape := fields_ParseTag v0) Tryz.call14 (fun h => fields_ParseTag_calls h) h
theorem fields_ParseTag_cnP {v0 : Value} {W : World} {α β : Type} {A : List HP} {r : α → Value} {B : α → List HP} {pc : β → List PanicEntry} {Bp : β → List HP} (h : ∀ F, Ent W (A ++ F) (fields_ParseTag v0 (fun ch w => ∃ y, ch = pc y ∧ sat W (Bp y ++ F) w) fun v w => ∃ x, v = r x ∧ sat W (B x ++ F) w)) : CnP Tryz.prog 14 [v0] W A r B pc Bp :=
  CnP.of (shape := fields_ParseTag v0) Tryz.call14 (fun h => fields_ParseTag_calls h) h

/-- fields_TagText -/
def fields_TagText (v0 : Value) (Kp : PK) (K : Value → WP) : WP :=
  opN Tryz.prog (sBox 38 v0) Kp fun x1 =>
  cut1 (fun J1 =>
   opN Tryz.prog (sFA 38 x1 0) Kp fun x4 =>
   opN Tryz.prog (sLoad 4 x4) Kp fun x5 =>
   condS x5
   (J1 (.string ⟨#[87, 47]⟩))
   (J1 (.string ⟨#[]⟩))) fun _ z3 =>
  opN Tryz.prog (sBin .add 9 z3 (.string ⟨#[34]⟩)) Kp fun x7 =>
  opN Tryz.prog (sFA 38 x1 1) Kp fun x8 =>
  opN Tryz.prog (sLoad 9 x8) Kp fun x9 =>
  opN Tryz.prog (sBin .add 9 x7 x9) Kp fun x10 =>
  opN Tryz.prog (sBin .add 9 x10 (.string ⟨#[34]⟩)) Kp fun x11 =>
  K x11
def fields_TagText_an : Ann := { cuts := [(4, [3])], blks := [], loops := [], drs := [] }
theorem fields_TagText_eq (v0 : Value) (Kp : PK) (K : Value → WP) : cevF Tryz.prog fields_TagText_an Tryz.f15 [v0] Kp K = fields_TagText v0 Kp K := by kernel_rfl
theorem fields_TagText_calls {v0 : Value} {Kp : PK} {K : Value → WP} {w : World} (h : fields_TagText v0 Kp K w) : Calls Tryz.prog 15 #[v0] w (after Kp K) :=
  calls_of_shape (calls_of_cev wide Tryz.func15 (an := fields_TagText_an) (args := [v0]) (cast (congrFun (fields_TagText_eq v0 Kp K) w).symm h))
theorem fields_TagText_cn {v0 : Value} {W : World} {α : Type} {A : List HP} {r : α → Value} {B : α → List HP} (h : ∀ F, Ent W (A ++ F) (fields_TagText v0 noP fun v w => ∃ x, v = r x ∧ sat W (B x ++ F) w)) : Cn Tryz.prog 15 [v0] W A r B :=
  Cn.of (shape := fields_TagText v0) Tryz.call15 (fun h => fields_TagText_calls h) h
theorem fields_TagText_cnP {v0 : Value} {W : World} {α β : Type} {A : List HP} {r : α → Value} {B : α → List HP} {pc : β → List PanicEntry} {Bp : β → List HP} (h : ∀ F, Ent W (A ++ F) (fields_TagText v0 (fun ch w => ∃ y, ch = pc y ∧ sat W (Bp y ++ F) w) fun v w => ∃ x, v = r x ∧ sat W (B x ++ F) w)) : CnP Tryz.prog 15 [v0] W A r B pc Bp :=
  CnP.of (shape := fields_TagText v0) Tryz.call15 (fun h => fields_TagText_calls h) h

/-- ascii_Token -/
def ascii_Token (v0 : Value) (Kp : PK) (K : Value → WP) : WP :=
  opN Tryz.prog (sEq .neq 9 (.tmp 3) (.const (.string ⟨#[]⟩)) v0 (.string ⟨#[]⟩)) Kp fun x4 =>
  gdK x4 true (fun k => k v0) fun x6 =>
  gdK x4 true (opN Tryz.prog (sCall (fn 29) [x6, (.int .i64 1)]) Kp) fun x7 =>
  opN Tryz.prog (sPick x4 x7 (.bool false)) Kp fun x8 =>
  K x8
def ascii_Token_an : Ann := { cuts := [], blks := [], loops := [], drs := [] }
theorem ascii_Token_eq (v0 : Value) (Kp : PK) (K : Value → WP) : cevF Tryz.prog ascii_Token_an Tryz.f16 [v0] Kp K = ascii_Token v0 Kp K := by kernel_rfl
theorem ascii_Token_calls {v0 : Value} {Kp : PK} {K : Value → WP} {w : World} (h : ascii_Token v0 Kp K w) : Calls Tryz.prog 16 #[v0] w (after Kp K) :=
  calls_of_shape (calls_of_cev wide Tryz.func16 (an := ascii_Token_an) (args := [v0]) (cast (congrFun (ascii_Token_eq v0 Kp K) w).symm h))
theorem ascii_Token_cn {v0 : Value} {W : World} {α : Type} {A : List HP} {r : α → Value} {B : α → List HP} (h : ∀ F, Ent W (A ++ F) (ascii_Token v0 noP fun v w => ∃ x, v = r x ∧ sat W (B x ++ F) w)) : Cn Tryz.prog 16 [v0] W A r B :=
  Cn.of (shape := ascii_Token v0) Tryz.call16 (fun h => ascii_Token_calls h) h
theorem ascii_Token_cnP {v0 : Value} {W : World} {α β : Type} {A : List HP} {r : α → Value} {B : α → List HP} {pc : β → List PanicEntry} {Bp : β → List HP} (h : ∀ F, Ent W (A ++ F) (ascii_Token v0 (fun ch w => ∃ y, ch = pc y ∧ sat W (Bp y ++ F) w) fun v w => ∃ x, v = r x ∧ sat W (B x ++ F) w)) : CnP Tryz.prog 16 [v0] W A r B pc Bp :=
  CnP.of (shape := ascii_Token v0) Tryz.call16 (fun h => ascii_Token_calls h) h

/-- ascii_Lower -/
def ascii_Lower (v0 : Value) (Kp : PK) (K : Value → WP) : WP :=
  opN Tryz.prog (sCall (fn 30) []) Kp fun x7 =>
  opN Tryz.prog (sAlloc 75) Kp fun x3 =>
  opN Tryz.prog (sStore 75 x3 x7) Kp fun _ =>
  opN Tryz.prog (sConv 9 57 v0) Kp fun x9 =>
  opN Tryz.prog (sLen #[57] 3 [x9]) Kp fun x11 =>
  loop1 (fun I1 m1 _ y12 =>
   opN Tryz.prog (sBin .lss 3 y12 x11) Kp fun x13 =>
   condS x13
   (opN Tryz.prog (sIA 57 x9 y12) Kp fun x15 =>
    opN Tryz.prog (sLoad 5 x15) Kp fun x16 =>
    opN Tryz.prog (sIA 75 x3 x16) Kp fun x18 =>
    opN Tryz.prog (sLoad 3 x18) Kp fun x19 =>
    opN Tryz.prog (sBin .and 3 x19 (.int .i64 4)) Kp fun x20 =>
    opN Tryz.prog (sEq .neq 3 (.tmp 20) (.const (.int .i64 0)) x20 (.int .i64 0)) Kp fun x21 =>
    condS x21
    (opN Tryz.prog (sBin .add 5 x16 (.int .u8 32)) Kp fun x25 =>
     opN Tryz.prog (sIA 57 x9 y12) Kp fun x26 =>
     opN Tryz.prog (sStore 5 x26 x25) Kp fun _ =>
     opN Tryz.prog (sBin .add 3 y12 (.int .i64 1)) Kp fun x27 =>
     next1 I1 m1 x27)
    (opN Tryz.prog (sBin .add 3 y12 (.int .i64 1)) Kp fun x27 =>
     next1 I1 m1 x27))
   (opN Tryz.prog (sConv 57 9 x9) Kp fun x29 =>
    K x29)) (.int .i64 0)
def ascii_Lower_an : Ann := { cuts := [], blks := [], loops := [(4, [12])], drs := [] }
theorem ascii_Lower_eq (v0 : Value) (Kp : PK) (K : Value → WP) : cevF Tryz.prog ascii_Lower_an Tryz.f17 [v0] Kp K = ascii_Lower v0 Kp K := by kernel_rfl
theorem ascii_Lower_calls {v0 : Value} {Kp : PK} {K : Value → WP} {w : World} (h : ascii_Lower v0 Kp K w) : Calls Tryz.prog 17 #[v0] w (after Kp K) :=
  calls_of_shape (calls_of_cev wide Tryz.func17 (an := ascii_Lower_an) (args := [v0]) (cast (congrFun (ascii_Lower_eq v0 Kp K) w).symm h))
theorem ascii_Lower_cn {v0 : Value} {W : World} {α : Type} {A : List HP} {r : α → Value} {B : α → List HP} (h : ∀ F, Ent W (A ++ F) (ascii_Lower v0 noP fun v w => ∃ x, v = r x ∧ sat W (B x ++ F) w)) : Cn Tryz.prog 17 [v0] W A r B :=
  Cn.of (shape := ascii_Lower v0) Tryz.call17 (fun h => ascii_Lower_calls h) h
theorem ascii_Lower_cnP {v0 : Value} {W : World} {α β : Type} {A : List HP} {r : α → Value} {B : α → List HP} {pc : β → List PanicEntry} {Bp : β → List HP} (h : ∀ F, Ent W (A ++ F) (ascii_Lower v0 (fun ch w => ∃ y, ch = pc y ∧ sat W (Bp y ++ F) w) fun v w => ∃ x, v = r x ∧ sat W (B x ++ F) w)) : CnP Tryz.prog 17 [v0] W A r B pc Bp :=
  CnP.of (shape := ascii_Lower v0) Tryz.call17 (fun h => ascii_Lower_calls h) h

/-- fields_list_fields_Directive -/
def fields_list_fields_Directive (v0 v1 : Value) (Kp : PK) (K : Value → WP) : WP :=
  opN Tryz.prog (sBox 49 v1) Kp fun x3 =>
  opN Tryz.prog (sAlloc 22) Kp fun x4 =>
  opN Tryz.prog (sAlloc 23) Kp fun x5 =>
  opN Tryz.prog (sAlloc 22) Kp fun x6 =>
  opN Tryz.prog (sLoad 49 x3) Kp fun x10 =>
  opN Tryz.prog (sCall (fn 31) [x10, v0]) Kp fun x12 =>
  rfS Tryz.prog x12 1 (fun u13 B1 N1 J1r =>
   B1 (opN Tryz.prog (sFA 49 x3 2) noK fun x15 =>
    opN Tryz.prog (sLoad 47 x15) noK fun x16 =>
    opN Tryz.prog (sCall x16 [u13]) noK fun x18 =>
    opN Tryz.prog (sExt x18 0) noK fun x19 =>
    opN Tryz.prog (sExt x18 1) noK fun x20 =>
    opN Tryz.prog (sAlloc 44) noK fun x8 =>
    opN Tryz.prog (sStore 44 x8 x19) noK fun _ =>
    opN Tryz.prog (sUn .not x20) noK fun x22 =>
    condS x22
    (opN Tryz.prog (sStore 22 x4 (.slice none 0 0)) noK fun _ =>
     opN Tryz.prog (sStore 23 x5 (.int .i64 42)) noK fun _ =>
     J1r)
    (opN Tryz.prog (sLoad 22 x6) noK fun x23 =>
     opN Tryz.prog (sLoad 44 x8) noK fun x24 =>
     opN Tryz.prog (sBuildSl 22 1 [(0, x24)]) noK fun x25 =>
     opN Tryz.prog (sApp #[22, 22] 22 [x23, x25]) noK fun x26 =>
     opN Tryz.prog (sStore 22 x6 x26) noK fun _ =>
     N1))) (fun d1 =>
   opN Tryz.prog (sLoad 22 x6) (KpM [d1] Kp) fun x27 =>
   opN Tryz.prog (sStore 22 x4 x27) (KpM [d1] Kp) fun _ =>
   opN Tryz.prog (sStore 23 x5 (.int .i64 0)) (KpM [d1] Kp) fun _ =>
   (tkS d1 ((stS Tryz.prog (sRes 22 x4) fun r0 => (stS Tryz.prog (sRes 23 x5) fun r1 => K (.tuple #[r0, r1])))))) (fun d1 => (tkS d1 ((stS Tryz.prog (sRes 22 x4) fun r0 => (stS Tryz.prog (sRes 23 x5) fun r1 => K (.tuple #[r0, r1])))))) (fun d1 ch => (tkS d1 (Kp ch)))
def fields_list_fields_Directive_an : Ann := { cuts := [], blks := [], loops := [], drs := [] }
theorem fields_list_fields_Directive_eq (v0 v1 : Value) (Kp : PK) (K : Value → WP) : cevFT Tryz.prog fields_list_fields_Directive_an Tryz.f18 [v0, v1] Kp K = fields_list_fields_Directive v0 v1 Kp K := by kernel_rfl
theorem fields_list_fields_Directive_calls {v0 v1 : Value} {Kp : PK} {K : Value → WP} {w : World} (h : fields_list_fields_Directive v0 v1 Kp K w) : Calls Tryz.prog 18 #[v0, v1] w (after Kp K) :=
  calls_of_shape (calls_of_cevT wide Tryz.func18 (an := fields_list_fields_Directive_an) (args := [v0, v1]) (cast (congrFun (fields_list_fields_Directive_eq v0 v1 Kp K) w).symm h))
theorem fields_list_fields_Directive_cn {v0 v1 : Value} {W : World} {α : Type} {A : List HP} {r : α → Value} {B : α → List HP} (h : ∀ F, Ent W (A ++ F) (fields_list_fields_Directive v0 v1 noP fun v w => ∃ x, v = r x ∧ sat W (B x ++ F) w)) : Cn Tryz.prog 18 [v0, v1] W A r B :=
  Cn.of (shape := fields_list_fields_Directive v0 v1) Tryz.call18 (fun h => fields_list_fields_Directive_calls h) h
theorem fields_list_fields_Directive_cnP {v0 v1 : Value} {W : World} {α β : Type} {A : List HP} {r : α → Value} {B : α → List HP} {pc : β → List PanicEntry} {Bp : β → List HP} (h : ∀ F, Ent W (A ++ F) (fields_list_fields_Directive v0 v1 (fun ch w => ∃ y, ch = pc y ∧ sat W (Bp y ++ F) w) fun v w => ∃ x, v = r x ∧ sat W (B x ++ F) w)) : CnP Tryz.prog 18 [v0, v1] W A r B pc Bp :=
  CnP.of (shape := fields_list_fields_Directive v0 v1) Tryz.call18 (fun h => fields_list_fields_Directive_calls h) h

/-- fields_directive -/
def fields_directive (v0 : Value) (Kp : PK) (K : Value → WP) : WP :=
  opN Tryz.prog (sAlloc 44) Kp fun x2 =>
  opN Tryz.prog (sCall (fn 32) [v0, (.string ⟨#[61]⟩)]) Kp fun x7 =>
  opN Tryz.prog (sExt x7 0) Kp fun x8 =>
  opN Tryz.prog (sExt x7 1) Kp fun x9 =>
  opN Tryz.prog (sExt x7 2) Kp fun x10 =>
  opN Tryz.prog (sFA 44 x2 0) Kp fun x11 =>
  opN Tryz.prog (sStore 9 x11 x8) Kp fun _ =>
  opN Tryz.prog (sFA 44 x2 1) Kp fun x12 =>
  opN Tryz.prog (sStore 9 x12 x9) Kp fun _ =>
  opN Tryz.prog (sFA 44 x2 2) Kp fun x13 =>
  opN Tryz.prog (sStore 4 x13 x10) Kp fun _ =>
  opN Tryz.prog (sFA 44 x2 0) Kp fun x14 =>
  opN Tryz.prog (sLoad 9 x14) Kp fun x15 =>
  opN Tryz.prog (sCall (fn 16) [x15]) Kp fun x16 =>
  opN Tryz.prog (sFA 44 x2 0) Kp fun x17 =>
  opN Tryz.prog (sLoad 9 x17) Kp fun x18 =>
  opN Tryz.prog (sCall (fn 17) [x18]) Kp fun x19 =>
  opN Tryz.prog (sFA 44 x2 0) Kp fun x20 =>
  opN Tryz.prog (sStore 9 x20 x19) Kp fun _ =>
  opN Tryz.prog (sFA 44 x2 2) Kp fun x21 =>
  opN Tryz.prog (sLoad 4 x21) Kp fun x22 =>
  gdK x22 true (opN Tryz.prog (sFA 44 x2 1) Kp) fun x24 =>
  gdK x22 true (opN Tryz.prog (sLoad 9 x24) Kp) fun x25 =>
  gdK x22 true (opN Tryz.prog (sCall (fn 16) [x25]) Kp) fun x26 =>
  gdK x22 true (opN Tryz.prog (sUn .not x26) Kp) fun x27 =>
  opN Tryz.prog (sPick x22 x27 (.bool false)) Kp fun x28 =>
  condS x28
  (opN Tryz.prog (sFA 44 x2 1) Kp fun x30 =>
   opN Tryz.prog (sLoad 9 x30) Kp fun x31 =>
   opN Tryz.prog (sCall (fn 33) [x31]) Kp fun x32 =>
   opN Tryz.prog (sExt x32 0) Kp fun x33 =>
   opN Tryz.prog (sExt x32 1) Kp fun x34 =>
   opN Tryz.prog (sFA 44 x2 1) Kp fun x35 =>
   opN Tryz.prog (sStore 9 x35 x33) Kp fun _ =>
   gdK x16 true (fun k => k x34) fun x38 =>
   opN Tryz.prog (sPick x16 x38 (.bool false)) Kp fun x39 =>
   opN Tryz.prog (sLoad 44 x2) Kp fun x40 =>
   opN Tryz.prog (sStore 44 x2 x40) Kp fun _ =>
   (stS Tryz.prog (sRes 44 x2) fun r0 => K (.tuple #[r0, x39])))
  (opN Tryz.prog (sLoad 44 x2) Kp fun x40 =>
   opN Tryz.prog (sStore 44 x2 x40) Kp fun _ =>
   (stS Tryz.prog (sRes 44 x2) fun r0 => K (.tuple #[r0, x16])))
def fields_directive_an : Ann := { cuts := [], blks := [], loops := [], drs := [] }
theorem fields_directive_eq (v0 : Value) (Kp : PK) (K : Value → WP) : cevF Tryz.prog fields_directive_an Tryz.f19 [v0] Kp K = fields_directive v0 Kp K := by kernel_rfl
theorem fields_directive_calls {v0 : Value} {Kp : PK} {K : Value → WP} {w : World} (h : fields_directive v0 Kp K w) : Calls Tryz.prog 19 #[v0] w (after Kp K) :=
  calls_of_shape (calls_of_cev wide Tryz.func19 (an := fields_directive_an) (args := [v0]) (cast (congrFun (fields_directive_eq v0 Kp K) w).symm h))
theorem fields_directive_cn {v0 : Value} {W : World} {α : Type} {A : List HP} {r : α → Value} {B : α → List HP} (h : ∀ F, Ent W (A ++ F) (fields_directive v0 noP fun v w => ∃ x, v = r x ∧ sat W (B x ++ F) w)) : Cn Tryz.prog 19 [v0] W A r B :=
  Cn.of (shape := fields_directive v0) Tryz.call19 (fun h => fields_directive_calls h) h
theorem fields_directive_cnP {v0 : Value} {W : World} {α β : Type} {A : List HP} {r : α → Value} {B : α → List HP} {pc : β → List PanicEntry} {Bp : β → List HP} (h : ∀ F, Ent W (A ++ F) (fields_directive v0 (fun ch w => ∃ y, ch = pc y ∧ sat W (Bp y ++ F) w) fun v w => ∃ x, v = r x ∧ sat W (B x ++ F) w)) : CnP Tryz.prog 19 [v0] W A r B pc Bp :=
  CnP.of (shape := fields_directive v0) Tryz.call19 (fun h => fields_directive_calls h) h

/-- ref10_elements -/
def ref10_elements (v0 v1 v2 : Value) (Kp : PK) (K : Value → WP) : WP :=
  loop4 (fun I1 m1 _ y7 y8 y9 y10 =>
   opN Tryz.prog (sLen #[9] 3 [v0]) Kp fun x14 =>
   opN Tryz.prog (sBin .leq 3 y10 x14) Kp fun x15 =>
   condS x15
   (cut1 (fun J1 =>
     opN Tryz.prog (sLen #[9] 3 [v0]) Kp fun x20 =>
     opN Tryz.prog (sBin .lss 3 y10 x20) Kp fun x21 =>
     gdK x21 true (fun k => k y8) fun x23 =>
     opN Tryz.prog (sPick x21 x23 (.bool false)) Kp fun x24 =>
     gdK x24 true (fun k => k v2) fun x26 =>
     opN Tryz.prog (sPick x24 x26 (.bool false)) Kp fun x27 =>
     gdK x27 true (fun k => k v0) fun x29 =>
     gdK x27 true (fun k => k y10) fun x30 =>
     gdK x27 true (opN Tryz.prog (sIx 9 x29 x30) Kp) fun x31 =>
     gdK x27 true (opN Tryz.prog (sEq .eql 5 (.tmp 31) (.const (.int .u8 92)) x31 (.int .u8 92)) Kp) fun x32 =>
     opN Tryz.prog (sPick x27 x32 (.bool false)) Kp fun x33 =>
     condS x33
     (opN Tryz.prog (sBin .add 3 y10 (.int .i64 1)) Kp fun x35 =>
      opN Tryz.prog (sLen #[9] 3 [v0]) Kp fun x38 =>
      opN Tryz.prog (sBin .lss 3 x35 x38) Kp fun x39 =>
      condS x39
      (opN Tryz.prog (sBin .add 3 x35 (.int .i64 1)) Kp fun x17 =>
       next4 I1 m1 y7 y8 y9 x17)
      (J1 x35))
     (J1 y10)) fun _ z10 =>
    cut1 (fun J2 =>
     opN Tryz.prog (sLen #[9] 3 [v0]) Kp fun x42 =>
     opN Tryz.prog (sBin .lss 3 z10 x42) Kp fun x43 =>
     gdK x43 true (fun k => k v1) fun x45 =>
     opN Tryz.prog (sPick x43 x45 (.bool false)) Kp fun x46 =>
     gdK x46 true (fun k => k v0) fun x48 =>
     gdK x46 true (fun k => k z10) fun x49 =>
     gdK x46 true (opN Tryz.prog (sIx 9 x48 x49) Kp) fun x50 =>
     gdK x46 true (opN Tryz.prog (sEq .eql 5 (.tmp 50) (.const (.int .u8 34)) x50 (.int .u8 34)) Kp) fun x51 =>
     opN Tryz.prog (sPick x46 x51 (.bool false)) Kp fun x52 =>
     condS x52
     (opN Tryz.prog (sUn .not y8) Kp fun x54 =>
      J2 x54)
     (J2 y8)) fun _ z8 =>
    opN Tryz.prog (sLen #[9] 3 [v0]) Kp fun x57 =>
    opN Tryz.prog (sBin .lss 3 z10 x57) Kp fun x58 =>
    gdK x58 true (fun k => k v0) fun x60 =>
    gdK x58 true (fun k => k z10) fun x61 =>
    gdK x58 true (opN Tryz.prog (sIx 9 x60 x61) Kp) fun x62 =>
    gdK x58 true (opN Tryz.prog (sEq .neq 5 (.tmp 62) (.const (.int .u8 44)) x62 (.int .u8 44)) Kp) fun x63 =>
    gdK x58 true (fun k => k x63) fun x64 =>
    gdK x64 false (fun k => k z8) fun x65 =>
    gdK x58 true (opN Tryz.prog (sPick x64 (.bool true) x65) Kp) fun x66 =>
    opN Tryz.prog (sPick x58 x66 (.bool false)) Kp fun x67 =>
    condS x67
    (opN Tryz.prog (sBin .add 3 z10 (.int .i64 1)) Kp fun x17 =>
     next4 I1 m1 y7 z8 y9 x17)
    (opN Tryz.prog (sLen #[9] 3 [v0]) Kp fun x72 =>
     opN Tryz.prog (sMin #[3, 3] 3 [z10, x72]) Kp fun x73 =>
     opN Tryz.prog (sSl 9 v0 (some y9) (some x73) none) Kp fun x74 =>
     opN Tryz.prog (sCall (fn 34) [x74]) Kp fun x75 =>
     cut1 (fun J3 =>
      opN Tryz.prog (sEq .neq 9 (.tmp 76) (.const (.string ⟨#[]⟩)) x75 (.string ⟨#[]⟩)) Kp fun x77 =>
      condS x77
      (opN Tryz.prog (sBuildSl 50 1 [(0, x75)]) Kp fun x80 =>
       opN Tryz.prog (sApp #[50, 50] 50 [y7, x80]) Kp fun x81 =>
       J3 x81)
      (J3 y7)) fun _ z7 =>
     opN Tryz.prog (sBin .add 3 z10 (.int .i64 1)) Kp fun x83 =>
     opN Tryz.prog (sBin .add 3 z10 (.int .i64 1)) Kp fun x17 =>
     next4 I1 m1 z7 z8 x83 x17))
   (K y7)) (.slice none 0 0) (.bool false) (.int .i64 0) (.int .i64 0)
def ref10_elements_an : Ann := { cuts := [(10, [10]), (12, [8]), (16, [7])], blks := [], loops := [(5, [7, 8, 9, 10])], drs := [] }
theorem ref10_elements_eq (v0 v1 v2 : Value) (Kp : PK) (K : Value → WP) : cevF Tryz.prog ref10_elements_an Tryz.f20 [v0, v1, v2] Kp K = ref10_elements v0 v1 v2 Kp K := by kernel_rfl
theorem ref10_elements_calls {v0 v1 v2 : Value} {Kp : PK} {K : Value → WP} {w : World} (h : ref10_elements v0 v1 v2 Kp K w) : Calls Tryz.prog 20 #[v0, v1, v2] w (after Kp K) :=
  calls_of_shape (calls_of_cev wide Tryz.func20 (an := ref10_elements_an) (args := [v0, v1, v2]) (cast (congrFun (ref10_elements_eq v0 v1 v2 Kp K) w).symm h))
theorem ref10_elements_cn {v0 v1 v2 : Value} {W : World} {α : Type} {A : List HP} {r : α → Value} {B : α → List HP} (h : ∀ F, Ent W (A ++ F) (ref10_elements v0 v1 v2 noP fun v w => ∃ x, v = r x ∧ sat W (B x ++ F) w)) : Cn Tryz.prog 20 [v0, v1, v2] W A r B :=
  Cn.of (shape := ref10_elements v0 v1 v2) Tryz.call20 (fun h => ref10_elements_calls h) h
theorem ref10_elements_cnP {v0 v1 v2 : Value} {W : World} {α β : Type} {A : List HP} {r : α → Value} {B : α → List HP} {pc : β → List PanicEntry} {Bp : β → List HP} (h : ∀ F, Ent W (A ++ F) (ref10_elements v0 v1 v2 (fun ch w => ∃ y, ch = pc y ∧ sat W (Bp y ++ F) w) fun v w => ∃ x, v = r x ∧ sat W (B x ++ F) w)) : CnP Tryz.prog 20 [v0, v1, v2] W A r B pc Bp :=
  CnP.of (shape := ref10_elements v0 v1 v2) Tryz.call20 (fun h => ref10_elements_calls h) h

/-- ref10_directive -/
def ref10_directive (v0 : Value) (Kp : PK) (K : Value → WP) : WP :=
  opN Tryz.prog (sAlloc 52) Kp fun x2 =>
  loop1 (fun I1 m1 _ y4 =>
   opN Tryz.prog (sLen #[9] 3 [v0]) Kp fun x10 =>
   opN Tryz.prog (sBin .lss 3 y4 x10) Kp fun x11 =>
   gdK x11 true (fun k => k v0) fun x13 =>
   gdK x11 true (fun k => k y4) fun x14 =>
   gdK x11 true (opN Tryz.prog (sIx 9 x13 x14) Kp) fun x15 =>
   gdK x11 true (opN Tryz.prog (sEq .neq 5 (.tmp 15) (.const (.int .u8 61)) x15 (.int .u8 61)) Kp) fun x16 =>
   opN Tryz.prog (sPick x11 x16 (.bool false)) Kp fun x17 =>
   condS x17
   (opN Tryz.prog (sBin .add 3 y4 (.int .i64 1)) Kp fun x19 =>
    next1 I1 m1 x19)
   (opN Tryz.prog (sSl 9 v0 none (some y4) none) Kp fun x22 =>
    opN Tryz.prog (sCall (fn 35) [x22]) Kp fun x23 =>
    opN Tryz.prog (sBuild 52 [(0, x23)]) Kp fun x24 =>
    opN Tryz.prog (sAlloc 52) Kp fun x5 =>
    opN Tryz.prog (sStore 52 x5 x24) Kp fun _ =>
    opN Tryz.prog (sFA 52 x5 0) Kp fun x25 =>
    opN Tryz.prog (sLoad 9 x25) Kp fun x26 =>
    opN Tryz.prog (sCall (fn 36) [x26]) Kp fun x27 =>
    opN Tryz.prog (sUn .not x27) Kp fun x28 =>
    condS x28
    (opN Tryz.prog (sLoad 52 x5) Kp fun x29 =>
     opN Tryz.prog (sStore 52 x2 x29) Kp fun _ =>
     (stS Tryz.prog (sRes 52 x2) fun r0 => K (.tuple #[r0, (.bool false)])))
    (opN Tryz.prog (sLen #[9] 3 [v0]) Kp fun x32 =>
     opN Tryz.prog (sEq .eql 3 (.tmp 30) (.tmp 32) y4 x32) Kp fun x33 =>
     condS x33
     (opN Tryz.prog (sLoad 52 x5) Kp fun x34 =>
      opN Tryz.prog (sStore 52 x2 x34) Kp fun _ =>
      (stS Tryz.prog (sRes 52 x2) fun r0 => K (.tuple #[r0, (.bool true)])))
     (opN Tryz.prog (sFA 52 x5 2) Kp fun x35 =>
      opN Tryz.prog (sStore 4 x35 (.bool true)) Kp fun _ =>
      opN Tryz.prog (sBin .add 3 y4 (.int .i64 1)) Kp fun x38 =>
      opN Tryz.prog (sSl 9 v0 (some x38) none none) Kp fun x39 =>
      opN Tryz.prog (sFA 52 x5 1) Kp fun x40 =>
      opN Tryz.prog (sStore 9 x40 x39) Kp fun _ =>
      opN Tryz.prog (sFA 52 x5 1) Kp fun x41 =>
      opN Tryz.prog (sLoad 9 x41) Kp fun x42 =>
      opN Tryz.prog (sCall (fn 36) [x42]) Kp fun x43 =>
      condS x43
      (opN Tryz.prog (sLoad 52 x5) Kp fun x44 =>
       opN Tryz.prog (sStore 52 x2 x44) Kp fun _ =>
       (stS Tryz.prog (sRes 52 x2) fun r0 => K (.tuple #[r0, (.bool true)])))
      (opN Tryz.prog (sFA 52 x5 1) Kp fun x46 =>
       opN Tryz.prog (sLoad 9 x46) Kp fun x47 =>
       opN Tryz.prog (sCall (fn 37) [x47]) Kp fun x48 =>
       opN Tryz.prog (sExt x48 0) Kp fun x49 =>
       opN Tryz.prog (sExt x48 1) Kp fun x50 =>
       opN Tryz.prog (sFA 52 x5 1) Kp fun x52 =>
       opN Tryz.prog (sStore 9 x52 x49) Kp fun _ =>
       opN Tryz.prog (sLoad 52 x5) Kp fun x53 =>
       opN Tryz.prog (sStore 52 x2 x53) Kp fun _ =>
       (stS Tryz.prog (sRes 52 x2) fun r0 => K (.tuple #[r0, x50]))))))) (.int .i64 0)
def ref10_directive_an : Ann := { cuts := [], blks := [], loops := [(2, [4])], drs := [] }
theorem ref10_directive_eq (v0 : Value) (Kp : PK) (K : Value → WP) : cevF Tryz.prog ref10_directive_an Tryz.f21 [v0] Kp K = ref10_directive v0 Kp K := by kernel_rfl
theorem ref10_directive_calls {v0 : Value} {Kp : PK} {K : Value → WP} {w : World} (h : ref10_directive v0 Kp K w) : Calls Tryz.prog 21 #[v0] w (after Kp K) :=
  calls_of_shape (calls_of_cev wide Tryz.func21 (an := ref10_directive_an) (args := [v0]) (cast (congrFun (ref10_directive_eq v0 Kp K) w).symm h))
theorem ref10_directive_cn {v0 : Value} {W : World} {α : Type} {A : List HP} {r : α → Value} {B : α → List HP} (h : ∀ F, Ent W (A ++ F) (ref10_directive v0 noP fun v w => ∃ x, v = r x ∧ sat W (B x ++ F) w)) : Cn Tryz.prog 21 [v0] W A r B :=
  Cn.of (shape := ref10_directive v0) Tryz.call21 (fun h => ref10_directive_calls h) h
theorem ref10_directive_cnP {v0 : Value} {W : World} {α β : Type} {A : List HP} {r : α → Value} {B : α → List HP} {pc : β → List PanicEntry} {Bp : β → List HP} (h : ∀ F, Ent W (A ++ F) (ref10_directive v0 (fun ch w => ∃ y, ch = pc y ∧ sat W (Bp y ++ F) w) fun v w => ∃ x, v = r x ∧ sat W (B x ++ F) w)) : CnP Tryz.prog 21 [v0] W A r B pc Bp :=
  CnP.of (shape := ref10_directive v0) Tryz.call21 (fun h => ref10_directive_calls h) h

/-- strings_NewReplacer -/
def strings_NewReplacer (v0 : Value) (Kp : PK) (K : Value → WP) : WP :=
  opN Tryz.prog (sLen #[50] 3 [v0]) Kp fun x4 =>
  opN Tryz.prog (sBin .rem 3 x4 (.int .i64 2)) Kp fun x5 =>
  opN Tryz.prog (sEq .eql 3 (.tmp 5) (.const (.int .i64 1)) x5 (.int .i64 1)) Kp fun x6 =>
  condS x6
  (opN Tryz.prog (sMkI 9 (.string ⟨#[115, 116, 114, 105, 110, 103, 115, 46, 78, 101, 119, 82, 101, 112, 108, 97, 99, 101, 114, 58, 32, 111, 100, 100, 32, 97, 114, 103, 117, 109, 101, 110, 116, 32, 99, 111, 117, 110, 116]⟩)) Kp fun x7 =>
   opN Tryz.prog (sPanic x7) Kp fun _ =>
   opN Tryz.prog (sApp #[50, 50] 50 [(.slice none 0 0), v0]) Kp fun x9 =>
   opN Tryz.prog (sBuild 100 [(2, x9)]) Kp fun x10 =>
   opN Tryz.prog (sBox 100 x10) Kp fun x11 =>
   K x11)
  (opN Tryz.prog (sApp #[50, 50] 50 [(.slice none 0 0), v0]) Kp fun x9 =>
   opN Tryz.prog (sBuild 100 [(2, x9)]) Kp fun x10 =>
   opN Tryz.prog (sBox 100 x10) Kp fun x11 =>
   K x11)
def strings_NewReplacer_an : Ann := { cuts := [], blks := [], loops := [], drs := [] }
theorem strings_NewReplacer_eq (v0 : Value) (Kp : PK) (K : Value → WP) : cevF Tryz.prog strings_NewReplacer_an Tryz.f22 [v0] Kp K = strings_NewReplacer v0 Kp K := by kernel_rfl
theorem strings_NewReplacer_calls {v0 : Value} {Kp : PK} {K : Value → WP} {w : World} (h : strings_NewReplacer v0 Kp K w) : Calls Tryz.prog 22 #[v0] w (after Kp K) :=
  calls_of_shape (calls_of_cev wide Tryz.func22 (an := strings_NewReplacer_an) (args := [v0]) (cast (congrFun (strings_NewReplacer_eq v0 Kp K) w).symm h))
theorem strings_NewReplacer_cn {v0 : Value} {W : World} {α : Type} {A : List HP} {r : α → Value} {B : α → List HP} (h : ∀ F, Ent W (A ++ F) (strings_NewReplacer v0 noP fun v w => ∃ x, v = r x ∧ sat W (B x ++ F) w)) : Cn Tryz.prog 22 [v0] W A r B :=
  Cn.of (shape := strings_NewReplacer v0) Tryz.call22 (fun h => strings_NewReplacer_calls h) h
theorem strings_NewReplacer_cnP {v0 : Value} {W : World} {α β : Type} {A : List HP} {r : α → Value} {B : α → List HP} {pc : β → List PanicEntry} {Bp : β → List HP} (h : ∀ F, Ent W (A ++ F) (strings_NewReplacer v0 (fun ch w => ∃ y, ch = pc y ∧ sat W (Bp y ++ F) w) fun v w => ∃ x, v = r x ∧ sat W (B x ++ F) w)) : CnP Tryz.prog 22 [v0] W A r B pc Bp :=
  CnP.of (shape := strings_NewReplacer v0) Tryz.call22 (fun h => strings_NewReplacer_calls h) h

/-- strings_Replacer_Replace -/
def strings_Replacer_Replace (v0 v1 : Value) (Kp : PK) (K : Value → WP) : WP :=
  opN Tryz.prog (sNil v0) Kp fun x6 =>
  opN Tryz.prog (sFA 100 x6 0) Kp fun x7 =>
  opN Tryz.prog (sMkF (.func 39) [v0] []) Kp fun x9 =>
  opN Tryz.prog (sCall (fn 38) [x7, x9]) Kp fun x10 =>
  opN Tryz.prog (sNil v0) Kp fun x12 =>
  opN Tryz.prog (sFA 100 x12 1) Kp fun x13 =>
  opN Tryz.prog (sLoad 98 x13) Kp fun x14 =>
  opN Tryz.prog (sInv x14 "Replace" [v1]) Kp fun x16 =>
  K x16
def strings_Replacer_Replace_an : Ann := { cuts := [], blks := [], loops := [], drs := [] }
theorem strings_Replacer_Replace_eq (v0 v1 : Value) (Kp : PK) (K : Value → WP) : cevF Tryz.prog strings_Replacer_Replace_an Tryz.f23 [v0, v1] Kp K = strings_Replacer_Replace v0 v1 Kp K := by kernel_rfl
theorem strings_Replacer_Replace_calls {v0 v1 : Value} {Kp : PK} {K : Value → WP} {w : World} (h : strings_Replacer_Replace v0 v1 Kp K w) : Calls Tryz.prog 23 #[v0, v1] w (after Kp K) :=
  calls_of_shape (calls_of_cev wide Tryz.func23 (an := strings_Replacer_Replace_an) (args := [v0, v1]) (cast (congrFun (strings_Replacer_Replace_eq v0 v1 Kp K) w).symm h))
theorem strings_Replacer_Replace_cn {v0 v1 : Value} {W : World} {α : Type} {A : List HP} {r : α → Value} {B : α → List HP} (h : ∀ F, Ent W (A ++ F) (strings_Replacer_Replace v0 v1 noP fun v w => ∃ x, v = r x ∧ sat W (B x ++ F) w)) : Cn Tryz.prog 23 [v0, v1] W A r B :=
  Cn.of (shape := strings_Replacer_Replace v0 v1) Tryz.call23 (fun h => strings_Replacer_Replace_calls h) h
theorem strings_Replacer_Replace_cnP {v0 v1 : Value} {W : World} {α β : Type} {A : List HP} {r : α → Value} {B : α → List HP} {pc : β → List PanicEntry} {Bp : β → List HP} (h : ∀ F, Ent W (A ++ F) (strings_Replacer_Replace v0 v1 (fun ch w => ∃ y, ch = pc y ∧ sat W (Bp y ++ F) w) fun v w => ∃ x, v = r x ∧ sat W (B x ++ F) w)) : CnP Tryz.prog 23 [v0, v1] W A r B pc Bp :=
  CnP.of (shape := strings_Replacer_Replace v0 v1) Tryz.call23 (fun h => strings_Replacer_Replace_calls h) h

/-- ascii_Decimal -/
def ascii_Decimal (v0 : Value) (Kp : PK) (K : Value → WP) : WP :=
  opN Tryz.prog (sCall (fn 40) [v0, (.int .i64 10), (.int .i64 1000000000000000000)]) Kp fun x5 =>
  opN Tryz.prog (sExt x5 0) Kp fun x6 =>
  opN Tryz.prog (sExt x5 1) Kp fun x7 =>
  K (.tuple #[x6, x7])
def ascii_Decimal_an : Ann := { cuts := [], blks := [], loops := [], drs := [] }
theorem ascii_Decimal_eq (v0 : Value) (Kp : PK) (K : Value → WP) : cevF Tryz.prog ascii_Decimal_an Tryz.f24 [v0] Kp K = ascii_Decimal v0 Kp K := by kernel_rfl
theorem ascii_Decimal_calls {v0 : Value} {Kp : PK} {K : Value → WP} {w : World} (h : ascii_Decimal v0 Kp K w) : Calls Tryz.prog 24 #[v0] w (after Kp K) :=
  calls_of_shape (calls_of_cev wide Tryz.func24 (an := ascii_Decimal_an) (args := [v0]) (cast (congrFun (ascii_Decimal_eq v0 Kp K) w).symm h))
theorem ascii_Decimal_cn {v0 : Value} {W : World} {α : Type} {A : List HP} {r : α → Value} {B : α → List HP} (h : ∀ F, Ent W (A ++ F) (ascii_Decimal v0 noP fun v w => ∃ x, v = r x ∧ sat W (B x ++ F) w)) : Cn Tryz.prog 24 [v0] W A r B :=
  Cn.of (shape := ascii_Decimal v0) Tryz.call24 (fun h => ascii_Decimal_calls h) h
theorem ascii_Decimal_cnP {v0 : Value} {W : World} {α β : Type} {A : List HP} {r : α → Value} {B : α → List HP} {pc : β → List PanicEntry} {Bp : β → List HP} (h : ∀ F, Ent W (A ++ F) (ascii_Decimal v0 (fun ch w => ∃ y, ch = pc y ∧ sat W (Bp y ++ F) w) fun v w => ∃ x, v = r x ∧ sat W (B x ++ F) w)) : CnP Tryz.prog 24 [v0] W A r B pc Bp :=
  CnP.of (shape := ascii_Decimal v0) Tryz.call24 (fun h => ascii_Decimal_calls h) h

/-- ref01_Decimal -/
def ref01_Decimal (v0 : Value) (Kp : PK) (K : Value → WP) : WP :=
  opN Tryz.prog (sCall (fn 41) [v0, (.int .i64 10), (.int .i64 1000000000000000000)]) Kp fun x5 =>
  opN Tryz.prog (sExt x5 0) Kp fun x6 =>
  opN Tryz.prog (sExt x5 1) Kp fun x7 =>
  K (.tuple #[x6, x7])
def ref01_Decimal_an : Ann := { cuts := [], blks := [], loops := [], drs := [] }
theorem ref01_Decimal_eq (v0 : Value) (Kp : PK) (K : Value → WP) : cevF Tryz.prog ref01_Decimal_an Tryz.f25 [v0] Kp K = ref01_Decimal v0 Kp K := by kernel_rfl
theorem ref01_Decimal_calls {v0 : Value} {Kp : PK} {K : Value → WP} {w : World} (h : ref01_Decimal v0 Kp K w) : Calls Tryz.prog 25 #[v0] w (after Kp K) :=
  calls_of_shape (calls_of_cev wide Tryz.func25 (an := ref01_Decimal_an) (args := [v0]) (cast (congrFun (ref01_Decimal_eq v0 Kp K) w).symm h))
theorem ref01_Decimal_cn {v0 : Value} {W : World} {α : Type} {A : List HP} {r : α → Value} {B : α → List HP} (h : ∀ F, Ent W (A ++ F) (ref01_Decimal v0 noP fun v w => ∃ x, v = r x ∧ sat W (B x ++ F) w)) : Cn Tryz.prog 25 [v0] W A r B :=
  Cn.of (shape := ref01_Decimal v0) Tryz.call25 (fun h => ref01_Decimal_calls h) h
theorem ref01_Decimal_cnP {v0 : Value} {W : World} {α β : Type} {A : List HP} {r : α → Value} {B : α → List HP} {pc : β → List PanicEntry} {Bp : β → List HP} (h : ∀ F, Ent W (A ++ F) (ref01_Decimal v0 (fun ch w => ∃ y, ch = pc y ∧ sat W (Bp y ++ F) w) fun v w => ∃ x, v = r x ∧ sat W (B x ++ F) w)) : CnP Tryz.prog 25 [v0] W A r B pc Bp :=
  CnP.of (shape := ref01_Decimal v0) Tryz.call25 (fun h => ref01_Decimal_calls h) h

/-- fields_Choices -/
def fields_Choices (v0 : Value) (Kp : PK) (K : Value → WP) : WP :=
  opN Tryz.prog (sBuild 107 [(2, (fn 43))]) Kp fun x5 =>
  opN Tryz.prog (sCall (fn 42) [v0, x5]) Kp fun x6 =>
  opN Tryz.prog (sExt x6 0) Kp fun x7 =>
  opN Tryz.prog (sExt x6 1) Kp fun x8 =>
  K (.tuple #[x7, x8])
def fields_Choices_an : Ann := { cuts := [], blks := [], loops := [], drs := [] }
theorem fields_Choices_eq (v0 : Value) (Kp : PK) (K : Value → WP) : cevF Tryz.prog fields_Choices_an Tryz.f26 [v0] Kp K = fields_Choices v0 Kp K := by kernel_rfl
theorem fields_Choices_calls {v0 : Value} {Kp : PK} {K : Value → WP} {w : World} (h : fields_Choices v0 Kp K w) : Calls Tryz.prog 26 #[v0] w (after Kp K) :=
  calls_of_shape (calls_of_cev wide Tryz.func26 (an := fields_Choices_an) (args := [v0]) (cast (congrFun (fields_Choices_eq v0 Kp K) w).symm h))
theorem fields_Choices_cn {v0 : Value} {W : World} {α : Type} {A : List HP} {r : α → Value} {B : α → List HP} (h : ∀ F, Ent W (A ++ F) (fields_Choices v0 noP fun v w => ∃ x, v = r x ∧ sat W (B x ++ F) w)) : Cn Tryz.prog 26 [v0] W A r B :=
  Cn.of (shape := fields_Choices v0) Tryz.call26 (fun h => fields_Choices_calls h) h
theorem fields_Choices_cnP {v0 : Value} {W : World} {α β : Type} {A : List HP} {r : α → Value} {B : α → List HP} {pc : β → List PanicEntry} {Bp : β → List HP} (h : ∀ F, Ent W (A ++ F) (fields_Choices v0 (fun ch w => ∃ y, ch = pc y ∧ sat W (Bp y ++ F) w) fun v w => ∃ x, v = r x ∧ sat W (B x ++ F) w)) : CnP Tryz.prog 26 [v0] W A r B pc Bp :=
  CnP.of (shape := fields_Choices v0) Tryz.call26 (fun h => fields_Choices_calls h) h

/-- fields_Spans -/
def fields_Spans (v0 : Value) (Kp : PK) (K : Value → WP) : WP :=
  opN Tryz.prog (sLen #[9] 3 [v0]) Kp fun x7 =>
  opN Tryz.prog (sBin .lss 3 x7 (.int .i64 6)) Kp fun x8 =>
  gdK x8 false (fun k => k v0) fun x10 =>
  gdK x8 false (opN Tryz.prog (sSl 9 x10 none (some (.int .i64 6)) none) Kp) fun x11 =>
  gdK x8 false (opN Tryz.prog (sCall (fn 44) [x11, (.string ⟨#[98, 121, 116, 101, 115, 61]⟩)]) Kp) fun x12 =>
  gdK x8 false (opN Tryz.prog (sUn .not x12) Kp) fun x13 =>
  opN Tryz.prog (sPick x8 (.bool true) x13) Kp fun x14 =>
  condS x14
  (K (.tuple #[(.slice none 0 0), (.int .i64 42)]))
  (opN Tryz.prog (sSl 9 v0 (some (.int .i64 6)) none none) Kp fun x17 =>
   opN Tryz.prog (sBuild 111 [(2, (fn 46))]) Kp fun x18 =>
   opN Tryz.prog (sCall (fn 45) [x17, x18]) Kp fun x19 =>
   opN Tryz.prog (sExt x19 0) Kp fun x20 =>
   opN Tryz.prog (sExt x19 1) Kp fun x21 =>
   cut1 (fun J1 =>
    opN Tryz.prog (sEq .neq 23 (.tmp 23) (.const (.int .i64 0)) x21 (.int .i64 0)) Kp fun x24 =>
    condS x24
    (J1 x24)
    (opN Tryz.prog (sLen #[65] 3 [x20]) Kp fun x26 =>
     opN Tryz.prog (sEq .eql 3 (.tmp 26) (.const (.int .i64 0)) x26 (.int .i64 0)) Kp fun x27 =>
     J1 x27)) fun _ z22 =>
   condS z22
   (K (.tuple #[(.slice none 0 0), (.int .i64 42)]))
   (opN Tryz.prog (sLen #[65] 3 [x20]) Kp fun x30 =>
    opN Tryz.prog (sBin .gtr 3 x30 (.int .i64 16)) Kp fun x31 =>
    condS x31
    (K (.tuple #[(.slice none 0 0), (.int .i64 6)]))
    (K (.tuple #[x20, (.int .i64 0)]))))
def fields_Spans_an : Ann := { cuts := [(6, [22])], blks := [], loops := [], drs := [] }
theorem fields_Spans_eq (v0 : Value) (Kp : PK) (K : Value → WP) : cevF Tryz.prog fields_Spans_an Tryz.f27 [v0] Kp K = fields_Spans v0 Kp K := by kernel_rfl
theorem fields_Spans_calls {v0 : Value} {Kp : PK} {K : Value → WP} {w : World} (h : fields_Spans v0 Kp K w) : Calls Tryz.prog 27 #[v0] w (after Kp K) :=
  calls_of_shape (calls_of_cev wide Tryz.func27 (an := fields_Spans_an) (args := [v0]) (cast (congrFun (fields_Spans_eq v0 Kp K) w).symm h))
theorem fields_Spans_cn {v0 : Value} {W : World} {α : Type} {A : List HP} {r : α → Value} {B : α → List HP} (h : ∀ F, Ent W (A ++ F) (fields_Spans v0 noP fun v w => ∃ x, v = r x ∧ sat W (B x ++ F) w)) : Cn Tryz.prog 27 [v0] W A r B :=
  Cn.of (shape := fields_Spans v0) Tryz.call27 (fun h => fields_Spans_calls h) h
theorem fields_Spans_cnP {v0 : Value} {W : World} {α β : Type} {A : List HP} {r : α → Value} {B : α → List HP} {pc : β → List PanicEntry} {Bp : β → List HP} (h : ∀ F, Ent W (A ++ F) (fields_Spans v0 (fun ch w => ∃ y, ch = pc y ∧ sat W (Bp y ++ F) w) fun v w => ∃ x, v = r x ∧ sat W (B x ++ F) w)) : CnP Tryz.prog 27 [v0] W A r B pc Bp :=
  CnP.of (shape := fields_Spans v0) Tryz.call27 (fun h => fields_Spans_calls h) h

/-- fields_tag -/
def fields_tag (v0 : Value) (Kp : PK) (K : Value → WP) : WP :=
  opN Tryz.prog (sAlloc 38) Kp fun x2 =>
  opN Tryz.prog (sCall (fn 47) [v0, (.string ⟨#[87, 47]⟩)]) Kp fun x10 =>
  opN Tryz.prog (sExt x10 0) Kp fun x11 =>
  opN Tryz.prog (sExt x10 1) Kp fun x12 =>
  opN Tryz.prog (sLen #[9] 3 [x11]) Kp fun x14 =>
  opN Tryz.prog (sBin .lss 3 x14 (.int .i64 2)) Kp fun x15 =>
  gdK x15 false (fun k => k x11) fun x17 =>
  gdK x15 false (opN Tryz.prog (sIx 9 x17 (.int .i64 0)) Kp) fun x18 =>
  gdK x15 false (opN Tryz.prog (sEq .neq 5 (.tmp 18) (.const (.int .u8 34)) x18 (.int .u8 34)) Kp) fun x19 =>
  opN Tryz.prog (sPick x15 (.bool true) x19) Kp fun x20 =>
  gdK x20 false (fun k => k x11) fun x22 =>
  gdK x20 false (fun k => k x11) fun x23 =>
  gdK x20 false (opN Tryz.prog (sLen #[9] 3 [x23]) Kp) fun x24 =>
  gdK x20 false (opN Tryz.prog (sBin .sub 3 x24 (.int .i64 1)) Kp) fun x25 =>
  gdK x20 false (opN Tryz.prog (sIx 9 x22 x25) Kp) fun x26 =>
  gdK x20 false (opN Tryz.prog (sEq .neq 5 (.tmp 26) (.const (.int .u8 34)) x26 (.int .u8 34)) Kp) fun x27 =>
  opN Tryz.prog (sPick x20 (.bool true) x27) Kp fun x28 =>
  condS x28
  (opN Tryz.prog (sBuild 38 []) Kp fun x29 =>
   opN Tryz.prog (sStore 38 x2 x29) Kp fun _ =>
   (stS Tryz.prog (sRes 38 x2) fun r0 => K (.tuple #[r0, (.bool false)])))
  (opN Tryz.prog (sLen #[9] 3 [x11]) Kp fun x32 =>
   opN Tryz.prog (sBin .sub 3 x32 (.int .i64 1)) Kp fun x33 =>
   opN Tryz.prog (sSl 9 x11 (some (.int .i64 1)) (some x33) none) Kp fun x34 =>
   opN Tryz.prog (sConv 9 57 x34) Kp fun x36 =>
   opN Tryz.prog (sLen #[57] 3 [x36]) Kp fun x37 =>
   loop1 (fun I1 m1 _ y38 =>
    opN Tryz.prog (sBin .lss 3 y38 x37) Kp fun x39 =>
    condS x39
    (opN Tryz.prog (sIA 57 x36 y38) Kp fun x40 =>
     opN Tryz.prog (sLoad 5 x40) Kp fun x41 =>
     opN Tryz.prog (sBin .leq 5 x41 (.int .u8 32)) Kp fun x43 =>
     gdK x43 false (fun k => k x41) fun x45 =>
     gdK x43 false (opN Tryz.prog (sEq .eql 5 (.tmp 45) (.const (.int .u8 34)) x45 (.int .u8 34)) Kp) fun x46 =>
     opN Tryz.prog (sPick x43 (.bool true) x46) Kp fun x47 =>
     gdK x47 false (fun k => k x41) fun x49 =>
     gdK x47 false (opN Tryz.prog (sEq .eql 5 (.tmp 49) (.const (.int .u8 127)) x49 (.int .u8 127)) Kp) fun x50 =>
     opN Tryz.prog (sPick x47 (.bool true) x50) Kp fun x51 =>
     condS x51
     (opN Tryz.prog (sBuild 38 []) Kp fun x52 =>
      opN Tryz.prog (sStore 38 x2 x52) Kp fun _ =>
      (stS Tryz.prog (sRes 38 x2) fun r0 => K (.tuple #[r0, (.bool false)])))
     (opN Tryz.prog (sBin .add 3 y38 (.int .i64 1)) Kp fun x53 =>
      next1 I1 m1 x53))
    (opN Tryz.prog (sBuild 38 [(0, x12), (1, x34)]) Kp fun x56 =>
     opN Tryz.prog (sStore 38 x2 x56) Kp fun _ =>
     (stS Tryz.prog (sRes 38 x2) fun r0 => K (.tuple #[r0, (.bool true)])))) (.int .i64 0))
def fields_tag_an : Ann := { cuts := [], blks := [], loops := [(6, [38])], drs := [] }
theorem fields_tag_eq (v0 : Value) (Kp : PK) (K : Value → WP) : cevF Tryz.prog fields_tag_an Tryz.f28 [v0] Kp K = fields_tag v0 Kp K := by kernel_rfl
theorem fields_tag_calls {v0 : Value} {Kp : PK} {K : Value → WP} {w : World} (h : fields_tag v0 Kp K w) : Calls Tryz.prog 28 #[v0] w (after Kp K) :=
  calls_of_shape (calls_of_cev wide Tryz.func28 (an := fields_tag_an) (args := [v0]) (cast (congrFun (fields_tag_eq v0 Kp K) w).symm h))
theorem fields_tag_cn {v0 : Value} {W : World} {α : Type} {A : List HP} {r : α → Value} {B : α → List HP} (h : ∀ F, Ent W (A ++ F) (fields_tag v0 noP fun v w => ∃ x, v = r x ∧ sat W (B x ++ F) w)) : Cn Tryz.prog 28 [v0] W A r B :=
  Cn.of (shape := fields_tag v0) Tryz.call28 (fun h => fields_tag_calls h) h
theorem fields_tag_cnP {v0 : Value} {W : World} {α β : Type} {A : List HP} {r : α → Value} {B : α → List HP} {pc : β → List PanicEntry} {Bp : β → List HP} (h : ∀ F, Ent W (A ++ F) (fields_tag v0 (fun ch w => ∃ y, ch = pc y ∧ sat W (Bp y ++ F) w) fun v w => ∃ x, v = r x ∧ sat W (B x ++ F) w)) : CnP Tryz.prog 28 [v0] W A r B pc Bp :=
  CnP.of (shape := fields_tag v0) Tryz.call28 (fun h => fields_tag_calls h) h

/-- ascii_all -/
def ascii_all (v0 v1 : Value) (Kp : PK) (K : Value → WP) : WP :=
  opN Tryz.prog (sCall (fn 30) []) Kp fun x7 =>
  opN Tryz.prog (sAlloc 75) Kp fun x5 =>
  opN Tryz.prog (sStore 75 x5 x7) Kp fun _ =>
  opN Tryz.prog (sLen #[9] 3 [v0]) Kp fun x9 =>
  loop1 (fun I1 m1 _ y10 =>
   opN Tryz.prog (sBin .lss 3 y10 x9) Kp fun x11 =>
   condS x11
   (opN Tryz.prog (sIx 9 v0 y10) Kp fun x15 =>
    opN Tryz.prog (sIA 75 x5 x15) Kp fun x16 =>
    opN Tryz.prog (sLoad 3 x16) Kp fun x17 =>
    opN Tryz.prog (sBin .and 3 x17 v1) Kp fun x19 =>
    opN Tryz.prog (sEq .eql 3 (.tmp 19) (.const (.int .i64 0)) x19 (.int .i64 0)) Kp fun x20 =>
    condS x20
    (K (.bool false))
    (opN Tryz.prog (sBin .add 3 y10 (.int .i64 1)) Kp fun x21 =>
     next1 I1 m1 x21))
   (K (.bool true))) (.int .i64 0)
def ascii_all_an : Ann := { cuts := [], blks := [], loops := [(3, [10])], drs := [] }
theorem ascii_all_eq (v0 v1 : Value) (Kp : PK) (K : Value → WP) : cevF Tryz.prog ascii_all_an Tryz.f29 [v0, v1] Kp K = ascii_all v0 v1 Kp K := by kernel_rfl
theorem ascii_all_calls {v0 v1 : Value} {Kp : PK} {K : Value → WP} {w : World} (h : ascii_all v0 v1 Kp K w) : Calls Tryz.prog 29 #[v0, v1] w (after Kp K) :=
  calls_of_shape (calls_of_cev wide Tryz.func29 (an := ascii_all_an) (args := [v0, v1]) (cast (congrFun (ascii_all_eq v0 v1 Kp K) w).symm h))
theorem ascii_all_cn {v0 v1 : Value} {W : World} {α : Type} {A : List HP} {r : α → Value} {B : α → List HP} (h : ∀ F, Ent W (A ++ F) (ascii_all v0 v1 noP fun v w => ∃ x, v = r x ∧ sat W (B x ++ F) w)) : Cn Tryz.prog 29 [v0, v1] W A r B :=
  Cn.of (shape := ascii_all v0 v1) Tryz.call29 (fun h => ascii_all_calls h) h
theorem ascii_all_cnP {v0 v1 : Value} {W : World} {α β : Type} {A : List HP} {r : α → Value} {B : α → List HP} {pc : β → List PanicEntry} {Bp : β → List HP} (h : ∀ F, Ent W (A ++ F) (ascii_all v0 v1 (fun ch w => ∃ y, ch = pc y ∧ sat W (Bp y ++ F) w) fun v w => ∃ x, v = r x ∧ sat W (B x ++ F) w)) : CnP Tryz.prog 29 [v0, v1] W A r B pc Bp :=
  CnP.of (shape := ascii_all v0 v1) Tryz.call29 (fun h => ascii_all_calls h) h

/-- ascii_classes -/
def ascii_classes (Kp : PK) (K : Value → WP) : WP :=
  opN Tryz.prog (sAlloc 75) Kp fun x0 =>
  opN Tryz.prog (sAlloc 75) Kp fun x1 =>
  loop1 (fun I1 m1 _ y4 =>
   opN Tryz.prog (sBin .lss 3 y4 (.int .i64 256)) Kp fun x5 =>
   condS x5
   (opN Tryz.prog (sBin .geq 3 y4 (.int .i64 97)) Kp fun x8 =>
    gdK x8 true (fun k => k y4) fun x10 =>
    gdK x8 true (opN Tryz.prog (sBin .leq 3 x10 (.int .i64 122)) Kp) fun x11 =>
    opN Tryz.prog (sPick x8 x11 (.bool false)) Kp fun x12 =>
    gdK x12 false (fun k => k y4) fun x14 =>
    gdK x12 false (opN Tryz.prog (sBin .geq 3 x14 (.int .i64 65)) Kp) fun x15 =>
    gdK x12 false (fun k => k x15) fun x16 =>
    gdK x16 true (fun k => k y4) fun x17 =>
    gdK x16 true (opN Tryz.prog (sBin .leq 3 x17 (.int .i64 90)) Kp) fun x18 =>
    gdK x12 false (opN Tryz.prog (sPick x16 x18 (.bool false)) Kp) fun x19 =>
    opN Tryz.prog (sPick x12 (.bool true) x19) Kp fun x20 =>
    gdK x20 false (fun k => k y4) fun x22 =>
    gdK x20 false (opN Tryz.prog (sBin .geq 3 x22 (.int .i64 48)) Kp) fun x23 =>
    gdK x20 false (fun k => k x23) fun x24 =>
    gdK x24 true (fun k => k y4) fun x25 =>
    gdK x24 true (opN Tryz.prog (sBin .leq 3 x25 (.int .i64 57)) Kp) fun x26 =>
    gdK x20 false (opN Tryz.prog (sPick x24 x26 (.bool false)) Kp) fun x27 =>
    opN Tryz.prog (sPick x20 (.bool true) x27) Kp fun x28 =>
    cut0 (fun J1 =>
     gdK x28 false (fun k => k y4) fun x31 =>
     gdK x28 false (opN Tryz.prog (sBin .gtr 3 x31 (.int .i64 32)) Kp) fun x32 =>
     gdK x28 false (fun k => k x32) fun x33 =>
     gdK x33 true (fun k => k y4) fun x34 =>
     gdK x33 true (opN Tryz.prog (sBin .lss 3 x34 (.int .i64 127)) Kp) fun x35 =>
     gdK x28 false (opN Tryz.prog (sPick x33 x35 (.bool false)) Kp) fun x36 =>
     gdK x28 false (fun k => k x36) fun x37 =>
     gdK x37 true (fun k => k y4) fun x38 =>
     gdK x37 true (opN Tryz.prog (sConv 3 5 x38) Kp) fun x39 =>
     gdK x37 true (opN Tryz.prog (sCall (fn 48) [(.string ⟨#[33, 35, 36, 37, 38, 39, 42, 43, 45, 46, 94, 95, 96, 124, 126]⟩), x39]) Kp) fun x40 =>
     gdK x37 true (opN Tryz.prog (sBin .geq 3 x40 (.int .i64 0)) Kp) fun x41 =>
     gdK x28 false (opN Tryz.prog (sPick x37 x41 (.bool false)) Kp) fun x42 =>
     opN Tryz.prog (sPick x28 (.bool true) x42) Kp fun x43 =>
     condS x43
     (opN Tryz.prog (sIA 75 x1 y4) Kp fun x45 =>
      opN Tryz.prog (sLoad 3 x45) Kp fun x46 =>
      opN Tryz.prog (sBin .or 3 x46 (.int .i64 1)) Kp fun x47 =>
      opN Tryz.prog (sIA 75 x1 y4) Kp fun x48 =>
      opN Tryz.prog (sStore 3 x48 x47) Kp fun _ =>
      J1)
     (J1)) fun _ =>
    cut0 (fun J2 =>
     opN Tryz.prog (sEq .eql 3 (.tmp 49) (.const (.int .i64 9)) y4 (.int .i64 9)) Kp fun x50 =>
     gdK x50 false (fun k => k y4) fun x52 =>
     gdK x50 false (opN Tryz.prog (sBin .geq 3 x52 (.int .i64 32)) Kp) fun x53 =>
     gdK x50 false (fun k => k x53) fun x54 =>
     gdK x54 true (fun k => k y4) fun x55 =>
     gdK x54 true (opN Tryz.prog (sEq .neq 3 (.tmp 55) (.const (.int .i64 127)) x55 (.int .i64 127)) Kp) fun x56 =>
     gdK x50 false (opN Tryz.prog (sPick x54 x56 (.bool false)) Kp) fun x57 =>
     opN Tryz.prog (sPick x50 (.bool true) x57) Kp fun x58 =>
     condS x58
     (opN Tryz.prog (sIA 75 x1 y4) Kp fun x60 =>
      opN Tryz.prog (sLoad 3 x60) Kp fun x61 =>
      opN Tryz.prog (sBin .or 3 x61 (.int .i64 2)) Kp fun x62 =>
      opN Tryz.prog (sIA 75 x1 y4) Kp fun x63 =>
      opN Tryz.prog (sStore 3 x63 x62) Kp fun _ =>
      J2)
     (J2)) fun _ =>
    opN Tryz.prog (sBin .geq 3 y4 (.int .i64 65)) Kp fun x65 =>
    gdK x65 true (fun k => k y4) fun x67 =>
    gdK x65 true (opN Tryz.prog (sBin .leq 3 x67 (.int .i64 90)) Kp) fun x68 =>
    opN Tryz.prog (sPick x65 x68 (.bool false)) Kp fun x69 =>
    condS x69
    (opN Tryz.prog (sIA 75 x1 y4) Kp fun x71 =>
     opN Tryz.prog (sLoad 3 x71) Kp fun x72 =>
     opN Tryz.prog (sBin .or 3 x72 (.int .i64 4)) Kp fun x73 =>
     opN Tryz.prog (sIA 75 x1 y4) Kp fun x74 =>
     opN Tryz.prog (sStore 3 x74 x73) Kp fun _ =>
     opN Tryz.prog (sBin .add 3 y4 (.int .i64 1)) Kp fun x75 =>
     next1 I1 m1 x75)
    (opN Tryz.prog (sBin .add 3 y4 (.int .i64 1)) Kp fun x75 =>
     next1 I1 m1 x75))
   (opN Tryz.prog (sLoad 75 x1) Kp fun x76 =>
    opN Tryz.prog (sStore 75 x0 x76) Kp fun _ =>
    (stS Tryz.prog (sRes 75 x0) fun r0 => K r0))) (.int .i64 0)
def ascii_classes_an : Ann := { cuts := [(8, []), (10, [])], blks := [], loops := [(3, [4])], drs := [] }
theorem ascii_classes_eq (Kp : PK) (K : Value → WP) : cevF Tryz.prog ascii_classes_an Tryz.f30 [] Kp K = ascii_classes Kp K := by kernel_rfl
theorem ascii_classes_calls  {Kp : PK} {K : Value → WP} {w : World} (h : ascii_classes Kp K w) : Calls Tryz.prog 30 #[] w (after Kp K) :=
  calls_of_shape (calls_of_cev wide Tryz.func30 (an := ascii_classes_an) (args := []) (cast (congrFun (ascii_classes_eq Kp K) w).symm h))
theorem ascii_classes_cn  {W : World} {α : Type} {A : List HP} {r : α → Value} {B : α → List HP} (h : ∀ F, Ent W (A ++ F) (ascii_classes noP fun v w => ∃ x, v = r x ∧ sat W (B x ++ F) w)) : Cn Tryz.prog 30 [] W A r B :=
  Cn.of (shape := ascii_classes) Tryz.call30 (fun h => ascii_classes_calls h) h
theorem ascii_classes_cnP  {W : World} {α β : Type} {A : List HP} {r : α → Value} {B : α → List HP} {pc : β → List PanicEntry} {Bp : β → List HP} (h : ∀ F, Ent W (A ++ F) (ascii_classes (fun ch w => ∃ y, ch = pc y ∧ sat W (Bp y ++ F) w) fun v w => ∃ x, v = r x ∧ sat W (B x ++ F) w)) : CnP Tryz.prog 30 [] W A r B pc Bp :=
  CnP.of (shape := ascii_classes) Tryz.call30 (fun h => ascii_classes_calls h) h

/-- fields_kind_fields_Directive_elements -/
def fields_kind_fields_Directive_elements (v0 v1 : Value) (Kp : PK) (K : Value → WP) : WP :=
  opN Tryz.prog (sBox 49 v0) Kp fun x2 =>
  opN Tryz.prog (sBox 9 v1) Kp fun x3 =>
  opN Tryz.prog (sMkF (.func 49) [] [x3, x2]) Kp fun x5 =>
  K x5
def fields_kind_fields_Directive_elements_an : Ann := { cuts := [], blks := [], loops := [], drs := [] }
theorem fields_kind_fields_Directive_elements_eq (v0 v1 : Value) (Kp : PK) (K : Value → WP) : cevF Tryz.prog fields_kind_fields_Directive_elements_an Tryz.f31 [v0, v1] Kp K = fields_kind_fields_Directive_elements v0 v1 Kp K := by kernel_rfl
theorem fields_kind_fields_Directive_elements_calls {v0 v1 : Value} {Kp : PK} {K : Value → WP} {w : World} (h : fields_kind_fields_Directive_elements v0 v1 Kp K w) : Calls Tryz.prog 31 #[v0, v1] w (after Kp K) :=
  calls_of_shape (calls_of_cev wide Tryz.func31 (an := fields_kind_fields_Directive_elements_an) (args := [v0, v1]) (cast (congrFun (fields_kind_fields_Directive_elements_eq v0 v1 Kp K) w).symm h))
theorem fields_kind_fields_Directive_elements_cn {v0 v1 : Value} {W : World} {α : Type} {A : List HP} {r : α → Value} {B : α → List HP} (h : ∀ F, Ent W (A ++ F) (fields_kind_fields_Directive_elements v0 v1 noP fun v w => ∃ x, v = r x ∧ sat W (B x ++ F) w)) : Cn Tryz.prog 31 [v0, v1] W A r B :=
  Cn.of (shape := fields_kind_fields_Directive_elements v0 v1) Tryz.call31 (fun h => fields_kind_fields_Directive_elements_calls h) h
theorem fields_kind_fields_Directive_elements_cnP {v0 v1 : Value} {W : World} {α β : Type} {A : List HP} {r : α → Value} {B : α → List HP} {pc : β → List PanicEntry} {Bp : β → List HP} (h : ∀ F, Ent W (A ++ F) (fields_kind_fields_Directive_elements v0 v1 (fun ch w => ∃ y, ch = pc y ∧ sat W (Bp y ++ F) w) fun v w => ∃ x, v = r x ∧ sat W (B x ++ F) w)) : CnP Tryz.prog 31 [v0, v1] W A r B pc Bp :=
  CnP.of (shape := fields_kind_fields_Directive_elements v0 v1) Tryz.call31 (fun h => fields_kind_fields_Directive_elements_calls h) h

/-- strings_Cut -/
def strings_Cut (v0 v1 : Value) (Kp : PK) (K : Value → WP) : WP :=
  opN Tryz.prog (sCall (fn 51) [v0, v1]) Kp fun x9 =>
  opN Tryz.prog (sExt x9 0) Kp fun x10 =>
  opN Tryz.prog (sExt x9 1) Kp fun x11 =>
  opN Tryz.prog (sExt x9 2) Kp fun x12 =>
  K (.tuple #[x10, x11, x12])
def strings_Cut_an : Ann := { cuts := [], blks := [], loops := [], drs := [] }
theorem strings_Cut_eq (v0 v1 : Value) (Kp : PK) (K : Value → WP) : cevF Tryz.prog strings_Cut_an Tryz.f32 [v0, v1] Kp K = strings_Cut v0 v1 Kp K := by kernel_rfl
theorem strings_Cut_calls {v0 v1 : Value} {Kp : PK} {K : Value → WP} {w : World} (h : strings_Cut v0 v1 Kp K w) : Calls Tryz.prog 32 #[v0, v1] w (after Kp K) :=
  calls_of_shape (calls_of_cev wide Tryz.func32 (an := strings_Cut_an) (args := [v0, v1]) (cast (congrFun (strings_Cut_eq v0 v1 Kp K) w).symm h))
theorem strings_Cut_cn {v0 v1 : Value} {W : World} {α : Type} {A : List HP} {r : α → Value} {B : α → List HP} (h : ∀ F, Ent W (A ++ F) (strings_Cut v0 v1 noP fun v w => ∃ x, v = r x ∧ sat W (B x ++ F) w)) : Cn Tryz.prog 32 [v0, v1] W A r B :=
  Cn.of (shape := strings_Cut v0 v1) Tryz.call32 (fun h => strings_Cut_calls h) h
theorem strings_Cut_cnP {v0 v1 : Value} {W : World} {α β : Type} {A : List HP} {r : α → Value} {B : α → List HP} {pc : β → List PanicEntry} {Bp : β → List HP} (h : ∀ F, Ent W (A ++ F) (strings_Cut v0 v1 (fun ch w => ∃ y, ch = pc y ∧ sat W (Bp y ++ F) w) fun v w => ∃ x, v = r x ∧ sat W (B x ++ F) w)) : CnP Tryz.prog 32 [v0, v1] W A r B pc Bp :=
  CnP.of (shape := strings_Cut v0 v1) Tryz.call32 (fun h => strings_Cut_calls h) h

/-- fields_unquote -/
def fields_unquote (v0 : Value) (Kp : PK) (K : Value → WP) : WP :=
  opN Tryz.prog (sLen #[9] 3 [v0]) Kp fun x8 =>
  opN Tryz.prog (sBin .lss 3 x8 (.int .i64 2)) Kp fun x9 =>
  gdK x9 false (fun k => k v0) fun x11 =>
  gdK x9 false (opN Tryz.prog (sIx 9 x11 (.int .i64 0)) Kp) fun x12 =>
  gdK x9 false (opN Tryz.prog (sEq .neq 5 (.tmp 12) (.const (.int .u8 34)) x12 (.int .u8 34)) Kp) fun x13 =>
  opN Tryz.prog (sPick x9 (.bool true) x13) Kp fun x14 =>
  condS x14
  (K (.tuple #[(.string ⟨#[]⟩), (.bool false)]))
  (loop2 (fun I1 m1 _ y4 y5 =>
    opN Tryz.prog (sLen #[9] 3 [v0]) Kp fun x17 =>
    opN Tryz.prog (sBin .lss 3 y5 x17) Kp fun x18 =>
    condS x18
    (opN Tryz.prog (sIx 9 v0 y5) Kp fun x23 =>
     cut2 (fun J1 =>
      opN Tryz.prog (sEq .eql 5 (.tmp 25) (.const (.int .u8 34)) x23 (.int .u8 34)) Kp fun x26 =>
      condS x26
      (opN Tryz.prog (sConv 57 9 y4) Kp fun x28 =>
       opN Tryz.prog (sBin .add 3 y5 (.int .i64 1)) Kp fun x30 =>
       opN Tryz.prog (sLen #[9] 3 [v0]) Kp fun x32 =>
       opN Tryz.prog (sEq .eql 3 (.tmp 30) (.tmp 32) x30 x32) Kp fun x33 =>
       K (.tuple #[x28, x33]))
      (opN Tryz.prog (sEq .eql 5 (.tmp 35) (.const (.int .u8 92)) x23 (.int .u8 92)) Kp fun x36 =>
       condS x36
       (opN Tryz.prog (sBin .add 3 y5 (.int .i64 1)) Kp fun x38 =>
        opN Tryz.prog (sLen #[9] 3 [v0]) Kp fun x41 =>
        opN Tryz.prog (sEq .eql 3 (.tmp 39) (.tmp 41) x38 x41) Kp fun x42 =>
        condS x42
        (K (.tuple #[(.string ⟨#[]⟩), (.bool false)]))
        (opN Tryz.prog (sIx 9 v0 x38) Kp fun x45 =>
         J1 x38 x45))
       (J1 y5 x23))) fun _ z5 z6 =>
     opN Tryz.prog (sBin .lss 5 z6 (.int .u8 32)) Kp fun x47 =>
     gdK x47 true (fun k => k z6) fun x49 =>
     gdK x47 true (opN Tryz.prog (sEq .neq 5 (.tmp 49) (.const (.int .u8 9)) x49 (.int .u8 9)) Kp) fun x50 =>
     opN Tryz.prog (sPick x47 x50 (.bool false)) Kp fun x51 =>
     gdK x51 false (fun k => k z6) fun x53 =>
     gdK x51 false (opN Tryz.prog (sEq .eql 5 (.tmp 53) (.const (.int .u8 127)) x53 (.int .u8 127)) Kp) fun x54 =>
     opN Tryz.prog (sPick x51 (.bool true) x54) Kp fun x55 =>
     condS x55
     (K (.tuple #[(.string ⟨#[]⟩), (.bool false)]))
     (opN Tryz.prog (sBuildSl 57 1 [(0, z6)]) Kp fun x58 =>
      opN Tryz.prog (sApp #[57, 57] 57 [y4, x58]) Kp fun x59 =>
      opN Tryz.prog (sBin .add 3 z5 (.int .i64 1)) Kp fun x20 =>
      next2 I1 m1 x59 x20))
    (K (.tuple #[(.string ⟨#[]⟩), (.bool false)]))) (.slice none 0 0) (.int .i64 1))
def fields_unquote_an : Ann := { cuts := [(15, [5, 6])], blks := [], loops := [(5, [4, 5])], drs := [] }
theorem fields_unquote_eq (v0 : Value) (Kp : PK) (K : Value → WP) : cevF Tryz.prog fields_unquote_an Tryz.f33 [v0] Kp K = fields_unquote v0 Kp K := by kernel_rfl
theorem fields_unquote_calls {v0 : Value} {Kp : PK} {K : Value → WP} {w : World} (h : fields_unquote v0 Kp K w) : Calls Tryz.prog 33 #[v0] w (after Kp K) :=
  calls_of_shape (calls_of_cev wide Tryz.func33 (an := fields_unquote_an) (args := [v0]) (cast (congrFun (fields_unquote_eq v0 Kp K) w).symm h))
theorem fields_unquote_cn {v0 : Value} {W : World} {α : Type} {A : List HP} {r : α → Value} {B : α → List HP} (h : ∀ F, Ent W (A ++ F) (fields_unquote v0 noP fun v w => ∃ x, v = r x ∧ sat W (B x ++ F) w)) : Cn Tryz.prog 33 [v0] W A r B :=
  Cn.of (shape := fields_unquote v0) Tryz.call33 (fun h => fields_unquote_calls h) h
theorem fields_unquote_cnP {v0 : Value} {W : World} {α β : Type} {A : List HP} {r : α → Value} {B : α → List HP} {pc : β → List PanicEntry} {Bp : β → List HP} (h : ∀ F, Ent W (A ++ F) (fields_unquote v0 (fun ch w => ∃ y, ch = pc y ∧ sat W (Bp y ++ F) w) fun v w => ∃ x, v = r x ∧ sat W (B x ++ F) w)) : CnP Tryz.prog 33 [v0] W A r B pc Bp :=
  CnP.of (shape := fields_unquote v0) Tryz.call33 (fun h => fields_unquote_calls h) h

/-- ref01_Trim -/
def ref01_Trim (v0 : Value) (Kp : PK) (K : Value → WP) : WP :=
  loop1 (fun I1 m1 _ y0 =>
   opN Tryz.prog (sLen #[9] 3 [y0]) Kp fun x4 =>
   opN Tryz.prog (sBin .gtr 3 x4 (.int .i64 0)) Kp fun x5 =>
   gdK x5 true (fun k => k y0) fun x7 =>
   gdK x5 true (opN Tryz.prog (sIx 9 x7 (.int .i64 0)) Kp) fun x8 =>
   gdK x5 true (opN Tryz.prog (sCall (fn 52) [x8]) Kp) fun x9 =>
   opN Tryz.prog (sPick x5 x9 (.bool false)) Kp fun x10 =>
   condS x10
   (opN Tryz.prog (sSl 9 y0 (some (.int .i64 1)) none none) Kp fun x12 =>
    next1 I1 m1 x12)
   (loop1 (fun I2 m2 _ y0_2 =>
     opN Tryz.prog (sLen #[9] 3 [y0_2]) Kp fun x14 =>
     opN Tryz.prog (sBin .gtr 3 x14 (.int .i64 0)) Kp fun x15 =>
     gdK x15 true (fun k => k y0_2) fun x17 =>
     gdK x15 true (fun k => k y0_2) fun x18 =>
     gdK x15 true (opN Tryz.prog (sLen #[9] 3 [x18]) Kp) fun x19 =>
     gdK x15 true (opN Tryz.prog (sBin .sub 3 x19 (.int .i64 1)) Kp) fun x20 =>
     gdK x15 true (opN Tryz.prog (sIx 9 x17 x20) Kp) fun x21 =>
     gdK x15 true (opN Tryz.prog (sCall (fn 52) [x21]) Kp) fun x22 =>
     opN Tryz.prog (sPick x15 x22 (.bool false)) Kp fun x23 =>
     condS x23
     (opN Tryz.prog (sLen #[9] 3 [y0_2]) Kp fun x26 =>
      opN Tryz.prog (sBin .sub 3 x26 (.int .i64 1)) Kp fun x27 =>
      opN Tryz.prog (sSl 9 y0_2 none (some x27) none) Kp fun x28 =>
      next1 I2 m2 x28)
     (K y0_2)) y0)) v0
def ref01_Trim_an : Ann := { cuts := [], blks := [], loops := [(1, [0]), (3, [0])], drs := [] }
theorem ref01_Trim_eq (v0 : Value) (Kp : PK) (K : Value → WP) : cevF Tryz.prog ref01_Trim_an Tryz.f34 [v0] Kp K = ref01_Trim v0 Kp K := by kernel_rfl
theorem ref01_Trim_calls {v0 : Value} {Kp : PK} {K : Value → WP} {w : World} (h : ref01_Trim v0 Kp K w) : Calls Tryz.prog 34 #[v0] w (after Kp K) :=
  calls_of_shape (calls_of_cev wide Tryz.func34 (an := ref01_Trim_an) (args := [v0]) (cast (congrFun (ref01_Trim_eq v0 Kp K) w).symm h))
theorem ref01_Trim_cn {v0 : Value} {W : World} {α : Type} {A : List HP} {r : α → Value} {B : α → List HP} (h : ∀ F, Ent W (A ++ F) (ref01_Trim v0 noP fun v w => ∃ x, v = r x ∧ sat W (B x ++ F) w)) : Cn Tryz.prog 34 [v0] W A r B :=
  Cn.of (shape := ref01_Trim v0) Tryz.call34 (fun h => ref01_Trim_calls h) h
theorem ref01_Trim_cnP {v0 : Value} {W : World} {α β : Type} {A : List HP} {r : α → Value} {B : α → List HP} {pc : β → List PanicEntry} {Bp : β → List HP} (h : ∀ F, Ent W (A ++ F) (ref01_Trim v0 (fun ch w => ∃ y, ch = pc y ∧ sat W (Bp y ++ F) w) fun v w => ∃ x, v = r x ∧ sat W (B x ++ F) w)) : CnP Tryz.prog 34 [v0] W A r B pc Bp :=
  CnP.of (shape := ref01_Trim v0) Tryz.call34 (fun h => ref01_Trim_calls h) h

/-- ref01_Lower -/
def ref01_Lower (v0 : Value) (Kp : PK) (K : Value → WP) : WP :=
  opN Tryz.prog (sConv 9 57 v0) Kp fun x6 =>
  loop1 (fun I1 m1 _ y4 =>
   opN Tryz.prog (sLen #[57] 3 [x6]) Kp fun x9 =>
   opN Tryz.prog (sBin .lss 3 y4 x9) Kp fun x10 =>
   condS x10
   (opN Tryz.prog (sIA 57 x6 y4) Kp fun x15 =>
    opN Tryz.prog (sLoad 5 x15) Kp fun x16 =>
    opN Tryz.prog (sBin .geq 5 x16 (.int .u8 65)) Kp fun x17 =>
    gdK x17 true (fun k => k x6) fun x19 =>
    gdK x17 true (fun k => k y4) fun x20 =>
    gdK x17 true (opN Tryz.prog (sIA 57 x19 x20) Kp) fun x21 =>
    gdK x17 true (opN Tryz.prog (sLoad 5 x21) Kp) fun x22 =>
    gdK x17 true (opN Tryz.prog (sBin .leq 5 x22 (.int .u8 90)) Kp) fun x23 =>
    opN Tryz.prog (sPick x17 x23 (.bool false)) Kp fun x24 =>
    condS x24
    (opN Tryz.prog (sIA 57 x6 y4) Kp fun x29 =>
     opN Tryz.prog (sLoad 5 x29) Kp fun x30 =>
     opN Tryz.prog (sBin .add 5 x30 (.int .u8 32)) Kp fun x31 =>
     opN Tryz.prog (sIA 57 x6 y4) Kp fun x32 =>
     opN Tryz.prog (sStore 5 x32 x31) Kp fun _ =>
     opN Tryz.prog (sBin .add 3 y4 (.int .i64 1)) Kp fun x12 =>
     next1 I1 m1 x12)
    (opN Tryz.prog (sBin .add 3 y4 (.int .i64 1)) Kp fun x12 =>
     next1 I1 m1 x12))
   (opN Tryz.prog (sConv 57 9 x6) Kp fun x34 =>
    K x34)) (.int .i64 0)
def ref01_Lower_an : Ann := { cuts := [], blks := [], loops := [(3, [4])], drs := [] }
theorem ref01_Lower_eq (v0 : Value) (Kp : PK) (K : Value → WP) : cevF Tryz.prog ref01_Lower_an Tryz.f35 [v0] Kp K = ref01_Lower v0 Kp K := by kernel_rfl
theorem ref01_Lower_calls {v0 : Value} {Kp : PK} {K : Value → WP} {w : World} (h : ref01_Lower v0 Kp K w) : Calls Tryz.prog 35 #[v0] w (after Kp K) :=
  calls_of_shape (calls_of_cev wide Tryz.func35 (an := ref01_Lower_an) (args := [v0]) (cast (congrFun (ref01_Lower_eq v0 Kp K) w).symm h))
theorem ref01_Lower_cn {v0 : Value} {W : World} {α : Type} {A : List HP} {r : α → Value} {B : α → List HP} (h : ∀ F, Ent W (A ++ F) (ref01_Lower v0 noP fun v w => ∃ x, v = r x ∧ sat W (B x ++ F) w)) : Cn Tryz.prog 35 [v0] W A r B :=
  Cn.of (shape := ref01_Lower v0) Tryz.call35 (fun h => ref01_Lower_calls h) h
theorem ref01_Lower_cnP {v0 : Value} {W : World} {α β : Type} {A : List HP} {r : α → Value} {B : α → List HP} {pc : β → List PanicEntry} {Bp : β → List HP} (h : ∀ F, Ent W (A ++ F) (ref01_Lower v0 (fun ch w => ∃ y, ch = pc y ∧ sat W (Bp y ++ F) w) fun v w => ∃ x, v = r x ∧ sat W (B x ++ F) w)) : CnP Tryz.prog 35 [v0] W A r B pc Bp :=
  CnP.of (shape := ref01_Lower v0) Tryz.call35 (fun h => ref01_Lower_calls h) h

/-- ref01_Token -/
def ref01_Token (v0 : Value) (Kp : PK) (K : Value → WP) : WP :=
  loop1 (fun I1 m1 _ y3 =>
   opN Tryz.prog (sLen #[9] 3 [v0]) Kp fun x6 =>
   opN Tryz.prog (sBin .lss 3 y3 x6) Kp fun x7 =>
   condS x7
   (opN Tryz.prog (sIx 9 v0 y3) Kp fun x12 =>
    cut1 (fun J1 =>
     opN Tryz.prog (sEq .eql 5 (.tmp 12) (.const (.int .u8 33)) x12 (.int .u8 33)) Kp fun x19 =>
     condS x19
     (J1 x19)
     (opN Tryz.prog (sEq .eql 5 (.tmp 12) (.const (.int .u8 35)) x12 (.int .u8 35)) Kp fun x20 =>
      condS x20
      (J1 x20)
      (opN Tryz.prog (sEq .eql 5 (.tmp 12) (.const (.int .u8 36)) x12 (.int .u8 36)) Kp fun x21 =>
       condS x21
       (J1 x21)
       (opN Tryz.prog (sEq .eql 5 (.tmp 12) (.const (.int .u8 37)) x12 (.int .u8 37)) Kp fun x22 =>
        condS x22
        (J1 x22)
        (opN Tryz.prog (sEq .eql 5 (.tmp 12) (.const (.int .u8 38)) x12 (.int .u8 38)) Kp fun x23 =>
         condS x23
         (J1 x23)
         (opN Tryz.prog (sEq .eql 5 (.tmp 12) (.const (.int .u8 39)) x12 (.int .u8 39)) Kp fun x24 =>
          condS x24
          (J1 x24)
          (opN Tryz.prog (sEq .eql 5 (.tmp 12) (.const (.int .u8 42)) x12 (.int .u8 42)) Kp fun x25 =>
           condS x25
           (J1 x25)
           (opN Tryz.prog (sEq .eql 5 (.tmp 12) (.const (.int .u8 43)) x12 (.int .u8 43)) Kp fun x26 =>
            condS x26
            (J1 x26)
            (opN Tryz.prog (sEq .eql 5 (.tmp 12) (.const (.int .u8 45)) x12 (.int .u8 45)) Kp fun x27 =>
             condS x27
             (J1 x27)
             (opN Tryz.prog (sEq .eql 5 (.tmp 12) (.const (.int .u8 46)) x12 (.int .u8 46)) Kp fun x28 =>
              condS x28
              (J1 x28)
              (opN Tryz.prog (sEq .eql 5 (.tmp 12) (.const (.int .u8 94)) x12 (.int .u8 94)) Kp fun x29 =>
               condS x29
               (J1 x29)
               (opN Tryz.prog (sEq .eql 5 (.tmp 12) (.const (.int .u8 95)) x12 (.int .u8 95)) Kp fun x30 =>
                condS x30
                (J1 x30)
                (opN Tryz.prog (sEq .eql 5 (.tmp 12) (.const (.int .u8 96)) x12 (.int .u8 96)) Kp fun x31 =>
                 condS x31
                 (J1 x31)
                 (opN Tryz.prog (sEq .eql 5 (.tmp 12) (.const (.int .u8 124)) x12 (.int .u8 124)) Kp fun x32 =>
                  condS x32
                  (J1 x32)
                  (opN Tryz.prog (sEq .eql 5 (.tmp 12) (.const (.int .u8 126)) x12 (.int .u8 126)) Kp fun x33 =>
                   J1 x33))))))))))))))) fun _ z18 =>
    condS z18
    (opN Tryz.prog (sBin .add 3 y3 (.int .i64 1)) Kp fun x9 =>
     next1 I1 m1 x9)
    (opN Tryz.prog (sIx 9 v0 y3) Kp fun x15 =>
     opN Tryz.prog (sCall (fn 53) [x15]) Kp fun x16 =>
     opN Tryz.prog (sUn .not x16) Kp fun x17 =>
     condS x17
     (K (.bool false))
     (opN Tryz.prog (sBin .add 3 y3 (.int .i64 1)) Kp fun x9 =>
      next1 I1 m1 x9)))
   (opN Tryz.prog (sLen #[9] 3 [v0]) Kp fun x35 =>
    opN Tryz.prog (sBin .gtr 3 x35 (.int .i64 0)) Kp fun x36 =>
    K x36)) (.int .i64 0)
def ref01_Token_an : Ann := { cuts := [(5, [18])], blks := [], loops := [(2, [3])], drs := [] }
theorem ref01_Token_eq (v0 : Value) (Kp : PK) (K : Value → WP) : cevF Tryz.prog ref01_Token_an Tryz.f36 [v0] Kp K = ref01_Token v0 Kp K := by kernel_rfl
theorem ref01_Token_calls {v0 : Value} {Kp : PK} {K : Value → WP} {w : World} (h : ref01_Token v0 Kp K w) : Calls Tryz.prog 36 #[v0] w (after Kp K) :=
  calls_of_shape (calls_of_cev wide Tryz.func36 (an := ref01_Token_an) (args := [v0]) (cast (congrFun (ref01_Token_eq v0 Kp K) w).symm h))
theorem ref01_Token_cn {v0 : Value} {W : World} {α : Type} {A : List HP} {r : α → Value} {B : α → List HP} (h : ∀ F, Ent W (A ++ F) (ref01_Token v0 noP fun v w => ∃ x, v = r x ∧ sat W (B x ++ F) w)) : Cn Tryz.prog 36 [v0] W A r B :=
  Cn.of (shape := ref01_Token v0) Tryz.call36 (fun h => ref01_Token_calls h) h
theorem ref01_Token_cnP {v0 : Value} {W : World} {α β : Type} {A : List HP} {r : α → Value} {B : α → List HP} {pc : β → List PanicEntry} {Bp : β → List HP} (h : ∀ F, Ent W (A ++ F) (ref01_Token v0 (fun ch w => ∃ y, ch = pc y ∧ sat W (Bp y ++ F) w) fun v w => ∃ x, v = r x ∧ sat W (B x ++ F) w)) : CnP Tryz.prog 36 [v0] W A r B pc Bp :=
  CnP.of (shape := ref01_Token v0) Tryz.call36 (fun h => ref01_Token_calls h) h

/-- ref10_unquoted -/
def ref10_unquoted (v0 : Value) (Kp : PK) (K : Value → WP) : WP :=
  opN Tryz.prog (sLen #[9] 3 [v0]) Kp fun x8 =>
  opN Tryz.prog (sBin .lss 3 x8 (.int .i64 2)) Kp fun x9 =>
  gdK x9 false (fun k => k v0) fun x11 =>
  gdK x9 false (opN Tryz.prog (sIx 9 x11 (.int .i64 0)) Kp) fun x12 =>
  gdK x9 false (opN Tryz.prog (sEq .neq 5 (.tmp 12) (.const (.int .u8 34)) x12 (.int .u8 34)) Kp) fun x13 =>
  opN Tryz.prog (sPick x9 (.bool true) x13) Kp fun x14 =>
  condS x14
  (K (.tuple #[(.string ⟨#[]⟩), (.bool false)]))
  (loop2 (fun I1 m1 _ y4 y5 =>
    opN Tryz.prog (sLen #[9] 3 [v0]) Kp fun x17 =>
    opN Tryz.prog (sBin .lss 3 y5 x17) Kp fun x18 =>
    condS x18
    (opN Tryz.prog (sIx 9 v0 y5) Kp fun x23 =>
     opN Tryz.prog (sEq .eql 5 (.tmp 24) (.const (.int .u8 34)) x23 (.int .u8 34)) Kp fun x25 =>
     condS x25
     (opN Tryz.prog (sConv 57 9 y4) Kp fun x27 =>
      opN Tryz.prog (sLen #[9] 3 [v0]) Kp fun x30 =>
      opN Tryz.prog (sBin .sub 3 x30 (.int .i64 1)) Kp fun x31 =>
      opN Tryz.prog (sEq .eql 3 (.tmp 28) (.tmp 31) y5 x31) Kp fun x32 =>
      K (.tuple #[x27, x32]))
     (cut2 (fun J1 =>
       opN Tryz.prog (sEq .eql 5 (.tmp 33) (.const (.int .u8 92)) x23 (.int .u8 92)) Kp fun x34 =>
       condS x34
       (opN Tryz.prog (sBin .add 3 y5 (.int .i64 1)) Kp fun x36 =>
        opN Tryz.prog (sLen #[9] 3 [v0]) Kp fun x39 =>
        opN Tryz.prog (sEq .eql 3 (.tmp 37) (.tmp 39) x36 x39) Kp fun x40 =>
        condS x40
        (K (.tuple #[(.string ⟨#[]⟩), (.bool false)]))
        (opN Tryz.prog (sIx 9 v0 x36) Kp fun x43 =>
         J1 x36 x43))
       (J1 y5 x23)) fun _ z5 z6 =>
      opN Tryz.prog (sEq .neq 5 (.tmp 44) (.const (.int .u8 9)) z6 (.int .u8 9)) Kp fun x45 =>
      gdK x45 true (fun k => k z6) fun x47 =>
      gdK x45 true (opN Tryz.prog (sBin .lss 5 x47 (.int .u8 32)) Kp) fun x48 =>
      gdK x45 true (fun k => k x48) fun x49 =>
      gdK x49 false (fun k => k z6) fun x50 =>
      gdK x49 false (opN Tryz.prog (sEq .eql 5 (.tmp 50) (.const (.int .u8 127)) x50 (.int .u8 127)) Kp) fun x51 =>
      gdK x45 true (opN Tryz.prog (sPick x49 (.bool true) x51) Kp) fun x52 =>
      opN Tryz.prog (sPick x45 x52 (.bool false)) Kp fun x53 =>
      condS x53
      (K (.tuple #[(.string ⟨#[]⟩), (.bool false)]))
      (opN Tryz.prog (sBuildSl 57 1 [(0, z6)]) Kp fun x56 =>
       opN Tryz.prog (sApp #[57, 57] 57 [y4, x56]) Kp fun x57 =>
       opN Tryz.prog (sBin .add 3 z5 (.int .i64 1)) Kp fun x20 =>
       next2 I1 m1 x57 x20)))
    (K (.tuple #[(.string ⟨#[]⟩), (.bool false)]))) (.slice none 0 0) (.int .i64 1))
def ref10_unquoted_an : Ann := { cuts := [(15, [5, 6])], blks := [], loops := [(5, [4, 5])], drs := [] }
theorem ref10_unquoted_eq (v0 : Value) (Kp : PK) (K : Value → WP) : cevF Tryz.prog ref10_unquoted_an Tryz.f37 [v0] Kp K = ref10_unquoted v0 Kp K := by kernel_rfl
theorem ref10_unquoted_calls {v0 : Value} {Kp : PK} {K : Value → WP} {w : World} (h : ref10_unquoted v0 Kp K w) : Calls Tryz.prog 37 #[v0] w (after Kp K) :=
  calls_of_shape (calls_of_cev wide Tryz.func37 (an := ref10_unquoted_an) (args := [v0]) (cast (congrFun (ref10_unquoted_eq v0 Kp K) w).symm h))
theorem ref10_unquoted_cn {v0 : Value} {W : World} {α : Type} {A : List HP} {r : α → Value} {B : α → List HP} (h : ∀ F, Ent W (A ++ F) (ref10_unquoted v0 noP fun v w => ∃ x, v = r x ∧ sat W (B x ++ F) w)) : Cn Tryz.prog 37 [v0] W A r B :=
  Cn.of (shape := ref10_unquoted v0) Tryz.call37 (fun h => ref10_unquoted_calls h) h
theorem ref10_unquoted_cnP {v0 : Value} {W : World} {α β : Type} {A : List HP} {r : α → Value} {B : α → List HP} {pc : β → List PanicEntry} {Bp : β → List HP} (h : ∀ F, Ent W (A ++ F) (ref10_unquoted v0 (fun ch w => ∃ y, ch = pc y ∧ sat W (Bp y ++ F) w) fun v w => ∃ x, v = r x ∧ sat W (B x ++ F) w)) : CnP Tryz.prog 37 [v0] W A r B pc Bp :=
  CnP.of (shape := ref10_unquoted v0) Tryz.call37 (fun h => ref10_unquoted_calls h) h

/-- strings_Replacer_buildOnce -/
def strings_Replacer_buildOnce (v0 : Value) (Kp : PK) (K : Value → WP) : WP :=
  opN Tryz.prog (sCall (fn 56) [v0]) Kp fun x4 =>
  opN Tryz.prog (sNil v0) Kp fun x5 =>
  opN Tryz.prog (sFA 100 x5 1) Kp fun x6 =>
  opN Tryz.prog (sStore 98 x6 x4) Kp fun _ =>
  opN Tryz.prog (sNil v0) Kp fun x8 =>
  opN Tryz.prog (sFA 100 x8 2) Kp fun x9 =>
  opN Tryz.prog (sStore 50 x9 (.slice none 0 0)) Kp fun _ =>
  K (.tuple #[])
def strings_Replacer_buildOnce_an : Ann := { cuts := [], blks := [], loops := [], drs := [] }
theorem strings_Replacer_buildOnce_eq (v0 : Value) (Kp : PK) (K : Value → WP) : cevF Tryz.prog strings_Replacer_buildOnce_an Tryz.f39 [v0] Kp K = strings_Replacer_buildOnce v0 Kp K := by kernel_rfl
theorem strings_Replacer_buildOnce_calls {v0 : Value} {Kp : PK} {K : Value → WP} {w : World} (h : strings_Replacer_buildOnce v0 Kp K w) : Calls Tryz.prog 39 #[v0] w (after Kp K) :=
  calls_of_shape (calls_of_cev wide Tryz.func39 (an := strings_Replacer_buildOnce_an) (args := [v0]) (cast (congrFun (strings_Replacer_buildOnce_eq v0 Kp K) w).symm h))
theorem strings_Replacer_buildOnce_cn {v0 : Value} {W : World} {α : Type} {A : List HP} {r : α → Value} {B : α → List HP} (h : ∀ F, Ent W (A ++ F) (strings_Replacer_buildOnce v0 noP fun v w => ∃ x, v = r x ∧ sat W (B x ++ F) w)) : Cn Tryz.prog 39 [v0] W A r B :=
  Cn.of (shape := strings_Replacer_buildOnce v0) Tryz.call39 (fun h => strings_Replacer_buildOnce_calls h) h
theorem strings_Replacer_buildOnce_cnP {v0 : Value} {W : World} {α β : Type} {A : List HP} {r : α → Value} {B : α → List HP} {pc : β → List PanicEntry} {Bp : β → List HP} (h : ∀ F, Ent W (A ++ F) (strings_Replacer_buildOnce v0 (fun ch w => ∃ y, ch = pc y ∧ sat W (Bp y ++ F) w) fun v w => ∃ x, v = r x ∧ sat W (B x ++ F) w)) : CnP Tryz.prog 39 [v0] W A r B pc Bp :=
  CnP.of (shape := strings_Replacer_buildOnce v0) Tryz.call39 (fun h => strings_Replacer_buildOnce_calls h) h

/-- ascii_number_string -/
def ascii_number_string (v0 v1 v2 : Value) (Kp : PK) (K : Value → WP) : WP :=
  opN Tryz.prog (sCall (fn 17) [v0]) Kp fun x14 =>
  opN Tryz.prog (sLen #[9] 3 [x14]) Kp fun x16 =>
  loop1 (fun I1 m1 _ y17 =>
   opN Tryz.prog (sBin .lss 3 y17 x16) Kp fun x18 =>
   condS x18
   (opN Tryz.prog (sIx 9 x14 y17) Kp fun x22 =>
    opN Tryz.prog (sCall (fn 48) [(.string ⟨#[48, 49, 50, 51, 52, 53, 54, 55, 56, 57, 97, 98, 99, 100, 101, 102]⟩), x22]) Kp fun x23 =>
    opN Tryz.prog (sBin .lss 3 x23 (.int .i64 0)) Kp fun x25 =>
    gdK x25 false (fun k => k x23) fun x27 =>
    gdK x25 false (fun k => k v1) fun x28 =>
    gdK x25 false (opN Tryz.prog (sBin .geq 3 x27 x28) Kp) fun x29 =>
    opN Tryz.prog (sPick x25 (.bool true) x29) Kp fun x30 =>
    condS x30
    (K (.tuple #[(.int .i64 0), (.int .i64 21)]))
    (opN Tryz.prog (sBin .add 3 y17 (.int .i64 1)) Kp fun x31 =>
     next1 I1 m1 x31))
   (opN Tryz.prog (sEq .eql 9 (.tmp 32) (.const (.string ⟨#[]⟩)) x14 (.string ⟨#[]⟩)) Kp fun x33 =>
    condS x33
    (K (.tuple #[(.int .i64 0), (.int .i64 21)]))
    (opN Tryz.prog (sCall (fn 57) [x14, v1, (.int .i64 63)]) Kp fun x37 =>
     opN Tryz.prog (sExt x37 0) Kp fun x38 =>
     opN Tryz.prog (sExt x37 1) Kp fun x39 =>
     opN Tryz.prog (sEq .neq 119 (.tmp 40) (.const .nilIface) x39 .nilIface) Kp fun x41 =>
     gdK x41 false (fun k => k x38) fun x43 =>
     gdK x41 false (fun k => k v2) fun x44 =>
     gdK x41 false (opN Tryz.prog (sConv 3 117 x44) Kp) fun x45 =>
     gdK x41 false (opN Tryz.prog (sBin .gtr 117 x43 x45) Kp) fun x46 =>
     opN Tryz.prog (sPick x41 (.bool true) x46) Kp fun x47 =>
     condS x47
     (K (.tuple #[(.int .i64 0), (.int .i64 11)]))
     (opN Tryz.prog (sConv 117 3 x38) Kp fun x49 =>
      K (.tuple #[x49, (.int .i64 0)]))))) (.int .i64 0)
def ascii_number_string_an : Ann := { cuts := [], blks := [], loops := [(3, [17])], drs := [] }
theorem ascii_number_string_eq (v0 v1 v2 : Value) (Kp : PK) (K : Value → WP) : cevF Tryz.prog ascii_number_string_an Tryz.f40 [v0, v1, v2] Kp K = ascii_number_string v0 v1 v2 Kp K := by kernel_rfl
theorem ascii_number_string_calls {v0 v1 v2 : Value} {Kp : PK} {K : Value → WP} {w : World} (h : ascii_number_string v0 v1 v2 Kp K w) : Calls Tryz.prog 40 #[v0, v1, v2] w (after Kp K) :=
  calls_of_shape (calls_of_cev wide Tryz.func40 (an := ascii_number_string_an) (args := [v0, v1, v2]) (cast (congrFun (ascii_number_string_eq v0 v1 v2 Kp K) w).symm h))
theorem ascii_number_string_cn {v0 v1 v2 : Value} {W : World} {α : Type} {A : List HP} {r : α → Value} {B : α → List HP} (h : ∀ F, Ent W (A ++ F) (ascii_number_string v0 v1 v2 noP fun v w => ∃ x, v = r x ∧ sat W (B x ++ F) w)) : Cn Tryz.prog 40 [v0, v1, v2] W A r B :=
  Cn.of (shape := ascii_number_string v0 v1 v2) Tryz.call40 (fun h => ascii_number_string_calls h) h
theorem ascii_number_string_cnP {v0 v1 v2 : Value} {W : World} {α β : Type} {A : List HP} {r : α → Value} {B : α → List HP} {pc : β → List PanicEntry} {Bp : β → List HP} (h : ∀ F, Ent W (A ++ F) (ascii_number_string v0 v1 v2 (fun ch w => ∃ y, ch = pc y ∧ sat W (Bp y ++ F) w) fun v w => ∃ x, v = r x ∧ sat W (B x ++ F) w)) : CnP Tryz.prog 40 [v0, v1, v2] W A r B pc Bp :=
  CnP.of (shape := ascii_number_string v0 v1 v2) Tryz.call40 (fun h => ascii_number_string_calls h) h

/-- ref01_number -/
def ref01_number (v0 v1 v2 : Value) (Kp : PK) (K : Value → WP) : WP :=
  opN Tryz.prog (sLen #[9] 3 [v0]) Kp fun x13 =>
  opN Tryz.prog (sEq .eql 3 (.tmp 13) (.const (.int .i64 0)) x13 (.int .i64 0)) Kp fun x14 =>
  condS x14
  (K (.tuple #[(.int .i64 0), (.int .i64 21)]))
  (loop1 (fun I1 m1 _ y8 =>
    opN Tryz.prog (sLen #[9] 3 [v0]) Kp fun x17 =>
    opN Tryz.prog (sBin .lss 3 y8 x17) Kp fun x18 =>
    condS x18
    (opN Tryz.prog (sIx 9 v0 y8) Kp fun x23 =>
     opN Tryz.prog (sCall (fn 58) [x23, v1]) Kp fun x25 =>
     opN Tryz.prog (sBin .lss 3 x25 (.int .i64 0)) Kp fun x26 =>
     condS x26
     (K (.tuple #[(.int .i64 0), (.int .i64 21)]))
     (opN Tryz.prog (sBin .add 3 y8 (.int .i64 1)) Kp fun x20 =>
      next1 I1 m1 x20))
    (loop2 (fun I2 m2 _ y9 y10 =>
      opN Tryz.prog (sLen #[9] 3 [v0]) Kp fun x29 =>
      opN Tryz.prog (sBin .lss 3 y10 x29) Kp fun x30 =>
      condS x30
      (opN Tryz.prog (sIx 9 v0 y10) Kp fun x35 =>
       opN Tryz.prog (sCall (fn 58) [x35, v1]) Kp fun x37 =>
       opN Tryz.prog (sBin .sub 3 v2 x37) Kp fun x41 =>
       opN Tryz.prog (sBin .quo 3 x41 v1) Kp fun x43 =>
       opN Tryz.prog (sBin .gtr 3 y9 x43) Kp fun x44 =>
       condS x44
       (K (.tuple #[(.int .i64 0), (.int .i64 11)]))
       (opN Tryz.prog (sBin .mul 3 y9 v1) Kp fun x47 =>
        opN Tryz.prog (sBin .add 3 x47 x37) Kp fun x49 =>
        opN Tryz.prog (sBin .add 3 y10 (.int .i64 1)) Kp fun x32 =>
        next2 I2 m2 x49 x32))
      (K (.tuple #[y9, (.int .i64 0)]))) (.int .i64 0) (.int .i64 0))) (.int .i64 0))
def ref01_number_an : Ann := { cuts := [], blks := [], loops := [(4, [8]), (10, [9, 10])], drs := [] }
theorem ref01_number_eq (v0 v1 v2 : Value) (Kp : PK) (K : Value → WP) : cevF Tryz.prog ref01_number_an Tryz.f41 [v0, v1, v2] Kp K = ref01_number v0 v1 v2 Kp K := by kernel_rfl
theorem ref01_number_calls {v0 v1 v2 : Value} {Kp : PK} {K : Value → WP} {w : World} (h : ref01_number v0 v1 v2 Kp K w) : Calls Tryz.prog 41 #[v0, v1, v2] w (after Kp K) :=
  calls_of_shape (calls_of_cev wide Tryz.func41 (an := ref01_number_an) (args := [v0, v1, v2]) (cast (congrFun (ref01_number_eq v0 v1 v2 Kp K) w).symm h))
theorem ref01_number_cn {v0 v1 v2 : Value} {W : World} {α : Type} {A : List HP} {r : α → Value} {B : α → List HP} (h : ∀ F, Ent W (A ++ F) (ref01_number v0 v1 v2 noP fun v w => ∃ x, v = r x ∧ sat W (B x ++ F) w)) : Cn Tryz.prog 41 [v0, v1, v2] W A r B :=
  Cn.of (shape := ref01_number v0 v1 v2) Tryz.call41 (fun h => ref01_number_calls h) h
theorem ref01_number_cnP {v0 v1 v2 : Value} {W : World} {α β : Type} {A : List HP} {r : α → Value} {B : α → List HP} {pc : β → List PanicEntry} {Bp : β → List HP} (h : ∀ F, Ent W (A ++ F) (ref01_number v0 v1 v2 (fun ch w => ∃ y, ch = pc y ∧ sat W (Bp y ++ F) w) fun v w => ∃ x, v = r x ∧ sat W (B x ++ F) w)) : CnP Tryz.prog 41 [v0, v1, v2] W A r B pc Bp :=
  CnP.of (shape := ref01_number v0 v1 v2) Tryz.call41 (fun h => ref01_number_calls h) h

/-- fields_list_fields_Choice -/
def fields_list_fields_Choice (v0 v1 : Value) (Kp : PK) (K : Value → WP) : WP :=
  opN Tryz.prog (sBox 107 v1) Kp fun x3 =>
  opN Tryz.prog (sAlloc 62) Kp fun x4 =>
  opN Tryz.prog (sAlloc 23) Kp fun x5 =>
  opN Tryz.prog (sAlloc 62) Kp fun x6 =>
  opN Tryz.prog (sLoad 107 x3) Kp fun x10 =>
  opN Tryz.prog (sCall (fn 59) [x10, v0]) Kp fun x12 =>
  rfS Tryz.prog x12 1 (fun u13 B1 N1 J1r =>
   B1 (opN Tryz.prog (sFA 107 x3 2) noK fun x15 =>
    opN Tryz.prog (sLoad 105 x15) noK fun x16 =>
    opN Tryz.prog (sCall x16 [u13]) noK fun x18 =>
    opN Tryz.prog (sExt x18 0) noK fun x19 =>
    opN Tryz.prog (sExt x18 1) noK fun x20 =>
    opN Tryz.prog (sAlloc 69) noK fun x8 =>
    opN Tryz.prog (sStore 69 x8 x19) noK fun _ =>
    opN Tryz.prog (sUn .not x20) noK fun x22 =>
    condS x22
    (opN Tryz.prog (sStore 62 x4 (.slice none 0 0)) noK fun _ =>
     opN Tryz.prog (sStore 23 x5 (.int .i64 42)) noK fun _ =>
     J1r)
    (opN Tryz.prog (sLoad 62 x6) noK fun x23 =>
     opN Tryz.prog (sLoad 69 x8) noK fun x24 =>
     opN Tryz.prog (sBuildSl 62 1 [(0, x24)]) noK fun x25 =>
     opN Tryz.prog (sApp #[62, 62] 62 [x23, x25]) noK fun x26 =>
     opN Tryz.prog (sStore 62 x6 x26) noK fun _ =>
     N1))) (fun d1 =>
   opN Tryz.prog (sLoad 62 x6) (KpM [d1] Kp) fun x27 =>
   opN Tryz.prog (sStore 62 x4 x27) (KpM [d1] Kp) fun _ =>
   opN Tryz.prog (sStore 23 x5 (.int .i64 0)) (KpM [d1] Kp) fun _ =>
   (tkS d1 ((stS Tryz.prog (sRes 62 x4) fun r0 => (stS Tryz.prog (sRes 23 x5) fun r1 => K (.tuple #[r0, r1])))))) (fun d1 => (tkS d1 ((stS Tryz.prog (sRes 62 x4) fun r0 => (stS Tryz.prog (sRes 23 x5) fun r1 => K (.tuple #[r0, r1])))))) (fun d1 ch => (tkS d1 (Kp ch)))
def fields_list_fields_Choice_an : Ann := { cuts := [], blks := [], loops := [], drs := [] }
theorem fields_list_fields_Choice_eq (v0 v1 : Value) (Kp : PK) (K : Value → WP) : cevFT Tryz.prog fields_list_fields_Choice_an Tryz.f42 [v0, v1] Kp K = fields_list_fields_Choice v0 v1 Kp K := by kernel_rfl
theorem fields_list_fields_Choice_calls {v0 v1 : Value} {Kp : PK} {K : Value → WP} {w : World} (h : fields_list_fields_Choice v0 v1 Kp K w) : Calls Tryz.prog 42 #[v0, v1] w (after Kp K) :=
  calls_of_shape (calls_of_cevT wide Tryz.func42 (an := fields_list_fields_Choice_an) (args := [v0, v1]) (cast (congrFun (fields_list_fields_Choice_eq v0 v1 Kp K) w).symm h))
theorem fields_list_fields_Choice_cn {v0 v1 : Value} {W : World} {α : Type} {A : List HP} {r : α → Value} {B : α → List HP} (h : ∀ F, Ent W (A ++ F) (fields_list_fields_Choice v0 v1 noP fun v w => ∃ x, v = r x ∧ sat W (B x ++ F) w)) : Cn Tryz.prog 42 [v0, v1] W A r B :=
  Cn.of (shape := fields_list_fields_Choice v0 v1) Tryz.call42 (fun h => fields_list_fields_Choice_calls h) h
theorem fields_list_fields_Choice_cnP {v0 v1 : Value} {W : World} {α β : Type} {A : List HP} {r : α → Value} {B : α → List HP} {pc : β → List PanicEntry} {Bp : β → List HP} (h : ∀ F, Ent W (A ++ F) (fields_list_fields_Choice v0 v1 (fun ch w => ∃ y, ch = pc y ∧ sat W (Bp y ++ F) w) fun v w => ∃ x, v = r x ∧ sat W (B x ++ F) w)) : CnP Tryz.prog 42 [v0, v1] W A r B pc Bp :=
  CnP.of (shape := fields_list_fields_Choice v0 v1) Tryz.call42 (fun h => fields_list_fields_Choice_calls h) h

/-- fields_choice -/
def fields_choice (v0 : Value) (Kp : PK) (K : Value → WP) : WP :=
  opN Tryz.prog (sAlloc 69) Kp fun x2 =>
  opN Tryz.prog (sCall (fn 32) [v0, (.string ⟨#[59]⟩)]) Kp fun x12 =>
  opN Tryz.prog (sExt x12 0) Kp fun x13 =>
  opN Tryz.prog (sExt x12 1) Kp fun x14 =>
  opN Tryz.prog (sExt x12 2) Kp fun x15 =>
  opN Tryz.prog (sCall (fn 50) [x13]) Kp fun x17 =>
  opN Tryz.prog (sCall (fn 17) [x17]) Kp fun x18 =>
  opN Tryz.prog (sBuild 69 [(0, x18), (1, (.int .i64 1000))]) Kp fun x19 =>
  opN Tryz.prog (sAlloc 69) Kp fun x7 =>
  opN Tryz.prog (sStore 69 x7 x19) Kp fun _ =>
  opN Tryz.prog (sFA 69 x7 0) Kp fun x20 =>
  opN Tryz.prog (sLoad 9 x20) Kp fun x21 =>
  opN Tryz.prog (sCall (fn 16) [x21]) Kp fun x22 =>
  condS x15
  (opN Tryz.prog (sCall (fn 50) [x14]) Kp fun x25 =>
   opN Tryz.prog (sLen #[9] 3 [x25]) Kp fun x27 =>
   opN Tryz.prog (sBin .lss 3 x27 (.int .i64 2)) Kp fun x28 =>
   gdK x28 false (fun k => k x25) fun x30 =>
   gdK x28 false (opN Tryz.prog (sSl 9 x30 none (some (.int .i64 2)) none) Kp) fun x31 =>
   gdK x28 false (opN Tryz.prog (sCall (fn 44) [x31, (.string ⟨#[113, 61]⟩)]) Kp) fun x32 =>
   gdK x28 false (opN Tryz.prog (sUn .not x32) Kp) fun x33 =>
   opN Tryz.prog (sPick x28 (.bool true) x33) Kp fun x34 =>
   condS x34
   (opN Tryz.prog (sBuild 69 []) Kp fun x35 =>
    opN Tryz.prog (sStore 69 x2 x35) Kp fun _ =>
    (stS Tryz.prog (sRes 69 x2) fun r0 => K (.tuple #[r0, (.bool false)])))
   (opN Tryz.prog (sSl 9 x25 (some (.int .i64 2)) none none) Kp fun x38 =>
    opN Tryz.prog (sCall (fn 60) [x38]) Kp fun x39 =>
    opN Tryz.prog (sExt x39 0) Kp fun x40 =>
    opN Tryz.prog (sExt x39 1) Kp fun x41 =>
    opN Tryz.prog (sFA 69 x7 1) Kp fun x42 =>
    opN Tryz.prog (sStore 3 x42 x40) Kp fun _ =>
    gdK x22 true (fun k => k x41) fun x45 =>
    opN Tryz.prog (sPick x22 x45 (.bool false)) Kp fun x46 =>
    opN Tryz.prog (sLoad 69 x7) Kp fun x47 =>
    opN Tryz.prog (sStore 69 x2 x47) Kp fun _ =>
    (stS Tryz.prog (sRes 69 x2) fun r0 => K (.tuple #[r0, x46]))))
  (opN Tryz.prog (sLoad 69 x7) Kp fun x47 =>
   opN Tryz.prog (sStore 69 x2 x47) Kp fun _ =>
   (stS Tryz.prog (sRes 69 x2) fun r0 => K (.tuple #[r0, x22])))
def fields_choice_an : Ann := { cuts := [], blks := [], loops := [], drs := [] }
theorem fields_choice_eq (v0 : Value) (Kp : PK) (K : Value → WP) : cevF Tryz.prog fields_choice_an Tryz.f43 [v0] Kp K = fields_choice v0 Kp K := by kernel_rfl
theorem fields_choice_calls {v0 : Value} {Kp : PK} {K : Value → WP} {w : World} (h : fields_choice v0 Kp K w) : Calls Tryz.prog 43 #[v0] w (after Kp K) :=
  calls_of_shape (calls_of_cev wide Tryz.func43 (an := fields_choice_an) (args := [v0]) (cast (congrFun (fields_choice_eq v0 Kp K) w).symm h))
theorem fields_choice_cn {v0 : Value} {W : World} {α : Type} {A : List HP} {r : α → Value} {B : α → List HP} (h : ∀ F, Ent W (A ++ F) (fields_choice v0 noP fun v w => ∃ x, v = r x ∧ sat W (B x ++ F) w)) : Cn Tryz.prog 43 [v0] W A r B :=
  Cn.of (shape := fields_choice v0) Tryz.call43 (fun h => fields_choice_calls h) h
theorem fields_choice_cnP {v0 : Value} {W : World} {α β : Type} {A : List HP} {r : α → Value} {B : α → List HP} {pc : β → List PanicEntry} {Bp : β → List HP} (h : ∀ F, Ent W (A ++ F) (fields_choice v0 (fun ch w => ∃ y, ch = pc y ∧ sat W (Bp y ++ F) w) fun v w => ∃ x, v = r x ∧ sat W (B x ++ F) w)) : CnP Tryz.prog 43 [v0] W A r B pc Bp :=
  CnP.of (shape := fields_choice v0) Tryz.call43 (fun h => fields_choice_calls h) h

/-- ascii_Equal -/
def ascii_Equal (v0 v1 : Value) (Kp : PK) (K : Value → WP) : WP :=
  opN Tryz.prog (sLen #[9] 3 [v0]) Kp fun x6 =>
  opN Tryz.prog (sLen #[9] 3 [v1]) Kp fun x8 =>
  opN Tryz.prog (sEq .eql 3 (.tmp 6) (.tmp 8) x6 x8) Kp fun x9 =>
  gdK x9 true (fun k => k v0) fun x11 =>
  gdK x9 true (opN Tryz.prog (sCall (fn 17) [x11]) Kp) fun x12 =>
  gdK x9 true (fun k => k v1) fun x13 =>
  gdK x9 true (opN Tryz.prog (sCall (fn 17) [x13]) Kp) fun x14 =>
  gdK x9 true (opN Tryz.prog (sEq .eql 9 (.tmp 12) (.tmp 14) x12 x14) Kp) fun x15 =>
  opN Tryz.prog (sPick x9 x15 (.bool false)) Kp fun x16 =>
  K x16
def ascii_Equal_an : Ann := { cuts := [], blks := [], loops := [], drs := [] }
theorem ascii_Equal_eq (v0 v1 : Value) (Kp : PK) (K : Value → WP) : cevF Tryz.prog ascii_Equal_an Tryz.f44 [v0, v1] Kp K = ascii_Equal v0 v1 Kp K := by kernel_rfl
theorem ascii_Equal_calls {v0 v1 : Value} {Kp : PK} {K : Value → WP} {w : World} (h : ascii_Equal v0 v1 Kp K w) : Calls Tryz.prog 44 #[v0, v1] w (after Kp K) :=
  calls_of_shape (calls_of_cev wide Tryz.func44 (an := ascii_Equal_an) (args := [v0, v1]) (cast (congrFun (ascii_Equal_eq v0 v1 Kp K) w).symm h))
theorem ascii_Equal_cn {v0 v1 : Value} {W : World} {α : Type} {A : List HP} {r : α → Value} {B : α → List HP} (h : ∀ F, Ent W (A ++ F) (ascii_Equal v0 v1 noP fun v w => ∃ x, v = r x ∧ sat W (B x ++ F) w)) : Cn Tryz.prog 44 [v0, v1] W A r B :=
  Cn.of (shape := ascii_Equal v0 v1) Tryz.call44 (fun h => ascii_Equal_calls h) h
theorem ascii_Equal_cnP {v0 v1 : Value} {W : World} {α β : Type} {A : List HP} {r : α → Value} {B : α → List HP} {pc : β → List PanicEntry} {Bp : β → List HP} (h : ∀ F, Ent W (A ++ F) (ascii_Equal v0 v1 (fun ch w => ∃ y, ch = pc y ∧ sat W (Bp y ++ F) w) fun v w => ∃ x, v = r x ∧ sat W (B x ++ F) w)) : CnP Tryz.prog 44 [v0, v1] W A r B pc Bp :=
  CnP.of (shape := ascii_Equal v0 v1) Tryz.call44 (fun h => ascii_Equal_calls h) h

/-- fields_list_fields_Span -/
def fields_list_fields_Span (v0 v1 : Value) (Kp : PK) (K : Value → WP) : WP :=
  opN Tryz.prog (sBox 111 v1) Kp fun x3 =>
  opN Tryz.prog (sAlloc 65) Kp fun x4 =>
  opN Tryz.prog (sAlloc 23) Kp fun x5 =>
  opN Tryz.prog (sAlloc 65) Kp fun x6 =>
  opN Tryz.prog (sLoad 111 x3) Kp fun x10 =>
  opN Tryz.prog (sCall (fn 61) [x10, v0]) Kp fun x12 =>
  rfS Tryz.prog x12 1 (fun u13 B1 N1 J1r =>
   B1 (opN Tryz.prog (sFA 111 x3 2) noK fun x15 =>
    opN Tryz.prog (sLoad 109 x15) noK fun x16 =>
    opN Tryz.prog (sCall x16 [u13]) noK fun x18 =>
    opN Tryz.prog (sExt x18 0) noK fun x19 =>
    opN Tryz.prog (sExt x18 1) noK fun x20 =>
    opN Tryz.prog (sAlloc 71) noK fun x8 =>
    opN Tryz.prog (sStore 71 x8 x19) noK fun _ =>
    opN Tryz.prog (sUn .not x20) noK fun x22 =>
    condS x22
    (opN Tryz.prog (sStore 65 x4 (.slice none 0 0)) noK fun _ =>
     opN Tryz.prog (sStore 23 x5 (.int .i64 42)) noK fun _ =>
     J1r)
    (opN Tryz.prog (sLoad 65 x6) noK fun x23 =>
     opN Tryz.prog (sLoad 71 x8) noK fun x24 =>
     opN Tryz.prog (sBuildSl 65 1 [(0, x24)]) noK fun x25 =>
     opN Tryz.prog (sApp #[65, 65] 65 [x23, x25]) noK fun x26 =>
     opN Tryz.prog (sStore 65 x6 x26) noK fun _ =>
     N1))) (fun d1 =>
   opN Tryz.prog (sLoad 65 x6) (KpM [d1] Kp) fun x27 =>
   opN Tryz.prog (sStore 65 x4 x27) (KpM [d1] Kp) fun _ =>
   opN Tryz.prog (sStore 23 x5 (.int .i64 0)) (KpM [d1] Kp) fun _ =>
   (tkS d1 ((stS Tryz.prog (sRes 65 x4) fun r0 => (stS Tryz.prog (sRes 23 x5) fun r1 => K (.tuple #[r0, r1])))))) (fun d1 => (tkS d1 ((stS Tryz.prog (sRes 65 x4) fun r0 => (stS Tryz.prog (sRes 23 x5) fun r1 => K (.tuple #[r0, r1])))))) (fun d1 ch => (tkS d1 (Kp ch)))
def fields_list_fields_Span_an : Ann := { cuts := [], blks := [], loops := [], drs := [] }
theorem fields_list_fields_Span_eq (v0 v1 : Value) (Kp : PK) (K : Value → WP) : cevFT Tryz.prog fields_list_fields_Span_an Tryz.f45 [v0, v1] Kp K = fields_list_fields_Span v0 v1 Kp K := by kernel_rfl
theorem fields_list_fields_Span_calls {v0 v1 : Value} {Kp : PK} {K : Value → WP} {w : World} (h : fields_list_fields_Span v0 v1 Kp K w) : Calls Tryz.prog 45 #[v0, v1] w (after Kp K) :=
  calls_of_shape (calls_of_cevT wide Tryz.func45 (an := fields_list_fields_Span_an) (args := [v0, v1]) (cast (congrFun (fields_list_fields_Span_eq v0 v1 Kp K) w).symm h))
theorem fields_list_fields_Span_cn {v0 v1 : Value} {W : World} {α : Type} {A : List HP} {r : α → Value} {B : α → List HP} (h : ∀ F, Ent W (A ++ F) (fields_list_fields_Span v0 v1 noP fun v w => ∃ x, v = r x ∧ sat W (B x ++ F) w)) : Cn Tryz.prog 45 [v0, v1] W A r B :=
  Cn.of (shape := fields_list_fields_Span v0 v1) Tryz.call45 (fun h => fields_list_fields_Span_calls h) h
theorem fields_list_fields_Span_cnP {v0 v1 : Value} {W : World} {α β : Type} {A : List HP} {r : α → Value} {B : α → List HP} {pc : β → List PanicEntry} {Bp : β → List HP} (h : ∀ F, Ent W (A ++ F) (fields_list_fields_Span v0 v1 (fun ch w => ∃ y, ch = pc y ∧ sat W (Bp y ++ F) w) fun v w => ∃ x, v = r x ∧ sat W (B x ++ F) w)) : CnP Tryz.prog 45 [v0, v1] W A r B pc Bp :=
  CnP.of (shape := fields_list_fields_Span v0 v1) Tryz.call45 (fun h => fields_list_fields_Span_calls h) h

/-- fields_span -/
def fields_span (v0 : Value) (Kp : PK) (K : Value → WP) : WP :=
  opN Tryz.prog (sAlloc 71) Kp fun x2 =>
  opN Tryz.prog (sCall (fn 32) [v0, (.string ⟨#[45]⟩)]) Kp fun x14 =>
  opN Tryz.prog (sExt x14 0) Kp fun x15 =>
  opN Tryz.prog (sExt x14 1) Kp fun x16 =>
  opN Tryz.prog (sExt x14 2) Kp fun x17 =>
  opN Tryz.prog (sBuild 71 [(0, (.int .i64 (-1))), (1, (.int .i64 (-1)))]) Kp fun x18 =>
  opN Tryz.prog (sAlloc 71) Kp fun x7 =>
  opN Tryz.prog (sStore 71 x7 x18) Kp fun _ =>
  opN Tryz.prog (sFA 71 x7 0) Kp fun x20 =>
  opN Tryz.prog (sBuild 127 [(0, x15), (1, x20)]) Kp fun x21 =>
  opN Tryz.prog (sFA 71 x7 1) Kp fun x23 =>
  opN Tryz.prog (sBuild 127 [(0, x16), (1, x23)]) Kp fun x24 =>
  opN Tryz.prog (sBuild 128 [(0, x21), (1, x24)]) Kp fun x25 =>
  loop2 (fun I1 m1 _ y6 y26 =>
   opN Tryz.prog (sBin .lss 3 y26 (.int .i64 2)) Kp fun x27 =>
   condS x27
   (opN Tryz.prog (sIx 128 x25 y26) Kp fun x28 =>
    opN Tryz.prog (sAlloc 127) Kp fun x9 =>
    opN Tryz.prog (sStore 127 x9 x28) Kp fun _ =>
    opN Tryz.prog (sFA 127 x9 0) Kp fun x29 =>
    opN Tryz.prog (sLoad 9 x29) Kp fun x30 =>
    opN Tryz.prog (sEq .eql 9 (.tmp 30) (.const (.string ⟨#[]⟩)) x30 (.string ⟨#[]⟩)) Kp fun x31 =>
    condS x31
    (opN Tryz.prog (sBin .add 3 y26 (.int .i64 1)) Kp fun x47 =>
     next2 I1 m1 y6 x47)
    (opN Tryz.prog (sFA 127 x9 0) Kp fun x33 =>
     opN Tryz.prog (sLoad 9 x33) Kp fun x34 =>
     opN Tryz.prog (sCall (fn 24) [x34]) Kp fun x35 =>
     opN Tryz.prog (sExt x35 0) Kp fun x36 =>
     opN Tryz.prog (sExt x35 1) Kp fun x37 =>
     gdK y6 true (fun k => k x37) fun x40 =>
     gdK y6 true (opN Tryz.prog (sEq .eql 23 (.tmp 40) (.const (.int .i64 0)) x40 (.int .i64 0)) Kp) fun x41 =>
     opN Tryz.prog (sPick y6 x41 (.bool false)) Kp fun x42 =>
     opN Tryz.prog (sFA 127 x9 1) Kp fun x43 =>
     opN Tryz.prog (sLoad 126 x43) Kp fun x44 =>
     opN Tryz.prog (sNil x44) Kp fun x46 =>
     opN Tryz.prog (sStore 3 x46 x36) Kp fun _ =>
     opN Tryz.prog (sBin .add 3 y26 (.int .i64 1)) Kp fun x47 =>
     next2 I1 m1 x42 x47))
   (drS (stS Tryz.prog (sLoad 71 x7) fun x48 =>
     gdK y6 true (stS Tryz.prog (sLoad 71 x7)) fun x51 =>
     gdK y6 true (stS Tryz.prog (sBuild 71 [(0, (.int .i64 (-1))), (1, (.int .i64 (-1)))])) fun x52 =>
     gdK y6 true (stS Tryz.prog (sEq .neq 71 (.tmp 51) (.tmp 52) x51 x52)) fun x53 =>
     stS Tryz.prog (sPick y6 x53 (.bool false)) fun x54 =>
     gdK x54 true (stS Tryz.prog (sFA 71 x7 0)) fun x56 =>
     gdK x54 true (stS Tryz.prog (sLoad 3 x56)) fun x57 =>
     gdK x54 true (stS Tryz.prog (sBin .lss 3 x57 (.int .i64 0))) fun x58 =>
     gdK x54 true (fun k => k x58) fun x59 =>
     gdK x59 false (stS Tryz.prog (sFA 71 x7 1)) fun x60 =>
     gdK x59 false (stS Tryz.prog (sLoad 3 x60)) fun x61 =>
     gdK x59 false (stS Tryz.prog (sBin .lss 3 x61 (.int .i64 0))) fun x62 =>
     gdK x54 true (stS Tryz.prog (sPick x59 (.bool true) x62)) fun x63 =>
     gdK x54 true (fun k => k x63) fun x64 =>
     gdD x64 false (stD Tryz.prog (sFA 71 x7 0)) fun D17 x65 =>
     gdD x64 false (stD Tryz.prog (sLoad 3 x65)) fun D18 x66 =>
     gdD x64 false (stD Tryz.prog (sFA 71 x7 1)) fun D19 x67 =>
     gdD x64 false (stD Tryz.prog (sLoad 3 x67)) fun D20 x68 =>
     gdD x64 false (stD Tryz.prog (sBin .leq 3 x66 x68)) fun D21 x69 =>
     gdD x54 true (stD Tryz.prog (sPick x64 (.bool true) x69)) fun D22 x70 =>
     stD Tryz.prog (sPick x54 x70 (.bool false)) fun D23 x71 =>
     opN Tryz.prog (sStore 71 x2 x48) Kp fun _ =>
     (fun w => D23 w ∧ (fun w => D22 w ∧ (fun w => D21 w ∧ (fun w => D20 w ∧ (fun w => D19 w ∧ (fun w => D18 w ∧ (fun w => D17 w ∧ ((stS Tryz.prog (sRes 71 x2) fun r0 => K (.tuple #[r0, x71]))) w) w) w) w) w) w) w)))) x17 (.int .i64 0)
def fields_span_an : Ann := { cuts := [], blks := [], loops := [(4, [6, 26])], drs := [(11, [(0, 1), (1, 1), (2, 1), (3, 1), (4, 1), (5, 1), (6, 1), (7, 1), (8, 1), (9, 1), (10, 1), (11, 1), (12, 1), (13, 1), (14, 1), (15, 1), (16, 1), (17, 3), (18, 3), (19, 3), (20, 3), (21, 3), (22, 3), (23, 3), (24, 0), (25, 1)])] }
theorem fields_span_eq (v0 : Value) (Kp : PK) (K : Value → WP) : cevF Tryz.prog fields_span_an Tryz.f46 [v0] Kp K = fields_span v0 Kp K := by kernel_rfl
theorem fields_span_calls {v0 : Value} {Kp : PK} {K : Value → WP} {w : World} (h : fields_span v0 Kp K w) : Calls Tryz.prog 46 #[v0] w (after Kp K) :=
  calls_of_shape (calls_of_cev wide Tryz.func46 (an := fields_span_an) (args := [v0]) (cast (congrFun (fields_span_eq v0 Kp K) w).symm h))
theorem fields_span_cn {v0 : Value} {W : World} {α : Type} {A : List HP} {r : α → Value} {B : α → List HP} (h : ∀ F, Ent W (A ++ F) (fields_span v0 noP fun v w => ∃ x, v = r x ∧ sat W (B x ++ F) w)) : Cn Tryz.prog 46 [v0] W A r B :=
  Cn.of (shape := fields_span v0) Tryz.call46 (fun h => fields_span_calls h) h
theorem fields_span_cnP {v0 : Value} {W : World} {α β : Type} {A : List HP} {r : α → Value} {B : α → List HP} {pc : β → List PanicEntry} {Bp : β → List HP} (h : ∀ F, Ent W (A ++ F) (fields_span v0 (fun ch w => ∃ y, ch = pc y ∧ sat W (Bp y ++ F) w) fun v w => ∃ x, v = r x ∧ sat W (B x ++ F) w)) : CnP Tryz.prog 46 [v0] W A r B pc Bp :=
  CnP.of (shape := fields_span v0) Tryz.call46 (fun h => fields_span_calls h) h

/-- strings_CutPrefix -/
def strings_CutPrefix (v0 v1 : Value) (Kp : PK) (K : Value → WP) : WP :=
  opN Tryz.prog (sCall (fn 62) [v0, v1]) Kp fun x8 =>
  opN Tryz.prog (sExt x8 0) Kp fun x9 =>
  opN Tryz.prog (sExt x8 1) Kp fun x10 =>
  K (.tuple #[x9, x10])
def strings_CutPrefix_an : Ann := { cuts := [], blks := [], loops := [], drs := [] }
theorem strings_CutPrefix_eq (v0 v1 : Value) (Kp : PK) (K : Value → WP) : cevF Tryz.prog strings_CutPrefix_an Tryz.f47 [v0, v1] Kp K = strings_CutPrefix v0 v1 Kp K := by kernel_rfl
theorem strings_CutPrefix_calls {v0 v1 : Value} {Kp : PK} {K : Value → WP} {w : World} (h : strings_CutPrefix v0 v1 Kp K w) : Calls Tryz.prog 47 #[v0, v1] w (after Kp K) :=
  calls_of_shape (calls_of_cev wide Tryz.func47 (an := strings_CutPrefix_an) (args := [v0, v1]) (cast (congrFun (strings_CutPrefix_eq v0 v1 Kp K) w).symm h))
theorem strings_CutPrefix_cn {v0 v1 : Value} {W : World} {α : Type} {A : List HP} {r : α → Value} {B : α → List HP} (h : ∀ F, Ent W (A ++ F) (strings_CutPrefix v0 v1 noP fun v w => ∃ x, v = r x ∧ sat W (B x ++ F) w)) : Cn Tryz.prog 47 [v0, v1] W A r B :=
  Cn.of (shape := strings_CutPrefix v0 v1) Tryz.call47 (fun h => strings_CutPrefix_calls h) h
theorem strings_CutPrefix_cnP {v0 v1 : Value} {W : World} {α β : Type} {A : List HP} {r : α → Value} {B : α → List HP} {pc : β → List PanicEntry} {Bp : β → List HP} (h : ∀ F, Ent W (A ++ F) (strings_CutPrefix v0 v1 (fun ch w => ∃ y, ch = pc y ∧ sat W (Bp y ++ F) w) fun v w => ∃ x, v = r x ∧ sat W (B x ++ F) w)) : CnP Tryz.prog 47 [v0, v1] W A r B pc Bp :=
  CnP.of (shape := strings_CutPrefix v0 v1) Tryz.call47 (fun h => strings_CutPrefix_calls h) h

/-- strings_IndexByte -/
def strings_IndexByte (v0 v1 : Value) (Kp : PK) (K : Value → WP) : WP :=
  opN Tryz.prog (sCall (fn 63) [v0, v1]) Kp fun x7 =>
  K x7
def strings_IndexByte_an : Ann := { cuts := [], blks := [], loops := [], drs := [] }
theorem strings_IndexByte_eq (v0 v1 : Value) (Kp : PK) (K : Value → WP) : cevF Tryz.prog strings_IndexByte_an Tryz.f48 [v0, v1] Kp K = strings_IndexByte v0 v1 Kp K := by kernel_rfl
theorem strings_IndexByte_calls {v0 v1 : Value} {Kp : PK} {K : Value → WP} {w : World} (h : strings_IndexByte v0 v1 Kp K w) : Calls Tryz.prog 48 #[v0, v1] w (after Kp K) :=
  calls_of_shape (calls_of_cev wide Tryz.func48 (an := strings_IndexByte_an) (args := [v0, v1]) (cast (congrFun (strings_IndexByte_eq v0 v1 Kp K) w).symm h))
theorem strings_IndexByte_cn {v0 v1 : Value} {W : World} {α : Type} {A : List HP} {r : α → Value} {B : α → List HP} (h : ∀ F, Ent W (A ++ F) (strings_IndexByte v0 v1 noP fun v w => ∃ x, v = r x ∧ sat W (B x ++ F) w)) : Cn Tryz.prog 48 [v0, v1] W A r B :=
  Cn.of (shape := strings_IndexByte v0 v1) Tryz.call48 (fun h => strings_IndexByte_calls h) h
theorem strings_IndexByte_cnP {v0 v1 : Value} {W : World} {α β : Type} {A : List HP} {r : α → Value} {B : α → List HP} {pc : β → List PanicEntry} {Bp : β → List HP} (h : ∀ F, Ent W (A ++ F) (strings_IndexByte v0 v1 (fun ch w => ∃ y, ch = pc y ∧ sat W (Bp y ++ F) w) fun v w => ∃ x, v = r x ∧ sat W (B x ++ F) w)) : CnP Tryz.prog 48 [v0, v1] W A r B pc Bp :=
  CnP.of (shape := strings_IndexByte v0 v1) Tryz.call48 (fun h => strings_IndexByte_calls h) h

/-- fields_kind_fields_Directive_elements_1 -/
def fields_kind_fields_Directive_elements_1 (v0 v1 v2 : Value) (Kp : PK) (K : Value → WP) : WP :=
  loop3 (fun I1 m1 _ y4 y5 y6 =>
   opN Tryz.prog (sLoad 9 v1) Kp fun x11 =>
   opN Tryz.prog (sLen #[9] 3 [x11]) Kp fun x12 =>
   opN Tryz.prog (sBin .lss 3 y6 x12) Kp fun x13 =>
   condS x13
   (opN Tryz.prog (sLoad 9 v1) Kp fun x16 =>
    opN Tryz.prog (sIx 9 x16 y6) Kp fun x18 =>
    opN Tryz.prog (sEq .eql 5 (.tmp 20) (.const (.int .u8 92)) x18 (.int .u8 92)) Kp fun x21 =>
    gdK x21 true (fun k => k y4) fun x23 =>
    opN Tryz.prog (sPick x21 x23 (.bool false)) Kp fun x24 =>
    gdK x24 true (opN Tryz.prog (sFA 49 v2 1) Kp) fun x26 =>
    gdK x24 true (opN Tryz.prog (sLoad 4 x26) Kp) fun x27 =>
    opN Tryz.prog (sPick x24 x27 (.bool false)) Kp fun x28 =>
    condS x28
    (opN Tryz.prog (sBin .add 3 y6 (.int .i64 1)) Kp fun x30 =>
     opN Tryz.prog (sBin .add 3 x30 (.int .i64 1)) Kp fun x15 =>
     next3 I1 m1 y4 y5 x15)
    (opN Tryz.prog (sEq .eql 5 (.tmp 32) (.const (.int .u8 34)) x18 (.int .u8 34)) Kp fun x33 =>
     gdK x33 true (opN Tryz.prog (sFA 49 v2 0) Kp) fun x35 =>
     gdK x33 true (opN Tryz.prog (sLoad 4 x35) Kp) fun x36 =>
     opN Tryz.prog (sPick x33 x36 (.bool false)) Kp fun x37 =>
     condS x37
     (opN Tryz.prog (sUn .not y4) Kp fun x39 =>
      opN Tryz.prog (sBin .add 3 y6 (.int .i64 1)) Kp fun x15 =>
      next3 I1 m1 x39 y5 x15)
     (opN Tryz.prog (sEq .eql 5 (.tmp 41) (.const (.int .u8 44)) x18 (.int .u8 44)) Kp fun x42 =>
      gdK x42 true (fun k => k y4) fun x44 =>
      gdK x42 true (opN Tryz.prog (sUn .not x44) Kp) fun x45 =>
      opN Tryz.prog (sPick x42 x45 (.bool false)) Kp fun x46 =>
      condS x46
      (opN Tryz.prog (sLoad 9 v1) Kp fun x47 =>
       opN Tryz.prog (sSl 9 x47 (some y5) (some y6) none) Kp fun x50 =>
       opN Tryz.prog (sCall (fn 50) [x50]) Kp fun x51 =>
       opN Tryz.prog (sEq .neq 9 (.tmp 52) (.const (.string ⟨#[]⟩)) x51 (.string ⟨#[]⟩)) Kp fun x53 =>
       gdK x53 true (fun k => k v0) fun x55 =>
       gdK x53 true (fun k => k x51) fun x56 =>
       gdK x53 true (opN Tryz.prog (sCall x55 [x56]) Kp) fun x57 =>
       gdK x53 true (opN Tryz.prog (sUn .not x57) Kp) fun x58 =>
       opN Tryz.prog (sPick x53 x58 (.bool false)) Kp fun x59 =>
       condS x59
       (K (.tuple #[]))
       (opN Tryz.prog (sBin .add 3 y6 (.int .i64 1)) Kp fun x61 =>
        opN Tryz.prog (sBin .add 3 y6 (.int .i64 1)) Kp fun x15 =>
        next3 I1 m1 y4 x61 x15))
      (opN Tryz.prog (sBin .add 3 y6 (.int .i64 1)) Kp fun x15 =>
       next3 I1 m1 y4 y5 x15))))
   (opN Tryz.prog (sLoad 9 v1) Kp fun x62 =>
    opN Tryz.prog (sSl 9 x62 (some y5) none none) Kp fun x64 =>
    opN Tryz.prog (sCall (fn 50) [x64]) Kp fun x65 =>
    opN Tryz.prog (sEq .neq 9 (.tmp 66) (.const (.string ⟨#[]⟩)) x65 (.string ⟨#[]⟩)) Kp fun x67 =>
    condS x67
    (opN Tryz.prog (sCall v0 [x65]) Kp fun x70 =>
     K (.tuple #[]))
    (K (.tuple #[])))) (.bool false) (.int .i64 0) (.int .i64 0)
def fields_kind_fields_Directive_elements_1_an : Ann := { cuts := [], blks := [], loops := [(2, [4, 5, 6])], drs := [] }
theorem fields_kind_fields_Directive_elements_1_eq (v0 v1 v2 : Value) (Kp : PK) (K : Value → WP) : cevF Tryz.prog fields_kind_fields_Directive_elements_1_an Tryz.f49 [v0, v1, v2] Kp K = fields_kind_fields_Directive_elements_1 v0 v1 v2 Kp K := by kernel_rfl
theorem fields_kind_fields_Directive_elements_1_calls {v0 v1 v2 : Value} {Kp : PK} {K : Value → WP} {w : World} (h : fields_kind_fields_Directive_elements_1 v0 v1 v2 Kp K w) : Calls Tryz.prog 49 #[v0, v1, v2] w (after Kp K) :=
  calls_of_shape (calls_of_cev wide Tryz.func49 (an := fields_kind_fields_Directive_elements_1_an) (args := [v0, v1, v2]) (cast (congrFun (fields_kind_fields_Directive_elements_1_eq v0 v1 v2 Kp K) w).symm h))
theorem fields_kind_fields_Directive_elements_1_cn {v0 v1 v2 : Value} {W : World} {α : Type} {A : List HP} {r : α → Value} {B : α → List HP} (h : ∀ F, Ent W (A ++ F) (fields_kind_fields_Directive_elements_1 v0 v1 v2 noP fun v w => ∃ x, v = r x ∧ sat W (B x ++ F) w)) : Cn Tryz.prog 49 [v0, v1, v2] W A r B :=
  Cn.of (shape := fields_kind_fields_Directive_elements_1 v0 v1 v2) Tryz.call49 (fun h => fields_kind_fields_Directive_elements_1_calls h) h
theorem fields_kind_fields_Directive_elements_1_cnP {v0 v1 v2 : Value} {W : World} {α β : Type} {A : List HP} {r : α → Value} {B : α → List HP} {pc : β → List PanicEntry} {Bp : β → List HP} (h : ∀ F, Ent W (A ++ F) (fields_kind_fields_Directive_elements_1 v0 v1 v2 (fun ch w => ∃ y, ch = pc y ∧ sat W (Bp y ++ F) w) fun v w => ∃ x, v = r x ∧ sat W (B x ++ F) w)) : CnP Tryz.prog 49 [v0, v1, v2] W A r B pc Bp :=
  CnP.of (shape := fields_kind_fields_Directive_elements_1 v0 v1 v2) Tryz.call49 (fun h => fields_kind_fields_Directive_elements_1_calls h) h

/-- ascii_Trim -/
def ascii_Trim (v0 : Value) (Kp : PK) (K : Value → WP) : WP :=
  opN Tryz.prog (sCall (fn 64) [v0, (.string ⟨#[32, 9]⟩)]) Kp fun x4 =>
  K x4
def ascii_Trim_an : Ann := { cuts := [], blks := [], loops := [], drs := [] }
theorem ascii_Trim_eq (v0 : Value) (Kp : PK) (K : Value → WP) : cevF Tryz.prog ascii_Trim_an Tryz.f50 [v0] Kp K = ascii_Trim v0 Kp K := by kernel_rfl
theorem ascii_Trim_calls {v0 : Value} {Kp : PK} {K : Value → WP} {w : World} (h : ascii_Trim v0 Kp K w) : Calls Tryz.prog 50 #[v0] w (after Kp K) :=
  calls_of_shape (calls_of_cev wide Tryz.func50 (an := ascii_Trim_an) (args := [v0]) (cast (congrFun (ascii_Trim_eq v0 Kp K) w).symm h))
theorem ascii_Trim_cn {v0 : Value} {W : World} {α : Type} {A : List HP} {r : α → Value} {B : α → List HP} (h : ∀ F, Ent W (A ++ F) (ascii_Trim v0 noP fun v w => ∃ x, v = r x ∧ sat W (B x ++ F) w)) : Cn Tryz.prog 50 [v0] W A r B :=
  Cn.of (shape := ascii_Trim v0) Tryz.call50 (fun h => ascii_Trim_calls h) h
theorem ascii_Trim_cnP {v0 : Value} {W : World} {α β : Type} {A : List HP} {r : α → Value} {B : α → List HP} {pc : β → List PanicEntry} {Bp : β → List HP} (h : ∀ F, Ent W (A ++ F) (ascii_Trim v0 (fun ch w => ∃ y, ch = pc y ∧ sat W (Bp y ++ F) w) fun v w => ∃ x, v = r x ∧ sat W (B x ++ F) w)) : CnP Tryz.prog 50 [v0] W A r B pc Bp :=
  CnP.of (shape := ascii_Trim v0) Tryz.call50 (fun h => ascii_Trim_calls h) h

/-- stringslite_Cut -/
def stringslite_Cut (v0 v1 : Value) (Kp : PK) (K : Value → WP) : WP :=
  opN Tryz.prog (sCall (fn 65) [v0, v1]) Kp fun x10 =>
  opN Tryz.prog (sBin .geq 3 x10 (.int .i64 0)) Kp fun x12 =>
  condS x12
  (drS (stS Tryz.prog (sSl 9 v0 none (some x10) none) fun x15 =>
    stS Tryz.prog (sLen #[9] 3 [v1]) fun x19 =>
    stS Tryz.prog (sBin .add 3 x10 x19) fun x20 =>
    stS Tryz.prog (sSl 9 v0 (some x20) none none) fun x21 =>
    K (.tuple #[x15, x21, (.bool true)])))
  (K (.tuple #[v0, (.string ⟨#[]⟩), (.bool false)]))
def stringslite_Cut_an : Ann := { cuts := [], blks := [], loops := [], drs := [(3, [(0, 1), (1, 1), (2, 1), (3, 1), (4, 1), (5, 1), (6, 1), (7, 1), (8, 1), (9, 1), (10, 1), (11, 1)])] }
theorem stringslite_Cut_eq (v0 v1 : Value) (Kp : PK) (K : Value → WP) : cevF Tryz.prog stringslite_Cut_an Tryz.f51 [v0, v1] Kp K = stringslite_Cut v0 v1 Kp K := by kernel_rfl
theorem stringslite_Cut_calls {v0 v1 : Value} {Kp : PK} {K : Value → WP} {w : World} (h : stringslite_Cut v0 v1 Kp K w) : Calls Tryz.prog 51 #[v0, v1] w (after Kp K) :=
  calls_of_shape (calls_of_cev wide Tryz.func51 (an := stringslite_Cut_an) (args := [v0, v1]) (cast (congrFun (stringslite_Cut_eq v0 v1 Kp K) w).symm h))
theorem stringslite_Cut_cn {v0 v1 : Value} {W : World} {α : Type} {A : List HP} {r : α → Value} {B : α → List HP} (h : ∀ F, Ent W (A ++ F) (stringslite_Cut v0 v1 noP fun v w => ∃ x, v = r x ∧ sat W (B x ++ F) w)) : Cn Tryz.prog 51 [v0, v1] W A r B :=
  Cn.of (shape := stringslite_Cut v0 v1) Tryz.call51 (fun h => stringslite_Cut_calls h) h
theorem stringslite_Cut_cnP {v0 v1 : Value} {W : World} {α β : Type} {A : List HP} {r : α → Value} {B : α → List HP} {pc : β → List PanicEntry} {Bp : β → List HP} (h : ∀ F, Ent W (A ++ F) (stringslite_Cut v0 v1 (fun ch w => ∃ y, ch = pc y ∧ sat W (Bp y ++ F) w) fun v w => ∃ x, v = r x ∧ sat W (B x ++ F) w)) : CnP Tryz.prog 51 [v0, v1] W A r B pc Bp :=
  CnP.of (shape := stringslite_Cut v0 v1) Tryz.call51 (fun h => stringslite_Cut_calls h) h

/-- ref01_blank -/
def ref01_blank (v0 : Value) (Kp : PK) (K : Value → WP) : WP :=
  opN Tryz.prog (sEq .eql 5 (.tmp 3) (.const (.int .u8 9)) v0 (.int .u8 9)) Kp fun x4 =>
  gdK x4 false (fun k => k v0) fun x6 =>
  gdK x4 false (opN Tryz.prog (sEq .eql 5 (.tmp 6) (.const (.int .u8 32)) x6 (.int .u8 32)) Kp) fun x7 =>
  opN Tryz.prog (sPick x4 (.bool true) x7) Kp fun x8 =>
  K x8
def ref01_blank_an : Ann := { cuts := [], blks := [], loops := [], drs := [] }
theorem ref01_blank_eq (v0 : Value) (Kp : PK) (K : Value → WP) : cevF Tryz.prog ref01_blank_an Tryz.f52 [v0] Kp K = ref01_blank v0 Kp K := by kernel_rfl
theorem ref01_blank_calls {v0 : Value} {Kp : PK} {K : Value → WP} {w : World} (h : ref01_blank v0 Kp K w) : Calls Tryz.prog 52 #[v0] w (after Kp K) :=
  calls_of_shape (calls_of_cev wide Tryz.func52 (an := ref01_blank_an) (args := [v0]) (cast (congrFun (ref01_blank_eq v0 Kp K) w).symm h))
theorem ref01_blank_cn {v0 : Value} {W : World} {α : Type} {A : List HP} {r : α → Value} {B : α → List HP} (h : ∀ F, Ent W (A ++ F) (ref01_blank v0 noP fun v w => ∃ x, v = r x ∧ sat W (B x ++ F) w)) : Cn Tryz.prog 52 [v0] W A r B :=
  Cn.of (shape := ref01_blank v0) Tryz.call52 (fun h => ref01_blank_calls h) h
theorem ref01_blank_cnP {v0 : Value} {W : World} {α β : Type} {A : List HP} {r : α → Value} {B : α → List HP} {pc : β → List PanicEntry} {Bp : β → List HP} (h : ∀ F, Ent W (A ++ F) (ref01_blank v0 (fun ch w => ∃ y, ch = pc y ∧ sat W (Bp y ++ F) w) fun v w => ∃ x, v = r x ∧ sat W (B x ++ F) w)) : CnP Tryz.prog 52 [v0] W A r B pc Bp :=
  CnP.of (shape := ref01_blank v0) Tryz.call52 (fun h => ref01_blank_calls h) h

/-- ref01_letter -/
def ref01_letter (v0 : Value) (Kp : PK) (K : Value → WP) : WP :=
  opN Tryz.prog (sBin .geq 5 v0 (.int .u8 97)) Kp fun x4 =>
  gdK x4 true (fun k => k v0) fun x6 =>
  gdK x4 true (opN Tryz.prog (sBin .leq 5 x6 (.int .u8 122)) Kp) fun x7 =>
  opN Tryz.prog (sPick x4 x7 (.bool false)) Kp fun x8 =>
  gdK x8 false (fun k => k v0) fun x10 =>
  gdK x8 false (opN Tryz.prog (sBin .geq 5 x10 (.int .u8 65)) Kp) fun x11 =>
  gdK x8 false (fun k => k x11) fun x12 =>
  gdK x12 true (fun k => k v0) fun x13 =>
  gdK x12 true (opN Tryz.prog (sBin .leq 5 x13 (.int .u8 90)) Kp) fun x14 =>
  gdK x8 false (opN Tryz.prog (sPick x12 x14 (.bool false)) Kp) fun x15 =>
  opN Tryz.prog (sPick x8 (.bool true) x15) Kp fun x16 =>
  gdK x16 false (fun k => k v0) fun x18 =>
  gdK x16 false (opN Tryz.prog (sBin .geq 5 x18 (.int .u8 48)) Kp) fun x19 =>
  gdK x16 false (fun k => k x19) fun x20 =>
  gdK x20 true (fun k => k v0) fun x21 =>
  gdK x20 true (opN Tryz.prog (sBin .leq 5 x21 (.int .u8 57)) Kp) fun x22 =>
  gdK x16 false (opN Tryz.prog (sPick x20 x22 (.bool false)) Kp) fun x23 =>
  opN Tryz.prog (sPick x16 (.bool true) x23) Kp fun x24 =>
  K x24
def ref01_letter_an : Ann := { cuts := [], blks := [], loops := [], drs := [] }
theorem ref01_letter_eq (v0 : Value) (Kp : PK) (K : Value → WP) : cevF Tryz.prog ref01_letter_an Tryz.f53 [v0] Kp K = ref01_letter v0 Kp K := by kernel_rfl
theorem ref01_letter_calls {v0 : Value} {Kp : PK} {K : Value → WP} {w : World} (h : ref01_letter v0 Kp K w) : Calls Tryz.prog 53 #[v0] w (after Kp K) :=
  calls_of_shape (calls_of_cev wide Tryz.func53 (an := ref01_letter_an) (args := [v0]) (cast (congrFun (ref01_letter_eq v0 Kp K) w).symm h))
theorem ref01_letter_cn {v0 : Value} {W : World} {α : Type} {A : List HP} {r : α → Value} {B : α → List HP} (h : ∀ F, Ent W (A ++ F) (ref01_letter v0 noP fun v w => ∃ x, v = r x ∧ sat W (B x ++ F) w)) : Cn Tryz.prog 53 [v0] W A r B :=
  Cn.of (shape := ref01_letter v0) Tryz.call53 (fun h => ref01_letter_calls h) h
theorem ref01_letter_cnP {v0 : Value} {W : World} {α β : Type} {A : List HP} {r : α → Value} {B : α → List HP} {pc : β → List PanicEntry} {Bp : β → List HP} (h : ∀ F, Ent W (A ++ F) (ref01_letter v0 (fun ch w => ∃ y, ch = pc y ∧ sat W (Bp y ++ F) w) fun v w => ∃ x, v = r x ∧ sat W (B x ++ F) w)) : CnP Tryz.prog 53 [v0] W A r B pc Bp :=
  CnP.of (shape := ref01_letter v0) Tryz.call53 (fun h => ref01_letter_calls h) h

/-- strings_Replacer_build -/
def strings_Replacer_build (v0 : Value) (Kp : PK) (K : Value → WP) : WP :=
  opN Tryz.prog (sNil v0) Kp fun x16 =>
  opN Tryz.prog (sFA 100 x16 2) Kp fun x17 =>
  opN Tryz.prog (sLoad 50 x17) Kp fun x18 =>
  opN Tryz.prog (sLen #[50] 3 [x18]) Kp fun x20 =>
  opN Tryz.prog (sEq .eql 3 (.tmp 20) (.const (.int .i64 2)) x20 (.int .i64 2)) Kp fun x21 =>
  gdK x21 true (fun k => k x18) fun x23 =>
  gdK x21 true (opN Tryz.prog (sIA 50 x23 (.int .i64 0)) Kp) fun x24 =>
  gdK x21 true (opN Tryz.prog (sLoad 9 x24) Kp) fun x25 =>
  gdK x21 true (opN Tryz.prog (sLen #[9] 3 [x25]) Kp) fun x26 =>
  gdK x21 true (opN Tryz.prog (sBin .gtr 3 x26 (.int .i64 1)) Kp) fun x27 =>
  opN Tryz.prog (sPick x21 x27 (.bool false)) Kp fun x28 =>
  condS x28
  (drS (stS Tryz.prog (sIA 50 x18 (.int .i64 0)) fun x30 =>
    stS Tryz.prog (sLoad 9 x30) fun x31 =>
    stS Tryz.prog (sIA 50 x18 (.int .i64 1)) fun x33 =>
    stS Tryz.prog (sLoad 9 x33) fun x34 =>
    opN Tryz.prog (sCall (fn 70) [x31, x34]) Kp fun x35 =>
    stS Tryz.prog (sMkI 135 x35) fun x36 =>
    K x36))
  (loop2 (fun I1 m1 _ y4 y5 =>
    opN Tryz.prog (sLen #[50] 3 [x18]) Kp fun x39 =>
    opN Tryz.prog (sBin .lss 3 y5 x39) Kp fun x40 =>
    condS x40
    (opN Tryz.prog (sIA 50 x18 y5) Kp fun x45 =>
     opN Tryz.prog (sLoad 9 x45) Kp fun x46 =>
     opN Tryz.prog (sLen #[9] 3 [x46]) Kp fun x47 =>
     opN Tryz.prog (sEq .neq 3 (.tmp 47) (.const (.int .i64 1)) x47 (.int .i64 1)) Kp fun x48 =>
     condS x48
     (opN Tryz.prog (sCall (fn 71) [x18]) Kp fun x50 =>
      opN Tryz.prog (sMkI 137 x50) Kp fun x51 =>
      K x51)
     (opN Tryz.prog (sBin .add 3 y5 (.int .i64 1)) Kp fun x54 =>
      opN Tryz.prog (sIA 50 x18 x54) Kp fun x55 =>
      opN Tryz.prog (sLoad 9 x55) Kp fun x56 =>
      opN Tryz.prog (sLen #[9] 3 [x56]) Kp fun x57 =>
      opN Tryz.prog (sEq .neq 3 (.tmp 57) (.const (.int .i64 1)) x57 (.int .i64 1)) Kp fun x58 =>
      condS x58
      (opN Tryz.prog (sBin .add 3 y5 (.int .i64 2)) Kp fun x42 =>
       next2 I1 m1 (.bool false) x42)
      (opN Tryz.prog (sBin .add 3 y5 (.int .i64 2)) Kp fun x42 =>
       next2 I1 m1 y4 x42)))
    (condS y4
     (opN Tryz.prog (sBuild 140 []) Kp fun x60 =>
      opN Tryz.prog (sAlloc 140) Kp fun x6 =>
      opN Tryz.prog (sStore 140 x6 x60) Kp fun _ =>
      loop1 (fun I2 m2 _ y61 =>
       opN Tryz.prog (sBin .lss 3 y61 (.int .i64 256)) Kp fun x62 =>
       condS x62
       (opN Tryz.prog (sConv 3 5 y61) Kp fun x66 =>
        opN Tryz.prog (sIA 140 x6 y61) Kp fun x67 =>
        opN Tryz.prog (sStore 5 x67 x66) Kp fun _ =>
        opN Tryz.prog (sBin .add 3 y61 (.int .i64 1)) Kp fun x68 =>
        next1 I2 m2 x68)
       (opN Tryz.prog (sLen #[50] 3 [x18]) Kp fun x70 =>
        opN Tryz.prog (sBin .sub 3 x70 (.int .i64 2)) Kp fun x71 =>
        loop1 (fun I3 m3 _ y8 =>
         opN Tryz.prog (sBin .geq 3 y8 (.int .i64 0)) Kp fun x73 =>
         condS x73
         (opN Tryz.prog (sIA 50 x18 y8) Kp fun x78 =>
          opN Tryz.prog (sLoad 9 x78) Kp fun x79 =>
          opN Tryz.prog (sIx 9 x79 (.int .i64 0)) Kp fun x80 =>
          opN Tryz.prog (sBin .add 3 y8 (.int .i64 1)) Kp fun x83 =>
          opN Tryz.prog (sIA 50 x18 x83) Kp fun x84 =>
          opN Tryz.prog (sLoad 9 x84) Kp fun x85 =>
          opN Tryz.prog (sIx 9 x85 (.int .i64 0)) Kp fun x86 =>
          opN Tryz.prog (sIA 140 x6 x80) Kp fun x89 =>
          opN Tryz.prog (sStore 5 x89 x86) Kp fun _ =>
          opN Tryz.prog (sBin .sub 3 y8 (.int .i64 2)) Kp fun x75 =>
          next1 I3 m3 x75)
         (opN Tryz.prog (sMkI 141 x6) Kp fun x90 =>
          K x90)) x71)) (.int .i64 0))
     (opN Tryz.prog (sLen #[50] 3 [x18]) Kp fun x92 =>
      opN Tryz.prog (sBin .quo 3 x92 (.int .i64 2)) Kp fun x93 =>
      opN Tryz.prog (sMkSl 50 (.int .i64 0) x93) Kp fun x94 =>
      opN Tryz.prog (sBuild 144 [(1, x94)]) Kp fun x95 =>
      opN Tryz.prog (sAlloc 144) Kp fun x11 =>
      opN Tryz.prog (sStore 144 x11 x95) Kp fun _ =>
      opN Tryz.prog (sLen #[50] 3 [x18]) Kp fun x97 =>
      opN Tryz.prog (sBin .sub 3 x97 (.int .i64 2)) Kp fun x98 =>
      loop1 (fun I4 m4 _ y12 =>
       opN Tryz.prog (sBin .geq 3 y12 (.int .i64 0)) Kp fun x100 =>
       condS x100
       (opN Tryz.prog (sIA 50 x18 y12) Kp fun x105 =>
        opN Tryz.prog (sLoad 9 x105) Kp fun x106 =>
        opN Tryz.prog (sIx 9 x106 (.int .i64 0)) Kp fun x107 =>
        opN Tryz.prog (sBin .add 3 y12 (.int .i64 1)) Kp fun x110 =>
        opN Tryz.prog (sIA 50 x18 x110) Kp fun x111 =>
        opN Tryz.prog (sLoad 9 x111) Kp fun x112 =>
        cut0 (fun J1 =>
         opN Tryz.prog (sFA 144 x11 0) Kp fun x114 =>
         opN Tryz.prog (sIA 142 x114 x107) Kp fun x115 =>
         opN Tryz.prog (sLoad 57 x115) Kp fun x116 =>
         opN Tryz.prog (sEq .eql 57 (.tmp 116) (.const (.slice none 0 0)) x116 (.slice none 0 0)) Kp fun x117 =>
         condS x117
         (opN Tryz.prog (sFA 144 x11 1) Kp fun x118 =>
          opN Tryz.prog (sLoad 50 x118) Kp fun x119 =>
          opN Tryz.prog (sBuildSl 57 1 [(0, x107)]) Kp fun x121 =>
          opN Tryz.prog (sConv 57 9 x121) Kp fun x122 =>
          opN Tryz.prog (sBuildSl 50 1 [(0, x122)]) Kp fun x123 =>
          opN Tryz.prog (sApp #[50, 50] 50 [x119, x123]) Kp fun x124 =>
          opN Tryz.prog (sFA 144 x11 1) Kp fun x125 =>
          opN Tryz.prog (sStore 50 x125 x124) Kp fun _ =>
          J1)
         (J1)) fun _ =>
        opN Tryz.prog (sConv 9 57 x112) Kp fun x128 =>
        opN Tryz.prog (sFA 144 x11 0) Kp fun x129 =>
        opN Tryz.prog (sIA 142 x129 x107) Kp fun x130 =>
        opN Tryz.prog (sStore 57 x130 x128) Kp fun _ =>
        opN Tryz.prog (sBin .sub 3 y12 (.int .i64 2)) Kp fun x102 =>
        next1 I4 m4 x102)
       (opN Tryz.prog (sMkI 145 x11) Kp fun x131 =>
        K x131)) x98))) (.bool true) (.int .i64 0))
def strings_Replacer_build_an : Ann := { cuts := [(34, [])], blks := [], loops := [(6, [4, 5]), (15, [61]), (20, [8]), (28, [12])], drs := [(3, [(0, 1), (1, 1), (2, 1), (3, 1), (4, 1), (5, 1), (6, 0), (7, 1), (8, 1)])] }
theorem strings_Replacer_build_eq (v0 : Value) (Kp : PK) (K : Value → WP) : cevF Tryz.prog strings_Replacer_build_an Tryz.f56 [v0] Kp K = strings_Replacer_build v0 Kp K := by kernel_rfl
theorem strings_Replacer_build_calls {v0 : Value} {Kp : PK} {K : Value → WP} {w : World} (h : strings_Replacer_build v0 Kp K w) : Calls Tryz.prog 56 #[v0] w (after Kp K) :=
  calls_of_shape (calls_of_cev wide Tryz.func56 (an := strings_Replacer_build_an) (args := [v0]) (cast (congrFun (strings_Replacer_build_eq v0 Kp K) w).symm h))
theorem strings_Replacer_build_cn {v0 : Value} {W : World} {α : Type} {A : List HP} {r : α → Value} {B : α → List HP} (h : ∀ F, Ent W (A ++ F) (strings_Replacer_build v0 noP fun v w => ∃ x, v = r x ∧ sat W (B x ++ F) w)) : Cn Tryz.prog 56 [v0] W A r B :=
  Cn.of (shape := strings_Replacer_build v0) Tryz.call56 (fun h => strings_Replacer_build_calls h) h
theorem strings_Replacer_build_cnP {v0 : Value} {W : World} {α β : Type} {A : List HP} {r : α → Value} {B : α → List HP} {pc : β → List PanicEntry} {Bp : β → List HP} (h : ∀ F, Ent W (A ++ F) (strings_Replacer_build v0 (fun ch w => ∃ y, ch = pc y ∧ sat W (Bp y ++ F) w) fun v w => ∃ x, v = r x ∧ sat W (B x ++ F) w)) : CnP Tryz.prog 56 [v0] W A r B pc Bp :=
  CnP.of (shape := strings_Replacer_build v0) Tryz.call56 (fun h => strings_Replacer_build_calls h) h

/-- strconv_ParseUint -/
def strconv_ParseUint (v0 v1 v2 : Value) (Kp : PK) (K : Value → WP) : WP :=
  opN Tryz.prog (sCall (fn 72) [v0, v1, v2]) Kp fun x14 =>
  opN Tryz.prog (sExt x14 0) Kp fun x15 =>
  opN Tryz.prog (sExt x14 1) Kp fun x16 =>
  opN Tryz.prog (sEq .neq 119 (.tmp 17) (.const .nilIface) x16 .nilIface) Kp fun x18 =>
  condS x18
  (opN Tryz.prog (sCall (fn 73) [(.string ⟨#[80, 97, 114, 115, 101, 85, 105, 110, 116]⟩), v0, v1, v2, x16]) Kp fun x24 =>
   K (.tuple #[x15, x24]))
  (K (.tuple #[x15, .nilIface]))
def strconv_ParseUint_an : Ann := { cuts := [], blks := [], loops := [], drs := [] }
theorem strconv_ParseUint_eq (v0 v1 v2 : Value) (Kp : PK) (K : Value → WP) : cevF Tryz.prog strconv_ParseUint_an Tryz.f57 [v0, v1, v2] Kp K = strconv_ParseUint v0 v1 v2 Kp K := by kernel_rfl
theorem strconv_ParseUint_calls {v0 v1 v2 : Value} {Kp : PK} {K : Value → WP} {w : World} (h : strconv_ParseUint v0 v1 v2 Kp K w) : Calls Tryz.prog 57 #[v0, v1, v2] w (after Kp K) :=
  calls_of_shape (calls_of_cev wide Tryz.func57 (an := strconv_ParseUint_an) (args := [v0, v1, v2]) (cast (congrFun (strconv_ParseUint_eq v0 v1 v2 Kp K) w).symm h))
theorem strconv_ParseUint_cn {v0 v1 v2 : Value} {W : World} {α : Type} {A : List HP} {r : α → Value} {B : α → List HP} (h : ∀ F, Ent W (A ++ F) (strconv_ParseUint v0 v1 v2 noP fun v w => ∃ x, v = r x ∧ sat W (B x ++ F) w)) : Cn Tryz.prog 57 [v0, v1, v2] W A r B :=
  Cn.of (shape := strconv_ParseUint v0 v1 v2) Tryz.call57 (fun h => strconv_ParseUint_calls h) h
theorem strconv_ParseUint_cnP {v0 v1 v2 : Value} {W : World} {α β : Type} {A : List HP} {r : α → Value} {B : α → List HP} {pc : β → List PanicEntry} {Bp : β → List HP} (h : ∀ F, Ent W (A ++ F) (strconv_ParseUint v0 v1 v2 (fun ch w => ∃ y, ch = pc y ∧ sat W (Bp y ++ F) w) fun v w => ∃ x, v = r x ∧ sat W (B x ++ F) w)) : CnP Tryz.prog 57 [v0, v1, v2] W A r B pc Bp :=
  CnP.of (shape := strconv_ParseUint v0 v1 v2) Tryz.call57 (fun h => strconv_ParseUint_calls h) h

/-- ref01_worth -/
def ref01_worth (v0 v1 : Value) (Kp : PK) (K : Value → WP) : WP :=
  cut1 (fun J1 =>
   opN Tryz.prog (sBin .geq 5 v0 (.int .u8 48)) Kp fun x8 =>
   gdK x8 true (fun k => k v0) fun x10 =>
   gdK x8 true (opN Tryz.prog (sBin .leq 5 x10 (.int .u8 57)) Kp) fun x11 =>
   opN Tryz.prog (sPick x8 x11 (.bool false)) Kp fun x12 =>
   condS x12
   (opN Tryz.prog (sBin .sub 5 v0 (.int .u8 48)) Kp fun x14 =>
    opN Tryz.prog (sConv 5 3 x14) Kp fun x15 =>
    J1 x15)
   (opN Tryz.prog (sBin .geq 5 v0 (.int .u8 97)) Kp fun x18 =>
    gdK x18 true (fun k => k v0) fun x20 =>
    gdK x18 true (opN Tryz.prog (sBin .leq 5 x20 (.int .u8 102)) Kp) fun x21 =>
    opN Tryz.prog (sPick x18 x21 (.bool false)) Kp fun x22 =>
    condS x22
    (opN Tryz.prog (sBin .sub 5 v0 (.int .u8 97)) Kp fun x24 =>
     opN Tryz.prog (sConv 5 3 x24) Kp fun x25 =>
     opN Tryz.prog (sBin .add 3 x25 (.int .i64 10)) Kp fun x26 =>
     J1 x26)
    (opN Tryz.prog (sBin .geq 5 v0 (.int .u8 65)) Kp fun x29 =>
     gdK x29 true (fun k => k v0) fun x31 =>
     gdK x29 true (opN Tryz.prog (sBin .leq 5 x31 (.int .u8 70)) Kp) fun x32 =>
     opN Tryz.prog (sPick x29 x32 (.bool false)) Kp fun x33 =>
     condS x33
     (opN Tryz.prog (sBin .sub 5 v0 (.int .u8 65)) Kp fun x35 =>
      opN Tryz.prog (sConv 5 3 x35) Kp fun x36 =>
      opN Tryz.prog (sBin .add 3 x36 (.int .i64 10)) Kp fun x37 =>
      J1 x37)
     (J1 (.int .i64 (-1)))))) fun _ z5 =>
  opN Tryz.prog (sBin .geq 3 z5 v1) Kp fun x40 =>
  condS x40
  (K (.int .i64 (-1)))
  (K z5)
def ref01_worth_an : Ann := { cuts := [(8, [5])], blks := [], loops := [], drs := [] }
theorem ref01_worth_eq (v0 v1 : Value) (Kp : PK) (K : Value → WP) : cevF Tryz.prog ref01_worth_an Tryz.f58 [v0, v1] Kp K = ref01_worth v0 v1 Kp K := by kernel_rfl
theorem ref01_worth_calls {v0 v1 : Value} {Kp : PK} {K : Value → WP} {w : World} (h : ref01_worth v0 v1 Kp K w) : Calls Tryz.prog 58 #[v0, v1] w (after Kp K) :=
  calls_of_shape (calls_of_cev wide Tryz.func58 (an := ref01_worth_an) (args := [v0, v1]) (cast (congrFun (ref01_worth_eq v0 v1 Kp K) w).symm h))
theorem ref01_worth_cn {v0 v1 : Value} {W : World} {α : Type} {A : List HP} {r : α → Value} {B : α → List HP} (h : ∀ F, Ent W (A ++ F) (ref01_worth v0 v1 noP fun v w => ∃ x, v = r x ∧ sat W (B x ++ F) w)) : Cn Tryz.prog 58 [v0, v1] W A r B :=
  Cn.of (shape := ref01_worth v0 v1) Tryz.call58 (fun h => ref01_worth_calls h) h
theorem ref01_worth_cnP {v0 v1 : Value} {W : World} {α β : Type} {A : List HP} {r : α → Value} {B : α → List HP} {pc : β → List PanicEntry} {Bp : β → List HP} (h : ∀ F, Ent W (A ++ F) (ref01_worth v0 v1 (fun ch w => ∃ y, ch = pc y ∧ sat W (Bp y ++ F) w) fun v w => ∃ x, v = r x ∧ sat W (B x ++ F) w)) : CnP Tryz.prog 58 [v0, v1] W A r B pc Bp :=
  CnP.of (shape := ref01_worth v0 v1) Tryz.call58 (fun h => ref01_worth_calls h) h

/-- fields_kind_fields_Choice_elements -/
def fields_kind_fields_Choice_elements (v0 v1 : Value) (Kp : PK) (K : Value → WP) : WP :=
  opN Tryz.prog (sBox 107 v0) Kp fun x2 =>
  opN Tryz.prog (sBox 9 v1) Kp fun x3 =>
  opN Tryz.prog (sMkF (.func 74) [] [x3, x2]) Kp fun x5 =>
  K x5
def fields_kind_fields_Choice_elements_an : Ann := { cuts := [], blks := [], loops := [], drs := [] }
theorem fields_kind_fields_Choice_elements_eq (v0 v1 : Value) (Kp : PK) (K : Value → WP) : cevF Tryz.prog fields_kind_fields_Choice_elements_an Tryz.f59 [v0, v1] Kp K = fields_kind_fields_Choice_elements v0 v1 Kp K := by kernel_rfl
theorem fields_kind_fields_Choice_elements_calls {v0 v1 : Value} {Kp : PK} {K : Value → WP} {w : World} (h : fields_kind_fields_Choice_elements v0 v1 Kp K w) : Calls Tryz.prog 59 #[v0, v1] w (after Kp K) :=
  calls_of_shape (calls_of_cev wide Tryz.func59 (an := fields_kind_fields_Choice_elements_an) (args := [v0, v1]) (cast (congrFun (fields_kind_fields_Choice_elements_eq v0 v1 Kp K) w).symm h))
theorem fields_kind_fields_Choice_elements_cn {v0 v1 : Value} {W : World} {α : Type} {A : List HP} {r : α → Value} {B : α → List HP} (h : ∀ F, Ent W (A ++ F) (fields_kind_fields_Choice_elements v0 v1 noP fun v w => ∃ x, v = r x ∧ sat W (B x ++ F) w)) : Cn Tryz.prog 59 [v0, v1] W A r B :=
  Cn.of (shape := fields_kind_fields_Choice_elements v0 v1) Tryz.call59 (fun h => fields_kind_fields_Choice_elements_calls h) h
theorem fields_kind_fields_Choice_elements_cnP {v0 v1 : Value} {W : World} {α β : Type} {A : List HP} {r : α → Value} {B : α → List HP} {pc : β → List PanicEntry} {Bp : β → List HP} (h : ∀ F, Ent W (A ++ F) (fields_kind_fields_Choice_elements v0 v1 (fun ch w => ∃ y, ch = pc y ∧ sat W (Bp y ++ F) w) fun v w => ∃ x, v = r x ∧ sat W (B x ++ F) w)) : CnP Tryz.prog 59 [v0, v1] W A r B pc Bp :=
  CnP.of (shape := fields_kind_fields_Choice_elements v0 v1) Tryz.call59 (fun h => fields_kind_fields_Choice_elements_calls h) h

/-- fields_weight -/
def fields_weight (v0 : Value) (Kp : PK) (K : Value → WP) : WP :=
  opN Tryz.prog (sCall (fn 32) [v0, (.string ⟨#[46]⟩)]) Kp fun x11 =>
  opN Tryz.prog (sExt x11 0) Kp fun x12 =>
  opN Tryz.prog (sExt x11 1) Kp fun x13 =>
  opN Tryz.prog (sExt x11 2) Kp fun x14 =>
  opN Tryz.prog (sEq .neq 9 (.tmp 15) (.const (.string ⟨#[48]⟩)) x12 (.string ⟨#[48]⟩)) Kp fun x16 =>
  gdK x16 true (fun k => k x12) fun x18 =>
  gdK x16 true (opN Tryz.prog (sEq .neq 9 (.tmp 18) (.const (.string ⟨#[49]⟩)) x18 (.string ⟨#[49]⟩)) Kp) fun x19 =>
  opN Tryz.prog (sPick x16 x19 (.bool false)) Kp fun x20 =>
  gdK x20 false (fun k => k x13) fun x22 =>
  gdK x20 false (opN Tryz.prog (sLen #[9] 3 [x22]) Kp) fun x23 =>
  gdK x20 false (opN Tryz.prog (sBin .gtr 3 x23 (.int .i64 3)) Kp) fun x24 =>
  opN Tryz.prog (sPick x20 (.bool true) x24) Kp fun x25 =>
  condS x25
  (K (.tuple #[(.int .i64 0), (.bool false)]))
  (opN Tryz.prog (sBin .add 9 x13 (.string ⟨#[48, 48, 48]⟩)) Kp fun x29 =>
   opN Tryz.prog (sSl 9 x29 none (some (.int .i64 3)) none) Kp fun x30 =>
   opN Tryz.prog (sBin .add 9 x12 x30) Kp fun x31 =>
   opN Tryz.prog (sCall (fn 24) [x31]) Kp fun x32 =>
   opN Tryz.prog (sExt x32 0) Kp fun x33 =>
   opN Tryz.prog (sExt x32 1) Kp fun x34 =>
   opN Tryz.prog (sEq .eql 23 (.tmp 36) (.const (.int .i64 0)) x34 (.int .i64 0)) Kp fun x37 =>
   gdK x37 true (fun k => k x33) fun x39 =>
   gdK x37 true (opN Tryz.prog (sBin .leq 3 x39 (.int .i64 1000)) Kp) fun x40 =>
   opN Tryz.prog (sPick x37 x40 (.bool false)) Kp fun x41 =>
   K (.tuple #[x33, x41]))
def fields_weight_an : Ann := { cuts := [], blks := [], loops := [], drs := [] }
theorem fields_weight_eq (v0 : Value) (Kp : PK) (K : Value → WP) : cevF Tryz.prog fields_weight_an Tryz.f60 [v0] Kp K = fields_weight v0 Kp K := by kernel_rfl
theorem fields_weight_calls {v0 : Value} {Kp : PK} {K : Value → WP} {w : World} (h : fields_weight v0 Kp K w) : Calls Tryz.prog 60 #[v0] w (after Kp K) :=
  calls_of_shape (calls_of_cev wide Tryz.func60 (an := fields_weight_an) (args := [v0]) (cast (congrFun (fields_weight_eq v0 Kp K) w).symm h))
theorem fields_weight_cn {v0 : Value} {W : World} {α : Type} {A : List HP} {r : α → Value} {B : α → List HP} (h : ∀ F, Ent W (A ++ F) (fields_weight v0 noP fun v w => ∃ x, v = r x ∧ sat W (B x ++ F) w)) : Cn Tryz.prog 60 [v0] W A r B :=
  Cn.of (shape := fields_weight v0) Tryz.call60 (fun h => fields_weight_calls h) h
theorem fields_weight_cnP {v0 : Value} {W : World} {α β : Type} {A : List HP} {r : α → Value} {B : α → List HP} {pc : β → List PanicEntry} {Bp : β → List HP} (h : ∀ F, Ent W (A ++ F) (fields_weight v0 (fun ch w => ∃ y, ch = pc y ∧ sat W (Bp y ++ F) w) fun v w => ∃ x, v = r x ∧ sat W (B x ++ F) w)) : CnP Tryz.prog 60 [v0] W A r B pc Bp :=
  CnP.of (shape := fields_weight v0) Tryz.call60 (fun h => fields_weight_calls h) h

/-- fields_kind_fields_Span_elements -/
def fields_kind_fields_Span_elements (v0 v1 : Value) (Kp : PK) (K : Value → WP) : WP :=
  opN Tryz.prog (sBox 111 v0) Kp fun x2 =>
  opN Tryz.prog (sBox 9 v1) Kp fun x3 =>
  opN Tryz.prog (sMkF (.func 75) [] [x3, x2]) Kp fun x5 =>
  K x5
def fields_kind_fields_Span_elements_an : Ann := { cuts := [], blks := [], loops := [], drs := [] }
theorem fields_kind_fields_Span_elements_eq (v0 v1 : Value) (Kp : PK) (K : Value → WP) : cevF Tryz.prog fields_kind_fields_Span_elements_an Tryz.f61 [v0, v1] Kp K = fields_kind_fields_Span_elements v0 v1 Kp K := by kernel_rfl
theorem fields_kind_fields_Span_elements_calls {v0 v1 : Value} {Kp : PK} {K : Value → WP} {w : World} (h : fields_kind_fields_Span_elements v0 v1 Kp K w) : Calls Tryz.prog 61 #[v0, v1] w (after Kp K) :=
  calls_of_shape (calls_of_cev wide Tryz.func61 (an := fields_kind_fields_Span_elements_an) (args := [v0, v1]) (cast (congrFun (fields_kind_fields_Span_elements_eq v0 v1 Kp K) w).symm h))
theorem fields_kind_fields_Span_elements_cn {v0 v1 : Value} {W : World} {α : Type} {A : List HP} {r : α → Value} {B : α → List HP} (h : ∀ F, Ent W (A ++ F) (fields_kind_fields_Span_elements v0 v1 noP fun v w => ∃ x, v = r x ∧ sat W (B x ++ F) w)) : Cn Tryz.prog 61 [v0, v1] W A r B :=
  Cn.of (shape := fields_kind_fields_Span_elements v0 v1) Tryz.call61 (fun h => fields_kind_fields_Span_elements_calls h) h
theorem fields_kind_fields_Span_elements_cnP {v0 v1 : Value} {W : World} {α β : Type} {A : List HP} {r : α → Value} {B : α → List HP} {pc : β → List PanicEntry} {Bp : β → List HP} (h : ∀ F, Ent W (A ++ F) (fields_kind_fields_Span_elements v0 v1 (fun ch w => ∃ y, ch = pc y ∧ sat W (Bp y ++ F) w) fun v w => ∃ x, v = r x ∧ sat W (B x ++ F) w)) : CnP Tryz.prog 61 [v0, v1] W A r B pc Bp :=
  CnP.of (shape := fields_kind_fields_Span_elements v0 v1) Tryz.call61 (fun h => fields_kind_fields_Span_elements_calls h) h

/-- stringslite_CutPrefix -/
def stringslite_CutPrefix (v0 v1 : Value) (Kp : PK) (K : Value → WP) : WP :=
  opN Tryz.prog (sCall (fn 76) [v0, v1]) Kp fun x8 =>
  opN Tryz.prog (sUn .not x8) Kp fun x9 =>
  condS x9
  (K (.tuple #[v0, (.bool false)]))
  (opN Tryz.prog (sLen #[9] 3 [v1]) Kp fun x13 =>
   opN Tryz.prog (sSl 9 v0 (some x13) none none) Kp fun x14 =>
   K (.tuple #[x14, (.bool true)]))
def stringslite_CutPrefix_an : Ann := { cuts := [], blks := [], loops := [], drs := [] }
theorem stringslite_CutPrefix_eq (v0 v1 : Value) (Kp : PK) (K : Value → WP) : cevF Tryz.prog stringslite_CutPrefix_an Tryz.f62 [v0, v1] Kp K = stringslite_CutPrefix v0 v1 Kp K := by kernel_rfl
theorem stringslite_CutPrefix_calls {v0 v1 : Value} {Kp : PK} {K : Value → WP} {w : World} (h : stringslite_CutPrefix v0 v1 Kp K w) : Calls Tryz.prog 62 #[v0, v1] w (after Kp K) :=
  calls_of_shape (calls_of_cev wide Tryz.func62 (an := stringslite_CutPrefix_an) (args := [v0, v1]) (cast (congrFun (stringslite_CutPrefix_eq v0 v1 Kp K) w).symm h))
theorem stringslite_CutPrefix_cn {v0 v1 : Value} {W : World} {α : Type} {A : List HP} {r : α → Value} {B : α → List HP} (h : ∀ F, Ent W (A ++ F) (stringslite_CutPrefix v0 v1 noP fun v w => ∃ x, v = r x ∧ sat W (B x ++ F) w)) : Cn Tryz.prog 62 [v0, v1] W A r B :=
  Cn.of (shape := stringslite_CutPrefix v0 v1) Tryz.call62 (fun h => stringslite_CutPrefix_calls h) h
theorem stringslite_CutPrefix_cnP {v0 v1 : Value} {W : World} {α β : Type} {A : List HP} {r : α → Value} {B : α → List HP} {pc : β → List PanicEntry} {Bp : β → List HP} (h : ∀ F, Ent W (A ++ F) (stringslite_CutPrefix v0 v1 (fun ch w => ∃ y, ch = pc y ∧ sat W (Bp y ++ F) w) fun v w => ∃ x, v = r x ∧ sat W (B x ++ F) w)) : CnP Tryz.prog 62 [v0, v1] W A r B pc Bp :=
  CnP.of (shape := stringslite_CutPrefix v0 v1) Tryz.call62 (fun h => stringslite_CutPrefix_calls h) h

/-- stringslite_IndexByte -/
def stringslite_IndexByte (v0 v1 : Value) (Kp : PK) (K : Value → WP) : WP :=
  opN Tryz.prog (sCall (fn 77) [v0, v1]) Kp fun x7 =>
  K x7
def stringslite_IndexByte_an : Ann := { cuts := [], blks := [], loops := [], drs := [] }
theorem stringslite_IndexByte_eq (v0 v1 : Value) (Kp : PK) (K : Value → WP) : cevF Tryz.prog stringslite_IndexByte_an Tryz.f63 [v0, v1] Kp K = stringslite_IndexByte v0 v1 Kp K := by kernel_rfl
theorem stringslite_IndexByte_calls {v0 v1 : Value} {Kp : PK} {K : Value → WP} {w : World} (h : stringslite_IndexByte v0 v1 Kp K w) : Calls Tryz.prog 63 #[v0, v1] w (after Kp K) :=
  calls_of_shape (calls_of_cev wide Tryz.func63 (an := stringslite_IndexByte_an) (args := [v0, v1]) (cast (congrFun (stringslite_IndexByte_eq v0 v1 Kp K) w).symm h))
theorem stringslite_IndexByte_cn {v0 v1 : Value} {W : World} {α : Type} {A : List HP} {r : α → Value} {B : α → List HP} (h : ∀ F, Ent W (A ++ F) (stringslite_IndexByte v0 v1 noP fun v w => ∃ x, v = r x ∧ sat W (B x ++ F) w)) : Cn Tryz.prog 63 [v0, v1] W A r B :=
  Cn.of (shape := stringslite_IndexByte v0 v1) Tryz.call63 (fun h => stringslite_IndexByte_calls h) h
theorem stringslite_IndexByte_cnP {v0 v1 : Value} {W : World} {α β : Type} {A : List HP} {r : α → Value} {B : α → List HP} {pc : β → List PanicEntry} {Bp : β → List HP} (h : ∀ F, Ent W (A ++ F) (stringslite_IndexByte v0 v1 (fun ch w => ∃ y, ch = pc y ∧ sat W (Bp y ++ F) w) fun v w => ∃ x, v = r x ∧ sat W (B x ++ F) w)) : CnP Tryz.prog 63 [v0, v1] W A r B pc Bp :=
  CnP.of (shape := stringslite_IndexByte v0 v1) Tryz.call63 (fun h => stringslite_IndexByte_calls h) h

/-- strings_Trim -/
def strings_Trim (v0 v1 : Value) (Kp : PK) (K : Value → WP) : WP :=
  opN Tryz.prog (sEq .eql 9 (.tmp 7) (.const (.string ⟨#[]⟩)) v0 (.string ⟨#[]⟩)) Kp fun x8 =>
  gdK x8 false (fun k => k v1) fun x10 =>
  gdK x8 false (opN Tryz.prog (sEq .eql 9 (.tmp 10) (.const (.string ⟨#[]⟩)) x10 (.string ⟨#[]⟩)) Kp) fun x11 =>
  opN Tryz.prog (sPick x8 (.bool true) x11) Kp fun x12 =>
  condS x12
  (K v0)
  (opN Tryz.prog (sLen #[9] 3 [v1]) Kp fun x15 =>
   opN Tryz.prog (sEq .eql 3 (.tmp 15) (.const (.int .i64 1)) x15 (.int .i64 1)) Kp fun x16 =>
   gdK x16 true (fun k => k v1) fun x18 =>
   gdK x16 true (opN Tryz.prog (sIx 9 x18 (.int .i64 0)) Kp) fun x19 =>
   gdK x16 true (opN Tryz.prog (sBin .lss 5 x19 (.int .u8 128)) Kp) fun x20 =>
   opN Tryz.prog (sPick x16 x20 (.bool false)) Kp fun x21 =>
   condS x21
   (drS (stS Tryz.prog (sIx 9 v1 (.int .i64 0)) fun x24 =>
     stD Tryz.prog (sIx 9 v1 (.int .i64 0)) fun D5 x27 =>
     opN Tryz.prog (sCall (fn 79) [v0, x24]) Kp fun x25 =>
     (fun w => D5 w ∧ (opN Tryz.prog (sCall (fn 78) [x25, x27]) Kp fun x28 =>
       K x28) w)))
   (opN Tryz.prog (sCall (fn 80) [v1]) Kp fun x31 =>
    opN Tryz.prog (sExt x31 0) Kp fun x32 =>
    opN Tryz.prog (sExt x31 1) Kp fun x33 =>
    opN Tryz.prog (sAlloc 149) Kp fun x5 =>
    opN Tryz.prog (sStore 149 x5 x32) Kp fun _ =>
    condS x33
    (opN Tryz.prog (sCall (fn 82) [v0, x5]) Kp fun x36 =>
     opN Tryz.prog (sCall (fn 81) [x36, x5]) Kp fun x37 =>
     K x37)
    (opN Tryz.prog (sCall (fn 84) [v0, v1]) Kp fun x40 =>
     opN Tryz.prog (sCall (fn 83) [x40, v1]) Kp fun x42 =>
     K x42)))
def strings_Trim_an : Ann := { cuts := [], blks := [], loops := [], drs := [(4, [(0, 1), (1, 1), (2, 1), (4, 2), (5, 3), (3, 0), (6, 0), (7, 1)])] }
theorem strings_Trim_eq (v0 v1 : Value) (Kp : PK) (K : Value → WP) : cevF Tryz.prog strings_Trim_an Tryz.f64 [v0, v1] Kp K = strings_Trim v0 v1 Kp K := by kernel_rfl
theorem strings_Trim_calls {v0 v1 : Value} {Kp : PK} {K : Value → WP} {w : World} (h : strings_Trim v0 v1 Kp K w) : Calls Tryz.prog 64 #[v0, v1] w (after Kp K) :=
  calls_of_shape (calls_of_cev wide Tryz.func64 (an := strings_Trim_an) (args := [v0, v1]) (cast (congrFun (strings_Trim_eq v0 v1 Kp K) w).symm h))
theorem strings_Trim_cn {v0 v1 : Value} {W : World} {α : Type} {A : List HP} {r : α → Value} {B : α → List HP} (h : ∀ F, Ent W (A ++ F) (strings_Trim v0 v1 noP fun v w => ∃ x, v = r x ∧ sat W (B x ++ F) w)) : Cn Tryz.prog 64 [v0, v1] W A r B :=
  Cn.of (shape := strings_Trim v0 v1) Tryz.call64 (fun h => strings_Trim_calls h) h
theorem strings_Trim_cnP {v0 v1 : Value} {W : World} {α β : Type} {A : List HP} {r : α → Value} {B : α → List HP} {pc : β → List PanicEntry} {Bp : β → List HP} (h : ∀ F, Ent W (A ++ F) (strings_Trim v0 v1 (fun ch w => ∃ y, ch = pc y ∧ sat W (Bp y ++ F) w) fun v w => ∃ x, v = r x ∧ sat W (B x ++ F) w)) : CnP Tryz.prog 64 [v0, v1] W A r B pc Bp :=
  CnP.of (shape := strings_Trim v0 v1) Tryz.call64 (fun h => strings_Trim_calls h) h

/-- stringslite_Index -/
def stringslite_Index (v0 v1 : Value) (Kp : PK) (K : Value → WP) : WP :=
  opN Tryz.prog (sLen #[9] 3 [v1]) Kp fun x15 =>
  opN Tryz.prog (sEq .eql 3 (.tmp 17) (.const (.int .i64 0)) x15 (.int .i64 0)) Kp fun x18 =>
  gdK x18 false (fun k => k v1) fun x20 =>
  gdK x18 false (fun k => k v0) fun x21 =>
  gdK x18 false (opN Tryz.prog (sEq .eql 9 (.tmp 20) (.tmp 21) x20 x21) Kp) fun x22 =>
  opN Tryz.prog (sPick x18 (.bool true) x22) Kp fun x23 =>
  condS x23
  (K (.int .i64 0))
  (opN Tryz.prog (sEq .eql 3 (.tmp 25) (.const (.int .i64 1)) x15 (.int .i64 1)) Kp fun x26 =>
   condS x26
   (opN Tryz.prog (sIx 9 v1 (.int .i64 0)) Kp fun x29 =>
    opN Tryz.prog (sCall (fn 63) [v0, x29]) Kp fun x30 =>
    K x30)
   (opN Tryz.prog (sLen #[9] 3 [v0]) Kp fun x34 =>
    opN Tryz.prog (sBin .geq 3 x15 x34) Kp fun x35 =>
    condS x35
    (K (.int .i64 (-1)))
    (opN Tryz.prog (sLoad 3 (.pointer (some ⟨0, 0, none⟩))) Kp fun x38 =>
     opN Tryz.prog (sBin .leq 3 x15 x38) Kp fun x39 =>
     gdK x39 true (fun k => k v0) fun x41 =>
     gdK x39 true (opN Tryz.prog (sLen #[9] 3 [x41]) Kp) fun x42 =>
     gdK x39 true (opN Tryz.prog (sBin .leq 3 x42 (.int .i64 64)) Kp) fun x43 =>
     opN Tryz.prog (sPick x39 x43 (.bool false)) Kp fun x44 =>
     condS x44
     (opN Tryz.prog (sCall (fn 85) [v0, v1]) Kp fun x47 =>
      K x47)
     (opN Tryz.prog (sIx 9 v1 (.int .i64 0)) Kp fun x49 =>
      opN Tryz.prog (sIx 9 v1 (.int .i64 1)) Kp fun x51 =>
      opN Tryz.prog (sLen #[9] 3 [v0]) Kp fun x53 =>
      opN Tryz.prog (sBin .sub 3 x53 x15) Kp fun x55 =>
      opN Tryz.prog (sBin .add 3 x55 (.int .i64 1)) Kp fun x56 =>
      loop2 (fun I1 m1 _ y8 y10 =>
       opN Tryz.prog (sBin .lss 3 y8 x56) Kp fun x59 =>
       condS x59
       (cut1 (fun J1 =>
         opN Tryz.prog (sIx 9 v0 y8) Kp fun x62 =>
         opN Tryz.prog (sEq .neq 5 (.tmp 62) (.tmp 63) x62 x49) Kp fun x64 =>
         condS x64
         (opN Tryz.prog (sBin .add 3 y8 (.int .i64 1)) Kp fun x67 =>
          opN Tryz.prog (sSl 9 v0 (some x67) (some x56) none) Kp fun x69 =>
          opN Tryz.prog (sCall (fn 63) [x69, x49]) Kp fun x71 =>
          opN Tryz.prog (sBin .lss 3 x71 (.int .i64 0)) Kp fun x73 =>
          condS x73
          (K (.int .i64 (-1)))
          (opN Tryz.prog (sBin .add 3 x71 (.int .i64 1)) Kp fun x76 =>
           opN Tryz.prog (sBin .add 3 y8 x76) Kp fun x77 =>
           J1 x77))
         (J1 y8)) fun _ z8 =>
        opN Tryz.prog (sBin .add 3 z8 (.int .i64 1)) Kp fun x80 =>
        opN Tryz.prog (sIx 9 v0 x80) Kp fun x81 =>
        opN Tryz.prog (sEq .eql 5 (.tmp 81) (.tmp 82) x81 x51) Kp fun x83 =>
        gdK x83 true (fun k => k v0) fun x85 =>
        gdK x83 true (fun k => k z8) fun x86 =>
        gdK x83 true (fun k => k z8) fun x87 =>
        gdK x83 true (fun k => k x15) fun x88 =>
        gdK x83 true (opN Tryz.prog (sBin .add 3 x87 x88) Kp) fun x89 =>
        gdK x83 true (opN Tryz.prog (sSl 9 x85 (some x86) (some x89) none) Kp) fun x90 =>
        gdK x83 true (fun k => k v1) fun x91 =>
        gdK x83 true (opN Tryz.prog (sEq .eql 9 (.tmp 90) (.tmp 91) x90 x91) Kp) fun x92 =>
        opN Tryz.prog (sPick x83 x92 (.bool false)) Kp fun x93 =>
        condS x93
        (K z8)
        (opN Tryz.prog (sBin .add 3 z8 (.int .i64 1)) Kp fun x96 =>
         opN Tryz.prog (sBin .add 3 y10 (.int .i64 1)) Kp fun x98 =>
         opN Tryz.prog (sLoad 3 (.pointer (some ⟨0, 0, none⟩))) Kp fun x100 =>
         opN Tryz.prog (sBin .leq 3 x15 x100) Kp fun x101 =>
         gdK x101 true (fun k => k x98) fun x103 =>
         gdK x101 true (fun k => k x96) fun x104 =>
         gdK x101 true (opN Tryz.prog (sCall (fn 86) [x104]) Kp) fun x105 =>
         gdK x101 true (opN Tryz.prog (sBin .gtr 3 x103 x105) Kp) fun x106 =>
         opN Tryz.prog (sPick x101 x106 (.bool false)) Kp fun x107 =>
         condS x107
         (opN Tryz.prog (sSl 9 v0 (some x96) none none) Kp fun x110 =>
          opN Tryz.prog (sCall (fn 85) [x110, v1]) Kp fun x112 =>
          opN Tryz.prog (sBin .geq 3 x112 (.int .i64 0)) Kp fun x114 =>
          condS x114
          (opN Tryz.prog (sBin .add 3 x112 x96) Kp fun x117 =>
           K x117)
          (K (.int .i64 (-1))))
         (opN Tryz.prog (sLoad 3 (.pointer (some ⟨0, 0, none⟩))) Kp fun x119 =>
          opN Tryz.prog (sBin .gtr 3 x15 x119) Kp fun x120 =>
          gdK x120 true (fun k => k x98) fun x122 =>
          gdK x120 true (fun k => k x96) fun x123 =>
          gdK x120 true (opN Tryz.prog (sBin .shr 3 x123 (.int .u64 4)) Kp) fun x124 =>
          gdK x120 true (opN Tryz.prog (sBin .add 3 (.int .i64 4) x124) Kp) fun x125 =>
          gdK x120 true (opN Tryz.prog (sBin .geq 3 x122 x125) Kp) fun x126 =>
          opN Tryz.prog (sPick x120 x126 (.bool false)) Kp fun x127 =>
          gdK x127 true (fun k => k x96) fun x129 =>
          gdK x127 true (fun k => k x56) fun x130 =>
          gdK x127 true (opN Tryz.prog (sBin .lss 3 x129 x130) Kp) fun x131 =>
          opN Tryz.prog (sPick x127 x131 (.bool false)) Kp fun x132 =>
          condS x132
          (opN Tryz.prog (sSl 9 v0 (some x96) none none) Kp fun x135 =>
           opN Tryz.prog (sCall (fn 87) [x135, v1]) Kp fun x137 =>
           opN Tryz.prog (sBin .lss 3 x137 (.int .i64 0)) Kp fun x139 =>
           condS x139
           (K (.int .i64 (-1)))
           (opN Tryz.prog (sBin .add 3 x96 x137) Kp fun x142 =>
            K x142))
          (next2 I1 m1 x96 x98))))
       (K (.int .i64 (-1)))) (.int .i64 0) (.int .i64 0)))))
def stringslite_Index_an : Ann := { cuts := [(21, [8])], blks := [], loops := [(15, [8, 10])], drs := [] }
theorem stringslite_Index_eq (v0 v1 : Value) (Kp : PK) (K : Value → WP) : cevF Tryz.prog stringslite_Index_an Tryz.f65 [v0, v1] Kp K = stringslite_Index v0 v1 Kp K := by kernel_rfl
theorem stringslite_Index_calls {v0 v1 : Value} {Kp : PK} {K : Value → WP} {w : World} (h : stringslite_Index v0 v1 Kp K w) : Calls Tryz.prog 65 #[v0, v1] w (after Kp K) :=
  calls_of_shape (calls_of_cev wide Tryz.func65 (an := stringslite_Index_an) (args := [v0, v1]) (cast (congrFun (stringslite_Index_eq v0 v1 Kp K) w).symm h))
theorem stringslite_Index_cn {v0 v1 : Value} {W : World} {α : Type} {A : List HP} {r : α → Value} {B : α → List HP} (h : ∀ F, Ent W (A ++ F) (stringslite_Index v0 v1 noP fun v w => ∃ x, v = r x ∧ sat W (B x ++ F) w)) : Cn Tryz.prog 65 [v0, v1] W A r B :=
  Cn.of (shape := stringslite_Index v0 v1) Tryz.call65 (fun h => stringslite_Index_calls h) h
theorem stringslite_Index_cnP {v0 v1 : Value} {W : World} {α β : Type} {A : List HP} {r : α → Value} {B : α → List HP} {pc : β → List PanicEntry} {Bp : β → List HP} (h : ∀ F, Ent W (A ++ F) (stringslite_Index v0 v1 (fun ch w => ∃ y, ch = pc y ∧ sat W (Bp y ++ F) w) fun v w => ∃ x, v = r x ∧ sat W (B x ++ F) w)) : CnP Tryz.prog 65 [v0, v1] W A r B pc Bp :=
  CnP.of (shape := stringslite_Index v0 v1) Tryz.call65 (fun h => stringslite_Index_calls h) h

/-- strings_makeSingleStringReplacer -/
def strings_makeSingleStringReplacer (v0 v1 : Value) (Kp : PK) (K : Value → WP) : WP :=
  opN Tryz.prog (sCall (fn 92) [v0]) Kp fun x6 =>
  opN Tryz.prog (sBuild 162 [(0, x6), (1, v1)]) Kp fun x8 =>
  opN Tryz.prog (sBox 162 x8) Kp fun x9 =>
  K x9
def strings_makeSingleStringReplacer_an : Ann := { cuts := [], blks := [], loops := [], drs := [] }
theorem strings_makeSingleStringReplacer_eq (v0 v1 : Value) (Kp : PK) (K : Value → WP) : cevF Tryz.prog strings_makeSingleStringReplacer_an Tryz.f70 [v0, v1] Kp K = strings_makeSingleStringReplacer v0 v1 Kp K := by kernel_rfl
theorem strings_makeSingleStringReplacer_calls {v0 v1 : Value} {Kp : PK} {K : Value → WP} {w : World} (h : strings_makeSingleStringReplacer v0 v1 Kp K w) : Calls Tryz.prog 70 #[v0, v1] w (after Kp K) :=
  calls_of_shape (calls_of_cev wide Tryz.func70 (an := strings_makeSingleStringReplacer_an) (args := [v0, v1]) (cast (congrFun (strings_makeSingleStringReplacer_eq v0 v1 Kp K) w).symm h))
theorem strings_makeSingleStringReplacer_cn {v0 v1 : Value} {W : World} {α : Type} {A : List HP} {r : α → Value} {B : α → List HP} (h : ∀ F, Ent W (A ++ F) (strings_makeSingleStringReplacer v0 v1 noP fun v w => ∃ x, v = r x ∧ sat W (B x ++ F) w)) : Cn Tryz.prog 70 [v0, v1] W A r B :=
  Cn.of (shape := strings_makeSingleStringReplacer v0 v1) Tryz.call70 (fun h => strings_makeSingleStringReplacer_calls h) h
theorem strings_makeSingleStringReplacer_cnP {v0 v1 : Value} {W : World} {α β : Type} {A : List HP} {r : α → Value} {B : α → List HP} {pc : β → List PanicEntry} {Bp : β → List HP} (h : ∀ F, Ent W (A ++ F) (strings_makeSingleStringReplacer v0 v1 (fun ch w => ∃ y, ch = pc y ∧ sat W (Bp y ++ F) w) fun v w => ∃ x, v = r x ∧ sat W (B x ++ F) w)) : CnP Tryz.prog 70 [v0, v1] W A r B pc Bp :=
  CnP.of (shape := strings_makeSingleStringReplacer v0 v1) Tryz.call70 (fun h => strings_makeSingleStringReplacer_calls h) h

/-- strings_makeGenericReplacer -/
def strings_makeGenericReplacer (v0 : Value) (Kp : PK) (K : Value → WP) : WP :=
  opN Tryz.prog (sAlloc 168) Kp fun x13 =>
  loop1 (fun I1 m1 _ y4 =>
   opN Tryz.prog (sLen #[50] 3 [v0]) Kp fun x16 =>
   opN Tryz.prog (sBin .lss 3 y4 x16) Kp fun x17 =>
   condS x17
   (opN Tryz.prog (sIA 50 v0 y4) Kp fun x22 =>
    opN Tryz.prog (sLoad 9 x22) Kp fun x23 =>
    loop1 (fun I2 m2 _ y6 =>
     opN Tryz.prog (sLen #[9] 3 [x23]) Kp fun x26 =>
     opN Tryz.prog (sBin .lss 3 y6 x26) Kp fun x27 =>
     condS x27
     (drS (stS Tryz.prog (sIx 9 x23 y6) fun x33 =>
       stS Tryz.prog (sNil x13) fun x34 =>
       stS Tryz.prog (sFA 168 x34 2) fun x35 =>
       stS Tryz.prog (sIA 139 x35 x33) fun x36 =>
       opN Tryz.prog (sStore 5 x36 (.int .u8 1)) Kp fun _ =>
       opN Tryz.prog (sBin .add 3 y6 (.int .i64 1)) Kp fun x29 =>
       next1 I2 m2 x29))
     (opN Tryz.prog (sBin .add 3 y4 (.int .i64 2)) Kp fun x19 =>
      next1 I1 m1 x19)) (.int .i64 0))
   (opN Tryz.prog (sNil x13) Kp fun x38 =>
    opN Tryz.prog (sFA 168 x38 2) Kp fun x39 =>
    opN Tryz.prog (sLoad 139 x39) Kp fun x40 =>
    loop1 (fun I3 m3 _ y41 =>
     opN Tryz.prog (sBin .lss 3 y41 (.int .i64 256)) Kp fun x42 =>
     condS x42
     (opN Tryz.prog (sIx 139 x40 y41) Kp fun x43 =>
      opN Tryz.prog (sNil x13) Kp fun x45 =>
      opN Tryz.prog (sFA 168 x45 1) Kp fun x46 =>
      opN Tryz.prog (sLoad 3 x46) Kp fun x47 =>
      opN Tryz.prog (sConv 5 3 x43) Kp fun x49 =>
      opN Tryz.prog (sBin .add 3 x47 x49) Kp fun x50 =>
      opN Tryz.prog (sNil x13) Kp fun x51 =>
      opN Tryz.prog (sFA 168 x51 1) Kp fun x52 =>
      opN Tryz.prog (sStore 3 x52 x50) Kp fun _ =>
      opN Tryz.prog (sBin .add 3 y41 (.int .i64 1)) Kp fun x53 =>
      next1 I3 m3 x53)
     (opN Tryz.prog (sNil x13) Kp fun x55 =>
      opN Tryz.prog (sFA 168 x55 2) Kp fun x56 =>
      opN Tryz.prog (sLoad 139 x56) Kp fun x57 =>
      loop2 (fun I4 m4 _ y9 y58 =>
       opN Tryz.prog (sBin .lss 3 y58 (.int .i64 256)) Kp fun x59 =>
       condS x59
       (opN Tryz.prog (sIx 139 x57 y58) Kp fun x61 =>
        opN Tryz.prog (sEq .eql 5 (.tmp 62) (.const (.int .u8 0)) x61 (.int .u8 0)) Kp fun x63 =>
        condS x63
        (drS (stS Tryz.prog (sNil x13) fun x67 =>
          stS Tryz.prog (sFA 168 x67 1) fun x68 =>
          stS Tryz.prog (sLoad 3 x68) fun x69 =>
          stS Tryz.prog (sConv 3 5 x69) fun x70 =>
          stS Tryz.prog (sNil x13) fun x71 =>
          stS Tryz.prog (sFA 168 x71 2) fun x72 =>
          stS Tryz.prog (sIA 139 x72 y58) fun x73 =>
          opN Tryz.prog (sStore 5 x73 x70) Kp fun _ =>
          opN Tryz.prog (sBin .add 3 y58 (.int .i64 1)) Kp fun x82 =>
          next2 I4 m4 y9 x82))
        (opN Tryz.prog (sNil x13) Kp fun x77 =>
         opN Tryz.prog (sFA 168 x77 2) Kp fun x78 =>
         opN Tryz.prog (sIA 139 x78 y58) Kp fun x79 =>
         opN Tryz.prog (sStore 5 x79 y9) Kp fun _ =>
         opN Tryz.prog (sBin .add 5 y9 (.int .u8 1)) Kp fun x81 =>
         opN Tryz.prog (sBin .add 3 y58 (.int .i64 1)) Kp fun x82 =>
         next2 I4 m4 x81 x82))
       (opN Tryz.prog (sNil x13) Kp fun x85 =>
        opN Tryz.prog (sFA 168 x85 1) Kp fun x86 =>
        opN Tryz.prog (sLoad 3 x86) Kp fun x87 =>
        opN Tryz.prog (sMkSl 164 x87 x87) Kp fun x88 =>
        opN Tryz.prog (sNil x13) Kp fun x89 =>
        opN Tryz.prog (sFA 168 x89 0) Kp fun x90 =>
        opN Tryz.prog (sFA 166 x90 4) Kp fun x91 =>
        opN Tryz.prog (sStore 164 x91 x88) Kp fun _ =>
        loop1 (fun I5 m5 _ y12 =>
         opN Tryz.prog (sLen #[50] 3 [v0]) Kp fun x94 =>
         opN Tryz.prog (sBin .lss 3 y12 x94) Kp fun x95 =>
         condS x95
         (drS (stS Tryz.prog (sNil x13) fun x99 =>
           stS Tryz.prog (sFA 168 x99 0) fun x100 =>
           stS Tryz.prog (sIA 50 v0 y12) fun x103 =>
           stS Tryz.prog (sLoad 9 x103) fun x104 =>
           stS Tryz.prog (sBin .add 3 y12 (.int .i64 1)) fun x107 =>
           stS Tryz.prog (sIA 50 v0 x107) fun x108 =>
           stS Tryz.prog (sLoad 9 x108) fun x109 =>
           stS Tryz.prog (sLen #[50] 3 [v0]) fun x111 =>
           stS Tryz.prog (sBin .sub 3 x111 y12) fun x113 =>
           opN Tryz.prog (sCall (fn 93) [x100, x104, x109, x113, x13]) Kp fun x115 =>
           opN Tryz.prog (sBin .add 3 y12 (.int .i64 2)) Kp fun x97 =>
           next1 I5 m5 x97))
         (K x13)) (.int .i64 0))) (.int .u8 0) (.int .i64 0))) (.int .i64 0))) (.int .i64 0)
def strings_makeGenericReplacer_an : Ann := { cuts := [], blks := [], loops := [(3, [4]), (7, [6]), (11, [41]), (17, [9, 58]), (26, [12])], drs := [(9, [(0, 1), (1, 1), (2, 1), (3, 1), (4, 1), (5, 1), (6, 1), (7, 0)]), (20, [(0, 1), (1, 1), (2, 1), (3, 1), (4, 1), (5, 1), (6, 1), (7, 1), (8, 1), (9, 1), (10, 0)]), (28, [(0, 1), (1, 1), (2, 1), (3, 1), (4, 1), (5, 1), (6, 1), (7, 1), (8, 1), (9, 1), (10, 1), (11, 1), (12, 1), (13, 1), (14, 1), (15, 1), (16, 1), (17, 0)])] }
theorem strings_makeGenericReplacer_eq (v0 : Value) (Kp : PK) (K : Value → WP) : cevF Tryz.prog strings_makeGenericReplacer_an Tryz.f71 [v0] Kp K = strings_makeGenericReplacer v0 Kp K := by kernel_rfl
theorem strings_makeGenericReplacer_calls {v0 : Value} {Kp : PK} {K : Value → WP} {w : World} (h : strings_makeGenericReplacer v0 Kp K w) : Calls Tryz.prog 71 #[v0] w (after Kp K) :=
  calls_of_shape (calls_of_cev wide Tryz.func71 (an := strings_makeGenericReplacer_an) (args := [v0]) (cast (congrFun (strings_makeGenericReplacer_eq v0 Kp K) w).symm h))
theorem strings_makeGenericReplacer_cn {v0 : Value} {W : World} {α : Type} {A : List HP} {r : α → Value} {B : α → List HP} (h : ∀ F, Ent W (A ++ F) (strings_makeGenericReplacer v0 noP fun v w => ∃ x, v = r x ∧ sat W (B x ++ F) w)) : Cn Tryz.prog 71 [v0] W A r B :=
  Cn.of (shape := strings_makeGenericReplacer v0) Tryz.call71 (fun h => strings_makeGenericReplacer_calls h) h
theorem strings_makeGenericReplacer_cnP {v0 : Value} {W : World} {α β : Type} {A : List HP} {r : α → Value} {B : α → List HP} {pc : β → List PanicEntry} {Bp : β → List HP} (h : ∀ F, Ent W (A ++ F) (strings_makeGenericReplacer v0 (fun ch w => ∃ y, ch = pc y ∧ sat W (Bp y ++ F) w) fun v w => ∃ x, v = r x ∧ sat W (B x ++ F) w)) : CnP Tryz.prog 71 [v0] W A r B pc Bp :=
  CnP.of (shape := strings_makeGenericReplacer v0) Tryz.call71 (fun h => strings_makeGenericReplacer_calls h) h

/-- istrconv_ParseUint -/
def istrconv_ParseUint (v0 v1 v2 : Value) (Kp : PK) (K : Value → WP) : WP :=
  opN Tryz.prog (sEq .eql 9 (.tmp 18) (.const (.string ⟨#[]⟩)) v0 (.string ⟨#[]⟩)) Kp fun x19 =>
  condS x19
  (opN Tryz.prog (sMkI 170 (.int .i64 2)) Kp fun x20 =>
   K (.tuple #[(.int .u64 0), x20]))
  (opN Tryz.prog (sEq .eql 3 (.tmp 21) (.const (.int .i64 0)) v1 (.int .i64 0)) Kp fun x22 =>
   cut2 (fun J1 =>
    opN Tryz.prog (sBin .leq 3 (.int .i64 2) v1) Kp fun x27 =>
    gdK x27 true (fun k => k v1) fun x29 =>
    gdK x27 true (opN Tryz.prog (sBin .leq 3 x29 (.int .i64 36)) Kp) fun x30 =>
    opN Tryz.prog (sPick x27 x30 (.bool false)) Kp fun x31 =>
    condS x31
    (J1 v0 v1)
    (opN Tryz.prog (sEq .eql 3 (.tmp 33) (.const (.int .i64 0)) v1 (.int .i64 0)) Kp fun x34 =>
     condS x34
     (opN Tryz.prog (sIx 9 v0 (.int .i64 0)) Kp fun x36 =>
      opN Tryz.prog (sEq .eql 5 (.tmp 36) (.const (.int .u8 48)) x36 (.int .u8 48)) Kp fun x37 =>
      condS x37
      (opN Tryz.prog (sLen #[9] 3 [v0]) Kp fun x42 =>
       opN Tryz.prog (sBin .geq 3 x42 (.int .i64 3)) Kp fun x43 =>
       gdK x43 true (fun k => k v0) fun x45 =>
       gdK x43 true (opN Tryz.prog (sIx 9 x45 (.int .i64 1)) Kp) fun x46 =>
       gdK x43 true (opN Tryz.prog (sCall (fn 94) [x46]) Kp) fun x47 =>
       gdK x43 true (opN Tryz.prog (sEq .eql 5 (.tmp 47) (.const (.int .u8 98)) x47 (.int .u8 98)) Kp) fun x48 =>
       opN Tryz.prog (sPick x43 x48 (.bool false)) Kp fun x49 =>
       condS x49
       (opN Tryz.prog (sSl 9 v0 (some (.int .i64 2)) none none) Kp fun x51 =>
        J1 x51 (.int .i64 2))
       (opN Tryz.prog (sLen #[9] 3 [v0]) Kp fun x54 =>
        opN Tryz.prog (sBin .geq 3 x54 (.int .i64 3)) Kp fun x55 =>
        gdK x55 true (fun k => k v0) fun x57 =>
        gdK x55 true (opN Tryz.prog (sIx 9 x57 (.int .i64 1)) Kp) fun x58 =>
        gdK x55 true (opN Tryz.prog (sCall (fn 94) [x58]) Kp) fun x59 =>
        gdK x55 true (opN Tryz.prog (sEq .eql 5 (.tmp 59) (.const (.int .u8 111)) x59 (.int .u8 111)) Kp) fun x60 =>
        opN Tryz.prog (sPick x55 x60 (.bool false)) Kp fun x61 =>
        condS x61
        (opN Tryz.prog (sSl 9 v0 (some (.int .i64 2)) none none) Kp fun x63 =>
         J1 x63 (.int .i64 8))
        (opN Tryz.prog (sLen #[9] 3 [v0]) Kp fun x66 =>
         opN Tryz.prog (sBin .geq 3 x66 (.int .i64 3)) Kp fun x67 =>
         gdK x67 true (fun k => k v0) fun x69 =>
         gdK x67 true (opN Tryz.prog (sIx 9 x69 (.int .i64 1)) Kp) fun x70 =>
         gdK x67 true (opN Tryz.prog (sCall (fn 94) [x70]) Kp) fun x71 =>
         gdK x67 true (opN Tryz.prog (sEq .eql 5 (.tmp 71) (.const (.int .u8 120)) x71 (.int .u8 120)) Kp) fun x72 =>
         opN Tryz.prog (sPick x67 x72 (.bool false)) Kp fun x73 =>
         condS x73
         (opN Tryz.prog (sSl 9 v0 (some (.int .i64 2)) none none) Kp fun x75 =>
          J1 x75 (.int .i64 16))
         (opN Tryz.prog (sSl 9 v0 (some (.int .i64 1)) none none) Kp fun x39 =>
          J1 x39 (.int .i64 8)))))
      (J1 v0 (.int .i64 10)))
     (opN Tryz.prog (sMkI 170 (.int .i64 3)) Kp fun x24 =>
      K (.tuple #[(.int .u64 0), x24])))) fun _ z0 z1 =>
   cut1 (fun J2 =>
    opN Tryz.prog (sEq .eql 3 (.tmp 76) (.const (.int .i64 0)) v2 (.int .i64 0)) Kp fun x77 =>
    condS x77
    (J2 (.int .i64 64))
    (opN Tryz.prog (sBin .lss 3 v2 (.int .i64 0)) Kp fun x79 =>
     gdK x79 false (fun k => k v2) fun x81 =>
     gdK x79 false (opN Tryz.prog (sBin .gtr 3 x81 (.int .i64 64)) Kp) fun x82 =>
     opN Tryz.prog (sPick x79 (.bool true) x82) Kp fun x83 =>
     condS x83
     (opN Tryz.prog (sMkI 170 (.int .i64 4)) Kp fun x84 =>
      K (.tuple #[(.int .u64 0), x84]))
     (J2 v2))) fun _ z2 =>
   cut1 (fun J3 =>
    opN Tryz.prog (sEq .eql 3 (.tmp 85) (.const (.int .i64 10)) z1 (.int .i64 10)) Kp fun x91 =>
    condS x91
    (J3 (.int .u64 1844674407370955162))
    (opN Tryz.prog (sEq .eql 3 (.tmp 85) (.const (.int .i64 16)) z1 (.int .i64 16)) Kp fun x93 =>
     condS x93
     (J3 (.int .u64 1152921504606846976))
     (opN Tryz.prog (sConv 3 117 z1) Kp fun x87 =>
      opN Tryz.prog (sBin .quo 117 (.int .u64 18446744073709551615) x87) Kp fun x88 =>
      opN Tryz.prog (sBin .add 117 x88 (.int .u64 1)) Kp fun x89 =>
      J3 x89))) fun _ z10 =>
   opN Tryz.prog (sConv 3 155 z2) Kp fun x95 =>
   opN Tryz.prog (sBin .shl 117 (.int .u64 1) x95) Kp fun x96 =>
   opN Tryz.prog (sBin .sub 117 x96 (.int .u64 1)) Kp fun x97 =>
   opN Tryz.prog (sConv 9 57 z0) Kp fun x99 =>
   opN Tryz.prog (sLen #[57] 3 [x99]) Kp fun x100 =>
   loop3 (fun I1 m1 _ y12 y13 y101 =>
    opN Tryz.prog (sBin .lss 3 y101 x100) Kp fun x102 =>
    condS x102
    (opN Tryz.prog (sIA 57 x99 y101) Kp fun x103 =>
     opN Tryz.prog (sLoad 5 x103) Kp fun x104 =>
     cut2 (fun J4 =>
      opN Tryz.prog (sEq .eql 5 (.tmp 107) (.const (.int .u8 95)) x104 (.int .u8 95)) Kp fun x108 =>
      gdK x108 true (fun k => k x22) fun x110 =>
      opN Tryz.prog (sPick x108 x110 (.bool false)) Kp fun x111 =>
      condS x111
      (opN Tryz.prog (sBin .add 3 y101 (.int .i64 1)) Kp fun x163 =>
       next3 I1 m1 (.bool true) y13 x163)
      (opN Tryz.prog (sBin .leq 5 (.int .u8 48) x104) Kp fun x114 =>
       gdK x114 true (fun k => k x104) fun x116 =>
       gdK x114 true (opN Tryz.prog (sBin .leq 5 x116 (.int .u8 57)) Kp) fun x117 =>
       opN Tryz.prog (sPick x114 x117 (.bool false)) Kp fun x118 =>
       condS x118
       (opN Tryz.prog (sBin .sub 5 x104 (.int .u8 48)) Kp fun x120 =>
        J4 y12 x120)
       (opN Tryz.prog (sCall (fn 94) [x104]) Kp fun x123 =>
        opN Tryz.prog (sBin .leq 5 (.int .u8 97) x123) Kp fun x124 =>
        gdK x124 true (fun k => k x104) fun x126 =>
        gdK x124 true (opN Tryz.prog (sCall (fn 94) [x126]) Kp) fun x127 =>
        gdK x124 true (opN Tryz.prog (sBin .leq 5 x127 (.int .u8 122)) Kp) fun x128 =>
        opN Tryz.prog (sPick x124 x128 (.bool false)) Kp fun x129 =>
        condS x129
        (opN Tryz.prog (sCall (fn 94) [x104]) Kp fun x131 =>
         opN Tryz.prog (sBin .sub 5 x131 (.int .u8 97)) Kp fun x132 =>
         opN Tryz.prog (sBin .add 5 x132 (.int .u8 10)) Kp fun x133 =>
         J4 y12 x133)
        (opN Tryz.prog (sMkI 170 (.int .i64 2)) Kp fun x105 =>
         K (.tuple #[(.int .u64 0), x105]))))) fun _ z12 z16 =>
     opN Tryz.prog (sConv 3 5 z1) Kp fun x136 =>
     opN Tryz.prog (sBin .geq 5 z16 x136) Kp fun x137 =>
     condS x137
     (opN Tryz.prog (sMkI 170 (.int .i64 2)) Kp fun x138 =>
      K (.tuple #[(.int .u64 0), x138]))
     (opN Tryz.prog (sBin .geq 117 y13 z10) Kp fun x141 =>
      condS x141
      (opN Tryz.prog (sMkI 170 (.int .i64 1)) Kp fun x143 =>
       K (.tuple #[x97, x143]))
      (opN Tryz.prog (sConv 3 117 z1) Kp fun x146 =>
       opN Tryz.prog (sBin .mul 117 y13 x146) Kp fun x147 =>
       opN Tryz.prog (sConv 5 117 z16) Kp fun x150 =>
       opN Tryz.prog (sBin .add 117 x147 x150) Kp fun x151 =>
       opN Tryz.prog (sBin .lss 117 x151 x147) Kp fun x154 =>
       gdK x154 false (fun k => k x151) fun x156 =>
       gdK x154 false (fun k => k x97) fun x157 =>
       gdK x154 false (opN Tryz.prog (sBin .gtr 117 x156 x157) Kp) fun x158 =>
       opN Tryz.prog (sPick x154 (.bool true) x158) Kp fun x159 =>
       condS x159
       (opN Tryz.prog (sMkI 170 (.int .i64 1)) Kp fun x161 =>
        K (.tuple #[x97, x161]))
       (opN Tryz.prog (sBin .add 3 y101 (.int .i64 1)) Kp fun x163 =>
        next3 I1 m1 z12 x151 x163))))
    (gdK y12 true (fun k => k v0) fun x166 =>
     gdK y12 true (opN Tryz.prog (sCall (fn 95) [x166]) Kp) fun x167 =>
     gdK y12 true (opN Tryz.prog (sUn .not x167) Kp) fun x168 =>
     opN Tryz.prog (sPick y12 x168 (.bool false)) Kp fun x169 =>
     condS x169
     (opN Tryz.prog (sMkI 170 (.int .i64 2)) Kp fun x170 =>
      K (.tuple #[(.int .u64 0), x170]))
     (K (.tuple #[y13, .nilIface])))) (.bool false) (.int .u64 0) (.int .i64 0))
def istrconv_ParseUint_an : Ann := { cuts := [(21, [0, 1]), (25, [2]), (32, [10]), (46, [12, 16])], blks := [], loops := [(36, [12, 13, 101])], drs := [] }
theorem istrconv_ParseUint_eq (v0 v1 v2 : Value) (Kp : PK) (K : Value → WP) : cevF Tryz.prog istrconv_ParseUint_an Tryz.f72 [v0, v1, v2] Kp K = istrconv_ParseUint v0 v1 v2 Kp K := by kernel_rfl
theorem istrconv_ParseUint_calls {v0 v1 v2 : Value} {Kp : PK} {K : Value → WP} {w : World} (h : istrconv_ParseUint v0 v1 v2 Kp K w) : Calls Tryz.prog 72 #[v0, v1, v2] w (after Kp K) :=
  calls_of_shape (calls_of_cev wide Tryz.func72 (an := istrconv_ParseUint_an) (args := [v0, v1, v2]) (cast (congrFun (istrconv_ParseUint_eq v0 v1 v2 Kp K) w).symm h))
theorem istrconv_ParseUint_cn {v0 v1 v2 : Value} {W : World} {α : Type} {A : List HP} {r : α → Value} {B : α → List HP} (h : ∀ F, Ent W (A ++ F) (istrconv_ParseUint v0 v1 v2 noP fun v w => ∃ x, v = r x ∧ sat W (B x ++ F) w)) : Cn Tryz.prog 72 [v0, v1, v2] W A r B :=
  Cn.of (shape := istrconv_ParseUint v0 v1 v2) Tryz.call72 (fun h => istrconv_ParseUint_calls h) h
theorem istrconv_ParseUint_cnP {v0 v1 v2 : Value} {W : World} {α β : Type} {A : List HP} {r : α → Value} {B : α → List HP} {pc : β → List PanicEntry} {Bp : β → List HP} (h : ∀ F, Ent W (A ++ F) (istrconv_ParseUint v0 v1 v2 (fun ch w => ∃ y, ch = pc y ∧ sat W (Bp y ++ F) w) fun v w => ∃ x, v = r x ∧ sat W (B x ++ F) w)) : CnP Tryz.prog 72 [v0, v1, v2] W A r B pc Bp :=
  CnP.of (shape := istrconv_ParseUint v0 v1 v2) Tryz.call72 (fun h => istrconv_ParseUint_calls h) h

/-- strconv_toError -/
def strconv_toError (v0 v1 v2 v3 v4 : Value) (Kp : PK) (K : Value → WP) : WP :=
  opN Tryz.prog (sMkI 170 (.int .i64 2)) Kp fun x13 =>
  opN Tryz.prog (sEq .eql 119 (.tmp 11) (.tmp 13) v4 x13) Kp fun x14 =>
  condS x14
  (opN Tryz.prog (sCall (fn 96) [v0, v1]) Kp fun x17 =>
   opN Tryz.prog (sMkI 172 x17) Kp fun x18 =>
   K x18)
  (opN Tryz.prog (sMkI 170 (.int .i64 1)) Kp fun x20 =>
   opN Tryz.prog (sEq .eql 119 (.tmp 11) (.tmp 20) v4 x20) Kp fun x21 =>
   condS x21
   (opN Tryz.prog (sCall (fn 97) [v0, v1]) Kp fun x24 =>
    opN Tryz.prog (sMkI 172 x24) Kp fun x25 =>
    K x25)
   (opN Tryz.prog (sMkI 170 (.int .i64 3)) Kp fun x27 =>
    opN Tryz.prog (sEq .eql 119 (.tmp 11) (.tmp 27) v4 x27) Kp fun x28 =>
    condS x28
    (opN Tryz.prog (sCall (fn 98) [v0, v1, v2]) Kp fun x32 =>
     opN Tryz.prog (sMkI 172 x32) Kp fun x33 =>
     K x33)
    (opN Tryz.prog (sMkI 170 (.int .i64 4)) Kp fun x35 =>
     opN Tryz.prog (sEq .eql 119 (.tmp 11) (.tmp 35) v4 x35) Kp fun x36 =>
     condS x36
     (opN Tryz.prog (sCall (fn 99) [v0, v1, v3]) Kp fun x40 =>
      opN Tryz.prog (sMkI 172 x40) Kp fun x41 =>
      K x41)
     (K v4))))
def strconv_toError_an : Ann := { cuts := [], blks := [], loops := [], drs := [] }
theorem strconv_toError_eq (v0 v1 v2 v3 v4 : Value) (Kp : PK) (K : Value → WP) : cevF Tryz.prog strconv_toError_an Tryz.f73 [v0, v1, v2, v3, v4] Kp K = strconv_toError v0 v1 v2 v3 v4 Kp K := by kernel_rfl
theorem strconv_toError_calls {v0 v1 v2 v3 v4 : Value} {Kp : PK} {K : Value → WP} {w : World} (h : strconv_toError v0 v1 v2 v3 v4 Kp K w) : Calls Tryz.prog 73 #[v0, v1, v2, v3, v4] w (after Kp K) :=
  calls_of_shape (calls_of_cev wide Tryz.func73 (an := strconv_toError_an) (args := [v0, v1, v2, v3, v4]) (cast (congrFun (strconv_toError_eq v0 v1 v2 v3 v4 Kp K) w).symm h))
theorem strconv_toError_cn {v0 v1 v2 v3 v4 : Value} {W : World} {α : Type} {A : List HP} {r : α → Value} {B : α → List HP} (h : ∀ F, Ent W (A ++ F) (strconv_toError v0 v1 v2 v3 v4 noP fun v w => ∃ x, v = r x ∧ sat W (B x ++ F) w)) : Cn Tryz.prog 73 [v0, v1, v2, v3, v4] W A r B :=
  Cn.of (shape := strconv_toError v0 v1 v2 v3 v4) Tryz.call73 (fun h => strconv_toError_calls h) h
theorem strconv_toError_cnP {v0 v1 v2 v3 v4 : Value} {W : World} {α β : Type} {A : List HP} {r : α → Value} {B : α → List HP} {pc : β → List PanicEntry} {Bp : β → List HP} (h : ∀ F, Ent W (A ++ F) (strconv_toError v0 v1 v2 v3 v4 (fun ch w => ∃ y, ch = pc y ∧ sat W (Bp y ++ F) w) fun v w => ∃ x, v = r x ∧ sat W (B x ++ F) w)) : CnP Tryz.prog 73 [v0, v1, v2, v3, v4] W A r B pc Bp :=
  CnP.of (shape := strconv_toError v0 v1 v2 v3 v4) Tryz.call73 (fun h => strconv_toError_calls h) h

/-- fields_kind_fields_Choice_elements_1 -/
def fields_kind_fields_Choice_elements_1 (v0 v1 v2 : Value) (Kp : PK) (K : Value → WP) : WP :=
  loop3 (fun I1 m1 _ y4 y5 y6 =>
   opN Tryz.prog (sLoad 9 v1) Kp fun x11 =>
   opN Tryz.prog (sLen #[9] 3 [x11]) Kp fun x12 =>
   opN Tryz.prog (sBin .lss 3 y6 x12) Kp fun x13 =>
   condS x13
   (opN Tryz.prog (sLoad 9 v1) Kp fun x16 =>
    opN Tryz.prog (sIx 9 x16 y6) Kp fun x18 =>
    opN Tryz.prog (sEq .eql 5 (.tmp 20) (.const (.int .u8 92)) x18 (.int .u8 92)) Kp fun x21 =>
    gdK x21 true (fun k => k y4) fun x23 =>
    opN Tryz.prog (sPick x21 x23 (.bool false)) Kp fun x24 =>
    gdK x24 true (opN Tryz.prog (sFA 107 v2 1) Kp) fun x26 =>
    gdK x24 true (opN Tryz.prog (sLoad 4 x26) Kp) fun x27 =>
    opN Tryz.prog (sPick x24 x27 (.bool false)) Kp fun x28 =>
    condS x28
    (opN Tryz.prog (sBin .add 3 y6 (.int .i64 1)) Kp fun x30 =>
     opN Tryz.prog (sBin .add 3 x30 (.int .i64 1)) Kp fun x15 =>
     next3 I1 m1 y4 y5 x15)
    (opN Tryz.prog (sEq .eql 5 (.tmp 32) (.const (.int .u8 34)) x18 (.int .u8 34)) Kp fun x33 =>
     gdK x33 true (opN Tryz.prog (sFA 107 v2 0) Kp) fun x35 =>
     gdK x33 true (opN Tryz.prog (sLoad 4 x35) Kp) fun x36 =>
     opN Tryz.prog (sPick x33 x36 (.bool false)) Kp fun x37 =>
     condS x37
     (opN Tryz.prog (sUn .not y4) Kp fun x39 =>
      opN Tryz.prog (sBin .add 3 y6 (.int .i64 1)) Kp fun x15 =>
      next3 I1 m1 x39 y5 x15)
     (opN Tryz.prog (sEq .eql 5 (.tmp 41) (.const (.int .u8 44)) x18 (.int .u8 44)) Kp fun x42 =>
      gdK x42 true (fun k => k y4) fun x44 =>
      gdK x42 true (opN Tryz.prog (sUn .not x44) Kp) fun x45 =>
      opN Tryz.prog (sPick x42 x45 (.bool false)) Kp fun x46 =>
      condS x46
      (opN Tryz.prog (sLoad 9 v1) Kp fun x47 =>
       opN Tryz.prog (sSl 9 x47 (some y5) (some y6) none) Kp fun x50 =>
       opN Tryz.prog (sCall (fn 50) [x50]) Kp fun x51 =>
       opN Tryz.prog (sEq .neq 9 (.tmp 52) (.const (.string ⟨#[]⟩)) x51 (.string ⟨#[]⟩)) Kp fun x53 =>
       gdK x53 true (fun k => k v0) fun x55 =>
       gdK x53 true (fun k => k x51) fun x56 =>
       gdK x53 true (opN Tryz.prog (sCall x55 [x56]) Kp) fun x57 =>
       gdK x53 true (opN Tryz.prog (sUn .not x57) Kp) fun x58 =>
       opN Tryz.prog (sPick x53 x58 (.bool false)) Kp fun x59 =>
       condS x59
       (K (.tuple #[]))
       (opN Tryz.prog (sBin .add 3 y6 (.int .i64 1)) Kp fun x61 =>
        opN Tryz.prog (sBin .add 3 y6 (.int .i64 1)) Kp fun x15 =>
        next3 I1 m1 y4 x61 x15))
      (opN Tryz.prog (sBin .add 3 y6 (.int .i64 1)) Kp fun x15 =>
       next3 I1 m1 y4 y5 x15))))
   (opN Tryz.prog (sLoad 9 v1) Kp fun x62 =>
    opN Tryz.prog (sSl 9 x62 (some y5) none none) Kp fun x64 =>
    opN Tryz.prog (sCall (fn 50) [x64]) Kp fun x65 =>
    opN Tryz.prog (sEq .neq 9 (.tmp 66) (.const (.string ⟨#[]⟩)) x65 (.string ⟨#[]⟩)) Kp fun x67 =>
    condS x67
    (opN Tryz.prog (sCall v0 [x65]) Kp fun x70 =>
     K (.tuple #[]))
    (K (.tuple #[])))) (.bool false) (.int .i64 0) (.int .i64 0)
def fields_kind_fields_Choice_elements_1_an : Ann := { cuts := [], blks := [], loops := [(2, [4, 5, 6])], drs := [] }
theorem fields_kind_fields_Choice_elements_1_eq (v0 v1 v2 : Value) (Kp : PK) (K : Value → WP) : cevF Tryz.prog fields_kind_fields_Choice_elements_1_an Tryz.f74 [v0, v1, v2] Kp K = fields_kind_fields_Choice_elements_1 v0 v1 v2 Kp K := by kernel_rfl
theorem fields_kind_fields_Choice_elements_1_calls {v0 v1 v2 : Value} {Kp : PK} {K : Value → WP} {w : World} (h : fields_kind_fields_Choice_elements_1 v0 v1 v2 Kp K w) : Calls Tryz.prog 74 #[v0, v1, v2] w (after Kp K) :=
  calls_of_shape (calls_of_cev wide Tryz.func74 (an := fields_kind_fields_Choice_elements_1_an) (args := [v0, v1, v2]) (cast (congrFun (fields_kind_fields_Choice_elements_1_eq v0 v1 v2 Kp K) w).symm h))
theorem fields_kind_fields_Choice_elements_1_cn {v0 v1 v2 : Value} {W : World} {α : Type} {A : List HP} {r : α → Value} {B : α → List HP} (h : ∀ F, Ent W (A ++ F) (fields_kind_fields_Choice_elements_1 v0 v1 v2 noP fun v w => ∃ x, v = r x ∧ sat W (B x ++ F) w)) : Cn Tryz.prog 74 [v0, v1, v2] W A r B :=
  Cn.of (shape := fields_kind_fields_Choice_elements_1 v0 v1 v2) Tryz.call74 (fun h => fields_kind_fields_Choice_elements_1_calls h) h
theorem fields_kind_fields_Choice_elements_1_cnP {v0 v1 v2 : Value} {W : World} {α β : Type} {A : List HP} {r : α → Value} {B : α → List HP} {pc : β → List PanicEntry} {Bp : β → List HP} (h : ∀ F, Ent W (A ++ F) (fields_kind_fields_Choice_elements_1 v0 v1 v2 (fun ch w => ∃ y, ch = pc y ∧ sat W (Bp y ++ F) w) fun v w => ∃ x, v = r x ∧ sat W (B x ++ F) w)) : CnP Tryz.prog 74 [v0, v1, v2] W A r B pc Bp :=
  CnP.of (shape := fields_kind_fields_Choice_elements_1 v0 v1 v2) Tryz.call74 (fun h => fields_kind_fields_Choice_elements_1_calls h) h

/-- fields_kind_fields_Span_elements_1 -/
def fields_kind_fields_Span_elements_1 (v0 v1 v2 : Value) (Kp : PK) (K : Value → WP) : WP :=
  loop3 (fun I1 m1 _ y4 y5 y6 =>
   opN Tryz.prog (sLoad 9 v1) Kp fun x11 =>
   opN Tryz.prog (sLen #[9] 3 [x11]) Kp fun x12 =>
   opN Tryz.prog (sBin .lss 3 y6 x12) Kp fun x13 =>
   condS x13
   (opN Tryz.prog (sLoad 9 v1) Kp fun x16 =>
    opN Tryz.prog (sIx 9 x16 y6) Kp fun x18 =>
    opN Tryz.prog (sEq .eql 5 (.tmp 20) (.const (.int .u8 92)) x18 (.int .u8 92)) Kp fun x21 =>
    gdK x21 true (fun k => k y4) fun x23 =>
    opN Tryz.prog (sPick x21 x23 (.bool false)) Kp fun x24 =>
    gdK x24 true (opN Tryz.prog (sFA 111 v2 1) Kp) fun x26 =>
    gdK x24 true (opN Tryz.prog (sLoad 4 x26) Kp) fun x27 =>
    opN Tryz.prog (sPick x24 x27 (.bool false)) Kp fun x28 =>
    condS x28
    (opN Tryz.prog (sBin .add 3 y6 (.int .i64 1)) Kp fun x30 =>
     opN Tryz.prog (sBin .add 3 x30 (.int .i64 1)) Kp fun x15 =>
     next3 I1 m1 y4 y5 x15)
    (opN Tryz.prog (sEq .eql 5 (.tmp 32) (.const (.int .u8 34)) x18 (.int .u8 34)) Kp fun x33 =>
     gdK x33 true (opN Tryz.prog (sFA 111 v2 0) Kp) fun x35 =>
     gdK x33 true (opN Tryz.prog (sLoad 4 x35) Kp) fun x36 =>
     opN Tryz.prog (sPick x33 x36 (.bool false)) Kp fun x37 =>
     condS x37
     (opN Tryz.prog (sUn .not y4) Kp fun x39 =>
      opN Tryz.prog (sBin .add 3 y6 (.int .i64 1)) Kp fun x15 =>
      next3 I1 m1 x39 y5 x15)
     (opN Tryz.prog (sEq .eql 5 (.tmp 41) (.const (.int .u8 44)) x18 (.int .u8 44)) Kp fun x42 =>
      gdK x42 true (fun k => k y4) fun x44 =>
      gdK x42 true (opN Tryz.prog (sUn .not x44) Kp) fun x45 =>
      opN Tryz.prog (sPick x42 x45 (.bool false)) Kp fun x46 =>
      condS x46
      (opN Tryz.prog (sLoad 9 v1) Kp fun x47 =>
       opN Tryz.prog (sSl 9 x47 (some y5) (some y6) none) Kp fun x50 =>
       opN Tryz.prog (sCall (fn 50) [x50]) Kp fun x51 =>
       opN Tryz.prog (sEq .neq 9 (.tmp 52) (.const (.string ⟨#[]⟩)) x51 (.string ⟨#[]⟩)) Kp fun x53 =>
       gdK x53 true (fun k => k v0) fun x55 =>
       gdK x53 true (fun k => k x51) fun x56 =>
       gdK x53 true (opN Tryz.prog (sCall x55 [x56]) Kp) fun x57 =>
       gdK x53 true (opN Tryz.prog (sUn .not x57) Kp) fun x58 =>
       opN Tryz.prog (sPick x53 x58 (.bool false)) Kp fun x59 =>
       condS x59
       (K (.tuple #[]))
       (opN Tryz.prog (sBin .add 3 y6 (.int .i64 1)) Kp fun x61 =>
        opN Tryz.prog (sBin .add 3 y6 (.int .i64 1)) Kp fun x15 =>
        next3 I1 m1 y4 x61 x15))
      (opN Tryz.prog (sBin .add 3 y6 (.int .i64 1)) Kp fun x15 =>
       next3 I1 m1 y4 y5 x15))))
   (opN Tryz.prog (sLoad 9 v1) Kp fun x62 =>
    opN Tryz.prog (sSl 9 x62 (some y5) none none) Kp fun x64 =>
    opN Tryz.prog (sCall (fn 50) [x64]) Kp fun x65 =>
    opN Tryz.prog (sEq .neq 9 (.tmp 66) (.const (.string ⟨#[]⟩)) x65 (.string ⟨#[]⟩)) Kp fun x67 =>
    condS x67
    (opN Tryz.prog (sCall v0 [x65]) Kp fun x70 =>
     K (.tuple #[]))
    (K (.tuple #[])))) (.bool false) (.int .i64 0) (.int .i64 0)
def fields_kind_fields_Span_elements_1_an : Ann := { cuts := [], blks := [], loops := [(2, [4, 5, 6])], drs := [] }
theorem fields_kind_fields_Span_elements_1_eq (v0 v1 v2 : Value) (Kp : PK) (K : Value → WP) : cevF Tryz.prog fields_kind_fields_Span_elements_1_an Tryz.f75 [v0, v1, v2] Kp K = fields_kind_fields_Span_elements_1 v0 v1 v2 Kp K := by kernel_rfl
theorem fields_kind_fields_Span_elements_1_calls {v0 v1 v2 : Value} {Kp : PK} {K : Value → WP} {w : World} (h : fields_kind_fields_Span_elements_1 v0 v1 v2 Kp K w) : Calls Tryz.prog 75 #[v0, v1, v2] w (after Kp K) :=
  calls_of_shape (calls_of_cev wide Tryz.func75 (an := fields_kind_fields_Span_elements_1_an) (args := [v0, v1, v2]) (cast (congrFun (fields_kind_fields_Span_elements_1_eq v0 v1 v2 Kp K) w).symm h))
theorem fields_kind_fields_Span_elements_1_cn {v0 v1 v2 : Value} {W : World} {α : Type} {A : List HP} {r : α → Value} {B : α → List HP} (h : ∀ F, Ent W (A ++ F) (fields_kind_fields_Span_elements_1 v0 v1 v2 noP fun v w => ∃ x, v = r x ∧ sat W (B x ++ F) w)) : Cn Tryz.prog 75 [v0, v1, v2] W A r B :=
  Cn.of (shape := fields_kind_fields_Span_elements_1 v0 v1 v2) Tryz.call75 (fun h => fields_kind_fields_Span_elements_1_calls h) h
theorem fields_kind_fields_Span_elements_1_cnP {v0 v1 v2 : Value} {W : World} {α β : Type} {A : List HP} {r : α → Value} {B : α → List HP} {pc : β → List PanicEntry} {Bp : β → List HP} (h : ∀ F, Ent W (A ++ F) (fields_kind_fields_Span_elements_1 v0 v1 v2 (fun ch w => ∃ y, ch = pc y ∧ sat W (Bp y ++ F) w) fun v w => ∃ x, v = r x ∧ sat W (B x ++ F) w)) : CnP Tryz.prog 75 [v0, v1, v2] W A r B pc Bp :=
  CnP.of (shape := fields_kind_fields_Span_elements_1 v0 v1 v2) Tryz.call75 (fun h => fields_kind_fields_Span_elements_1_calls h) h

/-- stringslite_HasPrefix -/
def stringslite_HasPrefix (v0 v1 : Value) (Kp : PK) (K : Value → WP) : WP :=
  opN Tryz.prog (sLen #[9] 3 [v0]) Kp fun x6 =>
  opN Tryz.prog (sLen #[9] 3 [v1]) Kp fun x8 =>
  opN Tryz.prog (sBin .geq 3 x6 x8) Kp fun x9 =>
  gdK x9 true (fun k => k v0) fun x11 =>
  gdK x9 true (fun k => k v1) fun x12 =>
  gdK x9 true (opN Tryz.prog (sLen #[9] 3 [x12]) Kp) fun x13 =>
  gdK x9 true (opN Tryz.prog (sSl 9 x11 none (some x13) none) Kp) fun x14 =>
  gdK x9 true (fun k => k v1) fun x15 =>
  gdK x9 true (opN Tryz.prog (sEq .eql 9 (.tmp 14) (.tmp 15) x14 x15) Kp) fun x16 =>
  opN Tryz.prog (sPick x9 x16 (.bool false)) Kp fun x17 =>
  K x17
def stringslite_HasPrefix_an : Ann := { cuts := [], blks := [], loops := [], drs := [] }
theorem stringslite_HasPrefix_eq (v0 v1 : Value) (Kp : PK) (K : Value → WP) : cevF Tryz.prog stringslite_HasPrefix_an Tryz.f76 [v0, v1] Kp K = stringslite_HasPrefix v0 v1 Kp K := by kernel_rfl
theorem stringslite_HasPrefix_calls {v0 v1 : Value} {Kp : PK} {K : Value → WP} {w : World} (h : stringslite_HasPrefix v0 v1 Kp K w) : Calls Tryz.prog 76 #[v0, v1] w (after Kp K) :=
  calls_of_shape (calls_of_cev wide Tryz.func76 (an := stringslite_HasPrefix_an) (args := [v0, v1]) (cast (congrFun (stringslite_HasPrefix_eq v0 v1 Kp K) w).symm h))
theorem stringslite_HasPrefix_cn {v0 v1 : Value} {W : World} {α : Type} {A : List HP} {r : α → Value} {B : α → List HP} (h : ∀ F, Ent W (A ++ F) (stringslite_HasPrefix v0 v1 noP fun v w => ∃ x, v = r x ∧ sat W (B x ++ F) w)) : Cn Tryz.prog 76 [v0, v1] W A r B :=
  Cn.of (shape := stringslite_HasPrefix v0 v1) Tryz.call76 (fun h => stringslite_HasPrefix_calls h) h
theorem stringslite_HasPrefix_cnP {v0 v1 : Value} {W : World} {α β : Type} {A : List HP} {r : α → Value} {B : α → List HP} {pc : β → List PanicEntry} {Bp : β → List HP} (h : ∀ F, Ent W (A ++ F) (stringslite_HasPrefix v0 v1 (fun ch w => ∃ y, ch = pc y ∧ sat W (Bp y ++ F) w) fun v w => ∃ x, v = r x ∧ sat W (B x ++ F) w)) : CnP Tryz.prog 76 [v0, v1] W A r B pc Bp :=
  CnP.of (shape := stringslite_HasPrefix v0 v1) Tryz.call76 (fun h => stringslite_HasPrefix_calls h) h

/-- strings_trimLeftByte -/
def strings_trimLeftByte (v0 v1 : Value) (Kp : PK) (K : Value → WP) : WP :=
  loop1 (fun I1 m1 _ y0 =>
   opN Tryz.prog (sLen #[9] 3 [y0]) Kp fun x6 =>
   opN Tryz.prog (sBin .gtr 3 x6 (.int .i64 0)) Kp fun x7 =>
   gdK x7 true (fun k => k y0) fun x9 =>
   gdK x7 true (opN Tryz.prog (sIx 9 x9 (.int .i64 0)) Kp) fun x10 =>
   gdK x7 true (fun k => k v1) fun x11 =>
   gdK x7 true (opN Tryz.prog (sEq .eql 5 (.tmp 10) (.tmp 11) x10 x11) Kp) fun x12 =>
   opN Tryz.prog (sPick x7 x12 (.bool false)) Kp fun x13 =>
   condS x13
   (opN Tryz.prog (sSl 9 y0 (some (.int .i64 1)) none none) Kp fun x15 =>
    next1 I1 m1 x15)
   (K y0)) v0
def strings_trimLeftByte_an : Ann := { cuts := [], blks := [], loops := [(1, [0])], drs := [] }
theorem strings_trimLeftByte_eq (v0 v1 : Value) (Kp : PK) (K : Value → WP) : cevF Tryz.prog strings_trimLeftByte_an Tryz.f78 [v0, v1] Kp K = strings_trimLeftByte v0 v1 Kp K := by kernel_rfl
theorem strings_trimLeftByte_calls {v0 v1 : Value} {Kp : PK} {K : Value → WP} {w : World} (h : strings_trimLeftByte v0 v1 Kp K w) : Calls Tryz.prog 78 #[v0, v1] w (after Kp K) :=
  calls_of_shape (calls_of_cev wide Tryz.func78 (an := strings_trimLeftByte_an) (args := [v0, v1]) (cast (congrFun (strings_trimLeftByte_eq v0 v1 Kp K) w).symm h))
theorem strings_trimLeftByte_cn {v0 v1 : Value} {W : World} {α : Type} {A : List HP} {r : α → Value} {B : α → List HP} (h : ∀ F, Ent W (A ++ F) (strings_trimLeftByte v0 v1 noP fun v w => ∃ x, v = r x ∧ sat W (B x ++ F) w)) : Cn Tryz.prog 78 [v0, v1] W A r B :=
  Cn.of (shape := strings_trimLeftByte v0 v1) Tryz.call78 (fun h => strings_trimLeftByte_calls h) h
theorem strings_trimLeftByte_cnP {v0 v1 : Value} {W : World} {α β : Type} {A : List HP} {r : α → Value} {B : α → List HP} {pc : β → List PanicEntry} {Bp : β → List HP} (h : ∀ F, Ent W (A ++ F) (strings_trimLeftByte v0 v1 (fun ch w => ∃ y, ch = pc y ∧ sat W (Bp y ++ F) w) fun v w => ∃ x, v = r x ∧ sat W (B x ++ F) w)) : CnP Tryz.prog 78 [v0, v1] W A r B pc Bp :=
  CnP.of (shape := strings_trimLeftByte v0 v1) Tryz.call78 (fun h => strings_trimLeftByte_calls h) h

/-- strings_trimRightByte -/
def strings_trimRightByte (v0 v1 : Value) (Kp : PK) (K : Value → WP) : WP :=
  loop1 (fun I1 m1 _ y0 =>
   opN Tryz.prog (sLen #[9] 3 [y0]) Kp fun x6 =>
   opN Tryz.prog (sBin .gtr 3 x6 (.int .i64 0)) Kp fun x7 =>
   gdK x7 true (fun k => k y0) fun x9 =>
   gdK x7 true (fun k => k y0) fun x10 =>
   gdK x7 true (opN Tryz.prog (sLen #[9] 3 [x10]) Kp) fun x11 =>
   gdK x7 true (opN Tryz.prog (sBin .sub 3 x11 (.int .i64 1)) Kp) fun x12 =>
   gdK x7 true (opN Tryz.prog (sIx 9 x9 x12) Kp) fun x13 =>
   gdK x7 true (fun k => k v1) fun x14 =>
   gdK x7 true (opN Tryz.prog (sEq .eql 5 (.tmp 13) (.tmp 14) x13 x14) Kp) fun x15 =>
   opN Tryz.prog (sPick x7 x15 (.bool false)) Kp fun x16 =>
   condS x16
   (opN Tryz.prog (sLen #[9] 3 [y0]) Kp fun x19 =>
    opN Tryz.prog (sBin .sub 3 x19 (.int .i64 1)) Kp fun x20 =>
    opN Tryz.prog (sSl 9 y0 none (some x20) none) Kp fun x21 =>
    next1 I1 m1 x21)
   (K y0)) v0
def strings_trimRightByte_an : Ann := { cuts := [], blks := [], loops := [(1, [0])], drs := [] }
theorem strings_trimRightByte_eq (v0 v1 : Value) (Kp : PK) (K : Value → WP) : cevF Tryz.prog strings_trimRightByte_an Tryz.f79 [v0, v1] Kp K = strings_trimRightByte v0 v1 Kp K := by kernel_rfl
theorem strings_trimRightByte_calls {v0 v1 : Value} {Kp : PK} {K : Value → WP} {w : World} (h : strings_trimRightByte v0 v1 Kp K w) : Calls Tryz.prog 79 #[v0, v1] w (after Kp K) :=
  calls_of_shape (calls_of_cev wide Tryz.func79 (an := strings_trimRightByte_an) (args := [v0, v1]) (cast (congrFun (strings_trimRightByte_eq v0 v1 Kp K) w).symm h))
theorem strings_trimRightByte_cn {v0 v1 : Value} {W : World} {α : Type} {A : List HP} {r : α → Value} {B : α → List HP} (h : ∀ F, Ent W (A ++ F) (strings_trimRightByte v0 v1 noP fun v w => ∃ x, v = r x ∧ sat W (B x ++ F) w)) : Cn Tryz.prog 79 [v0, v1] W A r B :=
  Cn.of (shape := strings_trimRightByte v0 v1) Tryz.call79 (fun h => strings_trimRightByte_calls h) h
theorem strings_trimRightByte_cnP {v0 v1 : Value} {W : World} {α β : Type} {A : List HP} {r : α → Value} {B : α → List HP} {pc : β → List PanicEntry} {Bp : β → List HP} (h : ∀ F, Ent W (A ++ F) (strings_trimRightByte v0 v1 (fun ch w => ∃ y, ch = pc y ∧ sat W (Bp y ++ F) w) fun v w => ∃ x, v = r x ∧ sat W (B x ++ F) w)) : CnP Tryz.prog 79 [v0, v1] W A r B pc Bp :=
  CnP.of (shape := strings_trimRightByte v0 v1) Tryz.call79 (fun h => strings_trimRightByte_calls h) h

/-- strings_makeASCIISet -/
def strings_makeASCIISet (v0 : Value) (Kp : PK) (K : Value → WP) : WP :=
  opN Tryz.prog (sAlloc 149) Kp fun x2 =>
  loop1 (fun I1 m1 _ y4 =>
   opN Tryz.prog (sLen #[9] 3 [v0]) Kp fun x8 =>
   opN Tryz.prog (sBin .lss 3 y4 x8) Kp fun x9 =>
   condS x9
   (opN Tryz.prog (sIx 9 v0 y4) Kp fun x14 =>
    opN Tryz.prog (sBin .geq 5 x14 (.int .u8 128)) Kp fun x16 =>
    condS x16
    (opN Tryz.prog (sLoad 149 x2) Kp fun x17 =>
     opN Tryz.prog (sStore 149 x2 x17) Kp fun _ =>
     (stS Tryz.prog (sRes 149 x2) fun r0 => K (.tuple #[r0, (.bool false)])))
    (opN Tryz.prog (sIA 149 x2 x14) Kp fun x19 =>
     opN Tryz.prog (sStore 4 x19 (.bool true)) Kp fun _ =>
     opN Tryz.prog (sBin .add 3 y4 (.int .i64 1)) Kp fun x11 =>
     next1 I1 m1 x11))
   (opN Tryz.prog (sLoad 149 x2) Kp fun x20 =>
    opN Tryz.prog (sStore 149 x2 x20) Kp fun _ =>
    (stS Tryz.prog (sRes 149 x2) fun r0 => K (.tuple #[r0, (.bool true)])))) (.int .i64 0)
def strings_makeASCIISet_an : Ann := { cuts := [], blks := [], loops := [(2, [4])], drs := [] }
theorem strings_makeASCIISet_eq (v0 : Value) (Kp : PK) (K : Value → WP) : cevF Tryz.prog strings_makeASCIISet_an Tryz.f80 [v0] Kp K = strings_makeASCIISet v0 Kp K := by kernel_rfl
theorem strings_makeASCIISet_calls {v0 : Value} {Kp : PK} {K : Value → WP} {w : World} (h : strings_makeASCIISet v0 Kp K w) : Calls Tryz.prog 80 #[v0] w (after Kp K) :=
  calls_of_shape (calls_of_cev wide Tryz.func80 (an := strings_makeASCIISet_an) (args := [v0]) (cast (congrFun (strings_makeASCIISet_eq v0 Kp K) w).symm h))
theorem strings_makeASCIISet_cn {v0 : Value} {W : World} {α : Type} {A : List HP} {r : α → Value} {B : α → List HP} (h : ∀ F, Ent W (A ++ F) (strings_makeASCIISet v0 noP fun v w => ∃ x, v = r x ∧ sat W (B x ++ F) w)) : Cn Tryz.prog 80 [v0] W A r B :=
  Cn.of (shape := strings_makeASCIISet v0) Tryz.call80 (fun h => strings_makeASCIISet_calls h) h
theorem strings_makeASCIISet_cnP {v0 : Value} {W : World} {α β : Type} {A : List HP} {r : α → Value} {B : α → List HP} {pc : β → List PanicEntry} {Bp : β → List HP} (h : ∀ F, Ent W (A ++ F) (strings_makeASCIISet v0 (fun ch w => ∃ y, ch = pc y ∧ sat W (Bp y ++ F) w) fun v w => ∃ x, v = r x ∧ sat W (B x ++ F) w)) : CnP Tryz.prog 80 [v0] W A r B pc Bp :=
  CnP.of (shape := strings_makeASCIISet v0) Tryz.call80 (fun h => strings_makeASCIISet_calls h) h

/-- strings_trimLeftASCII -/
def strings_trimLeftASCII (v0 v1 : Value) (Kp : PK) (K : Value → WP) : WP :=
  loop1 (fun I1 m1 _ y0 =>
   opN Tryz.prog (sLen #[9] 3 [y0]) Kp fun x6 =>
   opN Tryz.prog (sBin .gtr 3 x6 (.int .i64 0)) Kp fun x7 =>
   condS x7
   (opN Tryz.prog (sIx 9 y0 (.int .i64 0)) Kp fun x10 =>
    opN Tryz.prog (sCall (fn 100) [v1, x10]) Kp fun x11 =>
    opN Tryz.prog (sUn .not x11) Kp fun x12 =>
    condS x12
    (K y0)
    (opN Tryz.prog (sSl 9 y0 (some (.int .i64 1)) none none) Kp fun x14 =>
     next1 I1 m1 x14))
   (K y0)) v0
def strings_trimLeftASCII_an : Ann := { cuts := [], blks := [], loops := [(1, [0])], drs := [] }
theorem strings_trimLeftASCII_eq (v0 v1 : Value) (Kp : PK) (K : Value → WP) : cevF Tryz.prog strings_trimLeftASCII_an Tryz.f81 [v0, v1] Kp K = strings_trimLeftASCII v0 v1 Kp K := by kernel_rfl
theorem strings_trimLeftASCII_calls {v0 v1 : Value} {Kp : PK} {K : Value → WP} {w : World} (h : strings_trimLeftASCII v0 v1 Kp K w) : Calls Tryz.prog 81 #[v0, v1] w (after Kp K) :=
  calls_of_shape (calls_of_cev wide Tryz.func81 (an := strings_trimLeftASCII_an) (args := [v0, v1]) (cast (congrFun (strings_trimLeftASCII_eq v0 v1 Kp K) w).symm h))
theorem strings_trimLeftASCII_cn {v0 v1 : Value} {W : World} {α : Type} {A : List HP} {r : α → Value} {B : α → List HP} (h : ∀ F, Ent W (A ++ F) (strings_trimLeftASCII v0 v1 noP fun v w => ∃ x, v = r x ∧ sat W (B x ++ F) w)) : Cn Tryz.prog 81 [v0, v1] W A r B :=
  Cn.of (shape := strings_trimLeftASCII v0 v1) Tryz.call81 (fun h => strings_trimLeftASCII_calls h) h
theorem strings_trimLeftASCII_cnP {v0 v1 : Value} {W : World} {α β : Type} {A : List HP} {r : α → Value} {B : α → List HP} {pc : β → List PanicEntry} {Bp : β → List HP} (h : ∀ F, Ent W (A ++ F) (strings_trimLeftASCII v0 v1 (fun ch w => ∃ y, ch = pc y ∧ sat W (Bp y ++ F) w) fun v w => ∃ x, v = r x ∧ sat W (B x ++ F) w)) : CnP Tryz.prog 81 [v0, v1] W A r B pc Bp :=
  CnP.of (shape := strings_trimLeftASCII v0 v1) Tryz.call81 (fun h => strings_trimLeftASCII_calls h) h

/-- strings_trimRightASCII -/
def strings_trimRightASCII (v0 v1 : Value) (Kp : PK) (K : Value → WP) : WP :=
  loop1 (fun I1 m1 _ y0 =>
   opN Tryz.prog (sLen #[9] 3 [y0]) Kp fun x6 =>
   opN Tryz.prog (sBin .gtr 3 x6 (.int .i64 0)) Kp fun x7 =>
   condS x7
   (opN Tryz.prog (sLen #[9] 3 [y0]) Kp fun x11 =>
    opN Tryz.prog (sBin .sub 3 x11 (.int .i64 1)) Kp fun x12 =>
    opN Tryz.prog (sIx 9 y0 x12) Kp fun x13 =>
    opN Tryz.prog (sCall (fn 100) [v1, x13]) Kp fun x14 =>
    opN Tryz.prog (sUn .not x14) Kp fun x15 =>
    condS x15
    (K y0)
    (opN Tryz.prog (sLen #[9] 3 [y0]) Kp fun x18 =>
     opN Tryz.prog (sBin .sub 3 x18 (.int .i64 1)) Kp fun x19 =>
     opN Tryz.prog (sSl 9 y0 none (some x19) none) Kp fun x20 =>
     next1 I1 m1 x20))
   (K y0)) v0
def strings_trimRightASCII_an : Ann := { cuts := [], blks := [], loops := [(1, [0])], drs := [] }
theorem strings_trimRightASCII_eq (v0 v1 : Value) (Kp : PK) (K : Value → WP) : cevF Tryz.prog strings_trimRightASCII_an Tryz.f82 [v0, v1] Kp K = strings_trimRightASCII v0 v1 Kp K := by kernel_rfl
theorem strings_trimRightASCII_calls {v0 v1 : Value} {Kp : PK} {K : Value → WP} {w : World} (h : strings_trimRightASCII v0 v1 Kp K w) : Calls Tryz.prog 82 #[v0, v1] w (after Kp K) :=
  calls_of_shape (calls_of_cev wide Tryz.func82 (an := strings_trimRightASCII_an) (args := [v0, v1]) (cast (congrFun (strings_trimRightASCII_eq v0 v1 Kp K) w).symm h))
theorem strings_trimRightASCII_cn {v0 v1 : Value} {W : World} {α : Type} {A : List HP} {r : α → Value} {B : α → List HP} (h : ∀ F, Ent W (A ++ F) (strings_trimRightASCII v0 v1 noP fun v w => ∃ x, v = r x ∧ sat W (B x ++ F) w)) : Cn Tryz.prog 82 [v0, v1] W A r B :=
  Cn.of (shape := strings_trimRightASCII v0 v1) Tryz.call82 (fun h => strings_trimRightASCII_calls h) h
theorem strings_trimRightASCII_cnP {v0 v1 : Value} {W : World} {α β : Type} {A : List HP} {r : α → Value} {B : α → List HP} {pc : β → List PanicEntry} {Bp : β → List HP} (h : ∀ F, Ent W (A ++ F) (strings_trimRightASCII v0 v1 (fun ch w => ∃ y, ch = pc y ∧ sat W (Bp y ++ F) w) fun v w => ∃ x, v = r x ∧ sat W (B x ++ F) w)) : CnP Tryz.prog 82 [v0, v1] W A r B pc Bp :=
  CnP.of (shape := strings_trimRightASCII v0 v1) Tryz.call82 (fun h => strings_trimRightASCII_calls h) h

/-- strings_trimLeftUnicode -/
def strings_trimLeftUnicode (v0 v1 : Value) (Kp : PK) (K : Value → WP) : WP :=
  loop1 (fun I1 m1 _ y0 =>
   opN Tryz.prog (sLen #[9] 3 [y0]) Kp fun x8 =>
   opN Tryz.prog (sBin .gtr 3 x8 (.int .i64 0)) Kp fun x9 =>
   condS x9
   (opN Tryz.prog (sCall (fn 101) [y0]) Kp fun x12 =>
    opN Tryz.prog (sExt x12 0) Kp fun x13 =>
    opN Tryz.prog (sExt x12 1) Kp fun x14 =>
    opN Tryz.prog (sCall (fn 102) [v1, x13]) Kp fun x17 =>
    opN Tryz.prog (sUn .not x17) Kp fun x18 =>
    condS x18
    (K y0)
    (opN Tryz.prog (sSl 9 y0 (some x14) none none) Kp fun x21 =>
     next1 I1 m1 x21))
   (K y0)) v0
def strings_trimLeftUnicode_an : Ann := { cuts := [], blks := [], loops := [(1, [0])], drs := [] }
theorem strings_trimLeftUnicode_eq (v0 v1 : Value) (Kp : PK) (K : Value → WP) : cevF Tryz.prog strings_trimLeftUnicode_an Tryz.f83 [v0, v1] Kp K = strings_trimLeftUnicode v0 v1 Kp K := by kernel_rfl
theorem strings_trimLeftUnicode_calls {v0 v1 : Value} {Kp : PK} {K : Value → WP} {w : World} (h : strings_trimLeftUnicode v0 v1 Kp K w) : Calls Tryz.prog 83 #[v0, v1] w (after Kp K) :=
  calls_of_shape (calls_of_cev wide Tryz.func83 (an := strings_trimLeftUnicode_an) (args := [v0, v1]) (cast (congrFun (strings_trimLeftUnicode_eq v0 v1 Kp K) w).symm h))
theorem strings_trimLeftUnicode_cn {v0 v1 : Value} {W : World} {α : Type} {A : List HP} {r : α → Value} {B : α → List HP} (h : ∀ F, Ent W (A ++ F) (strings_trimLeftUnicode v0 v1 noP fun v w => ∃ x, v = r x ∧ sat W (B x ++ F) w)) : Cn Tryz.prog 83 [v0, v1] W A r B :=
  Cn.of (shape := strings_trimLeftUnicode v0 v1) Tryz.call83 (fun h => strings_trimLeftUnicode_calls h) h
theorem strings_trimLeftUnicode_cnP {v0 v1 : Value} {W : World} {α β : Type} {A : List HP} {r : α → Value} {B : α → List HP} {pc : β → List PanicEntry} {Bp : β → List HP} (h : ∀ F, Ent W (A ++ F) (strings_trimLeftUnicode v0 v1 (fun ch w => ∃ y, ch = pc y ∧ sat W (Bp y ++ F) w) fun v w => ∃ x, v = r x ∧ sat W (B x ++ F) w)) : CnP Tryz.prog 83 [v0, v1] W A r B pc Bp :=
  CnP.of (shape := strings_trimLeftUnicode v0 v1) Tryz.call83 (fun h => strings_trimLeftUnicode_calls h) h

/-- strings_trimRightUnicode -/
def strings_trimRightUnicode (v0 v1 : Value) (Kp : PK) (K : Value → WP) : WP :=
  loop1 (fun I1 m1 _ y0 =>
   opN Tryz.prog (sLen #[9] 3 [y0]) Kp fun x8 =>
   opN Tryz.prog (sBin .gtr 3 x8 (.int .i64 0)) Kp fun x9 =>
   condS x9
   (opN Tryz.prog (sLen #[9] 3 [y0]) Kp fun x12 =>
    opN Tryz.prog (sBin .sub 3 x12 (.int .i64 1)) Kp fun x13 =>
    opN Tryz.prog (sIx 9 y0 x13) Kp fun x14 =>
    opN Tryz.prog (sConv 5 21 x14) Kp fun x15 =>
    cut2 (fun J1 =>
     opN Tryz.prog (sBin .geq 21 x15 (.int .i32 128)) Kp fun x17 =>
     condS x17
     (opN Tryz.prog (sCall (fn 103) [y0]) Kp fun x20 =>
      opN Tryz.prog (sExt x20 0) Kp fun x21 =>
      opN Tryz.prog (sExt x20 1) Kp fun x22 =>
      J1 x21 x22)
     (J1 x15 (.int .i64 1))) fun _ z5 z6 =>
    opN Tryz.prog (sCall (fn 102) [v1, z5]) Kp fun x25 =>
    opN Tryz.prog (sUn .not x25) Kp fun x26 =>
    condS x26
    (K y0)
    (opN Tryz.prog (sLen #[9] 3 [y0]) Kp fun x29 =>
     opN Tryz.prog (sBin .sub 3 x29 z6) Kp fun x31 =>
     opN Tryz.prog (sSl 9 y0 none (some x31) none) Kp fun x32 =>
     next1 I1 m1 x32))
   (K y0)) v0
def strings_trimRightUnicode_an : Ann := { cuts := [(5, [5, 6])], blks := [], loops := [(1, [0])], drs := [] }
theorem strings_trimRightUnicode_eq (v0 v1 : Value) (Kp : PK) (K : Value → WP) : cevF Tryz.prog strings_trimRightUnicode_an Tryz.f84 [v0, v1] Kp K = strings_trimRightUnicode v0 v1 Kp K := by kernel_rfl
theorem strings_trimRightUnicode_calls {v0 v1 : Value} {Kp : PK} {K : Value → WP} {w : World} (h : strings_trimRightUnicode v0 v1 Kp K w) : Calls Tryz.prog 84 #[v0, v1] w (after Kp K) :=
  calls_of_shape (calls_of_cev wide Tryz.func84 (an := strings_trimRightUnicode_an) (args := [v0, v1]) (cast (congrFun (strings_trimRightUnicode_eq v0 v1 Kp K) w).symm h))
theorem strings_trimRightUnicode_cn {v0 v1 : Value} {W : World} {α : Type} {A : List HP} {r : α → Value} {B : α → List HP} (h : ∀ F, Ent W (A ++ F) (strings_trimRightUnicode v0 v1 noP fun v w => ∃ x, v = r x ∧ sat W (B x ++ F) w)) : Cn Tryz.prog 84 [v0, v1] W A r B :=
  Cn.of (shape := strings_trimRightUnicode v0 v1) Tryz.call84 (fun h => strings_trimRightUnicode_calls h) h
theorem strings_trimRightUnicode_cnP {v0 v1 : Value} {W : World} {α β : Type} {A : List HP} {r : α → Value} {B : α → List HP} {pc : β → List PanicEntry} {Bp : β → List HP} (h : ∀ F, Ent W (A ++ F) (strings_trimRightUnicode v0 v1 (fun ch w => ∃ y, ch = pc y ∧ sat W (Bp y ++ F) w) fun v w => ∃ x, v = r x ∧ sat W (B x ++ F) w)) : CnP Tryz.prog 84 [v0, v1] W A r B pc Bp :=
  CnP.of (shape := strings_trimRightUnicode v0 v1) Tryz.call84 (fun h => strings_trimRightUnicode_calls h) h

/-- bytealg_Cutover -/
def bytealg_Cutover (v0 : Value) (Kp : PK) (K : Value → WP) : WP :=
  opN Tryz.prog (sBin .add 3 v0 (.int .i64 16)) Kp fun x4 =>
  opN Tryz.prog (sBin .quo 3 x4 (.int .i64 8)) Kp fun x5 =>
  K x5
def bytealg_Cutover_an : Ann := { cuts := [], blks := [], loops := [], drs := [] }
theorem bytealg_Cutover_eq (v0 : Value) (Kp : PK) (K : Value → WP) : cevF Tryz.prog bytealg_Cutover_an Tryz.f86 [v0] Kp K = bytealg_Cutover v0 Kp K := by kernel_rfl
theorem bytealg_Cutover_calls {v0 : Value} {Kp : PK} {K : Value → WP} {w : World} (h : bytealg_Cutover v0 Kp K w) : Calls Tryz.prog 86 #[v0] w (after Kp K) :=
  calls_of_shape (calls_of_cev wide Tryz.func86 (an := bytealg_Cutover_an) (args := [v0]) (cast (congrFun (bytealg_Cutover_eq v0 Kp K) w).symm h))
theorem bytealg_Cutover_cn {v0 : Value} {W : World} {α : Type} {A : List HP} {r : α → Value} {B : α → List HP} (h : ∀ F, Ent W (A ++ F) (bytealg_Cutover v0 noP fun v w => ∃ x, v = r x ∧ sat W (B x ++ F) w)) : Cn Tryz.prog 86 [v0] W A r B :=
  Cn.of (shape := bytealg_Cutover v0) Tryz.call86 (fun h => bytealg_Cutover_calls h) h
theorem bytealg_Cutover_cnP {v0 : Value} {W : World} {α β : Type} {A : List HP} {r : α → Value} {B : α → List HP} {pc : β → List PanicEntry} {Bp : β → List HP} (h : ∀ F, Ent W (A ++ F) (bytealg_Cutover v0 (fun ch w => ∃ y, ch = pc y ∧ sat W (Bp y ++ F) w) fun v w => ∃ x, v = r x ∧ sat W (B x ++ F) w)) : CnP Tryz.prog 86 [v0] W A r B pc Bp :=
  CnP.of (shape := bytealg_Cutover v0) Tryz.call86 (fun h => bytealg_Cutover_calls h) h

/-- bytealg_IndexRabinKarp_string -/
def bytealg_IndexRabinKarp_string (v0 v1 : Value) (Kp : PK) (K : Value → WP) : WP :=
  opN Tryz.prog (sCall (fn 104) [v1]) Kp fun x13 =>
  opN Tryz.prog (sExt x13 0) Kp fun x14 =>
  opN Tryz.prog (sExt x13 1) Kp fun x15 =>
  opN Tryz.prog (sLen #[9] 3 [v1]) Kp fun x17 =>
  loop2 (fun I1 m1 _ y8 y9 =>
   opN Tryz.prog (sBin .lss 3 y9 x17) Kp fun x20 =>
   condS x20
   (opN Tryz.prog (sBin .mul 88 y8 (.int .u32 16777619)) Kp fun x24 =>
    opN Tryz.prog (sIx 9 v0 y9) Kp fun x27 =>
    opN Tryz.prog (sConv 5 88 x27) Kp fun x28 =>
    opN Tryz.prog (sBin .add 88 x24 x28) Kp fun x29 =>
    opN Tryz.prog (sBin .add 3 y9 (.int .i64 1)) Kp fun x22 =>
    next2 I1 m1 x29 x22)
   (opN Tryz.prog (sEq .eql 88 (.tmp 30) (.tmp 31) y8 x14) Kp fun x32 =>
    gdK x32 true (fun k => k v0) fun x34 =>
    gdK x32 true (fun k => k x17) fun x35 =>
    gdK x32 true (opN Tryz.prog (sSl 9 x34 none (some x35) none) Kp) fun x36 =>
    gdK x32 true (fun k => k v1) fun x37 =>
    gdK x32 true (opN Tryz.prog (sEq .eql 9 (.tmp 36) (.tmp 37) x36 x37) Kp) fun x38 =>
    opN Tryz.prog (sPick x32 x38 (.bool false)) Kp fun x39 =>
    condS x39
    (K (.int .i64 0))
    (loop2 (fun I2 m2 _ y8_2 y10 =>
      opN Tryz.prog (sLen #[9] 3 [v0]) Kp fun x43 =>
      opN Tryz.prog (sBin .lss 3 y10 x43) Kp fun x44 =>
      condS x44
      (opN Tryz.prog (sBin .mul 88 y8_2 (.int .u32 16777619)) Kp fun x46 =>
       opN Tryz.prog (sIx 9 v0 y10) Kp fun x50 =>
       opN Tryz.prog (sConv 5 88 x50) Kp fun x51 =>
       opN Tryz.prog (sBin .add 88 x46 x51) Kp fun x52 =>
       opN Tryz.prog (sBin .sub 3 y10 x17) Kp fun x58 =>
       opN Tryz.prog (sIx 9 v0 x58) Kp fun x59 =>
       opN Tryz.prog (sConv 5 88 x59) Kp fun x60 =>
       opN Tryz.prog (sBin .mul 88 x15 x60) Kp fun x61 =>
       opN Tryz.prog (sBin .sub 88 x52 x61) Kp fun x62 =>
       opN Tryz.prog (sBin .add 3 y10 (.int .i64 1)) Kp fun x64 =>
       opN Tryz.prog (sEq .eql 88 (.tmp 65) (.tmp 66) x62 x14) Kp fun x67 =>
       gdK x67 true (fun k => k v0) fun x69 =>
       gdK x67 true (fun k => k x64) fun x70 =>
       gdK x67 true (fun k => k x17) fun x71 =>
       gdK x67 true (opN Tryz.prog (sBin .sub 3 x70 x71) Kp) fun x72 =>
       gdK x67 true (fun k => k x64) fun x73 =>
       gdK x67 true (opN Tryz.prog (sSl 9 x69 (some x72) (some x73) none) Kp) fun x74 =>
       gdK x67 true (fun k => k v1) fun x75 =>
       gdK x67 true (opN Tryz.prog (sEq .eql 9 (.tmp 74) (.tmp 75) x74 x75) Kp) fun x76 =>
       opN Tryz.prog (sPick x67 x76 (.bool false)) Kp fun x77 =>
       condS x77
       (opN Tryz.prog (sBin .sub 3 x64 x17) Kp fun x80 =>
        K x80)
       (next2 I2 m2 x62 x64))
      (K (.int .i64 (-1)))) y8 x17))) (.int .u32 0) (.int .i64 0)
def bytealg_IndexRabinKarp_string_an : Ann := { cuts := [], blks := [], loops := [(5, [8, 9]), (11, [8, 10])], drs := [] }
theorem bytealg_IndexRabinKarp_string_eq (v0 v1 : Value) (Kp : PK) (K : Value → WP) : cevF Tryz.prog bytealg_IndexRabinKarp_string_an Tryz.f87 [v0, v1] Kp K = bytealg_IndexRabinKarp_string v0 v1 Kp K := by kernel_rfl
theorem bytealg_IndexRabinKarp_string_calls {v0 v1 : Value} {Kp : PK} {K : Value → WP} {w : World} (h : bytealg_IndexRabinKarp_string v0 v1 Kp K w) : Calls Tryz.prog 87 #[v0, v1] w (after Kp K) :=
  calls_of_shape (calls_of_cev wide Tryz.func87 (an := bytealg_IndexRabinKarp_string_an) (args := [v0, v1]) (cast (congrFun (bytealg_IndexRabinKarp_string_eq v0 v1 Kp K) w).symm h))
theorem bytealg_IndexRabinKarp_string_cn {v0 v1 : Value} {W : World} {α : Type} {A : List HP} {r : α → Value} {B : α → List HP} (h : ∀ F, Ent W (A ++ F) (bytealg_IndexRabinKarp_string v0 v1 noP fun v w => ∃ x, v = r x ∧ sat W (B x ++ F) w)) : Cn Tryz.prog 87 [v0, v1] W A r B :=
  Cn.of (shape := bytealg_IndexRabinKarp_string v0 v1) Tryz.call87 (fun h => bytealg_IndexRabinKarp_string_calls h) h
theorem bytealg_IndexRabinKarp_string_cnP {v0 v1 : Value} {W : World} {α β : Type} {A : List HP} {r : α → Value} {B : α → List HP} {pc : β → List PanicEntry} {Bp : β → List HP} (h : ∀ F, Ent W (A ++ F) (bytealg_IndexRabinKarp_string v0 v1 (fun ch w => ∃ y, ch = pc y ∧ sat W (Bp y ++ F) w) fun v w => ∃ x, v = r x ∧ sat W (B x ++ F) w)) : CnP Tryz.prog 87 [v0, v1] W A r B pc Bp :=
  CnP.of (shape := bytealg_IndexRabinKarp_string v0 v1) Tryz.call87 (fun h => bytealg_IndexRabinKarp_string_calls h) h

/-- strings_makeStringFinder -/
def strings_makeStringFinder (v0 : Value) (Kp : PK) (K : Value → WP) : WP :=
  opN Tryz.prog (sLen #[9] 3 [v0]) Kp fun x13 =>
  opN Tryz.prog (sMkSl 187 x13 x13) Kp fun x14 =>
  opN Tryz.prog (sBuild 189 [(0, v0), (2, x14)]) Kp fun x15 =>
  opN Tryz.prog (sBox 189 x15) Kp fun x16 =>
  opN Tryz.prog (sLen #[9] 3 [v0]) Kp fun x18 =>
  opN Tryz.prog (sBin .sub 3 x18 (.int .i64 1)) Kp fun x19 =>
  loop1 (fun I1 m1 _ y20 =>
   opN Tryz.prog (sBin .lss 3 y20 (.int .i64 256)) Kp fun x21 =>
   condS x21
   (opN Tryz.prog (sLen #[9] 3 [v0]) Kp fun x26 =>
    opN Tryz.prog (sNil x16) Kp fun x27 =>
    opN Tryz.prog (sFA 189 x27 1) Kp fun x28 =>
    opN Tryz.prog (sIA 75 x28 y20) Kp fun x29 =>
    opN Tryz.prog (sStore 3 x29 x26) Kp fun _ =>
    opN Tryz.prog (sBin .add 3 y20 (.int .i64 1)) Kp fun x30 =>
    next1 I1 m1 x30)
   (loop1 (fun I2 m2 _ y6 =>
     opN Tryz.prog (sBin .lss 3 y6 x19) Kp fun x33 =>
     condS x33
     (drS (stS Tryz.prog (sIx 9 v0 y6) fun x39 =>
       stS Tryz.prog (sBin .sub 3 x19 y6) fun x42 =>
       stS Tryz.prog (sNil x16) fun x43 =>
       stS Tryz.prog (sFA 189 x43 1) fun x44 =>
       stS Tryz.prog (sIA 75 x44 x39) fun x45 =>
       opN Tryz.prog (sStore 3 x45 x42) Kp fun _ =>
       opN Tryz.prog (sBin .add 3 y6 (.int .i64 1)) Kp fun x35 =>
       next1 I2 m2 x35))
     (loop2 (fun I3 m3 _ y7 y8 =>
       opN Tryz.prog (sBin .geq 3 y8 (.int .i64 0)) Kp fun x49 =>
       condS x49
       (cut1 (fun J1 =>
         opN Tryz.prog (sBin .add 3 y8 (.int .i64 1)) Kp fun x55 =>
         opN Tryz.prog (sSl 9 v0 (some x55) none none) Kp fun x56 =>
         opN Tryz.prog (sCall (fn 113) [v0, x56]) Kp fun x57 =>
         condS x57
         (opN Tryz.prog (sBin .add 3 y8 (.int .i64 1)) Kp fun x59 =>
          J1 x59)
         (J1 y7)) fun _ z7 =>
        opN Tryz.prog (sNil x16) Kp fun x61 =>
        opN Tryz.prog (sFA 189 x61 2) Kp fun x62 =>
        opN Tryz.prog (sLoad 187 x62) Kp fun x63 =>
        opN Tryz.prog (sBin .add 3 z7 x19) Kp fun x67 =>
        opN Tryz.prog (sBin .sub 3 x67 y8) Kp fun x69 =>
        opN Tryz.prog (sIA 187 x63 y8) Kp fun x70 =>
        opN Tryz.prog (sStore 3 x70 x69) Kp fun _ =>
        opN Tryz.prog (sBin .sub 3 y8 (.int .i64 1)) Kp fun x51 =>
        next2 I3 m3 z7 x51)
       (loop1 (fun I4 m4 _ y9 =>
         opN Tryz.prog (sBin .lss 3 y9 x19) Kp fun x73 =>
         condS x73
         (opN Tryz.prog (sBin .add 3 y9 (.int .i64 1)) Kp fun x79 =>
          opN Tryz.prog (sSl 9 v0 (some (.int .i64 1)) (some x79) none) Kp fun x80 =>
          opN Tryz.prog (sCall (fn 114) [v0, x80]) Kp fun x81 =>
          drS (stS Tryz.prog (sBin .sub 3 y9 x81) fun x85 =>
           stS Tryz.prog (sIx 9 v0 x85) fun x86 =>
           stS Tryz.prog (sBin .sub 3 x19 x81) fun x90 =>
           stS Tryz.prog (sIx 9 v0 x90) fun x91 =>
           stS Tryz.prog (sEq .neq 5 (.tmp 86) (.tmp 91) x86 x91) fun x92 =>
           condS x92
           (opN Tryz.prog (sNil x16) Kp fun x94 =>
            opN Tryz.prog (sFA 189 x94 2) Kp fun x95 =>
            opN Tryz.prog (sLoad 187 x95) Kp fun x96 =>
            opN Tryz.prog (sBin .sub 3 x19 x81) Kp fun x99 =>
            opN Tryz.prog (sBin .add 3 x81 x19) Kp fun x102 =>
            opN Tryz.prog (sBin .sub 3 x102 y9) Kp fun x104 =>
            opN Tryz.prog (sIA 187 x96 x99) Kp fun x105 =>
            opN Tryz.prog (sStore 3 x105 x104) Kp fun _ =>
            opN Tryz.prog (sBin .add 3 y9 (.int .i64 1)) Kp fun x75 =>
            next1 I4 m4 x75)
           (opN Tryz.prog (sBin .add 3 y9 (.int .i64 1)) Kp fun x75 =>
            next1 I4 m4 x75)))
         (K x16)) (.int .i64 0))) x19 x19)) (.int .i64 0))) (.int .i64 0)
def strings_makeStringFinder_an : Ann := { cuts := [(18, [7])], blks := [], loops := [(4, [20]), (9, [6]), (14, [7, 8]), (20, [9])], drs := [(11, [(0, 1), (1, 1), (2, 1), (3, 1), (4, 1), (5, 1), (6, 1), (7, 1), (8, 1), (9, 1), (10, 0)]), (23, [(0, 1), (1, 1), (2, 1), (3, 1), (4, 1), (5, 1), (6, 1), (7, 1), (8, 1), (9, 1), (10, 1)])] }
theorem strings_makeStringFinder_eq (v0 : Value) (Kp : PK) (K : Value → WP) : cevF Tryz.prog strings_makeStringFinder_an Tryz.f92 [v0] Kp K = strings_makeStringFinder v0 Kp K := by kernel_rfl
theorem strings_makeStringFinder_calls {v0 : Value} {Kp : PK} {K : Value → WP} {w : World} (h : strings_makeStringFinder v0 Kp K w) : Calls Tryz.prog 92 #[v0] w (after Kp K) :=
  calls_of_shape (calls_of_cev wide Tryz.func92 (an := strings_makeStringFinder_an) (args := [v0]) (cast (congrFun (strings_makeStringFinder_eq v0 Kp K) w).symm h))
theorem strings_makeStringFinder_cn {v0 : Value} {W : World} {α : Type} {A : List HP} {r : α → Value} {B : α → List HP} (h : ∀ F, Ent W (A ++ F) (strings_makeStringFinder v0 noP fun v w => ∃ x, v = r x ∧ sat W (B x ++ F) w)) : Cn Tryz.prog 92 [v0] W A r B :=
  Cn.of (shape := strings_makeStringFinder v0) Tryz.call92 (fun h => strings_makeStringFinder_calls h) h
theorem strings_makeStringFinder_cnP {v0 : Value} {W : World} {α β : Type} {A : List HP} {r : α → Value} {B : α → List HP} {pc : β → List PanicEntry} {Bp : β → List HP} (h : ∀ F, Ent W (A ++ F) (strings_makeStringFinder v0 (fun ch w => ∃ y, ch = pc y ∧ sat W (Bp y ++ F) w) fun v w => ∃ x, v = r x ∧ sat W (B x ++ F) w)) : CnP Tryz.prog 92 [v0] W A r B pc Bp :=
  CnP.of (shape := strings_makeStringFinder v0) Tryz.call92 (fun h => strings_makeStringFinder_calls h) h

end Go.Proofs.YtcigoifhcfbcdaaGreatDoor.S
