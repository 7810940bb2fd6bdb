/- The shapes of functions of the loaded program, printed by a program of mine; each is proved to be what the model asks of the function. No conditions. -/
import Derived.Test.YtcigoifhcfbcdaaDoorChecked
import Derived.Test.YtcigoifhcfbcdaaDoorShapes1
import Derived.KernelRfl
set_option linter.unusedVariables false
namespace Go.Proofs.YtcigoifhcfbcdaaDoor.S
open Go Go.Proofs.YtcigoifhcfbcdaaDoor.Sh Go.Proofs.YtcigoifhcfbcdaaDoor.Sl


/-- ref10_weight -/
def ref10_weight (v0 : Value) (Kp : PK) (K : Value → WP) : WP :=
  opN Tryd.prog (sLen #[9] 3 [v0]) Kp fun x7 =>
  opN Tryd.prog (sBin .lss 3 x7 (.int .i64 1)) Kp fun x8 =>
  gdK x8 false (fun k => k v0) fun x10 =>
  gdK x8 false (opN Tryd.prog (sLen #[9] 3 [x10]) Kp) fun x11 =>
  gdK x8 false (opN Tryd.prog (sBin .gtr 3 x11 (.int .i64 5)) Kp) fun x12 =>
  opN Tryd.prog (sPick x8 (.bool true) x12) Kp fun x13 =>
  gdK x13 false (fun k => k v0) fun x15 =>
  gdK x13 false (opN Tryd.prog (sIx 9 x15 (.int .i64 0)) Kp) fun x16 =>
  gdK x13 false (opN Tryd.prog (sEq .neq 5 (.tmp 16) (.const (.int .u8 48)) x16 (.int .u8 48)) Kp) fun x17 =>
  gdK x13 false (fun k => k x17) fun x18 =>
  gdK x18 true (fun k => k v0) fun x19 =>
  gdK x18 true (opN Tryd.prog (sIx 9 x19 (.int .i64 0)) Kp) fun x20 =>
  gdK x18 true (opN Tryd.prog (sEq .neq 5 (.tmp 20) (.const (.int .u8 49)) x20 (.int .u8 49)) Kp) fun x21 =>
  gdK x13 false (opN Tryd.prog (sPick x18 x21 (.bool false)) Kp) fun x22 =>
  opN Tryd.prog (sPick x13 (.bool true) x22) Kp fun x23 =>
  gdK x23 false (fun k => k v0) fun x25 =>
  gdK x23 false (opN Tryd.prog (sLen #[9] 3 [x25]) Kp) fun x26 =>
  gdK x23 false (opN Tryd.prog (sBin .gtr 3 x26 (.int .i64 1)) Kp) fun x27 =>
  gdK x23 false (fun k => k x27) fun x28 =>
  gdK x28 true (fun k => k v0) fun x29 =>
  gdK x28 true (opN Tryd.prog (sIx 9 x29 (.int .i64 1)) Kp) fun x30 =>
  gdK x28 true (opN Tryd.prog (sEq .neq 5 (.tmp 30) (.const (.int .u8 46)) x30 (.int .u8 46)) Kp) fun x31 =>
  gdK x23 false (opN Tryd.prog (sPick x28 x31 (.bool false)) Kp) fun x32 =>
  opN Tryd.prog (sPick x23 (.bool true) x32) Kp fun x33 =>
  condS x33
  (K (.int .i64 (-1)))
  (opN Tryd.prog (sIx 9 v0 (.int .i64 0)) Kp fun x35 =>
   opN Tryd.prog (sBin .sub 5 x35 (.int .u8 48)) Kp fun x36 =>
   opN Tryd.prog (sConv 5 3 x36) Kp fun x37 =>
   opN Tryd.prog (sBin .mul 3 (.int .i64 1000) x37) Kp fun x38 =>
   loop3 (fun I1 m1 _ y3 y4 y5 =>
    opN Tryd.prog (sLen #[9] 3 [v0]) Kp fun x41 =>
    opN Tryd.prog (sBin .lss 3 y5 x41) Kp fun x42 =>
    condS x42
    (opN Tryd.prog (sIx 9 v0 y5) Kp fun x47 =>
     opN Tryd.prog (sBin .lss 5 x47 (.int .u8 48)) Kp fun x48 =>
     gdK x48 false (fun k => k v0) fun x50 =>
     gdK x48 false (fun k => k y5) fun x51 =>
     gdK x48 false (opN Tryd.prog (sIx 9 x50 x51) Kp) fun x52 =>
     gdK x48 false (opN Tryd.prog (sBin .gtr 5 x52 (.int .u8 57)) Kp) fun x53 =>
     opN Tryd.prog (sPick x48 (.bool true) x53) Kp fun x54 =>
     condS x54
     (K (.int .i64 (-1)))
     (opN Tryd.prog (sIx 9 v0 y5) Kp fun x59 =>
      opN Tryd.prog (sBin .sub 5 x59 (.int .u8 48)) Kp fun x60 =>
      opN Tryd.prog (sConv 5 3 x60) Kp fun x61 =>
      opN Tryd.prog (sBin .mul 3 y4 x61) Kp fun x62 =>
      opN Tryd.prog (sBin .add 3 y3 x62) Kp fun x63 =>
      opN Tryd.prog (sBin .quo 3 y4 (.int .i64 10)) Kp fun x65 =>
      opN Tryd.prog (sBin .add 3 y5 (.int .i64 1)) Kp fun x44 =>
      next3 I1 m1 x63 x65 x44))
    (opN Tryd.prog (sBin .gtr 3 y3 (.int .i64 1000)) Kp fun x67 =>
     condS x67
     (K (.int .i64 (-1)))
     (K y3))) x38 (.int .i64 100) (.int .i64 2))
def ref10_weight_an : Ann := { cuts := [], blks := [], loops := [(6, [3, 4, 5])], drs := [] }
theorem ref10_weight_eq (v0 : Value) (Kp : PK) (K : Value → WP) : cevF Tryd.prog ref10_weight_an Tryd.f80 [v0] Kp K = ref10_weight v0 Kp K := by kernel_rfl
theorem ref10_weight_calls {v0 : Value} {Kp : PK} {K : Value → WP} {w : World} (h : ref10_weight v0 Kp K w) : Calls Tryd.prog 80 #[v0] w (after Kp K) :=
  calls_of_shape (calls_of_cev wide Tryd.func80 (an := ref10_weight_an) (args := [v0]) (cast (congrFun (ref10_weight_eq v0 Kp K) w).symm h))
theorem ref10_weight_cn {v0 : Value} {W : World} {α : Type} {A : List HP} {r : α → Value} {B : α → List HP} (h : ∀ F, Ent W (A ++ F) (ref10_weight v0 noP fun v w => ∃ x, v = r x ∧ sat W (B x ++ F) w)) : Cn Tryd.prog 80 [v0] W A r B :=
  Cn.of (shape := ref10_weight v0) Tryd.call80 (fun h => ref10_weight_calls h) h
theorem ref10_weight_cnP {v0 : Value} {W : World} {α β : Type} {A : List HP} {r : α → Value} {B : α → List HP} {pc : β → List PanicEntry} {Bp : β → List HP} (h : ∀ F, Ent W (A ++ F) (ref10_weight v0 (fun ch w => ∃ y, ch = pc y ∧ sat W (Bp y ++ F) w) fun v w => ∃ x, v = r x ∧ sat W (B x ++ F) w)) : CnP Tryd.prog 80 [v0] W A r B pc Bp :=
  CnP.of (shape := ref10_weight v0) Tryd.call80 (fun h => ref10_weight_calls h) h

/-- fields_kind_fields_Directive_elements -/
def fields_kind_fields_Directive_elements (v0 v1 : Value) (Kp : PK) (K : Value → WP) : WP :=
  opN Tryd.prog (sBox 107 v0) Kp fun x2 =>
  opN Tryd.prog (sBox 9 v1) Kp fun x3 =>
  opN Tryd.prog (sMkF (.func 102) [] [x3, x2]) Kp fun x5 =>
  K x5
def fields_kind_fields_Directive_elements_an : Ann := { cuts := [], blks := [], loops := [], drs := [] }
theorem fields_kind_fields_Directive_elements_eq (v0 v1 : Value) (Kp : PK) (K : Value → WP) : cevF Tryd.prog fields_kind_fields_Directive_elements_an Tryd.f81 [v0, v1] Kp K = fields_kind_fields_Directive_elements v0 v1 Kp K := by kernel_rfl
theorem fields_kind_fields_Directive_elements_calls {v0 v1 : Value} {Kp : PK} {K : Value → WP} {w : World} (h : fields_kind_fields_Directive_elements v0 v1 Kp K w) : Calls Tryd.prog 81 #[v0, v1] w (after Kp K) :=
  calls_of_shape (calls_of_cev wide Tryd.func81 (an := fields_kind_fields_Directive_elements_an) (args := [v0, v1]) (cast (congrFun (fields_kind_fields_Directive_elements_eq v0 v1 Kp K) w).symm h))
theorem fields_kind_fields_Directive_elements_cn {v0 v1 : Value} {W : World} {α : Type} {A : List HP} {r : α → Value} {B : α → List HP} (h : ∀ F, Ent W (A ++ F) (fields_kind_fields_Directive_elements v0 v1 noP fun v w => ∃ x, v = r x ∧ sat W (B x ++ F) w)) : Cn Tryd.prog 81 [v0, v1] W A r B :=
  Cn.of (shape := fields_kind_fields_Directive_elements v0 v1) Tryd.call81 (fun h => fields_kind_fields_Directive_elements_calls h) h
theorem fields_kind_fields_Directive_elements_cnP {v0 v1 : Value} {W : World} {α β : Type} {A : List HP} {r : α → Value} {B : α → List HP} {pc : β → List PanicEntry} {Bp : β → List HP} (h : ∀ F, Ent W (A ++ F) (fields_kind_fields_Directive_elements v0 v1 (fun ch w => ∃ y, ch = pc y ∧ sat W (Bp y ++ F) w) fun v w => ∃ x, v = r x ∧ sat W (B x ++ F) w)) : CnP Tryd.prog 81 [v0, v1] W A r B pc Bp :=
  CnP.of (shape := fields_kind_fields_Directive_elements v0 v1) Tryd.call81 (fun h => fields_kind_fields_Directive_elements_calls h) h

/-- fields_unquote -/
def fields_unquote (v0 : Value) (Kp : PK) (K : Value → WP) : WP :=
  opN Tryd.prog (sLen #[9] 3 [v0]) Kp fun x8 =>
  opN Tryd.prog (sBin .lss 3 x8 (.int .i64 2)) Kp fun x9 =>
  gdK x9 false (fun k => k v0) fun x11 =>
  gdK x9 false (opN Tryd.prog (sIx 9 x11 (.int .i64 0)) Kp) fun x12 =>
  gdK x9 false (opN Tryd.prog (sEq .neq 5 (.tmp 12) (.const (.int .u8 34)) x12 (.int .u8 34)) Kp) fun x13 =>
  opN Tryd.prog (sPick x9 (.bool true) x13) Kp fun x14 =>
  condS x14
  (K (.tuple #[(.string ⟨#[]⟩), (.bool false)]))
  (loop2 (fun I1 m1 _ y4 y5 =>
    opN Tryd.prog (sLen #[9] 3 [v0]) Kp fun x17 =>
    opN Tryd.prog (sBin .lss 3 y5 x17) Kp fun x18 =>
    condS x18
    (opN Tryd.prog (sIx 9 v0 y5) Kp fun x23 =>
     cut2 (fun J1 =>
      opN Tryd.prog (sEq .eql 5 (.tmp 25) (.const (.int .u8 34)) x23 (.int .u8 34)) Kp fun x26 =>
      condS x26
      (opN Tryd.prog (sConv 150 9 y4) Kp fun x28 =>
       opN Tryd.prog (sBin .add 3 y5 (.int .i64 1)) Kp fun x30 =>
       opN Tryd.prog (sLen #[9] 3 [v0]) Kp fun x32 =>
       opN Tryd.prog (sEq .eql 3 (.tmp 30) (.tmp 32) x30 x32) Kp fun x33 =>
       K (.tuple #[x28, x33]))
      (opN Tryd.prog (sEq .eql 5 (.tmp 35) (.const (.int .u8 92)) x23 (.int .u8 92)) Kp fun x36 =>
       condS x36
       (opN Tryd.prog (sBin .add 3 y5 (.int .i64 1)) Kp fun x38 =>
        opN Tryd.prog (sLen #[9] 3 [v0]) Kp fun x41 =>
        opN Tryd.prog (sEq .eql 3 (.tmp 39) (.tmp 41) x38 x41) Kp fun x42 =>
        condS x42
        (K (.tuple #[(.string ⟨#[]⟩), (.bool false)]))
        (opN Tryd.prog (sIx 9 v0 x38) Kp fun x45 =>
         J1 x38 x45))
       (J1 y5 x23))) fun _ z5 z6 =>
     opN Tryd.prog (sBin .lss 5 z6 (.int .u8 32)) Kp fun x47 =>
     gdK x47 true (fun k => k z6) fun x49 =>
     gdK x47 true (opN Tryd.prog (sEq .neq 5 (.tmp 49) (.const (.int .u8 9)) x49 (.int .u8 9)) Kp) fun x50 =>
     opN Tryd.prog (sPick x47 x50 (.bool false)) Kp fun x51 =>
     gdK x51 false (fun k => k z6) fun x53 =>
     gdK x51 false (opN Tryd.prog (sEq .eql 5 (.tmp 53) (.const (.int .u8 127)) x53 (.int .u8 127)) Kp) fun x54 =>
     opN Tryd.prog (sPick x51 (.bool true) x54) Kp fun x55 =>
     condS x55
     (K (.tuple #[(.string ⟨#[]⟩), (.bool false)]))
     (opN Tryd.prog (sBuildSl 150 1 [(0, z6)]) Kp fun x58 =>
      opN Tryd.prog (sApp #[150, 150] 150 [y4, x58]) Kp fun x59 =>
      opN Tryd.prog (sBin .add 3 z5 (.int .i64 1)) Kp fun x20 =>
      next2 I1 m1 x59 x20))
    (K (.tuple #[(.string ⟨#[]⟩), (.bool false)]))) (.slice none 0 0) (.int .i64 1))
def fields_unquote_an : Ann := { cuts := [(15, [5, 6])], blks := [], loops := [(5, [4, 5])], drs := [] }
theorem fields_unquote_eq (v0 : Value) (Kp : PK) (K : Value → WP) : cevF Tryd.prog fields_unquote_an Tryd.f82 [v0] Kp K = fields_unquote v0 Kp K := by kernel_rfl
theorem fields_unquote_calls {v0 : Value} {Kp : PK} {K : Value → WP} {w : World} (h : fields_unquote v0 Kp K w) : Calls Tryd.prog 82 #[v0] w (after Kp K) :=
  calls_of_shape (calls_of_cev wide Tryd.func82 (an := fields_unquote_an) (args := [v0]) (cast (congrFun (fields_unquote_eq v0 Kp K) w).symm h))
theorem fields_unquote_cn {v0 : Value} {W : World} {α : Type} {A : List HP} {r : α → Value} {B : α → List HP} (h : ∀ F, Ent W (A ++ F) (fields_unquote v0 noP fun v w => ∃ x, v = r x ∧ sat W (B x ++ F) w)) : Cn Tryd.prog 82 [v0] W A r B :=
  Cn.of (shape := fields_unquote v0) Tryd.call82 (fun h => fields_unquote_calls h) h
theorem fields_unquote_cnP {v0 : Value} {W : World} {α β : Type} {A : List HP} {r : α → Value} {B : α → List HP} {pc : β → List PanicEntry} {Bp : β → List HP} (h : ∀ F, Ent W (A ++ F) (fields_unquote v0 (fun ch w => ∃ y, ch = pc y ∧ sat W (Bp y ++ F) w) fun v w => ∃ x, v = r x ∧ sat W (B x ++ F) w)) : CnP Tryd.prog 82 [v0] W A r B pc Bp :=
  CnP.of (shape := fields_unquote v0) Tryd.call82 (fun h => fields_unquote_calls h) h

/-- strings_CutPrefix -/
def strings_CutPrefix (v0 v1 : Value) (Kp : PK) (K : Value → WP) : WP :=
  opN Tryd.prog (sCall (fn 103) [v0, v1]) Kp fun x8 =>
  opN Tryd.prog (sExt x8 0) Kp fun x9 =>
  opN Tryd.prog (sExt x8 1) Kp fun x10 =>
  K (.tuple #[x9, x10])
def strings_CutPrefix_an : Ann := { cuts := [], blks := [], loops := [], drs := [] }
theorem strings_CutPrefix_eq (v0 v1 : Value) (Kp : PK) (K : Value → WP) : cevF Tryd.prog strings_CutPrefix_an Tryd.f83 [v0, v1] Kp K = strings_CutPrefix v0 v1 Kp K := by kernel_rfl
theorem strings_CutPrefix_calls {v0 v1 : Value} {Kp : PK} {K : Value → WP} {w : World} (h : strings_CutPrefix v0 v1 Kp K w) : Calls Tryd.prog 83 #[v0, v1] w (after Kp K) :=
  calls_of_shape (calls_of_cev wide Tryd.func83 (an := strings_CutPrefix_an) (args := [v0, v1]) (cast (congrFun (strings_CutPrefix_eq v0 v1 Kp K) w).symm h))
theorem strings_CutPrefix_cn {v0 v1 : Value} {W : World} {α : Type} {A : List HP} {r : α → Value} {B : α → List HP} (h : ∀ F, Ent W (A ++ F) (strings_CutPrefix v0 v1 noP fun v w => ∃ x, v = r x ∧ sat W (B x ++ F) w)) : Cn Tryd.prog 83 [v0, v1] W A r B :=
  Cn.of (shape := strings_CutPrefix v0 v1) Tryd.call83 (fun h => strings_CutPrefix_calls h) h
theorem strings_CutPrefix_cnP {v0 v1 : Value} {W : World} {α β : Type} {A : List HP} {r : α → Value} {B : α → List HP} {pc : β → List PanicEntry} {Bp : β → List HP} (h : ∀ F, Ent W (A ++ F) (strings_CutPrefix v0 v1 (fun ch w => ∃ y, ch = pc y ∧ sat W (Bp y ++ F) w) fun v w => ∃ x, v = r x ∧ sat W (B x ++ F) w)) : CnP Tryd.prog 83 [v0, v1] W A r B pc Bp :=
  CnP.of (shape := strings_CutPrefix v0 v1) Tryd.call83 (fun h => strings_CutPrefix_calls h) h

/-- strings_Trim -/
def strings_Trim (v0 v1 : Value) (Kp : PK) (K : Value → WP) : WP :=
  opN Tryd.prog (sEq .eql 9 (.tmp 7) (.const (.string ⟨#[]⟩)) v0 (.string ⟨#[]⟩)) Kp fun x8 =>
  gdK x8 false (fun k => k v1) fun x10 =>
  gdK x8 false (opN Tryd.prog (sEq .eql 9 (.tmp 10) (.const (.string ⟨#[]⟩)) x10 (.string ⟨#[]⟩)) Kp) fun x11 =>
  opN Tryd.prog (sPick x8 (.bool true) x11) Kp fun x12 =>
  condS x12
  (K v0)
  (opN Tryd.prog (sLen #[9] 3 [v1]) Kp fun x15 =>
   opN Tryd.prog (sEq .eql 3 (.tmp 15) (.const (.int .i64 1)) x15 (.int .i64 1)) Kp fun x16 =>
   gdK x16 true (fun k => k v1) fun x18 =>
   gdK x16 true (opN Tryd.prog (sIx 9 x18 (.int .i64 0)) Kp) fun x19 =>
   gdK x16 true (opN Tryd.prog (sBin .lss 5 x19 (.int .u8 128)) Kp) fun x20 =>
   opN Tryd.prog (sPick x16 x20 (.bool false)) Kp fun x21 =>
   condS x21
   (drS (stS Tryd.prog (sIx 9 v1 (.int .i64 0)) fun x24 =>
     stD Tryd.prog (sIx 9 v1 (.int .i64 0)) fun D5 x27 =>
     opN Tryd.prog (sCall (fn 105) [v0, x24]) Kp fun x25 =>
     (fun w => D5 w ∧ (opN Tryd.prog (sCall (fn 104) [x25, x27]) Kp fun x28 =>
       K x28) w)))
   (opN Tryd.prog (sCall (fn 106) [v1]) Kp fun x31 =>
    opN Tryd.prog (sExt x31 0) Kp fun x32 =>
    opN Tryd.prog (sExt x31 1) Kp fun x33 =>
    opN Tryd.prog (sAlloc 193) Kp fun x5 =>
    opN Tryd.prog (sStore 193 x5 x32) Kp fun _ =>
    condS x33
    (opN Tryd.prog (sCall (fn 108) [v0, x5]) Kp fun x36 =>
     opN Tryd.prog (sCall (fn 107) [x36, x5]) Kp fun x37 =>
     K x37)
    (opN Tryd.prog (sCall (fn 110) [v0, v1]) Kp fun x40 =>
     opN Tryd.prog (sCall (fn 109) [x40, v1]) Kp fun x42 =>
     K x42)))
def strings_Trim_an : Ann := { cuts := [], blks := [], loops := [], drs := [(4, [(0, 1), (1, 1), (2, 1), (4, 2), (5, 3), (3, 0), (6, 0), (7, 1)])] }
theorem strings_Trim_eq (v0 v1 : Value) (Kp : PK) (K : Value → WP) : cevF Tryd.prog strings_Trim_an Tryd.f84 [v0, v1] Kp K = strings_Trim v0 v1 Kp K := by kernel_rfl
theorem strings_Trim_calls {v0 v1 : Value} {Kp : PK} {K : Value → WP} {w : World} (h : strings_Trim v0 v1 Kp K w) : Calls Tryd.prog 84 #[v0, v1] w (after Kp K) :=
  calls_of_shape (calls_of_cev wide Tryd.func84 (an := strings_Trim_an) (args := [v0, v1]) (cast (congrFun (strings_Trim_eq v0 v1 Kp K) w).symm h))
theorem strings_Trim_cn {v0 v1 : Value} {W : World} {α : Type} {A : List HP} {r : α → Value} {B : α → List HP} (h : ∀ F, Ent W (A ++ F) (strings_Trim v0 v1 noP fun v w => ∃ x, v = r x ∧ sat W (B x ++ F) w)) : Cn Tryd.prog 84 [v0, v1] W A r B :=
  Cn.of (shape := strings_Trim v0 v1) Tryd.call84 (fun h => strings_Trim_calls h) h
theorem strings_Trim_cnP {v0 v1 : Value} {W : World} {α β : Type} {A : List HP} {r : α → Value} {B : α → List HP} {pc : β → List PanicEntry} {Bp : β → List HP} (h : ∀ F, Ent W (A ++ F) (strings_Trim v0 v1 (fun ch w => ∃ y, ch = pc y ∧ sat W (Bp y ++ F) w) fun v w => ∃ x, v = r x ∧ sat W (B x ++ F) w)) : CnP Tryd.prog 84 [v0, v1] W A r B pc Bp :=
  CnP.of (shape := strings_Trim v0 v1) Tryd.call84 (fun h => strings_Trim_calls h) h

/-- fields_kind_fields_Tag_elements -/
def fields_kind_fields_Tag_elements (v0 v1 : Value) (Kp : PK) (K : Value → WP) : WP :=
  opN Tryd.prog (sBox 113 v0) Kp fun x2 =>
  opN Tryd.prog (sBox 9 v1) Kp fun x3 =>
  opN Tryd.prog (sMkF (.func 111) [] [x3, x2]) Kp fun x5 =>
  K x5
def fields_kind_fields_Tag_elements_an : Ann := { cuts := [], blks := [], loops := [], drs := [] }
theorem fields_kind_fields_Tag_elements_eq (v0 v1 : Value) (Kp : PK) (K : Value → WP) : cevF Tryd.prog fields_kind_fields_Tag_elements_an Tryd.f85 [v0, v1] Kp K = fields_kind_fields_Tag_elements v0 v1 Kp K := by kernel_rfl
theorem fields_kind_fields_Tag_elements_calls {v0 v1 : Value} {Kp : PK} {K : Value → WP} {w : World} (h : fields_kind_fields_Tag_elements v0 v1 Kp K w) : Calls Tryd.prog 85 #[v0, v1] w (after Kp K) :=
  calls_of_shape (calls_of_cev wide Tryd.func85 (an := fields_kind_fields_Tag_elements_an) (args := [v0, v1]) (cast (congrFun (fields_kind_fields_Tag_elements_eq v0 v1 Kp K) w).symm h))
theorem fields_kind_fields_Tag_elements_cn {v0 v1 : Value} {W : World} {α : Type} {A : List HP} {r : α → Value} {B : α → List HP} (h : ∀ F, Ent W (A ++ F) (fields_kind_fields_Tag_elements v0 v1 noP fun v w => ∃ x, v = r x ∧ sat W (B x ++ F) w)) : Cn Tryd.prog 85 [v0, v1] W A r B :=
  Cn.of (shape := fields_kind_fields_Tag_elements v0 v1) Tryd.call85 (fun h => fields_kind_fields_Tag_elements_calls h) h
theorem fields_kind_fields_Tag_elements_cnP {v0 v1 : Value} {W : World} {α β : Type} {A : List HP} {r : α → Value} {B : α → List HP} {pc : β → List PanicEntry} {Bp : β → List HP} (h : ∀ F, Ent W (A ++ F) (fields_kind_fields_Tag_elements v0 v1 (fun ch w => ∃ y, ch = pc y ∧ sat W (Bp y ++ F) w) fun v w => ∃ x, v = r x ∧ sat W (B x ++ F) w)) : CnP Tryd.prog 85 [v0, v1] W A r B pc Bp :=
  CnP.of (shape := fields_kind_fields_Tag_elements v0 v1) Tryd.call85 (fun h => fields_kind_fields_Tag_elements_calls h) h

/-- ref01_blank -/
def ref01_blank (v0 : Value) (Kp : PK) (K : Value → WP) : WP :=
  opN Tryd.prog (sEq .eql 5 (.tmp 3) (.const (.int .u8 9)) v0 (.int .u8 9)) Kp fun x4 =>
  gdK x4 false (fun k => k v0) fun x6 =>
  gdK x4 false (opN Tryd.prog (sEq .eql 5 (.tmp 6) (.const (.int .u8 32)) x6 (.int .u8 32)) Kp) fun x7 =>
  opN Tryd.prog (sPick x4 (.bool true) x7) Kp fun x8 =>
  K x8
def ref01_blank_an : Ann := { cuts := [], blks := [], loops := [], drs := [] }
theorem ref01_blank_eq (v0 : Value) (Kp : PK) (K : Value → WP) : cevF Tryd.prog ref01_blank_an Tryd.f86 [v0] Kp K = ref01_blank v0 Kp K := by kernel_rfl
theorem ref01_blank_calls {v0 : Value} {Kp : PK} {K : Value → WP} {w : World} (h : ref01_blank v0 Kp K w) : Calls Tryd.prog 86 #[v0] w (after Kp K) :=
  calls_of_shape (calls_of_cev wide Tryd.func86 (an := ref01_blank_an) (args := [v0]) (cast (congrFun (ref01_blank_eq v0 Kp K) w).symm h))
theorem ref01_blank_cn {v0 : Value} {W : World} {α : Type} {A : List HP} {r : α → Value} {B : α → List HP} (h : ∀ F, Ent W (A ++ F) (ref01_blank v0 noP fun v w => ∃ x, v = r x ∧ sat W (B x ++ F) w)) : Cn Tryd.prog 86 [v0] W A r B :=
  Cn.of (shape := ref01_blank v0) Tryd.call86 (fun h => ref01_blank_calls h) h
theorem ref01_blank_cnP {v0 : Value} {W : World} {α β : Type} {A : List HP} {r : α → Value} {B : α → List HP} {pc : β → List PanicEntry} {Bp : β → List HP} (h : ∀ F, Ent W (A ++ F) (ref01_blank v0 (fun ch w => ∃ y, ch = pc y ∧ sat W (Bp y ++ F) w) fun v w => ∃ x, v = r x ∧ sat W (B x ++ F) w)) : CnP Tryd.prog 86 [v0] W A r B pc Bp :=
  CnP.of (shape := ref01_blank v0) Tryd.call86 (fun h => ref01_blank_calls h) h

/-- pool_Pool_peer -/
def pool_Pool_peer (v0 v1 : Value) (Kp : PK) (K : Value → WP) : WP :=
  opN Tryd.prog (sNil v0) Kp fun x8 =>
  opN Tryd.prog (sFA 175 x8 0) Kp fun x9 =>
  opN Tryd.prog (sLoad 173 x9) Kp fun x10 =>
  opN Tryd.prog (sLen #[173] 3 [x10]) Kp fun x11 =>
  loop1 (fun I1 m1 _ y12 =>
   opN Tryd.prog (sBin .lss 3 y12 x11) Kp fun x13 =>
   condS x13
   (opN Tryd.prog (sIA 173 x10 y12) Kp fun x14 =>
    opN Tryd.prog (sLoad 178 x14) Kp fun x15 =>
    opN Tryd.prog (sNil x15) Kp fun x17 =>
    opN Tryd.prog (sFA 182 x17 0) Kp fun x18 =>
    opN Tryd.prog (sFA 177 x18 0) Kp fun x19 =>
    opN Tryd.prog (sLoad 3 x19) Kp fun x20 =>
    opN Tryd.prog (sEq .eql 3 (.tmp 20) (.tmp 21) x20 v1) Kp fun x22 =>
    condS x22
    (K x15)
    (opN Tryd.prog (sBin .add 3 y12 (.int .i64 1)) Kp fun x24 =>
     next1 I1 m1 x24))
   (K (.pointer none))) (.int .i64 0)
def pool_Pool_peer_an : Ann := { cuts := [], blks := [], loops := [(2, [12])], drs := [] }
theorem pool_Pool_peer_eq (v0 v1 : Value) (Kp : PK) (K : Value → WP) : cevF Tryd.prog pool_Pool_peer_an Tryd.f91 [v0, v1] Kp K = pool_Pool_peer v0 v1 Kp K := by kernel_rfl
theorem pool_Pool_peer_calls {v0 v1 : Value} {Kp : PK} {K : Value → WP} {w : World} (h : pool_Pool_peer v0 v1 Kp K w) : Calls Tryd.prog 91 #[v0, v1] w (after Kp K) :=
  calls_of_shape (calls_of_cev wide Tryd.func91 (an := pool_Pool_peer_an) (args := [v0, v1]) (cast (congrFun (pool_Pool_peer_eq v0 v1 Kp K) w).symm h))
theorem pool_Pool_peer_cn {v0 v1 : Value} {W : World} {α : Type} {A : List HP} {r : α → Value} {B : α → List HP} (h : ∀ F, Ent W (A ++ F) (pool_Pool_peer v0 v1 noP fun v w => ∃ x, v = r x ∧ sat W (B x ++ F) w)) : Cn Tryd.prog 91 [v0, v1] W A r B :=
  Cn.of (shape := pool_Pool_peer v0 v1) Tryd.call91 (fun h => pool_Pool_peer_calls h) h
theorem pool_Pool_peer_cnP {v0 v1 : Value} {W : World} {α β : Type} {A : List HP} {r : α → Value} {B : α → List HP} {pc : β → List PanicEntry} {Bp : β → List HP} (h : ∀ F, Ent W (A ++ F) (pool_Pool_peer v0 v1 (fun ch w => ∃ y, ch = pc y ∧ sat W (Bp y ++ F) w) fun v w => ∃ x, v = r x ∧ sat W (B x ++ F) w)) : CnP Tryd.prog 91 [v0, v1] W A r B pc Bp :=
  CnP.of (shape := pool_Pool_peer v0 v1) Tryd.call91 (fun h => pool_Pool_peer_calls h) h

/-- pool_Pool_none -/
def pool_Pool_none (v0 : Value) (Kp : PK) (K : Value → WP) : WP :=
  opN Tryd.prog (sEq .eql 123 (.tmp 3) (.const (.pointer none)) v0 (.pointer none)) Kp fun x4 =>
  gdK x4 false (fun k => k v0) fun x6 =>
  gdK x4 false (opN Tryd.prog (sNil x6) Kp) fun x7 =>
  gdK x4 false (opN Tryd.prog (sFA 175 x7 1) Kp) fun x8 =>
  gdK x4 false (opN Tryd.prog (sLoad 172 x8) Kp) fun x9 =>
  gdK x4 false (opN Tryd.prog (sEq .eql 172 (.tmp 9) (.const (.map none)) x9 (.map none)) Kp) fun x10 =>
  opN Tryd.prog (sPick x4 (.bool true) x10) Kp fun x11 =>
  K x11
def pool_Pool_none_an : Ann := { cuts := [], blks := [], loops := [], drs := [] }
theorem pool_Pool_none_eq (v0 : Value) (Kp : PK) (K : Value → WP) : cevF Tryd.prog pool_Pool_none_an Tryd.f92 [v0] Kp K = pool_Pool_none v0 Kp K := by kernel_rfl
theorem pool_Pool_none_calls {v0 : Value} {Kp : PK} {K : Value → WP} {w : World} (h : pool_Pool_none v0 Kp K w) : Calls Tryd.prog 92 #[v0] w (after Kp K) :=
  calls_of_shape (calls_of_cev wide Tryd.func92 (an := pool_Pool_none_an) (args := [v0]) (cast (congrFun (pool_Pool_none_eq v0 Kp K) w).symm h))
theorem pool_Pool_none_cn {v0 : Value} {W : World} {α : Type} {A : List HP} {r : α → Value} {B : α → List HP} (h : ∀ F, Ent W (A ++ F) (pool_Pool_none v0 noP fun v w => ∃ x, v = r x ∧ sat W (B x ++ F) w)) : Cn Tryd.prog 92 [v0] W A r B :=
  Cn.of (shape := pool_Pool_none v0) Tryd.call92 (fun h => pool_Pool_none_calls h) h
theorem pool_Pool_none_cnP {v0 : Value} {W : World} {α β : Type} {A : List HP} {r : α → Value} {B : α → List HP} {pc : β → List PanicEntry} {Bp : β → List HP} (h : ∀ F, Ent W (A ++ F) (pool_Pool_none v0 (fun ch w => ∃ y, ch = pc y ∧ sat W (Bp y ++ F) w) fun v w => ∃ x, v = r x ∧ sat W (B x ++ F) w)) : CnP Tryd.prog 92 [v0] W A r B pc Bp :=
  CnP.of (shape := pool_Pool_none v0) Tryd.call92 (fun h => pool_Pool_none_calls h) h

/-- pool_Pool_round -/
def pool_Pool_round (v0 : Value) (Kp : PK) (K : Value → WP) : WP :=
  opN Tryd.prog (sBox 123 v0) Kp fun x1 =>
  opN Tryd.prog (sMkF (.func 115) [] [x1]) Kp fun x3 =>
  K x3
def pool_Pool_round_an : Ann := { cuts := [], blks := [], loops := [], drs := [] }
theorem pool_Pool_round_eq (v0 : Value) (Kp : PK) (K : Value → WP) : cevF Tryd.prog pool_Pool_round_an Tryd.f93 [v0] Kp K = pool_Pool_round v0 Kp K := by kernel_rfl
theorem pool_Pool_round_calls {v0 : Value} {Kp : PK} {K : Value → WP} {w : World} (h : pool_Pool_round v0 Kp K w) : Calls Tryd.prog 93 #[v0] w (after Kp K) :=
  calls_of_shape (calls_of_cev wide Tryd.func93 (an := pool_Pool_round_an) (args := [v0]) (cast (congrFun (pool_Pool_round_eq v0 Kp K) w).symm h))
theorem pool_Pool_round_cn {v0 : Value} {W : World} {α : Type} {A : List HP} {r : α → Value} {B : α → List HP} (h : ∀ F, Ent W (A ++ F) (pool_Pool_round v0 noP fun v w => ∃ x, v = r x ∧ sat W (B x ++ F) w)) : Cn Tryd.prog 93 [v0] W A r B :=
  Cn.of (shape := pool_Pool_round v0) Tryd.call93 (fun h => pool_Pool_round_calls h) h
theorem pool_Pool_round_cnP {v0 : Value} {W : World} {α β : Type} {A : List HP} {r : α → Value} {B : α → List HP} {pc : β → List PanicEntry} {Bp : β → List HP} (h : ∀ F, Ent W (A ++ F) (pool_Pool_round v0 (fun ch w => ∃ y, ch = pc y ∧ sat W (Bp y ++ F) w) fun v w => ∃ x, v = r x ∧ sat W (B x ++ F) w)) : CnP Tryd.prog 93 [v0] W A r B pc Bp :=
  CnP.of (shape := pool_Pool_round v0) Tryd.call93 (fun h => pool_Pool_round_calls h) h

/-- pool_clock -/
def pool_clock (v0 : Value) (Kp : PK) (K : Value → WP) : WP :=
  opN Tryd.prog (sMin #[3, 3] 3 [v0, (.int .i64 1099511627776)]) Kp fun x4 =>
  opN Tryd.prog (sMax #[3, 3] 3 [(.int .i64 (-1099511627776)), x4]) Kp fun x5 =>
  K x5
def pool_clock_an : Ann := { cuts := [], blks := [], loops := [], drs := [] }
theorem pool_clock_eq (v0 : Value) (Kp : PK) (K : Value → WP) : cevF Tryd.prog pool_clock_an Tryd.f94 [v0] Kp K = pool_clock v0 Kp K := by kernel_rfl
theorem pool_clock_calls {v0 : Value} {Kp : PK} {K : Value → WP} {w : World} (h : pool_clock v0 Kp K w) : Calls Tryd.prog 94 #[v0] w (after Kp K) :=
  calls_of_shape (calls_of_cev wide Tryd.func94 (an := pool_clock_an) (args := [v0]) (cast (congrFun (pool_clock_eq v0 Kp K) w).symm h))
theorem pool_clock_cn {v0 : Value} {W : World} {α : Type} {A : List HP} {r : α → Value} {B : α → List HP} (h : ∀ F, Ent W (A ++ F) (pool_clock v0 noP fun v w => ∃ x, v = r x ∧ sat W (B x ++ F) w)) : Cn Tryd.prog 94 [v0] W A r B :=
  Cn.of (shape := pool_clock v0) Tryd.call94 (fun h => pool_clock_calls h) h
theorem pool_clock_cnP {v0 : Value} {W : World} {α β : Type} {A : List HP} {r : α → Value} {B : α → List HP} {pc : β → List PanicEntry} {Bp : β → List HP} (h : ∀ F, Ent W (A ++ F) (pool_clock v0 (fun ch w => ∃ y, ch = pc y ∧ sat W (Bp y ++ F) w) fun v w => ∃ x, v = r x ∧ sat W (B x ++ F) w)) : CnP Tryd.prog 94 [v0] W A r B pc Bp :=
  CnP.of (shape := pool_clock v0) Tryd.call94 (fun h => pool_clock_calls h) h

/-- fields_kind_fields_Span_elements_1 -/
def fields_kind_fields_Span_elements_1 (v0 v1 v2 : Value) (Kp : PK) (K : Value → WP) : WP :=
  loop3 (fun I1 m1 _ y4 y5 y6 =>
   opN Tryd.prog (sLoad 9 v1) Kp fun x11 =>
   opN Tryd.prog (sLen #[9] 3 [x11]) Kp fun x12 =>
   opN Tryd.prog (sBin .lss 3 y6 x12) Kp fun x13 =>
   condS x13
   (opN Tryd.prog (sLoad 9 v1) Kp fun x16 =>
    opN Tryd.prog (sIx 9 x16 y6) Kp fun x18 =>
    opN Tryd.prog (sEq .eql 5 (.tmp 20) (.const (.int .u8 92)) x18 (.int .u8 92)) Kp fun x21 =>
    gdK x21 true (fun k => k y4) fun x23 =>
    opN Tryd.prog (sPick x21 x23 (.bool false)) Kp fun x24 =>
    gdK x24 true (opN Tryd.prog (sFA 88 v2 1) Kp) fun x26 =>
    gdK x24 true (opN Tryd.prog (sLoad 4 x26) Kp) fun x27 =>
    opN Tryd.prog (sPick x24 x27 (.bool false)) Kp fun x28 =>
    condS x28
    (opN Tryd.prog (sBin .add 3 y6 (.int .i64 1)) Kp fun x30 =>
     opN Tryd.prog (sBin .add 3 x30 (.int .i64 1)) Kp fun x15 =>
     next3 I1 m1 y4 y5 x15)
    (opN Tryd.prog (sEq .eql 5 (.tmp 32) (.const (.int .u8 34)) x18 (.int .u8 34)) Kp fun x33 =>
     gdK x33 true (opN Tryd.prog (sFA 88 v2 0) Kp) fun x35 =>
     gdK x33 true (opN Tryd.prog (sLoad 4 x35) Kp) fun x36 =>
     opN Tryd.prog (sPick x33 x36 (.bool false)) Kp fun x37 =>
     condS x37
     (opN Tryd.prog (sUn .not y4) Kp fun x39 =>
      opN Tryd.prog (sBin .add 3 y6 (.int .i64 1)) Kp fun x15 =>
      next3 I1 m1 x39 y5 x15)
     (opN Tryd.prog (sEq .eql 5 (.tmp 41) (.const (.int .u8 44)) x18 (.int .u8 44)) Kp fun x42 =>
      gdK x42 true (fun k => k y4) fun x44 =>
      gdK x42 true (opN Tryd.prog (sUn .not x44) Kp) fun x45 =>
      opN Tryd.prog (sPick x42 x45 (.bool false)) Kp fun x46 =>
      condS x46
      (opN Tryd.prog (sLoad 9 v1) Kp fun x47 =>
       opN Tryd.prog (sSl 9 x47 (some y5) (some y6) none) Kp fun x50 =>
       opN Tryd.prog (sCall (fn 52) [x50]) Kp fun x51 =>
       opN Tryd.prog (sEq .neq 9 (.tmp 52) (.const (.string ⟨#[]⟩)) x51 (.string ⟨#[]⟩)) Kp fun x53 =>
       gdK x53 true (fun k => k v0) fun x55 =>
       gdK x53 true (fun k => k x51) fun x56 =>
       gdK x53 true (opN Tryd.prog (sCall x55 [x56]) Kp) fun x57 =>
       gdK x53 true (opN Tryd.prog (sUn .not x57) Kp) fun x58 =>
       opN Tryd.prog (sPick x53 x58 (.bool false)) Kp fun x59 =>
       condS x59
       (K (.tuple #[]))
       (opN Tryd.prog (sBin .add 3 y6 (.int .i64 1)) Kp fun x61 =>
        opN Tryd.prog (sBin .add 3 y6 (.int .i64 1)) Kp fun x15 =>
        next3 I1 m1 y4 x61 x15))
      (opN Tryd.prog (sBin .add 3 y6 (.int .i64 1)) Kp fun x15 =>
       next3 I1 m1 y4 y5 x15))))
   (opN Tryd.prog (sLoad 9 v1) Kp fun x62 =>
    opN Tryd.prog (sSl 9 x62 (some y5) none none) Kp fun x64 =>
    opN Tryd.prog (sCall (fn 52) [x64]) Kp fun x65 =>
    opN Tryd.prog (sEq .neq 9 (.tmp 66) (.const (.string ⟨#[]⟩)) x65 (.string ⟨#[]⟩)) Kp fun x67 =>
    condS x67
    (opN Tryd.prog (sCall v0 [x65]) Kp fun x70 =>
     K (.tuple #[]))
    (K (.tuple #[])))) (.bool false) (.int .i64 0) (.int .i64 0)
def fields_kind_fields_Span_elements_1_an : Ann := { cuts := [], blks := [], loops := [(2, [4, 5, 6])], drs := [] }
theorem fields_kind_fields_Span_elements_1_eq (v0 v1 v2 : Value) (Kp : PK) (K : Value → WP) : cevF Tryd.prog fields_kind_fields_Span_elements_1_an Tryd.f95 [v0, v1, v2] Kp K = fields_kind_fields_Span_elements_1 v0 v1 v2 Kp K := by kernel_rfl
theorem fields_kind_fields_Span_elements_1_calls {v0 v1 v2 : Value} {Kp : PK} {K : Value → WP} {w : World} (h : fields_kind_fields_Span_elements_1 v0 v1 v2 Kp K w) : Calls Tryd.prog 95 #[v0, v1, v2] w (after Kp K) :=
  calls_of_shape (calls_of_cev wide Tryd.func95 (an := fields_kind_fields_Span_elements_1_an) (args := [v0, v1, v2]) (cast (congrFun (fields_kind_fields_Span_elements_1_eq v0 v1 v2 Kp K) w).symm h))
theorem fields_kind_fields_Span_elements_1_cn {v0 v1 v2 : Value} {W : World} {α : Type} {A : List HP} {r : α → Value} {B : α → List HP} (h : ∀ F, Ent W (A ++ F) (fields_kind_fields_Span_elements_1 v0 v1 v2 noP fun v w => ∃ x, v = r x ∧ sat W (B x ++ F) w)) : Cn Tryd.prog 95 [v0, v1, v2] W A r B :=
  Cn.of (shape := fields_kind_fields_Span_elements_1 v0 v1 v2) Tryd.call95 (fun h => fields_kind_fields_Span_elements_1_calls h) h
theorem fields_kind_fields_Span_elements_1_cnP {v0 v1 v2 : Value} {W : World} {α β : Type} {A : List HP} {r : α → Value} {B : α → List HP} {pc : β → List PanicEntry} {Bp : β → List HP} (h : ∀ F, Ent W (A ++ F) (fields_kind_fields_Span_elements_1 v0 v1 v2 (fun ch w => ∃ y, ch = pc y ∧ sat W (Bp y ++ F) w) fun v w => ∃ x, v = r x ∧ sat W (B x ++ F) w)) : CnP Tryd.prog 95 [v0, v1, v2] W A r B pc Bp :=
  CnP.of (shape := fields_kind_fields_Span_elements_1 v0 v1 v2) Tryd.call95 (fun h => fields_kind_fields_Span_elements_1_calls h) h

/-- stringslite_Cut -/
def stringslite_Cut (v0 v1 : Value) (Kp : PK) (K : Value → WP) : WP :=
  opN Tryd.prog (sCall (fn 116) [v0, v1]) Kp fun x10 =>
  opN Tryd.prog (sBin .geq 3 x10 (.int .i64 0)) Kp fun x12 =>
  condS x12
  (drS (stS Tryd.prog (sSl 9 v0 none (some x10) none) fun x15 =>
    stS Tryd.prog (sLen #[9] 3 [v1]) fun x19 =>
    stS Tryd.prog (sBin .add 3 x10 x19) fun x20 =>
    stS Tryd.prog (sSl 9 v0 (some x20) none none) fun x21 =>
    K (.tuple #[x15, x21, (.bool true)])))
  (K (.tuple #[v0, (.string ⟨#[]⟩), (.bool false)]))
def stringslite_Cut_an : Ann := { cuts := [], blks := [], loops := [], drs := [(3, [(0, 1), (1, 1), (2, 1), (3, 1), (4, 1), (5, 1), (6, 1), (7, 1), (8, 1), (9, 1), (10, 1), (11, 1)])] }
theorem stringslite_Cut_eq (v0 v1 : Value) (Kp : PK) (K : Value → WP) : cevF Tryd.prog stringslite_Cut_an Tryd.f96 [v0, v1] Kp K = stringslite_Cut v0 v1 Kp K := by kernel_rfl
theorem stringslite_Cut_calls {v0 v1 : Value} {Kp : PK} {K : Value → WP} {w : World} (h : stringslite_Cut v0 v1 Kp K w) : Calls Tryd.prog 96 #[v0, v1] w (after Kp K) :=
  calls_of_shape (calls_of_cev wide Tryd.func96 (an := stringslite_Cut_an) (args := [v0, v1]) (cast (congrFun (stringslite_Cut_eq v0 v1 Kp K) w).symm h))
theorem stringslite_Cut_cn {v0 v1 : Value} {W : World} {α : Type} {A : List HP} {r : α → Value} {B : α → List HP} (h : ∀ F, Ent W (A ++ F) (stringslite_Cut v0 v1 noP fun v w => ∃ x, v = r x ∧ sat W (B x ++ F) w)) : Cn Tryd.prog 96 [v0, v1] W A r B :=
  Cn.of (shape := stringslite_Cut v0 v1) Tryd.call96 (fun h => stringslite_Cut_calls h) h
theorem stringslite_Cut_cnP {v0 v1 : Value} {W : World} {α β : Type} {A : List HP} {r : α → Value} {B : α → List HP} {pc : β → List PanicEntry} {Bp : β → List HP} (h : ∀ F, Ent W (A ++ F) (stringslite_Cut v0 v1 (fun ch w => ∃ y, ch = pc y ∧ sat W (Bp y ++ F) w) fun v w => ∃ x, v = r x ∧ sat W (B x ++ F) w)) : CnP Tryd.prog 96 [v0, v1] W A r B pc Bp :=
  CnP.of (shape := stringslite_Cut v0 v1) Tryd.call96 (fun h => stringslite_Cut_calls h) h

/-- ascii_number_string -/
def ascii_number_string (v0 v1 v2 : Value) (Kp : PK) (K : Value → WP) : WP :=
  opN Tryd.prog (sCall (fn 43) [v0]) Kp fun x14 =>
  opN Tryd.prog (sLen #[9] 3 [x14]) Kp fun x16 =>
  loop1 (fun I1 m1 _ y17 =>
   opN Tryd.prog (sBin .lss 3 y17 x16) Kp fun x18 =>
   condS x18
   (opN Tryd.prog (sIx 9 x14 y17) Kp fun x22 =>
    opN Tryd.prog (sCall (fn 100) [(.string ⟨#[48, 49, 50, 51, 52, 53, 54, 55, 56, 57, 97, 98, 99, 100, 101, 102]⟩), x22]) Kp fun x23 =>
    opN Tryd.prog (sBin .lss 3 x23 (.int .i64 0)) Kp fun x25 =>
    gdK x25 false (fun k => k x23) fun x27 =>
    gdK x25 false (fun k => k v1) fun x28 =>
    gdK x25 false (opN Tryd.prog (sBin .geq 3 x27 x28) Kp) fun x29 =>
    opN Tryd.prog (sPick x25 (.bool true) x29) Kp fun x30 =>
    condS x30
    (K (.tuple #[(.int .i64 0), (.int .i64 21)]))
    (opN Tryd.prog (sBin .add 3 y17 (.int .i64 1)) Kp fun x31 =>
     next1 I1 m1 x31))
   (opN Tryd.prog (sEq .eql 9 (.tmp 32) (.const (.string ⟨#[]⟩)) x14 (.string ⟨#[]⟩)) Kp fun x33 =>
    condS x33
    (K (.tuple #[(.int .i64 0), (.int .i64 21)]))
    (opN Tryd.prog (sCall (fn 117) [x14, v1, (.int .i64 63)]) Kp fun x37 =>
     opN Tryd.prog (sExt x37 0) Kp fun x38 =>
     opN Tryd.prog (sExt x37 1) Kp fun x39 =>
     opN Tryd.prog (sEq .neq 169 (.tmp 40) (.const .nilIface) x39 .nilIface) Kp fun x41 =>
     gdK x41 false (fun k => k x38) fun x43 =>
     gdK x41 false (fun k => k v2) fun x44 =>
     gdK x41 false (opN Tryd.prog (sConv 3 202 x44) Kp) fun x45 =>
     gdK x41 false (opN Tryd.prog (sBin .gtr 202 x43 x45) Kp) fun x46 =>
     opN Tryd.prog (sPick x41 (.bool true) x46) Kp fun x47 =>
     condS x47
     (K (.tuple #[(.int .i64 0), (.int .i64 11)]))
     (opN Tryd.prog (sConv 202 3 x38) Kp fun x49 =>
      K (.tuple #[x49, (.int .i64 0)]))))) (.int .i64 0)
def ascii_number_string_an : Ann := { cuts := [], blks := [], loops := [(3, [17])], drs := [] }
theorem ascii_number_string_eq (v0 v1 v2 : Value) (Kp : PK) (K : Value → WP) : cevF Tryd.prog ascii_number_string_an Tryd.f97 [v0, v1, v2] Kp K = ascii_number_string v0 v1 v2 Kp K := by kernel_rfl
theorem ascii_number_string_calls {v0 v1 v2 : Value} {Kp : PK} {K : Value → WP} {w : World} (h : ascii_number_string v0 v1 v2 Kp K w) : Calls Tryd.prog 97 #[v0, v1, v2] w (after Kp K) :=
  calls_of_shape (calls_of_cev wide Tryd.func97 (an := ascii_number_string_an) (args := [v0, v1, v2]) (cast (congrFun (ascii_number_string_eq v0 v1 v2 Kp K) w).symm h))
theorem ascii_number_string_cn {v0 v1 v2 : Value} {W : World} {α : Type} {A : List HP} {r : α → Value} {B : α → List HP} (h : ∀ F, Ent W (A ++ F) (ascii_number_string v0 v1 v2 noP fun v w => ∃ x, v = r x ∧ sat W (B x ++ F) w)) : Cn Tryd.prog 97 [v0, v1, v2] W A r B :=
  Cn.of (shape := ascii_number_string v0 v1 v2) Tryd.call97 (fun h => ascii_number_string_calls h) h
theorem ascii_number_string_cnP {v0 v1 v2 : Value} {W : World} {α β : Type} {A : List HP} {r : α → Value} {B : α → List HP} {pc : β → List PanicEntry} {Bp : β → List HP} (h : ∀ F, Ent W (A ++ F) (ascii_number_string v0 v1 v2 (fun ch w => ∃ y, ch = pc y ∧ sat W (Bp y ++ F) w) fun v w => ∃ x, v = r x ∧ sat W (B x ++ F) w)) : CnP Tryd.prog 97 [v0, v1, v2] W A r B pc Bp :=
  CnP.of (shape := ascii_number_string v0 v1 v2) Tryd.call97 (fun h => ascii_number_string_calls h) h

/-- ref01_number -/
def ref01_number (v0 v1 v2 : Value) (Kp : PK) (K : Value → WP) : WP :=
  opN Tryd.prog (sLen #[9] 3 [v0]) Kp fun x13 =>
  opN Tryd.prog (sEq .eql 3 (.tmp 13) (.const (.int .i64 0)) x13 (.int .i64 0)) Kp fun x14 =>
  condS x14
  (K (.tuple #[(.int .i64 0), (.int .i64 21)]))
  (loop1 (fun I1 m1 _ y8 =>
    opN Tryd.prog (sLen #[9] 3 [v0]) Kp fun x17 =>
    opN Tryd.prog (sBin .lss 3 y8 x17) Kp fun x18 =>
    condS x18
    (opN Tryd.prog (sIx 9 v0 y8) Kp fun x23 =>
     opN Tryd.prog (sCall (fn 118) [x23, v1]) Kp fun x25 =>
     opN Tryd.prog (sBin .lss 3 x25 (.int .i64 0)) Kp fun x26 =>
     condS x26
     (K (.tuple #[(.int .i64 0), (.int .i64 21)]))
     (opN Tryd.prog (sBin .add 3 y8 (.int .i64 1)) Kp fun x20 =>
      next1 I1 m1 x20))
    (loop2 (fun I2 m2 _ y9 y10 =>
      opN Tryd.prog (sLen #[9] 3 [v0]) Kp fun x29 =>
      opN Tryd.prog (sBin .lss 3 y10 x29) Kp fun x30 =>
      condS x30
      (opN Tryd.prog (sIx 9 v0 y10) Kp fun x35 =>
       opN Tryd.prog (sCall (fn 118) [x35, v1]) Kp fun x37 =>
       opN Tryd.prog (sBin .sub 3 v2 x37) Kp fun x41 =>
       opN Tryd.prog (sBin .quo 3 x41 v1) Kp fun x43 =>
       opN Tryd.prog (sBin .gtr 3 y9 x43) Kp fun x44 =>
       condS x44
       (K (.tuple #[(.int .i64 0), (.int .i64 11)]))
       (opN Tryd.prog (sBin .mul 3 y9 v1) Kp fun x47 =>
        opN Tryd.prog (sBin .add 3 x47 x37) Kp fun x49 =>
        opN Tryd.prog (sBin .add 3 y10 (.int .i64 1)) Kp fun x32 =>
        next2 I2 m2 x49 x32))
      (K (.tuple #[y9, (.int .i64 0)]))) (.int .i64 0) (.int .i64 0))) (.int .i64 0))
def ref01_number_an : Ann := { cuts := [], blks := [], loops := [(4, [8]), (10, [9, 10])], drs := [] }
theorem ref01_number_eq (v0 v1 v2 : Value) (Kp : PK) (K : Value → WP) : cevF Tryd.prog ref01_number_an Tryd.f98 [v0, v1, v2] Kp K = ref01_number v0 v1 v2 Kp K := by kernel_rfl
theorem ref01_number_calls {v0 v1 v2 : Value} {Kp : PK} {K : Value → WP} {w : World} (h : ref01_number v0 v1 v2 Kp K w) : Calls Tryd.prog 98 #[v0, v1, v2] w (after Kp K) :=
  calls_of_shape (calls_of_cev wide Tryd.func98 (an := ref01_number_an) (args := [v0, v1, v2]) (cast (congrFun (ref01_number_eq v0 v1 v2 Kp K) w).symm h))
theorem ref01_number_cn {v0 v1 v2 : Value} {W : World} {α : Type} {A : List HP} {r : α → Value} {B : α → List HP} (h : ∀ F, Ent W (A ++ F) (ref01_number v0 v1 v2 noP fun v w => ∃ x, v = r x ∧ sat W (B x ++ F) w)) : Cn Tryd.prog 98 [v0, v1, v2] W A r B :=
  Cn.of (shape := ref01_number v0 v1 v2) Tryd.call98 (fun h => ref01_number_calls h) h
theorem ref01_number_cnP {v0 v1 v2 : Value} {W : World} {α β : Type} {A : List HP} {r : α → Value} {B : α → List HP} {pc : β → List PanicEntry} {Bp : β → List HP} (h : ∀ F, Ent W (A ++ F) (ref01_number v0 v1 v2 (fun ch w => ∃ y, ch = pc y ∧ sat W (Bp y ++ F) w) fun v w => ∃ x, v = r x ∧ sat W (B x ++ F) w)) : CnP Tryd.prog 98 [v0, v1, v2] W A r B pc Bp :=
  CnP.of (shape := ref01_number v0 v1 v2) Tryd.call98 (fun h => ref01_number_calls h) h

/-- fields_kind_string_elements_1 -/
def fields_kind_string_elements_1 (v0 v1 v2 : Value) (Kp : PK) (K : Value → WP) : WP :=
  loop3 (fun I1 m1 _ y4 y5 y6 =>
   opN Tryd.prog (sLoad 9 v1) Kp fun x11 =>
   opN Tryd.prog (sLen #[9] 3 [x11]) Kp fun x12 =>
   opN Tryd.prog (sBin .lss 3 y6 x12) Kp fun x13 =>
   condS x13
   (opN Tryd.prog (sLoad 9 v1) Kp fun x16 =>
    opN Tryd.prog (sIx 9 x16 y6) Kp fun x18 =>
    opN Tryd.prog (sEq .eql 5 (.tmp 20) (.const (.int .u8 92)) x18 (.int .u8 92)) Kp fun x21 =>
    gdK x21 true (fun k => k y4) fun x23 =>
    opN Tryd.prog (sPick x21 x23 (.bool false)) Kp fun x24 =>
    gdK x24 true (opN Tryd.prog (sFA 96 v2 1) Kp) fun x26 =>
    gdK x24 true (opN Tryd.prog (sLoad 4 x26) Kp) fun x27 =>
    opN Tryd.prog (sPick x24 x27 (.bool false)) Kp fun x28 =>
    condS x28
    (opN Tryd.prog (sBin .add 3 y6 (.int .i64 1)) Kp fun x30 =>
     opN Tryd.prog (sBin .add 3 x30 (.int .i64 1)) Kp fun x15 =>
     next3 I1 m1 y4 y5 x15)
    (opN Tryd.prog (sEq .eql 5 (.tmp 32) (.const (.int .u8 34)) x18 (.int .u8 34)) Kp fun x33 =>
     gdK x33 true (opN Tryd.prog (sFA 96 v2 0) Kp) fun x35 =>
     gdK x33 true (opN Tryd.prog (sLoad 4 x35) Kp) fun x36 =>
     opN Tryd.prog (sPick x33 x36 (.bool false)) Kp fun x37 =>
     condS x37
     (opN Tryd.prog (sUn .not y4) Kp fun x39 =>
      opN Tryd.prog (sBin .add 3 y6 (.int .i64 1)) Kp fun x15 =>
      next3 I1 m1 x39 y5 x15)
     (opN Tryd.prog (sEq .eql 5 (.tmp 41) (.const (.int .u8 44)) x18 (.int .u8 44)) Kp fun x42 =>
      gdK x42 true (fun k => k y4) fun x44 =>
      gdK x42 true (opN Tryd.prog (sUn .not x44) Kp) fun x45 =>
      opN Tryd.prog (sPick x42 x45 (.bool false)) Kp fun x46 =>
      condS x46
      (opN Tryd.prog (sLoad 9 v1) Kp fun x47 =>
       opN Tryd.prog (sSl 9 x47 (some y5) (some y6) none) Kp fun x50 =>
       opN Tryd.prog (sCall (fn 52) [x50]) Kp fun x51 =>
       opN Tryd.prog (sEq .neq 9 (.tmp 52) (.const (.string ⟨#[]⟩)) x51 (.string ⟨#[]⟩)) Kp fun x53 =>
       gdK x53 true (fun k => k v0) fun x55 =>
       gdK x53 true (fun k => k x51) fun x56 =>
       gdK x53 true (opN Tryd.prog (sCall x55 [x56]) Kp) fun x57 =>
       gdK x53 true (opN Tryd.prog (sUn .not x57) Kp) fun x58 =>
       opN Tryd.prog (sPick x53 x58 (.bool false)) Kp fun x59 =>
       condS x59
       (K (.tuple #[]))
       (opN Tryd.prog (sBin .add 3 y6 (.int .i64 1)) Kp fun x61 =>
        opN Tryd.prog (sBin .add 3 y6 (.int .i64 1)) Kp fun x15 =>
        next3 I1 m1 y4 x61 x15))
      (opN Tryd.prog (sBin .add 3 y6 (.int .i64 1)) Kp fun x15 =>
       next3 I1 m1 y4 y5 x15))))
   (opN Tryd.prog (sLoad 9 v1) Kp fun x62 =>
    opN Tryd.prog (sSl 9 x62 (some y5) none none) Kp fun x64 =>
    opN Tryd.prog (sCall (fn 52) [x64]) Kp fun x65 =>
    opN Tryd.prog (sEq .neq 9 (.tmp 66) (.const (.string ⟨#[]⟩)) x65 (.string ⟨#[]⟩)) Kp fun x67 =>
    condS x67
    (opN Tryd.prog (sCall v0 [x65]) Kp fun x70 =>
     K (.tuple #[]))
    (K (.tuple #[])))) (.bool false) (.int .i64 0) (.int .i64 0)
def fields_kind_string_elements_1_an : Ann := { cuts := [], blks := [], loops := [(2, [4, 5, 6])], drs := [] }
theorem fields_kind_string_elements_1_eq (v0 v1 v2 : Value) (Kp : PK) (K : Value → WP) : cevF Tryd.prog fields_kind_string_elements_1_an Tryd.f99 [v0, v1, v2] Kp K = fields_kind_string_elements_1 v0 v1 v2 Kp K := by kernel_rfl
theorem fields_kind_string_elements_1_calls {v0 v1 v2 : Value} {Kp : PK} {K : Value → WP} {w : World} (h : fields_kind_string_elements_1 v0 v1 v2 Kp K w) : Calls Tryd.prog 99 #[v0, v1, v2] w (after Kp K) :=
  calls_of_shape (calls_of_cev wide Tryd.func99 (an := fields_kind_string_elements_1_an) (args := [v0, v1, v2]) (cast (congrFun (fields_kind_string_elements_1_eq v0 v1 v2 Kp K) w).symm h))
theorem fields_kind_string_elements_1_cn {v0 v1 v2 : Value} {W : World} {α : Type} {A : List HP} {r : α → Value} {B : α → List HP} (h : ∀ F, Ent W (A ++ F) (fields_kind_string_elements_1 v0 v1 v2 noP fun v w => ∃ x, v = r x ∧ sat W (B x ++ F) w)) : Cn Tryd.prog 99 [v0, v1, v2] W A r B :=
  Cn.of (shape := fields_kind_string_elements_1 v0 v1 v2) Tryd.call99 (fun h => fields_kind_string_elements_1_calls h) h
theorem fields_kind_string_elements_1_cnP {v0 v1 v2 : Value} {W : World} {α β : Type} {A : List HP} {r : α → Value} {B : α → List HP} {pc : β → List PanicEntry} {Bp : β → List HP} (h : ∀ F, Ent W (A ++ F) (fields_kind_string_elements_1 v0 v1 v2 (fun ch w => ∃ y, ch = pc y ∧ sat W (Bp y ++ F) w) fun v w => ∃ x, v = r x ∧ sat W (B x ++ F) w)) : CnP Tryd.prog 99 [v0, v1, v2] W A r B pc Bp :=
  CnP.of (shape := fields_kind_string_elements_1 v0 v1 v2) Tryd.call99 (fun h => fields_kind_string_elements_1_calls h) h

/-- strings_IndexByte -/
def strings_IndexByte (v0 v1 : Value) (Kp : PK) (K : Value → WP) : WP :=
  opN Tryd.prog (sCall (fn 119) [v0, v1]) Kp fun x7 =>
  K x7
def strings_IndexByte_an : Ann := { cuts := [], blks := [], loops := [], drs := [] }
theorem strings_IndexByte_eq (v0 v1 : Value) (Kp : PK) (K : Value → WP) : cevF Tryd.prog strings_IndexByte_an Tryd.f100 [v0, v1] Kp K = strings_IndexByte v0 v1 Kp K := by kernel_rfl
theorem strings_IndexByte_calls {v0 v1 : Value} {Kp : PK} {K : Value → WP} {w : World} (h : strings_IndexByte v0 v1 Kp K w) : Calls Tryd.prog 100 #[v0, v1] w (after Kp K) :=
  calls_of_shape (calls_of_cev wide Tryd.func100 (an := strings_IndexByte_an) (args := [v0, v1]) (cast (congrFun (strings_IndexByte_eq v0 v1 Kp K) w).symm h))
theorem strings_IndexByte_cn {v0 v1 : Value} {W : World} {α : Type} {A : List HP} {r : α → Value} {B : α → List HP} (h : ∀ F, Ent W (A ++ F) (strings_IndexByte v0 v1 noP fun v w => ∃ x, v = r x ∧ sat W (B x ++ F) w)) : Cn Tryd.prog 100 [v0, v1] W A r B :=
  Cn.of (shape := strings_IndexByte v0 v1) Tryd.call100 (fun h => strings_IndexByte_calls h) h
theorem strings_IndexByte_cnP {v0 v1 : Value} {W : World} {α β : Type} {A : List HP} {r : α → Value} {B : α → List HP} {pc : β → List PanicEntry} {Bp : β → List HP} (h : ∀ F, Ent W (A ++ F) (strings_IndexByte v0 v1 (fun ch w => ∃ y, ch = pc y ∧ sat W (Bp y ++ F) w) fun v w => ∃ x, v = r x ∧ sat W (B x ++ F) w)) : CnP Tryd.prog 100 [v0, v1] W A r B pc Bp :=
  CnP.of (shape := strings_IndexByte v0 v1) Tryd.call100 (fun h => strings_IndexByte_calls h) h

/-- fields_kind_fields_Choice_elements_1 -/
def fields_kind_fields_Choice_elements_1 (v0 v1 v2 : Value) (Kp : PK) (K : Value → WP) : WP :=
  loop3 (fun I1 m1 _ y4 y5 y6 =>
   opN Tryd.prog (sLoad 9 v1) Kp fun x11 =>
   opN Tryd.prog (sLen #[9] 3 [x11]) Kp fun x12 =>
   opN Tryd.prog (sBin .lss 3 y6 x12) Kp fun x13 =>
   condS x13
   (opN Tryd.prog (sLoad 9 v1) Kp fun x16 =>
    opN Tryd.prog (sIx 9 x16 y6) Kp fun x18 =>
    opN Tryd.prog (sEq .eql 5 (.tmp 20) (.const (.int .u8 92)) x18 (.int .u8 92)) Kp fun x21 =>
    gdK x21 true (fun k => k y4) fun x23 =>
    opN Tryd.prog (sPick x21 x23 (.bool false)) Kp fun x24 =>
    gdK x24 true (opN Tryd.prog (sFA 100 v2 1) Kp) fun x26 =>
    gdK x24 true (opN Tryd.prog (sLoad 4 x26) Kp) fun x27 =>
    opN Tryd.prog (sPick x24 x27 (.bool false)) Kp fun x28 =>
    condS x28
    (opN Tryd.prog (sBin .add 3 y6 (.int .i64 1)) Kp fun x30 =>
     opN Tryd.prog (sBin .add 3 x30 (.int .i64 1)) Kp fun x15 =>
     next3 I1 m1 y4 y5 x15)
    (opN Tryd.prog (sEq .eql 5 (.tmp 32) (.const (.int .u8 34)) x18 (.int .u8 34)) Kp fun x33 =>
     gdK x33 true (opN Tryd.prog (sFA 100 v2 0) Kp) fun x35 =>
     gdK x33 true (opN Tryd.prog (sLoad 4 x35) Kp) fun x36 =>
     opN Tryd.prog (sPick x33 x36 (.bool false)) Kp fun x37 =>
     condS x37
     (opN Tryd.prog (sUn .not y4) Kp fun x39 =>
      opN Tryd.prog (sBin .add 3 y6 (.int .i64 1)) Kp fun x15 =>
      next3 I1 m1 x39 y5 x15)
     (opN Tryd.prog (sEq .eql 5 (.tmp 41) (.const (.int .u8 44)) x18 (.int .u8 44)) Kp fun x42 =>
      gdK x42 true (fun k => k y4) fun x44 =>
      gdK x42 true (opN Tryd.prog (sUn .not x44) Kp) fun x45 =>
      opN Tryd.prog (sPick x42 x45 (.bool false)) Kp fun x46 =>
      condS x46
      (opN Tryd.prog (sLoad 9 v1) Kp fun x47 =>
       opN Tryd.prog (sSl 9 x47 (some y5) (some y6) none) Kp fun x50 =>
       opN Tryd.prog (sCall (fn 52) [x50]) Kp fun x51 =>
       opN Tryd.prog (sEq .neq 9 (.tmp 52) (.const (.string ⟨#[]⟩)) x51 (.string ⟨#[]⟩)) Kp fun x53 =>
       gdK x53 true (fun k => k v0) fun x55 =>
       gdK x53 true (fun k => k x51) fun x56 =>
       gdK x53 true (opN Tryd.prog (sCall x55 [x56]) Kp) fun x57 =>
       gdK x53 true (opN Tryd.prog (sUn .not x57) Kp) fun x58 =>
       opN Tryd.prog (sPick x53 x58 (.bool false)) Kp fun x59 =>
       condS x59
       (K (.tuple #[]))
       (opN Tryd.prog (sBin .add 3 y6 (.int .i64 1)) Kp fun x61 =>
        opN Tryd.prog (sBin .add 3 y6 (.int .i64 1)) Kp fun x15 =>
        next3 I1 m1 y4 x61 x15))
      (opN Tryd.prog (sBin .add 3 y6 (.int .i64 1)) Kp fun x15 =>
       next3 I1 m1 y4 y5 x15))))
   (opN Tryd.prog (sLoad 9 v1) Kp fun x62 =>
    opN Tryd.prog (sSl 9 x62 (some y5) none none) Kp fun x64 =>
    opN Tryd.prog (sCall (fn 52) [x64]) Kp fun x65 =>
    opN Tryd.prog (sEq .neq 9 (.tmp 66) (.const (.string ⟨#[]⟩)) x65 (.string ⟨#[]⟩)) Kp fun x67 =>
    condS x67
    (opN Tryd.prog (sCall v0 [x65]) Kp fun x70 =>
     K (.tuple #[]))
    (K (.tuple #[])))) (.bool false) (.int .i64 0) (.int .i64 0)
def fields_kind_fields_Choice_elements_1_an : Ann := { cuts := [], blks := [], loops := [(2, [4, 5, 6])], drs := [] }
theorem fields_kind_fields_Choice_elements_1_eq (v0 v1 v2 : Value) (Kp : PK) (K : Value → WP) : cevF Tryd.prog fields_kind_fields_Choice_elements_1_an Tryd.f101 [v0, v1, v2] Kp K = fields_kind_fields_Choice_elements_1 v0 v1 v2 Kp K := by kernel_rfl
theorem fields_kind_fields_Choice_elements_1_calls {v0 v1 v2 : Value} {Kp : PK} {K : Value → WP} {w : World} (h : fields_kind_fields_Choice_elements_1 v0 v1 v2 Kp K w) : Calls Tryd.prog 101 #[v0, v1, v2] w (after Kp K) :=
  calls_of_shape (calls_of_cev wide Tryd.func101 (an := fields_kind_fields_Choice_elements_1_an) (args := [v0, v1, v2]) (cast (congrFun (fields_kind_fields_Choice_elements_1_eq v0 v1 v2 Kp K) w).symm h))
theorem fields_kind_fields_Choice_elements_1_cn {v0 v1 v2 : Value} {W : World} {α : Type} {A : List HP} {r : α → Value} {B : α → List HP} (h : ∀ F, Ent W (A ++ F) (fields_kind_fields_Choice_elements_1 v0 v1 v2 noP fun v w => ∃ x, v = r x ∧ sat W (B x ++ F) w)) : Cn Tryd.prog 101 [v0, v1, v2] W A r B :=
  Cn.of (shape := fields_kind_fields_Choice_elements_1 v0 v1 v2) Tryd.call101 (fun h => fields_kind_fields_Choice_elements_1_calls h) h
theorem fields_kind_fields_Choice_elements_1_cnP {v0 v1 v2 : Value} {W : World} {α β : Type} {A : List HP} {r : α → Value} {B : α → List HP} {pc : β → List PanicEntry} {Bp : β → List HP} (h : ∀ F, Ent W (A ++ F) (fields_kind_fields_Choice_elements_1 v0 v1 v2 (fun ch w => ∃ y, ch = pc y ∧ sat W (Bp y ++ F) w) fun v w => ∃ x, v = r x ∧ sat W (B x ++ F) w)) : CnP Tryd.prog 101 [v0, v1, v2] W A r B pc Bp :=
  CnP.of (shape := fields_kind_fields_Choice_elements_1 v0 v1 v2) Tryd.call101 (fun h => fields_kind_fields_Choice_elements_1_calls h) h

/-- fields_kind_fields_Directive_elements_1 -/
def fields_kind_fields_Directive_elements_1 (v0 v1 v2 : Value) (Kp : PK) (K : Value → WP) : WP :=
  loop3 (fun I1 m1 _ y4 y5 y6 =>
   opN Tryd.prog (sLoad 9 v1) Kp fun x11 =>
   opN Tryd.prog (sLen #[9] 3 [x11]) Kp fun x12 =>
   opN Tryd.prog (sBin .lss 3 y6 x12) Kp fun x13 =>
   condS x13
   (opN Tryd.prog (sLoad 9 v1) Kp fun x16 =>
    opN Tryd.prog (sIx 9 x16 y6) Kp fun x18 =>
    opN Tryd.prog (sEq .eql 5 (.tmp 20) (.const (.int .u8 92)) x18 (.int .u8 92)) Kp fun x21 =>
    gdK x21 true (fun k => k y4) fun x23 =>
    opN Tryd.prog (sPick x21 x23 (.bool false)) Kp fun x24 =>
    gdK x24 true (opN Tryd.prog (sFA 107 v2 1) Kp) fun x26 =>
    gdK x24 true (opN Tryd.prog (sLoad 4 x26) Kp) fun x27 =>
    opN Tryd.prog (sPick x24 x27 (.bool false)) Kp fun x28 =>
    condS x28
    (opN Tryd.prog (sBin .add 3 y6 (.int .i64 1)) Kp fun x30 =>
     opN Tryd.prog (sBin .add 3 x30 (.int .i64 1)) Kp fun x15 =>
     next3 I1 m1 y4 y5 x15)
    (opN Tryd.prog (sEq .eql 5 (.tmp 32) (.const (.int .u8 34)) x18 (.int .u8 34)) Kp fun x33 =>
     gdK x33 true (opN Tryd.prog (sFA 107 v2 0) Kp) fun x35 =>
     gdK x33 true (opN Tryd.prog (sLoad 4 x35) Kp) fun x36 =>
     opN Tryd.prog (sPick x33 x36 (.bool false)) Kp fun x37 =>
     condS x37
     (opN Tryd.prog (sUn .not y4) Kp fun x39 =>
      opN Tryd.prog (sBin .add 3 y6 (.int .i64 1)) Kp fun x15 =>
      next3 I1 m1 x39 y5 x15)
     (opN Tryd.prog (sEq .eql 5 (.tmp 41) (.const (.int .u8 44)) x18 (.int .u8 44)) Kp fun x42 =>
      gdK x42 true (fun k => k y4) fun x44 =>
      gdK x42 true (opN Tryd.prog (sUn .not x44) Kp) fun x45 =>
      opN Tryd.prog (sPick x42 x45 (.bool false)) Kp fun x46 =>
      condS x46
      (opN Tryd.prog (sLoad 9 v1) Kp fun x47 =>
       opN Tryd.prog (sSl 9 x47 (some y5) (some y6) none) Kp fun x50 =>
       opN Tryd.prog (sCall (fn 52) [x50]) Kp fun x51 =>
       opN Tryd.prog (sEq .neq 9 (.tmp 52) (.const (.string ⟨#[]⟩)) x51 (.string ⟨#[]⟩)) Kp fun x53 =>
       gdK x53 true (fun k => k v0) fun x55 =>
       gdK x53 true (fun k => k x51) fun x56 =>
       gdK x53 true (opN Tryd.prog (sCall x55 [x56]) Kp) fun x57 =>
       gdK x53 true (opN Tryd.prog (sUn .not x57) Kp) fun x58 =>
       opN Tryd.prog (sPick x53 x58 (.bool false)) Kp fun x59 =>
       condS x59
       (K (.tuple #[]))
       (opN Tryd.prog (sBin .add 3 y6 (.int .i64 1)) Kp fun x61 =>
        opN Tryd.prog (sBin .add 3 y6 (.int .i64 1)) Kp fun x15 =>
        next3 I1 m1 y4 x61 x15))
      (opN Tryd.prog (sBin .add 3 y6 (.int .i64 1)) Kp fun x15 =>
       next3 I1 m1 y4 y5 x15))))
   (opN Tryd.prog (sLoad 9 v1) Kp fun x62 =>
    opN Tryd.prog (sSl 9 x62 (some y5) none none) Kp fun x64 =>
    opN Tryd.prog (sCall (fn 52) [x64]) Kp fun x65 =>
    opN Tryd.prog (sEq .neq 9 (.tmp 66) (.const (.string ⟨#[]⟩)) x65 (.string ⟨#[]⟩)) Kp fun x67 =>
    condS x67
    (opN Tryd.prog (sCall v0 [x65]) Kp fun x70 =>
     K (.tuple #[]))
    (K (.tuple #[])))) (.bool false) (.int .i64 0) (.int .i64 0)
def fields_kind_fields_Directive_elements_1_an : Ann := { cuts := [], blks := [], loops := [(2, [4, 5, 6])], drs := [] }
theorem fields_kind_fields_Directive_elements_1_eq (v0 v1 v2 : Value) (Kp : PK) (K : Value → WP) : cevF Tryd.prog fields_kind_fields_Directive_elements_1_an Tryd.f102 [v0, v1, v2] Kp K = fields_kind_fields_Directive_elements_1 v0 v1 v2 Kp K := by kernel_rfl
theorem fields_kind_fields_Directive_elements_1_calls {v0 v1 v2 : Value} {Kp : PK} {K : Value → WP} {w : World} (h : fields_kind_fields_Directive_elements_1 v0 v1 v2 Kp K w) : Calls Tryd.prog 102 #[v0, v1, v2] w (after Kp K) :=
  calls_of_shape (calls_of_cev wide Tryd.func102 (an := fields_kind_fields_Directive_elements_1_an) (args := [v0, v1, v2]) (cast (congrFun (fields_kind_fields_Directive_elements_1_eq v0 v1 v2 Kp K) w).symm h))
theorem fields_kind_fields_Directive_elements_1_cn {v0 v1 v2 : Value} {W : World} {α : Type} {A : List HP} {r : α → Value} {B : α → List HP} (h : ∀ F, Ent W (A ++ F) (fields_kind_fields_Directive_elements_1 v0 v1 v2 noP fun v w => ∃ x, v = r x ∧ sat W (B x ++ F) w)) : Cn Tryd.prog 102 [v0, v1, v2] W A r B :=
  Cn.of (shape := fields_kind_fields_Directive_elements_1 v0 v1 v2) Tryd.call102 (fun h => fields_kind_fields_Directive_elements_1_calls h) h
theorem fields_kind_fields_Directive_elements_1_cnP {v0 v1 v2 : Value} {W : World} {α β : Type} {A : List HP} {r : α → Value} {B : α → List HP} {pc : β → List PanicEntry} {Bp : β → List HP} (h : ∀ F, Ent W (A ++ F) (fields_kind_fields_Directive_elements_1 v0 v1 v2 (fun ch w => ∃ y, ch = pc y ∧ sat W (Bp y ++ F) w) fun v w => ∃ x, v = r x ∧ sat W (B x ++ F) w)) : CnP Tryd.prog 102 [v0, v1, v2] W A r B pc Bp :=
  CnP.of (shape := fields_kind_fields_Directive_elements_1 v0 v1 v2) Tryd.call102 (fun h => fields_kind_fields_Directive_elements_1_calls h) h

/-- stringslite_CutPrefix -/
def stringslite_CutPrefix (v0 v1 : Value) (Kp : PK) (K : Value → WP) : WP :=
  opN Tryd.prog (sCall (fn 120) [v0, v1]) Kp fun x8 =>
  opN Tryd.prog (sUn .not x8) Kp fun x9 =>
  condS x9
  (K (.tuple #[v0, (.bool false)]))
  (opN Tryd.prog (sLen #[9] 3 [v1]) Kp fun x13 =>
   opN Tryd.prog (sSl 9 v0 (some x13) none none) Kp fun x14 =>
   K (.tuple #[x14, (.bool true)]))
def stringslite_CutPrefix_an : Ann := { cuts := [], blks := [], loops := [], drs := [] }
theorem stringslite_CutPrefix_eq (v0 v1 : Value) (Kp : PK) (K : Value → WP) : cevF Tryd.prog stringslite_CutPrefix_an Tryd.f103 [v0, v1] Kp K = stringslite_CutPrefix v0 v1 Kp K := by kernel_rfl
theorem stringslite_CutPrefix_calls {v0 v1 : Value} {Kp : PK} {K : Value → WP} {w : World} (h : stringslite_CutPrefix v0 v1 Kp K w) : Calls Tryd.prog 103 #[v0, v1] w (after Kp K) :=
  calls_of_shape (calls_of_cev wide Tryd.func103 (an := stringslite_CutPrefix_an) (args := [v0, v1]) (cast (congrFun (stringslite_CutPrefix_eq v0 v1 Kp K) w).symm h))
theorem stringslite_CutPrefix_cn {v0 v1 : Value} {W : World} {α : Type} {A : List HP} {r : α → Value} {B : α → List HP} (h : ∀ F, Ent W (A ++ F) (stringslite_CutPrefix v0 v1 noP fun v w => ∃ x, v = r x ∧ sat W (B x ++ F) w)) : Cn Tryd.prog 103 [v0, v1] W A r B :=
  Cn.of (shape := stringslite_CutPrefix v0 v1) Tryd.call103 (fun h => stringslite_CutPrefix_calls h) h
theorem stringslite_CutPrefix_cnP {v0 v1 : Value} {W : World} {α β : Type} {A : List HP} {r : α → Value} {B : α → List HP} {pc : β → List PanicEntry} {Bp : β → List HP} (h : ∀ F, Ent W (A ++ F) (stringslite_CutPrefix v0 v1 (fun ch w => ∃ y, ch = pc y ∧ sat W (Bp y ++ F) w) fun v w => ∃ x, v = r x ∧ sat W (B x ++ F) w)) : CnP Tryd.prog 103 [v0, v1] W A r B pc Bp :=
  CnP.of (shape := stringslite_CutPrefix v0 v1) Tryd.call103 (fun h => stringslite_CutPrefix_calls h) h

/-- strings_trimLeftByte -/
def strings_trimLeftByte (v0 v1 : Value) (Kp : PK) (K : Value → WP) : WP :=
  loop1 (fun I1 m1 _ y0 =>
   opN Tryd.prog (sLen #[9] 3 [y0]) Kp fun x6 =>
   opN Tryd.prog (sBin .gtr 3 x6 (.int .i64 0)) Kp fun x7 =>
   gdK x7 true (fun k => k y0) fun x9 =>
   gdK x7 true (opN Tryd.prog (sIx 9 x9 (.int .i64 0)) Kp) fun x10 =>
   gdK x7 true (fun k => k v1) fun x11 =>
   gdK x7 true (opN Tryd.prog (sEq .eql 5 (.tmp 10) (.tmp 11) x10 x11) Kp) fun x12 =>
   opN Tryd.prog (sPick x7 x12 (.bool false)) Kp fun x13 =>
   condS x13
   (opN Tryd.prog (sSl 9 y0 (some (.int .i64 1)) none none) Kp fun x15 =>
    next1 I1 m1 x15)
   (K y0)) v0
def strings_trimLeftByte_an : Ann := { cuts := [], blks := [], loops := [(1, [0])], drs := [] }
theorem strings_trimLeftByte_eq (v0 v1 : Value) (Kp : PK) (K : Value → WP) : cevF Tryd.prog strings_trimLeftByte_an Tryd.f104 [v0, v1] Kp K = strings_trimLeftByte v0 v1 Kp K := by kernel_rfl
theorem strings_trimLeftByte_calls {v0 v1 : Value} {Kp : PK} {K : Value → WP} {w : World} (h : strings_trimLeftByte v0 v1 Kp K w) : Calls Tryd.prog 104 #[v0, v1] w (after Kp K) :=
  calls_of_shape (calls_of_cev wide Tryd.func104 (an := strings_trimLeftByte_an) (args := [v0, v1]) (cast (congrFun (strings_trimLeftByte_eq v0 v1 Kp K) w).symm h))
theorem strings_trimLeftByte_cn {v0 v1 : Value} {W : World} {α : Type} {A : List HP} {r : α → Value} {B : α → List HP} (h : ∀ F, Ent W (A ++ F) (strings_trimLeftByte v0 v1 noP fun v w => ∃ x, v = r x ∧ sat W (B x ++ F) w)) : Cn Tryd.prog 104 [v0, v1] W A r B :=
  Cn.of (shape := strings_trimLeftByte v0 v1) Tryd.call104 (fun h => strings_trimLeftByte_calls h) h
theorem strings_trimLeftByte_cnP {v0 v1 : Value} {W : World} {α β : Type} {A : List HP} {r : α → Value} {B : α → List HP} {pc : β → List PanicEntry} {Bp : β → List HP} (h : ∀ F, Ent W (A ++ F) (strings_trimLeftByte v0 v1 (fun ch w => ∃ y, ch = pc y ∧ sat W (Bp y ++ F) w) fun v w => ∃ x, v = r x ∧ sat W (B x ++ F) w)) : CnP Tryd.prog 104 [v0, v1] W A r B pc Bp :=
  CnP.of (shape := strings_trimLeftByte v0 v1) Tryd.call104 (fun h => strings_trimLeftByte_calls h) h

/-- strings_trimRightByte -/
def strings_trimRightByte (v0 v1 : Value) (Kp : PK) (K : Value → WP) : WP :=
  loop1 (fun I1 m1 _ y0 =>
   opN Tryd.prog (sLen #[9] 3 [y0]) Kp fun x6 =>
   opN Tryd.prog (sBin .gtr 3 x6 (.int .i64 0)) Kp fun x7 =>
   gdK x7 true (fun k => k y0) fun x9 =>
   gdK x7 true (fun k => k y0) fun x10 =>
   gdK x7 true (opN Tryd.prog (sLen #[9] 3 [x10]) Kp) fun x11 =>
   gdK x7 true (opN Tryd.prog (sBin .sub 3 x11 (.int .i64 1)) Kp) fun x12 =>
   gdK x7 true (opN Tryd.prog (sIx 9 x9 x12) Kp) fun x13 =>
   gdK x7 true (fun k => k v1) fun x14 =>
   gdK x7 true (opN Tryd.prog (sEq .eql 5 (.tmp 13) (.tmp 14) x13 x14) Kp) fun x15 =>
   opN Tryd.prog (sPick x7 x15 (.bool false)) Kp fun x16 =>
   condS x16
   (opN Tryd.prog (sLen #[9] 3 [y0]) Kp fun x19 =>
    opN Tryd.prog (sBin .sub 3 x19 (.int .i64 1)) Kp fun x20 =>
    opN Tryd.prog (sSl 9 y0 none (some x20) none) Kp fun x21 =>
    next1 I1 m1 x21)
   (K y0)) v0
def strings_trimRightByte_an : Ann := { cuts := [], blks := [], loops := [(1, [0])], drs := [] }
theorem strings_trimRightByte_eq (v0 v1 : Value) (Kp : PK) (K : Value → WP) : cevF Tryd.prog strings_trimRightByte_an Tryd.f105 [v0, v1] Kp K = strings_trimRightByte v0 v1 Kp K := by kernel_rfl
theorem strings_trimRightByte_calls {v0 v1 : Value} {Kp : PK} {K : Value → WP} {w : World} (h : strings_trimRightByte v0 v1 Kp K w) : Calls Tryd.prog 105 #[v0, v1] w (after Kp K) :=
  calls_of_shape (calls_of_cev wide Tryd.func105 (an := strings_trimRightByte_an) (args := [v0, v1]) (cast (congrFun (strings_trimRightByte_eq v0 v1 Kp K) w).symm h))
theorem strings_trimRightByte_cn {v0 v1 : Value} {W : World} {α : Type} {A : List HP} {r : α → Value} {B : α → List HP} (h : ∀ F, Ent W (A ++ F) (strings_trimRightByte v0 v1 noP fun v w => ∃ x, v = r x ∧ sat W (B x ++ F) w)) : Cn Tryd.prog 105 [v0, v1] W A r B :=
  Cn.of (shape := strings_trimRightByte v0 v1) Tryd.call105 (fun h => strings_trimRightByte_calls h) h
theorem strings_trimRightByte_cnP {v0 v1 : Value} {W : World} {α β : Type} {A : List HP} {r : α → Value} {B : α → List HP} {pc : β → List PanicEntry} {Bp : β → List HP} (h : ∀ F, Ent W (A ++ F) (strings_trimRightByte v0 v1 (fun ch w => ∃ y, ch = pc y ∧ sat W (Bp y ++ F) w) fun v w => ∃ x, v = r x ∧ sat W (B x ++ F) w)) : CnP Tryd.prog 105 [v0, v1] W A r B pc Bp :=
  CnP.of (shape := strings_trimRightByte v0 v1) Tryd.call105 (fun h => strings_trimRightByte_calls h) h

/-- strings_makeASCIISet -/
def strings_makeASCIISet (v0 : Value) (Kp : PK) (K : Value → WP) : WP :=
  opN Tryd.prog (sAlloc 193) Kp fun x2 =>
  loop1 (fun I1 m1 _ y4 =>
   opN Tryd.prog (sLen #[9] 3 [v0]) Kp fun x8 =>
   opN Tryd.prog (sBin .lss 3 y4 x8) Kp fun x9 =>
   condS x9
   (opN Tryd.prog (sIx 9 v0 y4) Kp fun x14 =>
    opN Tryd.prog (sBin .geq 5 x14 (.int .u8 128)) Kp fun x16 =>
    condS x16
    (opN Tryd.prog (sLoad 193 x2) Kp fun x17 =>
     opN Tryd.prog (sStore 193 x2 x17) Kp fun _ =>
     (stS Tryd.prog (sRes 193 x2) fun r0 => K (.tuple #[r0, (.bool false)])))
    (opN Tryd.prog (sIA 193 x2 x14) Kp fun x19 =>
     opN Tryd.prog (sStore 4 x19 (.bool true)) Kp fun _ =>
     opN Tryd.prog (sBin .add 3 y4 (.int .i64 1)) Kp fun x11 =>
     next1 I1 m1 x11))
   (opN Tryd.prog (sLoad 193 x2) Kp fun x20 =>
    opN Tryd.prog (sStore 193 x2 x20) Kp fun _ =>
    (stS Tryd.prog (sRes 193 x2) fun r0 => K (.tuple #[r0, (.bool true)])))) (.int .i64 0)
def strings_makeASCIISet_an : Ann := { cuts := [], blks := [], loops := [(2, [4])], drs := [] }
theorem strings_makeASCIISet_eq (v0 : Value) (Kp : PK) (K : Value → WP) : cevF Tryd.prog strings_makeASCIISet_an Tryd.f106 [v0] Kp K = strings_makeASCIISet v0 Kp K := by kernel_rfl
theorem strings_makeASCIISet_calls {v0 : Value} {Kp : PK} {K : Value → WP} {w : World} (h : strings_makeASCIISet v0 Kp K w) : Calls Tryd.prog 106 #[v0] w (after Kp K) :=
  calls_of_shape (calls_of_cev wide Tryd.func106 (an := strings_makeASCIISet_an) (args := [v0]) (cast (congrFun (strings_makeASCIISet_eq v0 Kp K) w).symm h))
theorem strings_makeASCIISet_cn {v0 : Value} {W : World} {α : Type} {A : List HP} {r : α → Value} {B : α → List HP} (h : ∀ F, Ent W (A ++ F) (strings_makeASCIISet v0 noP fun v w => ∃ x, v = r x ∧ sat W (B x ++ F) w)) : Cn Tryd.prog 106 [v0] W A r B :=
  Cn.of (shape := strings_makeASCIISet v0) Tryd.call106 (fun h => strings_makeASCIISet_calls h) h
theorem strings_makeASCIISet_cnP {v0 : Value} {W : World} {α β : Type} {A : List HP} {r : α → Value} {B : α → List HP} {pc : β → List PanicEntry} {Bp : β → List HP} (h : ∀ F, Ent W (A ++ F) (strings_makeASCIISet v0 (fun ch w => ∃ y, ch = pc y ∧ sat W (Bp y ++ F) w) fun v w => ∃ x, v = r x ∧ sat W (B x ++ F) w)) : CnP Tryd.prog 106 [v0] W A r B pc Bp :=
  CnP.of (shape := strings_makeASCIISet v0) Tryd.call106 (fun h => strings_makeASCIISet_calls h) h

/-- strings_trimLeftASCII -/
def strings_trimLeftASCII (v0 v1 : Value) (Kp : PK) (K : Value → WP) : WP :=
  loop1 (fun I1 m1 _ y0 =>
   opN Tryd.prog (sLen #[9] 3 [y0]) Kp fun x6 =>
   opN Tryd.prog (sBin .gtr 3 x6 (.int .i64 0)) Kp fun x7 =>
   condS x7
   (opN Tryd.prog (sIx 9 y0 (.int .i64 0)) Kp fun x10 =>
    opN Tryd.prog (sCall (fn 121) [v1, x10]) Kp fun x11 =>
    opN Tryd.prog (sUn .not x11) Kp fun x12 =>
    condS x12
    (K y0)
    (opN Tryd.prog (sSl 9 y0 (some (.int .i64 1)) none none) Kp fun x14 =>
     next1 I1 m1 x14))
   (K y0)) v0
def strings_trimLeftASCII_an : Ann := { cuts := [], blks := [], loops := [(1, [0])], drs := [] }
theorem strings_trimLeftASCII_eq (v0 v1 : Value) (Kp : PK) (K : Value → WP) : cevF Tryd.prog strings_trimLeftASCII_an Tryd.f107 [v0, v1] Kp K = strings_trimLeftASCII v0 v1 Kp K := by kernel_rfl
theorem strings_trimLeftASCII_calls {v0 v1 : Value} {Kp : PK} {K : Value → WP} {w : World} (h : strings_trimLeftASCII v0 v1 Kp K w) : Calls Tryd.prog 107 #[v0, v1] w (after Kp K) :=
  calls_of_shape (calls_of_cev wide Tryd.func107 (an := strings_trimLeftASCII_an) (args := [v0, v1]) (cast (congrFun (strings_trimLeftASCII_eq v0 v1 Kp K) w).symm h))
theorem strings_trimLeftASCII_cn {v0 v1 : Value} {W : World} {α : Type} {A : List HP} {r : α → Value} {B : α → List HP} (h : ∀ F, Ent W (A ++ F) (strings_trimLeftASCII v0 v1 noP fun v w => ∃ x, v = r x ∧ sat W (B x ++ F) w)) : Cn Tryd.prog 107 [v0, v1] W A r B :=
  Cn.of (shape := strings_trimLeftASCII v0 v1) Tryd.call107 (fun h => strings_trimLeftASCII_calls h) h
theorem strings_trimLeftASCII_cnP {v0 v1 : Value} {W : World} {α β : Type} {A : List HP} {r : α → Value} {B : α → List HP} {pc : β → List PanicEntry} {Bp : β → List HP} (h : ∀ F, Ent W (A ++ F) (strings_trimLeftASCII v0 v1 (fun ch w => ∃ y, ch = pc y ∧ sat W (Bp y ++ F) w) fun v w => ∃ x, v = r x ∧ sat W (B x ++ F) w)) : CnP Tryd.prog 107 [v0, v1] W A r B pc Bp :=
  CnP.of (shape := strings_trimLeftASCII v0 v1) Tryd.call107 (fun h => strings_trimLeftASCII_calls h) h

/-- strings_trimRightASCII -/
def strings_trimRightASCII (v0 v1 : Value) (Kp : PK) (K : Value → WP) : WP :=
  loop1 (fun I1 m1 _ y0 =>
   opN Tryd.prog (sLen #[9] 3 [y0]) Kp fun x6 =>
   opN Tryd.prog (sBin .gtr 3 x6 (.int .i64 0)) Kp fun x7 =>
   condS x7
   (opN Tryd.prog (sLen #[9] 3 [y0]) Kp fun x11 =>
    opN Tryd.prog (sBin .sub 3 x11 (.int .i64 1)) Kp fun x12 =>
    opN Tryd.prog (sIx 9 y0 x12) Kp fun x13 =>
    opN Tryd.prog (sCall (fn 121) [v1, x13]) Kp fun x14 =>
    opN Tryd.prog (sUn .not x14) Kp fun x15 =>
    condS x15
    (K y0)
    (opN Tryd.prog (sLen #[9] 3 [y0]) Kp fun x18 =>
     opN Tryd.prog (sBin .sub 3 x18 (.int .i64 1)) Kp fun x19 =>
     opN Tryd.prog (sSl 9 y0 none (some x19) none) Kp fun x20 =>
     next1 I1 m1 x20))
   (K y0)) v0
def strings_trimRightASCII_an : Ann := { cuts := [], blks := [], loops := [(1, [0])], drs := [] }
theorem strings_trimRightASCII_eq (v0 v1 : Value) (Kp : PK) (K : Value → WP) : cevF Tryd.prog strings_trimRightASCII_an Tryd.f108 [v0, v1] Kp K = strings_trimRightASCII v0 v1 Kp K := by kernel_rfl
theorem strings_trimRightASCII_calls {v0 v1 : Value} {Kp : PK} {K : Value → WP} {w : World} (h : strings_trimRightASCII v0 v1 Kp K w) : Calls Tryd.prog 108 #[v0, v1] w (after Kp K) :=
  calls_of_shape (calls_of_cev wide Tryd.func108 (an := strings_trimRightASCII_an) (args := [v0, v1]) (cast (congrFun (strings_trimRightASCII_eq v0 v1 Kp K) w).symm h))
theorem strings_trimRightASCII_cn {v0 v1 : Value} {W : World} {α : Type} {A : List HP} {r : α → Value} {B : α → List HP} (h : ∀ F, Ent W (A ++ F) (strings_trimRightASCII v0 v1 noP fun v w => ∃ x, v = r x ∧ sat W (B x ++ F) w)) : Cn Tryd.prog 108 [v0, v1] W A r B :=
  Cn.of (shape := strings_trimRightASCII v0 v1) Tryd.call108 (fun h => strings_trimRightASCII_calls h) h
theorem strings_trimRightASCII_cnP {v0 v1 : Value} {W : World} {α β : Type} {A : List HP} {r : α → Value} {B : α → List HP} {pc : β → List PanicEntry} {Bp : β → List HP} (h : ∀ F, Ent W (A ++ F) (strings_trimRightASCII v0 v1 (fun ch w => ∃ y, ch = pc y ∧ sat W (Bp y ++ F) w) fun v w => ∃ x, v = r x ∧ sat W (B x ++ F) w)) : CnP Tryd.prog 108 [v0, v1] W A r B pc Bp :=
  CnP.of (shape := strings_trimRightASCII v0 v1) Tryd.call108 (fun h => strings_trimRightASCII_calls h) h

/-- strings_trimLeftUnicode -/
def strings_trimLeftUnicode (v0 v1 : Value) (Kp : PK) (K : Value → WP) : WP :=
  loop1 (fun I1 m1 _ y0 =>
   opN Tryd.prog (sLen #[9] 3 [y0]) Kp fun x8 =>
   opN Tryd.prog (sBin .gtr 3 x8 (.int .i64 0)) Kp fun x9 =>
   condS x9
   (opN Tryd.prog (sCall (fn 122) [y0]) Kp fun x12 =>
    opN Tryd.prog (sExt x12 0) Kp fun x13 =>
    opN Tryd.prog (sExt x12 1) Kp fun x14 =>
    opN Tryd.prog (sCall (fn 123) [v1, x13]) Kp fun x17 =>
    opN Tryd.prog (sUn .not x17) Kp fun x18 =>
    condS x18
    (K y0)
    (opN Tryd.prog (sSl 9 y0 (some x14) none none) Kp fun x21 =>
     next1 I1 m1 x21))
   (K y0)) v0
def strings_trimLeftUnicode_an : Ann := { cuts := [], blks := [], loops := [(1, [0])], drs := [] }
theorem strings_trimLeftUnicode_eq (v0 v1 : Value) (Kp : PK) (K : Value → WP) : cevF Tryd.prog strings_trimLeftUnicode_an Tryd.f109 [v0, v1] Kp K = strings_trimLeftUnicode v0 v1 Kp K := by kernel_rfl
theorem strings_trimLeftUnicode_calls {v0 v1 : Value} {Kp : PK} {K : Value → WP} {w : World} (h : strings_trimLeftUnicode v0 v1 Kp K w) : Calls Tryd.prog 109 #[v0, v1] w (after Kp K) :=
  calls_of_shape (calls_of_cev wide Tryd.func109 (an := strings_trimLeftUnicode_an) (args := [v0, v1]) (cast (congrFun (strings_trimLeftUnicode_eq v0 v1 Kp K) w).symm h))
theorem strings_trimLeftUnicode_cn {v0 v1 : Value} {W : World} {α : Type} {A : List HP} {r : α → Value} {B : α → List HP} (h : ∀ F, Ent W (A ++ F) (strings_trimLeftUnicode v0 v1 noP fun v w => ∃ x, v = r x ∧ sat W (B x ++ F) w)) : Cn Tryd.prog 109 [v0, v1] W A r B :=
  Cn.of (shape := strings_trimLeftUnicode v0 v1) Tryd.call109 (fun h => strings_trimLeftUnicode_calls h) h
theorem strings_trimLeftUnicode_cnP {v0 v1 : Value} {W : World} {α β : Type} {A : List HP} {r : α → Value} {B : α → List HP} {pc : β → List PanicEntry} {Bp : β → List HP} (h : ∀ F, Ent W (A ++ F) (strings_trimLeftUnicode v0 v1 (fun ch w => ∃ y, ch = pc y ∧ sat W (Bp y ++ F) w) fun v w => ∃ x, v = r x ∧ sat W (B x ++ F) w)) : CnP Tryd.prog 109 [v0, v1] W A r B pc Bp :=
  CnP.of (shape := strings_trimLeftUnicode v0 v1) Tryd.call109 (fun h => strings_trimLeftUnicode_calls h) h

/-- strings_trimRightUnicode -/
def strings_trimRightUnicode (v0 v1 : Value) (Kp : PK) (K : Value → WP) : WP :=
  loop1 (fun I1 m1 _ y0 =>
   opN Tryd.prog (sLen #[9] 3 [y0]) Kp fun x8 =>
   opN Tryd.prog (sBin .gtr 3 x8 (.int .i64 0)) Kp fun x9 =>
   condS x9
   (opN Tryd.prog (sLen #[9] 3 [y0]) Kp fun x12 =>
    opN Tryd.prog (sBin .sub 3 x12 (.int .i64 1)) Kp fun x13 =>
    opN Tryd.prog (sIx 9 y0 x13) Kp fun x14 =>
    opN Tryd.prog (sConv 5 21 x14) Kp fun x15 =>
    cut2 (fun J1 =>
     opN Tryd.prog (sBin .geq 21 x15 (.int .i32 128)) Kp fun x17 =>
     condS x17
     (opN Tryd.prog (sCall (fn 124) [y0]) Kp fun x20 =>
      opN Tryd.prog (sExt x20 0) Kp fun x21 =>
      opN Tryd.prog (sExt x20 1) Kp fun x22 =>
      J1 x21 x22)
     (J1 x15 (.int .i64 1))) fun _ z5 z6 =>
    opN Tryd.prog (sCall (fn 123) [v1, z5]) Kp fun x25 =>
    opN Tryd.prog (sUn .not x25) Kp fun x26 =>
    condS x26
    (K y0)
    (opN Tryd.prog (sLen #[9] 3 [y0]) Kp fun x29 =>
     opN Tryd.prog (sBin .sub 3 x29 z6) Kp fun x31 =>
     opN Tryd.prog (sSl 9 y0 none (some x31) none) Kp fun x32 =>
     next1 I1 m1 x32))
   (K y0)) v0
def strings_trimRightUnicode_an : Ann := { cuts := [(5, [5, 6])], blks := [], loops := [(1, [0])], drs := [] }
theorem strings_trimRightUnicode_eq (v0 v1 : Value) (Kp : PK) (K : Value → WP) : cevF Tryd.prog strings_trimRightUnicode_an Tryd.f110 [v0, v1] Kp K = strings_trimRightUnicode v0 v1 Kp K := by kernel_rfl
theorem strings_trimRightUnicode_calls {v0 v1 : Value} {Kp : PK} {K : Value → WP} {w : World} (h : strings_trimRightUnicode v0 v1 Kp K w) : Calls Tryd.prog 110 #[v0, v1] w (after Kp K) :=
  calls_of_shape (calls_of_cev wide Tryd.func110 (an := strings_trimRightUnicode_an) (args := [v0, v1]) (cast (congrFun (strings_trimRightUnicode_eq v0 v1 Kp K) w).symm h))
theorem strings_trimRightUnicode_cn {v0 v1 : Value} {W : World} {α : Type} {A : List HP} {r : α → Value} {B : α → List HP} (h : ∀ F, Ent W (A ++ F) (strings_trimRightUnicode v0 v1 noP fun v w => ∃ x, v = r x ∧ sat W (B x ++ F) w)) : Cn Tryd.prog 110 [v0, v1] W A r B :=
  Cn.of (shape := strings_trimRightUnicode v0 v1) Tryd.call110 (fun h => strings_trimRightUnicode_calls h) h
theorem strings_trimRightUnicode_cnP {v0 v1 : Value} {W : World} {α β : Type} {A : List HP} {r : α → Value} {B : α → List HP} {pc : β → List PanicEntry} {Bp : β → List HP} (h : ∀ F, Ent W (A ++ F) (strings_trimRightUnicode v0 v1 (fun ch w => ∃ y, ch = pc y ∧ sat W (Bp y ++ F) w) fun v w => ∃ x, v = r x ∧ sat W (B x ++ F) w)) : CnP Tryd.prog 110 [v0, v1] W A r B pc Bp :=
  CnP.of (shape := strings_trimRightUnicode v0 v1) Tryd.call110 (fun h => strings_trimRightUnicode_calls h) h

/-- fields_kind_fields_Tag_elements_1 -/
def fields_kind_fields_Tag_elements_1 (v0 v1 v2 : Value) (Kp : PK) (K : Value → WP) : WP :=
  loop3 (fun I1 m1 _ y4 y5 y6 =>
   opN Tryd.prog (sLoad 9 v1) Kp fun x11 =>
   opN Tryd.prog (sLen #[9] 3 [x11]) Kp fun x12 =>
   opN Tryd.prog (sBin .lss 3 y6 x12) Kp fun x13 =>
   condS x13
   (opN Tryd.prog (sLoad 9 v1) Kp fun x16 =>
    opN Tryd.prog (sIx 9 x16 y6) Kp fun x18 =>
    opN Tryd.prog (sEq .eql 5 (.tmp 20) (.const (.int .u8 92)) x18 (.int .u8 92)) Kp fun x21 =>
    gdK x21 true (fun k => k y4) fun x23 =>
    opN Tryd.prog (sPick x21 x23 (.bool false)) Kp fun x24 =>
    gdK x24 true (opN Tryd.prog (sFA 113 v2 1) Kp) fun x26 =>
    gdK x24 true (opN Tryd.prog (sLoad 4 x26) Kp) fun x27 =>
    opN Tryd.prog (sPick x24 x27 (.bool false)) Kp fun x28 =>
    condS x28
    (opN Tryd.prog (sBin .add 3 y6 (.int .i64 1)) Kp fun x30 =>
     opN Tryd.prog (sBin .add 3 x30 (.int .i64 1)) Kp fun x15 =>
     next3 I1 m1 y4 y5 x15)
    (opN Tryd.prog (sEq .eql 5 (.tmp 32) (.const (.int .u8 34)) x18 (.int .u8 34)) Kp fun x33 =>
     gdK x33 true (opN Tryd.prog (sFA 113 v2 0) Kp) fun x35 =>
     gdK x33 true (opN Tryd.prog (sLoad 4 x35) Kp) fun x36 =>
     opN Tryd.prog (sPick x33 x36 (.bool false)) Kp fun x37 =>
     condS x37
     (opN Tryd.prog (sUn .not y4) Kp fun x39 =>
      opN Tryd.prog (sBin .add 3 y6 (.int .i64 1)) Kp fun x15 =>
      next3 I1 m1 x39 y5 x15)
     (opN Tryd.prog (sEq .eql 5 (.tmp 41) (.const (.int .u8 44)) x18 (.int .u8 44)) Kp fun x42 =>
      gdK x42 true (fun k => k y4) fun x44 =>
      gdK x42 true (opN Tryd.prog (sUn .not x44) Kp) fun x45 =>
      opN Tryd.prog (sPick x42 x45 (.bool false)) Kp fun x46 =>
      condS x46
      (opN Tryd.prog (sLoad 9 v1) Kp fun x47 =>
       opN Tryd.prog (sSl 9 x47 (some y5) (some y6) none) Kp fun x50 =>
       opN Tryd.prog (sCall (fn 52) [x50]) Kp fun x51 =>
       opN Tryd.prog (sEq .neq 9 (.tmp 52) (.const (.string ⟨#[]⟩)) x51 (.string ⟨#[]⟩)) Kp fun x53 =>
       gdK x53 true (fun k => k v0) fun x55 =>
       gdK x53 true (fun k => k x51) fun x56 =>
       gdK x53 true (opN Tryd.prog (sCall x55 [x56]) Kp) fun x57 =>
       gdK x53 true (opN Tryd.prog (sUn .not x57) Kp) fun x58 =>
       opN Tryd.prog (sPick x53 x58 (.bool false)) Kp fun x59 =>
       condS x59
       (K (.tuple #[]))
       (opN Tryd.prog (sBin .add 3 y6 (.int .i64 1)) Kp fun x61 =>
        opN Tryd.prog (sBin .add 3 y6 (.int .i64 1)) Kp fun x15 =>
        next3 I1 m1 y4 x61 x15))
      (opN Tryd.prog (sBin .add 3 y6 (.int .i64 1)) Kp fun x15 =>
       next3 I1 m1 y4 y5 x15))))
   (opN Tryd.prog (sLoad 9 v1) Kp fun x62 =>
    opN Tryd.prog (sSl 9 x62 (some y5) none none) Kp fun x64 =>
    opN Tryd.prog (sCall (fn 52) [x64]) Kp fun x65 =>
    opN Tryd.prog (sEq .neq 9 (.tmp 66) (.const (.string ⟨#[]⟩)) x65 (.string ⟨#[]⟩)) Kp fun x67 =>
    condS x67
    (opN Tryd.prog (sCall v0 [x65]) Kp fun x70 =>
     K (.tuple #[]))
    (K (.tuple #[])))) (.bool false) (.int .i64 0) (.int .i64 0)
def fields_kind_fields_Tag_elements_1_an : Ann := { cuts := [], blks := [], loops := [(2, [4, 5, 6])], drs := [] }
theorem fields_kind_fields_Tag_elements_1_eq (v0 v1 v2 : Value) (Kp : PK) (K : Value → WP) : cevF Tryd.prog fields_kind_fields_Tag_elements_1_an Tryd.f111 [v0, v1, v2] Kp K = fields_kind_fields_Tag_elements_1 v0 v1 v2 Kp K := by kernel_rfl
theorem fields_kind_fields_Tag_elements_1_calls {v0 v1 v2 : Value} {Kp : PK} {K : Value → WP} {w : World} (h : fields_kind_fields_Tag_elements_1 v0 v1 v2 Kp K w) : Calls Tryd.prog 111 #[v0, v1, v2] w (after Kp K) :=
  calls_of_shape (calls_of_cev wide Tryd.func111 (an := fields_kind_fields_Tag_elements_1_an) (args := [v0, v1, v2]) (cast (congrFun (fields_kind_fields_Tag_elements_1_eq v0 v1 v2 Kp K) w).symm h))
theorem fields_kind_fields_Tag_elements_1_cn {v0 v1 v2 : Value} {W : World} {α : Type} {A : List HP} {r : α → Value} {B : α → List HP} (h : ∀ F, Ent W (A ++ F) (fields_kind_fields_Tag_elements_1 v0 v1 v2 noP fun v w => ∃ x, v = r x ∧ sat W (B x ++ F) w)) : Cn Tryd.prog 111 [v0, v1, v2] W A r B :=
  Cn.of (shape := fields_kind_fields_Tag_elements_1 v0 v1 v2) Tryd.call111 (fun h => fields_kind_fields_Tag_elements_1_calls h) h
theorem fields_kind_fields_Tag_elements_1_cnP {v0 v1 v2 : Value} {W : World} {α β : Type} {A : List HP} {r : α → Value} {B : α → List HP} {pc : β → List PanicEntry} {Bp : β → List HP} (h : ∀ F, Ent W (A ++ F) (fields_kind_fields_Tag_elements_1 v0 v1 v2 (fun ch w => ∃ y, ch = pc y ∧ sat W (Bp y ++ F) w) fun v w => ∃ x, v = r x ∧ sat W (B x ++ F) w)) : CnP Tryd.prog 111 [v0, v1, v2] W A r B pc Bp :=
  CnP.of (shape := fields_kind_fields_Tag_elements_1 v0 v1 v2) Tryd.call111 (fun h => fields_kind_fields_Tag_elements_1_calls h) h

/-- pool_Pool_round_1 -/
def pool_Pool_round_1 (v0 v1 : Value) (Kp : PK) (K : Value → WP) : WP :=
  opN Tryd.prog (sLoad 123 v1) Kp fun x5 =>
  opN Tryd.prog (sNil x5) Kp fun x6 =>
  opN Tryd.prog (sFA 175 x6 0) Kp fun x7 =>
  opN Tryd.prog (sLoad 173 x7) Kp fun x8 =>
  opN Tryd.prog (sLen #[173] 3 [x8]) Kp fun x9 =>
  loop1 (fun I1 m1 _ y10 =>
   opN Tryd.prog (sBin .lss 3 y10 x9) Kp fun x11 =>
   condS x11
   (drS (stS Tryd.prog (sLoad 123 v1) fun x13 =>
     stS Tryd.prog (sNil x13) fun x14 =>
     stS Tryd.prog (sFA 175 x14 3) fun x15 =>
     stS Tryd.prog (sLoad 3 x15) fun x16 =>
     stS Tryd.prog (sBin .add 3 x16 y10) fun x18 =>
     stS Tryd.prog (sLoad 123 v1) fun x19 =>
     stS Tryd.prog (sNil x19) fun x20 =>
     stS Tryd.prog (sFA 175 x20 0) fun x21 =>
     stS Tryd.prog (sLoad 173 x21) fun x22 =>
     stS Tryd.prog (sLen #[173] 3 [x22]) fun x23 =>
     stS Tryd.prog (sBin .rem 3 x18 x23) fun x24 =>
     opN Tryd.prog (sLoad 123 v1) Kp fun x27 =>
     opN Tryd.prog (sNil x27) Kp fun x28 =>
     opN Tryd.prog (sFA 175 x28 0) Kp fun x29 =>
     opN Tryd.prog (sLoad 173 x29) Kp fun x30 =>
     opN Tryd.prog (sIA 173 x30 x24) Kp fun x32 =>
     opN Tryd.prog (sLoad 178 x32) Kp fun x33 =>
     opN Tryd.prog (sCall v0 [x24, x33]) Kp fun x34 =>
     opN Tryd.prog (sUn .not x34) Kp fun x35 =>
     condS x35
     (K (.tuple #[]))
     (opN Tryd.prog (sBin .add 3 y10 (.int .i64 1)) Kp fun x36 =>
      next1 I1 m1 x36)))
   (K (.tuple #[]))) (.int .i64 0)
def pool_Pool_round_1_an : Ann := { cuts := [], blks := [], loops := [(1, [10])], drs := [(3, [(0, 1), (1, 1), (2, 1), (3, 1), (4, 1), (5, 1), (6, 1), (7, 1), (8, 1), (9, 1), (10, 1), (11, 1), (12, 1)])] }
theorem pool_Pool_round_1_eq (v0 v1 : Value) (Kp : PK) (K : Value → WP) : cevF Tryd.prog pool_Pool_round_1_an Tryd.f115 [v0, v1] Kp K = pool_Pool_round_1 v0 v1 Kp K := by kernel_rfl
theorem pool_Pool_round_1_calls {v0 v1 : Value} {Kp : PK} {K : Value → WP} {w : World} (h : pool_Pool_round_1 v0 v1 Kp K w) : Calls Tryd.prog 115 #[v0, v1] w (after Kp K) :=
  calls_of_shape (calls_of_cev wide Tryd.func115 (an := pool_Pool_round_1_an) (args := [v0, v1]) (cast (congrFun (pool_Pool_round_1_eq v0 v1 Kp K) w).symm h))
theorem pool_Pool_round_1_cn {v0 v1 : Value} {W : World} {α : Type} {A : List HP} {r : α → Value} {B : α → List HP} (h : ∀ F, Ent W (A ++ F) (pool_Pool_round_1 v0 v1 noP fun v w => ∃ x, v = r x ∧ sat W (B x ++ F) w)) : Cn Tryd.prog 115 [v0, v1] W A r B :=
  Cn.of (shape := pool_Pool_round_1 v0 v1) Tryd.call115 (fun h => pool_Pool_round_1_calls h) h
theorem pool_Pool_round_1_cnP {v0 v1 : Value} {W : World} {α β : Type} {A : List HP} {r : α → Value} {B : α → List HP} {pc : β → List PanicEntry} {Bp : β → List HP} (h : ∀ F, Ent W (A ++ F) (pool_Pool_round_1 v0 v1 (fun ch w => ∃ y, ch = pc y ∧ sat W (Bp y ++ F) w) fun v w => ∃ x, v = r x ∧ sat W (B x ++ F) w)) : CnP Tryd.prog 115 [v0, v1] W A r B pc Bp :=
  CnP.of (shape := pool_Pool_round_1 v0 v1) Tryd.call115 (fun h => pool_Pool_round_1_calls h) h

/-- stringslite_Index -/
def stringslite_Index (v0 v1 : Value) (Kp : PK) (K : Value → WP) : WP :=
  opN Tryd.prog (sLen #[9] 3 [v1]) Kp fun x15 =>
  opN Tryd.prog (sEq .eql 3 (.tmp 17) (.const (.int .i64 0)) x15 (.int .i64 0)) Kp fun x18 =>
  gdK x18 false (fun k => k v1) fun x20 =>
  gdK x18 false (fun k => k v0) fun x21 =>
  gdK x18 false (opN Tryd.prog (sEq .eql 9 (.tmp 20) (.tmp 21) x20 x21) Kp) fun x22 =>
  opN Tryd.prog (sPick x18 (.bool true) x22) Kp fun x23 =>
  condS x23
  (K (.int .i64 0))
  (opN Tryd.prog (sEq .eql 3 (.tmp 25) (.const (.int .i64 1)) x15 (.int .i64 1)) Kp fun x26 =>
   condS x26
   (opN Tryd.prog (sIx 9 v1 (.int .i64 0)) Kp fun x29 =>
    opN Tryd.prog (sCall (fn 119) [v0, x29]) Kp fun x30 =>
    K x30)
   (opN Tryd.prog (sLen #[9] 3 [v0]) Kp fun x34 =>
    opN Tryd.prog (sBin .geq 3 x15 x34) Kp fun x35 =>
    condS x35
    (K (.int .i64 (-1)))
    (opN Tryd.prog (sLoad 3 (.pointer (some ⟨0, 0, none⟩))) Kp fun x38 =>
     opN Tryd.prog (sBin .leq 3 x15 x38) Kp fun x39 =>
     gdK x39 true (fun k => k v0) fun x41 =>
     gdK x39 true (opN Tryd.prog (sLen #[9] 3 [x41]) Kp) fun x42 =>
     gdK x39 true (opN Tryd.prog (sBin .leq 3 x42 (.int .i64 64)) Kp) fun x43 =>
     opN Tryd.prog (sPick x39 x43 (.bool false)) Kp fun x44 =>
     condS x44
     (opN Tryd.prog (sCall (fn 131) [v0, v1]) Kp fun x47 =>
      K x47)
     (opN Tryd.prog (sIx 9 v1 (.int .i64 0)) Kp fun x49 =>
      opN Tryd.prog (sIx 9 v1 (.int .i64 1)) Kp fun x51 =>
      opN Tryd.prog (sLen #[9] 3 [v0]) Kp fun x53 =>
      opN Tryd.prog (sBin .sub 3 x53 x15) Kp fun x55 =>
      opN Tryd.prog (sBin .add 3 x55 (.int .i64 1)) Kp fun x56 =>
      loop2 (fun I1 m1 _ y8 y10 =>
       opN Tryd.prog (sBin .lss 3 y8 x56) Kp fun x59 =>
       condS x59
       (cut1 (fun J1 =>
         opN Tryd.prog (sIx 9 v0 y8) Kp fun x62 =>
         opN Tryd.prog (sEq .neq 5 (.tmp 62) (.tmp 63) x62 x49) Kp fun x64 =>
         condS x64
         (opN Tryd.prog (sBin .add 3 y8 (.int .i64 1)) Kp fun x67 =>
          opN Tryd.prog (sSl 9 v0 (some x67) (some x56) none) Kp fun x69 =>
          opN Tryd.prog (sCall (fn 119) [x69, x49]) Kp fun x71 =>
          opN Tryd.prog (sBin .lss 3 x71 (.int .i64 0)) Kp fun x73 =>
          condS x73
          (K (.int .i64 (-1)))
          (opN Tryd.prog (sBin .add 3 x71 (.int .i64 1)) Kp fun x76 =>
           opN Tryd.prog (sBin .add 3 y8 x76) Kp fun x77 =>
           J1 x77))
         (J1 y8)) fun _ z8 =>
        opN Tryd.prog (sBin .add 3 z8 (.int .i64 1)) Kp fun x80 =>
        opN Tryd.prog (sIx 9 v0 x80) Kp fun x81 =>
        opN Tryd.prog (sEq .eql 5 (.tmp 81) (.tmp 82) x81 x51) Kp fun x83 =>
        gdK x83 true (fun k => k v0) fun x85 =>
        gdK x83 true (fun k => k z8) fun x86 =>
        gdK x83 true (fun k => k z8) fun x87 =>
        gdK x83 true (fun k => k x15) fun x88 =>
        gdK x83 true (opN Tryd.prog (sBin .add 3 x87 x88) Kp) fun x89 =>
        gdK x83 true (opN Tryd.prog (sSl 9 x85 (some x86) (some x89) none) Kp) fun x90 =>
        gdK x83 true (fun k => k v1) fun x91 =>
        gdK x83 true (opN Tryd.prog (sEq .eql 9 (.tmp 90) (.tmp 91) x90 x91) Kp) fun x92 =>
        opN Tryd.prog (sPick x83 x92 (.bool false)) Kp fun x93 =>
        condS x93
        (K z8)
        (opN Tryd.prog (sBin .add 3 z8 (.int .i64 1)) Kp fun x96 =>
         opN Tryd.prog (sBin .add 3 y10 (.int .i64 1)) Kp fun x98 =>
         opN Tryd.prog (sLoad 3 (.pointer (some ⟨0, 0, none⟩))) Kp fun x100 =>
         opN Tryd.prog (sBin .leq 3 x15 x100) Kp fun x101 =>
         gdK x101 true (fun k => k x98) fun x103 =>
         gdK x101 true (fun k => k x96) fun x104 =>
         gdK x101 true (opN Tryd.prog (sCall (fn 132) [x104]) Kp) fun x105 =>
         gdK x101 true (opN Tryd.prog (sBin .gtr 3 x103 x105) Kp) fun x106 =>
         opN Tryd.prog (sPick x101 x106 (.bool false)) Kp fun x107 =>
         condS x107
         (opN Tryd.prog (sSl 9 v0 (some x96) none none) Kp fun x110 =>
          opN Tryd.prog (sCall (fn 131) [x110, v1]) Kp fun x112 =>
          opN Tryd.prog (sBin .geq 3 x112 (.int .i64 0)) Kp fun x114 =>
          condS x114
          (opN Tryd.prog (sBin .add 3 x112 x96) Kp fun x117 =>
           K x117)
          (K (.int .i64 (-1))))
         (opN Tryd.prog (sLoad 3 (.pointer (some ⟨0, 0, none⟩))) Kp fun x119 =>
          opN Tryd.prog (sBin .gtr 3 x15 x119) Kp fun x120 =>
          gdK x120 true (fun k => k x98) fun x122 =>
          gdK x120 true (fun k => k x96) fun x123 =>
          gdK x120 true (opN Tryd.prog (sBin .shr 3 x123 (.int .u64 4)) Kp) fun x124 =>
          gdK x120 true (opN Tryd.prog (sBin .add 3 (.int .i64 4) x124) Kp) fun x125 =>
          gdK x120 true (opN Tryd.prog (sBin .geq 3 x122 x125) Kp) fun x126 =>
          opN Tryd.prog (sPick x120 x126 (.bool false)) Kp fun x127 =>
          gdK x127 true (fun k => k x96) fun x129 =>
          gdK x127 true (fun k => k x56) fun x130 =>
          gdK x127 true (opN Tryd.prog (sBin .lss 3 x129 x130) Kp) fun x131 =>
          opN Tryd.prog (sPick x127 x131 (.bool false)) Kp fun x132 =>
          condS x132
          (opN Tryd.prog (sSl 9 v0 (some x96) none none) Kp fun x135 =>
           opN Tryd.prog (sCall (fn 133) [x135, v1]) Kp fun x137 =>
           opN Tryd.prog (sBin .lss 3 x137 (.int .i64 0)) Kp fun x139 =>
           condS x139
           (K (.int .i64 (-1)))
           (opN Tryd.prog (sBin .add 3 x96 x137) Kp fun x142 =>
            K x142))
          (next2 I1 m1 x96 x98))))
       (K (.int .i64 (-1)))) (.int .i64 0) (.int .i64 0)))))
def stringslite_Index_an : Ann := { cuts := [(21, [8])], blks := [], loops := [(15, [8, 10])], drs := [] }
theorem stringslite_Index_eq (v0 v1 : Value) (Kp : PK) (K : Value → WP) : cevF Tryd.prog stringslite_Index_an Tryd.f116 [v0, v1] Kp K = stringslite_Index v0 v1 Kp K := by kernel_rfl
theorem stringslite_Index_calls {v0 v1 : Value} {Kp : PK} {K : Value → WP} {w : World} (h : stringslite_Index v0 v1 Kp K w) : Calls Tryd.prog 116 #[v0, v1] w (after Kp K) :=
  calls_of_shape (calls_of_cev wide Tryd.func116 (an := stringslite_Index_an) (args := [v0, v1]) (cast (congrFun (stringslite_Index_eq v0 v1 Kp K) w).symm h))
theorem stringslite_Index_cn {v0 v1 : Value} {W : World} {α : Type} {A : List HP} {r : α → Value} {B : α → List HP} (h : ∀ F, Ent W (A ++ F) (stringslite_Index v0 v1 noP fun v w => ∃ x, v = r x ∧ sat W (B x ++ F) w)) : Cn Tryd.prog 116 [v0, v1] W A r B :=
  Cn.of (shape := stringslite_Index v0 v1) Tryd.call116 (fun h => stringslite_Index_calls h) h
theorem stringslite_Index_cnP {v0 v1 : Value} {W : World} {α β : Type} {A : List HP} {r : α → Value} {B : α → List HP} {pc : β → List PanicEntry} {Bp : β → List HP} (h : ∀ F, Ent W (A ++ F) (stringslite_Index v0 v1 (fun ch w => ∃ y, ch = pc y ∧ sat W (Bp y ++ F) w) fun v w => ∃ x, v = r x ∧ sat W (B x ++ F) w)) : CnP Tryd.prog 116 [v0, v1] W A r B pc Bp :=
  CnP.of (shape := stringslite_Index v0 v1) Tryd.call116 (fun h => stringslite_Index_calls h) h

/-- strconv_ParseUint -/
def strconv_ParseUint (v0 v1 v2 : Value) (Kp : PK) (K : Value → WP) : WP :=
  opN Tryd.prog (sCall (fn 134) [v0, v1, v2]) Kp fun x14 =>
  opN Tryd.prog (sExt x14 0) Kp fun x15 =>
  opN Tryd.prog (sExt x14 1) Kp fun x16 =>
  opN Tryd.prog (sEq .neq 169 (.tmp 17) (.const .nilIface) x16 .nilIface) Kp fun x18 =>
  condS x18
  (opN Tryd.prog (sCall (fn 135) [(.string ⟨#[80, 97, 114, 115, 101, 85, 105, 110, 116]⟩), v0, v1, v2, x16]) Kp fun x24 =>
   K (.tuple #[x15, x24]))
  (K (.tuple #[x15, .nilIface]))
def strconv_ParseUint_an : Ann := { cuts := [], blks := [], loops := [], drs := [] }
theorem strconv_ParseUint_eq (v0 v1 v2 : Value) (Kp : PK) (K : Value → WP) : cevF Tryd.prog strconv_ParseUint_an Tryd.f117 [v0, v1, v2] Kp K = strconv_ParseUint v0 v1 v2 Kp K := by kernel_rfl
theorem strconv_ParseUint_calls {v0 v1 v2 : Value} {Kp : PK} {K : Value → WP} {w : World} (h : strconv_ParseUint v0 v1 v2 Kp K w) : Calls Tryd.prog 117 #[v0, v1, v2] w (after Kp K) :=
  calls_of_shape (calls_of_cev wide Tryd.func117 (an := strconv_ParseUint_an) (args := [v0, v1, v2]) (cast (congrFun (strconv_ParseUint_eq v0 v1 v2 Kp K) w).symm h))
theorem strconv_ParseUint_cn {v0 v1 v2 : Value} {W : World} {α : Type} {A : List HP} {r : α → Value} {B : α → List HP} (h : ∀ F, Ent W (A ++ F) (strconv_ParseUint v0 v1 v2 noP fun v w => ∃ x, v = r x ∧ sat W (B x ++ F) w)) : Cn Tryd.prog 117 [v0, v1, v2] W A r B :=
  Cn.of (shape := strconv_ParseUint v0 v1 v2) Tryd.call117 (fun h => strconv_ParseUint_calls h) h
theorem strconv_ParseUint_cnP {v0 v1 v2 : Value} {W : World} {α β : Type} {A : List HP} {r : α → Value} {B : α → List HP} {pc : β → List PanicEntry} {Bp : β → List HP} (h : ∀ F, Ent W (A ++ F) (strconv_ParseUint v0 v1 v2 (fun ch w => ∃ y, ch = pc y ∧ sat W (Bp y ++ F) w) fun v w => ∃ x, v = r x ∧ sat W (B x ++ F) w)) : CnP Tryd.prog 117 [v0, v1, v2] W A r B pc Bp :=
  CnP.of (shape := strconv_ParseUint v0 v1 v2) Tryd.call117 (fun h => strconv_ParseUint_calls h) h

/-- ref01_worth -/
def ref01_worth (v0 v1 : Value) (Kp : PK) (K : Value → WP) : WP :=
  cut1 (fun J1 =>
   opN Tryd.prog (sBin .geq 5 v0 (.int .u8 48)) Kp fun x8 =>
   gdK x8 true (fun k => k v0) fun x10 =>
   gdK x8 true (opN Tryd.prog (sBin .leq 5 x10 (.int .u8 57)) Kp) fun x11 =>
   opN Tryd.prog (sPick x8 x11 (.bool false)) Kp fun x12 =>
   condS x12
   (opN Tryd.prog (sBin .sub 5 v0 (.int .u8 48)) Kp fun x14 =>
    opN Tryd.prog (sConv 5 3 x14) Kp fun x15 =>
    J1 x15)
   (opN Tryd.prog (sBin .geq 5 v0 (.int .u8 97)) Kp fun x18 =>
    gdK x18 true (fun k => k v0) fun x20 =>
    gdK x18 true (opN Tryd.prog (sBin .leq 5 x20 (.int .u8 102)) Kp) fun x21 =>
    opN Tryd.prog (sPick x18 x21 (.bool false)) Kp fun x22 =>
    condS x22
    (opN Tryd.prog (sBin .sub 5 v0 (.int .u8 97)) Kp fun x24 =>
     opN Tryd.prog (sConv 5 3 x24) Kp fun x25 =>
     opN Tryd.prog (sBin .add 3 x25 (.int .i64 10)) Kp fun x26 =>
     J1 x26)
    (opN Tryd.prog (sBin .geq 5 v0 (.int .u8 65)) Kp fun x29 =>
     gdK x29 true (fun k => k v0) fun x31 =>
     gdK x29 true (opN Tryd.prog (sBin .leq 5 x31 (.int .u8 70)) Kp) fun x32 =>
     opN Tryd.prog (sPick x29 x32 (.bool false)) Kp fun x33 =>
     condS x33
     (opN Tryd.prog (sBin .sub 5 v0 (.int .u8 65)) Kp fun x35 =>
      opN Tryd.prog (sConv 5 3 x35) Kp fun x36 =>
      opN Tryd.prog (sBin .add 3 x36 (.int .i64 10)) Kp fun x37 =>
      J1 x37)
     (J1 (.int .i64 (-1)))))) fun _ z5 =>
  opN Tryd.prog (sBin .geq 3 z5 v1) Kp fun x40 =>
  condS x40
  (K (.int .i64 (-1)))
  (K z5)
def ref01_worth_an : Ann := { cuts := [(8, [5])], blks := [], loops := [], drs := [] }
theorem ref01_worth_eq (v0 v1 : Value) (Kp : PK) (K : Value → WP) : cevF Tryd.prog ref01_worth_an Tryd.f118 [v0, v1] Kp K = ref01_worth v0 v1 Kp K := by kernel_rfl
theorem ref01_worth_calls {v0 v1 : Value} {Kp : PK} {K : Value → WP} {w : World} (h : ref01_worth v0 v1 Kp K w) : Calls Tryd.prog 118 #[v0, v1] w (after Kp K) :=
  calls_of_shape (calls_of_cev wide Tryd.func118 (an := ref01_worth_an) (args := [v0, v1]) (cast (congrFun (ref01_worth_eq v0 v1 Kp K) w).symm h))
theorem ref01_worth_cn {v0 v1 : Value} {W : World} {α : Type} {A : List HP} {r : α → Value} {B : α → List HP} (h : ∀ F, Ent W (A ++ F) (ref01_worth v0 v1 noP fun v w => ∃ x, v = r x ∧ sat W (B x ++ F) w)) : Cn Tryd.prog 118 [v0, v1] W A r B :=
  Cn.of (shape := ref01_worth v0 v1) Tryd.call118 (fun h => ref01_worth_calls h) h
theorem ref01_worth_cnP {v0 v1 : Value} {W : World} {α β : Type} {A : List HP} {r : α → Value} {B : α → List HP} {pc : β → List PanicEntry} {Bp : β → List HP} (h : ∀ F, Ent W (A ++ F) (ref01_worth v0 v1 (fun ch w => ∃ y, ch = pc y ∧ sat W (Bp y ++ F) w) fun v w => ∃ x, v = r x ∧ sat W (B x ++ F) w)) : CnP Tryd.prog 118 [v0, v1] W A r B pc Bp :=
  CnP.of (shape := ref01_worth v0 v1) Tryd.call118 (fun h => ref01_worth_calls h) h

/-- stringslite_IndexByte -/
def stringslite_IndexByte (v0 v1 : Value) (Kp : PK) (K : Value → WP) : WP :=
  opN Tryd.prog (sCall (fn 136) [v0, v1]) Kp fun x7 =>
  K x7
def stringslite_IndexByte_an : Ann := { cuts := [], blks := [], loops := [], drs := [] }
theorem stringslite_IndexByte_eq (v0 v1 : Value) (Kp : PK) (K : Value → WP) : cevF Tryd.prog stringslite_IndexByte_an Tryd.f119 [v0, v1] Kp K = stringslite_IndexByte v0 v1 Kp K := by kernel_rfl
theorem stringslite_IndexByte_calls {v0 v1 : Value} {Kp : PK} {K : Value → WP} {w : World} (h : stringslite_IndexByte v0 v1 Kp K w) : Calls Tryd.prog 119 #[v0, v1] w (after Kp K) :=
  calls_of_shape (calls_of_cev wide Tryd.func119 (an := stringslite_IndexByte_an) (args := [v0, v1]) (cast (congrFun (stringslite_IndexByte_eq v0 v1 Kp K) w).symm h))
theorem stringslite_IndexByte_cn {v0 v1 : Value} {W : World} {α : Type} {A : List HP} {r : α → Value} {B : α → List HP} (h : ∀ F, Ent W (A ++ F) (stringslite_IndexByte v0 v1 noP fun v w => ∃ x, v = r x ∧ sat W (B x ++ F) w)) : Cn Tryd.prog 119 [v0, v1] W A r B :=
  Cn.of (shape := stringslite_IndexByte v0 v1) Tryd.call119 (fun h => stringslite_IndexByte_calls h) h
theorem stringslite_IndexByte_cnP {v0 v1 : Value} {W : World} {α β : Type} {A : List HP} {r : α → Value} {B : α → List HP} {pc : β → List PanicEntry} {Bp : β → List HP} (h : ∀ F, Ent W (A ++ F) (stringslite_IndexByte v0 v1 (fun ch w => ∃ y, ch = pc y ∧ sat W (Bp y ++ F) w) fun v w => ∃ x, v = r x ∧ sat W (B x ++ F) w)) : CnP Tryd.prog 119 [v0, v1] W A r B pc Bp :=
  CnP.of (shape := stringslite_IndexByte v0 v1) Tryd.call119 (fun h => stringslite_IndexByte_calls h) h

/-- stringslite_HasPrefix -/
def stringslite_HasPrefix (v0 v1 : Value) (Kp : PK) (K : Value → WP) : WP :=
  opN Tryd.prog (sLen #[9] 3 [v0]) Kp fun x6 =>
  opN Tryd.prog (sLen #[9] 3 [v1]) Kp fun x8 =>
  opN Tryd.prog (sBin .geq 3 x6 x8) Kp fun x9 =>
  gdK x9 true (fun k => k v0) fun x11 =>
  gdK x9 true (fun k => k v1) fun x12 =>
  gdK x9 true (opN Tryd.prog (sLen #[9] 3 [x12]) Kp) fun x13 =>
  gdK x9 true (opN Tryd.prog (sSl 9 x11 none (some x13) none) Kp) fun x14 =>
  gdK x9 true (fun k => k v1) fun x15 =>
  gdK x9 true (opN Tryd.prog (sEq .eql 9 (.tmp 14) (.tmp 15) x14 x15) Kp) fun x16 =>
  opN Tryd.prog (sPick x9 x16 (.bool false)) Kp fun x17 =>
  K x17
def stringslite_HasPrefix_an : Ann := { cuts := [], blks := [], loops := [], drs := [] }
theorem stringslite_HasPrefix_eq (v0 v1 : Value) (Kp : PK) (K : Value → WP) : cevF Tryd.prog stringslite_HasPrefix_an Tryd.f120 [v0, v1] Kp K = stringslite_HasPrefix v0 v1 Kp K := by kernel_rfl
theorem stringslite_HasPrefix_calls {v0 v1 : Value} {Kp : PK} {K : Value → WP} {w : World} (h : stringslite_HasPrefix v0 v1 Kp K w) : Calls Tryd.prog 120 #[v0, v1] w (after Kp K) :=
  calls_of_shape (calls_of_cev wide Tryd.func120 (an := stringslite_HasPrefix_an) (args := [v0, v1]) (cast (congrFun (stringslite_HasPrefix_eq v0 v1 Kp K) w).symm h))
theorem stringslite_HasPrefix_cn {v0 v1 : Value} {W : World} {α : Type} {A : List HP} {r : α → Value} {B : α → List HP} (h : ∀ F, Ent W (A ++ F) (stringslite_HasPrefix v0 v1 noP fun v w => ∃ x, v = r x ∧ sat W (B x ++ F) w)) : Cn Tryd.prog 120 [v0, v1] W A r B :=
  Cn.of (shape := stringslite_HasPrefix v0 v1) Tryd.call120 (fun h => stringslite_HasPrefix_calls h) h
theorem stringslite_HasPrefix_cnP {v0 v1 : Value} {W : World} {α β : Type} {A : List HP} {r : α → Value} {B : α → List HP} {pc : β → List PanicEntry} {Bp : β → List HP} (h : ∀ F, Ent W (A ++ F) (stringslite_HasPrefix v0 v1 (fun ch w => ∃ y, ch = pc y ∧ sat W (Bp y ++ F) w) fun v w => ∃ x, v = r x ∧ sat W (B x ++ F) w)) : CnP Tryd.prog 120 [v0, v1] W A r B pc Bp :=
  CnP.of (shape := stringslite_HasPrefix v0 v1) Tryd.call120 (fun h => stringslite_HasPrefix_calls h) h

/-- strings_ContainsRune -/
def strings_ContainsRune (v0 v1 : Value) (Kp : PK) (K : Value → WP) : WP :=
  opN Tryd.prog (sCall (fn 138) [v0, v1]) Kp fun x7 =>
  opN Tryd.prog (sBin .geq 3 x7 (.int .i64 0)) Kp fun x8 =>
  K x8
def strings_ContainsRune_an : Ann := { cuts := [], blks := [], loops := [], drs := [] }
theorem strings_ContainsRune_eq (v0 v1 : Value) (Kp : PK) (K : Value → WP) : cevF Tryd.prog strings_ContainsRune_an Tryd.f123 [v0, v1] Kp K = strings_ContainsRune v0 v1 Kp K := by kernel_rfl
theorem strings_ContainsRune_calls {v0 v1 : Value} {Kp : PK} {K : Value → WP} {w : World} (h : strings_ContainsRune v0 v1 Kp K w) : Calls Tryd.prog 123 #[v0, v1] w (after Kp K) :=
  calls_of_shape (calls_of_cev wide Tryd.func123 (an := strings_ContainsRune_an) (args := [v0, v1]) (cast (congrFun (strings_ContainsRune_eq v0 v1 Kp K) w).symm h))
theorem strings_ContainsRune_cn {v0 v1 : Value} {W : World} {α : Type} {A : List HP} {r : α → Value} {B : α → List HP} (h : ∀ F, Ent W (A ++ F) (strings_ContainsRune v0 v1 noP fun v w => ∃ x, v = r x ∧ sat W (B x ++ F) w)) : Cn Tryd.prog 123 [v0, v1] W A r B :=
  Cn.of (shape := strings_ContainsRune v0 v1) Tryd.call123 (fun h => strings_ContainsRune_calls h) h
theorem strings_ContainsRune_cnP {v0 v1 : Value} {W : World} {α β : Type} {A : List HP} {r : α → Value} {B : α → List HP} {pc : β → List PanicEntry} {Bp : β → List HP} (h : ∀ F, Ent W (A ++ F) (strings_ContainsRune v0 v1 (fun ch w => ∃ y, ch = pc y ∧ sat W (Bp y ++ F) w) fun v w => ∃ x, v = r x ∧ sat W (B x ++ F) w)) : CnP Tryd.prog 123 [v0, v1] W A r B pc Bp :=
  CnP.of (shape := strings_ContainsRune v0 v1) Tryd.call123 (fun h => strings_ContainsRune_calls h) h

/-- bytealg_Cutover -/
def bytealg_Cutover (v0 : Value) (Kp : PK) (K : Value → WP) : WP :=
  opN Tryd.prog (sBin .add 3 v0 (.int .i64 16)) Kp fun x4 =>
  opN Tryd.prog (sBin .quo 3 x4 (.int .i64 8)) Kp fun x5 =>
  K x5
def bytealg_Cutover_an : Ann := { cuts := [], blks := [], loops := [], drs := [] }
theorem bytealg_Cutover_eq (v0 : Value) (Kp : PK) (K : Value → WP) : cevF Tryd.prog bytealg_Cutover_an Tryd.f132 [v0] Kp K = bytealg_Cutover v0 Kp K := by kernel_rfl
theorem bytealg_Cutover_calls {v0 : Value} {Kp : PK} {K : Value → WP} {w : World} (h : bytealg_Cutover v0 Kp K w) : Calls Tryd.prog 132 #[v0] w (after Kp K) :=
  calls_of_shape (calls_of_cev wide Tryd.func132 (an := bytealg_Cutover_an) (args := [v0]) (cast (congrFun (bytealg_Cutover_eq v0 Kp K) w).symm h))
theorem bytealg_Cutover_cn {v0 : Value} {W : World} {α : Type} {A : List HP} {r : α → Value} {B : α → List HP} (h : ∀ F, Ent W (A ++ F) (bytealg_Cutover v0 noP fun v w => ∃ x, v = r x ∧ sat W (B x ++ F) w)) : Cn Tryd.prog 132 [v0] W A r B :=
  Cn.of (shape := bytealg_Cutover v0) Tryd.call132 (fun h => bytealg_Cutover_calls h) h
theorem bytealg_Cutover_cnP {v0 : Value} {W : World} {α β : Type} {A : List HP} {r : α → Value} {B : α → List HP} {pc : β → List PanicEntry} {Bp : β → List HP} (h : ∀ F, Ent W (A ++ F) (bytealg_Cutover v0 (fun ch w => ∃ y, ch = pc y ∧ sat W (Bp y ++ F) w) fun v w => ∃ x, v = r x ∧ sat W (B x ++ F) w)) : CnP Tryd.prog 132 [v0] W A r B pc Bp :=
  CnP.of (shape := bytealg_Cutover v0) Tryd.call132 (fun h => bytealg_Cutover_calls h) h

/-- bytealg_IndexRabinKarp_string -/
def bytealg_IndexRabinKarp_string (v0 v1 : Value) (Kp : PK) (K : Value → WP) : WP :=
  opN Tryd.prog (sCall (fn 145) [v1]) Kp fun x13 =>
  opN Tryd.prog (sExt x13 0) Kp fun x14 =>
  opN Tryd.prog (sExt x13 1) Kp fun x15 =>
  opN Tryd.prog (sLen #[9] 3 [v1]) Kp fun x17 =>
  loop2 (fun I1 m1 _ y8 y9 =>
   opN Tryd.prog (sBin .lss 3 y9 x17) Kp fun x20 =>
   condS x20
   (opN Tryd.prog (sBin .mul 222 y8 (.int .u32 16777619)) Kp fun x24 =>
    opN Tryd.prog (sIx 9 v0 y9) Kp fun x27 =>
    opN Tryd.prog (sConv 5 222 x27) Kp fun x28 =>
    opN Tryd.prog (sBin .add 222 x24 x28) Kp fun x29 =>
    opN Tryd.prog (sBin .add 3 y9 (.int .i64 1)) Kp fun x22 =>
    next2 I1 m1 x29 x22)
   (opN Tryd.prog (sEq .eql 222 (.tmp 30) (.tmp 31) y8 x14) Kp fun x32 =>
    gdK x32 true (fun k => k v0) fun x34 =>
    gdK x32 true (fun k => k x17) fun x35 =>
    gdK x32 true (opN Tryd.prog (sSl 9 x34 none (some x35) none) Kp) fun x36 =>
    gdK x32 true (fun k => k v1) fun x37 =>
    gdK x32 true (opN Tryd.prog (sEq .eql 9 (.tmp 36) (.tmp 37) x36 x37) Kp) fun x38 =>
    opN Tryd.prog (sPick x32 x38 (.bool false)) Kp fun x39 =>
    condS x39
    (K (.int .i64 0))
    (loop2 (fun I2 m2 _ y8_2 y10 =>
      opN Tryd.prog (sLen #[9] 3 [v0]) Kp fun x43 =>
      opN Tryd.prog (sBin .lss 3 y10 x43) Kp fun x44 =>
      condS x44
      (opN Tryd.prog (sBin .mul 222 y8_2 (.int .u32 16777619)) Kp fun x46 =>
       opN Tryd.prog (sIx 9 v0 y10) Kp fun x50 =>
       opN Tryd.prog (sConv 5 222 x50) Kp fun x51 =>
       opN Tryd.prog (sBin .add 222 x46 x51) Kp fun x52 =>
       opN Tryd.prog (sBin .sub 3 y10 x17) Kp fun x58 =>
       opN Tryd.prog (sIx 9 v0 x58) Kp fun x59 =>
       opN Tryd.prog (sConv 5 222 x59) Kp fun x60 =>
       opN Tryd.prog (sBin .mul 222 x15 x60) Kp fun x61 =>
       opN Tryd.prog (sBin .sub 222 x52 x61) Kp fun x62 =>
       opN Tryd.prog (sBin .add 3 y10 (.int .i64 1)) Kp fun x64 =>
       opN Tryd.prog (sEq .eql 222 (.tmp 65) (.tmp 66) x62 x14) Kp fun x67 =>
       gdK x67 true (fun k => k v0) fun x69 =>
       gdK x67 true (fun k => k x64) fun x70 =>
       gdK x67 true (fun k => k x17) fun x71 =>
       gdK x67 true (opN Tryd.prog (sBin .sub 3 x70 x71) Kp) fun x72 =>
       gdK x67 true (fun k => k x64) fun x73 =>
       gdK x67 true (opN Tryd.prog (sSl 9 x69 (some x72) (some x73) none) Kp) fun x74 =>
       gdK x67 true (fun k => k v1) fun x75 =>
       gdK x67 true (opN Tryd.prog (sEq .eql 9 (.tmp 74) (.tmp 75) x74 x75) Kp) fun x76 =>
       opN Tryd.prog (sPick x67 x76 (.bool false)) Kp fun x77 =>
       condS x77
       (opN Tryd.prog (sBin .sub 3 x64 x17) Kp fun x80 =>
        K x80)
       (next2 I2 m2 x62 x64))
      (K (.int .i64 (-1)))) y8 x17))) (.int .u32 0) (.int .i64 0)
def bytealg_IndexRabinKarp_string_an : Ann := { cuts := [], blks := [], loops := [(5, [8, 9]), (11, [8, 10])], drs := [] }
theorem bytealg_IndexRabinKarp_string_eq (v0 v1 : Value) (Kp : PK) (K : Value → WP) : cevF Tryd.prog bytealg_IndexRabinKarp_string_an Tryd.f133 [v0, v1] Kp K = bytealg_IndexRabinKarp_string v0 v1 Kp K := by kernel_rfl
theorem bytealg_IndexRabinKarp_string_calls {v0 v1 : Value} {Kp : PK} {K : Value → WP} {w : World} (h : bytealg_IndexRabinKarp_string v0 v1 Kp K w) : Calls Tryd.prog 133 #[v0, v1] w (after Kp K) :=
  calls_of_shape (calls_of_cev wide Tryd.func133 (an := bytealg_IndexRabinKarp_string_an) (args := [v0, v1]) (cast (congrFun (bytealg_IndexRabinKarp_string_eq v0 v1 Kp K) w).symm h))
theorem bytealg_IndexRabinKarp_string_cn {v0 v1 : Value} {W : World} {α : Type} {A : List HP} {r : α → Value} {B : α → List HP} (h : ∀ F, Ent W (A ++ F) (bytealg_IndexRabinKarp_string v0 v1 noP fun v w => ∃ x, v = r x ∧ sat W (B x ++ F) w)) : Cn Tryd.prog 133 [v0, v1] W A r B :=
  Cn.of (shape := bytealg_IndexRabinKarp_string v0 v1) Tryd.call133 (fun h => bytealg_IndexRabinKarp_string_calls h) h
theorem bytealg_IndexRabinKarp_string_cnP {v0 v1 : Value} {W : World} {α β : Type} {A : List HP} {r : α → Value} {B : α → List HP} {pc : β → List PanicEntry} {Bp : β → List HP} (h : ∀ F, Ent W (A ++ F) (bytealg_IndexRabinKarp_string v0 v1 (fun ch w => ∃ y, ch = pc y ∧ sat W (Bp y ++ F) w) fun v w => ∃ x, v = r x ∧ sat W (B x ++ F) w)) : CnP Tryd.prog 133 [v0, v1] W A r B pc Bp :=
  CnP.of (shape := bytealg_IndexRabinKarp_string v0 v1) Tryd.call133 (fun h => bytealg_IndexRabinKarp_string_calls h) h

/-- strconv_toError -/
def strconv_toError (v0 v1 v2 v3 v4 : Value) (Kp : PK) (K : Value → WP) : WP :=
  opN Tryd.prog (sMkI 228 (.int .i64 2)) Kp fun x13 =>
  opN Tryd.prog (sEq .eql 169 (.tmp 11) (.tmp 13) v4 x13) Kp fun x14 =>
  condS x14
  (opN Tryd.prog (sCall (fn 148) [v0, v1]) Kp fun x17 =>
   opN Tryd.prog (sMkI 230 x17) Kp fun x18 =>
   K x18)
  (opN Tryd.prog (sMkI 228 (.int .i64 1)) Kp fun x20 =>
   opN Tryd.prog (sEq .eql 169 (.tmp 11) (.tmp 20) v4 x20) Kp fun x21 =>
   condS x21
   (opN Tryd.prog (sCall (fn 149) [v0, v1]) Kp fun x24 =>
    opN Tryd.prog (sMkI 230 x24) Kp fun x25 =>
    K x25)
   (opN Tryd.prog (sMkI 228 (.int .i64 3)) Kp fun x27 =>
    opN Tryd.prog (sEq .eql 169 (.tmp 11) (.tmp 27) v4 x27) Kp fun x28 =>
    condS x28
    (opN Tryd.prog (sCall (fn 150) [v0, v1, v2]) Kp fun x32 =>
     opN Tryd.prog (sMkI 230 x32) Kp fun x33 =>
     K x33)
    (opN Tryd.prog (sMkI 228 (.int .i64 4)) Kp fun x35 =>
     opN Tryd.prog (sEq .eql 169 (.tmp 11) (.tmp 35) v4 x35) Kp fun x36 =>
     condS x36
     (opN Tryd.prog (sCall (fn 151) [v0, v1, v3]) Kp fun x40 =>
      opN Tryd.prog (sMkI 230 x40) Kp fun x41 =>
      K x41)
     (K v4))))
def strconv_toError_an : Ann := { cuts := [], blks := [], loops := [], drs := [] }
theorem strconv_toError_eq (v0 v1 v2 v3 v4 : Value) (Kp : PK) (K : Value → WP) : cevF Tryd.prog strconv_toError_an Tryd.f135 [v0, v1, v2, v3, v4] Kp K = strconv_toError v0 v1 v2 v3 v4 Kp K := by kernel_rfl
theorem strconv_toError_calls {v0 v1 v2 v3 v4 : Value} {Kp : PK} {K : Value → WP} {w : World} (h : strconv_toError v0 v1 v2 v3 v4 Kp K w) : Calls Tryd.prog 135 #[v0, v1, v2, v3, v4] w (after Kp K) :=
  calls_of_shape (calls_of_cev wide Tryd.func135 (an := strconv_toError_an) (args := [v0, v1, v2, v3, v4]) (cast (congrFun (strconv_toError_eq v0 v1 v2 v3 v4 Kp K) w).symm h))
theorem strconv_toError_cn {v0 v1 v2 v3 v4 : Value} {W : World} {α : Type} {A : List HP} {r : α → Value} {B : α → List HP} (h : ∀ F, Ent W (A ++ F) (strconv_toError v0 v1 v2 v3 v4 noP fun v w => ∃ x, v = r x ∧ sat W (B x ++ F) w)) : Cn Tryd.prog 135 [v0, v1, v2, v3, v4] W A r B :=
  Cn.of (shape := strconv_toError v0 v1 v2 v3 v4) Tryd.call135 (fun h => strconv_toError_calls h) h
theorem strconv_toError_cnP {v0 v1 v2 v3 v4 : Value} {W : World} {α β : Type} {A : List HP} {r : α → Value} {B : α → List HP} {pc : β → List PanicEntry} {Bp : β → List HP} (h : ∀ F, Ent W (A ++ F) (strconv_toError v0 v1 v2 v3 v4 (fun ch w => ∃ y, ch = pc y ∧ sat W (Bp y ++ F) w) fun v w => ∃ x, v = r x ∧ sat W (B x ++ F) w)) : CnP Tryd.prog 135 [v0, v1, v2, v3, v4] W A r B pc Bp :=
  CnP.of (shape := strconv_toError v0 v1 v2 v3 v4) Tryd.call135 (fun h => strconv_toError_calls h) h

/-- bytealg_hashStr_string -/
def bytealg_hashStr_string (v0 : Value) (Kp : PK) (K : Value → WP) : WP :=
  loop2 (fun I1 m1 _ y4 y5 =>
   opN Tryd.prog (sLen #[9] 3 [v0]) Kp fun x11 =>
   opN Tryd.prog (sBin .lss 3 y5 x11) Kp fun x12 =>
   condS x12
   (opN Tryd.prog (sBin .mul 222 y4 (.int .u32 16777619)) Kp fun x16 =>
    opN Tryd.prog (sIx 9 v0 y5) Kp fun x19 =>
    opN Tryd.prog (sConv 5 222 x19) Kp fun x20 =>
    opN Tryd.prog (sBin .add 222 x16 x20) Kp fun x21 =>
    opN Tryd.prog (sBin .add 3 y5 (.int .i64 1)) Kp fun x14 =>
    next2 I1 m1 x21 x14)
   (opN Tryd.prog (sLen #[9] 3 [v0]) Kp fun x23 =>
    loop3 (fun I2 m2 _ y6 y7 y8 =>
     opN Tryd.prog (sBin .gtr 3 y8 (.int .i64 0)) Kp fun x25 =>
     condS x25
     (cut1 (fun J1 =>
       opN Tryd.prog (sBin .and 3 y8 (.int .i64 1)) Kp fun x29 =>
       opN Tryd.prog (sEq .neq 3 (.tmp 29) (.const (.int .i64 0)) x29 (.int .i64 0)) Kp fun x30 =>
       condS x30
       (opN Tryd.prog (sBin .mul 222 y6 y7) Kp fun x33 =>
        J1 x33)
       (J1 y6)) fun _ z6 =>
      opN Tryd.prog (sBin .mul 222 y7 y7) Kp fun x36 =>
      opN Tryd.prog (sBin .shr 3 y8 (.int .u64 1)) Kp fun x27 =>
      next3 I2 m2 z6 x36 x27)
     (K (.tuple #[y4, y6]))) (.int .u32 1) (.int .u32 16777619) x23)) (.int .u32 0) (.int .i64 0)
def bytealg_hashStr_string_an : Ann := { cuts := [(12, [6])], blks := [], loops := [(3, [4, 5]), (8, [6, 7, 8])], drs := [] }
theorem bytealg_hashStr_string_eq (v0 : Value) (Kp : PK) (K : Value → WP) : cevF Tryd.prog bytealg_hashStr_string_an Tryd.f145 [v0] Kp K = bytealg_hashStr_string v0 Kp K := by kernel_rfl
theorem bytealg_hashStr_string_calls {v0 : Value} {Kp : PK} {K : Value → WP} {w : World} (h : bytealg_hashStr_string v0 Kp K w) : Calls Tryd.prog 145 #[v0] w (after Kp K) :=
  calls_of_shape (calls_of_cev wide Tryd.func145 (an := bytealg_hashStr_string_an) (args := [v0]) (cast (congrFun (bytealg_hashStr_string_eq v0 Kp K) w).symm h))
theorem bytealg_hashStr_string_cn {v0 : Value} {W : World} {α : Type} {A : List HP} {r : α → Value} {B : α → List HP} (h : ∀ F, Ent W (A ++ F) (bytealg_hashStr_string v0 noP fun v w => ∃ x, v = r x ∧ sat W (B x ++ F) w)) : Cn Tryd.prog 145 [v0] W A r B :=
  Cn.of (shape := bytealg_hashStr_string v0) Tryd.call145 (fun h => bytealg_hashStr_string_calls h) h
theorem bytealg_hashStr_string_cnP {v0 : Value} {W : World} {α β : Type} {A : List HP} {r : α → Value} {B : α → List HP} {pc : β → List PanicEntry} {Bp : β → List HP} (h : ∀ F, Ent W (A ++ F) (bytealg_hashStr_string v0 (fun ch w => ∃ y, ch = pc y ∧ sat W (Bp y ++ F) w) fun v w => ∃ x, v = r x ∧ sat W (B x ++ F) w)) : CnP Tryd.prog 145 [v0] W A r B pc Bp :=
  CnP.of (shape := bytealg_hashStr_string v0) Tryd.call145 (fun h => bytealg_hashStr_string_calls h) h

/-- strconv_syntaxError -/
def strconv_syntaxError (v0 v1 : Value) (Kp : PK) (K : Value → WP) : WP :=
  drS (stD Tryd.prog (sLoad 169 (.pointer (some ⟨4, 0, none⟩))) fun D3 x8 =>
   opN Tryd.prog (sCall (fn 155) [v1]) Kp fun x7 =>
   (fun w => D3 w ∧ (stS Tryd.prog (sBuild 240 [(0, v0), (1, x7), (2, x8)]) fun x9 =>
     opN Tryd.prog (sBox 240 x9) Kp fun x10 =>
     K x10) w))
def strconv_syntaxError_an : Ann := { cuts := [], blks := [], loops := [], drs := [(1, [(0, 2), (1, 1), (3, 3), (2, 0), (4, 1), (5, 0), (6, 1)])] }
theorem strconv_syntaxError_eq (v0 v1 : Value) (Kp : PK) (K : Value → WP) : cevF Tryd.prog strconv_syntaxError_an Tryd.f148 [v0, v1] Kp K = strconv_syntaxError v0 v1 Kp K := by kernel_rfl
theorem strconv_syntaxError_calls {v0 v1 : Value} {Kp : PK} {K : Value → WP} {w : World} (h : strconv_syntaxError v0 v1 Kp K w) : Calls Tryd.prog 148 #[v0, v1] w (after Kp K) :=
  calls_of_shape (calls_of_cev wide Tryd.func148 (an := strconv_syntaxError_an) (args := [v0, v1]) (cast (congrFun (strconv_syntaxError_eq v0 v1 Kp K) w).symm h))
theorem strconv_syntaxError_cn {v0 v1 : Value} {W : World} {α : Type} {A : List HP} {r : α → Value} {B : α → List HP} (h : ∀ F, Ent W (A ++ F) (strconv_syntaxError v0 v1 noP fun v w => ∃ x, v = r x ∧ sat W (B x ++ F) w)) : Cn Tryd.prog 148 [v0, v1] W A r B :=
  Cn.of (shape := strconv_syntaxError v0 v1) Tryd.call148 (fun h => strconv_syntaxError_calls h) h
theorem strconv_syntaxError_cnP {v0 v1 : Value} {W : World} {α β : Type} {A : List HP} {r : α → Value} {B : α → List HP} {pc : β → List PanicEntry} {Bp : β → List HP} (h : ∀ F, Ent W (A ++ F) (strconv_syntaxError v0 v1 (fun ch w => ∃ y, ch = pc y ∧ sat W (Bp y ++ F) w) fun v w => ∃ x, v = r x ∧ sat W (B x ++ F) w)) : CnP Tryd.prog 148 [v0, v1] W A r B pc Bp :=
  CnP.of (shape := strconv_syntaxError v0 v1) Tryd.call148 (fun h => strconv_syntaxError_calls h) h

/-- strconv_rangeError -/
def strconv_rangeError (v0 v1 : Value) (Kp : PK) (K : Value → WP) : WP :=
  drS (stD Tryd.prog (sLoad 169 (.pointer (some ⟨5, 0, none⟩))) fun D3 x8 =>
   opN Tryd.prog (sCall (fn 155) [v1]) Kp fun x7 =>
   (fun w => D3 w ∧ (stS Tryd.prog (sBuild 240 [(0, v0), (1, x7), (2, x8)]) fun x9 =>
     opN Tryd.prog (sBox 240 x9) Kp fun x10 =>
     K x10) w))
def strconv_rangeError_an : Ann := { cuts := [], blks := [], loops := [], drs := [(1, [(0, 2), (1, 1), (3, 3), (2, 0), (4, 1), (5, 0), (6, 1)])] }
theorem strconv_rangeError_eq (v0 v1 : Value) (Kp : PK) (K : Value → WP) : cevF Tryd.prog strconv_rangeError_an Tryd.f149 [v0, v1] Kp K = strconv_rangeError v0 v1 Kp K := by kernel_rfl
theorem strconv_rangeError_calls {v0 v1 : Value} {Kp : PK} {K : Value → WP} {w : World} (h : strconv_rangeError v0 v1 Kp K w) : Calls Tryd.prog 149 #[v0, v1] w (after Kp K) :=
  calls_of_shape (calls_of_cev wide Tryd.func149 (an := strconv_rangeError_an) (args := [v0, v1]) (cast (congrFun (strconv_rangeError_eq v0 v1 Kp K) w).symm h))
theorem strconv_rangeError_cn {v0 v1 : Value} {W : World} {α : Type} {A : List HP} {r : α → Value} {B : α → List HP} (h : ∀ F, Ent W (A ++ F) (strconv_rangeError v0 v1 noP fun v w => ∃ x, v = r x ∧ sat W (B x ++ F) w)) : Cn Tryd.prog 149 [v0, v1] W A r B :=
  Cn.of (shape := strconv_rangeError v0 v1) Tryd.call149 (fun h => strconv_rangeError_calls h) h
theorem strconv_rangeError_cnP {v0 v1 : Value} {W : World} {α β : Type} {A : List HP} {r : α → Value} {B : α → List HP} {pc : β → List PanicEntry} {Bp : β → List HP} (h : ∀ F, Ent W (A ++ F) (strconv_rangeError v0 v1 (fun ch w => ∃ y, ch = pc y ∧ sat W (Bp y ++ F) w) fun v w => ∃ x, v = r x ∧ sat W (B x ++ F) w)) : CnP Tryd.prog 149 [v0, v1] W A r B pc Bp :=
  CnP.of (shape := strconv_rangeError v0 v1) Tryd.call149 (fun h => strconv_rangeError_calls h) h

/-- strconv_baseError -/
def strconv_baseError (v0 v1 v2 : Value) (Kp : PK) (K : Value → WP) : WP :=
  opN Tryd.prog (sCall (fn 155) [v1]) Kp fun x9 =>
  opN Tryd.prog (sCall (fn 63) [v2]) Kp fun x11 =>
  opN Tryd.prog (sBin .add 9 (.string ⟨#[105, 110, 118, 97, 108, 105, 100, 32, 98, 97, 115, 101, 32]⟩) x11) Kp fun x12 =>
  opN Tryd.prog (sCall (fn 156) [x12]) Kp fun x13 =>
  opN Tryd.prog (sBuild 240 [(0, v0), (1, x9), (2, x13)]) Kp fun x14 =>
  opN Tryd.prog (sBox 240 x14) Kp fun x15 =>
  K x15
def strconv_baseError_an : Ann := { cuts := [], blks := [], loops := [], drs := [] }
theorem strconv_baseError_eq (v0 v1 v2 : Value) (Kp : PK) (K : Value → WP) : cevF Tryd.prog strconv_baseError_an Tryd.f150 [v0, v1, v2] Kp K = strconv_baseError v0 v1 v2 Kp K := by kernel_rfl
theorem strconv_baseError_calls {v0 v1 v2 : Value} {Kp : PK} {K : Value → WP} {w : World} (h : strconv_baseError v0 v1 v2 Kp K w) : Calls Tryd.prog 150 #[v0, v1, v2] w (after Kp K) :=
  calls_of_shape (calls_of_cev wide Tryd.func150 (an := strconv_baseError_an) (args := [v0, v1, v2]) (cast (congrFun (strconv_baseError_eq v0 v1 v2 Kp K) w).symm h))
theorem strconv_baseError_cn {v0 v1 v2 : Value} {W : World} {α : Type} {A : List HP} {r : α → Value} {B : α → List HP} (h : ∀ F, Ent W (A ++ F) (strconv_baseError v0 v1 v2 noP fun v w => ∃ x, v = r x ∧ sat W (B x ++ F) w)) : Cn Tryd.prog 150 [v0, v1, v2] W A r B :=
  Cn.of (shape := strconv_baseError v0 v1 v2) Tryd.call150 (fun h => strconv_baseError_calls h) h
theorem strconv_baseError_cnP {v0 v1 v2 : Value} {W : World} {α β : Type} {A : List HP} {r : α → Value} {B : α → List HP} {pc : β → List PanicEntry} {Bp : β → List HP} (h : ∀ F, Ent W (A ++ F) (strconv_baseError v0 v1 v2 (fun ch w => ∃ y, ch = pc y ∧ sat W (Bp y ++ F) w) fun v w => ∃ x, v = r x ∧ sat W (B x ++ F) w)) : CnP Tryd.prog 150 [v0, v1, v2] W A r B pc Bp :=
  CnP.of (shape := strconv_baseError v0 v1 v2) Tryd.call150 (fun h => strconv_baseError_calls h) h

/-- strconv_bitSizeError -/
def strconv_bitSizeError (v0 v1 v2 : Value) (Kp : PK) (K : Value → WP) : WP :=
  opN Tryd.prog (sCall (fn 155) [v1]) Kp fun x9 =>
  opN Tryd.prog (sCall (fn 63) [v2]) Kp fun x11 =>
  opN Tryd.prog (sBin .add 9 (.string ⟨#[105, 110, 118, 97, 108, 105, 100, 32, 98, 105, 116, 32, 115, 105, 122, 101, 32]⟩) x11) Kp fun x12 =>
  opN Tryd.prog (sCall (fn 156) [x12]) Kp fun x13 =>
  opN Tryd.prog (sBuild 240 [(0, v0), (1, x9), (2, x13)]) Kp fun x14 =>
  opN Tryd.prog (sBox 240 x14) Kp fun x15 =>
  K x15
def strconv_bitSizeError_an : Ann := { cuts := [], blks := [], loops := [], drs := [] }
theorem strconv_bitSizeError_eq (v0 v1 v2 : Value) (Kp : PK) (K : Value → WP) : cevF Tryd.prog strconv_bitSizeError_an Tryd.f151 [v0, v1, v2] Kp K = strconv_bitSizeError v0 v1 v2 Kp K := by kernel_rfl
theorem strconv_bitSizeError_calls {v0 v1 v2 : Value} {Kp : PK} {K : Value → WP} {w : World} (h : strconv_bitSizeError v0 v1 v2 Kp K w) : Calls Tryd.prog 151 #[v0, v1, v2] w (after Kp K) :=
  calls_of_shape (calls_of_cev wide Tryd.func151 (an := strconv_bitSizeError_an) (args := [v0, v1, v2]) (cast (congrFun (strconv_bitSizeError_eq v0 v1 v2 Kp K) w).symm h))
theorem strconv_bitSizeError_cn {v0 v1 v2 : Value} {W : World} {α : Type} {A : List HP} {r : α → Value} {B : α → List HP} (h : ∀ F, Ent W (A ++ F) (strconv_bitSizeError v0 v1 v2 noP fun v w => ∃ x, v = r x ∧ sat W (B x ++ F) w)) : Cn Tryd.prog 151 [v0, v1, v2] W A r B :=
  Cn.of (shape := strconv_bitSizeError v0 v1 v2) Tryd.call151 (fun h => strconv_bitSizeError_calls h) h
theorem strconv_bitSizeError_cnP {v0 v1 v2 : Value} {W : World} {α β : Type} {A : List HP} {r : α → Value} {B : α → List HP} {pc : β → List PanicEntry} {Bp : β → List HP} (h : ∀ F, Ent W (A ++ F) (strconv_bitSizeError v0 v1 v2 (fun ch w => ∃ y, ch = pc y ∧ sat W (Bp y ++ F) w) fun v w => ∃ x, v = r x ∧ sat W (B x ++ F) w)) : CnP Tryd.prog 151 [v0, v1, v2] W A r B pc Bp :=
  CnP.of (shape := strconv_bitSizeError v0 v1 v2) Tryd.call151 (fun h => strconv_bitSizeError_calls h) h

end Go.Proofs.YtcigoifhcfbcdaaDoor.S
