/- The shapes of functions of the loaded program, printed by a program of mine; each is proved to be what the model asks of the function. No conditions. -/
import Derived.Test.YtcigoifhcfbcdaaDoorChecked
import Derived.Test.YtcigoifhcfbcdaaDoorShapes
import Derived.KernelRfl
set_option linter.unusedVariables false
namespace Go.Proofs.YtcigoifhcfbcdaaDoor.S
open Go Go.Proofs.YtcigoifhcfbcdaaDoor.Sh Go.Proofs.YtcigoifhcfbcdaaDoor.Sl


/-- strings_asciiSet_contains -/
def strings_asciiSet_contains (v0 v1 : Value) (Kp : PK) (K : Value → WP) : WP :=
  opN Tryd.prog (sNil v0) Kp fun x7 =>
  opN Tryd.prog (sIA 193 x7 v1) Kp fun x8 =>
  opN Tryd.prog (sLoad 4 x8) Kp fun x9 =>
  K x9
def strings_asciiSet_contains_an : Ann := { cuts := [], blks := [], loops := [], drs := [] }
theorem strings_asciiSet_contains_eq (v0 v1 : Value) (Kp : PK) (K : Value → WP) : cevF Tryd.prog strings_asciiSet_contains_an Tryd.f121 [v0, v1] Kp K = strings_asciiSet_contains v0 v1 Kp K := by kernel_rfl
theorem strings_asciiSet_contains_calls {v0 v1 : Value} {Kp : PK} {K : Value → WP} {w : World} (h : strings_asciiSet_contains v0 v1 Kp K w) : Calls Tryd.prog 121 #[v0, v1] w (after Kp K) :=
  calls_of_shape (calls_of_cev wide Tryd.func121 (an := strings_asciiSet_contains_an) (args := [v0, v1]) (cast (congrFun (strings_asciiSet_contains_eq v0 v1 Kp K) w).symm h))
theorem strings_asciiSet_contains_cn {v0 v1 : Value} {W : World} {α : Type} {A : List HP} {r : α → Value} {B : α → List HP} (h : ∀ F, Ent W (A ++ F) (strings_asciiSet_contains v0 v1 noP fun v w => ∃ x, v = r x ∧ sat W (B x ++ F) w)) : Cn Tryd.prog 121 [v0, v1] W A r B :=
  Cn.of (shape := strings_asciiSet_contains v0 v1) Tryd.call121 (fun h => strings_asciiSet_contains_calls h) h
theorem strings_asciiSet_contains_cnP {v0 v1 : Value} {W : World} {α β : Type} {A : List HP} {r : α → Value} {B : α → List HP} {pc : β → List PanicEntry} {Bp : β → List HP} (h : ∀ F, Ent W (A ++ F) (strings_asciiSet_contains v0 v1 (fun ch w => ∃ y, ch = pc y ∧ sat W (Bp y ++ F) w) fun v w => ∃ x, v = r x ∧ sat W (B x ++ F) w)) : CnP Tryd.prog 121 [v0, v1] W A r B pc Bp :=
  CnP.of (shape := strings_asciiSet_contains v0 v1) Tryd.call121 (fun h => strings_asciiSet_contains_calls h) h

/-- istrconv_ParseUint -/
def istrconv_ParseUint (v0 v1 v2 : Value) (Kp : PK) (K : Value → WP) : WP :=
  opN Tryd.prog (sEq .eql 9 (.tmp 18) (.const (.string ⟨#[]⟩)) v0 (.string ⟨#[]⟩)) Kp fun x19 =>
  condS x19
  (opN Tryd.prog (sMkI 228 (.int .i64 2)) Kp fun x20 =>
   K (.tuple #[(.int .u64 0), x20]))
  (opN Tryd.prog (sEq .eql 3 (.tmp 21) (.const (.int .i64 0)) v1 (.int .i64 0)) Kp fun x22 =>
   cut2 (fun J1 =>
    opN Tryd.prog (sBin .leq 3 (.int .i64 2) v1) Kp fun x27 =>
    gdK x27 true (fun k => k v1) fun x29 =>
    gdK x27 true (opN Tryd.prog (sBin .leq 3 x29 (.int .i64 36)) Kp) fun x30 =>
    opN Tryd.prog (sPick x27 x30 (.bool false)) Kp fun x31 =>
    condS x31
    (J1 v0 v1)
    (opN Tryd.prog (sEq .eql 3 (.tmp 33) (.const (.int .i64 0)) v1 (.int .i64 0)) Kp fun x34 =>
     condS x34
     (opN Tryd.prog (sIx 9 v0 (.int .i64 0)) Kp fun x36 =>
      opN Tryd.prog (sEq .eql 5 (.tmp 36) (.const (.int .u8 48)) x36 (.int .u8 48)) Kp fun x37 =>
      condS x37
      (opN Tryd.prog (sLen #[9] 3 [v0]) Kp fun x42 =>
       opN Tryd.prog (sBin .geq 3 x42 (.int .i64 3)) Kp fun x43 =>
       gdK x43 true (fun k => k v0) fun x45 =>
       gdK x43 true (opN Tryd.prog (sIx 9 x45 (.int .i64 1)) Kp) fun x46 =>
       gdK x43 true (opN Tryd.prog (sCall (fn 146) [x46]) Kp) fun x47 =>
       gdK x43 true (opN Tryd.prog (sEq .eql 5 (.tmp 47) (.const (.int .u8 98)) x47 (.int .u8 98)) Kp) fun x48 =>
       opN Tryd.prog (sPick x43 x48 (.bool false)) Kp fun x49 =>
       condS x49
       (opN Tryd.prog (sSl 9 v0 (some (.int .i64 2)) none none) Kp fun x51 =>
        J1 x51 (.int .i64 2))
       (opN Tryd.prog (sLen #[9] 3 [v0]) Kp fun x54 =>
        opN Tryd.prog (sBin .geq 3 x54 (.int .i64 3)) Kp fun x55 =>
        gdK x55 true (fun k => k v0) fun x57 =>
        gdK x55 true (opN Tryd.prog (sIx 9 x57 (.int .i64 1)) Kp) fun x58 =>
        gdK x55 true (opN Tryd.prog (sCall (fn 146) [x58]) Kp) fun x59 =>
        gdK x55 true (opN Tryd.prog (sEq .eql 5 (.tmp 59) (.const (.int .u8 111)) x59 (.int .u8 111)) Kp) fun x60 =>
        opN Tryd.prog (sPick x55 x60 (.bool false)) Kp fun x61 =>
        condS x61
        (opN Tryd.prog (sSl 9 v0 (some (.int .i64 2)) none none) Kp fun x63 =>
         J1 x63 (.int .i64 8))
        (opN Tryd.prog (sLen #[9] 3 [v0]) Kp fun x66 =>
         opN Tryd.prog (sBin .geq 3 x66 (.int .i64 3)) Kp fun x67 =>
         gdK x67 true (fun k => k v0) fun x69 =>
         gdK x67 true (opN Tryd.prog (sIx 9 x69 (.int .i64 1)) Kp) fun x70 =>
         gdK x67 true (opN Tryd.prog (sCall (fn 146) [x70]) Kp) fun x71 =>
         gdK x67 true (opN Tryd.prog (sEq .eql 5 (.tmp 71) (.const (.int .u8 120)) x71 (.int .u8 120)) Kp) fun x72 =>
         opN Tryd.prog (sPick x67 x72 (.bool false)) Kp fun x73 =>
         condS x73
         (opN Tryd.prog (sSl 9 v0 (some (.int .i64 2)) none none) Kp fun x75 =>
          J1 x75 (.int .i64 16))
         (opN Tryd.prog (sSl 9 v0 (some (.int .i64 1)) none none) Kp fun x39 =>
          J1 x39 (.int .i64 8)))))
      (J1 v0 (.int .i64 10)))
     (opN Tryd.prog (sMkI 228 (.int .i64 3)) Kp fun x24 =>
      K (.tuple #[(.int .u64 0), x24])))) fun _ z0 z1 =>
   cut1 (fun J2 =>
    opN Tryd.prog (sEq .eql 3 (.tmp 76) (.const (.int .i64 0)) v2 (.int .i64 0)) Kp fun x77 =>
    condS x77
    (J2 (.int .i64 64))
    (opN Tryd.prog (sBin .lss 3 v2 (.int .i64 0)) Kp fun x79 =>
     gdK x79 false (fun k => k v2) fun x81 =>
     gdK x79 false (opN Tryd.prog (sBin .gtr 3 x81 (.int .i64 64)) Kp) fun x82 =>
     opN Tryd.prog (sPick x79 (.bool true) x82) Kp fun x83 =>
     condS x83
     (opN Tryd.prog (sMkI 228 (.int .i64 4)) Kp fun x84 =>
      K (.tuple #[(.int .u64 0), x84]))
     (J2 v2))) fun _ z2 =>
   cut1 (fun J3 =>
    opN Tryd.prog (sEq .eql 3 (.tmp 85) (.const (.int .i64 10)) z1 (.int .i64 10)) Kp fun x91 =>
    condS x91
    (J3 (.int .u64 1844674407370955162))
    (opN Tryd.prog (sEq .eql 3 (.tmp 85) (.const (.int .i64 16)) z1 (.int .i64 16)) Kp fun x93 =>
     condS x93
     (J3 (.int .u64 1152921504606846976))
     (opN Tryd.prog (sConv 3 202 z1) Kp fun x87 =>
      opN Tryd.prog (sBin .quo 202 (.int .u64 18446744073709551615) x87) Kp fun x88 =>
      opN Tryd.prog (sBin .add 202 x88 (.int .u64 1)) Kp fun x89 =>
      J3 x89))) fun _ z10 =>
   opN Tryd.prog (sConv 3 217 z2) Kp fun x95 =>
   opN Tryd.prog (sBin .shl 202 (.int .u64 1) x95) Kp fun x96 =>
   opN Tryd.prog (sBin .sub 202 x96 (.int .u64 1)) Kp fun x97 =>
   opN Tryd.prog (sConv 9 150 z0) Kp fun x99 =>
   opN Tryd.prog (sLen #[150] 3 [x99]) Kp fun x100 =>
   loop3 (fun I1 m1 _ y12 y13 y101 =>
    opN Tryd.prog (sBin .lss 3 y101 x100) Kp fun x102 =>
    condS x102
    (opN Tryd.prog (sIA 150 x99 y101) Kp fun x103 =>
     opN Tryd.prog (sLoad 5 x103) Kp fun x104 =>
     cut2 (fun J4 =>
      opN Tryd.prog (sEq .eql 5 (.tmp 107) (.const (.int .u8 95)) x104 (.int .u8 95)) Kp fun x108 =>
      gdK x108 true (fun k => k x22) fun x110 =>
      opN Tryd.prog (sPick x108 x110 (.bool false)) Kp fun x111 =>
      condS x111
      (opN Tryd.prog (sBin .add 3 y101 (.int .i64 1)) Kp fun x163 =>
       next3 I1 m1 (.bool true) y13 x163)
      (opN Tryd.prog (sBin .leq 5 (.int .u8 48) x104) Kp fun x114 =>
       gdK x114 true (fun k => k x104) fun x116 =>
       gdK x114 true (opN Tryd.prog (sBin .leq 5 x116 (.int .u8 57)) Kp) fun x117 =>
       opN Tryd.prog (sPick x114 x117 (.bool false)) Kp fun x118 =>
       condS x118
       (opN Tryd.prog (sBin .sub 5 x104 (.int .u8 48)) Kp fun x120 =>
        J4 y12 x120)
       (opN Tryd.prog (sCall (fn 146) [x104]) Kp fun x123 =>
        opN Tryd.prog (sBin .leq 5 (.int .u8 97) x123) Kp fun x124 =>
        gdK x124 true (fun k => k x104) fun x126 =>
        gdK x124 true (opN Tryd.prog (sCall (fn 146) [x126]) Kp) fun x127 =>
        gdK x124 true (opN Tryd.prog (sBin .leq 5 x127 (.int .u8 122)) Kp) fun x128 =>
        opN Tryd.prog (sPick x124 x128 (.bool false)) Kp fun x129 =>
        condS x129
        (opN Tryd.prog (sCall (fn 146) [x104]) Kp fun x131 =>
         opN Tryd.prog (sBin .sub 5 x131 (.int .u8 97)) Kp fun x132 =>
         opN Tryd.prog (sBin .add 5 x132 (.int .u8 10)) Kp fun x133 =>
         J4 y12 x133)
        (opN Tryd.prog (sMkI 228 (.int .i64 2)) Kp fun x105 =>
         K (.tuple #[(.int .u64 0), x105]))))) fun _ z12 z16 =>
     opN Tryd.prog (sConv 3 5 z1) Kp fun x136 =>
     opN Tryd.prog (sBin .geq 5 z16 x136) Kp fun x137 =>
     condS x137
     (opN Tryd.prog (sMkI 228 (.int .i64 2)) Kp fun x138 =>
      K (.tuple #[(.int .u64 0), x138]))
     (opN Tryd.prog (sBin .geq 202 y13 z10) Kp fun x141 =>
      condS x141
      (opN Tryd.prog (sMkI 228 (.int .i64 1)) Kp fun x143 =>
       K (.tuple #[x97, x143]))
      (opN Tryd.prog (sConv 3 202 z1) Kp fun x146 =>
       opN Tryd.prog (sBin .mul 202 y13 x146) Kp fun x147 =>
       opN Tryd.prog (sConv 5 202 z16) Kp fun x150 =>
       opN Tryd.prog (sBin .add 202 x147 x150) Kp fun x151 =>
       opN Tryd.prog (sBin .lss 202 x151 x147) Kp fun x154 =>
       gdK x154 false (fun k => k x151) fun x156 =>
       gdK x154 false (fun k => k x97) fun x157 =>
       gdK x154 false (opN Tryd.prog (sBin .gtr 202 x156 x157) Kp) fun x158 =>
       opN Tryd.prog (sPick x154 (.bool true) x158) Kp fun x159 =>
       condS x159
       (opN Tryd.prog (sMkI 228 (.int .i64 1)) Kp fun x161 =>
        K (.tuple #[x97, x161]))
       (opN Tryd.prog (sBin .add 3 y101 (.int .i64 1)) Kp fun x163 =>
        next3 I1 m1 z12 x151 x163))))
    (gdK y12 true (fun k => k v0) fun x166 =>
     gdK y12 true (opN Tryd.prog (sCall (fn 147) [x166]) Kp) fun x167 =>
     gdK y12 true (opN Tryd.prog (sUn .not x167) Kp) fun x168 =>
     opN Tryd.prog (sPick y12 x168 (.bool false)) Kp fun x169 =>
     condS x169
     (opN Tryd.prog (sMkI 228 (.int .i64 2)) Kp fun x170 =>
      K (.tuple #[(.int .u64 0), x170]))
     (K (.tuple #[y13, .nilIface])))) (.bool false) (.int .u64 0) (.int .i64 0))
def istrconv_ParseUint_an : Ann := { cuts := [(21, [0, 1]), (25, [2]), (32, [10]), (46, [12, 16])], blks := [], loops := [(36, [12, 13, 101])], drs := [] }
theorem istrconv_ParseUint_eq (v0 v1 v2 : Value) (Kp : PK) (K : Value → WP) : cevF Tryd.prog istrconv_ParseUint_an Tryd.f134 [v0, v1, v2] Kp K = istrconv_ParseUint v0 v1 v2 Kp K := by kernel_rfl
theorem istrconv_ParseUint_calls {v0 v1 v2 : Value} {Kp : PK} {K : Value → WP} {w : World} (h : istrconv_ParseUint v0 v1 v2 Kp K w) : Calls Tryd.prog 134 #[v0, v1, v2] w (after Kp K) :=
  calls_of_shape (calls_of_cev wide Tryd.func134 (an := istrconv_ParseUint_an) (args := [v0, v1, v2]) (cast (congrFun (istrconv_ParseUint_eq v0 v1 v2 Kp K) w).symm h))
theorem istrconv_ParseUint_cn {v0 v1 v2 : Value} {W : World} {α : Type} {A : List HP} {r : α → Value} {B : α → List HP} (h : ∀ F, Ent W (A ++ F) (istrconv_ParseUint v0 v1 v2 noP fun v w => ∃ x, v = r x ∧ sat W (B x ++ F) w)) : Cn Tryd.prog 134 [v0, v1, v2] W A r B :=
  Cn.of (shape := istrconv_ParseUint v0 v1 v2) Tryd.call134 (fun h => istrconv_ParseUint_calls h) h
theorem istrconv_ParseUint_cnP {v0 v1 v2 : Value} {W : World} {α β : Type} {A : List HP} {r : α → Value} {B : α → List HP} {pc : β → List PanicEntry} {Bp : β → List HP} (h : ∀ F, Ent W (A ++ F) (istrconv_ParseUint v0 v1 v2 (fun ch w => ∃ y, ch = pc y ∧ sat W (Bp y ++ F) w) fun v w => ∃ x, v = r x ∧ sat W (B x ++ F) w)) : CnP Tryd.prog 134 [v0, v1, v2] W A r B pc Bp :=
  CnP.of (shape := istrconv_ParseUint v0 v1 v2) Tryd.call134 (fun h => istrconv_ParseUint_calls h) h

/-- istrconv_lower -/
def istrconv_lower (v0 : Value) (Kp : PK) (K : Value → WP) : WP :=
  opN Tryd.prog (sBin .or 5 v0 (.int .u8 32)) Kp fun x4 =>
  K x4
def istrconv_lower_an : Ann := { cuts := [], blks := [], loops := [], drs := [] }
theorem istrconv_lower_eq (v0 : Value) (Kp : PK) (K : Value → WP) : cevF Tryd.prog istrconv_lower_an Tryd.f146 [v0] Kp K = istrconv_lower v0 Kp K := by kernel_rfl
theorem istrconv_lower_calls {v0 : Value} {Kp : PK} {K : Value → WP} {w : World} (h : istrconv_lower v0 Kp K w) : Calls Tryd.prog 146 #[v0] w (after Kp K) :=
  calls_of_shape (calls_of_cev wide Tryd.func146 (an := istrconv_lower_an) (args := [v0]) (cast (congrFun (istrconv_lower_eq v0 Kp K) w).symm h))
theorem istrconv_lower_cn {v0 : Value} {W : World} {α : Type} {A : List HP} {r : α → Value} {B : α → List HP} (h : ∀ F, Ent W (A ++ F) (istrconv_lower v0 noP fun v w => ∃ x, v = r x ∧ sat W (B x ++ F) w)) : Cn Tryd.prog 146 [v0] W A r B :=
  Cn.of (shape := istrconv_lower v0) Tryd.call146 (fun h => istrconv_lower_calls h) h
theorem istrconv_lower_cnP {v0 : Value} {W : World} {α β : Type} {A : List HP} {r : α → Value} {B : α → List HP} {pc : β → List PanicEntry} {Bp : β → List HP} (h : ∀ F, Ent W (A ++ F) (istrconv_lower v0 (fun ch w => ∃ y, ch = pc y ∧ sat W (Bp y ++ F) w) fun v w => ∃ x, v = r x ∧ sat W (B x ++ F) w)) : CnP Tryd.prog 146 [v0] W A r B pc Bp :=
  CnP.of (shape := istrconv_lower v0) Tryd.call146 (fun h => istrconv_lower_calls h) h

end Go.Proofs.YtcigoifhcfbcdaaDoor.S
