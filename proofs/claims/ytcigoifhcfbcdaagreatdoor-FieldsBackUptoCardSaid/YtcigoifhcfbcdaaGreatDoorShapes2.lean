/- The shapes of functions of the loaded program, printed by a program of mine; each is proved to be what the model asks of the function. No conditions. -/
import Derived.Test.YtcigoifhcfbcdaaGreatDoorChecked
import Derived.Test.YtcigoifhcfbcdaaGreatDoorShapes1
import Derived.KernelRfl
set_option linter.unusedVariables false
namespace Go.Proofs.YtcigoifhcfbcdaaGreatDoor.S
open Go Go.Proofs.YtcigoifhcfbcdaaGreatDoor.Sh Go.Proofs.YtcigoifhcfbcdaaGreatDoor.Sl


/-- strings_trieNode_add -/
def strings_trieNode_add (v0 v1 v2 v3 v4 : Value) (Kp : PK) (K : Value → WP) : WP :=
  opN Tryz.prog (sEq .eql 9 (.tmp 15) (.const (.string ⟨#[]⟩)) v1 (.string ⟨#[]⟩)) Kp fun x16 =>
  condS x16
  (cut0 (fun J1 =>
    opN Tryz.prog (sNil v0) Kp fun x18 =>
    opN Tryz.prog (sFA 166 x18 1) Kp fun x19 =>
    opN Tryz.prog (sLoad 3 x19) Kp fun x20 =>
    opN Tryz.prog (sEq .eql 3 (.tmp 20) (.const (.int .i64 0)) x20 (.int .i64 0)) Kp fun x21 =>
    condS x21
    (opN Tryz.prog (sNil v0) Kp fun x24 =>
     opN Tryz.prog (sFA 166 x24 0) Kp fun x25 =>
     opN Tryz.prog (sStore 9 x25 v2) Kp fun _ =>
     opN Tryz.prog (sNil v0) Kp fun x28 =>
     opN Tryz.prog (sFA 166 x28 1) Kp fun x29 =>
     opN Tryz.prog (sStore 3 x29 v3) Kp fun _ =>
     J1)
    (J1)) fun _ =>
   K (.tuple #[]))
  (opN Tryz.prog (sNil v0) Kp fun x31 =>
   opN Tryz.prog (sFA 166 x31 2) Kp fun x32 =>
   opN Tryz.prog (sLoad 9 x32) Kp fun x33 =>
   opN Tryz.prog (sEq .neq 9 (.tmp 33) (.const (.string ⟨#[]⟩)) x33 (.string ⟨#[]⟩)) Kp fun x34 =>
   condS x34
   (cut1 (fun J2 =>
     loop1 (fun I1 m1 _ y10 =>
      opN Tryz.prog (sNil v0) Kp fun x37 =>
      opN Tryz.prog (sFA 166 x37 2) Kp fun x38 =>
      opN Tryz.prog (sLoad 9 x38) Kp fun x39 =>
      opN Tryz.prog (sLen #[9] 3 [x39]) Kp fun x40 =>
      opN Tryz.prog (sBin .lss 3 y10 x40) Kp fun x41 =>
      gdK x41 true (fun k => k y10) fun x43 =>
      gdK x41 true (fun k => k v1) fun x44 =>
      gdK x41 true (opN Tryz.prog (sLen #[9] 3 [x44]) Kp) fun x45 =>
      gdK x41 true (opN Tryz.prog (sBin .lss 3 x43 x45) Kp) fun x46 =>
      opN Tryz.prog (sPick x41 x46 (.bool false)) Kp fun x47 =>
      condS x47
      (drS (stS Tryz.prog (sNil v0) fun x51 =>
        stS Tryz.prog (sFA 166 x51 2) fun x52 =>
        stS Tryz.prog (sLoad 9 x52) fun x53 =>
        stS Tryz.prog (sIx 9 x53 y10) fun x55 =>
        stS Tryz.prog (sIx 9 v1 y10) fun x58 =>
        stS Tryz.prog (sEq .neq 5 (.tmp 55) (.tmp 58) x55 x58) fun x59 =>
        condS x59
        (J2 y10)
        (opN Tryz.prog (sBin .add 3 y10 (.int .i64 1)) Kp fun x49 =>
         next1 I1 m1 x49)))
      (J2 y10)) (.int .i64 0)) fun _ z10 =>
    opN Tryz.prog (sNil v0) Kp fun x62 =>
    opN Tryz.prog (sFA 166 x62 2) Kp fun x63 =>
    opN Tryz.prog (sLoad 9 x63) Kp fun x64 =>
    opN Tryz.prog (sLen #[9] 3 [x64]) Kp fun x65 =>
    opN Tryz.prog (sEq .eql 3 (.tmp 60) (.tmp 65) z10 x65) Kp fun x66 =>
    condS x66
    (drS (stS Tryz.prog (sNil v0) fun x68 =>
      stS Tryz.prog (sFA 166 x68 3) fun x69 =>
      stS Tryz.prog (sLoad 163 x69) fun x70 =>
      stS Tryz.prog (sSl 9 v1 (some z10) none none) fun x73 =>
      opN Tryz.prog (sCall (fn 93) [x70, x73, v2, v3, v4]) Kp fun x77 =>
      K (.tuple #[])))
    (opN Tryz.prog (sEq .eql 3 (.tmp 78) (.const (.int .i64 0)) z10 (.int .i64 0)) Kp fun x79 =>
     condS x79
     (cut1 (fun J3 =>
       opN Tryz.prog (sNil v0) Kp fun x81 =>
       opN Tryz.prog (sFA 166 x81 2) Kp fun x82 =>
       opN Tryz.prog (sLoad 9 x82) Kp fun x83 =>
       opN Tryz.prog (sLen #[9] 3 [x83]) Kp fun x84 =>
       opN Tryz.prog (sEq .eql 3 (.tmp 84) (.const (.int .i64 1)) x84 (.int .i64 1)) Kp fun x85 =>
       condS x85
       (opN Tryz.prog (sNil v0) Kp fun x87 =>
        opN Tryz.prog (sFA 166 x87 3) Kp fun x88 =>
        opN Tryz.prog (sLoad 163 x88) Kp fun x89 =>
        J3 x89)
       (drS (stS Tryz.prog (sNil v0) fun x91 =>
         stS Tryz.prog (sFA 166 x91 2) fun x92 =>
         stS Tryz.prog (sLoad 9 x92) fun x93 =>
         stS Tryz.prog (sSl 9 x93 (some (.int .i64 1)) none none) fun x94 =>
         stS Tryz.prog (sNil v0) fun x96 =>
         stS Tryz.prog (sFA 166 x96 3) fun x97 =>
         stS Tryz.prog (sLoad 163 x97) fun x98 =>
         stS Tryz.prog (sBuild 166 [(2, x94), (3, x98)]) fun x99 =>
         opN Tryz.prog (sBox 166 x99) Kp fun x100 =>
         J3 x100))) fun _ z11 =>
      opN Tryz.prog (sAlloc 166) Kp fun x101 =>
      opN Tryz.prog (sNil v4) Kp fun x104 =>
      opN Tryz.prog (sFA 168 x104 1) Kp fun x105 =>
      opN Tryz.prog (sLoad 3 x105) Kp fun x106 =>
      opN Tryz.prog (sMkSl 164 x106 x106) Kp fun x107 =>
      opN Tryz.prog (sNil v0) Kp fun x108 =>
      opN Tryz.prog (sFA 166 x108 4) Kp fun x109 =>
      opN Tryz.prog (sStore 164 x109 x107) Kp fun _ =>
      drS (stS Tryz.prog (sNil v0) fun x111 =>
       stS Tryz.prog (sFA 166 x111 4) fun x112 =>
       stS Tryz.prog (sLoad 164 x112) fun x113 =>
       stS Tryz.prog (sNil v0) fun x116 =>
       stS Tryz.prog (sFA 166 x116 2) fun x117 =>
       stS Tryz.prog (sLoad 9 x117) fun x118 =>
       stS Tryz.prog (sIx 9 x118 (.int .i64 0)) fun x119 =>
       stS Tryz.prog (sNil v4) fun x120 =>
       stS Tryz.prog (sFA 168 x120 2) fun x121 =>
       stS Tryz.prog (sIA 139 x121 x119) fun x122 =>
       stS Tryz.prog (sLoad 5 x122) fun x123 =>
       stS Tryz.prog (sIA 164 x113 x123) fun x125 =>
       opN Tryz.prog (sStore 163 x125 z11) Kp fun _ =>
       drS (stS Tryz.prog (sNil v0) fun x127 =>
        stS Tryz.prog (sFA 166 x127 4) fun x128 =>
        stS Tryz.prog (sLoad 164 x128) fun x129 =>
        stS Tryz.prog (sIx 9 v1 (.int .i64 0)) fun x132 =>
        stS Tryz.prog (sNil v4) fun x133 =>
        stS Tryz.prog (sFA 168 x133 2) fun x134 =>
        stS Tryz.prog (sIA 139 x134 x132) fun x135 =>
        stS Tryz.prog (sLoad 5 x135) fun x136 =>
        stS Tryz.prog (sIA 164 x129 x136) fun x138 =>
        opN Tryz.prog (sStore 163 x138 x101) Kp fun _ =>
        opN Tryz.prog (sNil v0) Kp fun x140 =>
        opN Tryz.prog (sFA 166 x140 2) Kp fun x141 =>
        opN Tryz.prog (sStore 9 x141 (.string ⟨#[]⟩)) Kp fun _ =>
        opN Tryz.prog (sNil v0) Kp fun x143 =>
        opN Tryz.prog (sFA 166 x143 3) Kp fun x144 =>
        opN Tryz.prog (sStore 163 x144 (.pointer none)) Kp fun _ =>
        opN Tryz.prog (sSl 9 v1 (some (.int .i64 1)) none none) Kp fun x147 =>
        opN Tryz.prog (sCall (fn 93) [x101, x147, v2, v3, v4]) Kp fun x151 =>
        K (.tuple #[]))))
     (drS (stS Tryz.prog (sNil v0) fun x153 =>
       stS Tryz.prog (sFA 166 x153 2) fun x154 =>
       stS Tryz.prog (sLoad 9 x154) fun x155 =>
       stS Tryz.prog (sSl 9 x155 (some z10) none none) fun x157 =>
       stS Tryz.prog (sNil v0) fun x159 =>
       stS Tryz.prog (sFA 166 x159 3) fun x160 =>
       stS Tryz.prog (sLoad 163 x160) fun x161 =>
       stS Tryz.prog (sBuild 166 [(2, x157), (3, x161)]) fun x162 =>
       opN Tryz.prog (sBox 166 x162) Kp fun x163 =>
       opN Tryz.prog (sNil v0) Kp fun x166 =>
       opN Tryz.prog (sFA 166 x166 2) Kp fun x167 =>
       opN Tryz.prog (sLoad 9 x167) Kp fun x168 =>
       opN Tryz.prog (sSl 9 x168 none (some z10) none) Kp fun x170 =>
       opN Tryz.prog (sNil v0) Kp fun x171 =>
       opN Tryz.prog (sFA 166 x171 2) Kp fun x172 =>
       opN Tryz.prog (sStore 9 x172 x170) Kp fun _ =>
       opN Tryz.prog (sNil v0) Kp fun x175 =>
       opN Tryz.prog (sFA 166 x175 3) Kp fun x176 =>
       opN Tryz.prog (sStore 163 x176 x163) Kp fun _ =>
       opN Tryz.prog (sSl 9 v1 (some z10) none none) Kp fun x180 =>
       opN Tryz.prog (sCall (fn 93) [x163, x180, v2, v3, v4]) Kp fun x184 =>
       K (.tuple #[])))))
   (opN Tryz.prog (sNil v0) Kp fun x186 =>
    opN Tryz.prog (sFA 166 x186 4) Kp fun x187 =>
    opN Tryz.prog (sLoad 164 x187) Kp fun x188 =>
    opN Tryz.prog (sEq .neq 164 (.tmp 188) (.const (.slice none 0 0)) x188 (.slice none 0 0)) Kp fun x189 =>
    condS x189
    (drS (stS Tryz.prog (sIx 9 v1 (.int .i64 0)) fun x192 =>
      stS Tryz.prog (sNil v4) fun x193 =>
      stS Tryz.prog (sFA 168 x193 2) fun x194 =>
      stS Tryz.prog (sIA 139 x194 x192) fun x195 =>
      stS Tryz.prog (sLoad 5 x195) fun x196 =>
      cut0 (fun J4 =>
       opN Tryz.prog (sNil v0) Kp fun x198 =>
       opN Tryz.prog (sFA 166 x198 4) Kp fun x199 =>
       opN Tryz.prog (sLoad 164 x199) Kp fun x200 =>
       opN Tryz.prog (sIA 164 x200 x196) Kp fun x202 =>
       opN Tryz.prog (sLoad 163 x202) Kp fun x203 =>
       opN Tryz.prog (sEq .eql 163 (.tmp 203) (.const (.pointer none)) x203 (.pointer none)) Kp fun x204 =>
       condS x204
       (opN Tryz.prog (sNil v0) Kp fun x206 =>
        opN Tryz.prog (sFA 166 x206 4) Kp fun x207 =>
        opN Tryz.prog (sLoad 164 x207) Kp fun x208 =>
        opN Tryz.prog (sAlloc 166) Kp fun x210 =>
        opN Tryz.prog (sIA 164 x208 x196) Kp fun x211 =>
        opN Tryz.prog (sStore 163 x211 x210) Kp fun _ =>
        J4)
       (J4)) fun _ =>
      drS (stS Tryz.prog (sNil v0) fun x213 =>
       stS Tryz.prog (sFA 166 x213 4) fun x214 =>
       stS Tryz.prog (sLoad 164 x214) fun x215 =>
       stS Tryz.prog (sIA 164 x215 x196) fun x217 =>
       stS Tryz.prog (sLoad 163 x217) fun x218 =>
       stS Tryz.prog (sSl 9 v1 (some (.int .i64 1)) none none) fun x220 =>
       opN Tryz.prog (sCall (fn 93) [x218, x220, v2, v3, v4]) Kp fun x224 =>
       K (.tuple #[]))))
    (opN Tryz.prog (sNil v0) Kp fun x227 =>
     opN Tryz.prog (sFA 166 x227 2) Kp fun x228 =>
     opN Tryz.prog (sStore 9 x228 v1) Kp fun _ =>
     opN Tryz.prog (sAlloc 166) Kp fun x230 =>
     opN Tryz.prog (sNil v0) Kp fun x231 =>
     opN Tryz.prog (sFA 166 x231 3) Kp fun x232 =>
     opN Tryz.prog (sStore 163 x232 x230) Kp fun _ =>
     opN Tryz.prog (sNil v0) Kp fun x234 =>
     opN Tryz.prog (sFA 166 x234 3) Kp fun x235 =>
     opN Tryz.prog (sLoad 163 x235) Kp fun x236 =>
     opN Tryz.prog (sCall (fn 93) [x236, (.string ⟨#[]⟩), v2, v3, v4]) Kp fun x240 =>
     K (.tuple #[]))))
def strings_trieNode_add_an : Ann := { cuts := [(9, [10]), (16, [11]), (31, []), (1000000, [])], blks := [], loops := [(6, [10])], drs := [(8, [(0, 1), (1, 1), (2, 1), (3, 1), (4, 1), (5, 1), (6, 1), (7, 1), (8, 1), (9, 1)]), (10, [(0, 1), (1, 1), (2, 1), (3, 1), (4, 1), (5, 1), (6, 1), (7, 1), (8, 1), (9, 1), (10, 0)]), (15, [(0, 1), (1, 1), (2, 1), (3, 1), (4, 1), (5, 1), (6, 1), (7, 1), (8, 1), (9, 1), (10, 0), (11, 1)]), (18, [(0, 1), (1, 1), (2, 1), (3, 1), (4, 1), (5, 1), (6, 1), (7, 1), (8, 1), (9, 1), (10, 1), (11, 1), (12, 1), (13, 1), (14, 1), (15, 1), (16, 0)]), (19, [(0, 1), (1, 1), (2, 1), (3, 1), (4, 1), (5, 1), (6, 1), (7, 1), (8, 1), (9, 1), (10, 1), (11, 1), (12, 1), (13, 0)]), (23, [(0, 1), (1, 1), (2, 1), (3, 1), (4, 1), (5, 1), (6, 1), (7, 1), (8, 1), (9, 1), (10, 1), (11, 0), (12, 1)]), (28, [(0, 1), (1, 1), (2, 1), (3, 1), (4, 1), (5, 1), (6, 1), (7, 1)]), (31, [(0, 1), (1, 1), (2, 1), (3, 1), (4, 1), (5, 1), (6, 1), (7, 1), (8, 1), (9, 1), (10, 1), (11, 1), (12, 0)])] }
theorem strings_trieNode_add_eq (v0 v1 v2 v3 v4 : Value) (Kp : PK) (K : Value → WP) : cevF Tryz.prog strings_trieNode_add_an Tryz.f93 [v0, v1, v2, v3, v4] Kp K = strings_trieNode_add v0 v1 v2 v3 v4 Kp K := by kernel_rfl
theorem strings_trieNode_add_calls {v0 v1 v2 v3 v4 : Value} {Kp : PK} {K : Value → WP} {w : World} (h : strings_trieNode_add v0 v1 v2 v3 v4 Kp K w) : Calls Tryz.prog 93 #[v0, v1, v2, v3, v4] w (after Kp K) :=
  calls_of_shape (calls_of_cev wide Tryz.func93 (an := strings_trieNode_add_an) (args := [v0, v1, v2, v3, v4]) (cast (congrFun (strings_trieNode_add_eq v0 v1 v2 v3 v4 Kp K) w).symm h))
theorem strings_trieNode_add_cn {v0 v1 v2 v3 v4 : Value} {W : World} {α : Type} {A : List HP} {r : α → Value} {B : α → List HP} (h : ∀ F, Ent W (A ++ F) (strings_trieNode_add v0 v1 v2 v3 v4 noP fun v w => ∃ x, v = r x ∧ sat W (B x ++ F) w)) : Cn Tryz.prog 93 [v0, v1, v2, v3, v4] W A r B :=
  Cn.of (shape := strings_trieNode_add v0 v1 v2 v3 v4) Tryz.call93 (fun h => strings_trieNode_add_calls h) h
theorem strings_trieNode_add_cnP {v0 v1 v2 v3 v4 : Value} {W : World} {α β : Type} {A : List HP} {r : α → Value} {B : α → List HP} {pc : β → List PanicEntry} {Bp : β → List HP} (h : ∀ F, Ent W (A ++ F) (strings_trieNode_add v0 v1 v2 v3 v4 (fun ch w => ∃ y, ch = pc y ∧ sat W (Bp y ++ F) w) fun v w => ∃ x, v = r x ∧ sat W (B x ++ F) w)) : CnP Tryz.prog 93 [v0, v1, v2, v3, v4] W A r B pc Bp :=
  CnP.of (shape := strings_trieNode_add v0 v1 v2 v3 v4) Tryz.call93 (fun h => strings_trieNode_add_calls h) h

/-- istrconv_lower -/
def istrconv_lower (v0 : Value) (Kp : PK) (K : Value → WP) : WP :=
  opN Tryz.prog (sBin .or 5 v0 (.int .u8 32)) Kp fun x4 =>
  K x4
def istrconv_lower_an : Ann := { cuts := [], blks := [], loops := [], drs := [] }
theorem istrconv_lower_eq (v0 : Value) (Kp : PK) (K : Value → WP) : cevF Tryz.prog istrconv_lower_an Tryz.f94 [v0] Kp K = istrconv_lower v0 Kp K := by kernel_rfl
theorem istrconv_lower_calls {v0 : Value} {Kp : PK} {K : Value → WP} {w : World} (h : istrconv_lower v0 Kp K w) : Calls Tryz.prog 94 #[v0] w (after Kp K) :=
  calls_of_shape (calls_of_cev wide Tryz.func94 (an := istrconv_lower_an) (args := [v0]) (cast (congrFun (istrconv_lower_eq v0 Kp K) w).symm h))
theorem istrconv_lower_cn {v0 : Value} {W : World} {α : Type} {A : List HP} {r : α → Value} {B : α → List HP} (h : ∀ F, Ent W (A ++ F) (istrconv_lower v0 noP fun v w => ∃ x, v = r x ∧ sat W (B x ++ F) w)) : Cn Tryz.prog 94 [v0] W A r B :=
  Cn.of (shape := istrconv_lower v0) Tryz.call94 (fun h => istrconv_lower_calls h) h
theorem istrconv_lower_cnP {v0 : Value} {W : World} {α β : Type} {A : List HP} {r : α → Value} {B : α → List HP} {pc : β → List PanicEntry} {Bp : β → List HP} (h : ∀ F, Ent W (A ++ F) (istrconv_lower v0 (fun ch w => ∃ y, ch = pc y ∧ sat W (Bp y ++ F) w) fun v w => ∃ x, v = r x ∧ sat W (B x ++ F) w)) : CnP Tryz.prog 94 [v0] W A r B pc Bp :=
  CnP.of (shape := istrconv_lower v0) Tryz.call94 (fun h => istrconv_lower_calls h) h

/-- strconv_syntaxError -/
def strconv_syntaxError (v0 v1 : Value) (Kp : PK) (K : Value → WP) : WP :=
  drS (stD Tryz.prog (sLoad 119 (.pointer (some ⟨1, 0, none⟩))) fun D3 x8 =>
   opN Tryz.prog (sCall (fn 115) [v1]) Kp fun x7 =>
   (fun w => D3 w ∧ (stS Tryz.prog (sBuild 191 [(0, v0), (1, x7), (2, x8)]) fun x9 =>
     opN Tryz.prog (sBox 191 x9) Kp fun x10 =>
     K x10) w))
def strconv_syntaxError_an : Ann := { cuts := [], blks := [], loops := [], drs := [(1, [(0, 2), (1, 1), (3, 3), (2, 0), (4, 1), (5, 0), (6, 1)])] }
theorem strconv_syntaxError_eq (v0 v1 : Value) (Kp : PK) (K : Value → WP) : cevF Tryz.prog strconv_syntaxError_an Tryz.f96 [v0, v1] Kp K = strconv_syntaxError v0 v1 Kp K := by kernel_rfl
theorem strconv_syntaxError_calls {v0 v1 : Value} {Kp : PK} {K : Value → WP} {w : World} (h : strconv_syntaxError v0 v1 Kp K w) : Calls Tryz.prog 96 #[v0, v1] w (after Kp K) :=
  calls_of_shape (calls_of_cev wide Tryz.func96 (an := strconv_syntaxError_an) (args := [v0, v1]) (cast (congrFun (strconv_syntaxError_eq v0 v1 Kp K) w).symm h))
theorem strconv_syntaxError_cn {v0 v1 : Value} {W : World} {α : Type} {A : List HP} {r : α → Value} {B : α → List HP} (h : ∀ F, Ent W (A ++ F) (strconv_syntaxError v0 v1 noP fun v w => ∃ x, v = r x ∧ sat W (B x ++ F) w)) : Cn Tryz.prog 96 [v0, v1] W A r B :=
  Cn.of (shape := strconv_syntaxError v0 v1) Tryz.call96 (fun h => strconv_syntaxError_calls h) h
theorem strconv_syntaxError_cnP {v0 v1 : Value} {W : World} {α β : Type} {A : List HP} {r : α → Value} {B : α → List HP} {pc : β → List PanicEntry} {Bp : β → List HP} (h : ∀ F, Ent W (A ++ F) (strconv_syntaxError v0 v1 (fun ch w => ∃ y, ch = pc y ∧ sat W (Bp y ++ F) w) fun v w => ∃ x, v = r x ∧ sat W (B x ++ F) w)) : CnP Tryz.prog 96 [v0, v1] W A r B pc Bp :=
  CnP.of (shape := strconv_syntaxError v0 v1) Tryz.call96 (fun h => strconv_syntaxError_calls h) h

/-- strconv_rangeError -/
def strconv_rangeError (v0 v1 : Value) (Kp : PK) (K : Value → WP) : WP :=
  drS (stD Tryz.prog (sLoad 119 (.pointer (some ⟨2, 0, none⟩))) fun D3 x8 =>
   opN Tryz.prog (sCall (fn 115) [v1]) Kp fun x7 =>
   (fun w => D3 w ∧ (stS Tryz.prog (sBuild 191 [(0, v0), (1, x7), (2, x8)]) fun x9 =>
     opN Tryz.prog (sBox 191 x9) Kp fun x10 =>
     K x10) w))
def strconv_rangeError_an : Ann := { cuts := [], blks := [], loops := [], drs := [(1, [(0, 2), (1, 1), (3, 3), (2, 0), (4, 1), (5, 0), (6, 1)])] }
theorem strconv_rangeError_eq (v0 v1 : Value) (Kp : PK) (K : Value → WP) : cevF Tryz.prog strconv_rangeError_an Tryz.f97 [v0, v1] Kp K = strconv_rangeError v0 v1 Kp K := by kernel_rfl
theorem strconv_rangeError_calls {v0 v1 : Value} {Kp : PK} {K : Value → WP} {w : World} (h : strconv_rangeError v0 v1 Kp K w) : Calls Tryz.prog 97 #[v0, v1] w (after Kp K) :=
  calls_of_shape (calls_of_cev wide Tryz.func97 (an := strconv_rangeError_an) (args := [v0, v1]) (cast (congrFun (strconv_rangeError_eq v0 v1 Kp K) w).symm h))
theorem strconv_rangeError_cn {v0 v1 : Value} {W : World} {α : Type} {A : List HP} {r : α → Value} {B : α → List HP} (h : ∀ F, Ent W (A ++ F) (strconv_rangeError v0 v1 noP fun v w => ∃ x, v = r x ∧ sat W (B x ++ F) w)) : Cn Tryz.prog 97 [v0, v1] W A r B :=
  Cn.of (shape := strconv_rangeError v0 v1) Tryz.call97 (fun h => strconv_rangeError_calls h) h
theorem strconv_rangeError_cnP {v0 v1 : Value} {W : World} {α β : Type} {A : List HP} {r : α → Value} {B : α → List HP} {pc : β → List PanicEntry} {Bp : β → List HP} (h : ∀ F, Ent W (A ++ F) (strconv_rangeError v0 v1 (fun ch w => ∃ y, ch = pc y ∧ sat W (Bp y ++ F) w) fun v w => ∃ x, v = r x ∧ sat W (B x ++ F) w)) : CnP Tryz.prog 97 [v0, v1] W A r B pc Bp :=
  CnP.of (shape := strconv_rangeError v0 v1) Tryz.call97 (fun h => strconv_rangeError_calls h) h

/-- strconv_baseError -/
def strconv_baseError (v0 v1 v2 : Value) (Kp : PK) (K : Value → WP) : WP :=
  opN Tryz.prog (sCall (fn 115) [v1]) Kp fun x9 =>
  opN Tryz.prog (sCall (fn 117) [v2]) Kp fun x11 =>
  opN Tryz.prog (sBin .add 9 (.string ⟨#[105, 110, 118, 97, 108, 105, 100, 32, 98, 97, 115, 101, 32]⟩) x11) Kp fun x12 =>
  opN Tryz.prog (sCall (fn 116) [x12]) Kp fun x13 =>
  opN Tryz.prog (sBuild 191 [(0, v0), (1, x9), (2, x13)]) Kp fun x14 =>
  opN Tryz.prog (sBox 191 x14) Kp fun x15 =>
  K x15
def strconv_baseError_an : Ann := { cuts := [], blks := [], loops := [], drs := [] }
theorem strconv_baseError_eq (v0 v1 v2 : Value) (Kp : PK) (K : Value → WP) : cevF Tryz.prog strconv_baseError_an Tryz.f98 [v0, v1, v2] Kp K = strconv_baseError v0 v1 v2 Kp K := by kernel_rfl
theorem strconv_baseError_calls {v0 v1 v2 : Value} {Kp : PK} {K : Value → WP} {w : World} (h : strconv_baseError v0 v1 v2 Kp K w) : Calls Tryz.prog 98 #[v0, v1, v2] w (after Kp K) :=
  calls_of_shape (calls_of_cev wide Tryz.func98 (an := strconv_baseError_an) (args := [v0, v1, v2]) (cast (congrFun (strconv_baseError_eq v0 v1 v2 Kp K) w).symm h))
theorem strconv_baseError_cn {v0 v1 v2 : Value} {W : World} {α : Type} {A : List HP} {r : α → Value} {B : α → List HP} (h : ∀ F, Ent W (A ++ F) (strconv_baseError v0 v1 v2 noP fun v w => ∃ x, v = r x ∧ sat W (B x ++ F) w)) : Cn Tryz.prog 98 [v0, v1, v2] W A r B :=
  Cn.of (shape := strconv_baseError v0 v1 v2) Tryz.call98 (fun h => strconv_baseError_calls h) h
theorem strconv_baseError_cnP {v0 v1 v2 : Value} {W : World} {α β : Type} {A : List HP} {r : α → Value} {B : α → List HP} {pc : β → List PanicEntry} {Bp : β → List HP} (h : ∀ F, Ent W (A ++ F) (strconv_baseError v0 v1 v2 (fun ch w => ∃ y, ch = pc y ∧ sat W (Bp y ++ F) w) fun v w => ∃ x, v = r x ∧ sat W (B x ++ F) w)) : CnP Tryz.prog 98 [v0, v1, v2] W A r B pc Bp :=
  CnP.of (shape := strconv_baseError v0 v1 v2) Tryz.call98 (fun h => strconv_baseError_calls h) h

/-- strconv_bitSizeError -/
def strconv_bitSizeError (v0 v1 v2 : Value) (Kp : PK) (K : Value → WP) : WP :=
  opN Tryz.prog (sCall (fn 115) [v1]) Kp fun x9 =>
  opN Tryz.prog (sCall (fn 117) [v2]) Kp fun x11 =>
  opN Tryz.prog (sBin .add 9 (.string ⟨#[105, 110, 118, 97, 108, 105, 100, 32, 98, 105, 116, 32, 115, 105, 122, 101, 32]⟩) x11) Kp fun x12 =>
  opN Tryz.prog (sCall (fn 116) [x12]) Kp fun x13 =>
  opN Tryz.prog (sBuild 191 [(0, v0), (1, x9), (2, x13)]) Kp fun x14 =>
  opN Tryz.prog (sBox 191 x14) Kp fun x15 =>
  K x15
def strconv_bitSizeError_an : Ann := { cuts := [], blks := [], loops := [], drs := [] }
theorem strconv_bitSizeError_eq (v0 v1 v2 : Value) (Kp : PK) (K : Value → WP) : cevF Tryz.prog strconv_bitSizeError_an Tryz.f99 [v0, v1, v2] Kp K = strconv_bitSizeError v0 v1 v2 Kp K := by kernel_rfl
theorem strconv_bitSizeError_calls {v0 v1 v2 : Value} {Kp : PK} {K : Value → WP} {w : World} (h : strconv_bitSizeError v0 v1 v2 Kp K w) : Calls Tryz.prog 99 #[v0, v1, v2] w (after Kp K) :=
  calls_of_shape (calls_of_cev wide Tryz.func99 (an := strconv_bitSizeError_an) (args := [v0, v1, v2]) (cast (congrFun (strconv_bitSizeError_eq v0 v1 v2 Kp K) w).symm h))
theorem strconv_bitSizeError_cn {v0 v1 v2 : Value} {W : World} {α : Type} {A : List HP} {r : α → Value} {B : α → List HP} (h : ∀ F, Ent W (A ++ F) (strconv_bitSizeError v0 v1 v2 noP fun v w => ∃ x, v = r x ∧ sat W (B x ++ F) w)) : Cn Tryz.prog 99 [v0, v1, v2] W A r B :=
  Cn.of (shape := strconv_bitSizeError v0 v1 v2) Tryz.call99 (fun h => strconv_bitSizeError_calls h) h
theorem strconv_bitSizeError_cnP {v0 v1 v2 : Value} {W : World} {α β : Type} {A : List HP} {r : α → Value} {B : α → List HP} {pc : β → List PanicEntry} {Bp : β → List HP} (h : ∀ F, Ent W (A ++ F) (strconv_bitSizeError v0 v1 v2 (fun ch w => ∃ y, ch = pc y ∧ sat W (Bp y ++ F) w) fun v w => ∃ x, v = r x ∧ sat W (B x ++ F) w)) : CnP Tryz.prog 99 [v0, v1, v2] W A r B pc Bp :=
  CnP.of (shape := strconv_bitSizeError v0 v1 v2) Tryz.call99 (fun h => strconv_bitSizeError_calls h) h

/-- strings_asciiSet_contains -/
def strings_asciiSet_contains (v0 v1 : Value) (Kp : PK) (K : Value → WP) : WP :=
  opN Tryz.prog (sNil v0) Kp fun x7 =>
  opN Tryz.prog (sIA 149 x7 v1) Kp fun x8 =>
  opN Tryz.prog (sLoad 4 x8) Kp fun x9 =>
  K x9
def strings_asciiSet_contains_an : Ann := { cuts := [], blks := [], loops := [], drs := [] }
theorem strings_asciiSet_contains_eq (v0 v1 : Value) (Kp : PK) (K : Value → WP) : cevF Tryz.prog strings_asciiSet_contains_an Tryz.f100 [v0, v1] Kp K = strings_asciiSet_contains v0 v1 Kp K := by kernel_rfl
theorem strings_asciiSet_contains_calls {v0 v1 : Value} {Kp : PK} {K : Value → WP} {w : World} (h : strings_asciiSet_contains v0 v1 Kp K w) : Calls Tryz.prog 100 #[v0, v1] w (after Kp K) :=
  calls_of_shape (calls_of_cev wide Tryz.func100 (an := strings_asciiSet_contains_an) (args := [v0, v1]) (cast (congrFun (strings_asciiSet_contains_eq v0 v1 Kp K) w).symm h))
theorem strings_asciiSet_contains_cn {v0 v1 : Value} {W : World} {α : Type} {A : List HP} {r : α → Value} {B : α → List HP} (h : ∀ F, Ent W (A ++ F) (strings_asciiSet_contains v0 v1 noP fun v w => ∃ x, v = r x ∧ sat W (B x ++ F) w)) : Cn Tryz.prog 100 [v0, v1] W A r B :=
  Cn.of (shape := strings_asciiSet_contains v0 v1) Tryz.call100 (fun h => strings_asciiSet_contains_calls h) h
theorem strings_asciiSet_contains_cnP {v0 v1 : Value} {W : World} {α β : Type} {A : List HP} {r : α → Value} {B : α → List HP} {pc : β → List PanicEntry} {Bp : β → List HP} (h : ∀ F, Ent W (A ++ F) (strings_asciiSet_contains v0 v1 (fun ch w => ∃ y, ch = pc y ∧ sat W (Bp y ++ F) w) fun v w => ∃ x, v = r x ∧ sat W (B x ++ F) w)) : CnP Tryz.prog 100 [v0, v1] W A r B pc Bp :=
  CnP.of (shape := strings_asciiSet_contains v0 v1) Tryz.call100 (fun h => strings_asciiSet_contains_calls h) h

/-- strings_ContainsRune -/
def strings_ContainsRune (v0 v1 : Value) (Kp : PK) (K : Value → WP) : WP :=
  opN Tryz.prog (sCall (fn 119) [v0, v1]) Kp fun x7 =>
  opN Tryz.prog (sBin .geq 3 x7 (.int .i64 0)) Kp fun x8 =>
  K x8
def strings_ContainsRune_an : Ann := { cuts := [], blks := [], loops := [], drs := [] }
theorem strings_ContainsRune_eq (v0 v1 : Value) (Kp : PK) (K : Value → WP) : cevF Tryz.prog strings_ContainsRune_an Tryz.f102 [v0, v1] Kp K = strings_ContainsRune v0 v1 Kp K := by kernel_rfl
theorem strings_ContainsRune_calls {v0 v1 : Value} {Kp : PK} {K : Value → WP} {w : World} (h : strings_ContainsRune v0 v1 Kp K w) : Calls Tryz.prog 102 #[v0, v1] w (after Kp K) :=
  calls_of_shape (calls_of_cev wide Tryz.func102 (an := strings_ContainsRune_an) (args := [v0, v1]) (cast (congrFun (strings_ContainsRune_eq v0 v1 Kp K) w).symm h))
theorem strings_ContainsRune_cn {v0 v1 : Value} {W : World} {α : Type} {A : List HP} {r : α → Value} {B : α → List HP} (h : ∀ F, Ent W (A ++ F) (strings_ContainsRune v0 v1 noP fun v w => ∃ x, v = r x ∧ sat W (B x ++ F) w)) : Cn Tryz.prog 102 [v0, v1] W A r B :=
  Cn.of (shape := strings_ContainsRune v0 v1) Tryz.call102 (fun h => strings_ContainsRune_calls h) h
theorem strings_ContainsRune_cnP {v0 v1 : Value} {W : World} {α β : Type} {A : List HP} {r : α → Value} {B : α → List HP} {pc : β → List PanicEntry} {Bp : β → List HP} (h : ∀ F, Ent W (A ++ F) (strings_ContainsRune v0 v1 (fun ch w => ∃ y, ch = pc y ∧ sat W (Bp y ++ F) w) fun v w => ∃ x, v = r x ∧ sat W (B x ++ F) w)) : CnP Tryz.prog 102 [v0, v1] W A r B pc Bp :=
  CnP.of (shape := strings_ContainsRune v0 v1) Tryz.call102 (fun h => strings_ContainsRune_calls h) h

/-- bytealg_hashStr_string -/
def bytealg_hashStr_string (v0 : Value) (Kp : PK) (K : Value → WP) : WP :=
  loop2 (fun I1 m1 _ y4 y5 =>
   opN Tryz.prog (sLen #[9] 3 [v0]) Kp fun x11 =>
   opN Tryz.prog (sBin .lss 3 y5 x11) Kp fun x12 =>
   condS x12
   (opN Tryz.prog (sBin .mul 88 y4 (.int .u32 16777619)) Kp fun x16 =>
    opN Tryz.prog (sIx 9 v0 y5) Kp fun x19 =>
    opN Tryz.prog (sConv 5 88 x19) Kp fun x20 =>
    opN Tryz.prog (sBin .add 88 x16 x20) Kp fun x21 =>
    opN Tryz.prog (sBin .add 3 y5 (.int .i64 1)) Kp fun x14 =>
    next2 I1 m1 x21 x14)
   (opN Tryz.prog (sLen #[9] 3 [v0]) Kp fun x23 =>
    loop3 (fun I2 m2 _ y6 y7 y8 =>
     opN Tryz.prog (sBin .gtr 3 y8 (.int .i64 0)) Kp fun x25 =>
     condS x25
     (cut1 (fun J1 =>
       opN Tryz.prog (sBin .and 3 y8 (.int .i64 1)) Kp fun x29 =>
       opN Tryz.prog (sEq .neq 3 (.tmp 29) (.const (.int .i64 0)) x29 (.int .i64 0)) Kp fun x30 =>
       condS x30
       (opN Tryz.prog (sBin .mul 88 y6 y7) Kp fun x33 =>
        J1 x33)
       (J1 y6)) fun _ z6 =>
      opN Tryz.prog (sBin .mul 88 y7 y7) Kp fun x36 =>
      opN Tryz.prog (sBin .shr 3 y8 (.int .u64 1)) Kp fun x27 =>
      next3 I2 m2 z6 x36 x27)
     (K (.tuple #[y4, y6]))) (.int .u32 1) (.int .u32 16777619) x23)) (.int .u32 0) (.int .i64 0)
def bytealg_hashStr_string_an : Ann := { cuts := [(12, [6])], blks := [], loops := [(3, [4, 5]), (8, [6, 7, 8])], drs := [] }
theorem bytealg_hashStr_string_eq (v0 : Value) (Kp : PK) (K : Value → WP) : cevF Tryz.prog bytealg_hashStr_string_an Tryz.f104 [v0] Kp K = bytealg_hashStr_string v0 Kp K := by kernel_rfl
theorem bytealg_hashStr_string_calls {v0 : Value} {Kp : PK} {K : Value → WP} {w : World} (h : bytealg_hashStr_string v0 Kp K w) : Calls Tryz.prog 104 #[v0] w (after Kp K) :=
  calls_of_shape (calls_of_cev wide Tryz.func104 (an := bytealg_hashStr_string_an) (args := [v0]) (cast (congrFun (bytealg_hashStr_string_eq v0 Kp K) w).symm h))
theorem bytealg_hashStr_string_cn {v0 : Value} {W : World} {α : Type} {A : List HP} {r : α → Value} {B : α → List HP} (h : ∀ F, Ent W (A ++ F) (bytealg_hashStr_string v0 noP fun v w => ∃ x, v = r x ∧ sat W (B x ++ F) w)) : Cn Tryz.prog 104 [v0] W A r B :=
  Cn.of (shape := bytealg_hashStr_string v0) Tryz.call104 (fun h => bytealg_hashStr_string_calls h) h
theorem bytealg_hashStr_string_cnP {v0 : Value} {W : World} {α β : Type} {A : List HP} {r : α → Value} {B : α → List HP} {pc : β → List PanicEntry} {Bp : β → List HP} (h : ∀ F, Ent W (A ++ F) (bytealg_hashStr_string v0 (fun ch w => ∃ y, ch = pc y ∧ sat W (Bp y ++ F) w) fun v w => ∃ x, v = r x ∧ sat W (B x ++ F) w)) : CnP Tryz.prog 104 [v0] W A r B pc Bp :=
  CnP.of (shape := bytealg_hashStr_string v0) Tryz.call104 (fun h => bytealg_hashStr_string_calls h) h

/-- strings_HasPrefix -/
def strings_HasPrefix (v0 v1 : Value) (Kp : PK) (K : Value → WP) : WP :=
  opN Tryz.prog (sCall (fn 76) [v0, v1]) Kp fun x7 =>
  K x7
def strings_HasPrefix_an : Ann := { cuts := [], blks := [], loops := [], drs := [] }
theorem strings_HasPrefix_eq (v0 v1 : Value) (Kp : PK) (K : Value → WP) : cevF Tryz.prog strings_HasPrefix_an Tryz.f113 [v0, v1] Kp K = strings_HasPrefix v0 v1 Kp K := by kernel_rfl
theorem strings_HasPrefix_calls {v0 v1 : Value} {Kp : PK} {K : Value → WP} {w : World} (h : strings_HasPrefix v0 v1 Kp K w) : Calls Tryz.prog 113 #[v0, v1] w (after Kp K) :=
  calls_of_shape (calls_of_cev wide Tryz.func113 (an := strings_HasPrefix_an) (args := [v0, v1]) (cast (congrFun (strings_HasPrefix_eq v0 v1 Kp K) w).symm h))
theorem strings_HasPrefix_cn {v0 v1 : Value} {W : World} {α : Type} {A : List HP} {r : α → Value} {B : α → List HP} (h : ∀ F, Ent W (A ++ F) (strings_HasPrefix v0 v1 noP fun v w => ∃ x, v = r x ∧ sat W (B x ++ F) w)) : Cn Tryz.prog 113 [v0, v1] W A r B :=
  Cn.of (shape := strings_HasPrefix v0 v1) Tryz.call113 (fun h => strings_HasPrefix_calls h) h
theorem strings_HasPrefix_cnP {v0 v1 : Value} {W : World} {α β : Type} {A : List HP} {r : α → Value} {B : α → List HP} {pc : β → List PanicEntry} {Bp : β → List HP} (h : ∀ F, Ent W (A ++ F) (strings_HasPrefix v0 v1 (fun ch w => ∃ y, ch = pc y ∧ sat W (Bp y ++ F) w) fun v w => ∃ x, v = r x ∧ sat W (B x ++ F) w)) : CnP Tryz.prog 113 [v0, v1] W A r B pc Bp :=
  CnP.of (shape := strings_HasPrefix v0 v1) Tryz.call113 (fun h => strings_HasPrefix_calls h) h

/-- strings_longestCommonSuffix -/
def strings_longestCommonSuffix (v0 v1 : Value) (Kp : PK) (K : Value → WP) : WP :=
  loop1 (fun I1 m1 _ y4 =>
   opN Tryz.prog (sLen #[9] 3 [v0]) Kp fun x7 =>
   opN Tryz.prog (sBin .lss 3 y4 x7) Kp fun x8 =>
   gdK x8 true (fun k => k y4) fun x10 =>
   gdK x8 true (fun k => k v1) fun x11 =>
   gdK x8 true (opN Tryz.prog (sLen #[9] 3 [x11]) Kp) fun x12 =>
   gdK x8 true (opN Tryz.prog (sBin .lss 3 x10 x12) Kp) fun x13 =>
   opN Tryz.prog (sPick x8 x13 (.bool false)) Kp fun x14 =>
   condS x14
   (drS (stS Tryz.prog (sLen #[9] 3 [v0]) fun x19 =>
     stS Tryz.prog (sBin .sub 3 x19 (.int .i64 1)) fun x20 =>
     stS Tryz.prog (sBin .sub 3 x20 y4) fun x22 =>
     stS Tryz.prog (sIx 9 v0 x22) fun x23 =>
     stS Tryz.prog (sLen #[9] 3 [v1]) fun x26 =>
     stS Tryz.prog (sBin .sub 3 x26 (.int .i64 1)) fun x27 =>
     stS Tryz.prog (sBin .sub 3 x27 y4) fun x29 =>
     stS Tryz.prog (sIx 9 v1 x29) fun x30 =>
     stS Tryz.prog (sEq .neq 5 (.tmp 23) (.tmp 30) x23 x30) fun x31 =>
     condS x31
     (K y4)
     (opN Tryz.prog (sBin .add 3 y4 (.int .i64 1)) Kp fun x16 =>
      next1 I1 m1 x16)))
   (K y4)) (.int .i64 0)
def strings_longestCommonSuffix_an : Ann := { cuts := [], blks := [], loops := [(1, [4])], drs := [(3, [(0, 1), (1, 1), (2, 1), (3, 1), (4, 1), (5, 1), (6, 1), (7, 1), (8, 1), (9, 1), (10, 1), (11, 1), (12, 1), (13, 1), (14, 1)])] }
theorem strings_longestCommonSuffix_eq (v0 v1 : Value) (Kp : PK) (K : Value → WP) : cevF Tryz.prog strings_longestCommonSuffix_an Tryz.f114 [v0, v1] Kp K = strings_longestCommonSuffix v0 v1 Kp K := by kernel_rfl
theorem strings_longestCommonSuffix_calls {v0 v1 : Value} {Kp : PK} {K : Value → WP} {w : World} (h : strings_longestCommonSuffix v0 v1 Kp K w) : Calls Tryz.prog 114 #[v0, v1] w (after Kp K) :=
  calls_of_shape (calls_of_cev wide Tryz.func114 (an := strings_longestCommonSuffix_an) (args := [v0, v1]) (cast (congrFun (strings_longestCommonSuffix_eq v0 v1 Kp K) w).symm h))
theorem strings_longestCommonSuffix_cn {v0 v1 : Value} {W : World} {α : Type} {A : List HP} {r : α → Value} {B : α → List HP} (h : ∀ F, Ent W (A ++ F) (strings_longestCommonSuffix v0 v1 noP fun v w => ∃ x, v = r x ∧ sat W (B x ++ F) w)) : Cn Tryz.prog 114 [v0, v1] W A r B :=
  Cn.of (shape := strings_longestCommonSuffix v0 v1) Tryz.call114 (fun h => strings_longestCommonSuffix_calls h) h
theorem strings_longestCommonSuffix_cnP {v0 v1 : Value} {W : World} {α β : Type} {A : List HP} {r : α → Value} {B : α → List HP} {pc : β → List PanicEntry} {Bp : β → List HP} (h : ∀ F, Ent W (A ++ F) (strings_longestCommonSuffix v0 v1 (fun ch w => ∃ y, ch = pc y ∧ sat W (Bp y ++ F) w) fun v w => ∃ x, v = r x ∧ sat W (B x ++ F) w)) : CnP Tryz.prog 114 [v0, v1] W A r B pc Bp :=
  CnP.of (shape := strings_longestCommonSuffix v0 v1) Tryz.call114 (fun h => strings_longestCommonSuffix_calls h) h

/-- strconv_Itoa -/
def strconv_Itoa (v0 : Value) (Kp : PK) (K : Value → WP) : WP :=
  opN Tryz.prog (sCall (fn 128) [v0]) Kp fun x4 =>
  K x4
def strconv_Itoa_an : Ann := { cuts := [], blks := [], loops := [], drs := [] }
theorem strconv_Itoa_eq (v0 : Value) (Kp : PK) (K : Value → WP) : cevF Tryz.prog strconv_Itoa_an Tryz.f117 [v0] Kp K = strconv_Itoa v0 Kp K := by kernel_rfl
theorem strconv_Itoa_calls {v0 : Value} {Kp : PK} {K : Value → WP} {w : World} (h : strconv_Itoa v0 Kp K w) : Calls Tryz.prog 117 #[v0] w (after Kp K) :=
  calls_of_shape (calls_of_cev wide Tryz.func117 (an := strconv_Itoa_an) (args := [v0]) (cast (congrFun (strconv_Itoa_eq v0 Kp K) w).symm h))
theorem strconv_Itoa_cn {v0 : Value} {W : World} {α : Type} {A : List HP} {r : α → Value} {B : α → List HP} (h : ∀ F, Ent W (A ++ F) (strconv_Itoa v0 noP fun v w => ∃ x, v = r x ∧ sat W (B x ++ F) w)) : Cn Tryz.prog 117 [v0] W A r B :=
  Cn.of (shape := strconv_Itoa v0) Tryz.call117 (fun h => strconv_Itoa_calls h) h
theorem strconv_Itoa_cnP {v0 : Value} {W : World} {α β : Type} {A : List HP} {r : α → Value} {B : α → List HP} {pc : β → List PanicEntry} {Bp : β → List HP} (h : ∀ F, Ent W (A ++ F) (strconv_Itoa v0 (fun ch w => ∃ y, ch = pc y ∧ sat W (Bp y ++ F) w) fun v w => ∃ x, v = r x ∧ sat W (B x ++ F) w)) : CnP Tryz.prog 117 [v0] W A r B pc Bp :=
  CnP.of (shape := strconv_Itoa v0) Tryz.call117 (fun h => strconv_Itoa_calls h) h

/-- strings_singleStringReplacer_Replace -/
def strings_singleStringReplacer_Replace (v0 v1 : Value) (Kp : PK) (K : Value → WP) : WP :=
  opN Tryz.prog (sAlloc 237) Kp fun x5 =>
  loop2 (fun I1 m1 _ y6 y7 =>
   drS (stS Tryz.prog (sNil v0) fun x10 =>
    stS Tryz.prog (sFA 162 x10 0) fun x11 =>
    stS Tryz.prog (sLoad 159 x11) fun x12 =>
    stS Tryz.prog (sSl 9 v1 (some y6) none none) fun x15 =>
    opN Tryz.prog (sCall (fn 159) [x12, x15]) Kp fun x16 =>
    opN Tryz.prog (sEq .eql 3 (.tmp 17) (.const (.int .i64 (-1))) x16 (.int .i64 (-1))) Kp fun x18 =>
    condS x18
    (opN Tryz.prog (sUn .not y7) Kp fun x52 =>
     condS x52
     (K v1)
     (opN Tryz.prog (sSl 9 v1 (some y6) none none) Kp fun x56 =>
      opN Tryz.prog (sCall (fn 161) [x5, x56]) Kp fun x57 =>
      opN Tryz.prog (sCall (fn 162) [x5]) Kp fun x58 =>
      K x58))
    (opN Tryz.prog (sNil v0) Kp fun x21 =>
     opN Tryz.prog (sFA 162 x21 1) Kp fun x22 =>
     opN Tryz.prog (sLoad 9 x22) Kp fun x23 =>
     opN Tryz.prog (sLen #[9] 3 [x23]) Kp fun x24 =>
     opN Tryz.prog (sBin .add 3 x16 x24) Kp fun x25 =>
     opN Tryz.prog (sCall (fn 160) [x5, x25]) Kp fun x26 =>
     opN Tryz.prog (sBin .add 3 y6 x16) Kp fun x31 =>
     opN Tryz.prog (sSl 9 v1 (some y6) (some x31) none) Kp fun x32 =>
     opN Tryz.prog (sCall (fn 161) [x5, x32]) Kp fun x33 =>
     opN Tryz.prog (sNil v0) Kp fun x35 =>
     opN Tryz.prog (sFA 162 x35 1) Kp fun x36 =>
     opN Tryz.prog (sLoad 9 x36) Kp fun x37 =>
     opN Tryz.prog (sCall (fn 161) [x5, x37]) Kp fun x38 =>
     opN Tryz.prog (sNil v0) Kp fun x42 =>
     opN Tryz.prog (sFA 162 x42 0) Kp fun x43 =>
     opN Tryz.prog (sLoad 159 x43) Kp fun x44 =>
     opN Tryz.prog (sNil x44) Kp fun x45 =>
     opN Tryz.prog (sFA 189 x45 0) Kp fun x46 =>
     opN Tryz.prog (sLoad 9 x46) Kp fun x47 =>
     opN Tryz.prog (sLen #[9] 3 [x47]) Kp fun x48 =>
     opN Tryz.prog (sBin .add 3 x16 x48) Kp fun x49 =>
     opN Tryz.prog (sBin .add 3 y6 x49) Kp fun x50 =>
     next2 I1 m1 x50 (.bool true)))) (.int .i64 0) (.bool false)
def strings_singleStringReplacer_Replace_an : Ann := { cuts := [], blks := [], loops := [(3, [6, 7])], drs := [(3, [(0, 1), (1, 1), (2, 1), (3, 1), (4, 1), (5, 1), (6, 1), (7, 0), (8, 1)])] }
theorem strings_singleStringReplacer_Replace_eq (v0 v1 : Value) (Kp : PK) (K : Value → WP) : cevF Tryz.prog strings_singleStringReplacer_Replace_an Tryz.f157 [v0, v1] Kp K = strings_singleStringReplacer_Replace v0 v1 Kp K := by kernel_rfl
theorem strings_singleStringReplacer_Replace_calls {v0 v1 : Value} {Kp : PK} {K : Value → WP} {w : World} (h : strings_singleStringReplacer_Replace v0 v1 Kp K w) : Calls Tryz.prog 157 #[v0, v1] w (after Kp K) :=
  calls_of_shape (calls_of_cev wide Tryz.func157 (an := strings_singleStringReplacer_Replace_an) (args := [v0, v1]) (cast (congrFun (strings_singleStringReplacer_Replace_eq v0 v1 Kp K) w).symm h))
theorem strings_singleStringReplacer_Replace_cn {v0 v1 : Value} {W : World} {α : Type} {A : List HP} {r : α → Value} {B : α → List HP} (h : ∀ F, Ent W (A ++ F) (strings_singleStringReplacer_Replace v0 v1 noP fun v w => ∃ x, v = r x ∧ sat W (B x ++ F) w)) : Cn Tryz.prog 157 [v0, v1] W A r B :=
  Cn.of (shape := strings_singleStringReplacer_Replace v0 v1) Tryz.call157 (fun h => strings_singleStringReplacer_Replace_calls h) h
theorem strings_singleStringReplacer_Replace_cnP {v0 v1 : Value} {W : World} {α β : Type} {A : List HP} {r : α → Value} {B : α → List HP} {pc : β → List PanicEntry} {Bp : β → List HP} (h : ∀ F, Ent W (A ++ F) (strings_singleStringReplacer_Replace v0 v1 (fun ch w => ∃ y, ch = pc y ∧ sat W (Bp y ++ F) w) fun v w => ∃ x, v = r x ∧ sat W (B x ++ F) w)) : CnP Tryz.prog 157 [v0, v1] W A r B pc Bp :=
  CnP.of (shape := strings_singleStringReplacer_Replace v0 v1) Tryz.call157 (fun h => strings_singleStringReplacer_Replace_calls h) h

/-- strings_stringFinder_next -/
def strings_stringFinder_next (v0 v1 : Value) (Kp : PK) (K : Value → WP) : WP :=
  opN Tryz.prog (sNil v0) Kp fun x8 =>
  opN Tryz.prog (sFA 189 x8 0) Kp fun x9 =>
  opN Tryz.prog (sLoad 9 x9) Kp fun x10 =>
  opN Tryz.prog (sLen #[9] 3 [x10]) Kp fun x11 =>
  opN Tryz.prog (sBin .sub 3 x11 (.int .i64 1)) Kp fun x12 =>
  loop1 (fun I1 m1 _ y5 =>
   opN Tryz.prog (sLen #[9] 3 [v1]) Kp fun x15 =>
   opN Tryz.prog (sBin .lss 3 y5 x15) Kp fun x16 =>
   condS x16
   (opN Tryz.prog (sNil v0) Kp fun x18 =>
    opN Tryz.prog (sFA 189 x18 0) Kp fun x19 =>
    opN Tryz.prog (sLoad 9 x19) Kp fun x20 =>
    opN Tryz.prog (sLen #[9] 3 [x20]) Kp fun x21 =>
    opN Tryz.prog (sBin .sub 3 x21 (.int .i64 1)) Kp fun x22 =>
    loop2 (fun I2 m2 _ y5_2 y6 =>
     drS (stS Tryz.prog (sBin .geq 3 y6 (.int .i64 0)) fun x24 =>
      gdK x24 true (fun k => k v1) fun x26 =>
      gdK x24 true (fun k => k y5_2) fun x27 =>
      gdK x24 true (stS Tryz.prog (sIx 9 x26 x27)) fun x28 =>
      gdK x24 true (fun k => k v0) fun x29 =>
      gdK x24 true (stS Tryz.prog (sNil x29)) fun x30 =>
      gdK x24 true (stS Tryz.prog (sFA 189 x30 0)) fun x31 =>
      gdK x24 true (stS Tryz.prog (sLoad 9 x31)) fun x32 =>
      gdK x24 true (fun k => k y6) fun x33 =>
      gdK x24 true (stS Tryz.prog (sIx 9 x32 x33)) fun x34 =>
      gdK x24 true (stS Tryz.prog (sEq .eql 5 (.tmp 28) (.tmp 34) x28 x34)) fun x35 =>
      stS Tryz.prog (sPick x24 x35 (.bool false)) fun x36 =>
      condS x36
      (opN Tryz.prog (sBin .sub 3 y5_2 (.int .i64 1)) Kp fun x38 =>
       opN Tryz.prog (sBin .sub 3 y6 (.int .i64 1)) Kp fun x40 =>
       next2 I2 m2 x38 x40)
      (opN Tryz.prog (sBin .lss 3 y6 (.int .i64 0)) Kp fun x42 =>
       condS x42
       (opN Tryz.prog (sBin .add 3 y5_2 (.int .i64 1)) Kp fun x44 =>
        K x44)
       (drS (stS Tryz.prog (sIx 9 v1 y5_2) fun x49 =>
         stS Tryz.prog (sNil v0) fun x50 =>
         stS Tryz.prog (sFA 189 x50 1) fun x51 =>
         stS Tryz.prog (sIA 75 x51 x49) fun x52 =>
         stS Tryz.prog (sLoad 3 x52) fun x53 =>
         stS Tryz.prog (sNil v0) fun x55 =>
         stS Tryz.prog (sFA 189 x55 2) fun x56 =>
         stS Tryz.prog (sLoad 187 x56) fun x57 =>
         stS Tryz.prog (sIA 187 x57 y6) fun x59 =>
         stS Tryz.prog (sLoad 3 x59) fun x60 =>
         stS Tryz.prog (sMax #[3, 3] 3 [x53, x60]) fun x61 =>
         stS Tryz.prog (sBin .add 3 y5_2 x61) fun x62 =>
         next1 I1 m1 x62))))) y5 x22)
   (K (.int .i64 (-1)))) x12
def strings_stringFinder_next_an : Ann := { cuts := [], blks := [], loops := [(2, [5]), (4, [5, 6])], drs := [(4, [(0, 1), (1, 1), (2, 1), (3, 1), (4, 1), (5, 1), (6, 1), (7, 1), (8, 1), (9, 1), (10, 1), (11, 1), (12, 1), (13, 1)]), (9, [(0, 1), (1, 1), (2, 1), (3, 1), (4, 1), (5, 1), (6, 1), (7, 1), (8, 1), (9, 1), (10, 1), (11, 1), (12, 1), (13, 1), (14, 1), (15, 1), (16, 1), (17, 1), (18, 1)])] }
theorem strings_stringFinder_next_eq (v0 v1 : Value) (Kp : PK) (K : Value → WP) : cevF Tryz.prog strings_stringFinder_next_an Tryz.f159 [v0, v1] Kp K = strings_stringFinder_next v0 v1 Kp K := by kernel_rfl
theorem strings_stringFinder_next_calls {v0 v1 : Value} {Kp : PK} {K : Value → WP} {w : World} (h : strings_stringFinder_next v0 v1 Kp K w) : Calls Tryz.prog 159 #[v0, v1] w (after Kp K) :=
  calls_of_shape (calls_of_cev wide Tryz.func159 (an := strings_stringFinder_next_an) (args := [v0, v1]) (cast (congrFun (strings_stringFinder_next_eq v0 v1 Kp K) w).symm h))
theorem strings_stringFinder_next_cn {v0 v1 : Value} {W : World} {α : Type} {A : List HP} {r : α → Value} {B : α → List HP} (h : ∀ F, Ent W (A ++ F) (strings_stringFinder_next v0 v1 noP fun v w => ∃ x, v = r x ∧ sat W (B x ++ F) w)) : Cn Tryz.prog 159 [v0, v1] W A r B :=
  Cn.of (shape := strings_stringFinder_next v0 v1) Tryz.call159 (fun h => strings_stringFinder_next_calls h) h
theorem strings_stringFinder_next_cnP {v0 v1 : Value} {W : World} {α β : Type} {A : List HP} {r : α → Value} {B : α → List HP} {pc : β → List PanicEntry} {Bp : β → List HP} (h : ∀ F, Ent W (A ++ F) (strings_stringFinder_next v0 v1 (fun ch w => ∃ y, ch = pc y ∧ sat W (Bp y ++ F) w) fun v w => ∃ x, v = r x ∧ sat W (B x ++ F) w)) : CnP Tryz.prog 159 [v0, v1] W A r B pc Bp :=
  CnP.of (shape := strings_stringFinder_next v0 v1) Tryz.call159 (fun h => strings_stringFinder_next_calls h) h

/-- strings_Builder_Grow -/
def strings_Builder_Grow (v0 v1 : Value) (Kp : PK) (K : Value → WP) : WP :=
  opN Tryz.prog (sCall (fn 163) [v0]) Kp fun x5 =>
  cut0 (fun J1 =>
   opN Tryz.prog (sBin .lss 3 v1 (.int .i64 0)) Kp fun x7 =>
   condS x7
   (opN Tryz.prog (sMkI 9 (.string ⟨#[115, 116, 114, 105, 110, 103, 115, 46, 66, 117, 105, 108, 100, 101, 114, 46, 71, 114, 111, 119, 58, 32, 110, 101, 103, 97, 116, 105, 118, 101, 32, 99, 111, 117, 110, 116]⟩)) Kp fun x8 =>
    opN Tryz.prog (sPanic x8) Kp fun _ =>
    J1)
   (J1)) fun _ =>
  drS (stS Tryz.prog (sNil v0) fun x10 =>
   stS Tryz.prog (sFA 237 x10 1) fun x11 =>
   stS Tryz.prog (sLoad 57 x11) fun x12 =>
   stS Tryz.prog (sCap #[57] 3 [x12]) fun x13 =>
   stS Tryz.prog (sNil v0) fun x15 =>
   stS Tryz.prog (sFA 237 x15 1) fun x16 =>
   stS Tryz.prog (sLoad 57 x16) fun x17 =>
   stS Tryz.prog (sLen #[57] 3 [x17]) fun x18 =>
   stS Tryz.prog (sBin .sub 3 x13 x18) fun x19 =>
   stS Tryz.prog (sBin .lss 3 x19 v1) fun x21 =>
   condS x21
   (opN Tryz.prog (sCall (fn 164) [v0, v1]) Kp fun x24 =>
    K (.tuple #[]))
   (K (.tuple #[])))
def strings_Builder_Grow_an : Ann := { cuts := [(3, [])], blks := [], loops := [], drs := [(3, [(0, 1), (1, 1), (2, 1), (3, 1), (4, 1), (5, 1), (6, 1), (7, 1), (8, 1), (9, 1), (10, 1), (11, 1), (12, 1)])] }
theorem strings_Builder_Grow_eq (v0 v1 : Value) (Kp : PK) (K : Value → WP) : cevF Tryz.prog strings_Builder_Grow_an Tryz.f160 [v0, v1] Kp K = strings_Builder_Grow v0 v1 Kp K := by kernel_rfl
theorem strings_Builder_Grow_calls {v0 v1 : Value} {Kp : PK} {K : Value → WP} {w : World} (h : strings_Builder_Grow v0 v1 Kp K w) : Calls Tryz.prog 160 #[v0, v1] w (after Kp K) :=
  calls_of_shape (calls_of_cev wide Tryz.func160 (an := strings_Builder_Grow_an) (args := [v0, v1]) (cast (congrFun (strings_Builder_Grow_eq v0 v1 Kp K) w).symm h))
theorem strings_Builder_Grow_cn {v0 v1 : Value} {W : World} {α : Type} {A : List HP} {r : α → Value} {B : α → List HP} (h : ∀ F, Ent W (A ++ F) (strings_Builder_Grow v0 v1 noP fun v w => ∃ x, v = r x ∧ sat W (B x ++ F) w)) : Cn Tryz.prog 160 [v0, v1] W A r B :=
  Cn.of (shape := strings_Builder_Grow v0 v1) Tryz.call160 (fun h => strings_Builder_Grow_calls h) h
theorem strings_Builder_Grow_cnP {v0 v1 : Value} {W : World} {α β : Type} {A : List HP} {r : α → Value} {B : α → List HP} {pc : β → List PanicEntry} {Bp : β → List HP} (h : ∀ F, Ent W (A ++ F) (strings_Builder_Grow v0 v1 (fun ch w => ∃ y, ch = pc y ∧ sat W (Bp y ++ F) w) fun v w => ∃ x, v = r x ∧ sat W (B x ++ F) w)) : CnP Tryz.prog 160 [v0, v1] W A r B pc Bp :=
  CnP.of (shape := strings_Builder_Grow v0 v1) Tryz.call160 (fun h => strings_Builder_Grow_calls h) h

/-- strings_Builder_WriteString -/
def strings_Builder_WriteString (v0 v1 : Value) (Kp : PK) (K : Value → WP) : WP :=
  opN Tryz.prog (sCall (fn 163) [v0]) Kp fun x7 =>
  opN Tryz.prog (sNil v0) Kp fun x10 =>
  opN Tryz.prog (sFA 237 x10 1) Kp fun x11 =>
  opN Tryz.prog (sLoad 57 x11) Kp fun x12 =>
  opN Tryz.prog (sApp #[57, 9] 57 [x12, v1]) Kp fun x14 =>
  opN Tryz.prog (sNil v0) Kp fun x15 =>
  opN Tryz.prog (sFA 237 x15 1) Kp fun x16 =>
  opN Tryz.prog (sStore 57 x16 x14) Kp fun _ =>
  opN Tryz.prog (sLen #[9] 3 [v1]) Kp fun x18 =>
  K (.tuple #[x18, .nilIface])
def strings_Builder_WriteString_an : Ann := { cuts := [], blks := [], loops := [], drs := [] }
theorem strings_Builder_WriteString_eq (v0 v1 : Value) (Kp : PK) (K : Value → WP) : cevF Tryz.prog strings_Builder_WriteString_an Tryz.f161 [v0, v1] Kp K = strings_Builder_WriteString v0 v1 Kp K := by kernel_rfl
theorem strings_Builder_WriteString_calls {v0 v1 : Value} {Kp : PK} {K : Value → WP} {w : World} (h : strings_Builder_WriteString v0 v1 Kp K w) : Calls Tryz.prog 161 #[v0, v1] w (after Kp K) :=
  calls_of_shape (calls_of_cev wide Tryz.func161 (an := strings_Builder_WriteString_an) (args := [v0, v1]) (cast (congrFun (strings_Builder_WriteString_eq v0 v1 Kp K) w).symm h))
theorem strings_Builder_WriteString_cn {v0 v1 : Value} {W : World} {α : Type} {A : List HP} {r : α → Value} {B : α → List HP} (h : ∀ F, Ent W (A ++ F) (strings_Builder_WriteString v0 v1 noP fun v w => ∃ x, v = r x ∧ sat W (B x ++ F) w)) : Cn Tryz.prog 161 [v0, v1] W A r B :=
  Cn.of (shape := strings_Builder_WriteString v0 v1) Tryz.call161 (fun h => strings_Builder_WriteString_calls h) h
theorem strings_Builder_WriteString_cnP {v0 v1 : Value} {W : World} {α β : Type} {A : List HP} {r : α → Value} {B : α → List HP} {pc : β → List PanicEntry} {Bp : β → List HP} (h : ∀ F, Ent W (A ++ F) (strings_Builder_WriteString v0 v1 (fun ch w => ∃ y, ch = pc y ∧ sat W (Bp y ++ F) w) fun v w => ∃ x, v = r x ∧ sat W (B x ++ F) w)) : CnP Tryz.prog 161 [v0, v1] W A r B pc Bp :=
  CnP.of (shape := strings_Builder_WriteString v0 v1) Tryz.call161 (fun h => strings_Builder_WriteString_calls h) h

/-- strings_Builder_grow -/
def strings_Builder_grow (v0 v1 : Value) (Kp : PK) (K : Value → WP) : WP :=
  drS (stS Tryz.prog (sNil v0) fun x6 =>
   stS Tryz.prog (sFA 237 x6 1) fun x7 =>
   stS Tryz.prog (sLoad 57 x7) fun x8 =>
   stS Tryz.prog (sCap #[57] 3 [x8]) fun x9 =>
   stS Tryz.prog (sBin .mul 3 (.int .i64 2) x9) fun x10 =>
   stS Tryz.prog (sBin .add 3 x10 v1) fun x12 =>
   stD Tryz.prog (sNil v0) fun D10 x15 =>
   stD Tryz.prog (sFA 237 x15 1) fun D11 x16 =>
   stD Tryz.prog (sLoad 57 x16) fun D12 x17 =>
   stD Tryz.prog (sLen #[57] 3 [x17]) fun D13 x18 =>
   opN Tryz.prog (sCall (fn 166) [x12]) Kp fun x13 =>
   (fun w => D13 w ∧ (fun w => D12 w ∧ (fun w => D11 w ∧ (fun w => D10 w ∧ (stS Tryz.prog (sSl 57 x13 none (some x18) none) fun x19 =>
        opN Tryz.prog (sNil v0) Kp fun x22 =>
        opN Tryz.prog (sFA 237 x22 1) Kp fun x23 =>
        opN Tryz.prog (sLoad 57 x23) Kp fun x24 =>
        opN Tryz.prog (sCopy #[57, 57] 3 [x19, x24]) Kp fun x25 =>
        opN Tryz.prog (sNil v0) Kp fun x28 =>
        opN Tryz.prog (sFA 237 x28 1) Kp fun x29 =>
        opN Tryz.prog (sStore 57 x29 x19) Kp fun _ =>
        K (.tuple #[])) w) w) w) w))
def strings_Builder_grow_an : Ann := { cuts := [], blks := [], loops := [], drs := [(0, [(0, 1), (1, 1), (2, 1), (3, 1), (4, 1), (5, 1), (6, 1), (7, 1), (9, 2), (10, 3), (11, 3), (12, 3), (13, 3), (8, 0), (14, 1), (15, 1)])] }
theorem strings_Builder_grow_eq (v0 v1 : Value) (Kp : PK) (K : Value → WP) : cevF Tryz.prog strings_Builder_grow_an Tryz.f164 [v0, v1] Kp K = strings_Builder_grow v0 v1 Kp K := by kernel_rfl
theorem strings_Builder_grow_calls {v0 v1 : Value} {Kp : PK} {K : Value → WP} {w : World} (h : strings_Builder_grow v0 v1 Kp K w) : Calls Tryz.prog 164 #[v0, v1] w (after Kp K) :=
  calls_of_shape (calls_of_cev wide Tryz.func164 (an := strings_Builder_grow_an) (args := [v0, v1]) (cast (congrFun (strings_Builder_grow_eq v0 v1 Kp K) w).symm h))
theorem strings_Builder_grow_cn {v0 v1 : Value} {W : World} {α : Type} {A : List HP} {r : α → Value} {B : α → List HP} (h : ∀ F, Ent W (A ++ F) (strings_Builder_grow v0 v1 noP fun v w => ∃ x, v = r x ∧ sat W (B x ++ F) w)) : Cn Tryz.prog 164 [v0, v1] W A r B :=
  Cn.of (shape := strings_Builder_grow v0 v1) Tryz.call164 (fun h => strings_Builder_grow_calls h) h
theorem strings_Builder_grow_cnP {v0 v1 : Value} {W : World} {α β : Type} {A : List HP} {r : α → Value} {B : α → List HP} {pc : β → List PanicEntry} {Bp : β → List HP} (h : ∀ F, Ent W (A ++ F) (strings_Builder_grow v0 v1 (fun ch w => ∃ y, ch = pc y ∧ sat W (Bp y ++ F) w) fun v w => ∃ x, v = r x ∧ sat W (B x ++ F) w)) : CnP Tryz.prog 164 [v0, v1] W A r B pc Bp :=
  CnP.of (shape := strings_Builder_grow v0 v1) Tryz.call164 (fun h => strings_Builder_grow_calls h) h

/-- strings_genericReplacer_Replace -/
def strings_genericReplacer_Replace (v0 v1 : Value) (Kp : PK) (K : Value → WP) : WP :=
  opN Tryz.prog (sLen #[9] 3 [v1]) Kp fun x7 =>
  opN Tryz.prog (sMkSl 244 (.int .i64 0) x7) Kp fun x8 =>
  opN Tryz.prog (sAlloc 244) Kp fun x5 =>
  opN Tryz.prog (sStore 244 x5 x8) Kp fun _ =>
  opN Tryz.prog (sMkI 245 x5) Kp fun x10 =>
  opN Tryz.prog (sCall (fn 168) [v0, x10, v1]) Kp fun x12 =>
  opN Tryz.prog (sLoad 244 x5) Kp fun x13 =>
  opN Tryz.prog (sConv 244 9 x13) Kp fun x14 =>
  K x14
def strings_genericReplacer_Replace_an : Ann := { cuts := [], blks := [], loops := [], drs := [] }
theorem strings_genericReplacer_Replace_eq (v0 v1 : Value) (Kp : PK) (K : Value → WP) : cevF Tryz.prog strings_genericReplacer_Replace_an Tryz.f167 [v0, v1] Kp K = strings_genericReplacer_Replace v0 v1 Kp K := by kernel_rfl
theorem strings_genericReplacer_Replace_calls {v0 v1 : Value} {Kp : PK} {K : Value → WP} {w : World} (h : strings_genericReplacer_Replace v0 v1 Kp K w) : Calls Tryz.prog 167 #[v0, v1] w (after Kp K) :=
  calls_of_shape (calls_of_cev wide Tryz.func167 (an := strings_genericReplacer_Replace_an) (args := [v0, v1]) (cast (congrFun (strings_genericReplacer_Replace_eq v0 v1 Kp K) w).symm h))
theorem strings_genericReplacer_Replace_cn {v0 v1 : Value} {W : World} {α : Type} {A : List HP} {r : α → Value} {B : α → List HP} (h : ∀ F, Ent W (A ++ F) (strings_genericReplacer_Replace v0 v1 noP fun v w => ∃ x, v = r x ∧ sat W (B x ++ F) w)) : Cn Tryz.prog 167 [v0, v1] W A r B :=
  Cn.of (shape := strings_genericReplacer_Replace v0 v1) Tryz.call167 (fun h => strings_genericReplacer_Replace_calls h) h
theorem strings_genericReplacer_Replace_cnP {v0 v1 : Value} {W : World} {α β : Type} {A : List HP} {r : α → Value} {B : α → List HP} {pc : β → List PanicEntry} {Bp : β → List HP} (h : ∀ F, Ent W (A ++ F) (strings_genericReplacer_Replace v0 v1 (fun ch w => ∃ y, ch = pc y ∧ sat W (Bp y ++ F) w) fun v w => ∃ x, v = r x ∧ sat W (B x ++ F) w)) : CnP Tryz.prog 167 [v0, v1] W A r B pc Bp :=
  CnP.of (shape := strings_genericReplacer_Replace v0 v1) Tryz.call167 (fun h => strings_genericReplacer_Replace_calls h) h

/-- strings_getStringWriter -/
def strings_getStringWriter (v0 : Value) (Kp : PK) (K : Value → WP) : WP :=
  opN Tryz.prog (sTA v0 247 249 true) Kp fun x7 =>
  opN Tryz.prog (sExt x7 0) Kp fun x8 =>
  opN Tryz.prog (sExt x7 1) Kp fun x9 =>
  opN Tryz.prog (sUn .not x9) Kp fun x11 =>
  condS x11
  (opN Tryz.prog (sBuild 255 [(0, v0)]) Kp fun x13 =>
   opN Tryz.prog (sMkI 255 x13) Kp fun x14 =>
   K x14)
  (K x8)
def strings_getStringWriter_an : Ann := { cuts := [], blks := [], loops := [], drs := [] }
theorem strings_getStringWriter_eq (v0 : Value) (Kp : PK) (K : Value → WP) : cevF Tryz.prog strings_getStringWriter_an Tryz.f169 [v0] Kp K = strings_getStringWriter v0 Kp K := by kernel_rfl
theorem strings_getStringWriter_calls {v0 : Value} {Kp : PK} {K : Value → WP} {w : World} (h : strings_getStringWriter v0 Kp K w) : Calls Tryz.prog 169 #[v0] w (after Kp K) :=
  calls_of_shape (calls_of_cev wide Tryz.func169 (an := strings_getStringWriter_an) (args := [v0]) (cast (congrFun (strings_getStringWriter_eq v0 Kp K) w).symm h))
theorem strings_getStringWriter_cn {v0 : Value} {W : World} {α : Type} {A : List HP} {r : α → Value} {B : α → List HP} (h : ∀ F, Ent W (A ++ F) (strings_getStringWriter v0 noP fun v w => ∃ x, v = r x ∧ sat W (B x ++ F) w)) : Cn Tryz.prog 169 [v0] W A r B :=
  Cn.of (shape := strings_getStringWriter v0) Tryz.call169 (fun h => strings_getStringWriter_calls h) h
theorem strings_getStringWriter_cnP {v0 : Value} {W : World} {α β : Type} {A : List HP} {r : α → Value} {B : α → List HP} {pc : β → List PanicEntry} {Bp : β → List HP} (h : ∀ F, Ent W (A ++ F) (strings_getStringWriter v0 (fun ch w => ∃ y, ch = pc y ∧ sat W (Bp y ++ F) w) fun v w => ∃ x, v = r x ∧ sat W (B x ++ F) w)) : CnP Tryz.prog 169 [v0] W A r B pc Bp :=
  CnP.of (shape := strings_getStringWriter v0) Tryz.call169 (fun h => strings_getStringWriter_calls h) h

/-- strings_genericReplacer_lookup -/
def strings_genericReplacer_lookup (v0 v1 v2 : Value) (Kp : PK) (K : Value → WP) : WP :=
  opN Tryz.prog (sNil v0) Kp fun x14 =>
  opN Tryz.prog (sFA 168 x14 0) Kp fun x15 =>
  loop7 (fun I1 m1 _ y1 y6 y7 y8 y9 y10 y11 =>
   opN Tryz.prog (sEq .neq 163 (.tmp 16) (.const (.pointer none)) y10 (.pointer none)) Kp fun x17 =>
   condS x17
   (cut4 (fun J1 =>
     opN Tryz.prog (sNil y10) Kp fun x19 =>
     opN Tryz.prog (sFA 166 x19 1) Kp fun x20 =>
     opN Tryz.prog (sLoad 3 x20) Kp fun x21 =>
     opN Tryz.prog (sBin .gtr 3 x21 y9) Kp fun x23 =>
     gdK x23 true (fun k => k v2) fun x25 =>
     gdK x23 true (fun k => k x25) fun x26 =>
     gdK x26 true (fun k => k y10) fun x27 =>
     gdK x26 true (fun k => k v0) fun x28 =>
     gdK x26 true (opN Tryz.prog (sNil x28) Kp) fun x29 =>
     gdK x26 true (opN Tryz.prog (sFA 168 x29 0) Kp) fun x30 =>
     gdK x26 true (opN Tryz.prog (sEq .eql 163 (.tmp 27) (.tmp 30) x27 x30) Kp) fun x31 =>
     gdK x23 true (opN Tryz.prog (sPick x26 x31 (.bool false)) Kp) fun x32 =>
     gdK x23 true (opN Tryz.prog (sUn .not x32) Kp) fun x33 =>
     opN Tryz.prog (sPick x23 x33 (.bool false)) Kp fun x34 =>
     condS x34
     (opN Tryz.prog (sNil y10) Kp fun x36 =>
      opN Tryz.prog (sFA 166 x36 1) Kp fun x37 =>
      opN Tryz.prog (sLoad 3 x37) Kp fun x38 =>
      opN Tryz.prog (sNil y10) Kp fun x40 =>
      opN Tryz.prog (sFA 166 x40 0) Kp fun x41 =>
      opN Tryz.prog (sLoad 9 x41) Kp fun x42 =>
      J1 x42 y11 (.bool true) x38)
     (J1 y6 y7 y8 y9)) fun _ z6 z7 z8 z9 =>
    opN Tryz.prog (sEq .eql 9 (.tmp 44) (.const (.string ⟨#[]⟩)) y1 (.string ⟨#[]⟩)) Kp fun x45 =>
    condS x45
    (K (.tuple #[z6, z7, z8]))
    (opN Tryz.prog (sNil y10) Kp fun x47 =>
     opN Tryz.prog (sFA 166 x47 4) Kp fun x48 =>
     opN Tryz.prog (sLoad 164 x48) Kp fun x49 =>
     opN Tryz.prog (sEq .neq 164 (.tmp 49) (.const (.slice none 0 0)) x49 (.slice none 0 0)) Kp fun x50 =>
     condS x50
     (drS (stS Tryz.prog (sIx 9 y1 (.int .i64 0)) fun x53 =>
       stS Tryz.prog (sNil v0) fun x54 =>
       stS Tryz.prog (sFA 168 x54 2) fun x55 =>
       stS Tryz.prog (sIA 139 x55 x53) fun x56 =>
       stS Tryz.prog (sLoad 5 x56) fun x57 =>
       opN Tryz.prog (sConv 5 3 x57) Kp fun x59 =>
       opN Tryz.prog (sNil v0) Kp fun x61 =>
       opN Tryz.prog (sFA 168 x61 1) Kp fun x62 =>
       opN Tryz.prog (sLoad 3 x62) Kp fun x63 =>
       opN Tryz.prog (sEq .eql 3 (.tmp 59) (.tmp 63) x59 x63) Kp fun x64 =>
       condS x64
       (K (.tuple #[z6, z7, z8]))
       (opN Tryz.prog (sNil y10) Kp fun x66 =>
        opN Tryz.prog (sFA 166 x66 4) Kp fun x67 =>
        opN Tryz.prog (sLoad 164 x67) Kp fun x68 =>
        opN Tryz.prog (sIA 164 x68 x57) Kp fun x70 =>
        opN Tryz.prog (sLoad 163 x70) Kp fun x71 =>
        opN Tryz.prog (sSl 9 y1 (some (.int .i64 1)) none none) Kp fun x73 =>
        opN Tryz.prog (sBin .add 3 y11 (.int .i64 1)) Kp fun x75 =>
        next7 I1 m1 x73 z6 z7 z8 z9 x71 x75)))
     (opN Tryz.prog (sNil y10) Kp fun x77 =>
      opN Tryz.prog (sFA 166 x77 2) Kp fun x78 =>
      opN Tryz.prog (sLoad 9 x78) Kp fun x79 =>
      opN Tryz.prog (sEq .neq 9 (.tmp 79) (.const (.string ⟨#[]⟩)) x79 (.string ⟨#[]⟩)) Kp fun x80 =>
      gdK x80 true (fun k => k y1) fun x82 =>
      gdK x80 true (fun k => k y10) fun x83 =>
      gdK x80 true (opN Tryz.prog (sNil x83) Kp) fun x84 =>
      gdK x80 true (opN Tryz.prog (sFA 166 x84 2) Kp) fun x85 =>
      gdK x80 true (opN Tryz.prog (sLoad 9 x85) Kp) fun x86 =>
      gdK x80 true (opN Tryz.prog (sCall (fn 113) [x82, x86]) Kp) fun x87 =>
      opN Tryz.prog (sPick x80 x87 (.bool false)) Kp fun x88 =>
      condS x88
      (opN Tryz.prog (sNil y10) Kp fun x91 =>
       opN Tryz.prog (sFA 166 x91 2) Kp fun x92 =>
       opN Tryz.prog (sLoad 9 x92) Kp fun x93 =>
       opN Tryz.prog (sLen #[9] 3 [x93]) Kp fun x94 =>
       opN Tryz.prog (sBin .add 3 y11 x94) Kp fun x95 =>
       opN Tryz.prog (sNil y10) Kp fun x98 =>
       opN Tryz.prog (sFA 166 x98 2) Kp fun x99 =>
       opN Tryz.prog (sLoad 9 x99) Kp fun x100 =>
       opN Tryz.prog (sLen #[9] 3 [x100]) Kp fun x101 =>
       opN Tryz.prog (sSl 9 y1 (some x101) none none) Kp fun x102 =>
       opN Tryz.prog (sNil y10) Kp fun x104 =>
       opN Tryz.prog (sFA 166 x104 3) Kp fun x105 =>
       opN Tryz.prog (sLoad 163 x105) Kp fun x106 =>
       next7 I1 m1 x102 z6 z7 z8 z9 x106 x95)
      (K (.tuple #[z6, z7, z8])))))
   (K (.tuple #[y6, y7, y8]))) v1 (.string ⟨#[]⟩) (.int .i64 0) (.bool false) (.int .i64 0) x15 (.int .i64 0)
def strings_genericReplacer_lookup_an : Ann := { cuts := [(10, [6, 7, 8, 9])], blks := [], loops := [(4, [1, 6, 7, 8, 9, 10, 11])], drs := [(12, [(0, 1), (1, 1), (2, 1), (3, 1), (4, 1), (5, 1), (6, 1), (7, 1)])] }
theorem strings_genericReplacer_lookup_eq (v0 v1 v2 : Value) (Kp : PK) (K : Value → WP) : cevF Tryz.prog strings_genericReplacer_lookup_an Tryz.f170 [v0, v1, v2] Kp K = strings_genericReplacer_lookup v0 v1 v2 Kp K := by kernel_rfl
theorem strings_genericReplacer_lookup_calls {v0 v1 v2 : Value} {Kp : PK} {K : Value → WP} {w : World} (h : strings_genericReplacer_lookup v0 v1 v2 Kp K w) : Calls Tryz.prog 170 #[v0, v1, v2] w (after Kp K) :=
  calls_of_shape (calls_of_cev wide Tryz.func170 (an := strings_genericReplacer_lookup_an) (args := [v0, v1, v2]) (cast (congrFun (strings_genericReplacer_lookup_eq v0 v1 v2 Kp K) w).symm h))
theorem strings_genericReplacer_lookup_cn {v0 v1 v2 : Value} {W : World} {α : Type} {A : List HP} {r : α → Value} {B : α → List HP} (h : ∀ F, Ent W (A ++ F) (strings_genericReplacer_lookup v0 v1 v2 noP fun v w => ∃ x, v = r x ∧ sat W (B x ++ F) w)) : Cn Tryz.prog 170 [v0, v1, v2] W A r B :=
  Cn.of (shape := strings_genericReplacer_lookup v0 v1 v2) Tryz.call170 (fun h => strings_genericReplacer_lookup_calls h) h
theorem strings_genericReplacer_lookup_cnP {v0 v1 v2 : Value} {W : World} {α β : Type} {A : List HP} {r : α → Value} {B : α → List HP} {pc : β → List PanicEntry} {Bp : β → List HP} (h : ∀ F, Ent W (A ++ F) (strings_genericReplacer_lookup v0 v1 v2 (fun ch w => ∃ y, ch = pc y ∧ sat W (Bp y ++ F) w) fun v w => ∃ x, v = r x ∧ sat W (B x ++ F) w)) : CnP Tryz.prog 170 [v0, v1, v2] W A r B pc Bp :=
  CnP.of (shape := strings_genericReplacer_lookup v0 v1 v2) Tryz.call170 (fun h => strings_genericReplacer_lookup_calls h) h

/-- strings_byteReplacer_Replace -/
def strings_byteReplacer_Replace (v0 v1 : Value) (Kp : PK) (K : Value → WP) : WP :=
  loop2 (fun I1 m1 _ y5 y6 =>
   opN Tryz.prog (sLen #[9] 3 [v1]) Kp fun x10 =>
   opN Tryz.prog (sBin .lss 3 y6 x10) Kp fun x11 =>
   condS x11
   (opN Tryz.prog (sIx 9 v1 y6) Kp fun x16 =>
    opN Tryz.prog (sNil v0) Kp fun x19 =>
    opN Tryz.prog (sIA 140 x19 x16) Kp fun x20 =>
    opN Tryz.prog (sLoad 5 x20) Kp fun x21 =>
    opN Tryz.prog (sEq .neq 5 (.tmp 21) (.tmp 22) x21 x16) Kp fun x23 =>
    condS x23
    (cut1 (fun J1 =>
      opN Tryz.prog (sEq .eql 57 (.tmp 24) (.const (.slice none 0 0)) y5 (.slice none 0 0)) Kp fun x25 =>
      condS x25
      (opN Tryz.prog (sConv 9 57 v1) Kp fun x27 =>
       J1 x27)
      (J1 y5)) fun _ z5 =>
     opN Tryz.prog (sNil v0) Kp fun x32 =>
     opN Tryz.prog (sIA 140 x32 x16) Kp fun x33 =>
     opN Tryz.prog (sLoad 5 x33) Kp fun x34 =>
     opN Tryz.prog (sIA 57 z5 y6) Kp fun x35 =>
     opN Tryz.prog (sStore 5 x35 x34) Kp fun _ =>
     opN Tryz.prog (sBin .add 3 y6 (.int .i64 1)) Kp fun x13 =>
     next2 I1 m1 z5 x13)
    (opN Tryz.prog (sBin .add 3 y6 (.int .i64 1)) Kp fun x13 =>
     next2 I1 m1 y5 x13))
   (opN Tryz.prog (sEq .eql 57 (.tmp 36) (.const (.slice none 0 0)) y5 (.slice none 0 0)) Kp fun x37 =>
    condS x37
    (K v1)
    (opN Tryz.prog (sConv 57 9 y5) Kp fun x40 =>
     K x40))) (.slice none 0 0) (.int .i64 0)
def strings_byteReplacer_Replace_an : Ann := { cuts := [(9, [5])], blks := [], loops := [(3, [5, 6])], drs := [] }
theorem strings_byteReplacer_Replace_eq (v0 v1 : Value) (Kp : PK) (K : Value → WP) : cevF Tryz.prog strings_byteReplacer_Replace_an Tryz.f171 [v0, v1] Kp K = strings_byteReplacer_Replace v0 v1 Kp K := by kernel_rfl
theorem strings_byteReplacer_Replace_calls {v0 v1 : Value} {Kp : PK} {K : Value → WP} {w : World} (h : strings_byteReplacer_Replace v0 v1 Kp K w) : Calls Tryz.prog 171 #[v0, v1] w (after Kp K) :=
  calls_of_shape (calls_of_cev wide Tryz.func171 (an := strings_byteReplacer_Replace_an) (args := [v0, v1]) (cast (congrFun (strings_byteReplacer_Replace_eq v0 v1 Kp K) w).symm h))
theorem strings_byteReplacer_Replace_cn {v0 v1 : Value} {W : World} {α : Type} {A : List HP} {r : α → Value} {B : α → List HP} (h : ∀ F, Ent W (A ++ F) (strings_byteReplacer_Replace v0 v1 noP fun v w => ∃ x, v = r x ∧ sat W (B x ++ F) w)) : Cn Tryz.prog 171 [v0, v1] W A r B :=
  Cn.of (shape := strings_byteReplacer_Replace v0 v1) Tryz.call171 (fun h => strings_byteReplacer_Replace_calls h) h
theorem strings_byteReplacer_Replace_cnP {v0 v1 : Value} {W : World} {α β : Type} {A : List HP} {r : α → Value} {B : α → List HP} {pc : β → List PanicEntry} {Bp : β → List HP} (h : ∀ F, Ent W (A ++ F) (strings_byteReplacer_Replace v0 v1 (fun ch w => ∃ y, ch = pc y ∧ sat W (Bp y ++ F) w) fun v w => ∃ x, v = r x ∧ sat W (B x ++ F) w)) : CnP Tryz.prog 171 [v0, v1] W A r B pc Bp :=
  CnP.of (shape := strings_byteReplacer_Replace v0 v1) Tryz.call171 (fun h => strings_byteReplacer_Replace_calls h) h

/-- strings_byteStringReplacer_Replace -/
def strings_byteStringReplacer_Replace (v0 v1 : Value) (Kp : PK) (K : Value → WP) : WP :=
  opN Tryz.prog (sLen #[9] 3 [v1]) Kp fun x17 =>
  cut2 (fun J1 =>
   opN Tryz.prog (sNil v0) Kp fun x19 =>
   opN Tryz.prog (sFA 144 x19 1) Kp fun x20 =>
   opN Tryz.prog (sLoad 50 x20) Kp fun x21 =>
   opN Tryz.prog (sLen #[50] 3 [x21]) Kp fun x22 =>
   opN Tryz.prog (sBin .mul 3 x22 (.int .i64 8)) Kp fun x23 =>
   opN Tryz.prog (sLen #[9] 3 [v1]) Kp fun x25 =>
   opN Tryz.prog (sBin .leq 3 x23 x25) Kp fun x26 =>
   condS x26
   (opN Tryz.prog (sNil v0) Kp fun x28 =>
    opN Tryz.prog (sFA 144 x28 1) Kp fun x29 =>
    opN Tryz.prog (sLoad 50 x29) Kp fun x30 =>
    opN Tryz.prog (sLen #[50] 3 [x30]) Kp fun x31 =>
    loop3 (fun I1 m1 _ y5 y6 y32 =>
     opN Tryz.prog (sBin .lss 3 y32 x31) Kp fun x33 =>
     condS x33
     (opN Tryz.prog (sIA 50 x30 y32) Kp fun x34 =>
      opN Tryz.prog (sLoad 9 x34) Kp fun x35 =>
      opN Tryz.prog (sCall (fn 175) [v1, x35]) Kp fun x38 =>
      opN Tryz.prog (sEq .neq 3 (.tmp 39) (.const (.int .i64 0)) x38 (.int .i64 0)) Kp fun x40 =>
      condS x40
      (drS (stS Tryz.prog (sIx 9 x35 (.int .i64 0)) fun x45 =>
        stS Tryz.prog (sNil v0) fun x46 =>
        stS Tryz.prog (sFA 144 x46 0) fun x47 =>
        stS Tryz.prog (sIA 142 x47 x45) fun x48 =>
        stS Tryz.prog (sLoad 57 x48) fun x49 =>
        stS Tryz.prog (sLen #[57] 3 [x49]) fun x50 =>
        stS Tryz.prog (sBin .sub 3 x50 (.int .i64 1)) fun x51 =>
        stS Tryz.prog (sBin .mul 3 x38 x51) fun x52 =>
        stS Tryz.prog (sBin .add 3 y5 x52) fun x53 =>
        opN Tryz.prog (sBin .add 3 y32 (.int .i64 1)) Kp fun x54 =>
        next3 I1 m1 x53 (.bool true) x54))
      (opN Tryz.prog (sBin .add 3 y32 (.int .i64 1)) Kp fun x54 =>
       next3 I1 m1 y5 y6 x54))
     (J1 y5 y6)) x17 (.bool false) (.int .i64 0))
   (loop3 (fun I2 m2 _ y5 y6 y10 =>
     opN Tryz.prog (sLen #[9] 3 [v1]) Kp fun x57 =>
     opN Tryz.prog (sBin .lss 3 y10 x57) Kp fun x58 =>
     condS x58
     (opN Tryz.prog (sIx 9 v1 y10) Kp fun x63 =>
      opN Tryz.prog (sNil v0) Kp fun x66 =>
      opN Tryz.prog (sFA 144 x66 0) Kp fun x67 =>
      opN Tryz.prog (sIA 142 x67 x63) Kp fun x68 =>
      opN Tryz.prog (sLoad 57 x68) Kp fun x69 =>
      opN Tryz.prog (sEq .neq 57 (.tmp 69) (.const (.slice none 0 0)) x69 (.slice none 0 0)) Kp fun x70 =>
      condS x70
      (opN Tryz.prog (sNil v0) Kp fun x74 =>
       opN Tryz.prog (sFA 144 x74 0) Kp fun x75 =>
       opN Tryz.prog (sIA 142 x75 x63) Kp fun x76 =>
       opN Tryz.prog (sLoad 57 x76) Kp fun x77 =>
       opN Tryz.prog (sLen #[57] 3 [x77]) Kp fun x78 =>
       opN Tryz.prog (sBin .sub 3 x78 (.int .i64 1)) Kp fun x79 =>
       opN Tryz.prog (sBin .add 3 y5 x79) Kp fun x80 =>
       opN Tryz.prog (sBin .add 3 y10 (.int .i64 1)) Kp fun x60 =>
       next3 I2 m2 x80 (.bool true) x60)
      (opN Tryz.prog (sBin .add 3 y10 (.int .i64 1)) Kp fun x60 =>
       next3 I2 m2 y5 y6 x60))
     (J1 y5 y6)) x17 (.bool false) (.int .i64 0))) fun _ z5 z6 =>
  opN Tryz.prog (sUn .not z6) Kp fun x82 =>
  condS x82
  (K v1)
  (opN Tryz.prog (sMkSl 57 z5 z5) Kp fun x85 =>
   loop2 (fun I3 m3 _ y13 y14 =>
    opN Tryz.prog (sLen #[9] 3 [v1]) Kp fun x88 =>
    opN Tryz.prog (sBin .lss 3 y14 x88) Kp fun x89 =>
    condS x89
    (opN Tryz.prog (sIx 9 v1 y14) Kp fun x94 =>
     opN Tryz.prog (sNil v0) Kp fun x97 =>
     opN Tryz.prog (sFA 144 x97 0) Kp fun x98 =>
     opN Tryz.prog (sIA 142 x98 x94) Kp fun x99 =>
     opN Tryz.prog (sLoad 57 x99) Kp fun x100 =>
     opN Tryz.prog (sEq .neq 57 (.tmp 100) (.const (.slice none 0 0)) x100 (.slice none 0 0)) Kp fun x101 =>
     condS x101
     (drS (stS Tryz.prog (sSl 57 x85 (some y13) none none) fun x105 =>
       stS Tryz.prog (sNil v0) fun x108 =>
       stS Tryz.prog (sFA 144 x108 0) fun x109 =>
       stS Tryz.prog (sIA 142 x109 x94) fun x110 =>
       stS Tryz.prog (sLoad 57 x110) fun x111 =>
       opN Tryz.prog (sCopy #[57, 57] 3 [x105, x111]) Kp fun x112 =>
       stS Tryz.prog (sBin .add 3 y13 x112) fun x113 =>
       opN Tryz.prog (sBin .add 3 y14 (.int .i64 1)) Kp fun x91 =>
       next2 I3 m3 x113 x91))
     (opN Tryz.prog (sIA 57 x85 y13) Kp fun x117 =>
      opN Tryz.prog (sStore 5 x117 x94) Kp fun _ =>
      opN Tryz.prog (sBin .add 3 y13 (.int .i64 1)) Kp fun x119 =>
      opN Tryz.prog (sBin .add 3 y14 (.int .i64 1)) Kp fun x91 =>
      next2 I3 m3 x119 x91))
    (opN Tryz.prog (sConv 57 9 x85) Kp fun x121 =>
     K x121)) (.int .i64 0) (.int .i64 0))
def strings_byteStringReplacer_Replace_an : Ann := { cuts := [(19, [5, 6])], blks := [], loops := [(5, [5, 6, 32]), (13, [5, 6, 10]), (24, [13, 14])], drs := [(9, [(0, 1), (1, 1), (2, 1), (3, 1), (4, 1), (5, 1), (6, 1), (7, 1), (8, 1), (9, 1), (10, 1), (11, 1), (12, 1), (13, 1)]), (28, [(0, 2), (1, 1), (2, 1), (3, 1), (4, 1), (5, 1), (6, 1), (7, 1), (8, 1), (9, 1), (10, 0), (11, 1), (12, 1)])] }
theorem strings_byteStringReplacer_Replace_eq (v0 v1 : Value) (Kp : PK) (K : Value → WP) : cevF Tryz.prog strings_byteStringReplacer_Replace_an Tryz.f173 [v0, v1] Kp K = strings_byteStringReplacer_Replace v0 v1 Kp K := by kernel_rfl
theorem strings_byteStringReplacer_Replace_calls {v0 v1 : Value} {Kp : PK} {K : Value → WP} {w : World} (h : strings_byteStringReplacer_Replace v0 v1 Kp K w) : Calls Tryz.prog 173 #[v0, v1] w (after Kp K) :=
  calls_of_shape (calls_of_cev wide Tryz.func173 (an := strings_byteStringReplacer_Replace_an) (args := [v0, v1]) (cast (congrFun (strings_byteStringReplacer_Replace_eq v0 v1 Kp K) w).symm h))
theorem strings_byteStringReplacer_Replace_cn {v0 v1 : Value} {W : World} {α : Type} {A : List HP} {r : α → Value} {B : α → List HP} (h : ∀ F, Ent W (A ++ F) (strings_byteStringReplacer_Replace v0 v1 noP fun v w => ∃ x, v = r x ∧ sat W (B x ++ F) w)) : Cn Tryz.prog 173 [v0, v1] W A r B :=
  Cn.of (shape := strings_byteStringReplacer_Replace v0 v1) Tryz.call173 (fun h => strings_byteStringReplacer_Replace_calls h) h
theorem strings_byteStringReplacer_Replace_cnP {v0 v1 : Value} {W : World} {α β : Type} {A : List HP} {r : α → Value} {B : α → List HP} {pc : β → List PanicEntry} {Bp : β → List HP} (h : ∀ F, Ent W (A ++ F) (strings_byteStringReplacer_Replace v0 v1 (fun ch w => ∃ y, ch = pc y ∧ sat W (Bp y ++ F) w) fun v w => ∃ x, v = r x ∧ sat W (B x ++ F) w)) : CnP Tryz.prog 173 [v0, v1] W A r B pc Bp :=
  CnP.of (shape := strings_byteStringReplacer_Replace v0 v1) Tryz.call173 (fun h => strings_byteStringReplacer_Replace_calls h) h

/-- strings_Count -/
def strings_Count (v0 v1 : Value) (Kp : PK) (K : Value → WP) : WP :=
  opN Tryz.prog (sLen #[9] 3 [v1]) Kp fun x8 =>
  opN Tryz.prog (sEq .eql 3 (.tmp 8) (.const (.int .i64 0)) x8 (.int .i64 0)) Kp fun x9 =>
  condS x9
  (opN Tryz.prog (sCall (fn 176) [v0]) Kp fun x11 =>
   opN Tryz.prog (sBin .add 3 x11 (.int .i64 1)) Kp fun x12 =>
   K x12)
  (opN Tryz.prog (sLen #[9] 3 [v1]) Kp fun x14 =>
   opN Tryz.prog (sEq .eql 3 (.tmp 14) (.const (.int .i64 1)) x14 (.int .i64 1)) Kp fun x15 =>
   condS x15
   (opN Tryz.prog (sIx 9 v1 (.int .i64 0)) Kp fun x18 =>
    opN Tryz.prog (sCall (fn 177) [v0, x18]) Kp fun x19 =>
    K x19)
   (loop2 (fun I1 m1 _ y0 y5 =>
     opN Tryz.prog (sCall (fn 178) [y0, v1]) Kp fun x22 =>
     opN Tryz.prog (sEq .eql 3 (.tmp 23) (.const (.int .i64 (-1))) x22 (.int .i64 (-1))) Kp fun x24 =>
     condS x24
     (K y5)
     (opN Tryz.prog (sBin .add 3 y5 (.int .i64 1)) Kp fun x27 =>
      opN Tryz.prog (sLen #[9] 3 [v1]) Kp fun x31 =>
      opN Tryz.prog (sBin .add 3 x22 x31) Kp fun x32 =>
      opN Tryz.prog (sSl 9 y0 (some x32) none none) Kp fun x33 =>
      next2 I1 m1 x33 x27)) v0 (.int .i64 0)))
def strings_Count_an : Ann := { cuts := [], blks := [], loops := [(6, [0, 5])], drs := [] }
theorem strings_Count_eq (v0 v1 : Value) (Kp : PK) (K : Value → WP) : cevF Tryz.prog strings_Count_an Tryz.f175 [v0, v1] Kp K = strings_Count v0 v1 Kp K := by kernel_rfl
theorem strings_Count_calls {v0 v1 : Value} {Kp : PK} {K : Value → WP} {w : World} (h : strings_Count v0 v1 Kp K w) : Calls Tryz.prog 175 #[v0, v1] w (after Kp K) :=
  calls_of_shape (calls_of_cev wide Tryz.func175 (an := strings_Count_an) (args := [v0, v1]) (cast (congrFun (strings_Count_eq v0 v1 Kp K) w).symm h))
theorem strings_Count_cn {v0 v1 : Value} {W : World} {α : Type} {A : List HP} {r : α → Value} {B : α → List HP} (h : ∀ F, Ent W (A ++ F) (strings_Count v0 v1 noP fun v w => ∃ x, v = r x ∧ sat W (B x ++ F) w)) : Cn Tryz.prog 175 [v0, v1] W A r B :=
  Cn.of (shape := strings_Count v0 v1) Tryz.call175 (fun h => strings_Count_calls h) h
theorem strings_Count_cnP {v0 v1 : Value} {W : World} {α β : Type} {A : List HP} {r : α → Value} {B : α → List HP} {pc : β → List PanicEntry} {Bp : β → List HP} (h : ∀ F, Ent W (A ++ F) (strings_Count v0 v1 (fun ch w => ∃ y, ch = pc y ∧ sat W (Bp y ++ F) w) fun v w => ∃ x, v = r x ∧ sat W (B x ++ F) w)) : CnP Tryz.prog 175 [v0, v1] W A r B pc Bp :=
  CnP.of (shape := strings_Count v0 v1) Tryz.call175 (fun h => strings_Count_calls h) h

/-- strings_Index -/
def strings_Index (v0 v1 : Value) (Kp : PK) (K : Value → WP) : WP :=
  opN Tryz.prog (sCall (fn 65) [v0, v1]) Kp fun x7 =>
  K x7
def strings_Index_an : Ann := { cuts := [], blks := [], loops := [], drs := [] }
theorem strings_Index_eq (v0 v1 : Value) (Kp : PK) (K : Value → WP) : cevF Tryz.prog strings_Index_an Tryz.f178 [v0, v1] Kp K = strings_Index v0 v1 Kp K := by kernel_rfl
theorem strings_Index_calls {v0 v1 : Value} {Kp : PK} {K : Value → WP} {w : World} (h : strings_Index v0 v1 Kp K w) : Calls Tryz.prog 178 #[v0, v1] w (after Kp K) :=
  calls_of_shape (calls_of_cev wide Tryz.func178 (an := strings_Index_an) (args := [v0, v1]) (cast (congrFun (strings_Index_eq v0 v1 Kp K) w).symm h))
theorem strings_Index_cn {v0 v1 : Value} {W : World} {α : Type} {A : List HP} {r : α → Value} {B : α → List HP} (h : ∀ F, Ent W (A ++ F) (strings_Index v0 v1 noP fun v w => ∃ x, v = r x ∧ sat W (B x ++ F) w)) : Cn Tryz.prog 178 [v0, v1] W A r B :=
  Cn.of (shape := strings_Index v0 v1) Tryz.call178 (fun h => strings_Index_calls h) h
theorem strings_Index_cnP {v0 v1 : Value} {W : World} {α β : Type} {A : List HP} {r : α → Value} {B : α → List HP} {pc : β → List PanicEntry} {Bp : β → List HP} (h : ∀ F, Ent W (A ++ F) (strings_Index v0 v1 (fun ch w => ∃ y, ch = pc y ∧ sat W (Bp y ++ F) w) fun v w => ∃ x, v = r x ∧ sat W (B x ++ F) w)) : CnP Tryz.prog 178 [v0, v1] W A r B pc Bp :=
  CnP.of (shape := strings_Index v0 v1) Tryz.call178 (fun h => strings_Index_calls h) h

/-- strings_Builder_Write -/
def strings_Builder_Write (v0 v1 : Value) (Kp : PK) (K : Value → WP) : WP :=
  opN Tryz.prog (sCall (fn 163) [v0]) Kp fun x7 =>
  opN Tryz.prog (sNil v0) Kp fun x10 =>
  opN Tryz.prog (sFA 237 x10 1) Kp fun x11 =>
  opN Tryz.prog (sLoad 57 x11) Kp fun x12 =>
  opN Tryz.prog (sApp #[57, 57] 57 [x12, v1]) Kp fun x14 =>
  opN Tryz.prog (sNil v0) Kp fun x15 =>
  opN Tryz.prog (sFA 237 x15 1) Kp fun x16 =>
  opN Tryz.prog (sStore 57 x16 x14) Kp fun _ =>
  opN Tryz.prog (sLen #[57] 3 [v1]) Kp fun x18 =>
  K (.tuple #[x18, .nilIface])
def strings_Builder_Write_an : Ann := { cuts := [], blks := [], loops := [], drs := [] }
theorem strings_Builder_Write_eq (v0 v1 : Value) (Kp : PK) (K : Value → WP) : cevF Tryz.prog strings_Builder_Write_an Tryz.f184 [v0, v1] Kp K = strings_Builder_Write v0 v1 Kp K := by kernel_rfl
theorem strings_Builder_Write_calls {v0 v1 : Value} {Kp : PK} {K : Value → WP} {w : World} (h : strings_Builder_Write v0 v1 Kp K w) : Calls Tryz.prog 184 #[v0, v1] w (after Kp K) :=
  calls_of_shape (calls_of_cev wide Tryz.func184 (an := strings_Builder_Write_an) (args := [v0, v1]) (cast (congrFun (strings_Builder_Write_eq v0 v1 Kp K) w).symm h))
theorem strings_Builder_Write_cn {v0 v1 : Value} {W : World} {α : Type} {A : List HP} {r : α → Value} {B : α → List HP} (h : ∀ F, Ent W (A ++ F) (strings_Builder_Write v0 v1 noP fun v w => ∃ x, v = r x ∧ sat W (B x ++ F) w)) : Cn Tryz.prog 184 [v0, v1] W A r B :=
  Cn.of (shape := strings_Builder_Write v0 v1) Tryz.call184 (fun h => strings_Builder_Write_calls h) h
theorem strings_Builder_Write_cnP {v0 v1 : Value} {W : World} {α β : Type} {A : List HP} {r : α → Value} {B : α → List HP} {pc : β → List PanicEntry} {Bp : β → List HP} (h : ∀ F, Ent W (A ++ F) (strings_Builder_Write v0 v1 (fun ch w => ∃ y, ch = pc y ∧ sat W (Bp y ++ F) w) fun v w => ∃ x, v = r x ∧ sat W (B x ++ F) w)) : CnP Tryz.prog 184 [v0, v1] W A r B pc Bp :=
  CnP.of (shape := strings_Builder_Write v0 v1) Tryz.call184 (fun h => strings_Builder_Write_calls h) h

/-- strings_appendSliceWriter_Write -/
def strings_appendSliceWriter_Write (v0 v1 : Value) (Kp : PK) (K : Value → WP) : WP :=
  opN Tryz.prog (sNil v0) Kp fun x8 =>
  opN Tryz.prog (sLoad 244 x8) Kp fun x9 =>
  opN Tryz.prog (sApp #[244, 57] 244 [x9, v1]) Kp fun x11 =>
  opN Tryz.prog (sNil v0) Kp fun x12 =>
  opN Tryz.prog (sStore 244 x12 x11) Kp fun _ =>
  opN Tryz.prog (sLen #[57] 3 [v1]) Kp fun x14 =>
  K (.tuple #[x14, .nilIface])
def strings_appendSliceWriter_Write_an : Ann := { cuts := [], blks := [], loops := [], drs := [] }
theorem strings_appendSliceWriter_Write_eq (v0 v1 : Value) (Kp : PK) (K : Value → WP) : cevF Tryz.prog strings_appendSliceWriter_Write_an Tryz.f185 [v0, v1] Kp K = strings_appendSliceWriter_Write v0 v1 Kp K := by kernel_rfl
theorem strings_appendSliceWriter_Write_calls {v0 v1 : Value} {Kp : PK} {K : Value → WP} {w : World} (h : strings_appendSliceWriter_Write v0 v1 Kp K w) : Calls Tryz.prog 185 #[v0, v1] w (after Kp K) :=
  calls_of_shape (calls_of_cev wide Tryz.func185 (an := strings_appendSliceWriter_Write_an) (args := [v0, v1]) (cast (congrFun (strings_appendSliceWriter_Write_eq v0 v1 Kp K) w).symm h))
theorem strings_appendSliceWriter_Write_cn {v0 v1 : Value} {W : World} {α : Type} {A : List HP} {r : α → Value} {B : α → List HP} (h : ∀ F, Ent W (A ++ F) (strings_appendSliceWriter_Write v0 v1 noP fun v w => ∃ x, v = r x ∧ sat W (B x ++ F) w)) : Cn Tryz.prog 185 [v0, v1] W A r B :=
  Cn.of (shape := strings_appendSliceWriter_Write v0 v1) Tryz.call185 (fun h => strings_appendSliceWriter_Write_calls h) h
theorem strings_appendSliceWriter_Write_cnP {v0 v1 : Value} {W : World} {α β : Type} {A : List HP} {r : α → Value} {B : α → List HP} {pc : β → List PanicEntry} {Bp : β → List HP} (h : ∀ F, Ent W (A ++ F) (strings_appendSliceWriter_Write v0 v1 (fun ch w => ∃ y, ch = pc y ∧ sat W (Bp y ++ F) w) fun v w => ∃ x, v = r x ∧ sat W (B x ++ F) w)) : CnP Tryz.prog 185 [v0, v1] W A r B pc Bp :=
  CnP.of (shape := strings_appendSliceWriter_Write v0 v1) Tryz.call185 (fun h => strings_appendSliceWriter_Write_calls h) h

/-- strings_appendSliceWriter_WriteString -/
def strings_appendSliceWriter_WriteString (v0 v1 : Value) (Kp : PK) (K : Value → WP) : WP :=
  opN Tryz.prog (sNil v0) Kp fun x8 =>
  opN Tryz.prog (sLoad 244 x8) Kp fun x9 =>
  opN Tryz.prog (sApp #[244, 9] 244 [x9, v1]) Kp fun x11 =>
  opN Tryz.prog (sNil v0) Kp fun x12 =>
  opN Tryz.prog (sStore 244 x12 x11) Kp fun _ =>
  opN Tryz.prog (sLen #[9] 3 [v1]) Kp fun x14 =>
  K (.tuple #[x14, .nilIface])
def strings_appendSliceWriter_WriteString_an : Ann := { cuts := [], blks := [], loops := [], drs := [] }
theorem strings_appendSliceWriter_WriteString_eq (v0 v1 : Value) (Kp : PK) (K : Value → WP) : cevF Tryz.prog strings_appendSliceWriter_WriteString_an Tryz.f186 [v0, v1] Kp K = strings_appendSliceWriter_WriteString v0 v1 Kp K := by kernel_rfl
theorem strings_appendSliceWriter_WriteString_calls {v0 v1 : Value} {Kp : PK} {K : Value → WP} {w : World} (h : strings_appendSliceWriter_WriteString v0 v1 Kp K w) : Calls Tryz.prog 186 #[v0, v1] w (after Kp K) :=
  calls_of_shape (calls_of_cev wide Tryz.func186 (an := strings_appendSliceWriter_WriteString_an) (args := [v0, v1]) (cast (congrFun (strings_appendSliceWriter_WriteString_eq v0 v1 Kp K) w).symm h))
theorem strings_appendSliceWriter_WriteString_cn {v0 v1 : Value} {W : World} {α : Type} {A : List HP} {r : α → Value} {B : α → List HP} (h : ∀ F, Ent W (A ++ F) (strings_appendSliceWriter_WriteString v0 v1 noP fun v w => ∃ x, v = r x ∧ sat W (B x ++ F) w)) : Cn Tryz.prog 186 [v0, v1] W A r B :=
  Cn.of (shape := strings_appendSliceWriter_WriteString v0 v1) Tryz.call186 (fun h => strings_appendSliceWriter_WriteString_calls h) h
theorem strings_appendSliceWriter_WriteString_cnP {v0 v1 : Value} {W : World} {α β : Type} {A : List HP} {r : α → Value} {B : α → List HP} {pc : β → List PanicEntry} {Bp : β → List HP} (h : ∀ F, Ent W (A ++ F) (strings_appendSliceWriter_WriteString v0 v1 (fun ch w => ∃ y, ch = pc y ∧ sat W (Bp y ++ F) w) fun v w => ∃ x, v = r x ∧ sat W (B x ++ F) w)) : CnP Tryz.prog 186 [v0, v1] W A r B pc Bp :=
  CnP.of (shape := strings_appendSliceWriter_WriteString v0 v1) Tryz.call186 (fun h => strings_appendSliceWriter_WriteString_calls h) h

/-- strings_Replacer_WriteString -/
def strings_Replacer_WriteString (v0 v1 v2 : Value) (Kp : PK) (K : Value → WP) : WP :=
  opN Tryz.prog (sNil v0) Kp fun x9 =>
  opN Tryz.prog (sFA 100 x9 0) Kp fun x10 =>
  opN Tryz.prog (sMkF (.func 39) [v0] []) Kp fun x12 =>
  opN Tryz.prog (sCall (fn 38) [x10, x12]) Kp fun x13 =>
  opN Tryz.prog (sNil v0) Kp fun x15 =>
  opN Tryz.prog (sFA 100 x15 1) Kp fun x16 =>
  opN Tryz.prog (sLoad 98 x16) Kp fun x17 =>
  opN Tryz.prog (sInv x17 "WriteString" [v1, v2]) Kp fun x20 =>
  opN Tryz.prog (sExt x20 0) Kp fun x21 =>
  opN Tryz.prog (sExt x20 1) Kp fun x22 =>
  K (.tuple #[x21, x22])
def strings_Replacer_WriteString_an : Ann := { cuts := [], blks := [], loops := [], drs := [] }
theorem strings_Replacer_WriteString_eq (v0 v1 v2 : Value) (Kp : PK) (K : Value → WP) : cevF Tryz.prog strings_Replacer_WriteString_an Tryz.f188 [v0, v1, v2] Kp K = strings_Replacer_WriteString v0 v1 v2 Kp K := by kernel_rfl
theorem strings_Replacer_WriteString_calls {v0 v1 v2 : Value} {Kp : PK} {K : Value → WP} {w : World} (h : strings_Replacer_WriteString v0 v1 v2 Kp K w) : Calls Tryz.prog 188 #[v0, v1, v2] w (after Kp K) :=
  calls_of_shape (calls_of_cev wide Tryz.func188 (an := strings_Replacer_WriteString_an) (args := [v0, v1, v2]) (cast (congrFun (strings_Replacer_WriteString_eq v0 v1 v2 Kp K) w).symm h))
theorem strings_Replacer_WriteString_cn {v0 v1 v2 : Value} {W : World} {α : Type} {A : List HP} {r : α → Value} {B : α → List HP} (h : ∀ F, Ent W (A ++ F) (strings_Replacer_WriteString v0 v1 v2 noP fun v w => ∃ x, v = r x ∧ sat W (B x ++ F) w)) : Cn Tryz.prog 188 [v0, v1, v2] W A r B :=
  Cn.of (shape := strings_Replacer_WriteString v0 v1 v2) Tryz.call188 (fun h => strings_Replacer_WriteString_calls h) h
theorem strings_Replacer_WriteString_cnP {v0 v1 v2 : Value} {W : World} {α β : Type} {A : List HP} {r : α → Value} {B : α → List HP} {pc : β → List PanicEntry} {Bp : β → List HP} (h : ∀ F, Ent W (A ++ F) (strings_Replacer_WriteString v0 v1 v2 (fun ch w => ∃ y, ch = pc y ∧ sat W (Bp y ++ F) w) fun v w => ∃ x, v = r x ∧ sat W (B x ++ F) w)) : CnP Tryz.prog 188 [v0, v1, v2] W A r B pc Bp :=
  CnP.of (shape := strings_Replacer_WriteString v0 v1 v2) Tryz.call188 (fun h => strings_Replacer_WriteString_calls h) h

end Go.Proofs.YtcigoifhcfbcdaaGreatDoor.S
