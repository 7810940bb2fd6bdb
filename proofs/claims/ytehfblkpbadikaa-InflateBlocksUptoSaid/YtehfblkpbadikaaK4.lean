/- The shapes of functions of the loaded program, printed by a program of mine; each is proved to be what the model asks of the function. No conditions. (9 texts made one; each says below what it is.) -/
import Derived.Test.YtehfblkpbadikaaChecked
import Derived.Test.YtehfblkpbadikaaK3
import Derived.KernelRfl
import Derived.Test.YtehfblkpbadikaaK1
import Derived.Test.YtehfblkpbadikaaK2
set_option linter.unusedVariables false
set_option linter.unusedSimpArgs false
set_option linter.unusedSectionVars false
/-! The shapes of functions of the loaded program, printed by a program of mine; each is proved to be what the model asks of the function. No conditions. -/
namespace Go.Proofs.Ytehfblkpbadikaa.S
open Go Go.Proofs.Ytehfblkpbadikaa.Sh Go.Proofs.Ytehfblkpbadikaa.Sl


/-- ref05_stream_dynamic -/
def ref05_stream_dynamic (v0 : Value) (Kp : PK) (K : Value → WP) : WP :=
  opN Try.prog (sCall (fn 72) [v0, (.int .i64 5)]) Kp fun x14 =>
  opN Try.prog (sCall (fn 72) [v0, (.int .i64 5)]) Kp fun x16 =>
  opN Try.prog (sCall (fn 72) [v0, (.int .i64 4)]) Kp fun x18 =>
  cut0 (fun J1 =>
   opN Try.prog (sNil v0) Kp fun x20 =>
   opN Try.prog (sFA 132 x20 3) Kp fun x21 =>
   opN Try.prog (sLoad 3 x21) Kp fun x22 =>
   opN Try.prog (sEq .eql 3 (.tmp 22) (.const (.int .i64 0)) x22 (.int .i64 0)) Kp fun x23 =>
   gdK x23 true (fun k => k x14) fun x25 =>
   gdK x23 true (opN Try.prog (sBin .gtr 3 x25 (.int .i64 29)) Kp) fun x26 =>
   gdK x23 true (fun k => k x26) fun x27 =>
   gdK x27 false (fun k => k x16) fun x28 =>
   gdK x27 false (opN Try.prog (sBin .gtr 3 x28 (.int .i64 29)) Kp) fun x29 =>
   gdK x23 true (opN Try.prog (sPick x27 (.bool true) x29) Kp) fun x30 =>
   opN Try.prog (sPick x23 x30 (.bool false)) Kp fun x31 =>
   condS x31
   (opN Try.prog (sCall (fn 77) [v0, (.int .i64 31)]) Kp fun x33 =>
    J1)
   (J1)) fun _ =>
  opN Try.prog (sMkSl 22 (.int .i64 19) (.int .i64 19)) Kp fun x34 =>
  opN Try.prog (sCall (fn 96) []) Kp fun x35 =>
  loop1 (fun I1 m1 _ y9 =>
   opN Try.prog (sBin .add 3 x18 (.int .i64 4)) Kp fun x38 =>
   opN Try.prog (sBin .lss 3 y9 x38) Kp fun x39 =>
   gdK x39 true (fun k => k v0) fun x41 =>
   gdK x39 true (opN Try.prog (sNil x41) Kp) fun x42 =>
   gdK x39 true (opN Try.prog (sFA 132 x42 3) Kp) fun x43 =>
   gdK x39 true (opN Try.prog (sLoad 3 x43) Kp) fun x44 =>
   gdK x39 true (opN Try.prog (sEq .eql 3 (.tmp 44) (.const (.int .i64 0)) x44 (.int .i64 0)) Kp) fun x45 =>
   opN Try.prog (sPick x39 x45 (.bool false)) Kp fun x46 =>
   condS x46
   (drS (stD Try.prog (sIA 22 x35 y9) fun D3 x52 =>
     stD Try.prog (sLoad 3 x52) fun D4 x53 =>
     opN Try.prog (sCall (fn 72) [v0, (.int .i64 3)]) Kp fun x55 =>
     (fun w => D4 w ∧ (fun w => D3 w ∧ (stS Try.prog (sIA 22 x34 x53) fun x56 =>
        opN Try.prog (sStore 3 x56 x55) Kp fun _ =>
        opN Try.prog (sBin .add 3 y9 (.int .i64 1)) Kp fun x48 =>
        next1 I1 m1 x48) w) w)))
   (cut0 (fun J2 =>
     opN Try.prog (sNil v0) Kp fun x58 =>
     opN Try.prog (sFA 132 x58 3) Kp fun x59 =>
     opN Try.prog (sLoad 3 x59) Kp fun x60 =>
     opN Try.prog (sEq .eql 3 (.tmp 60) (.const (.int .i64 0)) x60 (.int .i64 0)) Kp fun x61 =>
     gdK x61 true (fun k => k x34) fun x63 =>
     gdK x61 true (opN Try.prog (sCall (fn 23) [x63]) Kp) fun x64 =>
     gdK x61 true (opN Try.prog (sUn .not x64) Kp) fun x65 =>
     opN Try.prog (sPick x61 x65 (.bool false)) Kp fun x66 =>
     condS x66
     (opN Try.prog (sCall (fn 77) [v0, (.int .i64 30)]) Kp fun x68 =>
      J2)
     (J2)) fun _ =>
    opN Try.prog (sNil v0) Kp fun x70 =>
    opN Try.prog (sFA 132 x70 3) Kp fun x71 =>
    opN Try.prog (sLoad 3 x71) Kp fun x72 =>
    opN Try.prog (sEq .neq 3 (.tmp 72) (.const (.int .i64 0)) x72 (.int .i64 0)) Kp fun x73 =>
    condS x73
    (K (.tuple #[(.slice none 0 0), (.slice none 0 0)]))
    (opN Try.prog (sCall (fn 36) [x34]) Kp fun x76 =>
     opN Try.prog (sExt x76 0) Kp fun x77 =>
     opN Try.prog (sExt x76 1) Kp fun x78 =>
     opN Try.prog (sBin .add 3 x14 (.int .i64 257)) Kp fun x82 =>
     opN Try.prog (sBin .add 3 x82 x16) Kp fun x84 =>
     opN Try.prog (sBin .add 3 x84 (.int .i64 1)) Kp fun x85 =>
     opN Try.prog (sCall (fn 97) [v0, x77, x85]) Kp fun x86 =>
     opN Try.prog (sNil v0) Kp fun x88 =>
     opN Try.prog (sFA 132 x88 3) Kp fun x89 =>
     opN Try.prog (sLoad 3 x89) Kp fun x90 =>
     opN Try.prog (sEq .neq 3 (.tmp 90) (.const (.int .i64 0)) x90 (.int .i64 0)) Kp fun x91 =>
     condS x91
     (K (.tuple #[(.slice none 0 0), (.slice none 0 0)]))
     (cut0 (fun J3 =>
       opN Try.prog (sIA 22 x86 (.int .i64 256)) Kp fun x93 =>
       opN Try.prog (sLoad 3 x93) Kp fun x94 =>
       opN Try.prog (sEq .eql 3 (.tmp 94) (.const (.int .i64 0)) x94 (.int .i64 0)) Kp fun x95 =>
       gdK x95 false (fun k => k x86) fun x97 =>
       gdK x95 false (fun k => k x14) fun x98 =>
       gdK x95 false (opN Try.prog (sBin .add 3 x98 (.int .i64 257)) Kp) fun x99 =>
       gdK x95 false (opN Try.prog (sSl 22 x97 none (some x99) none) Kp) fun x100 =>
       gdK x95 false (opN Try.prog (sCall (fn 98) [x100]) Kp) fun x101 =>
       gdK x95 false (opN Try.prog (sUn .not x101) Kp) fun x102 =>
       opN Try.prog (sPick x95 (.bool true) x102) Kp fun x103 =>
       gdK x103 false (fun k => k x86) fun x105 =>
       gdK x103 false (fun k => k x14) fun x106 =>
       gdK x103 false (opN Try.prog (sBin .add 3 x106 (.int .i64 257)) Kp) fun x107 =>
       gdK x103 false (opN Try.prog (sSl 22 x105 (some x107) none none) Kp) fun x108 =>
       gdK x103 false (opN Try.prog (sCall (fn 98) [x108]) Kp) fun x109 =>
       gdK x103 false (opN Try.prog (sUn .not x109) Kp) fun x110 =>
       opN Try.prog (sPick x103 (.bool true) x110) Kp fun x111 =>
       condS x111
       (opN Try.prog (sCall (fn 77) [v0, (.int .i64 30)]) Kp fun x113 =>
        J3)
       (J3)) fun _ =>
      drS (stS Try.prog (sBin .add 3 x14 (.int .i64 257)) fun x116 =>
       stS Try.prog (sSl 22 x86 none (some x116) none) fun x117 =>
       stS Try.prog (sBin .add 3 x14 (.int .i64 257)) fun x120 =>
       stS Try.prog (sSl 22 x86 (some x120) none none) fun x121 =>
       K (.tuple #[x117, x121])))))) (.int .i64 0)
def ref05_stream_dynamic_an : Ann := { cuts := [(6, []), (14, []), (22, [])], blks := [], loops := [(9, [9])], drs := [(11, [(0, 2), (1, 2), (2, 2), (3, 3), (4, 3), (5, 1), (6, 0), (7, 1), (8, 0)]), (22, [(0, 1), (1, 1), (2, 1), (3, 1), (4, 1), (5, 1), (6, 1), (7, 1), (8, 1), (9, 1)])] }
theorem ref05_stream_dynamic_eq (v0 : Value) (Kp : PK) (K : Value → WP) : cevF Try.prog ref05_stream_dynamic_an Try.f76 [v0] Kp K = ref05_stream_dynamic v0 Kp K := by kernel_rfl
theorem ref05_stream_dynamic_calls {v0 : Value} {Kp : PK} {K : Value → WP} {w : World} (h : ref05_stream_dynamic v0 Kp K w) : Calls Try.prog 76 #[v0] w (after Kp K) :=
  calls_of_shape (calls_of_cev wide Try.func76 (an := ref05_stream_dynamic_an) (args := [v0]) (cast (congrFun (ref05_stream_dynamic_eq v0 Kp K) w).symm h))
theorem ref05_stream_dynamic_cn {v0 : Value} {W : World} {α : Type} {A : List HP} {r : α → Value} {B : α → List HP} (h : ∀ F, Ent W (A ++ F) (ref05_stream_dynamic v0 noP fun v w => ∃ x, v = r x ∧ sat W (B x ++ F) w)) : Cn Try.prog 76 [v0] W A r B :=
  Cn.of (shape := ref05_stream_dynamic v0) Try.call76 (fun h => ref05_stream_dynamic_calls h) h
theorem ref05_stream_dynamic_cnP {v0 : Value} {W : World} {α β : Type} {A : List HP} {r : α → Value} {B : α → List HP} {pc : β → List PanicEntry} {Bp : β → List HP} (h : ∀ F, Ent W (A ++ F) (ref05_stream_dynamic v0 (fun ch w => ∃ y, ch = pc y ∧ sat W (Bp y ++ F) w) fun v w => ∃ x, v = r x ∧ sat W (B x ++ F) w)) : CnP Try.prog 76 [v0] W A r B pc Bp :=
  CnP.of (shape := ref05_stream_dynamic v0) Try.call76 (fun h => ref05_stream_dynamic_calls h) h

/-- ref05_stream_fail -/
def ref05_stream_fail (v0 v1 : Value) (Kp : PK) (K : Value → WP) : WP :=
  opN Try.prog (sNil v0) Kp fun x5 =>
  opN Try.prog (sFA 132 x5 3) Kp fun x6 =>
  opN Try.prog (sLoad 3 x6) Kp fun x7 =>
  opN Try.prog (sEq .eql 3 (.tmp 7) (.const (.int .i64 0)) x7 (.int .i64 0)) Kp fun x8 =>
  condS x8
  (opN Try.prog (sNil v0) Kp fun x11 =>
   opN Try.prog (sFA 132 x11 3) Kp fun x12 =>
   opN Try.prog (sStore 3 x12 v1) Kp fun _ =>
   K (.tuple #[]))
  (K (.tuple #[]))
def ref05_stream_fail_an : Ann := { cuts := [], blks := [], loops := [], drs := [] }
theorem ref05_stream_fail_eq (v0 v1 : Value) (Kp : PK) (K : Value → WP) : cevF Try.prog ref05_stream_fail_an Try.f77 [v0, v1] Kp K = ref05_stream_fail v0 v1 Kp K := by kernel_rfl
theorem ref05_stream_fail_calls {v0 v1 : Value} {Kp : PK} {K : Value → WP} {w : World} (h : ref05_stream_fail v0 v1 Kp K w) : Calls Try.prog 77 #[v0, v1] w (after Kp K) :=
  calls_of_shape (calls_of_cev wide Try.func77 (an := ref05_stream_fail_an) (args := [v0, v1]) (cast (congrFun (ref05_stream_fail_eq v0 v1 Kp K) w).symm h))
theorem ref05_stream_fail_cn {v0 v1 : Value} {W : World} {α : Type} {A : List HP} {r : α → Value} {B : α → List HP} (h : ∀ F, Ent W (A ++ F) (ref05_stream_fail v0 v1 noP fun v w => ∃ x, v = r x ∧ sat W (B x ++ F) w)) : Cn Try.prog 77 [v0, v1] W A r B :=
  Cn.of (shape := ref05_stream_fail v0 v1) Try.call77 (fun h => ref05_stream_fail_calls h) h
theorem ref05_stream_fail_cnP {v0 v1 : Value} {W : World} {α β : Type} {A : List HP} {r : α → Value} {B : α → List HP} {pc : β → List PanicEntry} {Bp : β → List HP} (h : ∀ F, Ent W (A ++ F) (ref05_stream_fail v0 v1 (fun ch w => ∃ y, ch = pc y ∧ sat W (Bp y ++ F) w) fun v w => ∃ x, v = r x ∧ sat W (B x ++ F) w)) : CnP Try.prog 77 [v0, v1] W A r B pc Bp :=
  CnP.of (shape := ref05_stream_fail v0 v1) Try.call77 (fun h => ref05_stream_fail_calls h) h

/-- bits_masks -/
def bits_masks (Kp : PK) (K : Value → WP) : WP :=
  opN Try.prog (sAlloc 137) Kp fun x0 =>
  opN Try.prog (sBuild 137 [(0, (.int .u8 1)), (1, (.int .u8 2)), (2, (.int .u8 4)), (3, (.int .u8 8)), (4, (.int .u8 16)), (5, (.int .u8 32)), (6, (.int .u8 64)), (7, (.int .u8 128))]) Kp fun x1 =>
  opN Try.prog (sStore 137 x0 x1) Kp fun _ =>
  (stS Try.prog (sRes 137 x0) fun r0 => K r0)
def bits_masks_an : Ann := { cuts := [], blks := [], loops := [], drs := [] }
theorem bits_masks_eq (Kp : PK) (K : Value → WP) : cevF Try.prog bits_masks_an Try.f78 [] Kp K = bits_masks Kp K := by kernel_rfl
theorem bits_masks_calls  {Kp : PK} {K : Value → WP} {w : World} (h : bits_masks Kp K w) : Calls Try.prog 78 #[] w (after Kp K) :=
  calls_of_shape (calls_of_cev wide Try.func78 (an := bits_masks_an) (args := []) (cast (congrFun (bits_masks_eq Kp K) w).symm h))
theorem bits_masks_cn  {W : World} {α : Type} {A : List HP} {r : α → Value} {B : α → List HP} (h : ∀ F, Ent W (A ++ F) (bits_masks noP fun v w => ∃ x, v = r x ∧ sat W (B x ++ F) w)) : Cn Try.prog 78 [] W A r B :=
  Cn.of (shape := bits_masks) Try.call78 (fun h => bits_masks_calls h) h
theorem bits_masks_cnP  {W : World} {α β : Type} {A : List HP} {r : α → Value} {B : α → List HP} {pc : β → List PanicEntry} {Bp : β → List HP} (h : ∀ F, Ent W (A ++ F) (bits_masks (fun ch w => ∃ y, ch = pc y ∧ sat W (Bp y ++ F) w) fun v w => ∃ x, v = r x ∧ sat W (B x ++ F) w)) : CnP Try.prog 78 [] W A r B pc Bp :=
  CnP.of (shape := bits_masks) Try.call78 (fun h => bits_masks_calls h) h

/-- bits_source_bit -/
def bits_source_bit (v0 : Value) (Kp : PK) (K : Value → WP) : WP :=
  drS (stS Try.prog (sNil v0) fun x5 =>
   stS Try.prog (sFA 113 x5 0) fun x6 =>
   stS Try.prog (sLoad 39 x6) fun x7 =>
   stS Try.prog (sNil v0) fun x9 =>
   stS Try.prog (sFA 113 x9 1) fun x10 =>
   stS Try.prog (sLoad 3 x10) fun x11 =>
   stS Try.prog (sBin .quo 3 x11 (.int .i64 8)) fun x12 =>
   stS Try.prog (sIA 39 x7 x12) fun x13 =>
   stS Try.prog (sLoad 5 x13) fun x14 =>
   stS Try.prog (sNil v0) fun x16 =>
   stS Try.prog (sFA 113 x16 1) fun x17 =>
   stS Try.prog (sLoad 3 x17) fun x18 =>
   stS Try.prog (sBin .rem 3 x18 (.int .i64 8)) fun x19 =>
   stS Try.prog (sConv 3 33 x19) fun x20 =>
   stS Try.prog (sBin .shr 5 x14 x20) fun x21 =>
   stS Try.prog (sBin .and 5 x21 (.int .u8 1)) fun x22 =>
   stS Try.prog (sConv 5 3 x22) fun x23 =>
   opN Try.prog (sNil v0) Kp fun x25 =>
   opN Try.prog (sFA 113 x25 1) Kp fun x26 =>
   opN Try.prog (sLoad 3 x26) Kp fun x27 =>
   opN Try.prog (sBin .add 3 x27 (.int .i64 1)) Kp fun x28 =>
   opN Try.prog (sNil v0) Kp fun x29 =>
   opN Try.prog (sFA 113 x29 1) Kp fun x30 =>
   opN Try.prog (sStore 3 x30 x28) Kp fun _ =>
   K x23)
def bits_source_bit_an : Ann := { cuts := [], blks := [], loops := [], drs := [(1, [(0, 1), (1, 1), (2, 1), (3, 1), (4, 1), (5, 1), (6, 1), (7, 1), (8, 1), (9, 1), (10, 1), (11, 1), (12, 1), (13, 1), (14, 1), (15, 1), (16, 1), (17, 1), (18, 1), (19, 1), (20, 1)])] }
theorem bits_source_bit_eq (v0 : Value) (Kp : PK) (K : Value → WP) : cevF Try.prog bits_source_bit_an Try.f79 [v0] Kp K = bits_source_bit v0 Kp K := by kernel_rfl
theorem bits_source_bit_calls {v0 : Value} {Kp : PK} {K : Value → WP} {w : World} (h : bits_source_bit v0 Kp K w) : Calls Try.prog 79 #[v0] w (after Kp K) :=
  calls_of_shape (calls_of_cev wide Try.func79 (an := bits_source_bit_an) (args := [v0]) (cast (congrFun (bits_source_bit_eq v0 Kp K) w).symm h))
theorem bits_source_bit_cn {v0 : Value} {W : World} {α : Type} {A : List HP} {r : α → Value} {B : α → List HP} (h : ∀ F, Ent W (A ++ F) (bits_source_bit v0 noP fun v w => ∃ x, v = r x ∧ sat W (B x ++ F) w)) : Cn Try.prog 79 [v0] W A r B :=
  Cn.of (shape := bits_source_bit v0) Try.call79 (fun h => bits_source_bit_calls h) h
theorem bits_source_bit_cnP {v0 : Value} {W : World} {α β : Type} {A : List HP} {r : α → Value} {B : α → List HP} {pc : β → List PanicEntry} {Bp : β → List HP} (h : ∀ F, Ent W (A ++ F) (bits_source_bit v0 (fun ch w => ∃ y, ch = pc y ∧ sat W (Bp y ++ F) w) fun v w => ∃ x, v = r x ∧ sat W (B x ++ F) w)) : CnP Try.prog 79 [v0] W A r B pc Bp :=
  CnP.of (shape := bits_source_bit v0) Try.call79 (fun h => bits_source_bit_calls h) h

/-- slices_insertionSortCmpFunc_huff_weighed_int -/
def slices_insertionSortCmpFunc_huff_weighed_int (v0 v1 v2 v3 : Value) (Kp : PK) (K : Value → WP) : WP :=
  opN Try.prog (sBin .add 3 v1 (.int .i64 1)) Kp fun x11 =>
  loop1 (fun I1 m1 _ y8 =>
   opN Try.prog (sBin .lss 3 y8 v2) Kp fun x14 =>
   condS x14
   (loop1 (fun I2 m2 _ y9 =>
     drS (stS Try.prog (sBin .gtr 3 y9 v1) fun x20 =>
      gdK x20 true (fun k => k v3) fun x22 =>
      gdK x20 true (fun k => k v0) fun x23 =>
      gdK x20 true (fun k => k y9) fun x24 =>
      gdK x20 true (stS Try.prog (sIA 84 x23 x24)) fun x25 =>
      gdK x20 true (stS Try.prog (sLoad 86 x25)) fun x26 =>
      gdK x20 true (fun k => k v0) fun x27 =>
      gdK x20 true (fun k => k y9) fun x28 =>
      gdK x20 true (stS Try.prog (sBin .sub 3 x28 (.int .i64 1))) fun x29 =>
      gdK x20 true (stS Try.prog (sIA 84 x27 x29)) fun x30 =>
      gdK x20 true (stS Try.prog (sLoad 86 x30)) fun x31 =>
      gdK x20 true (opN Try.prog (sCall x22 [x26, x31]) Kp) fun x32 =>
      gdK x20 true (stS Try.prog (sBin .lss 3 x32 (.int .i64 0))) fun x33 =>
      stS Try.prog (sPick x20 x33 (.bool false)) fun x34 =>
      condS x34
      (drS (stD Try.prog (sBin .sub 3 y9 (.int .i64 1)) fun D4 x41 =>
        stS Try.prog (sBin .sub 3 y9 (.int .i64 1)) fun x44 =>
        stS Try.prog (sIA 84 v0 x44) fun x45 =>
        stS Try.prog (sLoad 86 x45) fun x46 =>
        stS Try.prog (sIA 84 v0 y9) fun x49 =>
        stS Try.prog (sLoad 86 x49) fun x50 =>
        stS Try.prog (sIA 84 v0 y9) fun x51 =>
        opN Try.prog (sStore 86 x51 x46) Kp fun _ =>
        (fun w => D4 w ∧ (stS Try.prog (sIA 84 v0 x41) fun x52 =>
          opN Try.prog (sStore 86 x52 x50) Kp fun _ =>
          opN Try.prog (sBin .sub 3 y9 (.int .i64 1)) Kp fun x36 =>
          next1 I2 m2 x36) w)))
      (opN Try.prog (sBin .add 3 y8 (.int .i64 1)) Kp fun x16 =>
       next1 I1 m1 x16))) y8)
   (K (.tuple #[]))) x11
def slices_insertionSortCmpFunc_huff_weighed_int_an : Ann := { cuts := [], blks := [], loops := [(1, [8]), (4, [9])], drs := [(4, [(0, 1), (1, 1), (2, 1), (3, 1), (4, 1), (5, 1), (6, 1), (7, 1), (8, 1), (9, 1), (10, 1), (11, 1), (12, 1), (13, 1), (14, 0), (15, 1), (16, 1)]), (6, [(0, 1), (1, 1), (2, 2), (3, 2), (4, 3), (5, 1), (6, 1), (7, 1), (8, 1), (9, 1), (10, 1), (11, 1), (12, 1), (13, 1), (14, 1), (15, 0), (16, 1), (17, 0)])] }
theorem slices_insertionSortCmpFunc_huff_weighed_int_eq (v0 v1 v2 v3 : Value) (Kp : PK) (K : Value → WP) : cevF Try.prog slices_insertionSortCmpFunc_huff_weighed_int_an Try.f80 [v0, v1, v2, v3] Kp K = slices_insertionSortCmpFunc_huff_weighed_int v0 v1 v2 v3 Kp K := by kernel_rfl
theorem slices_insertionSortCmpFunc_huff_weighed_int_calls {v0 v1 v2 v3 : Value} {Kp : PK} {K : Value → WP} {w : World} (h : slices_insertionSortCmpFunc_huff_weighed_int v0 v1 v2 v3 Kp K w) : Calls Try.prog 80 #[v0, v1, v2, v3] w (after Kp K) :=
  calls_of_shape (calls_of_cev wide Try.func80 (an := slices_insertionSortCmpFunc_huff_weighed_int_an) (args := [v0, v1, v2, v3]) (cast (congrFun (slices_insertionSortCmpFunc_huff_weighed_int_eq v0 v1 v2 v3 Kp K) w).symm h))
theorem slices_insertionSortCmpFunc_huff_weighed_int_cn {v0 v1 v2 v3 : Value} {W : World} {α : Type} {A : List HP} {r : α → Value} {B : α → List HP} (h : ∀ F, Ent W (A ++ F) (slices_insertionSortCmpFunc_huff_weighed_int v0 v1 v2 v3 noP fun v w => ∃ x, v = r x ∧ sat W (B x ++ F) w)) : Cn Try.prog 80 [v0, v1, v2, v3] W A r B :=
  Cn.of (shape := slices_insertionSortCmpFunc_huff_weighed_int v0 v1 v2 v3) Try.call80 (fun h => slices_insertionSortCmpFunc_huff_weighed_int_calls h) h
theorem slices_insertionSortCmpFunc_huff_weighed_int_cnP {v0 v1 v2 v3 : Value} {W : World} {α β : Type} {A : List HP} {r : α → Value} {B : α → List HP} {pc : β → List PanicEntry} {Bp : β → List HP} (h : ∀ F, Ent W (A ++ F) (slices_insertionSortCmpFunc_huff_weighed_int v0 v1 v2 v3 (fun ch w => ∃ y, ch = pc y ∧ sat W (Bp y ++ F) w) fun v w => ∃ x, v = r x ∧ sat W (B x ++ F) w)) : CnP Try.prog 80 [v0, v1, v2, v3] W A r B pc Bp :=
  CnP.of (shape := slices_insertionSortCmpFunc_huff_weighed_int v0 v1 v2 v3) Try.call80 (fun h => slices_insertionSortCmpFunc_huff_weighed_int_calls h) h

/-- slices_symMergeCmpFunc_huff_weighed_int -/
def slices_symMergeCmpFunc_huff_weighed_int (v0 v1 v2 v3 v4 : Value) (Kp : PK) (K : Value → WP) : WP :=
  opN Try.prog (sBin .sub 3 v2 v1) Kp fun x27 =>
  opN Try.prog (sEq .eql 3 (.tmp 27) (.const (.int .i64 1)) x27 (.int .i64 1)) Kp fun x28 =>
  condS x28
  (loop2 (fun I1 m1 _ y10 y11 =>
    opN Try.prog (sBin .lss 3 y10 y11) Kp fun x33 =>
    condS x33
    (opN Try.prog (sBin .add 3 y10 y11) Kp fun x36 =>
     opN Try.prog (sConv 3 33 x36) Kp fun x37 =>
     opN Try.prog (sBin .shr 33 x37 (.int .u64 1)) Kp fun x38 =>
     opN Try.prog (sConv 33 3 x38) Kp fun x39 =>
     drS (stS Try.prog (sIA 84 v0 x39) fun x43 =>
      stS Try.prog (sLoad 86 x43) fun x44 =>
      stS Try.prog (sIA 84 v0 v1) fun x47 =>
      stS Try.prog (sLoad 86 x47) fun x48 =>
      opN Try.prog (sCall v4 [x44, x48]) Kp fun x49 =>
      stS Try.prog (sBin .lss 3 x49 (.int .i64 0)) fun x50 =>
      condS x50
      (opN Try.prog (sBin .add 3 x39 (.int .i64 1)) Kp fun x52 =>
       next2 I1 m1 x52 y11)
      (next2 I1 m1 y10 x39)))
    (loop1 (fun I2 m2 _ y13 =>
      opN Try.prog (sBin .sub 3 y10 (.int .i64 1)) Kp fun x57 =>
      opN Try.prog (sBin .lss 3 y13 x57) Kp fun x58 =>
      condS x58
      (drS (stD Try.prog (sBin .add 3 y13 (.int .i64 1)) fun D4 x65 =>
        stS Try.prog (sBin .add 3 y13 (.int .i64 1)) fun x68 =>
        stS Try.prog (sIA 84 v0 x68) fun x69 =>
        stS Try.prog (sLoad 86 x69) fun x70 =>
        stS Try.prog (sIA 84 v0 y13) fun x73 =>
        stS Try.prog (sLoad 86 x73) fun x74 =>
        stS Try.prog (sIA 84 v0 y13) fun x75 =>
        opN Try.prog (sStore 86 x75 x70) Kp fun _ =>
        (fun w => D4 w ∧ (stS Try.prog (sIA 84 v0 x65) fun x76 =>
          opN Try.prog (sStore 86 x76 x74) Kp fun _ =>
          opN Try.prog (sBin .add 3 y13 (.int .i64 1)) Kp fun x60 =>
          next1 I2 m2 x60) w)))
      (K (.tuple #[]))) v1)) v2 v3)
  (opN Try.prog (sBin .sub 3 v3 v2) Kp fun x79 =>
   opN Try.prog (sEq .eql 3 (.tmp 79) (.const (.int .i64 1)) x79 (.int .i64 1)) Kp fun x80 =>
   condS x80
   (loop2 (fun I3 m3 _ y14 y15 =>
     opN Try.prog (sBin .lss 3 y14 y15) Kp fun x85 =>
     condS x85
     (opN Try.prog (sBin .add 3 y14 y15) Kp fun x88 =>
      opN Try.prog (sConv 3 33 x88) Kp fun x89 =>
      opN Try.prog (sBin .shr 33 x89 (.int .u64 1)) Kp fun x90 =>
      opN Try.prog (sConv 33 3 x90) Kp fun x91 =>
      drS (stS Try.prog (sIA 84 v0 v2) fun x95 =>
       stS Try.prog (sLoad 86 x95) fun x96 =>
       stS Try.prog (sIA 84 v0 x91) fun x99 =>
       stS Try.prog (sLoad 86 x99) fun x100 =>
       opN Try.prog (sCall v4 [x96, x100]) Kp fun x101 =>
       stS Try.prog (sBin .lss 3 x101 (.int .i64 0)) fun x102 =>
       stS Try.prog (sUn .not x102) fun x103 =>
       condS x103
       (opN Try.prog (sBin .add 3 x91 (.int .i64 1)) Kp fun x105 =>
        next2 I3 m3 x105 y15)
       (next2 I3 m3 y14 x91)))
     (loop1 (fun I4 m4 _ y17 =>
       opN Try.prog (sBin .gtr 3 y17 y14) Kp fun x110 =>
       condS x110
       (drS (stD Try.prog (sBin .sub 3 y17 (.int .i64 1)) fun D4 x117 =>
         stS Try.prog (sBin .sub 3 y17 (.int .i64 1)) fun x120 =>
         stS Try.prog (sIA 84 v0 x120) fun x121 =>
         stS Try.prog (sLoad 86 x121) fun x122 =>
         stS Try.prog (sIA 84 v0 y17) fun x125 =>
         stS Try.prog (sLoad 86 x125) fun x126 =>
         stS Try.prog (sIA 84 v0 y17) fun x127 =>
         opN Try.prog (sStore 86 x127 x122) Kp fun _ =>
         (fun w => D4 w ∧ (stS Try.prog (sIA 84 v0 x117) fun x128 =>
           opN Try.prog (sStore 86 x128 x126) Kp fun _ =>
           opN Try.prog (sBin .sub 3 y17 (.int .i64 1)) Kp fun x112 =>
           next1 I4 m4 x112) w)))
       (K (.tuple #[]))) v2)) v1 v2)
   (opN Try.prog (sBin .add 3 v1 v3) Kp fun x131 =>
    opN Try.prog (sConv 3 33 x131) Kp fun x132 =>
    opN Try.prog (sBin .shr 33 x132 (.int .u64 1)) Kp fun x133 =>
    opN Try.prog (sConv 33 3 x133) Kp fun x134 =>
    opN Try.prog (sBin .add 3 x134 v2) Kp fun x137 =>
    cut2 (fun J1 =>
     opN Try.prog (sBin .gtr 3 v2 x134) Kp fun x140 =>
     condS x140
     (opN Try.prog (sBin .sub 3 x137 v3) Kp fun x143 =>
      J1 x143 x134)
     (J1 v1 v2)) fun _ z20 z21 =>
    opN Try.prog (sBin .sub 3 x137 (.int .i64 1)) Kp fun x148 =>
    loop2 (fun I5 m5 _ y20 y21 =>
     opN Try.prog (sBin .lss 3 y20 y21) Kp fun x151 =>
     condS x151
     (opN Try.prog (sBin .add 3 y20 y21) Kp fun x154 =>
      opN Try.prog (sConv 3 33 x154) Kp fun x155 =>
      opN Try.prog (sBin .shr 33 x155 (.int .u64 1)) Kp fun x156 =>
      opN Try.prog (sConv 33 3 x156) Kp fun x157 =>
      drS (stS Try.prog (sBin .sub 3 x148 x157) fun x162 =>
       stS Try.prog (sIA 84 v0 x162) fun x163 =>
       stS Try.prog (sLoad 86 x163) fun x164 =>
       stS Try.prog (sIA 84 v0 x157) fun x167 =>
       stS Try.prog (sLoad 86 x167) fun x168 =>
       opN Try.prog (sCall v4 [x164, x168]) Kp fun x169 =>
       stS Try.prog (sBin .lss 3 x169 (.int .i64 0)) fun x170 =>
       stS Try.prog (sUn .not x170) fun x171 =>
       condS x171
       (opN Try.prog (sBin .add 3 x157 (.int .i64 1)) Kp fun x173 =>
        next2 I5 m5 x173 y21)
       (next2 I5 m5 y20 x157)))
     (opN Try.prog (sBin .sub 3 x137 y20) Kp fun x177 =>
      cut0 (fun J2 =>
       opN Try.prog (sBin .lss 3 y20 v2) Kp fun x180 =>
       gdK x180 true (fun k => k v2) fun x182 =>
       gdK x180 true (fun k => k x177) fun x183 =>
       gdK x180 true (opN Try.prog (sBin .lss 3 x182 x183) Kp) fun x184 =>
       opN Try.prog (sPick x180 x184 (.bool false)) Kp fun x185 =>
       condS x185
       (opN Try.prog (sCall (fn 99) [v0, y20, v2, x177, v4]) Kp fun x191 =>
        J2)
       (J2)) fun _ =>
      cut0 (fun J3 =>
       opN Try.prog (sBin .lss 3 v1 y20) Kp fun x194 =>
       gdK x194 true (fun k => k y20) fun x196 =>
       gdK x194 true (fun k => k x134) fun x197 =>
       gdK x194 true (opN Try.prog (sBin .lss 3 x196 x197) Kp) fun x198 =>
       opN Try.prog (sPick x194 x198 (.bool false)) Kp fun x199 =>
       condS x199
       (opN Try.prog (sCall (fn 81) [v0, v1, y20, x134, v4]) Kp fun x205 =>
        J3)
       (J3)) fun _ =>
      opN Try.prog (sBin .lss 3 x134 x177) Kp fun x208 =>
      gdK x208 true (fun k => k x177) fun x210 =>
      gdK x208 true (fun k => k v3) fun x211 =>
      gdK x208 true (opN Try.prog (sBin .lss 3 x210 x211) Kp) fun x212 =>
      opN Try.prog (sPick x208 x212 (.bool false)) Kp fun x213 =>
      condS x213
      (opN Try.prog (sCall (fn 81) [v0, x134, x177, v3, v4]) Kp fun x219 =>
       K (.tuple #[]))
      (K (.tuple #[])))) z20 z21))
def slices_symMergeCmpFunc_huff_weighed_int_an : Ann := { cuts := [(32, [20, 21]), (41, []), (43, [])], blks := [], loops := [(3, [10, 11]), (9, [13]), (15, [14, 15]), (21, [17]), (33, [20, 21])], drs := [(5, [(0, 1), (1, 1), (2, 1), (3, 1), (4, 1), (5, 1), (6, 1), (7, 1), (8, 1), (9, 0), (10, 1)]), (11, [(0, 1), (1, 1), (2, 2), (3, 2), (4, 3), (5, 1), (6, 1), (7, 1), (8, 1), (9, 1), (10, 1), (11, 1), (12, 1), (13, 1), (14, 1), (15, 0), (16, 1), (17, 0)]), (17, [(0, 1), (1, 1), (2, 1), (3, 1), (4, 1), (5, 1), (6, 1), (7, 1), (8, 1), (9, 0), (10, 1), (11, 1)]), (23, [(0, 1), (1, 1), (2, 2), (3, 2), (4, 3), (5, 1), (6, 1), (7, 1), (8, 1), (9, 1), (10, 1), (11, 1), (12, 1), (13, 1), (14, 1), (15, 0), (16, 1), (17, 0)]), (35, [(0, 1), (1, 1), (2, 1), (3, 1), (4, 1), (5, 1), (6, 1), (7, 1), (8, 1), (9, 1), (10, 1), (11, 0), (12, 1), (13, 1)])] }
theorem slices_symMergeCmpFunc_huff_weighed_int_eq (v0 v1 v2 v3 v4 : Value) (Kp : PK) (K : Value → WP) : cevF Try.prog slices_symMergeCmpFunc_huff_weighed_int_an Try.f81 [v0, v1, v2, v3, v4] Kp K = slices_symMergeCmpFunc_huff_weighed_int v0 v1 v2 v3 v4 Kp K := by kernel_rfl
theorem slices_symMergeCmpFunc_huff_weighed_int_calls {v0 v1 v2 v3 v4 : Value} {Kp : PK} {K : Value → WP} {w : World} (h : slices_symMergeCmpFunc_huff_weighed_int v0 v1 v2 v3 v4 Kp K w) : Calls Try.prog 81 #[v0, v1, v2, v3, v4] w (after Kp K) :=
  calls_of_shape (calls_of_cev wide Try.func81 (an := slices_symMergeCmpFunc_huff_weighed_int_an) (args := [v0, v1, v2, v3, v4]) (cast (congrFun (slices_symMergeCmpFunc_huff_weighed_int_eq v0 v1 v2 v3 v4 Kp K) w).symm h))
theorem slices_symMergeCmpFunc_huff_weighed_int_cn {v0 v1 v2 v3 v4 : Value} {W : World} {α : Type} {A : List HP} {r : α → Value} {B : α → List HP} (h : ∀ F, Ent W (A ++ F) (slices_symMergeCmpFunc_huff_weighed_int v0 v1 v2 v3 v4 noP fun v w => ∃ x, v = r x ∧ sat W (B x ++ F) w)) : Cn Try.prog 81 [v0, v1, v2, v3, v4] W A r B :=
  Cn.of (shape := slices_symMergeCmpFunc_huff_weighed_int v0 v1 v2 v3 v4) Try.call81 (fun h => slices_symMergeCmpFunc_huff_weighed_int_calls h) h
theorem slices_symMergeCmpFunc_huff_weighed_int_cnP {v0 v1 v2 v3 v4 : Value} {W : World} {α β : Type} {A : List HP} {r : α → Value} {B : α → List HP} {pc : β → List PanicEntry} {Bp : β → List HP} (h : ∀ F, Ent W (A ++ F) (slices_symMergeCmpFunc_huff_weighed_int v0 v1 v2 v3 v4 (fun ch w => ∃ y, ch = pc y ∧ sat W (Bp y ++ F) w) fun v w => ∃ x, v = r x ∧ sat W (B x ++ F) w)) : CnP Try.prog 81 [v0, v1, v2, v3, v4] W A r B pc Bp :=
  CnP.of (shape := slices_symMergeCmpFunc_huff_weighed_int v0 v1 v2 v3 v4) Try.call81 (fun h => slices_symMergeCmpFunc_huff_weighed_int_calls h) h

/-- bits_Reader_Align -/
def bits_Reader_Align (v0 : Value) (Kp : PK) (K : Value → WP) : WP :=
  opN Try.prog (sCall (fn 61) [v0]) Kp fun x3 =>
  opN Try.prog (sUn .not x3) Kp fun x4 =>
  condS x4
  (opN Try.prog (sNil v0) Kp fun x7 =>
   opN Try.prog (sFA 115 x7 0) Kp fun x8 =>
   opN Try.prog (sFA 113 x8 1) Kp fun x9 =>
   opN Try.prog (sLoad 3 x9) Kp fun x10 =>
   opN Try.prog (sBin .add 3 x10 (.int .i64 7)) Kp fun x11 =>
   opN Try.prog (sBin .quo 3 x11 (.int .i64 8)) Kp fun x12 =>
   opN Try.prog (sBin .mul 3 x12 (.int .i64 8)) Kp fun x13 =>
   opN Try.prog (sNil v0) Kp fun x14 =>
   opN Try.prog (sFA 115 x14 0) Kp fun x15 =>
   opN Try.prog (sFA 113 x15 1) Kp fun x16 =>
   opN Try.prog (sStore 3 x16 x13) Kp fun _ =>
   K (.tuple #[]))
  (K (.tuple #[]))
def bits_Reader_Align_an : Ann := { cuts := [], blks := [], loops := [], drs := [] }
theorem bits_Reader_Align_eq (v0 : Value) (Kp : PK) (K : Value → WP) : cevF Try.prog bits_Reader_Align_an Try.f82 [v0] Kp K = bits_Reader_Align v0 Kp K := by kernel_rfl
theorem bits_Reader_Align_calls {v0 : Value} {Kp : PK} {K : Value → WP} {w : World} (h : bits_Reader_Align v0 Kp K w) : Calls Try.prog 82 #[v0] w (after Kp K) :=
  calls_of_shape (calls_of_cev wide Try.func82 (an := bits_Reader_Align_an) (args := [v0]) (cast (congrFun (bits_Reader_Align_eq v0 Kp K) w).symm h))
theorem bits_Reader_Align_cn {v0 : Value} {W : World} {α : Type} {A : List HP} {r : α → Value} {B : α → List HP} (h : ∀ F, Ent W (A ++ F) (bits_Reader_Align v0 noP fun v w => ∃ x, v = r x ∧ sat W (B x ++ F) w)) : Cn Try.prog 82 [v0] W A r B :=
  Cn.of (shape := bits_Reader_Align v0) Try.call82 (fun h => bits_Reader_Align_calls h) h
theorem bits_Reader_Align_cnP {v0 : Value} {W : World} {α β : Type} {A : List HP} {r : α → Value} {B : α → List HP} {pc : β → List PanicEntry} {Bp : β → List HP} (h : ∀ F, Ent W (A ++ F) (bits_Reader_Align v0 (fun ch w => ∃ y, ch = pc y ∧ sat W (Bp y ++ F) w) fun v w => ∃ x, v = r x ∧ sat W (B x ++ F) w)) : CnP Try.prog 82 [v0] W A r B pc Bp :=
  CnP.of (shape := bits_Reader_Align v0) Try.call82 (fun h => bits_Reader_Align_calls h) h

/-- inflate_demand -/
def inflate_demand (v0 v1 : Value) (Kp : PK) (K : Value → WP) : WP :=
  opN Try.prog (sUn .not v0) Kp fun x5 =>
  condS x5
  (opN Try.prog (sMkI 23 v1) Kp fun x7 =>
   opN Try.prog (sPanic x7) Kp fun _ =>
   K (.tuple #[]))
  (K (.tuple #[]))
def inflate_demand_an : Ann := { cuts := [], blks := [], loops := [], drs := [] }
theorem inflate_demand_eq (v0 v1 : Value) (Kp : PK) (K : Value → WP) : cevF Try.prog inflate_demand_an Try.f83 [v0, v1] Kp K = inflate_demand v0 v1 Kp K := by kernel_rfl
theorem inflate_demand_calls {v0 v1 : Value} {Kp : PK} {K : Value → WP} {w : World} (h : inflate_demand v0 v1 Kp K w) : Calls Try.prog 83 #[v0, v1] w (after Kp K) :=
  calls_of_shape (calls_of_cev wide Try.func83 (an := inflate_demand_an) (args := [v0, v1]) (cast (congrFun (inflate_demand_eq v0 v1 Kp K) w).symm h))
theorem inflate_demand_cn {v0 v1 : Value} {W : World} {α : Type} {A : List HP} {r : α → Value} {B : α → List HP} (h : ∀ F, Ent W (A ++ F) (inflate_demand v0 v1 noP fun v w => ∃ x, v = r x ∧ sat W (B x ++ F) w)) : Cn Try.prog 83 [v0, v1] W A r B :=
  Cn.of (shape := inflate_demand v0 v1) Try.call83 (fun h => inflate_demand_calls h) h
theorem inflate_demand_cnP {v0 v1 : Value} {W : World} {α β : Type} {A : List HP} {r : α → Value} {B : α → List HP} {pc : β → List PanicEntry} {Bp : β → List HP} (h : ∀ F, Ent W (A ++ F) (inflate_demand v0 v1 (fun ch w => ∃ y, ch = pc y ∧ sat W (Bp y ++ F) w) fun v w => ∃ x, v = r x ∧ sat W (B x ++ F) w)) : CnP Try.prog 83 [v0, v1] W A r B pc Bp :=
  CnP.of (shape := inflate_demand v0 v1) Try.call83 (fun h => inflate_demand_calls h) h

/-- inflate_stream_room -/
def inflate_stream_room (v0 v1 : Value) (Kp : PK) (K : Value → WP) : WP :=
  drS (stS Try.prog (sNil v0) fun x6 =>
   stS Try.prog (sFA 126 x6 2) fun x7 =>
   stS Try.prog (sLoad 3 x7) fun x8 =>
   stS Try.prog (sNil v0) fun x10 =>
   stS Try.prog (sFA 126 x10 1) fun x11 =>
   stS Try.prog (sLoad 39 x11) fun x12 =>
   stS Try.prog (sLen #[39] 3 [x12]) fun x13 =>
   stS Try.prog (sBin .sub 3 x8 x13) fun x14 =>
   stS Try.prog (sBin .leq 3 v1 x14) fun x15 =>
   opN Try.prog (sCall (fn 83) [x15, (.int .i64 6)]) Kp fun x16 =>
   K (.tuple #[]))
def inflate_stream_room_an : Ann := { cuts := [], blks := [], loops := [], drs := [(0, [(0, 1), (1, 1), (2, 1), (3, 1), (4, 1), (5, 1), (6, 1), (7, 1), (8, 1), (9, 1), (10, 1), (11, 1), (12, 0)])] }
theorem inflate_stream_room_eq (v0 v1 : Value) (Kp : PK) (K : Value → WP) : cevF Try.prog inflate_stream_room_an Try.f84 [v0, v1] Kp K = inflate_stream_room v0 v1 Kp K := by kernel_rfl
theorem inflate_stream_room_calls {v0 v1 : Value} {Kp : PK} {K : Value → WP} {w : World} (h : inflate_stream_room v0 v1 Kp K w) : Calls Try.prog 84 #[v0, v1] w (after Kp K) :=
  calls_of_shape (calls_of_cev wide Try.func84 (an := inflate_stream_room_an) (args := [v0, v1]) (cast (congrFun (inflate_stream_room_eq v0 v1 Kp K) w).symm h))
theorem inflate_stream_room_cn {v0 v1 : Value} {W : World} {α : Type} {A : List HP} {r : α → Value} {B : α → List HP} (h : ∀ F, Ent W (A ++ F) (inflate_stream_room v0 v1 noP fun v w => ∃ x, v = r x ∧ sat W (B x ++ F) w)) : Cn Try.prog 84 [v0, v1] W A r B :=
  Cn.of (shape := inflate_stream_room v0 v1) Try.call84 (fun h => inflate_stream_room_calls h) h
theorem inflate_stream_room_cnP {v0 v1 : Value} {W : World} {α β : Type} {A : List HP} {r : α → Value} {B : α → List HP} {pc : β → List PanicEntry} {Bp : β → List HP} (h : ∀ F, Ent W (A ++ F) (inflate_stream_room v0 v1 (fun ch w => ∃ y, ch = pc y ∧ sat W (Bp y ++ F) w) fun v w => ∃ x, v = r x ∧ sat W (B x ++ F) w)) : CnP Try.prog 84 [v0, v1] W A r B pc Bp :=
  CnP.of (shape := inflate_stream_room v0 v1) Try.call84 (fun h => inflate_stream_room_calls h) h

/-- bits_Reader_Raw -/
def bits_Reader_Raw (v0 v1 : Value) (Kp : PK) (K : Value → WP) : WP :=
  opN Try.prog (sCall (fn 61) [v0]) Kp fun x8 =>
  gdK x8 false (fun k => k v1) fun x10 =>
  gdK x8 false (opN Try.prog (sBin .lss 3 x10 (.int .i64 0)) Kp) fun x11 =>
  opN Try.prog (sPick x8 (.bool true) x11) Kp fun x12 =>
  condS x12
  (K (.tuple #[(.slice none 0 0), (.int .i64 1)]))
  (opN Try.prog (sNil v0) Kp fun x14 =>
   opN Try.prog (sFA 115 x14 0) Kp fun x15 =>
   opN Try.prog (sFA 113 x15 1) Kp fun x16 =>
   opN Try.prog (sLoad 3 x16) Kp fun x17 =>
   opN Try.prog (sBin .add 3 x17 (.int .i64 7)) Kp fun x18 =>
   opN Try.prog (sBin .quo 3 x18 (.int .i64 8)) Kp fun x19 =>
   opN Try.prog (sNil v0) Kp fun x22 =>
   opN Try.prog (sFA 115 x22 0) Kp fun x23 =>
   opN Try.prog (sFA 113 x23 0) Kp fun x24 =>
   opN Try.prog (sLoad 39 x24) Kp fun x25 =>
   opN Try.prog (sLen #[39] 3 [x25]) Kp fun x26 =>
   opN Try.prog (sBin .sub 3 x26 x19) Kp fun x28 =>
   opN Try.prog (sBin .gtr 3 v1 x28) Kp fun x29 =>
   condS x29
   (K (.tuple #[(.slice none 0 0), (.int .i64 20)]))
   (opN Try.prog (sBin .add 3 x19 v1) Kp fun x33 =>
    opN Try.prog (sBin .mul 3 (.int .i64 8) x33) Kp fun x34 =>
    opN Try.prog (sNil v0) Kp fun x35 =>
    opN Try.prog (sFA 115 x35 0) Kp fun x36 =>
    opN Try.prog (sFA 113 x36 1) Kp fun x37 =>
    opN Try.prog (sStore 3 x37 x34) Kp fun _ =>
    opN Try.prog (sNil v0) Kp fun x39 =>
    opN Try.prog (sFA 115 x39 0) Kp fun x40 =>
    opN Try.prog (sFA 113 x40 0) Kp fun x41 =>
    opN Try.prog (sLoad 39 x41) Kp fun x42 =>
    opN Try.prog (sBin .add 3 x19 v1) Kp fun x46 =>
    opN Try.prog (sSl 39 x42 (some x19) (some x46) none) Kp fun x47 =>
    opN Try.prog (sApp #[39, 39] 39 [(.slice none 0 0), x47]) Kp fun x48 =>
    K (.tuple #[x48, (.int .i64 0)])))
def bits_Reader_Raw_an : Ann := { cuts := [], blks := [], loops := [], drs := [] }
theorem bits_Reader_Raw_eq (v0 v1 : Value) (Kp : PK) (K : Value → WP) : cevF Try.prog bits_Reader_Raw_an Try.f85 [v0, v1] Kp K = bits_Reader_Raw v0 v1 Kp K := by kernel_rfl
theorem bits_Reader_Raw_calls {v0 v1 : Value} {Kp : PK} {K : Value → WP} {w : World} (h : bits_Reader_Raw v0 v1 Kp K w) : Calls Try.prog 85 #[v0, v1] w (after Kp K) :=
  calls_of_shape (calls_of_cev wide Try.func85 (an := bits_Reader_Raw_an) (args := [v0, v1]) (cast (congrFun (bits_Reader_Raw_eq v0 v1 Kp K) w).symm h))
theorem bits_Reader_Raw_cn {v0 v1 : Value} {W : World} {α : Type} {A : List HP} {r : α → Value} {B : α → List HP} (h : ∀ F, Ent W (A ++ F) (bits_Reader_Raw v0 v1 noP fun v w => ∃ x, v = r x ∧ sat W (B x ++ F) w)) : Cn Try.prog 85 [v0, v1] W A r B :=
  Cn.of (shape := bits_Reader_Raw v0 v1) Try.call85 (fun h => bits_Reader_Raw_calls h) h
theorem bits_Reader_Raw_cnP {v0 v1 : Value} {W : World} {α β : Type} {A : List HP} {r : α → Value} {B : α → List HP} {pc : β → List PanicEntry} {Bp : β → List HP} (h : ∀ F, Ent W (A ++ F) (bits_Reader_Raw v0 v1 (fun ch w => ∃ y, ch = pc y ∧ sat W (Bp y ++ F) w) fun v w => ∃ x, v = r x ∧ sat W (B x ++ F) w)) : CnP Try.prog 85 [v0, v1] W A r B pc Bp :=
  CnP.of (shape := bits_Reader_Raw v0 v1) Try.call85 (fun h => bits_Reader_Raw_calls h) h

/-- inflate_must -/
def inflate_must (v0 : Value) (Kp : PK) (K : Value → WP) : WP :=
  opN Try.prog (sEq .neq 23 (.tmp 2) (.const (.int .i64 0)) v0 (.int .i64 0)) Kp fun x3 =>
  condS x3
  (opN Try.prog (sMkI 23 v0) Kp fun x5 =>
   opN Try.prog (sPanic x5) Kp fun _ =>
   K (.tuple #[]))
  (K (.tuple #[]))
def inflate_must_an : Ann := { cuts := [], blks := [], loops := [], drs := [] }
theorem inflate_must_eq (v0 : Value) (Kp : PK) (K : Value → WP) : cevF Try.prog inflate_must_an Try.f86 [v0] Kp K = inflate_must v0 Kp K := by kernel_rfl
theorem inflate_must_calls {v0 : Value} {Kp : PK} {K : Value → WP} {w : World} (h : inflate_must v0 Kp K w) : Calls Try.prog 86 #[v0] w (after Kp K) :=
  calls_of_shape (calls_of_cev wide Try.func86 (an := inflate_must_an) (args := [v0]) (cast (congrFun (inflate_must_eq v0 Kp K) w).symm h))
theorem inflate_must_cn {v0 : Value} {W : World} {α : Type} {A : List HP} {r : α → Value} {B : α → List HP} (h : ∀ F, Ent W (A ++ F) (inflate_must v0 noP fun v w => ∃ x, v = r x ∧ sat W (B x ++ F) w)) : Cn Try.prog 86 [v0] W A r B :=
  Cn.of (shape := inflate_must v0) Try.call86 (fun h => inflate_must_calls h) h
theorem inflate_must_cnP {v0 : Value} {W : World} {α β : Type} {A : List HP} {r : α → Value} {B : α → List HP} {pc : β → List PanicEntry} {Bp : β → List HP} (h : ∀ F, Ent W (A ++ F) (inflate_must v0 (fun ch w => ∃ y, ch = pc y ∧ sat W (Bp y ++ F) w) fun v w => ∃ x, v = r x ∧ sat W (B x ++ F) w)) : CnP Try.prog 86 [v0] W A r B pc Bp :=
  CnP.of (shape := inflate_must v0) Try.call86 (fun h => inflate_must_calls h) h

/-- inflate_Fixed -/
def inflate_Fixed (Kp : PK) (K : Value → WP) : WP :=
  opN Try.prog (sCall (fn 100) [(.slice none 0 0), (.int .i64 144), (.int .i64 8)]) Kp fun x7 =>
  opN Try.prog (sCall (fn 100) [x7, (.int .i64 112), (.int .i64 9)]) Kp fun x8 =>
  opN Try.prog (sCall (fn 100) [x8, (.int .i64 24), (.int .i64 7)]) Kp fun x9 =>
  opN Try.prog (sCall (fn 100) [x9, (.int .i64 8), (.int .i64 8)]) Kp fun x10 =>
  opN Try.prog (sCall (fn 100) [(.slice none 0 0), (.int .i64 32), (.int .i64 5)]) Kp fun x13 =>
  K (.tuple #[x10, x13])
def inflate_Fixed_an : Ann := { cuts := [], blks := [], loops := [], drs := [] }
theorem inflate_Fixed_eq (Kp : PK) (K : Value → WP) : cevF Try.prog inflate_Fixed_an Try.f87 [] Kp K = inflate_Fixed Kp K := by kernel_rfl
theorem inflate_Fixed_calls  {Kp : PK} {K : Value → WP} {w : World} (h : inflate_Fixed Kp K w) : Calls Try.prog 87 #[] w (after Kp K) :=
  calls_of_shape (calls_of_cev wide Try.func87 (an := inflate_Fixed_an) (args := []) (cast (congrFun (inflate_Fixed_eq Kp K) w).symm h))
theorem inflate_Fixed_cn  {W : World} {α : Type} {A : List HP} {r : α → Value} {B : α → List HP} (h : ∀ F, Ent W (A ++ F) (inflate_Fixed noP fun v w => ∃ x, v = r x ∧ sat W (B x ++ F) w)) : Cn Try.prog 87 [] W A r B :=
  Cn.of (shape := inflate_Fixed) Try.call87 (fun h => inflate_Fixed_calls h) h
theorem inflate_Fixed_cnP  {W : World} {α β : Type} {A : List HP} {r : α → Value} {B : α → List HP} {pc : β → List PanicEntry} {Bp : β → List HP} (h : ∀ F, Ent W (A ++ F) (inflate_Fixed (fun ch w => ∃ y, ch = pc y ∧ sat W (Bp y ++ F) w) fun v w => ∃ x, v = r x ∧ sat W (B x ++ F) w)) : CnP Try.prog 87 [] W A r B pc Bp :=
  CnP.of (shape := inflate_Fixed) Try.call87 (fun h => inflate_Fixed_calls h) h

/-- inflate_stream_symbols -/
def inflate_stream_symbols (v0 v1 v2 : Value) (Kp : PK) (K : Value → WP) : WP :=
  loop0 (fun I1 m1 _  =>
   opN Try.prog (sNil v0) Kp fun x13 =>
   opN Try.prog (sFA 126 x13 0) Kp fun x14 =>
   opN Try.prog (sLoad 70 x14) Kp fun x15 =>
   opN Try.prog (sCall (fn 101) [v1, x15]) Kp fun x16 =>
   opN Try.prog (sEq .eql 3 (.tmp 18) (.const (.int .i64 256)) x16 (.int .i64 256)) Kp fun x19 =>
   condS x19
   (K (.tuple #[]))
   (opN Try.prog (sBin .lss 3 x16 (.int .i64 256)) Kp fun x22 =>
    condS x22
    (opN Try.prog (sCall (fn 84) [v0, (.int .i64 1)]) Kp fun x24 =>
     opN Try.prog (sNil v0) Kp fun x27 =>
     opN Try.prog (sFA 126 x27 1) Kp fun x28 =>
     opN Try.prog (sLoad 39 x28) Kp fun x29 =>
     opN Try.prog (sConv 3 5 x16) Kp fun x31 =>
     opN Try.prog (sBuildSl 39 1 [(0, x31)]) Kp fun x32 =>
     opN Try.prog (sApp #[39, 39] 39 [x29, x32]) Kp fun x33 =>
     opN Try.prog (sNil v0) Kp fun x34 =>
     opN Try.prog (sFA 126 x34 1) Kp fun x35 =>
     opN Try.prog (sStore 39 x35 x33) Kp fun _ =>
     next0 I1 m1)
    (opN Try.prog (sCall (fn 102) [x16]) Kp fun x38 =>
     opN Try.prog (sExt x38 0) Kp fun x39 =>
     opN Try.prog (sExt x38 1) Kp fun x40 =>
     opN Try.prog (sBin .gtr 3 x39 (.int .i64 0)) Kp fun x42 =>
     opN Try.prog (sCall (fn 83) [x42, (.int .i64 30)]) Kp fun x43 =>
     opN Try.prog (sCall (fn 71) [v0, x40]) Kp fun x47 =>
     opN Try.prog (sBin .add 3 x39 x47) Kp fun x48 =>
     opN Try.prog (sNil v0) Kp fun x52 =>
     opN Try.prog (sFA 126 x52 0) Kp fun x53 =>
     opN Try.prog (sLoad 70 x53) Kp fun x54 =>
     opN Try.prog (sCall (fn 101) [v2, x54]) Kp fun x55 =>
     opN Try.prog (sCall (fn 103) [x55]) Kp fun x56 =>
     opN Try.prog (sExt x56 0) Kp fun x57 =>
     opN Try.prog (sExt x56 1) Kp fun x58 =>
     opN Try.prog (sBin .gtr 3 x57 (.int .i64 0)) Kp fun x60 =>
     opN Try.prog (sCall (fn 83) [x60, (.int .i64 30)]) Kp fun x61 =>
     opN Try.prog (sCall (fn 71) [v0, x58]) Kp fun x65 =>
     opN Try.prog (sBin .add 3 x57 x65) Kp fun x66 =>
     opN Try.prog (sNil v0) Kp fun x69 =>
     opN Try.prog (sFA 126 x69 1) Kp fun x70 =>
     opN Try.prog (sLoad 39 x70) Kp fun x71 =>
     opN Try.prog (sLen #[39] 3 [x71]) Kp fun x72 =>
     opN Try.prog (sBin .leq 3 x66 x72) Kp fun x73 =>
     opN Try.prog (sCall (fn 83) [x73, (.int .i64 31)]) Kp fun x74 =>
     opN Try.prog (sCall (fn 84) [v0, x48]) Kp fun x77 =>
     loop1 (fun I2 m2 _ y79 =>
      opN Try.prog (sBin .lss 3 y79 x48) Kp fun x80 =>
      condS x80
      (drS (stD Try.prog (sNil v0) fun D2 x83 =>
        stD Try.prog (sFA 126 x83 1) fun D3 x84 =>
        stD Try.prog (sLoad 39 x84) fun D4 x85 =>
        stS Try.prog (sNil v0) fun x87 =>
        stS Try.prog (sFA 126 x87 1) fun x88 =>
        stS Try.prog (sLoad 39 x88) fun x89 =>
        stS Try.prog (sNil v0) fun x91 =>
        stS Try.prog (sFA 126 x91 1) fun x92 =>
        stS Try.prog (sLoad 39 x92) fun x93 =>
        stS Try.prog (sLen #[39] 3 [x93]) fun x94 =>
        stS Try.prog (sBin .sub 3 x94 x66) fun x96 =>
        stS Try.prog (sIA 39 x89 x96) fun x97 =>
        stS Try.prog (sLoad 5 x97) fun x98 =>
        opN Try.prog (sBuildSl 39 1 [(0, x98)]) Kp fun x99 =>
        (fun w => D4 w ∧ (fun w => D3 w ∧ (fun w => D2 w ∧ (opN Try.prog (sApp #[39, 39] 39 [x85, x99]) Kp fun x100 =>
            stS Try.prog (sNil v0) fun x101 =>
            stS Try.prog (sFA 126 x101 1) fun x102 =>
            opN Try.prog (sStore 39 x102 x100) Kp fun _ =>
            opN Try.prog (sBin .add 3 y79 (.int .i64 1)) Kp fun x103 =>
            next1 I2 m2 x103) w) w) w)))
      (next0 I1 m1)) (.int .i64 0))))
def inflate_stream_symbols_an : Ann := { cuts := [], blks := [], loops := [(0, []), (14, [79])], drs := [(15, [(0, 2), (1, 2), (2, 3), (3, 3), (4, 3), (5, 1), (6, 1), (7, 1), (8, 1), (9, 1), (10, 1), (11, 1), (12, 1), (13, 1), (14, 1), (15, 1), (16, 1), (17, 1), (18, 0), (19, 0), (20, 1), (21, 1), (22, 0)])] }
theorem inflate_stream_symbols_eq (v0 v1 v2 : Value) (Kp : PK) (K : Value → WP) : cevF Try.prog inflate_stream_symbols_an Try.f88 [v0, v1, v2] Kp K = inflate_stream_symbols v0 v1 v2 Kp K := by kernel_rfl
theorem inflate_stream_symbols_calls {v0 v1 v2 : Value} {Kp : PK} {K : Value → WP} {w : World} (h : inflate_stream_symbols v0 v1 v2 Kp K w) : Calls Try.prog 88 #[v0, v1, v2] w (after Kp K) :=
  calls_of_shape (calls_of_cev wide Try.func88 (an := inflate_stream_symbols_an) (args := [v0, v1, v2]) (cast (congrFun (inflate_stream_symbols_eq v0 v1 v2 Kp K) w).symm h))
theorem inflate_stream_symbols_cn {v0 v1 v2 : Value} {W : World} {α : Type} {A : List HP} {r : α → Value} {B : α → List HP} (h : ∀ F, Ent W (A ++ F) (inflate_stream_symbols v0 v1 v2 noP fun v w => ∃ x, v = r x ∧ sat W (B x ++ F) w)) : Cn Try.prog 88 [v0, v1, v2] W A r B :=
  Cn.of (shape := inflate_stream_symbols v0 v1 v2) Try.call88 (fun h => inflate_stream_symbols_calls h) h
theorem inflate_stream_symbols_cnP {v0 v1 v2 : Value} {W : World} {α β : Type} {A : List HP} {r : α → Value} {B : α → List HP} {pc : β → List PanicEntry} {Bp : β → List HP} (h : ∀ F, Ent W (A ++ F) (inflate_stream_symbols v0 v1 v2 (fun ch w => ∃ y, ch = pc y ∧ sat W (Bp y ++ F) w) fun v w => ∃ x, v = r x ∧ sat W (B x ++ F) w)) : CnP Try.prog 88 [v0, v1, v2] W A r B pc Bp :=
  CnP.of (shape := inflate_stream_symbols v0 v1 v2) Try.call88 (fun h => inflate_stream_symbols_calls h) h

/-- inflate_decoder -/
def inflate_decoder (v0 : Value) (Kp : PK) (K : Value → WP) : WP :=
  opN Try.prog (sCall (fn 35) [v0]) Kp fun x7 =>
  opN Try.prog (sExt x7 0) Kp fun x8 =>
  opN Try.prog (sExt x7 1) Kp fun x9 =>
  opN Try.prog (sCall (fn 86) [x9]) Kp fun x11 =>
  K x8
def inflate_decoder_an : Ann := { cuts := [], blks := [], loops := [], drs := [] }
theorem inflate_decoder_eq (v0 : Value) (Kp : PK) (K : Value → WP) : cevF Try.prog inflate_decoder_an Try.f89 [v0] Kp K = inflate_decoder v0 Kp K := by kernel_rfl
theorem inflate_decoder_calls {v0 : Value} {Kp : PK} {K : Value → WP} {w : World} (h : inflate_decoder v0 Kp K w) : Calls Try.prog 89 #[v0] w (after Kp K) :=
  calls_of_shape (calls_of_cev wide Try.func89 (an := inflate_decoder_an) (args := [v0]) (cast (congrFun (inflate_decoder_eq v0 Kp K) w).symm h))
theorem inflate_decoder_cn {v0 : Value} {W : World} {α : Type} {A : List HP} {r : α → Value} {B : α → List HP} (h : ∀ F, Ent W (A ++ F) (inflate_decoder v0 noP fun v w => ∃ x, v = r x ∧ sat W (B x ++ F) w)) : Cn Try.prog 89 [v0] W A r B :=
  Cn.of (shape := inflate_decoder v0) Try.call89 (fun h => inflate_decoder_calls h) h
theorem inflate_decoder_cnP {v0 : Value} {W : World} {α β : Type} {A : List HP} {r : α → Value} {B : α → List HP} {pc : β → List PanicEntry} {Bp : β → List HP} (h : ∀ F, Ent W (A ++ F) (inflate_decoder v0 (fun ch w => ∃ y, ch = pc y ∧ sat W (Bp y ++ F) w) fun v w => ∃ x, v = r x ∧ sat W (B x ++ F) w)) : CnP Try.prog 89 [v0] W A r B pc Bp :=
  CnP.of (shape := inflate_decoder v0) Try.call89 (fun h => inflate_decoder_calls h) h

/-- inflate_stream_row -/
def inflate_stream_row (v0 v1 v2 : Value) (Kp : PK) (K : Value → WP) : WP :=
  loop1 (fun I1 m1 _ y7 =>
   opN Try.prog (sLen #[22] 3 [y7]) Kp fun x11 =>
   opN Try.prog (sBin .lss 3 x11 v2) Kp fun x13 =>
   condS x13
   (opN Try.prog (sNil v0) Kp fun x16 =>
    opN Try.prog (sFA 126 x16 0) Kp fun x17 =>
    opN Try.prog (sLoad 70 x17) Kp fun x18 =>
    opN Try.prog (sCall (fn 101) [v1, x18]) Kp fun x19 =>
    cut2 (fun J1 =>
     opN Try.prog (sEq .eql 3 (.tmp 20) (.const (.int .i64 16)) x19 (.int .i64 16)) Kp fun x22 =>
     condS x22
     (opN Try.prog (sCall (fn 71) [v0, (.int .i64 2)]) Kp fun x24 =>
      opN Try.prog (sBin .add 3 (.int .i64 3) x24) Kp fun x25 =>
      opN Try.prog (sLen #[22] 3 [y7]) Kp fun x27 =>
      opN Try.prog (sBin .gtr 3 x27 (.int .i64 0)) Kp fun x28 =>
      opN Try.prog (sCall (fn 83) [x28, (.int .i64 30)]) Kp fun x29 =>
      opN Try.prog (sLen #[22] 3 [y7]) Kp fun x32 =>
      opN Try.prog (sBin .sub 3 x32 (.int .i64 1)) Kp fun x33 =>
      opN Try.prog (sIA 22 y7 x33) Kp fun x34 =>
      opN Try.prog (sLoad 3 x34) Kp fun x35 =>
      J1 x35 x25)
     (opN Try.prog (sEq .eql 3 (.tmp 20) (.const (.int .i64 17)) x19 (.int .i64 17)) Kp fun x37 =>
      condS x37
      (opN Try.prog (sCall (fn 71) [v0, (.int .i64 3)]) Kp fun x39 =>
       opN Try.prog (sBin .add 3 (.int .i64 3) x39) Kp fun x40 =>
       J1 (.int .i64 0) x40)
      (opN Try.prog (sEq .eql 3 (.tmp 20) (.const (.int .i64 18)) x19 (.int .i64 18)) Kp fun x42 =>
       condS x42
       (opN Try.prog (sCall (fn 71) [v0, (.int .i64 7)]) Kp fun x44 =>
        opN Try.prog (sBin .add 3 (.int .i64 11) x44) Kp fun x45 =>
        J1 (.int .i64 0) x45)
       (J1 x19 (.int .i64 1))))) fun _ z8 z9 =>
    opN Try.prog (sLen #[22] 3 [y7]) Kp fun x49 =>
    opN Try.prog (sBin .sub 3 v2 x49) Kp fun x50 =>
    opN Try.prog (sBin .leq 3 z9 x50) Kp fun x51 =>
    opN Try.prog (sCall (fn 83) [x51, (.int .i64 30)]) Kp fun x52 =>
    loop2 (fun I2 m2 _ y7_2 y54 =>
     opN Try.prog (sBin .lss 3 y54 z9) Kp fun x55 =>
     condS x55
     (opN Try.prog (sBuildSl 22 1 [(0, z8)]) Kp fun x58 =>
      opN Try.prog (sApp #[22, 22] 22 [y7_2, x58]) Kp fun x59 =>
      opN Try.prog (sBin .add 3 y54 (.int .i64 1)) Kp fun x60 =>
      next2 I2 m2 x59 x60)
     (next1 I1 m1 y7_2)) y7 (.int .i64 0))
   (K y7)) (.slice none 0 0)
def inflate_stream_row_an : Ann := { cuts := [(14, [8, 9])], blks := [], loops := [(2, [7]), (16, [7, 54])], drs := [] }
theorem inflate_stream_row_eq (v0 v1 v2 : Value) (Kp : PK) (K : Value → WP) : cevF Try.prog inflate_stream_row_an Try.f90 [v0, v1, v2] Kp K = inflate_stream_row v0 v1 v2 Kp K := by kernel_rfl
theorem inflate_stream_row_calls {v0 v1 v2 : Value} {Kp : PK} {K : Value → WP} {w : World} (h : inflate_stream_row v0 v1 v2 Kp K w) : Calls Try.prog 90 #[v0, v1, v2] w (after Kp K) :=
  calls_of_shape (calls_of_cev wide Try.func90 (an := inflate_stream_row_an) (args := [v0, v1, v2]) (cast (congrFun (inflate_stream_row_eq v0 v1 v2 Kp K) w).symm h))
theorem inflate_stream_row_cn {v0 v1 v2 : Value} {W : World} {α : Type} {A : List HP} {r : α → Value} {B : α → List HP} (h : ∀ F, Ent W (A ++ F) (inflate_stream_row v0 v1 v2 noP fun v w => ∃ x, v = r x ∧ sat W (B x ++ F) w)) : Cn Try.prog 90 [v0, v1, v2] W A r B :=
  Cn.of (shape := inflate_stream_row v0 v1 v2) Try.call90 (fun h => inflate_stream_row_calls h) h
theorem inflate_stream_row_cnP {v0 v1 v2 : Value} {W : World} {α β : Type} {A : List HP} {r : α → Value} {B : α → List HP} {pc : β → List PanicEntry} {Bp : β → List HP} (h : ∀ F, Ent W (A ++ F) (inflate_stream_row v0 v1 v2 (fun ch w => ∃ y, ch = pc y ∧ sat W (Bp y ++ F) w) fun v w => ∃ x, v = r x ∧ sat W (B x ++ F) w)) : CnP Try.prog 90 [v0, v1, v2] W A r B pc Bp :=
  CnP.of (shape := inflate_stream_row v0 v1 v2) Try.call90 (fun h => inflate_stream_row_calls h) h

/-- inflate_enough -/
def inflate_enough (v0 : Value) (Kp : PK) (K : Value → WP) : WP :=
  opN Try.prog (sLen #[22] 3 [v0]) Kp fun x8 =>
  loop3 (fun I1 m1 _ y3 y4 y9 =>
   opN Try.prog (sBin .lss 3 y9 x8) Kp fun x10 =>
   condS x10
   (opN Try.prog (sIA 22 v0 y9) Kp fun x11 =>
    opN Try.prog (sLoad 3 x11) Kp fun x12 =>
    opN Try.prog (sBin .gtr 3 x12 (.int .i64 0)) Kp fun x14 =>
    condS x14
    (opN Try.prog (sBin .add 3 y3 (.int .i64 1)) Kp fun x16 =>
     opN Try.prog (sBin .add 3 y4 x12) Kp fun x19 =>
     opN Try.prog (sBin .add 3 y9 (.int .i64 1)) Kp fun x20 =>
     next3 I1 m1 x16 x19 x20)
    (opN Try.prog (sBin .add 3 y9 (.int .i64 1)) Kp fun x20 =>
     next3 I1 m1 y3 y4 x20))
   (opN Try.prog (sEq .eql 3 (.tmp 21) (.const (.int .i64 0)) y3 (.int .i64 0)) Kp fun x22 =>
    gdK x22 false (fun k => k y3) fun x24 =>
    gdK x22 false (opN Try.prog (sEq .eql 3 (.tmp 24) (.const (.int .i64 1)) x24 (.int .i64 1)) Kp) fun x25 =>
    gdK x22 false (fun k => k x25) fun x26 =>
    gdK x26 true (fun k => k y4) fun x27 =>
    gdK x26 true (opN Try.prog (sEq .eql 3 (.tmp 27) (.const (.int .i64 1)) x27 (.int .i64 1)) Kp) fun x28 =>
    gdK x22 false (opN Try.prog (sPick x26 x28 (.bool false)) Kp) fun x29 =>
    opN Try.prog (sPick x22 (.bool true) x29) Kp fun x30 =>
    gdK x30 false (fun k => k v0) fun x32 =>
    gdK x30 false (opN Try.prog (sCall (fn 22) [x32]) Kp) fun x33 =>
    opN Try.prog (sPick x30 (.bool true) x33) Kp fun x34 =>
    K x34)) (.int .i64 0) (.int .i64 0) (.int .i64 0)
def inflate_enough_an : Ann := { cuts := [], blks := [], loops := [(3, [3, 4, 9])], drs := [] }
theorem inflate_enough_eq (v0 : Value) (Kp : PK) (K : Value → WP) : cevF Try.prog inflate_enough_an Try.f91 [v0] Kp K = inflate_enough v0 Kp K := by kernel_rfl
theorem inflate_enough_calls {v0 : Value} {Kp : PK} {K : Value → WP} {w : World} (h : inflate_enough v0 Kp K w) : Calls Try.prog 91 #[v0] w (after Kp K) :=
  calls_of_shape (calls_of_cev wide Try.func91 (an := inflate_enough_an) (args := [v0]) (cast (congrFun (inflate_enough_eq v0 Kp K) w).symm h))
theorem inflate_enough_cn {v0 : Value} {W : World} {α : Type} {A : List HP} {r : α → Value} {B : α → List HP} (h : ∀ F, Ent W (A ++ F) (inflate_enough v0 noP fun v w => ∃ x, v = r x ∧ sat W (B x ++ F) w)) : Cn Try.prog 91 [v0] W A r B :=
  Cn.of (shape := inflate_enough v0) Try.call91 (fun h => inflate_enough_calls h) h
theorem inflate_enough_cnP {v0 : Value} {W : World} {α β : Type} {A : List HP} {r : α → Value} {B : α → List HP} {pc : β → List PanicEntry} {Bp : β → List HP} (h : ∀ F, Ent W (A ++ F) (inflate_enough v0 (fun ch w => ∃ y, ch = pc y ∧ sat W (Bp y ++ F) w) fun v w => ∃ x, v = r x ∧ sat W (B x ++ F) w)) : CnP Try.prog 91 [v0] W A r B pc Bp :=
  CnP.of (shape := inflate_enough v0) Try.call91 (fun h => inflate_enough_calls h) h

/-- ref02_Reader_Align -/
def ref02_Reader_Align (v0 : Value) (Kp : PK) (K : Value → WP) : WP :=
  opN Try.prog (sNil v0) Kp fun x4 =>
  opN Try.prog (sFA 117 x4 1) Kp fun x5 =>
  opN Try.prog (sLoad 3 x5) Kp fun x6 =>
  opN Try.prog (sBin .add 3 x6 (.int .i64 7)) Kp fun x7 =>
  opN Try.prog (sBin .quo 3 x7 (.int .i64 8)) Kp fun x8 =>
  opN Try.prog (sBin .mul 3 x8 (.int .i64 8)) Kp fun x9 =>
  opN Try.prog (sNil v0) Kp fun x10 =>
  opN Try.prog (sFA 117 x10 1) Kp fun x11 =>
  opN Try.prog (sStore 3 x11 x9) Kp fun _ =>
  K (.tuple #[])
def ref02_Reader_Align_an : Ann := { cuts := [], blks := [], loops := [], drs := [] }
theorem ref02_Reader_Align_eq (v0 : Value) (Kp : PK) (K : Value → WP) : cevF Try.prog ref02_Reader_Align_an Try.f92 [v0] Kp K = ref02_Reader_Align v0 Kp K := by kernel_rfl
theorem ref02_Reader_Align_calls {v0 : Value} {Kp : PK} {K : Value → WP} {w : World} (h : ref02_Reader_Align v0 Kp K w) : Calls Try.prog 92 #[v0] w (after Kp K) :=
  calls_of_shape (calls_of_cev wide Try.func92 (an := ref02_Reader_Align_an) (args := [v0]) (cast (congrFun (ref02_Reader_Align_eq v0 Kp K) w).symm h))
theorem ref02_Reader_Align_cn {v0 : Value} {W : World} {α : Type} {A : List HP} {r : α → Value} {B : α → List HP} (h : ∀ F, Ent W (A ++ F) (ref02_Reader_Align v0 noP fun v w => ∃ x, v = r x ∧ sat W (B x ++ F) w)) : Cn Try.prog 92 [v0] W A r B :=
  Cn.of (shape := ref02_Reader_Align v0) Try.call92 (fun h => ref02_Reader_Align_calls h) h
theorem ref02_Reader_Align_cnP {v0 : Value} {W : World} {α β : Type} {A : List HP} {r : α → Value} {B : α → List HP} {pc : β → List PanicEntry} {Bp : β → List HP} (h : ∀ F, Ent W (A ++ F) (ref02_Reader_Align v0 (fun ch w => ∃ y, ch = pc y ∧ sat W (Bp y ++ F) w) fun v w => ∃ x, v = r x ∧ sat W (B x ++ F) w)) : CnP Try.prog 92 [v0] W A r B pc Bp :=
  CnP.of (shape := ref02_Reader_Align v0) Try.call92 (fun h => ref02_Reader_Align_calls h) h

/-- ref02_Reader_Raw -/
def ref02_Reader_Raw (v0 v1 : Value) (Kp : PK) (K : Value → WP) : WP :=
  opN Try.prog (sBin .lss 3 v1 (.int .i64 0)) Kp fun x8 =>
  condS x8
  (K (.tuple #[(.slice none 0 0), (.int .i64 1)]))
  (opN Try.prog (sNil v0) Kp fun x10 =>
   opN Try.prog (sFA 117 x10 1) Kp fun x11 =>
   opN Try.prog (sLoad 3 x11) Kp fun x12 =>
   opN Try.prog (sBin .add 3 x12 (.int .i64 7)) Kp fun x13 =>
   opN Try.prog (sBin .quo 3 x13 (.int .i64 8)) Kp fun x14 =>
   opN Try.prog (sNil v0) Kp fun x17 =>
   opN Try.prog (sFA 117 x17 0) Kp fun x18 =>
   opN Try.prog (sLoad 39 x18) Kp fun x19 =>
   opN Try.prog (sLen #[39] 3 [x19]) Kp fun x20 =>
   opN Try.prog (sBin .sub 3 x20 x14) Kp fun x22 =>
   opN Try.prog (sBin .gtr 3 v1 x22) Kp fun x23 =>
   condS x23
   (K (.tuple #[(.slice none 0 0), (.int .i64 20)]))
   (opN Try.prog (sBin .add 3 x14 v1) Kp fun x27 =>
    opN Try.prog (sBin .mul 3 (.int .i64 8) x27) Kp fun x28 =>
    opN Try.prog (sNil v0) Kp fun x29 =>
    opN Try.prog (sFA 117 x29 1) Kp fun x30 =>
    opN Try.prog (sStore 3 x30 x28) Kp fun _ =>
    opN Try.prog (sBuildSl 39 0 []) Kp fun x31 =>
    opN Try.prog (sNil v0) Kp fun x33 =>
    opN Try.prog (sFA 117 x33 0) Kp fun x34 =>
    opN Try.prog (sLoad 39 x34) Kp fun x35 =>
    opN Try.prog (sBin .add 3 x14 v1) Kp fun x39 =>
    opN Try.prog (sSl 39 x35 (some x14) (some x39) none) Kp fun x40 =>
    opN Try.prog (sApp #[39, 39] 39 [x31, x40]) Kp fun x41 =>
    K (.tuple #[x41, (.int .i64 0)])))
def ref02_Reader_Raw_an : Ann := { cuts := [], blks := [], loops := [], drs := [] }
theorem ref02_Reader_Raw_eq (v0 v1 : Value) (Kp : PK) (K : Value → WP) : cevF Try.prog ref02_Reader_Raw_an Try.f93 [v0, v1] Kp K = ref02_Reader_Raw v0 v1 Kp K := by kernel_rfl
theorem ref02_Reader_Raw_calls {v0 v1 : Value} {Kp : PK} {K : Value → WP} {w : World} (h : ref02_Reader_Raw v0 v1 Kp K w) : Calls Try.prog 93 #[v0, v1] w (after Kp K) :=
  calls_of_shape (calls_of_cev wide Try.func93 (an := ref02_Reader_Raw_an) (args := [v0, v1]) (cast (congrFun (ref02_Reader_Raw_eq v0 v1 Kp K) w).symm h))
theorem ref02_Reader_Raw_cn {v0 v1 : Value} {W : World} {α : Type} {A : List HP} {r : α → Value} {B : α → List HP} (h : ∀ F, Ent W (A ++ F) (ref02_Reader_Raw v0 v1 noP fun v w => ∃ x, v = r x ∧ sat W (B x ++ F) w)) : Cn Try.prog 93 [v0, v1] W A r B :=
  Cn.of (shape := ref02_Reader_Raw v0 v1) Try.call93 (fun h => ref02_Reader_Raw_calls h) h
theorem ref02_Reader_Raw_cnP {v0 v1 : Value} {W : World} {α β : Type} {A : List HP} {r : α → Value} {B : α → List HP} {pc : β → List PanicEntry} {Bp : β → List HP} (h : ∀ F, Ent W (A ++ F) (ref02_Reader_Raw v0 v1 (fun ch w => ∃ y, ch = pc y ∧ sat W (Bp y ++ F) w) fun v w => ∃ x, v = r x ∧ sat W (B x ++ F) w)) : CnP Try.prog 93 [v0, v1] W A r B pc Bp :=
  CnP.of (shape := ref02_Reader_Raw v0 v1) Try.call93 (fun h => ref02_Reader_Raw_calls h) h

/-- ref05_stream_next -/
def ref05_stream_next (v0 v1 : Value) (Kp : PK) (K : Value → WP) : WP :=
  opN Try.prog (sNil v0) Kp fun x8 =>
  opN Try.prog (sFA 132 x8 3) Kp fun x9 =>
  opN Try.prog (sLoad 3 x9) Kp fun x10 =>
  opN Try.prog (sEq .neq 3 (.tmp 10) (.const (.int .i64 0)) x10 (.int .i64 0)) Kp fun x11 =>
  condS x11
  (K (.int .i64 0))
  (opN Try.prog (sNil v0) Kp fun x15 =>
   opN Try.prog (sFA 132 x15 0) Kp fun x16 =>
   opN Try.prog (sLoad 72 x16) Kp fun x17 =>
   opN Try.prog (sCall (fn 40) [v1, x17]) Kp fun x18 =>
   opN Try.prog (sExt x18 0) Kp fun x19 =>
   opN Try.prog (sExt x18 1) Kp fun x20 =>
   opN Try.prog (sEq .neq 3 (.tmp 21) (.const (.int .i64 0)) x20 (.int .i64 0)) Kp fun x22 =>
   condS x22
   (opN Try.prog (sCall (fn 77) [v0, x20]) Kp fun x25 =>
    K x19)
   (K x19))
def ref05_stream_next_an : Ann := { cuts := [], blks := [], loops := [], drs := [] }
theorem ref05_stream_next_eq (v0 v1 : Value) (Kp : PK) (K : Value → WP) : cevF Try.prog ref05_stream_next_an Try.f94 [v0, v1] Kp K = ref05_stream_next v0 v1 Kp K := by kernel_rfl
theorem ref05_stream_next_calls {v0 v1 : Value} {Kp : PK} {K : Value → WP} {w : World} (h : ref05_stream_next v0 v1 Kp K w) : Calls Try.prog 94 #[v0, v1] w (after Kp K) :=
  calls_of_shape (calls_of_cev wide Try.func94 (an := ref05_stream_next_an) (args := [v0, v1]) (cast (congrFun (ref05_stream_next_eq v0 v1 Kp K) w).symm h))
theorem ref05_stream_next_cn {v0 v1 : Value} {W : World} {α : Type} {A : List HP} {r : α → Value} {B : α → List HP} (h : ∀ F, Ent W (A ++ F) (ref05_stream_next v0 v1 noP fun v w => ∃ x, v = r x ∧ sat W (B x ++ F) w)) : Cn Try.prog 94 [v0, v1] W A r B :=
  Cn.of (shape := ref05_stream_next v0 v1) Try.call94 (fun h => ref05_stream_next_calls h) h
theorem ref05_stream_next_cnP {v0 v1 : Value} {W : World} {α β : Type} {A : List HP} {r : α → Value} {B : α → List HP} {pc : β → List PanicEntry} {Bp : β → List HP} (h : ∀ F, Ent W (A ++ F) (ref05_stream_next v0 v1 (fun ch w => ∃ y, ch = pc y ∧ sat W (Bp y ++ F) w) fun v w => ∃ x, v = r x ∧ sat W (B x ++ F) w)) : CnP Try.prog 94 [v0, v1] W A r B pc Bp :=
  CnP.of (shape := ref05_stream_next v0 v1) Try.call94 (fun h => ref05_stream_next_calls h) h

/-- ref05_stream_copied -/
def ref05_stream_copied (v0 v1 v2 : Value) (Kp : PK) (K : Value → WP) : WP :=
  opN Try.prog (sBin .gtr 3 v1 (.int .i64 285)) Kp fun x14 =>
  condS x14
  (opN Try.prog (sCall (fn 77) [v0, (.int .i64 30)]) Kp fun x16 =>
   K (.tuple #[]))
  (opN Try.prog (sCall (fn 104) [v1]) Kp fun x19 =>
   opN Try.prog (sExt x19 0) Kp fun x20 =>
   opN Try.prog (sExt x19 1) Kp fun x21 =>
   opN Try.prog (sCall (fn 72) [v0, x21]) Kp fun x25 =>
   opN Try.prog (sBin .add 3 x20 x25) Kp fun x26 =>
   opN Try.prog (sCall (fn 94) [v0, v2]) Kp fun x29 =>
   cut0 (fun J1 =>
    opN Try.prog (sNil v0) Kp fun x31 =>
    opN Try.prog (sFA 132 x31 3) Kp fun x32 =>
    opN Try.prog (sLoad 3 x32) Kp fun x33 =>
    opN Try.prog (sEq .eql 3 (.tmp 33) (.const (.int .i64 0)) x33 (.int .i64 0)) Kp fun x34 =>
    gdK x34 true (fun k => k x29) fun x36 =>
    gdK x34 true (opN Try.prog (sBin .gtr 3 x36 (.int .i64 29)) Kp) fun x37 =>
    opN Try.prog (sPick x34 x37 (.bool false)) Kp fun x38 =>
    condS x38
    (opN Try.prog (sCall (fn 77) [v0, (.int .i64 30)]) Kp fun x40 =>
     J1)
    (J1)) fun _ =>
   opN Try.prog (sCall (fn 105) [x29]) Kp fun x43 =>
   opN Try.prog (sExt x43 0) Kp fun x44 =>
   opN Try.prog (sExt x43 1) Kp fun x45 =>
   opN Try.prog (sCall (fn 72) [v0, x45]) Kp fun x49 =>
   opN Try.prog (sBin .add 3 x44 x49) Kp fun x50 =>
   cut0 (fun J2 =>
    opN Try.prog (sNil v0) Kp fun x52 =>
    opN Try.prog (sFA 132 x52 3) Kp fun x53 =>
    opN Try.prog (sLoad 3 x53) Kp fun x54 =>
    opN Try.prog (sEq .eql 3 (.tmp 54) (.const (.int .i64 0)) x54 (.int .i64 0)) Kp fun x55 =>
    gdK x55 true (fun k => k x50) fun x57 =>
    gdK x55 true (fun k => k v0) fun x58 =>
    gdK x55 true (opN Try.prog (sNil x58) Kp) fun x59 =>
    gdK x55 true (opN Try.prog (sFA 132 x59 1) Kp) fun x60 =>
    gdK x55 true (opN Try.prog (sLoad 39 x60) Kp) fun x61 =>
    gdK x55 true (opN Try.prog (sLen #[39] 3 [x61]) Kp) fun x62 =>
    gdK x55 true (opN Try.prog (sBin .gtr 3 x57 x62) Kp) fun x63 =>
    opN Try.prog (sPick x55 x63 (.bool false)) Kp fun x64 =>
    condS x64
    (opN Try.prog (sCall (fn 77) [v0, (.int .i64 31)]) Kp fun x66 =>
     J2)
    (J2)) fun _ =>
   cut0 (fun J3 =>
    drS (stS Try.prog (sNil v0) fun x68 =>
     stS Try.prog (sFA 132 x68 3) fun x69 =>
     stS Try.prog (sLoad 3 x69) fun x70 =>
     stS Try.prog (sEq .eql 3 (.tmp 70) (.const (.int .i64 0)) x70 (.int .i64 0)) fun x71 =>
     gdK x71 true (fun k => k x26) fun x73 =>
     gdK x71 true (fun k => k v0) fun x74 =>
     gdK x71 true (stS Try.prog (sNil x74)) fun x75 =>
     gdK x71 true (stS Try.prog (sFA 132 x75 2)) fun x76 =>
     gdK x71 true (stS Try.prog (sLoad 3 x76)) fun x77 =>
     gdK x71 true (fun k => k v0) fun x78 =>
     gdK x71 true (stS Try.prog (sNil x78)) fun x79 =>
     gdK x71 true (stS Try.prog (sFA 132 x79 1)) fun x80 =>
     gdK x71 true (stS Try.prog (sLoad 39 x80)) fun x81 =>
     gdK x71 true (stS Try.prog (sLen #[39] 3 [x81])) fun x82 =>
     gdK x71 true (stS Try.prog (sBin .sub 3 x77 x82)) fun x83 =>
     gdK x71 true (stS Try.prog (sBin .gtr 3 x73 x83)) fun x84 =>
     stS Try.prog (sPick x71 x84 (.bool false)) fun x85 =>
     condS x85
     (opN Try.prog (sCall (fn 77) [v0, (.int .i64 6)]) Kp fun x87 =>
      J3)
     (J3))) fun _ =>
   loop1 (fun I1 m1 _ y12 =>
    opN Try.prog (sBin .lss 3 y12 x26) Kp fun x90 =>
    gdK x90 true (fun k => k v0) fun x92 =>
    gdK x90 true (opN Try.prog (sNil x92) Kp) fun x93 =>
    gdK x90 true (opN Try.prog (sFA 132 x93 3) Kp) fun x94 =>
    gdK x90 true (opN Try.prog (sLoad 3 x94) Kp) fun x95 =>
    gdK x90 true (opN Try.prog (sEq .eql 3 (.tmp 95) (.const (.int .i64 0)) x95 (.int .i64 0)) Kp) fun x96 =>
    opN Try.prog (sPick x90 x96 (.bool false)) Kp fun x97 =>
    condS x97
    (drS (stD Try.prog (sNil v0) fun D2 x102 =>
      stD Try.prog (sFA 132 x102 1) fun D3 x103 =>
      stD Try.prog (sLoad 39 x103) fun D4 x104 =>
      stS Try.prog (sNil v0) fun x106 =>
      stS Try.prog (sFA 132 x106 1) fun x107 =>
      stS Try.prog (sLoad 39 x107) fun x108 =>
      stS Try.prog (sNil v0) fun x110 =>
      stS Try.prog (sFA 132 x110 1) fun x111 =>
      stS Try.prog (sLoad 39 x111) fun x112 =>
      stS Try.prog (sLen #[39] 3 [x112]) fun x113 =>
      stS Try.prog (sBin .sub 3 x113 x50) fun x115 =>
      stS Try.prog (sIA 39 x108 x115) fun x116 =>
      stS Try.prog (sLoad 5 x116) fun x117 =>
      opN Try.prog (sBuildSl 39 1 [(0, x117)]) Kp fun x118 =>
      (fun w => D4 w ∧ (fun w => D3 w ∧ (fun w => D2 w ∧ (opN Try.prog (sApp #[39, 39] 39 [x104, x118]) Kp fun x119 =>
          stS Try.prog (sNil v0) fun x120 =>
          stS Try.prog (sFA 132 x120 1) fun x121 =>
          opN Try.prog (sStore 39 x121 x119) Kp fun _ =>
          opN Try.prog (sBin .add 3 y12 (.int .i64 1)) Kp fun x99 =>
          next1 I1 m1 x99) w) w) w)))
    (K (.tuple #[]))) (.int .i64 0))
def ref05_stream_copied_an : Ann := { cuts := [(7, []), (11, []), (13, [])], blks := [], loops := [(14, [12])], drs := [(11, [(0, 1), (1, 1), (2, 1), (3, 1), (4, 1), (5, 1), (6, 1), (7, 1), (8, 1), (9, 1), (10, 1), (11, 1), (12, 1), (13, 1), (14, 1), (15, 1), (16, 1), (17, 1), (18, 1)]), (16, [(0, 2), (1, 2), (2, 3), (3, 3), (4, 3), (5, 1), (6, 1), (7, 1), (8, 1), (9, 1), (10, 1), (11, 1), (12, 1), (13, 1), (14, 1), (15, 1), (16, 1), (17, 1), (18, 0), (19, 0), (20, 1), (21, 1), (22, 0)])] }
theorem ref05_stream_copied_eq (v0 v1 v2 : Value) (Kp : PK) (K : Value → WP) : cevF Try.prog ref05_stream_copied_an Try.f95 [v0, v1, v2] Kp K = ref05_stream_copied v0 v1 v2 Kp K := by kernel_rfl
theorem ref05_stream_copied_calls {v0 v1 v2 : Value} {Kp : PK} {K : Value → WP} {w : World} (h : ref05_stream_copied v0 v1 v2 Kp K w) : Calls Try.prog 95 #[v0, v1, v2] w (after Kp K) :=
  calls_of_shape (calls_of_cev wide Try.func95 (an := ref05_stream_copied_an) (args := [v0, v1, v2]) (cast (congrFun (ref05_stream_copied_eq v0 v1 v2 Kp K) w).symm h))
theorem ref05_stream_copied_cn {v0 v1 v2 : Value} {W : World} {α : Type} {A : List HP} {r : α → Value} {B : α → List HP} (h : ∀ F, Ent W (A ++ F) (ref05_stream_copied v0 v1 v2 noP fun v w => ∃ x, v = r x ∧ sat W (B x ++ F) w)) : Cn Try.prog 95 [v0, v1, v2] W A r B :=
  Cn.of (shape := ref05_stream_copied v0 v1 v2) Try.call95 (fun h => ref05_stream_copied_calls h) h
theorem ref05_stream_copied_cnP {v0 v1 v2 : Value} {W : World} {α β : Type} {A : List HP} {r : α → Value} {B : α → List HP} {pc : β → List PanicEntry} {Bp : β → List HP} (h : ∀ F, Ent W (A ++ F) (ref05_stream_copied v0 v1 v2 (fun ch w => ∃ y, ch = pc y ∧ sat W (Bp y ++ F) w) fun v w => ∃ x, v = r x ∧ sat W (B x ++ F) w)) : CnP Try.prog 95 [v0, v1, v2] W A r B pc Bp :=
  CnP.of (shape := ref05_stream_copied v0 v1 v2) Try.call95 (fun h => ref05_stream_copied_calls h) h

/-- ref05_order -/
def ref05_order (Kp : PK) (K : Value → WP) : WP :=
  opN Try.prog (sBuildSl 22 19 [(0, (.int .i64 16)), (1, (.int .i64 17)), (2, (.int .i64 18)), (3, (.int .i64 0)), (4, (.int .i64 8)), (5, (.int .i64 7)), (6, (.int .i64 9)), (7, (.int .i64 6)), (8, (.int .i64 10)), (9, (.int .i64 5)), (10, (.int .i64 11)), (11, (.int .i64 4)), (12, (.int .i64 12)), (13, (.int .i64 3)), (14, (.int .i64 13)), (15, (.int .i64 2)), (16, (.int .i64 14)), (17, (.int .i64 1)), (18, (.int .i64 15))]) Kp fun x1 =>
  K x1
def ref05_order_an : Ann := { cuts := [], blks := [], loops := [], drs := [] }
theorem ref05_order_eq (Kp : PK) (K : Value → WP) : cevF Try.prog ref05_order_an Try.f96 [] Kp K = ref05_order Kp K := by kernel_rfl
theorem ref05_order_calls  {Kp : PK} {K : Value → WP} {w : World} (h : ref05_order Kp K w) : Calls Try.prog 96 #[] w (after Kp K) :=
  calls_of_shape (calls_of_cev wide Try.func96 (an := ref05_order_an) (args := []) (cast (congrFun (ref05_order_eq Kp K) w).symm h))
theorem ref05_order_cn  {W : World} {α : Type} {A : List HP} {r : α → Value} {B : α → List HP} (h : ∀ F, Ent W (A ++ F) (ref05_order noP fun v w => ∃ x, v = r x ∧ sat W (B x ++ F) w)) : Cn Try.prog 96 [] W A r B :=
  Cn.of (shape := ref05_order) Try.call96 (fun h => ref05_order_calls h) h
theorem ref05_order_cnP  {W : World} {α β : Type} {A : List HP} {r : α → Value} {B : α → List HP} {pc : β → List PanicEntry} {Bp : β → List HP} (h : ∀ F, Ent W (A ++ F) (ref05_order (fun ch w => ∃ y, ch = pc y ∧ sat W (Bp y ++ F) w) fun v w => ∃ x, v = r x ∧ sat W (B x ++ F) w)) : CnP Try.prog 96 [] W A r B pc Bp :=
  CnP.of (shape := ref05_order) Try.call96 (fun h => ref05_order_calls h) h

/-- ref05_stream_row -/
def ref05_stream_row (v0 v1 v2 : Value) (Kp : PK) (K : Value → WP) : WP :=
  loop1 (fun I1 m1 _ y7 =>
   opN Try.prog (sLen #[22] 3 [y7]) Kp fun x13 =>
   opN Try.prog (sBin .lss 3 x13 v2) Kp fun x15 =>
   gdK x15 true (fun k => k v0) fun x17 =>
   gdK x15 true (opN Try.prog (sNil x17) Kp) fun x18 =>
   gdK x15 true (opN Try.prog (sFA 132 x18 3) Kp) fun x19 =>
   gdK x15 true (opN Try.prog (sLoad 3 x19) Kp) fun x20 =>
   gdK x15 true (opN Try.prog (sEq .eql 3 (.tmp 20) (.const (.int .i64 0)) x20 (.int .i64 0)) Kp) fun x21 =>
   opN Try.prog (sPick x15 x21 (.bool false)) Kp fun x22 =>
   condS x22
   (opN Try.prog (sCall (fn 94) [v0, v1]) Kp fun x25 =>
    cut2 (fun J1 =>
     opN Try.prog (sNil v0) Kp fun x29 =>
     opN Try.prog (sFA 132 x29 3) Kp fun x30 =>
     opN Try.prog (sLoad 3 x30) Kp fun x31 =>
     opN Try.prog (sEq .neq 3 (.tmp 31) (.const (.int .i64 0)) x31 (.int .i64 0)) Kp fun x32 =>
     condS x32
     (K (.slice none 0 0))
     (opN Try.prog (sEq .eql 3 (.tmp 34) (.const (.int .i64 16)) x25 (.int .i64 16)) Kp fun x35 =>
      condS x35
      (opN Try.prog (sCall (fn 72) [v0, (.int .i64 2)]) Kp fun x37 =>
       opN Try.prog (sBin .add 3 (.int .i64 3) x37) Kp fun x38 =>
       opN Try.prog (sLen #[22] 3 [y7]) Kp fun x40 =>
       opN Try.prog (sEq .eql 3 (.tmp 40) (.const (.int .i64 0)) x40 (.int .i64 0)) Kp fun x41 =>
       condS x41
       (opN Try.prog (sCall (fn 77) [v0, (.int .i64 30)]) Kp fun x43 =>
        K (.slice none 0 0))
       (opN Try.prog (sLen #[22] 3 [y7]) Kp fun x46 =>
        opN Try.prog (sBin .sub 3 x46 (.int .i64 1)) Kp fun x47 =>
        opN Try.prog (sIA 22 y7 x47) Kp fun x48 =>
        opN Try.prog (sLoad 3 x48) Kp fun x49 =>
        J1 x38 x49))
      (opN Try.prog (sEq .eql 3 (.tmp 51) (.const (.int .i64 17)) x25 (.int .i64 17)) Kp fun x52 =>
       condS x52
       (opN Try.prog (sCall (fn 72) [v0, (.int .i64 3)]) Kp fun x54 =>
        opN Try.prog (sBin .add 3 (.int .i64 3) x54) Kp fun x55 =>
        J1 x55 (.int .i64 0))
       (opN Try.prog (sEq .eql 3 (.tmp 57) (.const (.int .i64 18)) x25 (.int .i64 18)) Kp fun x58 =>
        condS x58
        (opN Try.prog (sCall (fn 72) [v0, (.int .i64 7)]) Kp fun x60 =>
         opN Try.prog (sBin .add 3 (.int .i64 11) x60) Kp fun x61 =>
         J1 x61 (.int .i64 0))
        (J1 (.int .i64 1) x25))))) fun _ z9 z10 =>
    cut0 (fun J2 =>
     opN Try.prog (sNil v0) Kp fun x63 =>
     opN Try.prog (sFA 132 x63 3) Kp fun x64 =>
     opN Try.prog (sLoad 3 x64) Kp fun x65 =>
     opN Try.prog (sEq .eql 3 (.tmp 65) (.const (.int .i64 0)) x65 (.int .i64 0)) Kp fun x66 =>
     gdK x66 true (fun k => k z9) fun x68 =>
     gdK x66 true (fun k => k v2) fun x69 =>
     gdK x66 true (fun k => k y7) fun x70 =>
     gdK x66 true (opN Try.prog (sLen #[22] 3 [x70]) Kp) fun x71 =>
     gdK x66 true (opN Try.prog (sBin .sub 3 x69 x71) Kp) fun x72 =>
     gdK x66 true (opN Try.prog (sBin .gtr 3 x68 x72) Kp) fun x73 =>
     opN Try.prog (sPick x66 x73 (.bool false)) Kp fun x74 =>
     condS x74
     (opN Try.prog (sCall (fn 77) [v0, (.int .i64 30)]) Kp fun x76 =>
      J2)
     (J2)) fun _ =>
    loop2 (fun I2 m2 _ y7_2 y11 =>
     opN Try.prog (sBin .lss 3 y11 z9) Kp fun x79 =>
     gdK x79 true (fun k => k v0) fun x81 =>
     gdK x79 true (opN Try.prog (sNil x81) Kp) fun x82 =>
     gdK x79 true (opN Try.prog (sFA 132 x82 3) Kp) fun x83 =>
     gdK x79 true (opN Try.prog (sLoad 3 x83) Kp) fun x84 =>
     gdK x79 true (opN Try.prog (sEq .eql 3 (.tmp 84) (.const (.int .i64 0)) x84 (.int .i64 0)) Kp) fun x85 =>
     opN Try.prog (sPick x79 x85 (.bool false)) Kp fun x86 =>
     condS x86
     (opN Try.prog (sBuildSl 22 1 [(0, z10)]) Kp fun x91 =>
      opN Try.prog (sApp #[22, 22] 22 [y7_2, x91]) Kp fun x92 =>
      opN Try.prog (sBin .add 3 y11 (.int .i64 1)) Kp fun x88 =>
      next2 I2 m2 x92 x88)
     (next1 I1 m1 y7_2)) y7 (.int .i64 0))
   (K y7)) (.slice none 0 0)
def ref05_stream_row_an : Ann := { cuts := [(20, [9, 10]), (22, [])], blks := [], loops := [(2, [7]), (23, [7, 11])], drs := [] }
theorem ref05_stream_row_eq (v0 v1 v2 : Value) (Kp : PK) (K : Value → WP) : cevF Try.prog ref05_stream_row_an Try.f97 [v0, v1, v2] Kp K = ref05_stream_row v0 v1 v2 Kp K := by kernel_rfl
theorem ref05_stream_row_calls {v0 v1 v2 : Value} {Kp : PK} {K : Value → WP} {w : World} (h : ref05_stream_row v0 v1 v2 Kp K w) : Calls Try.prog 97 #[v0, v1, v2] w (after Kp K) :=
  calls_of_shape (calls_of_cev wide Try.func97 (an := ref05_stream_row_an) (args := [v0, v1, v2]) (cast (congrFun (ref05_stream_row_eq v0 v1 v2 Kp K) w).symm h))
theorem ref05_stream_row_cn {v0 v1 v2 : Value} {W : World} {α : Type} {A : List HP} {r : α → Value} {B : α → List HP} (h : ∀ F, Ent W (A ++ F) (ref05_stream_row v0 v1 v2 noP fun v w => ∃ x, v = r x ∧ sat W (B x ++ F) w)) : Cn Try.prog 97 [v0, v1, v2] W A r B :=
  Cn.of (shape := ref05_stream_row v0 v1 v2) Try.call97 (fun h => ref05_stream_row_calls h) h
theorem ref05_stream_row_cnP {v0 v1 v2 : Value} {W : World} {α β : Type} {A : List HP} {r : α → Value} {B : α → List HP} {pc : β → List PanicEntry} {Bp : β → List HP} (h : ∀ F, Ent W (A ++ F) (ref05_stream_row v0 v1 v2 (fun ch w => ∃ y, ch = pc y ∧ sat W (Bp y ++ F) w) fun v w => ∃ x, v = r x ∧ sat W (B x ++ F) w)) : CnP Try.prog 97 [v0, v1, v2] W A r B pc Bp :=
  CnP.of (shape := ref05_stream_row v0 v1 v2) Try.call97 (fun h => ref05_stream_row_calls h) h

/-- ref05_enough -/
def ref05_enough (v0 : Value) (Kp : PK) (K : Value → WP) : WP :=
  loop3 (fun I1 m1 _ y3 y4 y5 =>
   opN Try.prog (sLen #[22] 3 [v0]) Kp fun x8 =>
   opN Try.prog (sBin .lss 3 y5 x8) Kp fun x9 =>
   condS x9
   (opN Try.prog (sIA 22 v0 y5) Kp fun x14 =>
    opN Try.prog (sLoad 3 x14) Kp fun x15 =>
    opN Try.prog (sBin .gtr 3 x15 (.int .i64 0)) Kp fun x16 =>
    condS x16
    (opN Try.prog (sBin .add 3 y3 (.int .i64 1)) Kp fun x18 =>
     gdK y4 true (fun k => k v0) fun x21 =>
     gdK y4 true (fun k => k y5) fun x22 =>
     gdK y4 true (opN Try.prog (sIA 22 x21 x22) Kp) fun x23 =>
     gdK y4 true (opN Try.prog (sLoad 3 x23) Kp) fun x24 =>
     gdK y4 true (opN Try.prog (sEq .eql 3 (.tmp 24) (.const (.int .i64 1)) x24 (.int .i64 1)) Kp) fun x25 =>
     opN Try.prog (sPick y4 x25 (.bool false)) Kp fun x26 =>
     opN Try.prog (sBin .add 3 y5 (.int .i64 1)) Kp fun x11 =>
     next3 I1 m1 x18 x26 x11)
    (opN Try.prog (sBin .add 3 y5 (.int .i64 1)) Kp fun x11 =>
     next3 I1 m1 y3 y4 x11))
   (opN Try.prog (sEq .eql 3 (.tmp 27) (.const (.int .i64 0)) y3 (.int .i64 0)) Kp fun x28 =>
    gdK x28 false (fun k => k y3) fun x30 =>
    gdK x28 false (opN Try.prog (sEq .eql 3 (.tmp 30) (.const (.int .i64 1)) x30 (.int .i64 1)) Kp) fun x31 =>
    gdK x28 false (fun k => k x31) fun x32 =>
    gdK x32 true (fun k => k y4) fun x33 =>
    gdK x28 false (opN Try.prog (sPick x32 x33 (.bool false)) Kp) fun x34 =>
    opN Try.prog (sPick x28 (.bool true) x34) Kp fun x35 =>
    gdK x35 false (fun k => k v0) fun x37 =>
    gdK x35 false (opN Try.prog (sCall (fn 23) [x37]) Kp) fun x38 =>
    opN Try.prog (sPick x35 (.bool true) x38) Kp fun x39 =>
    K x39)) (.int .i64 0) (.bool true) (.int .i64 0)
def ref05_enough_an : Ann := { cuts := [], blks := [], loops := [(4, [3, 4, 5])], drs := [] }
theorem ref05_enough_eq (v0 : Value) (Kp : PK) (K : Value → WP) : cevF Try.prog ref05_enough_an Try.f98 [v0] Kp K = ref05_enough v0 Kp K := by kernel_rfl
theorem ref05_enough_calls {v0 : Value} {Kp : PK} {K : Value → WP} {w : World} (h : ref05_enough v0 Kp K w) : Calls Try.prog 98 #[v0] w (after Kp K) :=
  calls_of_shape (calls_of_cev wide Try.func98 (an := ref05_enough_an) (args := [v0]) (cast (congrFun (ref05_enough_eq v0 Kp K) w).symm h))
theorem ref05_enough_cn {v0 : Value} {W : World} {α : Type} {A : List HP} {r : α → Value} {B : α → List HP} (h : ∀ F, Ent W (A ++ F) (ref05_enough v0 noP fun v w => ∃ x, v = r x ∧ sat W (B x ++ F) w)) : Cn Try.prog 98 [v0] W A r B :=
  Cn.of (shape := ref05_enough v0) Try.call98 (fun h => ref05_enough_calls h) h
theorem ref05_enough_cnP {v0 : Value} {W : World} {α β : Type} {A : List HP} {r : α → Value} {B : α → List HP} {pc : β → List PanicEntry} {Bp : β → List HP} (h : ∀ F, Ent W (A ++ F) (ref05_enough v0 (fun ch w => ∃ y, ch = pc y ∧ sat W (Bp y ++ F) w) fun v w => ∃ x, v = r x ∧ sat W (B x ++ F) w)) : CnP Try.prog 98 [v0] W A r B pc Bp :=
  CnP.of (shape := ref05_enough v0) Try.call98 (fun h => ref05_enough_calls h) h

/-- slices_rotateCmpFunc_huff_weighed_int -/
def slices_rotateCmpFunc_huff_weighed_int (v0 v1 v2 v3 v4 : Value) (Kp : PK) (K : Value → WP) : WP :=
  opN Try.prog (sBin .sub 3 v2 v1) Kp fun x14 =>
  opN Try.prog (sBin .sub 3 v3 v2) Kp fun x17 =>
  loop2 (fun I1 m1 _ y10 y11 =>
   opN Try.prog (sEq .neq 3 (.tmp 18) (.tmp 19) y10 y11) Kp fun x20 =>
   condS x20
   (opN Try.prog (sBin .gtr 3 y10 y11) Kp fun x23 =>
    condS x23
    (opN Try.prog (sBin .sub 3 v2 y10) Kp fun x27 =>
     opN Try.prog (sCall (fn 106) [v0, x27, v2, y11, v4]) Kp fun x31 =>
     opN Try.prog (sBin .sub 3 y10 y11) Kp fun x34 =>
     next2 I1 m1 x34 y11)
    (opN Try.prog (sBin .sub 3 v2 y10) Kp fun x38 =>
     opN Try.prog (sBin .add 3 v2 y11) Kp fun x41 =>
     opN Try.prog (sBin .sub 3 x41 y10) Kp fun x43 =>
     opN Try.prog (sCall (fn 106) [v0, x38, x43, y10, v4]) Kp fun x46 =>
     opN Try.prog (sBin .sub 3 y11 y10) Kp fun x49 =>
     next2 I1 m1 y10 x49))
   (opN Try.prog (sBin .sub 3 v2 y10) Kp fun x53 =>
    opN Try.prog (sCall (fn 106) [v0, x53, v2, y10, v4]) Kp fun x57 =>
    K (.tuple #[]))) x14 x17
def slices_rotateCmpFunc_huff_weighed_int_an : Ann := { cuts := [], blks := [], loops := [(2, [10, 11])], drs := [] }
theorem slices_rotateCmpFunc_huff_weighed_int_eq (v0 v1 v2 v3 v4 : Value) (Kp : PK) (K : Value → WP) : cevF Try.prog slices_rotateCmpFunc_huff_weighed_int_an Try.f99 [v0, v1, v2, v3, v4] Kp K = slices_rotateCmpFunc_huff_weighed_int v0 v1 v2 v3 v4 Kp K := by kernel_rfl
theorem slices_rotateCmpFunc_huff_weighed_int_calls {v0 v1 v2 v3 v4 : Value} {Kp : PK} {K : Value → WP} {w : World} (h : slices_rotateCmpFunc_huff_weighed_int v0 v1 v2 v3 v4 Kp K w) : Calls Try.prog 99 #[v0, v1, v2, v3, v4] w (after Kp K) :=
  calls_of_shape (calls_of_cev wide Try.func99 (an := slices_rotateCmpFunc_huff_weighed_int_an) (args := [v0, v1, v2, v3, v4]) (cast (congrFun (slices_rotateCmpFunc_huff_weighed_int_eq v0 v1 v2 v3 v4 Kp K) w).symm h))
theorem slices_rotateCmpFunc_huff_weighed_int_cn {v0 v1 v2 v3 v4 : Value} {W : World} {α : Type} {A : List HP} {r : α → Value} {B : α → List HP} (h : ∀ F, Ent W (A ++ F) (slices_rotateCmpFunc_huff_weighed_int v0 v1 v2 v3 v4 noP fun v w => ∃ x, v = r x ∧ sat W (B x ++ F) w)) : Cn Try.prog 99 [v0, v1, v2, v3, v4] W A r B :=
  Cn.of (shape := slices_rotateCmpFunc_huff_weighed_int v0 v1 v2 v3 v4) Try.call99 (fun h => slices_rotateCmpFunc_huff_weighed_int_calls h) h
theorem slices_rotateCmpFunc_huff_weighed_int_cnP {v0 v1 v2 v3 v4 : Value} {W : World} {α β : Type} {A : List HP} {r : α → Value} {B : α → List HP} {pc : β → List PanicEntry} {Bp : β → List HP} (h : ∀ F, Ent W (A ++ F) (slices_rotateCmpFunc_huff_weighed_int v0 v1 v2 v3 v4 (fun ch w => ∃ y, ch = pc y ∧ sat W (Bp y ++ F) w) fun v w => ∃ x, v = r x ∧ sat W (B x ++ F) w)) : CnP Try.prog 99 [v0, v1, v2, v3, v4] W A r B pc Bp :=
  CnP.of (shape := slices_rotateCmpFunc_huff_weighed_int v0 v1 v2 v3 v4) Try.call99 (fun h => slices_rotateCmpFunc_huff_weighed_int_calls h) h

/-- inflate_Fixed_1 -/
def inflate_Fixed_1 (v0 v1 v2 : Value) (Kp : PK) (K : Value → WP) : WP :=
  loop2 (fun I1 m1 _ y0 y8 =>
   opN Try.prog (sBin .lss 3 y8 v1) Kp fun x9 =>
   condS x9
   (opN Try.prog (sBuildSl 22 1 [(0, v2)]) Kp fun x12 =>
    opN Try.prog (sApp #[22, 22] 22 [y0, x12]) Kp fun x13 =>
    opN Try.prog (sBin .add 3 y8 (.int .i64 1)) Kp fun x14 =>
    next2 I1 m1 x13 x14)
   (K y0)) v0 (.int .i64 0)
def inflate_Fixed_1_an : Ann := { cuts := [], blks := [], loops := [(2, [0, 8])], drs := [] }
theorem inflate_Fixed_1_eq (v0 v1 v2 : Value) (Kp : PK) (K : Value → WP) : cevF Try.prog inflate_Fixed_1_an Try.f100 [v0, v1, v2] Kp K = inflate_Fixed_1 v0 v1 v2 Kp K := by kernel_rfl
theorem inflate_Fixed_1_calls {v0 v1 v2 : Value} {Kp : PK} {K : Value → WP} {w : World} (h : inflate_Fixed_1 v0 v1 v2 Kp K w) : Calls Try.prog 100 #[v0, v1, v2] w (after Kp K) :=
  calls_of_shape (calls_of_cev wide Try.func100 (an := inflate_Fixed_1_an) (args := [v0, v1, v2]) (cast (congrFun (inflate_Fixed_1_eq v0 v1 v2 Kp K) w).symm h))
theorem inflate_Fixed_1_cn {v0 v1 v2 : Value} {W : World} {α : Type} {A : List HP} {r : α → Value} {B : α → List HP} (h : ∀ F, Ent W (A ++ F) (inflate_Fixed_1 v0 v1 v2 noP fun v w => ∃ x, v = r x ∧ sat W (B x ++ F) w)) : Cn Try.prog 100 [v0, v1, v2] W A r B :=
  Cn.of (shape := inflate_Fixed_1 v0 v1 v2) Try.call100 (fun h => inflate_Fixed_1_calls h) h
theorem inflate_Fixed_1_cnP {v0 v1 v2 : Value} {W : World} {α β : Type} {A : List HP} {r : α → Value} {B : α → List HP} {pc : β → List PanicEntry} {Bp : β → List HP} (h : ∀ F, Ent W (A ++ F) (inflate_Fixed_1 v0 v1 v2 (fun ch w => ∃ y, ch = pc y ∧ sat W (Bp y ++ F) w) fun v w => ∃ x, v = r x ∧ sat W (B x ++ F) w)) : CnP Try.prog 100 [v0, v1, v2] W A r B pc Bp :=
  CnP.of (shape := inflate_Fixed_1 v0 v1 v2) Try.call100 (fun h => inflate_Fixed_1_calls h) h

/-- inflate_next -/
def inflate_next (v0 v1 : Value) (Kp : PK) (K : Value → WP) : WP :=
  opN Try.prog (sCall (fn 39) [v0, v1]) Kp fun x10 =>
  opN Try.prog (sExt x10 0) Kp fun x11 =>
  opN Try.prog (sExt x10 1) Kp fun x12 =>
  opN Try.prog (sCall (fn 86) [x12]) Kp fun x14 =>
  K x11
def inflate_next_an : Ann := { cuts := [], blks := [], loops := [], drs := [] }
theorem inflate_next_eq (v0 v1 : Value) (Kp : PK) (K : Value → WP) : cevF Try.prog inflate_next_an Try.f101 [v0, v1] Kp K = inflate_next v0 v1 Kp K := by kernel_rfl
theorem inflate_next_calls {v0 v1 : Value} {Kp : PK} {K : Value → WP} {w : World} (h : inflate_next v0 v1 Kp K w) : Calls Try.prog 101 #[v0, v1] w (after Kp K) :=
  calls_of_shape (calls_of_cev wide Try.func101 (an := inflate_next_an) (args := [v0, v1]) (cast (congrFun (inflate_next_eq v0 v1 Kp K) w).symm h))
theorem inflate_next_cn {v0 v1 : Value} {W : World} {α : Type} {A : List HP} {r : α → Value} {B : α → List HP} (h : ∀ F, Ent W (A ++ F) (inflate_next v0 v1 noP fun v w => ∃ x, v = r x ∧ sat W (B x ++ F) w)) : Cn Try.prog 101 [v0, v1] W A r B :=
  Cn.of (shape := inflate_next v0 v1) Try.call101 (fun h => inflate_next_calls h) h
theorem inflate_next_cnP {v0 v1 : Value} {W : World} {α β : Type} {A : List HP} {r : α → Value} {B : α → List HP} {pc : β → List PanicEntry} {Bp : β → List HP} (h : ∀ F, Ent W (A ++ F) (inflate_next v0 v1 (fun ch w => ∃ y, ch = pc y ∧ sat W (Bp y ++ F) w) fun v w => ∃ x, v = r x ∧ sat W (B x ++ F) w)) : CnP Try.prog 101 [v0, v1] W A r B pc Bp :=
  CnP.of (shape := inflate_next v0 v1) Try.call101 (fun h => inflate_next_calls h) h

/-- lz_BaseLength -/
def lz_BaseLength (v0 : Value) (Kp : PK) (K : Value → WP) : WP :=
  opN Try.prog (sBin .sub 3 v0 (.int .i64 257)) Kp fun x6 =>
  opN Try.prog (sBin .lss 3 x6 (.int .i64 0)) Kp fun x20 =>
  gdK x20 false (fun k => k x6) fun x22 =>
  gdK x20 false (opN Try.prog (sBin .gtr 3 x22 (.int .i64 28)) Kp) fun x23 =>
  opN Try.prog (sPick x20 (.bool true) x23) Kp fun x24 =>
  condS x24
  (K (.tuple #[(.int .i64 0), (.int .i64 0)]))
  (opN Try.prog (sEq .eql 3 (.tmp 26) (.const (.int .i64 28)) x6 (.int .i64 28)) Kp fun x27 =>
   condS x27
   (K (.tuple #[(.int .i64 258), (.int .i64 0)]))
   (opN Try.prog (sBin .lss 3 x6 (.int .i64 8)) Kp fun x30 =>
    condS x30
    (opN Try.prog (sBin .add 3 x6 (.int .i64 3)) Kp fun x32 =>
     K (.tuple #[x32, (.int .i64 0)]))
    (opN Try.prog (sBin .quo 3 x6 (.int .i64 4)) Kp fun x8 =>
     opN Try.prog (sBin .sub 3 x8 (.int .i64 1)) Kp fun x9 =>
     opN Try.prog (sBin .rem 3 x6 (.int .i64 4)) Kp fun x11 =>
     opN Try.prog (sBin .add 3 (.int .i64 4) x11) Kp fun x12 =>
     opN Try.prog (sConv 3 33 x9) Kp fun x14 =>
     opN Try.prog (sBin .shl 3 x12 x14) Kp fun x15 =>
     opN Try.prog (sBin .add 3 (.int .i64 3) x15) Kp fun x16 =>
     K (.tuple #[x16, x9]))))
def lz_BaseLength_an : Ann := { cuts := [], blks := [], loops := [], drs := [] }
theorem lz_BaseLength_eq (v0 : Value) (Kp : PK) (K : Value → WP) : cevF Try.prog lz_BaseLength_an Try.f102 [v0] Kp K = lz_BaseLength v0 Kp K := by kernel_rfl
theorem lz_BaseLength_calls {v0 : Value} {Kp : PK} {K : Value → WP} {w : World} (h : lz_BaseLength v0 Kp K w) : Calls Try.prog 102 #[v0] w (after Kp K) :=
  calls_of_shape (calls_of_cev wide Try.func102 (an := lz_BaseLength_an) (args := [v0]) (cast (congrFun (lz_BaseLength_eq v0 Kp K) w).symm h))
theorem lz_BaseLength_cn {v0 : Value} {W : World} {α : Type} {A : List HP} {r : α → Value} {B : α → List HP} (h : ∀ F, Ent W (A ++ F) (lz_BaseLength v0 noP fun v w => ∃ x, v = r x ∧ sat W (B x ++ F) w)) : Cn Try.prog 102 [v0] W A r B :=
  Cn.of (shape := lz_BaseLength v0) Try.call102 (fun h => lz_BaseLength_calls h) h
theorem lz_BaseLength_cnP {v0 : Value} {W : World} {α β : Type} {A : List HP} {r : α → Value} {B : α → List HP} {pc : β → List PanicEntry} {Bp : β → List HP} (h : ∀ F, Ent W (A ++ F) (lz_BaseLength v0 (fun ch w => ∃ y, ch = pc y ∧ sat W (Bp y ++ F) w) fun v w => ∃ x, v = r x ∧ sat W (B x ++ F) w)) : CnP Try.prog 102 [v0] W A r B pc Bp :=
  CnP.of (shape := lz_BaseLength v0) Try.call102 (fun h => lz_BaseLength_calls h) h

/-- lz_BaseDistance -/
def lz_BaseDistance (v0 : Value) (Kp : PK) (K : Value → WP) : WP :=
  opN Try.prog (sBin .lss 3 v0 (.int .i64 0)) Kp fun x6 =>
  gdK x6 false (fun k => k v0) fun x8 =>
  gdK x6 false (opN Try.prog (sBin .gtr 3 x8 (.int .i64 29)) Kp) fun x9 =>
  opN Try.prog (sPick x6 (.bool true) x9) Kp fun x10 =>
  condS x10
  (K (.tuple #[(.int .i64 0), (.int .i64 0)]))
  (opN Try.prog (sBin .lss 3 v0 (.int .i64 4)) Kp fun x13 =>
   condS x13
   (opN Try.prog (sBin .add 3 v0 (.int .i64 1)) Kp fun x15 =>
    K (.tuple #[x15, (.int .i64 0)]))
   (opN Try.prog (sBin .quo 3 v0 (.int .i64 2)) Kp fun x17 =>
    opN Try.prog (sBin .sub 3 x17 (.int .i64 1)) Kp fun x18 =>
    opN Try.prog (sBin .rem 3 v0 (.int .i64 2)) Kp fun x20 =>
    opN Try.prog (sBin .add 3 (.int .i64 2) x20) Kp fun x21 =>
    opN Try.prog (sConv 3 33 x18) Kp fun x23 =>
    opN Try.prog (sBin .shl 3 x21 x23) Kp fun x24 =>
    opN Try.prog (sBin .add 3 (.int .i64 1) x24) Kp fun x25 =>
    K (.tuple #[x25, x18])))
def lz_BaseDistance_an : Ann := { cuts := [], blks := [], loops := [], drs := [] }
theorem lz_BaseDistance_eq (v0 : Value) (Kp : PK) (K : Value → WP) : cevF Try.prog lz_BaseDistance_an Try.f103 [v0] Kp K = lz_BaseDistance v0 Kp K := by kernel_rfl
theorem lz_BaseDistance_calls {v0 : Value} {Kp : PK} {K : Value → WP} {w : World} (h : lz_BaseDistance v0 Kp K w) : Calls Try.prog 103 #[v0] w (after Kp K) :=
  calls_of_shape (calls_of_cev wide Try.func103 (an := lz_BaseDistance_an) (args := [v0]) (cast (congrFun (lz_BaseDistance_eq v0 Kp K) w).symm h))
theorem lz_BaseDistance_cn {v0 : Value} {W : World} {α : Type} {A : List HP} {r : α → Value} {B : α → List HP} (h : ∀ F, Ent W (A ++ F) (lz_BaseDistance v0 noP fun v w => ∃ x, v = r x ∧ sat W (B x ++ F) w)) : Cn Try.prog 103 [v0] W A r B :=
  Cn.of (shape := lz_BaseDistance v0) Try.call103 (fun h => lz_BaseDistance_calls h) h
theorem lz_BaseDistance_cnP {v0 : Value} {W : World} {α β : Type} {A : List HP} {r : α → Value} {B : α → List HP} {pc : β → List PanicEntry} {Bp : β → List HP} (h : ∀ F, Ent W (A ++ F) (lz_BaseDistance v0 (fun ch w => ∃ y, ch = pc y ∧ sat W (Bp y ++ F) w) fun v w => ∃ x, v = r x ∧ sat W (B x ++ F) w)) : CnP Try.prog 103 [v0] W A r B pc Bp :=
  CnP.of (shape := lz_BaseDistance v0) Try.call103 (fun h => lz_BaseDistance_calls h) h

/-- ref04_BaseLength -/
def ref04_BaseLength (v0 : Value) (Kp : PK) (K : Value → WP) : WP :=
  opN Try.prog (sBin .lss 3 v0 (.int .i64 257)) Kp fun x9 =>
  gdK x9 false (fun k => k v0) fun x11 =>
  gdK x9 false (opN Try.prog (sBin .gtr 3 x11 (.int .i64 285)) Kp) fun x12 =>
  opN Try.prog (sPick x9 (.bool true) x12) Kp fun x13 =>
  condS x13
  (K (.tuple #[(.int .i64 0), (.int .i64 0)]))
  (opN Try.prog (sEq .eql 3 (.tmp 15) (.const (.int .i64 285)) v0 (.int .i64 285)) Kp fun x16 =>
   condS x16
   (K (.tuple #[(.int .i64 258), (.int .i64 0)]))
   (opN Try.prog (sBin .lss 3 v0 (.int .i64 265)) Kp fun x19 =>
    condS x19
    (opN Try.prog (sBin .sub 3 v0 (.int .i64 254)) Kp fun x21 =>
     K (.tuple #[x21, (.int .i64 0)]))
    (opN Try.prog (sBin .sub 3 v0 (.int .i64 261)) Kp fun x23 =>
     opN Try.prog (sBin .quo 3 x23 (.int .i64 4)) Kp fun x24 =>
     loop2 (fun I1 m1 _ y5 y6 =>
      opN Try.prog (sBin .lss 3 y6 v0) Kp fun x27 =>
      condS x27
      (opN Try.prog (sBin .sub 3 y6 (.int .i64 261)) Kp fun x32 =>
       opN Try.prog (sBin .quo 3 x32 (.int .i64 4)) Kp fun x33 =>
       opN Try.prog (sConv 3 33 x33) Kp fun x34 =>
       opN Try.prog (sBin .shl 3 (.int .i64 1) x34) Kp fun x35 =>
       opN Try.prog (sBin .add 3 y5 x35) Kp fun x36 =>
       opN Try.prog (sBin .add 3 y6 (.int .i64 1)) Kp fun x29 =>
       next2 I1 m1 x36 x29)
      (K (.tuple #[y5, x24]))) (.int .i64 11) (.int .i64 265))))
def ref04_BaseLength_an : Ann := { cuts := [], blks := [], loops := [(10, [5, 6])], drs := [] }
theorem ref04_BaseLength_eq (v0 : Value) (Kp : PK) (K : Value → WP) : cevF Try.prog ref04_BaseLength_an Try.f104 [v0] Kp K = ref04_BaseLength v0 Kp K := by kernel_rfl
theorem ref04_BaseLength_calls {v0 : Value} {Kp : PK} {K : Value → WP} {w : World} (h : ref04_BaseLength v0 Kp K w) : Calls Try.prog 104 #[v0] w (after Kp K) :=
  calls_of_shape (calls_of_cev wide Try.func104 (an := ref04_BaseLength_an) (args := [v0]) (cast (congrFun (ref04_BaseLength_eq v0 Kp K) w).symm h))
theorem ref04_BaseLength_cn {v0 : Value} {W : World} {α : Type} {A : List HP} {r : α → Value} {B : α → List HP} (h : ∀ F, Ent W (A ++ F) (ref04_BaseLength v0 noP fun v w => ∃ x, v = r x ∧ sat W (B x ++ F) w)) : Cn Try.prog 104 [v0] W A r B :=
  Cn.of (shape := ref04_BaseLength v0) Try.call104 (fun h => ref04_BaseLength_calls h) h
theorem ref04_BaseLength_cnP {v0 : Value} {W : World} {α β : Type} {A : List HP} {r : α → Value} {B : α → List HP} {pc : β → List PanicEntry} {Bp : β → List HP} (h : ∀ F, Ent W (A ++ F) (ref04_BaseLength v0 (fun ch w => ∃ y, ch = pc y ∧ sat W (Bp y ++ F) w) fun v w => ∃ x, v = r x ∧ sat W (B x ++ F) w)) : CnP Try.prog 104 [v0] W A r B pc Bp :=
  CnP.of (shape := ref04_BaseLength v0) Try.call104 (fun h => ref04_BaseLength_calls h) h

/-- ref04_BaseDistance -/
def ref04_BaseDistance (v0 : Value) (Kp : PK) (K : Value → WP) : WP :=
  opN Try.prog (sBin .lss 3 v0 (.int .i64 0)) Kp fun x9 =>
  gdK x9 false (fun k => k v0) fun x11 =>
  gdK x9 false (opN Try.prog (sBin .gtr 3 x11 (.int .i64 29)) Kp) fun x12 =>
  opN Try.prog (sPick x9 (.bool true) x12) Kp fun x13 =>
  condS x13
  (K (.tuple #[(.int .i64 0), (.int .i64 0)]))
  (opN Try.prog (sBin .lss 3 v0 (.int .i64 4)) Kp fun x16 =>
   condS x16
   (opN Try.prog (sBin .add 3 v0 (.int .i64 1)) Kp fun x18 =>
    K (.tuple #[x18, (.int .i64 0)]))
   (opN Try.prog (sBin .sub 3 v0 (.int .i64 2)) Kp fun x20 =>
    opN Try.prog (sBin .quo 3 x20 (.int .i64 2)) Kp fun x21 =>
    loop2 (fun I1 m1 _ y5 y6 =>
     opN Try.prog (sBin .lss 3 y6 v0) Kp fun x24 =>
     condS x24
     (opN Try.prog (sBin .sub 3 y6 (.int .i64 2)) Kp fun x29 =>
      opN Try.prog (sBin .quo 3 x29 (.int .i64 2)) Kp fun x30 =>
      opN Try.prog (sConv 3 33 x30) Kp fun x31 =>
      opN Try.prog (sBin .shl 3 (.int .i64 1) x31) Kp fun x32 =>
      opN Try.prog (sBin .add 3 y5 x32) Kp fun x33 =>
      opN Try.prog (sBin .add 3 y6 (.int .i64 1)) Kp fun x26 =>
      next2 I1 m1 x33 x26)
     (K (.tuple #[y5, x21]))) (.int .i64 5) (.int .i64 4)))
def ref04_BaseDistance_an : Ann := { cuts := [], blks := [], loops := [(8, [5, 6])], drs := [] }
theorem ref04_BaseDistance_eq (v0 : Value) (Kp : PK) (K : Value → WP) : cevF Try.prog ref04_BaseDistance_an Try.f105 [v0] Kp K = ref04_BaseDistance v0 Kp K := by kernel_rfl
theorem ref04_BaseDistance_calls {v0 : Value} {Kp : PK} {K : Value → WP} {w : World} (h : ref04_BaseDistance v0 Kp K w) : Calls Try.prog 105 #[v0] w (after Kp K) :=
  calls_of_shape (calls_of_cev wide Try.func105 (an := ref04_BaseDistance_an) (args := [v0]) (cast (congrFun (ref04_BaseDistance_eq v0 Kp K) w).symm h))
theorem ref04_BaseDistance_cn {v0 : Value} {W : World} {α : Type} {A : List HP} {r : α → Value} {B : α → List HP} (h : ∀ F, Ent W (A ++ F) (ref04_BaseDistance v0 noP fun v w => ∃ x, v = r x ∧ sat W (B x ++ F) w)) : Cn Try.prog 105 [v0] W A r B :=
  Cn.of (shape := ref04_BaseDistance v0) Try.call105 (fun h => ref04_BaseDistance_calls h) h
theorem ref04_BaseDistance_cnP {v0 : Value} {W : World} {α β : Type} {A : List HP} {r : α → Value} {B : α → List HP} {pc : β → List PanicEntry} {Bp : β → List HP} (h : ∀ F, Ent W (A ++ F) (ref04_BaseDistance v0 (fun ch w => ∃ y, ch = pc y ∧ sat W (Bp y ++ F) w) fun v w => ∃ x, v = r x ∧ sat W (B x ++ F) w)) : CnP Try.prog 105 [v0] W A r B pc Bp :=
  CnP.of (shape := ref04_BaseDistance v0) Try.call105 (fun h => ref04_BaseDistance_calls h) h

/-- slices_swapRangeCmpFunc_huff_weighed_int -/
def slices_swapRangeCmpFunc_huff_weighed_int (v0 v1 v2 v3 v4 : Value) (Kp : PK) (K : Value → WP) : WP :=
  loop1 (fun I1 m1 _ y10 =>
   opN Try.prog (sBin .lss 3 y10 v3) Kp fun x13 =>
   condS x13
   (drS (stS Try.prog (sBin .add 3 v1 y10) fun x19 =>
     stD Try.prog (sBin .add 3 v2 y10) fun D7 x23 =>
     stS Try.prog (sBin .add 3 v2 y10) fun x27 =>
     stS Try.prog (sIA 84 v0 x27) fun x28 =>
     stS Try.prog (sLoad 86 x28) fun x29 =>
     stS Try.prog (sBin .add 3 v1 y10) fun x33 =>
     stS Try.prog (sIA 84 v0 x33) fun x34 =>
     stS Try.prog (sLoad 86 x34) fun x35 =>
     stS Try.prog (sIA 84 v0 x19) fun x36 =>
     opN Try.prog (sStore 86 x36 x29) Kp fun _ =>
     (fun w => D7 w ∧ (stS Try.prog (sIA 84 v0 x23) fun x37 =>
       opN Try.prog (sStore 86 x37 x35) Kp fun _ =>
       opN Try.prog (sBin .add 3 y10 (.int .i64 1)) Kp fun x15 =>
       next1 I1 m1 x15) w)))
   (K (.tuple #[]))) (.int .i64 0)
def slices_swapRangeCmpFunc_huff_weighed_int_an : Ann := { cuts := [], blks := [], loops := [(1, [10])], drs := [(3, [(0, 1), (1, 1), (2, 1), (3, 1), (4, 2), (5, 2), (6, 2), (7, 3), (8, 1), (9, 1), (10, 1), (11, 1), (12, 1), (13, 1), (14, 1), (15, 1), (16, 1), (17, 1), (18, 1), (19, 1), (20, 1), (21, 0), (22, 1), (23, 0)])] }
theorem slices_swapRangeCmpFunc_huff_weighed_int_eq (v0 v1 v2 v3 v4 : Value) (Kp : PK) (K : Value → WP) : cevF Try.prog slices_swapRangeCmpFunc_huff_weighed_int_an Try.f106 [v0, v1, v2, v3, v4] Kp K = slices_swapRangeCmpFunc_huff_weighed_int v0 v1 v2 v3 v4 Kp K := by kernel_rfl
theorem slices_swapRangeCmpFunc_huff_weighed_int_calls {v0 v1 v2 v3 v4 : Value} {Kp : PK} {K : Value → WP} {w : World} (h : slices_swapRangeCmpFunc_huff_weighed_int v0 v1 v2 v3 v4 Kp K w) : Calls Try.prog 106 #[v0, v1, v2, v3, v4] w (after Kp K) :=
  calls_of_shape (calls_of_cev wide Try.func106 (an := slices_swapRangeCmpFunc_huff_weighed_int_an) (args := [v0, v1, v2, v3, v4]) (cast (congrFun (slices_swapRangeCmpFunc_huff_weighed_int_eq v0 v1 v2 v3 v4 Kp K) w).symm h))
theorem slices_swapRangeCmpFunc_huff_weighed_int_cn {v0 v1 v2 v3 v4 : Value} {W : World} {α : Type} {A : List HP} {r : α → Value} {B : α → List HP} (h : ∀ F, Ent W (A ++ F) (slices_swapRangeCmpFunc_huff_weighed_int v0 v1 v2 v3 v4 noP fun v w => ∃ x, v = r x ∧ sat W (B x ++ F) w)) : Cn Try.prog 106 [v0, v1, v2, v3, v4] W A r B :=
  Cn.of (shape := slices_swapRangeCmpFunc_huff_weighed_int v0 v1 v2 v3 v4) Try.call106 (fun h => slices_swapRangeCmpFunc_huff_weighed_int_calls h) h
theorem slices_swapRangeCmpFunc_huff_weighed_int_cnP {v0 v1 v2 v3 v4 : Value} {W : World} {α β : Type} {A : List HP} {r : α → Value} {B : α → List HP} {pc : β → List PanicEntry} {Bp : β → List HP} (h : ∀ F, Ent W (A ++ F) (slices_swapRangeCmpFunc_huff_weighed_int v0 v1 v2 v3 v4 (fun ch w => ∃ y, ch = pc y ∧ sat W (Bp y ++ F) w) fun v w => ∃ x, v = r x ∧ sat W (B x ++ F) w)) : CnP Try.prog 106 [v0, v1, v2, v3, v4] W A r B pc Bp :=
  CnP.of (shape := slices_swapRangeCmpFunc_huff_weighed_int v0 v1 v2 v3 v4) Try.call106 (fun h => slices_swapRangeCmpFunc_huff_weighed_int_calls h) h

end Go.Proofs.Ytehfblkpbadikaa.S
/-! The shapes, all parts. No conditions. -/

/-! Plain mathematics of bits in bytes: the lowest bit of a byte first. No conditions but those that each names; no program in sight. -/
namespace Go.Proofs.Ytehfblkpbadikaa.M
open Go Go.Proofs.Ytehfblkpbadikaa.Sl

def val : List Bool → Nat
  | [] => 0
  | b :: l => b.toNat + 2 * val l

theorem val_lt : ∀ l : List Bool, val l < 2 ^ l.length
  | [] => by simp [val]
  | b :: l => by have := val_lt l; cases b <;> simp [val, Nat.pow_succ] <;> omega

theorem val_append (m : List Bool) : ∀ l : List Bool, val (l ++ m) = val l + 2 ^ l.length * val m
  | [] => by simp [val]
  | b :: l => by
    simp only [List.cons_append, val, val_append m l, List.length_cons, Nat.pow_succ]
    rw [Nat.mul_add, Nat.mul_comm (2 ^ l.length) 2, Nat.mul_assoc]; omega

def byteAt (L : List Bool) (i : Nat) : Nat := val ((L.drop (8 * i)).take 8)

theorem byteAt_lt (L : List Bool) (i : Nat) : byteAt L i < 256 := by
  have h := val_lt ((L.drop (8 * i)).take 8)
  have hl : ((L.drop (8 * i)).take 8).length ≤ 8 := List.length_take_le _ _
  exact Nat.lt_of_lt_of_le h (Nat.pow_le_pow_right (by omega) hl)

def pkn (L : List Bool) (m : Nat) : List UInt8 := (List.range m).map fun i => UInt8.ofNat (byteAt L i)
/-- the bytes of bits -/
def pk (L : List Bool) : List UInt8 := pkn L ((L.length + 7) / 8)
/-- the same, a byte laid for the next bit -/
def pkx (L : List Bool) : List UInt8 := pkn L (L.length / 8 + 1)

theorem length_pk (L : List Bool) : (pk L).length = (L.length + 7) / 8 := by simp [pk, pkn]
theorem length_pkx (L : List Bool) : (pkx L).length = L.length / 8 + 1 := by simp [pkx, pkn]
theorem pkx0 {L : List Bool} (h : L.length % 8 = 0) : pkx L = pk L ++ [0] := by
  unfold pkx pk pkn
  rw [show (L.length + 7) / 8 = L.length / 8 by omega, List.range_succ, List.map_append]
  congr 1
  have : L.drop (8 * (L.length / 8)) = [] := List.drop_eq_nil_of_le (by omega)
  simp [byteAt, this, val]
theorem pkx1 {L : List Bool} (h : ¬ L.length % 8 = 0) : pkx L = pk L := by
  unfold pkx pk
  rw [show (L.length + 7) / 8 = L.length / 8 + 1 by omega]

theorem byteAt_snoc_lt {L : List Bool} {b : Bool} {i : Nat} (h : i < L.length / 8) : byteAt (L ++ [b]) i = byteAt L i := by
  unfold byteAt
  rw [List.drop_append_of_le_length (by omega), List.take_append_of_le_length (by simp; omega)]
theorem byteAt_snoc_eq {L : List Bool} {b : Bool} : byteAt (L ++ [b]) (L.length / 8) = byteAt L (L.length / 8) + 2 ^ (L.length % 8) * b.toNat := by
  unfold byteAt
  rw [List.drop_append_of_le_length (by omega), List.take_of_length_le (by simp; omega), List.take_of_length_le (by simp; omega), val_append]
  have : (L.drop (8 * (L.length / 8))).length = L.length % 8 := by simp; omega
  rw [this]; simp [val]
theorem byteAt_last (L : List Bool) : byteAt L (L.length / 8) < 2 ^ (L.length % 8) := by
  unfold byteAt
  refine Nat.lt_of_lt_of_le (val_lt _) (Nat.pow_le_pow_right (by omega) ?_)
  rw [List.length_take, List.length_drop]; omega

theorem pk_snoc_f (L : List Bool) : pk (L ++ [false]) = pkx L := by
  unfold pk pkx pkn
  simp only [List.length_append, List.length_singleton]
  rw [show (L.length + 1 + 7) / 8 = L.length / 8 + 1 by omega]
  refine List.map_congr_left fun i hi => ?_
  rw [List.mem_range] at hi
  by_cases h : i < L.length / 8
  · rw [byteAt_snoc_lt h]
  · rw [show i = L.length / 8 by omega, byteAt_snoc_eq]; simp
theorem pk_snoc_t (L : List Bool) : pk (L ++ [true]) = (pkx L).set (L.length / 8) (UInt8.ofNat (byteAt L (L.length / 8) + 2 ^ (L.length % 8))) := by
  apply List.ext_getElem?
  intro i
  unfold pk pkx pkn
  simp only [List.length_append, List.length_singleton]
  rw [show (L.length + 1 + 7) / 8 = L.length / 8 + 1 by omega, List.getElem?_set]
  simp only [List.length_map, List.length_range, List.getElem?_map]
  by_cases h : L.length / 8 = i
  · subst h
    simp [byteAt_snoc_eq]
  · rw [if_neg h]
    by_cases h2 : i < L.length / 8
    · rw [List.getElem?_range (by omega)]; simp [byteAt_snoc_lt h2]
    · rw [List.getElem?_eq_none (by simp; omega)]; rfl
theorem pkx_last (L : List Bool) : (pkx L)[L.length / 8]? = some (UInt8.ofNat (byteAt L (L.length / 8))) := by
  simp [pkx, pkn]

/-- a number's lowest bits -/
def bitsOf (n k : Nat) : List Bool := (List.range k).map n.testBit
theorem bitsOf_succ (n k : Nat) : bitsOf n (k + 1) = bitsOf n k ++ [n.testBit k] := by simp [bitsOf, List.range_succ]
theorem length_bitsOf (n k : Nat) : (bitsOf n k).length = k := by simp [bitsOf]

/-! ### the model's words -/
theorem wrap8 {n : Nat} (h : n < 256) : IntKind.u8.wrap (n : Int) = n := by
  simp only [IntKind.wrap, IntKind.bits, IntKind.signed]
  simp; omega
theorem wrapu64 {n : Nat} (h : n < 18446744073709551616) : IntKind.u64.wrap (n : Int) = n := by
  simp only [IntKind.wrap, IntKind.bits, IntKind.signed]
  simp; omega
theorem and1 {a : Nat} (h : a < 9223372036854775808) : bitOp .and .i64 (a : Int) 1 = ((a % 2 : Nat) : Int) := by
  unfold bitOp
  have h1 : (BitVec.ofInt IntKind.i64.bits (a : Int)).toNat = a := by
    rw [BitVec.ofInt_natCast, BitVec.toNat_ofNat]; exact Nat.mod_eq_of_lt (by simp only [IntKind.bits]; omega)
  have h2 : (BitVec.ofInt IntKind.i64.bits 1).toNat = 1 := by decide
  simp only [BitVec.toNat_and, h1, h2, Nat.and_one_is_mod]
  exact w64 (by omega) (by omega)
theorem or8 {a r : Nat} (hr : r < 8) (h : a < 2 ^ r) : bitOp .or .u8 (a : Int) ((2 ^ r : Nat) : Int) = ((a + 2 ^ r : Nat) : Int) := by
  have hp : 2 ^ r ≤ 128 := by
    have : 2 ^ r ≤ 2 ^ 7 := Nat.pow_le_pow_right (by omega) (by omega)
    simpa using this
  unfold bitOp
  have h1 : (BitVec.ofInt IntKind.u8.bits (a : Int)).toNat = a := by
    rw [BitVec.ofInt_natCast, BitVec.toNat_ofNat]; exact Nat.mod_eq_of_lt (by simp only [IntKind.bits]; omega)
  have h2 : (BitVec.ofInt IntKind.u8.bits ((2 ^ r : Nat) : Int)).toNat = 2 ^ r := by
    rw [BitVec.ofInt_natCast, BitVec.toNat_ofNat]; exact Nat.mod_eq_of_lt (by simp only [IntKind.bits]; omega)
  have h3 : a ||| 2 ^ r = a + 2 ^ r := by
    have := Nat.two_pow_add_eq_or_of_lt h 1
    rw [Nat.mul_one] at this
    rw [Nat.or_comm, ← this]; omega
  simp only [BitVec.toNat_or, h1, h2, h3]
  exact wrap8 (by omega)
theorem shr_nat {n k : Nat} (hk : k < 64) : ((n : Int).fdiv (2 ^ (min ((k : Int)).toNat IntKind.i64.bits))) = ((n / 2 ^ k : Nat) : Int) := by
  have : min ((k : Int)).toNat IntKind.i64.bits = k := by simp only [IntKind.bits, Int.toNat_natCast]; omega
  rw [this, Int.fdiv_eq_ediv_of_nonneg _ (Int.le_of_lt (Int.pow_pos (by decide)))]
  norm_cast
theorem testBit_mod (n k : Nat) : n / 2 ^ k % 2 = (n.testBit k).toNat := by
  rw [Nat.testBit_eq_decide_div_mod_eq]
  rcases Nat.mod_two_eq_zero_or_one (n / 2 ^ k) with h | h <;> simp [h]
theorem B_ofNat {x : Nat} (h : x < 256) : B (UInt8.ofNat x) = .int .u8 (x : Int) := by
  unfold B; rw [UInt8.toNat_ofNat']; rw [Nat.mod_eq_of_lt h]
theorem mask_at {r : Nat} (h : r < 8) : (#[.int .u8 1, .int .u8 2, .int .u8 4, .int .u8 8, .int .u8 16, .int .u8 32, .int .u8 64, .int .u8 128] : Array Value)[r]? = some (.int .u8 ((2 ^ r : Nat) : Int)) := by
  have : r = 0 ∨ r = 1 ∨ r = 2 ∨ r = 3 ∨ r = 4 ∨ r = 5 ∨ r = 6 ∨ r = 7 := by omega
  rcases this with rfl | rfl | rfl | rfl | rfl | rfl | rfl | rfl <;> rfl

/-! ### whole bytes -/
def bits8 (c : UInt8) : List Bool := bitsOf c.toNat 8
/-- the bits of bytes -/
def ub (l : List UInt8) : List Bool := l.flatMap bits8
theorem length_bits8 (c : UInt8) : (bits8 c).length = 8 := length_bitsOf _ _
theorem length_ub : ∀ l : List UInt8, (ub l).length = 8 * l.length
  | [] => rfl
  | c :: l => by
    have := length_ub l
    unfold ub at *
    rw [List.flatMap_cons, List.length_append, this, length_bits8, List.length_cons]; omega
theorem val_bitsOf (n : Nat) : ∀ k, val (bitsOf n k) = n % 2 ^ k
  | 0 => by simp [bitsOf, val, Nat.mod_one]
  | k + 1 => by
    rw [bitsOf_succ, val_append, length_bitsOf, val_bitsOf n k, Nat.mod_pow_succ, testBit_mod]
    simp [val]
theorem val_bits8 (c : UInt8) : val (bits8 c) = c.toNat := by
  unfold bits8; rw [val_bitsOf]; exact Nat.mod_eq_of_lt c.toNat_lt
theorem byteAt_ub_lt {l : List UInt8} {i : Nat} (h : i < l.length) (m : List Bool) : byteAt (ub l ++ m) i = l[i].toNat := by
  unfold byteAt
  have e : ub l = ub (l.take i) ++ (bits8 l[i] ++ ub (l.drop (i + 1))) := by
    unfold ub
    rw [← List.flatMap_cons, ← List.flatMap_append, ← List.drop_eq_getElem_cons h, List.take_append_drop]
  have hl : (ub (l.take i)).length = 8 * i := by rw [length_ub, List.length_take]; omega
  rw [e, List.append_assoc, List.append_assoc, ← hl, List.drop_left]
  have h8 := length_bits8 l[i]
  rw [show (8 : Nat) = (bits8 l[i]).length from h8.symm, List.take_left, val_bits8]
theorem pk_ub (l : List UInt8) : pk (ub l) = l := by
  unfold pk pkn
  rw [length_ub, show (8 * l.length + 7) / 8 = l.length by omega]
  apply List.ext_getElem
  · simp
  · intro i h1 h2
    have := byteAt_ub_lt h2 []
    rw [List.append_nil] at this
    simp [this]
/-- to a whole byte -/
def padTo8 (L : List Bool) : List Bool := L ++ List.replicate ((8 - L.length % 8) % 8) false
theorem length_pad (L : List Bool) : (padTo8 L).length = 8 * ((L.length + 7) / 8) := by
  unfold padTo8; simp; omega
theorem val_false : ∀ n, val (List.replicate n false) = 0
  | 0 => rfl
  | n + 1 => by simp [List.replicate_succ, val, val_false n]
theorem byteAt_pad (L : List Bool) (n i : Nat) : byteAt (L ++ List.replicate n false) i = byteAt L i := by
  unfold byteAt
  rw [List.drop_append, List.take_append, val_append, List.drop_replicate, List.take_replicate, val_false]
  simp
theorem pk_pad (L : List Bool) : pk (padTo8 L) = pk L := by
  unfold pk
  rw [length_pad, show (8 * ((L.length + 7) / 8) + 7) / 8 = (L.length + 7) / 8 by omega]
  unfold pkn padTo8
  refine List.map_congr_left fun i _ => ?_
  rw [byteAt_pad]
theorem pk_append {L : List Bool} (h : L.length % 8 = 0) (l : List UInt8) : pk (L ++ ub l) = pk L ++ l := by
  unfold pk pkn
  rw [List.length_append, length_ub]
  rw [show (L.length + 8 * l.length + 7) / 8 = L.length / 8 + l.length by omega, show (L.length + 7) / 8 = L.length / 8 by omega]
  rw [List.range_add, List.map_append]
  congr 1
  · refine List.map_congr_left fun i hi => ?_
    rw [List.mem_range] at hi
    unfold byteAt
    rw [List.drop_append_of_le_length (by omega), List.take_append_of_le_length (by simp; omega)]
  · rw [List.map_map]
    apply List.ext_getElem
    · simp
    · intro i h1 h2
      simp only [List.getElem_map, List.getElem_range, Function.comp_apply]
      have : byteAt (L ++ ub l) (L.length / 8 + i) = byteAt (ub l) i := by
        unfold byteAt
        rw [List.drop_append, List.drop_eq_nil_of_le (by omega), List.nil_append]
        congr 3; omega
      have h3 := byteAt_ub_lt h2 []
      rw [List.append_nil] at h3
      rw [this, h3]; simp

theorem shr8 {n k : Nat} (hk : k < 8) : ((n : Int).fdiv (2 ^ (min ((k : Int)).toNat IntKind.u8.bits))) = ((n / 2 ^ k : Nat) : Int) := by
  have : min ((k : Int)).toNat IntKind.u8.bits = k := by simp only [IntKind.bits, Int.toNat_natCast]; omega
  rw [this, Int.fdiv_eq_ediv_of_nonneg _ (Int.le_of_lt (Int.pow_pos (by decide)))]
  norm_cast
theorem and1_8 {a : Nat} (h : a < 256) : bitOp .and .u8 (a : Int) 1 = ((a % 2 : Nat) : Int) := by
  unfold bitOp
  have h1 : (BitVec.ofInt IntKind.u8.bits (a : Int)).toNat = a := by
    rw [BitVec.ofInt_natCast, BitVec.toNat_ofNat]; exact Nat.mod_eq_of_lt (by simp only [IntKind.bits]; omega)
  have h2 : (BitVec.ofInt IntKind.u8.bits 1).toNat = 1 := by decide
  simp only [BitVec.toNat_and, h1, h2, Nat.and_one_is_mod]
  exact wrap8 (by omega)
theorem ub_get : ∀ {l : List UInt8} {i : Nat} (h : i / 8 < l.length), (ub l)[i]? = some (l[i / 8].toNat.testBit (i % 8))
  | c :: l, i, h => by
    have e : ub (c :: l) = bits8 c ++ ub l := by unfold ub; rw [List.flatMap_cons]
    rw [e]
    by_cases hi : i < 8
    · rw [List.getElem?_append_left (by rw [length_bits8]; exact hi)]
      have h0 : i / 8 = 0 := by omega
      have h1 : i % 8 = i := by omega
      simp only [h0, h1, List.getElem_cons_zero, bits8, bitsOf]
      simp [hi]
    · rw [List.getElem?_append_right (by rw [length_bits8]; omega), length_bits8]
      have h0 : i / 8 = (i - 8) / 8 + 1 := by omega
      have h1 : i % 8 = (i - 8) % 8 := by omega
      rw [ub_get (l := l) (i := i - 8) (by rw [h0] at h; simpa using h)]
      simp only [h0, h1, List.getElem_cons_succ]
/-- the number that k bits from at on are -/
def tak (L : List Bool) (at_ k : Nat) : Nat := val ((L.drop at_).take k)
theorem tak_lt (L : List Bool) (at_ k : Nat) : tak L at_ k < 2 ^ k := by
  refine Nat.lt_of_lt_of_le (val_lt _) (Nat.pow_le_pow_right (by omega) (List.length_take_le _ _))
theorem tak_succ {L : List Bool} {at_ k : Nat} {b : Bool} (h : L[at_ + k]? = some b) : tak L at_ (k + 1) = tak L at_ k + 2 ^ k * b.toNat := by
  have hl : at_ + k < L.length := by
    rcases Nat.lt_or_ge (at_ + k) L.length with c | c
    · exact c
    · rw [List.getElem?_eq_none c] at h; cases h
  unfold tak
  have hd : (L.drop at_)[k]? = some b := by rw [List.getElem?_drop]; exact h
  have hk : k < (L.drop at_).length := by rw [List.length_drop]; omega
  rw [List.take_succ_eq_append_getElem hk, val_append, List.length_take, Nat.min_eq_left (by omega)]
  have : (L.drop at_)[k] = b := by rw [List.getElem?_eq_getElem hk] at hd; exact Option.some.inj hd
  rw [this]; simp [val]
theorem tak_zero (L : List Bool) (at_ : Nat) : tak L at_ 0 = 0 := by simp [tak, val]
theorem or_shl {a k : Nat} {b : Bool} (hk : k < 33) (h : a < 2 ^ k) : bitOp .or .i64 (a : Int) (((b.toNat * 2 ^ k : Nat)) : Int) = ((a + 2 ^ k * b.toNat : Nat) : Int) := by
  have hp : 2 ^ k ≤ 4294967296 := by
    have : 2 ^ k ≤ 2 ^ 32 := Nat.pow_le_pow_right (by omega) (by omega)
    simpa using this
  have hb : b.toNat * 2 ^ k ≤ 4294967296 := by cases b <;> simp <;> omega
  unfold bitOp
  have h1 : (BitVec.ofInt IntKind.i64.bits (a : Int)).toNat = a := by
    rw [BitVec.ofInt_natCast, BitVec.toNat_ofNat]; exact Nat.mod_eq_of_lt (by simp only [IntKind.bits]; omega)
  have h2 : (BitVec.ofInt IntKind.i64.bits ((b.toNat * 2 ^ k : Nat) : Int)).toNat = b.toNat * 2 ^ k := by
    rw [BitVec.ofInt_natCast, BitVec.toNat_ofNat]; exact Nat.mod_eq_of_lt (by simp only [IntKind.bits]; omega)
  have h3 : a ||| b.toNat * 2 ^ k = a + 2 ^ k * b.toNat := by
    have := Nat.two_pow_add_eq_or_of_lt h b.toNat
    rw [Nat.or_comm, Nat.mul_comm b.toNat, ← this]; omega
  simp only [BitVec.toNat_or, h1, h2, h3]
  have : 2 ^ k * b.toNat ≤ 4294967296 := by rw [Nat.mul_comm]; exact hb
  exact w64 (by omega) (by omega)

/-! ### bits in the other order -/
def bitI (n : Int) (i : Nat) : Bool := decide (n / 2 ^ i % 2 = 1)
def bl (n : Int) (i : Nat) : List Bool := (List.range i).map (bitI n)
theorem bl_succ (n : Int) (i : Nat) : bl n (i + 1) = bl n i ++ [bitI n i] := by simp [bl, List.range_succ]
theorem length_bl (n : Int) (i : Nat) : (bl n i).length = i := by simp [bl]
def rv (n : Int) (i : Nat) : Nat := val (bl n i).reverse
theorem rv_succ (n : Int) (i : Nat) : rv n (i + 1) = 2 * rv n i + (bitI n i).toNat := by
  unfold rv; rw [bl_succ, List.reverse_append]; simp [val]; omega
theorem rv_lt (n : Int) (i : Nat) : rv n i < 2 ^ i := by
  have := val_lt (bl n i).reverse
  rwa [List.length_reverse, length_bl] at this
theorem bit_toNat (n : Int) (i : Nat) : ((bitI n i).toNat : Int) = n / 2 ^ i % 2 := by
  unfold bitI
  rcases Int.emod_two_eq (n / 2 ^ i) with h | h <;> simp [h]
theorem and1I (a : Int) : bitOp .and .i64 a 1 = a % 2 := by
  unfold bitOp
  have h2 : (BitVec.ofInt IntKind.i64.bits 1).toNat = 1 := by decide
  simp only [BitVec.toNat_and, h2, Nat.and_one_is_mod, BitVec.toNat_ofInt]
  rw [w64 (by omega) (by omega)]
  simp only [IntKind.bits]
  omega
theorem shrI {n : Int} {k : Nat} (hk : k < 64) : n.fdiv (2 ^ (min ((k : Int)).toNat IntKind.i64.bits)) = n / 2 ^ k := by
  have : min ((k : Int)).toNat IntKind.i64.bits = k := by simp only [IntKind.bits, Int.toNat_natCast]; omega
  rw [this, Int.fdiv_eq_ediv_of_nonneg _ (Int.le_of_lt (Int.pow_pos (by decide)))]
theorem or_two {a : Nat} {b : Bool} (h : a < 4294967296) : bitOp .or .i64 (((a * 2 : Nat)) : Int) (b.toNat : Int) = ((2 * a + b.toNat : Nat) : Int) := by
  have hb : b.toNat ≤ 1 := Bool.toNat_le b
  unfold bitOp
  have h1 : (BitVec.ofInt IntKind.i64.bits ((a * 2 : Nat) : Int)).toNat = a * 2 := by
    rw [BitVec.ofInt_natCast, BitVec.toNat_ofNat]; exact Nat.mod_eq_of_lt (by simp only [IntKind.bits]; omega)
  have h2 : (BitVec.ofInt IntKind.i64.bits (b.toNat : Int)).toNat = b.toNat := by
    rw [BitVec.ofInt_natCast, BitVec.toNat_ofNat]; exact Nat.mod_eq_of_lt (by simp only [IntKind.bits]; omega)
  have h3 : a * 2 ||| b.toNat = 2 * a + b.toNat := by
    have := Nat.two_pow_add_eq_or_of_lt (i := 1) (b := b.toNat) (by omega) a
    rw [Nat.pow_one] at this
    rw [Nat.mul_comm a 2, ← this]
  simp only [BitVec.toNat_or, h1, h2, h3]
  exact w64 (by omega) (by omega)
theorem emod_split (n d : Int) (hd : 0 < d) : n % d + d * (n / d % 2) = n % (d * 2) := by
  have h1 := Int.emod_add_mul_ediv n d
  have h2 := Int.emod_add_mul_ediv (n / d) 2
  have h3 := Int.emod_nonneg n (Int.ne_of_gt hd)
  have h4 := Int.emod_lt_of_pos n hd
  have h6 : d * (n / d) = d * (n / d % 2) + d * 2 * (n / d / 2) := by
    have : d * (n / d) = d * (n / d % 2 + 2 * (n / d / 2)) := by rw [h2]
    rw [this, Int.mul_add, Int.mul_assoc]
  have h5 : n = (n % d + d * (n / d % 2)) + (d * 2) * (n / d / 2) := by omega
  have h7 : 0 ≤ n % d + d * (n / d % 2) ∧ n % d + d * (n / d % 2) < d * 2 := by
    rcases Int.emod_two_eq (n / d) with h | h <;> rw [h] <;> omega
  have h8 : n % (d * 2) = ((n % d + d * (n / d % 2)) + (d * 2) * (n / d / 2)) % (d * 2) := by rw [← h5]
  rw [h8, Int.add_mul_emod_self_left, Int.emod_eq_of_lt h7.1 h7.2]
theorem val_bl (n : Int) : ∀ m, (val (bl n m) : Int) = n % 2 ^ m
  | 0 => by simp [bl, val]
  | m + 1 => by
    rw [bl_succ, val_append, length_bl]
    push_cast
    rw [val_bl n m]
    simp only [val, Nat.mul_zero, Nat.add_zero]
    rw [bit_toNat, Int.pow_succ]
    exact emod_split n (2 ^ m) (Int.pow_pos (by decide))
theorem val_bit : ∀ (l : List Bool) (i : Nat) (h : i < l.length), val l / 2 ^ i % 2 = l[i].toNat
  | b :: l, 0, h => by
    simp only [val, Nat.pow_zero, Nat.div_one, List.getElem_cons_zero]; cases b <;> simp <;> omega
  | b :: l, i + 1, h => by
    simp only [val, Nat.pow_succ, List.getElem_cons_succ]
    rw [Nat.mul_comm (2 ^ i) 2, ← Nat.div_div_eq_div_mul]
    rw [show (b.toNat + 2 * val l) / 2 = val l by cases b <;> simp <;> omega]
    exact val_bit l i (by simpa using h)
theorem bl_val (l : List Bool) : bl (val l : Int) l.length = l := by
  apply List.ext_getElem
  · simp [length_bl]
  · intro i h1 h2
    have h := val_bit l i h2
    simp only [bl, List.getElem_map, List.getElem_range, bitI]
    rw [show ((val l : Int) / 2 ^ i % 2) = ((val l / 2 ^ i % 2 : Nat) : Int) by norm_cast, h]
    cases l[i] <;> simp
theorem rv_rv (n : Int) (m : Nat) : (rv (rv n m : Int) m : Int) = n % 2 ^ m := by
  have h := bl_val (bl n m).reverse
  rw [List.length_reverse, length_bl] at h
  rw [← val_bl]
  unfold rv
  rw [h, List.reverse_reverse]
theorem and_mask (n : Int) {m : Nat} (h : m ≤ 32) : bitOp .and .i64 n (((2 ^ m - 1 : Nat)) : Int) = n % 2 ^ m := by
  have hp : 2 ^ m ≤ 2 ^ 32 := Nat.pow_le_pow_right (by omega) h
  have hp0 : 0 < 2 ^ m := Nat.pow_pos (by omega)
  unfold bitOp
  have h2 : (BitVec.ofInt IntKind.i64.bits ((2 ^ m - 1 : Nat) : Int)).toNat = 2 ^ m - 1 := by
    rw [BitVec.ofInt_natCast, BitVec.toNat_ofNat]; exact Nat.mod_eq_of_lt (by simp only [IntKind.bits]; omega)
  simp only [BitVec.toNat_and, h2, Nat.and_two_pow_sub_one_eq_mod, BitVec.toNat_ofInt]
  have hn : ((n % ((2 ^ IntKind.i64.bits : Nat) : Int)).toNat % 2 ^ m : Nat) < 2 ^ m := Nat.mod_lt _ hp0
  have he : (((n % ((2 ^ IntKind.i64.bits : Nat) : Int)).toNat % 2 ^ m : Nat) : Int) = n % 2 ^ m := by
    rw [Int.natCast_emod, Int.toNat_of_nonneg (Int.emod_nonneg _ (by decide))]
    have hd : ((2 ^ m : Nat) : Int) ∣ ((2 ^ IntKind.i64.bits : Nat) : Int) := by
      rw [Int.natCast_dvd_natCast]; exact Nat.pow_dvd_pow 2 (by simp only [IntKind.bits]; omega)
    rw [Int.emod_emod_of_dvd _ hd]; norm_cast
  rw [← he]
  exact w64 (by omega) (by omega)
end Go.Proofs.Ytehfblkpbadikaa.M
/-! The Writer of package bits: what each of its methods does to its bits. No conditions but those that each names. -/
namespace Go.Proofs.Ytehfblkpbadikaa.B
open Go Go.Proofs Go.Proofs.Ytehfblkpbadikaa.Sh Go.Proofs.Ytehfblkpbadikaa.Sl Go.Proofs.Ytehfblkpbadikaa.T Go.Proofs.Ytehfblkpbadikaa.M
theorem none_nil {W : World} : Cn Try.prog 58 [.pointer none] W [] (fun _ : Unit => .bool true) (fun _ => []) := by
  (refine S.bits_Writer_none_cn fun F => ?_; unfold S.bits_Writer_none; simp only [List.cons_append, List.nil_append])
  (((with_reducible refine e_opN v_eqNil0 Imp.nil ?_))); ((with_reducible refine e_gdF1 ?_)); ((with_reducible refine e_gdF1 ?_)); ((with_reducible refine e_gdF1 ?_)); ((with_reducible refine e_gdF1 ?_)); ((with_reducible refine e_gdF1 ?_)); (((with_reducible refine e_opN v_pickT Imp.nil ?_)))
  (refine e_ret Unit.unit (by rfl) ?_; (repeat (first | exact Imp.refl | exact Imp.nil | (apply Imp.pick; (focus ((repeat constructor); done))) | refine Imp.drop ?_)))
theorem none_some {W : World} {p : Nat} {a b : Value} {m : Bool} : Cn Try.prog 58 [.pointer (some ⟨p, 0, none⟩)] W [pt p (.cells #[a, b, .bool m] 106)] (fun _ : Unit => .bool (!m)) (fun _ => [pt p (.cells #[a, b, .bool m] 106)]) := by
  (refine S.bits_Writer_none_cn fun F => ?_; unfold S.bits_Writer_none; simp only [List.cons_append, List.nil_append])
  (((with_reducible refine e_opN v_eqNil1 Imp.nil ?_))); ((with_reducible refine e_gdT ?_)); ((with_reducible refine e_gdT ?_)); (((with_reducible refine e_opN v_nil Imp.nil ?_))); ((with_reducible refine e_gdT ?_)); (((with_reducible refine e_opN v_fa0 Imp.nil ?_))); ((with_reducible refine e_gdT ?_)); (((with_reducible refine' e_opN (v_ldN ?hc) ?hi ?_); (case hi => (repeat (first | exact Imp.refl | exact Imp.nil | (apply Imp.pick; (focus ((repeat constructor); done))) | refine Imp.drop ?_))); (case hc => (repeat (first | exact Nth.here | apply Nth.there))))); ((with_reducible refine e_gdT ?_)); (((with_reducible refine e_opN v_not Imp.nil ?_))); (((with_reducible refine e_opN v_pickF Imp.nil ?_)))
  (refine e_ret Unit.unit (by rfl) ?_; (repeat (first | exact Imp.refl | exact Imp.nil | (apply Imp.pick; (focus ((repeat constructor); done))) | refine Imp.drop ?_)))

/-- a Writer at p holds the bits l -/
def IsW (p : Nat) (l : List Bool) : HP := ex fun q : Option Addr × Nat => all [pt p (.cells #[.slice q.1 (pk l).length q.2, .int .i64 (l.length : Int), .bool true] 106), Sl 1 5 q.1 q.2 (pk l).length ((pk l).map B), pu (l.length ≤ 8388608)]

def badP (n k : Int) : Prop := k < 0 ∨ 32 < k ∨ n < 0 ∨ 2 ^ k.toNat ≤ n
instance (n k : Int) : Decidable (badP n k) := by unfold badP; infer_instance
def putR (l : List Bool) (n k : Int) : Int := if badP n k then 1 else if 8388608 - (l.length : Int) < k then 6 else 0
def putL (l : List Bool) (n k : Int) : List Bool := if putR l n k = 0 then l ++ bitsOf n.toNat k.toNat else l

theorem masks {W : World} : Cn Try.prog 78 [] W [] (fun _ : Unit => .agg #[.int .u8 1, .int .u8 2, .int .u8 4, .int .u8 8, .int .u8 16, .int .u8 32, .int .u8 64, .int .u8 128]) (fun _ => []) := by
  (refine S.bits_masks_cn fun F => ?_; unfold S.bits_masks; simp only [List.cons_append, List.nil_append])
  (((with_reducible refine e_newA fun g => ?_))); (((with_reducible refine e_opN v_rv Imp.nil ?_))); (((with_reducible refine' e_stAgg ?hp ?hn ?hv ?h1 ?_); (case hp => (repeat constructor)); (case hn => rfl); (case hv => rfl); (case h1 => simp [Value.oneCell']))); (((with_reducible refine' e_stS (v_resA ?hn) ?hi ?_); (case hi => (repeat (first | exact Imp.refl | exact Imp.nil | (apply Imp.pick; (focus ((repeat constructor); done))) | refine Imp.drop ?_))); (case hn => rfl)))
  (refine e_ret Unit.unit (by rfl) ?_; (repeat (first | exact Imp.refl | exact Imp.nil | (apply Imp.pick; (focus ((repeat constructor); done))) | refine Imp.drop ?_)))

def IsWx (p : Nat) (l : List Bool) : HP := ex fun q : Option Addr × Nat => all [pt p (.cells #[.slice q.1 (pkx l).length q.2, .int .i64 (l.length : Int), .bool true] 106), Sl 1 5 q.1 q.2 (pkx l).length ((pkx l).map B)]

theorem put {W : World} {p : Nat} {l : List Bool} {n k : Int} : Cn Try.prog 54 [.pointer (some ⟨p, 0, none⟩), .int .i64 n, .int .i64 k] W [IsW p l] (fun _ : Unit => .int .i64 (putR l n k)) (fun _ => [IsW p (putL l n k)]) := by
  (refine S.bits_Writer_Put_cn fun F => ?_; unfold S.bits_Writer_Put; simp only [List.cons_append, List.nil_append])
  refine e_ex Pick.here fun q => ?_
  obtain ⟨qa, qc⟩ := q
  refine e_all Pick.here ?_
  (try simp only [List.cons_append, List.nil_append])
  refine e_pu (.there (.there .here)) fun hL => ?_
  refine e_cut1 (fun z => pt p (.cells #[.slice qa (pk l).length qc, .int .i64 (l.length : Int), .bool true] 106) :: Sl 1 5 qa qc (pk l).length ((pk l).map B) :: pu (z = .bool (decide (badP n k))) :: F) ?_ ?_
  · intro ds z
    refine e_pu (.there (.there .here)) fun hz => ?_
    subst hz
    by_cases hb : badP n k
    · rw [decide_eq_true hb]
      ((with_reducible refine e_condT ?_))
      refine e_ret () (by simp [putR, hb]) ?_
      rw [show putL l n k = l by simp [putL, putR, hb]]
      refine Imp.ex (qa, qc) (.all ?_)
      (try simp only [List.cons_append, List.nil_append])
      refine .pick .here (.pick .here (.pu hL .refl))
    · rw [decide_eq_false hb]
      ((with_reducible refine e_condF ?_)); (((with_reducible refine e_opN v_nil Imp.nil ?_))); (((with_reducible refine e_opN v_fa0 Imp.nil ?_))); (((with_reducible refine' e_opN (v_ldN ?hc) ?hi ?_); (case hi => (repeat (first | exact Imp.refl | exact Imp.nil | (apply Imp.pick; (focus ((repeat constructor); done))) | refine Imp.drop ?_))); (case hc => (repeat (first | exact Nth.here | apply Nth.there))))); (((with_reducible refine e_opN (v_sub ?h1 ?h2) Imp.nil ?_); (case h1 => omega); (case h2 => omega)))
      (refine e_ask v_gtr Imp.nil (fun h => ?_) (fun h => ?_))
      · ((with_reducible refine e_condT ?_))
        refine e_ret () (by simp [putR, hb, h]) ?_
        rw [show putL l n k = l by simp [putL, putR, hb, h]]
        refine Imp.ex (qa, qc) (.all ?_)
        (try simp only [List.cons_append, List.nil_append])
        refine .pick .here (.pick .here (.pu hL .refl))
      · ((with_reducible refine e_condF ?_))
        (refine' e_call (masks) ?hp fun _ => ?_; (case hp => (repeat (first | exact Picks.nil | (apply Picks.cons; (focus (repeat constructor)))))); (try simp only [List.cons_append, List.nil_append, Bool.not_true, Bool.not_false]))
        (((with_reducible refine e_newA fun g => ?_))); (((with_reducible refine' e_stAgg ?hp ?hn ?hv ?h1 ?_); (case hp => (repeat constructor)); (case hn => rfl); (case hv => rfl); (case h1 => simp [Value.oneCell'])))
        rename_i g
        have hR : putR l n k = 0 := by simp [putR, hb, h]
        have hb' : 0 ≤ k ∧ k ≤ 32 ∧ 0 ≤ n ∧ n < 2 ^ k.toNat := by unfold badP at hb; omega
        have hPL : putL l n k = l ++ bitsOf n.toNat k.toNat := by simp [putL, hR]
        rw [hR, hPL]
        obtain ⟨h1, h2, h3, h4⟩ := hb'
        obtain ⟨K, rfl⟩ := Int.eq_ofNat_of_zero_le h1
        obtain ⟨N, rfl⟩ := Int.eq_ofNat_of_zero_le h3
        rw [Int.toNat_natCast] at h4
        rw [Int.toNat_natCast, Int.toNat_natCast]
        have hN : N < 4294967296 := by
          have : (2 : Int) ^ K = ((2 ^ K : Nat) : Int) := by norm_cast
          have h32 : 2 ^ K ≤ 2 ^ 32 := Nat.pow_le_pow_right (by omega) (by omega)
          omega
        clear hR hPL hb h4
        refine e_loop1 (fun m y => [ex fun i : Nat => all [pu (m + i = K ∧ y = .int .i64 (i : Int)), pt g (.cells #[.int .u8 1, .int .u8 2, .int .u8 4, .int .u8 8, .int .u8 16, .int .u8 32, .int .u8 64, .int .u8 128] 137), IsW p (l ++ bitsOf N i)]] ++ F) K ?_ ?_
        · refine Imp.ex 0 (.all ?_)
          (try simp only [List.cons_append, List.nil_append])
          refine .pu ⟨by omega, rfl⟩ (.pick .here (.ex (qa, qc) (.all ?_)))
          (try simp only [List.cons_append, List.nil_append])
          rw [show l ++ bitsOf N 0 = l by simp [bitsOf]]
          exact .pick .here (.pick .here (.pu hL .refl))
        · intro m ds y
          (try simp only [List.cons_append, List.nil_append])
          refine e_ex Pick.here fun i => e_all Pick.here ?_
          (try simp only [List.cons_append, List.nil_append])
          refine e_pu Pick.here fun hi => ?_
          obtain ⟨hm, rfl⟩ := hi
          obtain ⟨L, hLe⟩ : ∃ L, L = l ++ bitsOf N i := ⟨_, rfl⟩
          have hLl : L.length = l.length + i := by rw [hLe, List.length_append, length_bitsOf]
          rw [← hLe]
          (refine e_ask v_lss Imp.nil (fun h => ?_) (fun h => ?_))
          · have hik : i < K := by omega
            ((with_reducible refine e_condT ?_))
            refine e_cut0 ([pt g (.cells #[.int .u8 1, .int .u8 2, .int .u8 4, .int .u8 8, .int .u8 16, .int .u8 32, .int .u8 64, .int .u8 128] 137), IsWx p L] ++ F) ?_ ?_
            · intro ds2
              (try simp only [List.cons_append, List.nil_append])
              refine e_ex (.there .here) fun q2 => ?_
              obtain ⟨xa, xc⟩ := q2
              refine e_all Pick.here ?_
              (try simp only [List.cons_append, List.nil_append])
              refine e_cut0 ([pt g (.cells #[.int .u8 1, .int .u8 2, .int .u8 4, .int .u8 8, .int .u8 16, .int .u8 32, .int .u8 64, .int .u8 128] 137), pt p (.cells #[.slice xa (pkx L).length xc, .int .i64 (L.length : Int), .bool true] 106), Sl 1 5 xa xc (pkx L).length ((pk (L ++ [N.testBit i])).map B)] ++ F) ?_ ?_
              · intro ds3
                (try simp only [List.cons_append, List.nil_append])
                (((with_reducible refine e_opN v_nil Imp.nil ?_))); (((with_reducible refine e_opN v_fa0 Imp.nil ?_))); (((with_reducible refine' e_opN (v_ldN ?hc) ?hi ?_); (case hi => (repeat (first | exact Imp.refl | exact Imp.nil | (apply Imp.pick; (focus ((repeat constructor); done))) | refine Imp.drop ?_))); (case hc => (repeat (first | exact Nth.here | apply Nth.there))))); (((with_reducible refine e_opN (v_add ?h1 ?h2) Imp.nil ?_); (case h1 => omega); (case h2 => omega))); (((with_reducible refine e_opN v_nil Imp.nil ?_))); (((with_reducible refine e_opN v_fa0 Imp.nil ?_))); (((with_reducible refine' e_stN ?hp ?ho ?_); (case hp => (repeat constructor)); (case ho => (repeat (first | exact Put.here | apply Put.there))))); (((with_reducible refine e_opN (v_add ?h1 ?h2) Imp.nil ?_); (case h1 => omega); (case h2 => omega)))
                refine e_next1 (m - 1) (by omega) (.ex (i + 1) (.all ?_))
                (try simp only [List.cons_append, List.nil_append])
                refine .pu ⟨by omega, by norm_cast⟩ (.pick (.there .here) (.ex (xa, xc) (.all ?_)))
                (try simp only [List.cons_append, List.nil_append])
                have e1 : l ++ bitsOf N (i + 1) = L ++ [N.testBit i] := by rw [hLe, bitsOf_succ, List.append_assoc]
                have e2 : (pk (L ++ [N.testBit i])).length = (pkx L).length := by rw [length_pk, length_pkx]; simp; omega
                rw [e1, e2]
                have e3 : ((L ++ [N.testBit i]).length : Int) = (L.length : Int) + 1 := by simp
                rw [e3]
                exact .pick .here (.pick (.here) (.pu (by simp; omega) .refl))
              · refine e_opN v_conv Imp.nil ?_
                rw [wrapu64 (by omega)]
                refine e_opN (v_shr (by omega)) Imp.nil ?_
                rw [shr_nat (by omega)]
                refine e_opN v_and Imp.nil ?_
                have hdiv : N / 2 ^ i ≤ N := Nat.div_le_self _ _
                rw [and1 (by omega), testBit_mod]
                (refine e_ask v_eql Imp.nil (fun h => ?_) (fun h => ?_))
                · have hbit : N.testBit i = true := by
                    cases hh : N.testBit i with
                    | true => rfl
                    | false => rw [hh] at h; simp at h
                  have hpx := length_pkx L
                  refine e_slsome (.there .here) (by omega) fun g1 hg1 => ?_
                  subst hg1
                  ((with_reducible refine e_condT ?_)); ((with_reducible refine e_drS ?_)); (((with_reducible refine e_stS v_nil Imp.nil ?_))); (((with_reducible refine e_stS v_fa0 Imp.nil ?_))); (((with_reducible refine' e_stS (v_ldN ?hc) ?hi ?_); (case hi => (repeat (first | exact Imp.refl | exact Imp.nil | (apply Imp.pick; (focus ((repeat constructor); done))) | refine Imp.drop ?_))); (case hc => (repeat (first | exact Nth.here | apply Nth.there))))); (((with_reducible refine e_stS v_nil Imp.nil ?_))); (((with_reducible refine e_stS v_fa0 Imp.nil ?_))); (((with_reducible refine' e_stS (v_ldN ?hc) ?hi ?_); (case hi => (repeat (first | exact Imp.refl | exact Imp.nil | (apply Imp.pick; (focus ((repeat constructor); done))) | refine Imp.drop ?_))); (case hc => (repeat (first | exact Nth.here | apply Nth.there))))); (((with_reducible refine e_stS (v_quo ?h1 ?h2 ?h3) Imp.nil ?_); (case h1 => omega); (case h2 => omega); (case h3 => omega)))
                  refine e_stS (v_ia1 (L.length / 8) (by norm_cast) (by omega)) Imp.nil ?_
                  refine e_stS (v_ldSl (v := B (UInt8.ofNat (byteAt L (L.length / 8)))) (by rw [Nat.zero_add, List.getElem?_map, pkx_last]; rfl)) (.pick (.there .here) .nil) ?_
                  (((with_reducible refine e_stS v_nil Imp.nil ?_))); (((with_reducible refine e_stS v_fa0 Imp.nil ?_))); (((with_reducible refine' e_stS (v_ldN ?hc) ?hi ?_); (case hi => (repeat (first | exact Imp.refl | exact Imp.nil | (apply Imp.pick; (focus ((repeat constructor); done))) | refine Imp.drop ?_))); (case hc => (repeat (first | exact Nth.here | apply Nth.there))))); (((with_reducible refine e_stS (v_rem ?h1 ?h2) Imp.nil ?_); (case h1 => omega); (case h2 => omega)))
                  refine e_stS (v_iaA (L.length % 8) (by norm_cast) (by omega)) Imp.nil ?_
                  refine e_stS (v_ld (by rw [Nat.zero_add, Nat.mul_one]; exact mask_at (by omega))) (.pick (.there (.there .here)) .nil) ?_
                  rw [B_ofNat (byteAt_lt _ _)]
                  refine e_stS v_or Imp.nil ?_
                  rw [or8 (by omega) (byteAt_last L)]
                  refine e_stS (v_ia1 (L.length / 8) (by norm_cast) (by omega)) Imp.nil ?_
                  refine e_stSl (.there .here) (by simp; omega) ?_
                  refine e_sat ?_
                  have e4 : byteAt L (L.length / 8) + 2 ^ (L.length % 8) < 256 := by
                    have := byteAt_lt (L ++ [true]) (L.length / 8)
                    rw [byteAt_snoc_eq] at this; simpa using this
                  rw [hbit, pk_snoc_t, Nat.zero_add, List.map_set, B_ofNat e4]
                  (try simp only [List.cons_append, List.nil_append])
                  (repeat (first | exact Imp.refl | exact Imp.nil | (apply Imp.pick; (focus ((repeat constructor); done))) | refine Imp.drop ?_))
                · have hbit : N.testBit i = false := by
                    cases hh : N.testBit i with
                    | false => rfl
                    | true => rw [hh] at h; simp at h
                  ((with_reducible refine e_condF ?_))
                  refine e_sat ?_
                  rw [hbit, pk_snoc_f]
                  (try simp only [List.cons_append, List.nil_append])
                  (repeat (first | exact Imp.refl | exact Imp.nil | (apply Imp.pick; (focus ((repeat constructor); done))) | refine Imp.drop ?_))
            · refine e_ex (.there .here) fun q2 => ?_
              obtain ⟨xa, xc⟩ := q2
              refine e_all Pick.here ?_
              (try simp only [List.cons_append, List.nil_append])
              refine e_pu (.there (.there .here)) fun hL2 => ?_
              (((with_reducible refine e_opN v_nil Imp.nil ?_))); (((with_reducible refine e_opN v_fa0 Imp.nil ?_))); (((with_reducible refine' e_opN (v_ldN ?hc) ?hi ?_); (case hi => (repeat (first | exact Imp.refl | exact Imp.nil | (apply Imp.pick; (focus ((repeat constructor); done))) | refine Imp.drop ?_))); (case hc => (repeat (first | exact Nth.here | apply Nth.there))))); (((with_reducible refine e_opN (v_rem ?h1 ?h2) Imp.nil ?_); (case h1 => omega); (case h2 => omega)))
              have hpk := length_pk L
              (refine e_ask v_eql Imp.nil (fun h => ?_) (fun h => ?_))
              · ((with_reducible refine e_condT ?_)); (((with_reducible refine e_opN v_nil Imp.nil ?_))); (((with_reducible refine e_opN v_fa0 Imp.nil ?_))); (((with_reducible refine' e_opN (v_ldN ?hc) ?hi ?_); (case hi => (repeat (first | exact Imp.refl | exact Imp.nil | (apply Imp.pick; (focus ((repeat constructor); done))) | refine Imp.drop ?_))); (case hc => (repeat (first | exact Nth.here | apply Nth.there))))); (((with_reducible refine e_bsl1 fun g => ?_)))
                refine e_app (m := 1) (news := [B 0]) (.there (.there .here)) (src_pt (e' := 5) (by kernel_rfl) .here (by rfl) (B_one (l := [0]))) (by omega) (by omega) fun a' c' => ?_
                (((with_reducible refine e_opN v_nil Imp.nil ?_))); (((with_reducible refine e_opN v_fa0 Imp.nil ?_))); (((with_reducible refine' e_stN ?hp ?ho ?_); (case hp => (repeat constructor)); (case ho => (repeat (first | exact Put.here | apply Put.there)))))
                refine e_sat ?_
                (try simp only [List.cons_append, List.nil_append])
                refine .pick (.there (.there (.there .here))) (.ex (a', c') (.all ?_))
                (try simp only [List.cons_append, List.nil_append])
                have h8 : L.length % 8 = 0 := by omega
                rw [pkx0 h8]
                simp only [List.length_append, List.length_singleton, List.map_append, List.map_cons, List.map_nil]
                (repeat (first | exact Imp.refl | exact Imp.nil | (apply Imp.pick; (focus ((repeat constructor); done))) | refine Imp.drop ?_))
              · ((with_reducible refine e_condF ?_))
                refine e_sat ?_
                (try simp only [List.cons_append, List.nil_append])
                refine .pick (.there (.there .here)) (.ex (xa, xc) (.all ?_))
                (try simp only [List.cons_append, List.nil_append])
                rw [pkx1 (by omega)]
                (repeat (first | exact Imp.refl | exact Imp.nil | (apply Imp.pick; (focus ((repeat constructor); done))) | refine Imp.drop ?_))
          · have : i = K := by omega
            subst this
            ((with_reducible refine e_condF ?_))
            refine e_retT () ?_
            rw [← hLe]
            exact .pick (.there .here) (.drop .refl)
  · (refine' e_call (none_some) ?hp fun _ => ?_; (case hp => (repeat (first | exact Picks.nil | (apply Picks.cons; (focus (repeat constructor)))))); (try simp only [List.cons_append, List.nil_append, Bool.not_true, Bool.not_false]))
    ((with_reducible refine e_condF ?_))
    have fin : ∀ z : Value, z = .bool (decide (badP n k)) → Ent W (pt p (.cells #[.slice qa (pk l).length qc, .int .i64 (l.length : Int), .bool true] 106) :: Sl 1 5 qa qc (pk l).length ((pk l).map B) :: F) (fun w => sat W (pt p (.cells #[.slice qa (pk l).length qc, .int .i64 (l.length : Int), .bool true] 106) :: Sl 1 5 qa qc (pk l).length ((pk l).map B) :: pu (z = .bool (decide (badP n k))) :: F) w) := fun z hz => e_sat (.pick .here (.pick .here (.pu hz .refl)))
    (refine e_ask v_lss Imp.nil (fun h => ?_) (fun h => ?_))
    · ((with_reducible refine e_condT ?_))
      exact fin _ (by rw [decide_eq_true (show badP n k from .inl h)])
    · ((with_reducible refine e_condF ?_))
      (refine e_ask v_gtr Imp.nil (fun h => ?_) (fun h => ?_))
      · ((with_reducible refine e_condT ?_))
        exact fin _ (by rw [decide_eq_true (show badP n k from .inr (.inl ‹_›))])
      · ((with_reducible refine e_condF ?_))
        (refine e_ask v_lss Imp.nil (fun h => ?_) (fun h => ?_))
        · ((with_reducible refine e_condT ?_))
          exact fin _ (by rw [decide_eq_true (show badP n k from .inr (.inr (.inl ‹_›)))])
        · ((with_reducible refine e_condF ?_))
          refine e_opN v_min Imp.nil ?_
          rw [if_neg (by omega)]
          refine e_opN v_max Imp.nil ?_
          rw [show (if (0 : Int) < k then k else 0) = k by split <;> omega]
          obtain ⟨K, rfl⟩ := Int.eq_ofNat_of_zero_le (show 0 ≤ k by omega)
          refine e_opN v_conv Imp.nil ?_
          rw [wrapu64 (by omega)]
          refine e_opN (v_shl (by omega)) Imp.nil ?_
          have hm : min ((K : Int)).toNat IntKind.i64.bits = K := by simp only [IntKind.bits, Int.toNat_natCast]; omega
          have h32 : 2 ^ K ≤ 2 ^ 32 := Nat.pow_le_pow_right (by omega) (by omega)
          have hc : (2 : Int) ^ K = ((2 ^ K : Nat) : Int) := by norm_cast
          obtain ⟨E, hE⟩ : ∃ E, E = 2 ^ K := ⟨_, rfl⟩
          rw [← hE] at hc h32
          rw [hm, Int.one_mul, hc, w64 (by omega) (by omega)]
          refine e_opN v_geq Imp.nil ?_
          refine fin _ ?_
          have : ((E : Int) ≤ n) ↔ badP n K := by
            unfold badP
            rw [Int.toNat_natCast, hc]
            constructor
            · exact fun h => .inr (.inr (.inr h))
            · rintro (h | h | h | h)
              · omega
              · omega
              · omega
              · exact h
          rw [decide_eq_decide.2 this]

theorem newWriter {W : World} : Cn Try.prog 30 [] W [] (fun p : Nat => .pointer (some ⟨p, 0, none⟩)) (fun p => [IsW p []]) := by
  (refine S.bits_NewWriter_cn fun F => ?_; unfold S.bits_NewWriter; simp only [List.cons_append, List.nil_append])
  (((with_reducible refine e_opN v_rv Imp.nil ?_))); (((with_reducible refine e_boxA fun g => ?_)))
  refine e_ret g rfl ?_
  refine .ex (none, 0) (.all ?_)
  (try simp only [List.cons_append, List.nil_append])
  refine .pick .here ?_
  rw [show (pk []).length = 0 from rfl, show List.map B (pk []) = [] from rfl]
  exact imp_nil (.pu (by simp) .refl)

theorem bytes {W : World} {p : Nat} {l : List Bool} : Cn Try.prog 33 [.pointer (some ⟨p, 0, none⟩)] W [IsW p l] (fun q : Option Addr × Nat => .slice q.1 (pk l).length q.2) (fun q => [Sl 1 5 q.1 q.2 (pk l).length ((pk l).map B), IsW p l]) := by
  (refine S.bits_Writer_Bytes_cn fun F => ?_; unfold S.bits_Writer_Bytes; simp only [List.cons_append, List.nil_append])
  refine e_ex Pick.here fun q => ?_
  obtain ⟨qa, qc⟩ := q
  refine e_all Pick.here ?_
  (try simp only [List.cons_append, List.nil_append])
  refine e_pu (.there (.there .here)) fun hL => ?_
  have hpk := length_pk l
  (refine' e_call (none_some) ?hp fun _ => ?_; (case hp => (repeat (first | exact Picks.nil | (apply Picks.cons; (focus (repeat constructor)))))); (try simp only [List.cons_append, List.nil_append, Bool.not_true, Bool.not_false]))
  ((with_reducible refine e_condF ?_)); (((with_reducible refine e_opN v_nil Imp.nil ?_))); (((with_reducible refine e_opN v_fa0 Imp.nil ?_))); (((with_reducible refine' e_opN (v_ldN ?hc) ?hi ?_); (case hi => (repeat (first | exact Imp.refl | exact Imp.nil | (apply Imp.pick; (focus ((repeat constructor); done))) | refine Imp.drop ?_))); (case hc => (repeat (first | exact Nth.here | apply Nth.there)))))
  refine e_nil (s := 1) (e := 5) ?_
  refine e_app (m := (pk l).length) (news := (pk l).map B) .here (src_sl (e' := 5) (by kernel_rfl) (.there (.there .here)) B_one) (by omega) (by omega) fun a' c' => ?_
  rw [Nat.zero_add, List.nil_append]
  refine e_ret (a', c') rfl ?_
  refine .pick .here (.ex (qa, qc) (.all ?_))
  (try simp only [List.cons_append, List.nil_append])
  exact .pick .here (.pick .here (.pu hL .refl))

def rawR (l : List Bool) (b : List UInt8) : Int := if 1048576 < (pk l).length + b.length then 6 else 0
def rawL (l : List Bool) (b : List UInt8) : List Bool := if rawR l b = 0 then padTo8 l ++ ub b else l
end Go.Proofs.Ytehfblkpbadikaa.B
/-! The Reader of package bits. No conditions but those that each names. -/
namespace Go.Proofs.Ytehfblkpbadikaa.B
open Go Go.Proofs Go.Proofs.Ytehfblkpbadikaa.Sh Go.Proofs.Ytehfblkpbadikaa.Sl Go.Proofs.Ytehfblkpbadikaa.T Go.Proofs.Ytehfblkpbadikaa.M
/-- a Reader at p of the bytes b, at_ bits taken -/
def IsR (p : Nat) (b : List UInt8) (at_ : Nat) : HP := ex fun q : Option Addr × Nat => all [pt p (.cells #[.slice q.1 b.length q.2, .int .i64 (at_ : Int), .bool true] 115), Sl 1 5 q.1 q.2 b.length (b.map B), pu (at_ ≤ 8 * b.length ∧ b.length ≤ 140737488355328)]

theorem rnone_nil {W : World} : Cn Try.prog 61 [.pointer none] W [] (fun _ : Unit => .bool true) (fun _ => []) := by
  (refine S.bits_Reader_none_cn fun F => ?_; unfold S.bits_Reader_none; simp only [List.cons_append, List.nil_append])
  (((with_reducible refine e_opN v_eqNil0 Imp.nil ?_))); ((with_reducible refine e_gdF1 ?_)); ((with_reducible refine e_gdF1 ?_)); ((with_reducible refine e_gdF1 ?_)); ((with_reducible refine e_gdF1 ?_)); ((with_reducible refine e_gdF1 ?_)); (((with_reducible refine e_opN v_pickT Imp.nil ?_)))
  (refine e_ret Unit.unit (by rfl) ?_; (repeat (first | exact Imp.refl | exact Imp.nil | (apply Imp.pick; (focus ((repeat constructor); done))) | refine Imp.drop ?_)))
theorem rnone_some {W : World} {p : Nat} {a b : Value} {m : Bool} : Cn Try.prog 61 [.pointer (some ⟨p, 0, none⟩)] W [pt p (.cells #[a, b, .bool m] 115)] (fun _ : Unit => .bool (!m)) (fun _ => [pt p (.cells #[a, b, .bool m] 115)]) := by
  (refine S.bits_Reader_none_cn fun F => ?_; unfold S.bits_Reader_none; simp only [List.cons_append, List.nil_append])
  (((with_reducible refine e_opN v_eqNil1 Imp.nil ?_))); ((with_reducible refine e_gdT ?_)); ((with_reducible refine e_gdT ?_)); (((with_reducible refine e_opN v_nil Imp.nil ?_))); ((with_reducible refine e_gdT ?_)); (((with_reducible refine e_opN v_fa0 Imp.nil ?_))); ((with_reducible refine e_gdT ?_)); (((with_reducible refine' e_opN (v_ldN ?hc) ?hi ?_); (case hi => (repeat (first | exact Imp.refl | exact Imp.nil | (apply Imp.pick; (focus ((repeat constructor); done))) | refine Imp.drop ?_))); (case hc => (repeat (first | exact Nth.here | apply Nth.there))))); ((with_reducible refine e_gdT ?_)); (((with_reducible refine e_opN v_not Imp.nil ?_))); (((with_reducible refine e_opN v_pickF Imp.nil ?_)))
  (refine e_ret Unit.unit (by rfl) ?_; (repeat (first | exact Imp.refl | exact Imp.nil | (apply Imp.pick; (focus ((repeat constructor); done))) | refine Imp.drop ?_)))
theorem srcLeft {W : World} {p n c at_ : Nat} {a : Option Addr} {m : Value} (hn : n ≤ 140737488355328) (ha : at_ ≤ 8 * n) : Cn Try.prog 62 [.pointer (some ⟨p, 0, none⟩)] W [pt p (.cells #[.slice a n c, .int .i64 (at_ : Int), m] 115)] (fun _ : Unit => .int .i64 (8 * (n : Int) - at_)) (fun _ => [pt p (.cells #[.slice a n c, .int .i64 (at_ : Int), m] 115)]) := by
  (refine S.bits_source_left_cn fun F => ?_; unfold S.bits_source_left; simp only [List.cons_append, List.nil_append])
  ((with_reducible refine e_drS ?_)); (((with_reducible refine e_stS v_nil Imp.nil ?_))); (((with_reducible refine e_stS v_fa0 Imp.nil ?_))); (((with_reducible refine' e_stS (v_ldN ?hc) ?hi ?_); (case hi => (repeat (first | exact Imp.refl | exact Imp.nil | (apply Imp.pick; (focus ((repeat constructor); done))) | refine Imp.drop ?_))); (case hc => (repeat (first | exact Nth.here | apply Nth.there))))); (((with_reducible refine e_stS v_len Imp.nil ?_))); (((with_reducible refine e_stS (v_mul ?h1 ?h2) Imp.nil ?_); (case h1 => omega); (case h2 => omega))); (((with_reducible refine e_stS v_nil Imp.nil ?_))); (((with_reducible refine e_stS v_fa0 Imp.nil ?_))); (((with_reducible refine' e_stS (v_ldN ?hc) ?hi ?_); (case hi => (repeat (first | exact Imp.refl | exact Imp.nil | (apply Imp.pick; (focus ((repeat constructor); done))) | refine Imp.drop ?_))); (case hc => (repeat (first | exact Nth.here | apply Nth.there))))); (((with_reducible refine e_stS (v_sub ?h1 ?h2) Imp.nil ?_); (case h1 => omega); (case h2 => omega)))
  (refine e_ret Unit.unit (by rfl) ?_; (repeat (first | exact Imp.refl | exact Imp.nil | (apply Imp.pick; (focus ((repeat constructor); done))) | refine Imp.drop ?_)))
theorem srcBit {W : World} {p at_ : Nat} {b : List UInt8} {v : Bool} (hv : (ub b)[at_]? = some v) : Cn Try.prog 79 [.pointer (some ⟨p, 0, none⟩)] W [IsR p b at_] (fun _ : Unit => .int .i64 (v.toNat : Int)) (fun _ => [IsR p b (at_ + 1)]) := by
  (refine S.bits_source_bit_cn fun F => ?_; unfold S.bits_source_bit; simp only [List.cons_append, List.nil_append])
  refine e_ex Pick.here fun q => ?_
  obtain ⟨qa, qc⟩ := q
  refine e_all Pick.here ?_
  (try simp only [List.cons_append, List.nil_append])
  refine e_pu (.there (.there .here)) fun hL => ?_
  have hlt : at_ < 8 * b.length := by
    rw [← length_ub]
    rcases Nat.lt_or_ge at_ (ub b).length with h | h
    · exact h
    · rw [List.getElem?_eq_none h] at hv; cases hv
  have h8 : at_ / 8 < b.length := by omega
  rw [ub_get h8] at hv
  have hv' := Option.some.inj hv
  refine e_slsome (.there .here) (by omega) fun g hg => ?_
  subst hg
  ((with_reducible refine e_drS ?_)); (((with_reducible refine e_stS v_nil Imp.nil ?_))); (((with_reducible refine e_stS v_fa0 Imp.nil ?_))); (((with_reducible refine' e_stS (v_ldN ?hc) ?hi ?_); (case hi => (repeat (first | exact Imp.refl | exact Imp.nil | (apply Imp.pick; (focus ((repeat constructor); done))) | refine Imp.drop ?_))); (case hc => (repeat (first | exact Nth.here | apply Nth.there))))); (((with_reducible refine e_stS v_nil Imp.nil ?_))); (((with_reducible refine e_stS v_fa0 Imp.nil ?_))); (((with_reducible refine' e_stS (v_ldN ?hc) ?hi ?_); (case hi => (repeat (first | exact Imp.refl | exact Imp.nil | (apply Imp.pick; (focus ((repeat constructor); done))) | refine Imp.drop ?_))); (case hc => (repeat (first | exact Nth.here | apply Nth.there))))); (((with_reducible refine e_stS (v_quo ?h1 ?h2 ?h3) Imp.nil ?_); (case h1 => omega); (case h2 => omega); (case h3 => omega)))
  refine e_stS (v_ia1 (at_ / 8) (by norm_cast) (by omega)) Imp.nil ?_
  refine e_stS (v_ldSl (v := B b[at_ / 8]) (by rw [Nat.zero_add]; exact B_get h8)) (.pick (.there .here) .nil) ?_
  (((with_reducible refine e_stS v_nil Imp.nil ?_))); (((with_reducible refine e_stS v_fa0 Imp.nil ?_))); (((with_reducible refine' e_stS (v_ldN ?hc) ?hi ?_); (case hi => (repeat (first | exact Imp.refl | exact Imp.nil | (apply Imp.pick; (focus ((repeat constructor); done))) | refine Imp.drop ?_))); (case hc => (repeat (first | exact Nth.here | apply Nth.there))))); (((with_reducible refine e_stS (v_rem ?h1 ?h2) Imp.nil ?_); (case h1 => omega); (case h2 => omega)))
  have hb := b[at_ / 8].toNat_lt
  refine e_stS v_conv Imp.nil ?_
  rw [show ((at_ : Int) % 8) = ((at_ % 8 : Nat) : Int) by norm_cast, wrapu64 (by omega)]
  refine e_stS (v_shr (by omega)) Imp.nil ?_
  rw [shr8 (by omega)]
  refine e_stS v_and Imp.nil ?_
  have hdiv : b[at_ / 8].toNat / 2 ^ (at_ % 8) ≤ b[at_ / 8].toNat := Nat.div_le_self _ _
  rw [and1_8 (by omega), testBit_mod, hv']
  refine e_stS v_conv Imp.nil ?_
  rw [w64 (by omega) (by cases v <;> simp)]
  (((with_reducible refine e_opN v_nil Imp.nil ?_))); (((with_reducible refine e_opN v_fa0 Imp.nil ?_))); (((with_reducible refine' e_opN (v_ldN ?hc) ?hi ?_); (case hi => (repeat (first | exact Imp.refl | exact Imp.nil | (apply Imp.pick; (focus ((repeat constructor); done))) | refine Imp.drop ?_))); (case hc => (repeat (first | exact Nth.here | apply Nth.there))))); (((with_reducible refine e_opN (v_add ?h1 ?h2) Imp.nil ?_); (case h1 => omega); (case h2 => omega))); (((with_reducible refine e_opN v_nil Imp.nil ?_))); (((with_reducible refine e_opN v_fa0 Imp.nil ?_))); (((with_reducible refine' e_stN ?hp ?ho ?_); (case hp => (repeat constructor)); (case ho => (repeat (first | exact Put.here | apply Put.there)))))
  refine e_ret () rfl ?_
  refine .ex (some ⟨g, 0, none⟩, qc) (.all ?_)
  (try simp only [List.cons_append, List.nil_append])
  rw [show ((at_ + 1 : Nat) : Int) = (at_ : Int) + 1 by norm_cast]
  exact .pick .here (.pick .here (.pu ⟨by omega, hL.2⟩ .refl))

theorem newReader {W : World} {a : Option Addr} {cap : Nat} {b : List UInt8} {A : HP} (hr : RdB W A a b.length (b.map B)) (ha : a = none → b.length = 0) (hb : b.length ≤ 140737488355328) :
    Cn Try.prog 37 [.slice a b.length cap] W [A] (fun p : Nat => .pointer (some ⟨p, 0, none⟩)) (fun p => [IsR p b 0, A]) := by
  (refine S.bits_NewReader_cn fun F => ?_; unfold S.bits_NewReader; simp only [List.cons_append, List.nil_append])
  refine e_nil (s := 1) (e := 5) ?_
  refine e_app (m := b.length) (news := b.map B) .here (src_rd (A := A) (e' := 5) (by kernel_rfl) (.there .here) hr ha B_one) (by omega) (by omega) fun a' c' => ?_
  rw [Nat.zero_add, List.nil_append]
  (((with_reducible refine e_opN v_rv Imp.nil ?_))); (((with_reducible refine e_opN v_rv Imp.nil ?_))); (((with_reducible refine e_boxA fun g => ?_)))
  refine e_ret g rfl ?_
  refine .ex (a', c') (.all ?_)
  (try simp only [List.cons_append, List.nil_append])
  exact .pick .here (.pick .here (.pu ⟨by omega, hb⟩ (.pick .here .refl)))

theorem left {W : World} {p at_ : Nat} {b : List UInt8} : Cn Try.prog 41 [.pointer (some ⟨p, 0, none⟩)] W [IsR p b at_] (fun _ : Unit => .int .i64 (8 * (b.length : Int) - at_)) (fun _ => [IsR p b at_]) := by
  (refine S.bits_Reader_Left_cn fun F => ?_; unfold S.bits_Reader_Left; simp only [List.cons_append, List.nil_append])
  refine e_ex Pick.here fun q => ?_
  obtain ⟨qa, qc⟩ := q
  refine e_all Pick.here ?_
  (try simp only [List.cons_append, List.nil_append])
  refine e_pu (.there (.there .here)) fun hL => ?_
  (refine' e_call (rnone_some) ?hp fun _ => ?_; (case hp => (repeat (first | exact Picks.nil | (apply Picks.cons; (focus (repeat constructor)))))); (try simp only [List.cons_append, List.nil_append, Bool.not_true, Bool.not_false]))
  ((with_reducible refine e_condF ?_)); (((with_reducible refine e_opN v_nil Imp.nil ?_))); (((with_reducible refine e_opN v_fa0 Imp.nil ?_)))
  (refine' e_call (srcLeft hL.2 hL.1) ?hp fun _ => ?_; (case hp => (repeat (first | exact Picks.nil | (apply Picks.cons; (focus (repeat constructor)))))); (try simp only [List.cons_append, List.nil_append, Bool.not_true, Bool.not_false]))
  (first | refine e_ret (()) rfl ?_ | refine e_retT (()) ?_)
  refine .ex (qa, qc) (.all ?_)
  (try simp only [List.cons_append, List.nil_append])
  exact .pick .here (.pick .here (.pu hL .refl))

def takR (b : List UInt8) (at_ : Nat) (k : Int) : Int := if k < 0 ∨ 32 < k then 1 else if 8 * (b.length : Int) - at_ < k then 20 else 0
def takN (b : List UInt8) (at_ : Nat) (k : Int) : Nat := if takR b at_ k = 0 then tak (ub b) at_ k.toNat else 0
def takAt (b : List UInt8) (at_ : Nat) (k : Int) : Nat := if takR b at_ k = 0 then at_ + k.toNat else at_
theorem take {W : World} {p at_ : Nat} {b : List UInt8} {k : Int} : Cn Try.prog 59 [.pointer (some ⟨p, 0, none⟩), .int .i64 k] W [IsR p b at_] (fun _ : Unit => .tuple #[.int .i64 (takN b at_ k : Int), .int .i64 (takR b at_ k)]) (fun _ => [IsR p b (takAt b at_ k)]) := by
  (refine S.bits_Reader_Take_cn fun F => ?_; unfold S.bits_Reader_Take; simp only [List.cons_append, List.nil_append])
  refine e_cut1 (fun z => IsR p b at_ :: pu (z = .bool (decide (k < 0 ∨ 32 < k))) :: F) ?_ ?_
  · intro ds z
    refine e_pu (.there .here) fun hz => ?_
    subst hz
    by_cases hb : k < 0 ∨ 32 < k
    · rw [decide_eq_true hb]
      have hR : takR b at_ k = 1 := by simp [takR, hb]
      rw [hR, show takN b at_ k = 0 by simp [takN, hR], show takAt b at_ k = at_ by simp [takAt, hR]]
      ((with_reducible refine e_condT ?_))
      (first | refine e_ret (()) rfl ?_ | refine e_retT (()) ?_)
      (repeat (first | exact Imp.refl | exact Imp.nil | (apply Imp.pick; (focus ((repeat constructor); done))) | refine Imp.drop ?_))
    · rw [decide_eq_false hb]
      refine e_ex Pick.here fun q => ?_
      obtain ⟨qa, qc⟩ := q
      refine e_all Pick.here ?_
      (try simp only [List.cons_append, List.nil_append])
      refine e_pu (.there (.there .here)) fun hL => ?_
      ((with_reducible refine e_condF ?_)); (((with_reducible refine e_opN v_nil Imp.nil ?_))); (((with_reducible refine e_opN v_fa0 Imp.nil ?_)))
      (refine' e_call (srcLeft hL.2 hL.1) ?hp fun _ => ?_; (case hp => (repeat (first | exact Picks.nil | (apply Picks.cons; (focus (repeat constructor)))))); (try simp only [List.cons_append, List.nil_append, Bool.not_true, Bool.not_false]))
      (refine e_ask v_gtr Imp.nil (fun h => ?_) (fun h => ?_))
      · ((with_reducible refine e_condT ?_))
        have hR : takR b at_ k = 20 := by simp [takR, hb, h]
        rw [hR, show takN b at_ k = 0 by simp [takN, hR], show takAt b at_ k = at_ by simp [takAt, hR]]
        (first | refine e_ret (()) rfl ?_ | refine e_retT (()) ?_)
        refine .ex (qa, qc) (.all ?_)
        (try simp only [List.cons_append, List.nil_append])
        exact .pick .here (.pick .here (.pu hL .refl))
      · ((with_reducible refine e_condF ?_))
        have hR : takR b at_ k = 0 := by simp [takR, hb, h]
        rw [hR, show takN b at_ k = tak (ub b) at_ k.toNat by simp [takN, hR], show takAt b at_ k = at_ + k.toNat by simp [takAt, hR]]
        obtain ⟨K, rfl⟩ := Int.eq_ofNat_of_zero_le (show 0 ≤ k by omega)
        rw [Int.toNat_natCast]
        refine e_loop2 (fun m x y => [ex fun i : Nat => all [pu (m + i = K ∧ y = .int .i64 (i : Int) ∧ x = .int .i64 (tak (ub b) at_ i : Int)), IsR p b (at_ + i)]] ++ F) K ?_ ?_
        · refine Imp.ex 0 (.all ?_)
          (try simp only [List.cons_append, List.nil_append])
          refine .pu ⟨by omega, rfl, by rw [tak_zero]; rfl⟩ (.ex (qa, qc) (.all ?_))
          (try simp only [List.cons_append, List.nil_append])
          exact .pick .here (.pick .here (.pu hL .refl))
        · intro m ds x y
          (try simp only [List.cons_append, List.nil_append])
          refine e_ex Pick.here fun i => e_all Pick.here ?_
          (try simp only [List.cons_append, List.nil_append])
          refine e_pu Pick.here fun hi => ?_
          obtain ⟨hm, rfl, rfl⟩ := hi
          (refine e_ask v_lss Imp.nil (fun h => ?_) (fun h => ?_))
          · have hik : i < K := by omega
            obtain ⟨v, hv⟩ : ∃ v, (ub b)[at_ + i]? = some v := ⟨_, List.getElem?_eq_getElem (by rw [length_ub]; omega)⟩
            ((with_reducible refine e_condT ?_)); (((with_reducible refine e_opN v_nil Imp.nil ?_))); (((with_reducible refine e_opN v_fa0 Imp.nil ?_)))
            (refine' e_call (srcBit hv) ?hp fun _ => ?_; (case hp => (repeat (first | exact Picks.nil | (apply Picks.cons; (focus (repeat constructor)))))); (try simp only [List.cons_append, List.nil_append, Bool.not_true, Bool.not_false]))
            refine e_opN v_conv Imp.nil ?_
            rw [wrapu64 (by omega)]
            refine e_opN (v_shl (by omega)) Imp.nil ?_
            have hmin : min ((i : Int)).toNat IntKind.i64.bits = i := by simp only [IntKind.bits, Int.toNat_natCast]; omega
            have hp : 2 ^ i ≤ 2 ^ 32 := Nat.pow_le_pow_right (by omega) (by omega)
            have hc : (v.toNat : Int) * 2 ^ i = ((v.toNat * 2 ^ i : Nat) : Int) := by norm_cast
            have hle : v.toNat * 2 ^ i ≤ 2 ^ i := by cases v <;> simp
            obtain ⟨E, hE⟩ : ∃ E, E = v.toNat * 2 ^ i := ⟨_, rfl⟩
            rw [hmin, hc, ← hE, w64 (by omega) (by omega)]
            refine e_opN v_or Imp.nil ?_
            rw [hE, or_shl (by omega) (tak_lt _ _ _), ← tak_succ hv]
            (((with_reducible refine e_opN (v_add ?h1 ?h2) Imp.nil ?_); (case h1 => omega); (case h2 => omega)))
            refine e_next2 (m - 1) (by omega) (.ex (i + 1) (.all ?_))
            (try simp only [List.cons_append, List.nil_append])
            refine .pu (by refine ⟨by omega, ?_⟩; first | trivial | exact ⟨by norm_cast, trivial⟩ | norm_cast) ?_
            rw [← Nat.add_assoc]
            (repeat (first | exact Imp.refl | exact Imp.nil | (apply Imp.pick; (focus ((repeat constructor); done))) | refine Imp.drop ?_))
          · have : i = K := by omega
            subst this
            ((with_reducible refine e_condF ?_))
            (first | refine e_ret (()) rfl ?_ | refine e_retT (()) ?_)
            (repeat (first | exact Imp.refl | exact Imp.nil | (apply Imp.pick; (focus ((repeat constructor); done))) | refine Imp.drop ?_))
  · refine e_ex Pick.here fun q => ?_
    obtain ⟨qa, qc⟩ := q
    refine e_all Pick.here ?_
    (try simp only [List.cons_append, List.nil_append])
    refine e_pu (.there (.there .here)) fun hL => ?_
    (refine' e_call (rnone_some) ?hp fun _ => ?_; (case hp => (repeat (first | exact Picks.nil | (apply Picks.cons; (focus (repeat constructor)))))); (try simp only [List.cons_append, List.nil_append, Bool.not_true, Bool.not_false]))
    ((with_reducible refine e_condF ?_))
    have fin : ∀ z : Value, z = .bool (decide (k < 0 ∨ 32 < k)) → Ent W (pt p (.cells #[.slice qa b.length qc, .int .i64 (at_ : Int), .bool true] 115) :: Sl 1 5 qa qc b.length (b.map B) :: F) (fun w => sat W (IsR p b at_ :: pu (z = .bool (decide (k < 0 ∨ 32 < k))) :: F) w) := fun z hz => e_sat (.ex (qa, qc) (.all (.pick .here (.pick .here (.pu hL (.pu hz .refl))))))
    (refine e_ask v_lss Imp.nil (fun h => ?_) (fun h => ?_))
    · ((with_reducible refine e_condT ?_))
      exact fin _ (by rw [decide_eq_true (.inl h)])
    · ((with_reducible refine e_condF ?_))
      refine e_opN v_gtr Imp.nil ?_
      refine fin _ ?_
      congr 1
      exact decide_eq_decide.2 ⟨fun h => .inr h, fun h' => h'.resolve_left h⟩

theorem ralign {W : World} {p at_ : Nat} {b : List UInt8} : Cn Try.prog 82 [.pointer (some ⟨p, 0, none⟩)] W [IsR p b at_] (fun _ : Unit => .tuple #[]) (fun _ => [IsR p b ((at_ + 7) / 8 * 8)]) := by
  (refine S.bits_Reader_Align_cn fun F => ?_; unfold S.bits_Reader_Align; simp only [List.cons_append, List.nil_append])
  refine e_ex Pick.here fun q => ?_
  obtain ⟨qa, qc⟩ := q
  refine e_all Pick.here ?_
  (try simp only [List.cons_append, List.nil_append])
  refine e_pu (.there (.there .here)) fun hL => ?_
  (refine' e_call (rnone_some) ?hp fun _ => ?_; (case hp => (repeat (first | exact Picks.nil | (apply Picks.cons; (focus (repeat constructor)))))); (try simp only [List.cons_append, List.nil_append, Bool.not_true, Bool.not_false]))
  (((with_reducible refine e_opN v_notF Imp.nil ?_))); ((with_reducible refine e_condT ?_)); (((with_reducible refine e_opN v_nil Imp.nil ?_))); (((with_reducible refine e_opN v_fa0 Imp.nil ?_))); (((with_reducible refine e_opN v_fa0 Imp.nil ?_))); (((with_reducible refine' e_opN (v_ldN ?hc) ?hi ?_); (case hi => (repeat (first | exact Imp.refl | exact Imp.nil | (apply Imp.pick; (focus ((repeat constructor); done))) | refine Imp.drop ?_))); (case hc => (repeat (first | exact Nth.here | apply Nth.there))))); (((with_reducible refine e_opN (v_add ?h1 ?h2) Imp.nil ?_); (case h1 => omega); (case h2 => omega))); (((with_reducible refine e_opN (v_quo ?h1 ?h2 ?h3) Imp.nil ?_); (case h1 => omega); (case h2 => omega); (case h3 => omega))); (((with_reducible refine e_opN (v_mul ?h1 ?h2) Imp.nil ?_); (case h1 => omega); (case h2 => omega))); (((with_reducible refine e_opN v_nil Imp.nil ?_))); (((with_reducible refine e_opN v_fa0 Imp.nil ?_))); (((with_reducible refine e_opN v_fa0 Imp.nil ?_))); (((with_reducible refine' e_stN ?hp ?ho ?_); (case hp => (repeat constructor)); (case ho => (repeat (first | exact Put.here | apply Put.there)))))
  (first | refine e_ret (()) rfl ?_ | refine e_retT (()) ?_)
  refine .ex (qa, qc) (.all ?_)
  (try simp only [List.cons_append, List.nil_append])
  rw [show (((at_ + 7) / 8 * 8 : Nat) : Int) = ((at_ : Int) + 7) / 8 * 8 by norm_cast]
  exact .pick .here (.pick .here (.pu ⟨by omega, hL.2⟩ .refl))
end Go.Proofs.Ytehfblkpbadikaa.B
/-! bits.Reverse and the first answers that are known. No conditions but those that each names. -/
namespace Go.Proofs.Ytehfblkpbadikaa.B
open Go Go.Proofs Go.Proofs.Ytehfblkpbadikaa.Sh Go.Proofs.Ytehfblkpbadikaa.Sl Go.Proofs.Ytehfblkpbadikaa.T Go.Proofs.Ytehfblkpbadikaa.M
def lim (k : Int) : Nat := (if 32 < k then 32 else k).toNat
theorem lim_le (k : Int) : lim k ≤ 32 := by unfold lim; split <;> omega
theorem lim_eq (k : Int) : (if (0 : Int) < (if (32 : Int) < k then 32 else k) then (if (32 : Int) < k then 32 else k) else 0) = (lim k : Int) := by
  unfold lim; repeat' split <;> omega
theorem reverse {W : World} {n k : Int} : Cn Try.prog 55 [.int .i64 n, .int .i64 k] W [] (fun _ : Unit => .int .i64 (rv n (lim k) : Int)) (fun _ => []) := by
  (refine S.bits_Reverse_cn fun F => ?_; unfold S.bits_Reverse; simp only [List.cons_append, List.nil_append])
  have hK := lim_le k
  refine e_opN v_min Imp.nil ?_
  refine e_opN v_max Imp.nil ?_
  rw [lim_eq]
  obtain ⟨K, hKe⟩ : ∃ K, K = lim k := ⟨_, rfl⟩
  rw [← hKe] at hK
  rw [← hKe]
  refine e_loop2 (fun m x y => [ex fun i : Nat => pu (m + i = K ∧ y = .int .i64 (i : Int) ∧ x = .int .i64 (rv n i : Int))] ++ F) K ?_ ?_
  · exact Imp.ex 0 (.pu ⟨by omega, rfl, rfl⟩ .refl)
  · intro m ds x y
    (try simp only [List.cons_append, List.nil_append])
    refine e_ex Pick.here fun i => e_pu Pick.here fun hi => ?_
    obtain ⟨hm, rfl, rfl⟩ := hi
    (refine e_ask v_lss Imp.nil (fun h => ?_) (fun h => ?_))
    · have hik : i < K := by omega
      have hr := rv_lt n i
      have hp : 2 ^ i ≤ 2 ^ 31 := Nat.pow_le_pow_right (by omega) (by omega)
      ((with_reducible refine e_condT ?_))
      refine e_opN (v_shl (by omega)) Imp.nil ?_
      rw [show (rv n i : Int) * 2 ^ (min ((1 : Int)).toNat IntKind.i64.bits) = ((rv n i * 2 : Nat) : Int) by norm_cast, w64 (by omega) (by omega)]
      refine e_opN v_conv Imp.nil ?_
      rw [wrapu64 (by omega)]
      refine e_opN (v_shr (by omega)) Imp.nil ?_
      rw [shrI (by omega)]
      refine e_opN v_and Imp.nil ?_
      rw [and1I, ← bit_toNat]
      refine e_opN v_or Imp.nil ?_
      rw [or_two (by omega), ← rv_succ]
      (((with_reducible refine e_opN (v_add ?h1 ?h2) Imp.nil ?_); (case h1 => omega); (case h2 => omega)))
      exact e_next2 (m - 1) (by omega) (.ex (i + 1) (.pu (by refine ⟨by omega, ?_⟩; first | trivial | norm_cast) .refl))
    · have : i = K := by omega
      subst this
      ((with_reducible refine e_condF ?_))
      (first | refine e_ret (()) rfl ?_ | refine e_retT (()) ?_)
      exact .refl
theorem reverseRef {W : World} {n k : Int} : Cn Try.prog 57 [.int .i64 n, .int .i64 k] W [] (fun _ : Unit => .int .i64 (rv n (lim k) : Int)) (fun _ => []) := by
  (refine S.ref02_Reverse_cn fun F => ?_; unfold S.ref02_Reverse; simp only [List.cons_append, List.nil_append])
  have hK := lim_le k
  refine e_opN v_min Imp.nil ?_
  refine e_opN v_max Imp.nil ?_
  rw [lim_eq]
  obtain ⟨K, hKe⟩ : ∃ K, K = lim k := ⟨_, rfl⟩
  rw [← hKe] at hK
  rw [← hKe]
  refine e_loop2 (fun m x y => [ex fun i : Nat => pu (m + i = K ∧ y = .int .i64 (i : Int) ∧ x = .int .i64 (rv n i : Int))] ++ F) K ?_ ?_
  · exact Imp.ex 0 (.pu ⟨by omega, rfl, rfl⟩ .refl)
  · intro m ds x y
    (try simp only [List.cons_append, List.nil_append])
    refine e_ex Pick.here fun i => e_pu Pick.here fun hi => ?_
    obtain ⟨hm, rfl, rfl⟩ := hi
    (refine e_ask v_lss Imp.nil (fun h => ?_) (fun h => ?_))
    · have hik : i < K := by omega
      have hr := rv_lt n i
      have hp : 2 ^ i ≤ 2 ^ 31 := Nat.pow_le_pow_right (by omega) (by omega)
      refine e_condT ?_
      refine e_opN (v_mul (by omega) (by omega)) Imp.nil ?_
      refine e_opN v_conv Imp.nil ?_
      rw [wrapu64 (by omega)]
      refine e_opN (v_shr (by omega)) Imp.nil ?_
      rw [shrI (by omega)]
      refine e_opN v_and Imp.nil ?_
      rw [and1I, ← bit_toNat]
      have hb := Bool.toNat_le (bitI n i)
      refine e_opN (v_add (by omega) (by omega)) Imp.nil ?_
      rw [show 2 * (rv n i : Int) + ((bitI n i).toNat : Int) = (rv n (i + 1) : Int) by rw [rv_succ]; norm_cast]
      (((with_reducible refine e_opN (v_add ?h1 ?h2) Imp.nil ?_); (case h1 => omega); (case h2 => omega)))
      exact e_next2 (m - 1) (by omega) (.ex (i + 1) (.pu (by refine ⟨by omega, ?_⟩; first | trivial | norm_cast) .refl))
    · have : i = K := by omega
      subst this
      ((with_reducible refine e_condF ?_))
      (first | refine e_ret (()) rfl ?_ | refine e_retT (()) ?_)
      exact .refl
end Go.Proofs.Ytehfblkpbadikaa.B
/-! Slices that are made: of parts, of zeros. No conditions but those that each names. -/
namespace Go.Proofs.Ytehfblkpbadikaa.Sl
open Go Go.Proofs.Ytehfblkpbadikaa.Sh
variable {P : Program} {W : World} {L L' : List HP} {Kp : PK} {k : Value → WP}
theorem fill_run : ∀ (vs pre zs : List Value), zs.length = vs.length → (∀ v ∈ vs, v.cells = #[v]) →
    Instr.fill (fun i => some (i * 1, 1)) (pre ++ zs).toArray ((vs.zipIdx pre.length).map fun x => (x.2, x.1)) = some (pre ++ vs).toArray
  | [], pre, zs, hz, _ => by
    have : zs = [] := List.eq_nil_of_length_eq_zero (by simpa using hz)
    subst this; simp [Instr.fill]
  | v :: vs, pre, [], hz, _ => by simp at hz
  | v :: vs, pre, z :: zs, hz, ho => by
    have hv := ho v (by simp)
    have ih := fill_run vs (pre ++ [v]) zs (by simpa using hz) (fun u hu => ho u (by simp [hu]))
    simp only [List.zipIdx_cons, List.map_cons, Instr.fill, hv]
    rw [if_neg (by simp)]
    have h2 : Array.foldl (fun cs (x : Value × Nat) => cs.setIfInBounds (pre.length * 1 + x.2) x.1) (pre ++ z :: zs).toArray (#[v] : Array Value).zipIdx = (pre ++ [v] ++ zs).toArray := by
      simp
    have h3 : (pre ++ [v]).length = pre.length + 1 := by simp
    rw [h3] at ih
    rw [h2, ih]; simp
theorem e_bslN {t e : TypeId} {b n : Nat} {parts : List (Nat × Value)} {vs : List Value} [ht : SlT P t e 1 b] (hn : vs.length = n) (hp : parts = vs.zipIdx.map fun x => (x.2, x.1)) (ho : ∀ v ∈ vs, v.cells = #[v]) (hm : n ≤ 16777216)
    (h : ∀ g, Ent W (pt g (.cells vs.toArray e) :: L) (k (.slice (some ⟨g, 0, none⟩) n n))) : Ent W L (opN P (sBuildSl t n parts) Kp k) := fun w hw => by
  refine ⟨?_⟩
  obtain ⟨i, z, hi, hz, hs, hb, hzs⟩ := ht.info
  have : (sBuildSl t n parts).run P w = .ok (.value (.slice (some ⟨w.heap.size, 0, none⟩) n n)) (w.alloc (.cells vs.toArray e)) := by
    have hm' : ¬ (2 ^ 24 < n) := by omega
    have hf : ∀ zs : List Value, zs.length = vs.length → Instr.fill (fun i => some (i * 1, 1)) zs.toArray parts = some vs.toArray := fun zs hz => by
      have := fill_run vs [] zs hz ho
      simpa [hp] using this
    by_cases h0 : n = 0
    · have : vs = [] := List.eq_nil_of_length_eq_zero (by omega)
      subst this; subst h0
      simp [sBuildSl, Instr.buildSlice, run_underlying ht.ut, sizeOf_run hi, hs, hp, newRow, Instr.fill]
      have e0 : (Array.range 0).map (fun _ => (default : Value)) = #[] := Array.eq_empty_of_size_eq_zero (by simp)
      rw [e0]
    · have hf' := hf ((List.range n).map fun j => z.cells[j % z.cells.size]!) (by simp [hn])
      have e1 : ((Array.range n).map fun j => z.cells[j % z.cells.size]!) = ((List.range n).map fun j => z.cells[j % z.cells.size]!).toArray := by
        apply Array.ext'
        simp [Array.toList_range]
      rw [← e1] at hf'
      simp only [Nat.mul_one] at hf'
      simp [sBuildSl, Instr.buildSlice, run_underlying ht.ut, sizeOf_run hi, hs, h0, hm', zeroValue, typeInfo, hi, hz, newRow, hf']
  rw [this]
  exact h _ _ (hw.alloc _)
theorem e_mksl {t e : TypeId} {b : Nat} {z : Value} {q r : IntKind} {l c : Int} (n m : Nat) [ht : SlT P t e 1 b] [hz : ZeroT P e z] [hc : OC z] (hl : l = (n : Int)) (hcm : c = (m : Int)) (h1 : n ≤ m) (h2 : b * m ≤ 281474976710656) (h3 : m ≤ maxLen)
    (h : ∀ g, Ent W (Sl 1 e (some ⟨g, 0, none⟩) m n (List.replicate n z) :: L) (k (.slice (some ⟨g, 0, none⟩) n m))) : Ent W L (opN P (sMkSl t (.int q l) (.int r c)) Kp k) := fun w hw => by
  refine ⟨?_⟩
  obtain ⟨i, z', hi, hz', hs, hb, hzs⟩ := ht.info
  have e0 : z' = z := by
    have := hz.run w
    simp [zeroValue, typeInfo, hi, hz'] at this
    exact this
  subst e0
  subst hl; subst hcm
  have hcz : z'.cells = #[z'] := cells_one hc.one
  have hbm : (i.bytes : Int) * (m : Int) ≤ 281474976710656 := by
    rw [hb]
    obtain ⟨X, hX⟩ : ∃ X, X = b * m := ⟨_, rfl⟩
    have h4 : (X : Int) ≤ 281474976710656 := by omega
    rw [hX, Int.natCast_mul] at h4
    exact h4
  have hr := run_make (P := P) (w := w) t e i z' ht.ut hi hz' q r n m (by omega) (by omega) hbm (by unfold maxLen at h3; omega)
  simp only [Int.toNat_natCast, hs, Nat.mul_one] at hr
  have e1 : madeCells z'.cells m = (List.replicate n z' ++ List.replicate (m - n) z').toArray := by
    rw [hcz, List.replicate_append_replicate]
    apply Array.ext'
    simp [madeCells, Array.toList_range, Nat.mod_one]
    rw [show n + (m - n) = m by omega]
    apply List.ext_getElem <;> simp
  have : (sMkSl t (.int q n) (.int r m)).run P w = .ok (.value (.slice (some ⟨w.heap.size, 0, none⟩) n m)) (w.alloc (.cells (List.replicate n z' ++ List.replicate (m - n) z').toArray e)) := by
    simp [sMkSl, hr, e1]
  rw [this]
  refine h _ _ ?_
  have := hw.alloc (.cells (List.replicate n z' ++ List.replicate (m - n) z').toArray e)
  refine Imp.sat (L := pt w.heap.size (.cells (List.replicate n z' ++ List.replicate (m - n) z').toArray e) :: L) ?_ this
  exact .conv (B := pt w.heap.size (.cells (List.replicate n z' ++ List.replicate (m - n) z').toArray e)) (fun f hf => ⟨by simp, h1, h3, .inr ⟨_, List.replicate (m - n) z', rfl, by simp, hf⟩⟩) (.pick .here .refl)
end Go.Proofs.Ytehfblkpbadikaa.Sl
/-! The Writer and the Reader of the document (package gatehouseref02). No conditions but those that each names. -/
namespace Go.Proofs.Ytehfblkpbadikaa.B
open Go Go.Proofs Go.Proofs.Ytehfblkpbadikaa.Sh Go.Proofs.Ytehfblkpbadikaa.Sl Go.Proofs.Ytehfblkpbadikaa.T Go.Proofs.Ytehfblkpbadikaa.M
def bb (b : Bool) : UInt8 := if b then 1 else 0
theorem B_bb (b : Bool) : B (bb b) = .int .u8 (b.toNat : Int) := by cases b <;> rfl
/-- the document's Writer at p has the bits l -/
def IsX (p : Nat) (l : List Bool) : HP := ex fun q : Option Addr × Nat => all [pt p (.cells #[.slice q.1 l.length q.2] 59), Sl 1 5 q.1 q.2 l.length (l.map fun b => B (bb b)), pu (l.length ≤ 8388608)]
theorem xNew {W : World} {p : Nat} : Imp W [pt p (.cells #[.slice none 0 0] 59)] [IsX p []] := by
  refine .ex (none, 0) (.all ?_)
  (try simp only [List.cons_append, List.nil_append])
  exact .pick .here (imp_nil (.pu (by simp) .refl))
theorem bad_iff {n k : Int} (h1 : ¬ k < 0) (h2 : ¬ 32 < k) (h3 : ¬ n < 0) : badP n k ↔ (((2 ^ k.toNat : Nat)) : Int) ≤ n := by
  unfold badP
  have : (2 : Int) ^ k.toNat = ((2 ^ k.toNat : Nat) : Int) := by norm_cast
  rw [this]
  constructor
  · rintro (h | h | h | h)
    · omega
    · omega
    · omega
    · exact h
  · exact fun h => .inr (.inr (.inr h))
theorem xPut {W : World} {p : Nat} {l : List Bool} {n k : Int} : Cn Try.prog 56 [.pointer (some ⟨p, 0, none⟩), .int .i64 n, .int .i64 k] W [IsX p l] (fun _ : Unit => .int .i64 (putR l n k)) (fun _ => [IsX p (putL l n k)]) := by
  (refine S.ref02_Writer_Put_cn fun F => ?_; unfold S.ref02_Writer_Put; simp only [List.cons_append, List.nil_append])
  have bad : badP n k → putR l n k = 1 ∧ putL l n k = l := fun hb => by
    have hR : putR l n k = 1 := by simp [putR, hb]
    exact ⟨hR, by simp [putL, hR]⟩
  (refine e_ask v_lss Imp.nil (fun h => ?_) (fun h => ?_))
  · ((with_reducible refine e_gdF1 ?_)); ((with_reducible refine e_gdF1 ?_)); (((with_reducible refine e_opN v_pickT Imp.nil ?_))); ((with_reducible refine e_gdF1 ?_)); ((with_reducible refine e_gdF1 ?_)); (((with_reducible refine e_opN v_pickT Imp.nil ?_))); ((with_reducible refine e_gdF1 ?_)); ((with_reducible refine e_gdF1 ?_)); ((with_reducible refine e_gdF1 ?_)); ((with_reducible refine e_gdF1 ?_)); ((with_reducible refine e_gdF1 ?_)); (((with_reducible refine e_opN v_pickT Imp.nil ?_))); ((with_reducible refine e_condT ?_))
    obtain ⟨e1, e2⟩ := bad (.inl h)
    rw [e1, e2]
    (first | refine e_ret (()) rfl ?_ | refine e_retT (()) ?_)
    (repeat (first | exact Imp.refl | exact Imp.nil | (apply Imp.pick; (focus ((repeat constructor); done))) | refine Imp.drop ?_))
  have h1 := h
  ((with_reducible refine e_gdT ?_)); ((with_reducible refine e_gdT ?_))
  (refine e_ask v_gtr Imp.nil (fun h => ?_) (fun h => ?_))
  · (((with_reducible refine e_opN v_pickF Imp.nil ?_))); ((with_reducible refine e_gdF1 ?_)); ((with_reducible refine e_gdF1 ?_)); (((with_reducible refine e_opN v_pickT Imp.nil ?_))); ((with_reducible refine e_gdF1 ?_)); ((with_reducible refine e_gdF1 ?_)); ((with_reducible refine e_gdF1 ?_)); ((with_reducible refine e_gdF1 ?_)); ((with_reducible refine e_gdF1 ?_)); (((with_reducible refine e_opN v_pickT Imp.nil ?_))); ((with_reducible refine e_condT ?_))
    obtain ⟨e1, e2⟩ := bad (.inr (.inl h))
    rw [e1, e2]
    (first | refine e_ret (()) rfl ?_ | refine e_retT (()) ?_)
    (repeat (first | exact Imp.refl | exact Imp.nil | (apply Imp.pick; (focus ((repeat constructor); done))) | refine Imp.drop ?_))
  have h2 := h
  (((with_reducible refine e_opN v_pickF Imp.nil ?_))); ((with_reducible refine e_gdT ?_)); ((with_reducible refine e_gdT ?_))
  (refine e_ask v_lss Imp.nil (fun h => ?_) (fun h => ?_))
  · (((with_reducible refine e_opN v_pickF Imp.nil ?_))); ((with_reducible refine e_gdF1 ?_)); ((with_reducible refine e_gdF1 ?_)); ((with_reducible refine e_gdF1 ?_)); ((with_reducible refine e_gdF1 ?_)); ((with_reducible refine e_gdF1 ?_)); (((with_reducible refine e_opN v_pickT Imp.nil ?_))); ((with_reducible refine e_condT ?_))
    obtain ⟨e1, e2⟩ := bad (.inr (.inr (.inl h)))
    rw [e1, e2]
    (first | refine e_ret (()) rfl ?_ | refine e_retT (()) ?_)
    (repeat (first | exact Imp.refl | exact Imp.nil | (apply Imp.pick; (focus ((repeat constructor); done))) | refine Imp.drop ?_))
  have h3 := h
  (((with_reducible refine e_opN v_pickF Imp.nil ?_))); ((with_reducible refine e_gdT ?_)); ((with_reducible refine e_gdT ?_)); ((with_reducible refine e_gdT ?_))
  have hbi := bad_iff h1 h2 h3
  obtain ⟨K, rfl⟩ := Int.eq_ofNat_of_zero_le (show 0 ≤ k by omega)
  obtain ⟨N, rfl⟩ := Int.eq_ofNat_of_zero_le (show 0 ≤ n by omega)
  refine e_opN v_conv Imp.nil ?_
  rw [wrapu64 (by omega)]
  ((with_reducible refine e_gdT ?_))
  refine e_opN (v_shl (by omega)) Imp.nil ?_
  have hm : min ((K : Int)).toNat IntKind.i64.bits = K := by simp only [IntKind.bits, Int.toNat_natCast]; omega
  have h32 : 2 ^ K ≤ 2 ^ 32 := Nat.pow_le_pow_right (by omega) (by omega)
  have hc : (2 : Int) ^ K = ((2 ^ K : Nat) : Int) := by norm_cast
  rw [Int.toNat_natCast] at hbi
  obtain ⟨E, hE⟩ : ∃ E, E = 2 ^ K := ⟨_, rfl⟩
  rw [← hE] at hc h32 hbi
  rw [hm, Int.one_mul, hc, w64 (by omega) (by omega)]
  ((with_reducible refine e_gdT ?_))
  (refine e_ask v_geq Imp.nil (fun h => ?_) (fun h => ?_))
  · (((with_reducible refine e_opN v_pickF Imp.nil ?_))); ((with_reducible refine e_condT ?_))
    obtain ⟨e1, e2⟩ := bad (hbi.2 h)
    rw [e1, e2]
    (first | refine e_ret (()) rfl ?_ | refine e_retT (()) ?_)
    (repeat (first | exact Imp.refl | exact Imp.nil | (apply Imp.pick; (focus ((repeat constructor); done))) | refine Imp.drop ?_))
  have h4 := h
  have hb : ¬ badP N K := fun c => h4 (hbi.1 c)
  refine e_ex Pick.here fun q => ?_
  obtain ⟨qa, qc⟩ := q
  refine e_all Pick.here ?_
  (try simp only [List.cons_append, List.nil_append])
  refine e_pu (.there (.there .here)) fun hL => ?_
  (((with_reducible refine e_opN v_pickF Imp.nil ?_))); ((with_reducible refine e_condF ?_)); (((with_reducible refine e_opN v_nil Imp.nil ?_))); (((with_reducible refine e_opN v_fa0 Imp.nil ?_))); (((with_reducible refine' e_opN (v_ldN ?hc) ?hi ?_); (case hi => (repeat (first | exact Imp.refl | exact Imp.nil | (apply Imp.pick; (focus ((repeat constructor); done))) | refine Imp.drop ?_))); (case hc => (repeat (first | exact Nth.here | apply Nth.there))))); (((with_reducible refine e_opN v_len Imp.nil ?_))); (((with_reducible refine e_opN (v_sub ?h1 ?h2) Imp.nil ?_); (case h1 => omega); (case h2 => omega)))
  (refine e_ask v_gtr Imp.nil (fun h => ?_) (fun h => ?_))
  · ((with_reducible refine e_condT ?_))
    have hR : putR l N K = 6 := by simp [putR, hb, h]
    rw [hR, show putL l N K = l by simp [putL, hR]]
    (first | refine e_ret (()) rfl ?_ | refine e_retT (()) ?_)
    refine .ex (qa, qc) (.all ?_)
    (try simp only [List.cons_append, List.nil_append])
    exact .pick .here (.pick .here (.pu hL .refl))
  have h5 := h
  ((with_reducible refine e_condF ?_))
  have hR : putR l N K = 0 := by simp [putR, hb, h5]
  have hPL : putL l N K = l ++ bitsOf N K := by simp [putL, hR]
  rw [hR, hPL]
  have hN : N < 4294967296 := by omega
  clear hR hPL hb bad hbi
  refine e_loop1 (fun m y => [ex fun i : Nat => all [pu (m + i = K ∧ y = .int .i64 (i : Int)), IsX p (l ++ bitsOf N i)]] ++ F) K ?_ ?_
  · refine Imp.ex 0 (.all ?_)
    (try simp only [List.cons_append, List.nil_append])
    refine .pu (by refine ⟨by omega, ?_⟩; first | trivial | rfl) (.ex (qa, qc) (.all ?_))
    (try simp only [List.cons_append, List.nil_append])
    rw [show l ++ bitsOf N 0 = l by simp [bitsOf]]
    exact .pick .here (.pick .here (.pu hL .refl))
  · intro m ds y
    (try simp only [List.cons_append, List.nil_append])
    refine e_ex Pick.here fun i => e_all Pick.here ?_
    (try simp only [List.cons_append, List.nil_append])
    refine e_pu Pick.here fun hi => ?_
    obtain ⟨hmi, rfl⟩ := hi
    obtain ⟨L, hLe⟩ : ∃ L, L = l ++ bitsOf N i := ⟨_, rfl⟩
    have hLl : L.length = l.length + i := by rw [hLe, List.length_append, length_bitsOf]
    rw [← hLe]
    (refine e_ask v_lss Imp.nil (fun h => ?_) (fun h => ?_))
    · have hik : i < K := by omega
      refine e_ex Pick.here fun q2 => ?_
      obtain ⟨xa, xc⟩ := q2
      refine e_all Pick.here ?_
      (try simp only [List.cons_append, List.nil_append])
      refine e_pu (.there (.there .here)) fun hL2 => ?_
      ((with_reducible refine e_condT ?_)); (((with_reducible refine e_opN v_nil Imp.nil ?_))); (((with_reducible refine e_opN v_fa0 Imp.nil ?_))); (((with_reducible refine' e_opN (v_ldN ?hc) ?hi ?_); (case hi => (repeat (first | exact Imp.refl | exact Imp.nil | (apply Imp.pick; (focus ((repeat constructor); done))) | refine Imp.drop ?_))); (case hc => (repeat (first | exact Nth.here | apply Nth.there)))))
      refine e_opN v_conv Imp.nil ?_
      rw [wrapu64 (by omega)]
      refine e_opN (v_shr (by omega)) Imp.nil ?_
      rw [shr_nat (by omega)]
      refine e_opN v_and Imp.nil ?_
      have hdiv : N / 2 ^ i ≤ N := Nat.div_le_self _ _
      rw [and1 (by omega), testBit_mod]
      refine e_opN v_conv Imp.nil ?_
      have hbt := Bool.toNat_le (N.testBit i)
      rw [wrap8 (by omega), ← B_bb]
      (((with_reducible refine e_bsl1 fun g => ?_)))
      refine e_app (m := 1) (news := [B (bb (N.testBit i))]) (.there (.there .here)) (src_pt (e' := 5) (by kernel_rfl) .here (by rfl) (B_one (l := [bb (N.testBit i)]))) (by omega) (by omega) fun a' c' => ?_
      (((with_reducible refine e_opN v_nil Imp.nil ?_))); (((with_reducible refine e_opN v_fa0 Imp.nil ?_))); (((with_reducible refine' e_stN ?hp ?ho ?_); (case hp => (repeat constructor)); (case ho => (repeat (first | exact Put.here | apply Put.there))))); (((with_reducible refine e_opN (v_add ?h1 ?h2) Imp.nil ?_); (case h1 => omega); (case h2 => omega)))
      refine e_next1 (m - 1) (by omega) (.ex (i + 1) (.all ?_))
      (try simp only [List.cons_append, List.nil_append])
      refine .pu (by refine ⟨by omega, ?_⟩; first | trivial | norm_cast) (.ex (a', c') (.all ?_))
      (try simp only [List.cons_append, List.nil_append])
      have e1 : l ++ bitsOf N (i + 1) = L ++ [N.testBit i] := by rw [hLe, bitsOf_succ, List.append_assoc]
      rw [e1]
      simp only [List.length_append, List.length_singleton, List.map_append, List.map_cons, List.map_nil]
      exact .pick (by (repeat constructor)) (.pick (by (repeat constructor)) (.pu (by omega) (by (repeat (first | exact Imp.refl | exact Imp.nil | (apply Imp.pick; (focus ((repeat constructor); done))) | refine Imp.drop ?_)))))
    · have : i = K := by omega
      subst this
      ((with_reducible refine e_condF ?_))
      (first | refine e_ret (()) rfl ?_ | refine e_retT (()) ?_)
      rw [← hLe]
      (repeat (first | exact Imp.refl | exact Imp.nil | (apply Imp.pick; (focus ((repeat constructor); done))) | refine Imp.drop ?_))
def pz (L : List Bool) (i : Nat) : List UInt8 := (List.range ((L.length + 7) / 8)).map fun j => UInt8.ofNat (byteAt (L.take i) j)
theorem length_pz (L : List Bool) (i : Nat) : (pz L i).length = (L.length + 7) / 8 := by simp [pz]
theorem pz_zero (L : List Bool) : (pz L 0).map B = List.replicate ((L.length + 7) / 8) (.int .u8 0) := by
  apply List.ext_getElem
  · simp [pz]
  · intro i h1 h2
    simp [pz, byteAt, val]
    rfl
theorem pz_last (L : List Bool) : pz L L.length = pk L := by simp [pz, pk, pkn]
theorem pz_get {L : List Bool} {i : Nat} (h : i < L.length) : (pz L i)[i / 8]? = some (UInt8.ofNat (byteAt (L.take i) (i / 8))) := by
  unfold pz
  rw [List.getElem?_map, List.getElem?_range (by omega)]; rfl
theorem byteAt_snoc_gt {L : List Bool} {b : Bool} {i : Nat} (h : L.length / 8 < i) : byteAt (L ++ [b]) i = byteAt L i := by
  unfold byteAt
  rw [List.drop_eq_nil_of_le (by simp; omega), List.drop_eq_nil_of_le (by omega)]
theorem pz_succ {L : List Bool} {i : Nat} (h : i < L.length) : pz L (i + 1) = (pz L i).set (i / 8) (UInt8.ofNat (byteAt (L.take i) (i / 8) + 2 ^ (i % 8) * L[i].toNat)) := by
  have ht : L.take (i + 1) = L.take i ++ [L[i]] := List.take_succ_eq_append_getElem h
  have hl : (L.take i).length = i := by rw [List.length_take]; omega
  apply List.ext_getElem?
  intro j
  unfold pz
  rw [ht, List.getElem?_set]
  simp only [List.length_map, List.length_range, List.getElem?_map]
  by_cases h1 : i / 8 = j
  · subst h1
    rw [if_pos rfl, if_pos (by omega), List.getElem?_range (by omega)]
    have := byteAt_snoc_eq (L := L.take i) (b := L[i])
    rw [hl] at this
    rw [Option.map_some, this]
  · rw [if_neg h1]
    by_cases hj : j < (L.length + 7) / 8
    · rw [List.getElem?_range hj]
      simp only [Option.map_some]
      rcases Nat.lt_or_ge j (i / 8) with c | c
      · rw [byteAt_snoc_lt (by rw [hl]; exact c)]
      · rw [byteAt_snoc_gt (by rw [hl]; omega)]
    · rw [List.getElem?_eq_none (by simp; omega)]; rfl
theorem or8b {a r : Nat} {b : Bool} (hr : r < 8) (h : a < 2 ^ r) : bitOp .or .u8 (a : Int) ((b.toNat * 2 ^ r : Nat) : Int) = ((a + 2 ^ r * b.toNat : Nat) : Int) := by
  cases b with
  | true => simpa using or8 hr h
  | false =>
    have hp : 2 ^ r ≤ 128 := by
      have : 2 ^ r ≤ 2 ^ 7 := Nat.pow_le_pow_right (by omega) (by omega)
      simpa using this
    unfold bitOp
    have h1 : (BitVec.ofInt IntKind.u8.bits (a : Int)).toNat = a := by
      rw [BitVec.ofInt_natCast, BitVec.toNat_ofNat]; exact Nat.mod_eq_of_lt (by simp only [IntKind.bits]; omega)
    simp only [Bool.toNat_false, Nat.zero_mul, Nat.mul_zero, Nat.add_zero]
    have h2 : (BitVec.ofInt IntKind.u8.bits ((0 : Nat) : Int)).toNat = 0 := by decide
    simp only [BitVec.toNat_or, h1, h2, Nat.or_zero]
    exact wrap8 (by omega)
theorem xBytes {W : World} {p : Nat} {l : List Bool} : Cn Try.prog 34 [.pointer (some ⟨p, 0, none⟩)] W [IsX p l] (fun q : Option Addr × Nat => .slice q.1 (pk l).length q.2) (fun q => [Sl 1 5 q.1 q.2 (pk l).length ((pk l).map B), IsX p l]) := by
  (refine S.ref02_Writer_Bytes_cn fun F => ?_; unfold S.ref02_Writer_Bytes; simp only [List.cons_append, List.nil_append])
  refine e_ex Pick.here fun q => ?_
  obtain ⟨qa, qc⟩ := q
  refine e_all Pick.here ?_
  (try simp only [List.cons_append, List.nil_append])
  refine e_pu (.there (.there .here)) fun hL => ?_
  have hpk := length_pk l
  (((with_reducible refine e_opN v_nil Imp.nil ?_))); (((with_reducible refine e_opN v_fa0 Imp.nil ?_))); (((with_reducible refine' e_opN (v_ldN ?hc) ?hi ?_); (case hi => (repeat (first | exact Imp.refl | exact Imp.nil | (apply Imp.pick; (focus ((repeat constructor); done))) | refine Imp.drop ?_))); (case hc => (repeat (first | exact Nth.here | apply Nth.there))))); (((with_reducible refine e_opN v_len Imp.nil ?_))); (((with_reducible refine e_opN (v_add ?h1 ?h2) Imp.nil ?_); (case h1 => omega); (case h2 => omega))); (((with_reducible refine e_opN (v_quo ?h1 ?h2 ?h3) Imp.nil ?_); (case h1 => omega); (case h2 => omega); (case h3 => omega)))
  refine e_mksl ((l.length + 7) / 8) ((l.length + 7) / 8) (by norm_cast) (by norm_cast) (by omega) (by omega) (by unfold maxLen; omega) fun g => ?_
  rw [← pz_zero]
  refine e_loop1 (fun m y => [ex fun i : Nat => all [pu (m + i = l.length ∧ y = .int .i64 (i : Int)), Sl 1 5 (some ⟨g, 0, none⟩) ((l.length + 7) / 8) ((l.length + 7) / 8) ((pz l i).map B), pt p (.cells #[.slice qa l.length qc] 59), Sl 1 5 qa qc l.length (l.map fun b => B (bb b))]] ++ F) l.length ?_ ?_
  · refine Imp.ex 0 (.all ?_)
    (try simp only [List.cons_append, List.nil_append])
    refine .pu (by refine ⟨by omega, ?_⟩; first | trivial | rfl) ?_
    (repeat (first | exact Imp.refl | exact Imp.nil | (apply Imp.pick; (focus ((repeat constructor); done))) | refine Imp.drop ?_))
  · intro m ds y
    (try simp only [List.cons_append, List.nil_append])
    refine e_ex Pick.here fun i => e_all Pick.here ?_
    (try simp only [List.cons_append, List.nil_append])
    refine e_pu Pick.here fun hi => ?_
    obtain ⟨hmi, rfl⟩ := hi
    (((with_reducible refine e_opN v_nil Imp.nil ?_))); (((with_reducible refine e_opN v_fa0 Imp.nil ?_))); (((with_reducible refine' e_opN (v_ldN ?hc) ?hi ?_); (case hi => (repeat (first | exact Imp.refl | exact Imp.nil | (apply Imp.pick; (focus ((repeat constructor); done))) | refine Imp.drop ?_))); (case hc => (repeat (first | exact Nth.here | apply Nth.there))))); (((with_reducible refine e_opN v_len Imp.nil ?_)))
    (refine e_ask v_lss Imp.nil (fun h => ?_) (fun h => ?_))
    · have hil : i < l.length := by omega
      refine e_slsome (.there (.there .here)) (by omega) fun g2 hg2 => ?_
      subst hg2
      ((with_reducible refine e_condT ?_)); ((with_reducible refine e_drS ?_)); (((with_reducible refine e_stS (v_quo ?h1 ?h2 ?h3) Imp.nil ?_); (case h1 => omega); (case h2 => omega); (case h3 => omega))); (((with_reducible refine e_stS (v_quo ?h1 ?h2 ?h3) Imp.nil ?_); (case h1 => omega); (case h2 => omega); (case h3 => omega)))
      refine e_stS (v_ia1 (i / 8) (by norm_cast) (by omega)) Imp.nil ?_
      refine e_stS (v_ldSl (v := B (UInt8.ofNat (byteAt (l.take i) (i / 8)))) (by rw [Nat.zero_add, List.getElem?_map, pz_get hil]; rfl)) (.pick .here .nil) ?_
      (((with_reducible refine e_stS v_nil Imp.nil ?_))); (((with_reducible refine e_stS v_fa0 Imp.nil ?_))); (((with_reducible refine' e_stS (v_ldN ?hc) ?hi ?_); (case hi => (repeat (first | exact Imp.refl | exact Imp.nil | (apply Imp.pick; (focus ((repeat constructor); done))) | refine Imp.drop ?_))); (case hc => (repeat (first | exact Nth.here | apply Nth.there)))))
      refine e_stS (v_ia1 i (by norm_cast) (by omega)) Imp.nil ?_
      refine e_stS (v_ldSl (v := B (bb l[i])) (by rw [Nat.zero_add, List.getElem?_map, List.getElem?_eq_getElem hil]; rfl)) (.pick (.there (.there .here)) .nil) ?_
      (((with_reducible refine e_stS (v_rem ?h1 ?h2) Imp.nil ?_); (case h1 => omega); (case h2 => omega)))
      refine e_stS v_conv Imp.nil ?_
      rw [show ((i : Int) % 8) = ((i % 8 : Nat) : Int) by norm_cast, wrapu64 (by omega), B_bb]
      refine e_stS (v_shl (by omega)) Imp.nil ?_
      have hmin : min (((i % 8 : Nat) : Int)).toNat IntKind.u8.bits = i % 8 := by simp only [IntKind.bits, Int.toNat_natCast]; omega
      have hp : 2 ^ (i % 8) ≤ 2 ^ 7 := Nat.pow_le_pow_right (by omega) (by omega)
      have hcc : (l[i].toNat : Int) * 2 ^ (i % 8) = ((l[i].toNat * 2 ^ (i % 8) : Nat) : Int) := by norm_cast
      have hle : l[i].toNat * 2 ^ (i % 8) ≤ 2 ^ (i % 8) := by cases l[i] <;> simp
      obtain ⟨E, hE⟩ : ∃ E, E = l[i].toNat * 2 ^ (i % 8) := ⟨_, rfl⟩
      rw [hmin, hcc, ← hE, wrap8 (by omega)]
      rw [B_ofNat (byteAt_lt _ _)]
      refine e_stS v_or Imp.nil ?_
      have hlast : byteAt (l.take i) (i / 8) < 2 ^ (i % 8) := by
        have := byteAt_last (l.take i)
        rwa [List.length_take, Nat.min_eq_left (by omega)] at this
      rw [hE, or8b (by omega) hlast]
      refine e_stS (v_ia1 (i / 8) (by norm_cast) (by omega)) Imp.nil ?_
      have e4 : byteAt (l.take i) (i / 8) + 2 ^ (i % 8) * l[i].toNat < 256 := by
        have := byteAt_lt (l.take (i + 1)) (i / 8)
        rw [List.take_succ_eq_append_getElem hil] at this
        have e5 := byteAt_snoc_eq (L := l.take i) (b := l[i])
        rw [List.length_take, Nat.min_eq_left (by omega)] at e5
        rwa [e5] at this
      refine e_stSl .here (by simp [length_pz]; omega) ?_
      rw [← B_ofNat e4, Nat.zero_add, ← List.map_set, ← pz_succ hil]
      (((with_reducible refine e_opN (v_add ?h1 ?h2) Imp.nil ?_); (case h1 => omega); (case h2 => omega)))
      refine e_next1 (m - 1) (by omega) (.ex (i + 1) (.all ?_))
      (try simp only [List.cons_append, List.nil_append])
      refine .pu (by refine ⟨by omega, ?_⟩; first | trivial | norm_cast) ?_
      (repeat (first | exact Imp.refl | exact Imp.nil | (apply Imp.pick; (focus ((repeat constructor); done))) | refine Imp.drop ?_))
    · have : i = l.length := by omega
      subst this
      ((with_reducible refine e_condF ?_))
      rw [pz_last]
      refine e_ret (some ⟨g, 0, none⟩, (l.length + 7) / 8) (by rw [hpk]) ?_
      rw [hpk]
      refine .pick .here (.ex (qa, qc) (.all ?_))
      (try simp only [List.cons_append, List.nil_append])
      exact .pick .here (.pick .here (.pu hL .refl))
end Go.Proofs.Ytehfblkpbadikaa.B
/-! The document's Reader, and the program's Raw. No conditions but those that each names. -/
namespace Go.Proofs.Ytehfblkpbadikaa.B
open Go Go.Proofs Go.Proofs.Ytehfblkpbadikaa.Sh Go.Proofs.Ytehfblkpbadikaa.Sl Go.Proofs.Ytehfblkpbadikaa.T Go.Proofs.Ytehfblkpbadikaa.M
theorem RdB.none {W : World} {A : HP} {a : Option Addr} {n : Nat} {cs : List Value} (h : RdB W A a n cs) (c : a = none) : n = 0 := by
  rcases Nat.eq_zero_or_pos n with z | z
  · exact z
  · obtain ⟨_, _, e, _⟩ := h.at_ z
    rw [c] at e; cases e
/-- the document's Reader at p -/
def IsQ (p : Nat) (b : List UInt8) (at_ : Nat) : HP := ex fun q : Option Addr × Nat => all [pt p (.cells #[.slice q.1 b.length q.2, .int .i64 (at_ : Int)] 117), Sl 1 5 q.1 q.2 b.length (b.map B), pu (at_ ≤ 8 * b.length ∧ b.length ≤ 140737488355328)]
def rrR (b : List UInt8) (at_ : Nat) (n : Int) : Int := if n < 0 then 1 else if (b.length : Int) - ((at_ + 7) / 8 : Nat) < n then 20 else 0
def rrB (b : List UInt8) (at_ : Nat) (n : Int) : List UInt8 := if rrR b at_ n = 0 then (b.drop ((at_ + 7) / 8)).take n.toNat else []
def rrAt (b : List UInt8) (at_ : Nat) (n : Int) : Nat := if rrR b at_ n = 0 then 8 * ((at_ + 7) / 8 + n.toNat) else at_
theorem rraw {W : World} {p at_ : Nat} {b : List UInt8} {n : Int} : Cn Try.prog 85 [.pointer (some ⟨p, 0, none⟩), .int .i64 n] W [IsR p b at_] (fun q : Option Addr × Nat => .tuple #[.slice q.1 (rrB b at_ n).length q.2, .int .i64 (rrR b at_ n)]) (fun q => [Sl 1 5 q.1 q.2 (rrB b at_ n).length ((rrB b at_ n).map B), IsR p b (rrAt b at_ n)]) := by
  (refine S.bits_Reader_Raw_cn fun F => ?_; unfold S.bits_Reader_Raw; simp only [List.cons_append, List.nil_append])
  refine e_ex Pick.here fun q => ?_
  obtain ⟨qa, qc⟩ := q
  refine e_all Pick.here ?_
  (try simp only [List.cons_append, List.nil_append])
  refine e_pu (.there (.there .here)) fun hL => ?_
  (refine' e_call (rnone_some) ?hp fun _ => ?_; (case hp => (repeat (first | exact Picks.nil | (apply Picks.cons; (focus (repeat constructor)))))); (try simp only [List.cons_append, List.nil_append, Bool.not_true, Bool.not_false]))
  ((with_reducible refine e_gdT ?_)); ((with_reducible refine e_gdT ?_))
  (refine e_ask v_lss Imp.nil (fun h => ?_) (fun h => ?_))
  · have hR : rrR b at_ n = 1 := by simp [rrR, h]
    have hB : rrB b at_ n = [] := by simp [rrB, hR]
    have hA : rrAt b at_ n = at_ := by simp [rrAt, hR]
    rw [hR, hB, hA]
    (((with_reducible refine e_opN v_pickF Imp.nil ?_))); ((with_reducible refine e_condT ?_))
    (first | refine e_ret ((none, 0)) rfl ?_ | refine e_retT ((none, 0)) ?_)
    refine imp_nil (.ex (qa, qc) (.all ?_))
    (try simp only [List.cons_append, List.nil_append])
    exact .pick .here (.pick .here (.pu hL .refl))
  · (((with_reducible refine e_opN v_pickF Imp.nil ?_))); ((with_reducible refine e_condF ?_)); (((with_reducible refine e_opN v_nil Imp.nil ?_))); (((with_reducible refine e_opN v_fa0 Imp.nil ?_))); (((with_reducible refine e_opN v_fa0 Imp.nil ?_))); (((with_reducible refine' e_opN (v_ldN ?hc) ?hi ?_); (case hi => (repeat (first | exact Imp.refl | exact Imp.nil | (apply Imp.pick; (focus ((repeat constructor); done))) | refine Imp.drop ?_))); (case hc => (repeat (first | exact Nth.here | apply Nth.there))))); (((with_reducible refine e_opN (v_add ?h1 ?h2) Imp.nil ?_); (case h1 => omega); (case h2 => omega))); (((with_reducible refine e_opN (v_quo ?h1 ?h2 ?h3) Imp.nil ?_); (case h1 => omega); (case h2 => omega); (case h3 => omega))); (((with_reducible refine e_opN v_nil Imp.nil ?_))); (((with_reducible refine e_opN v_fa0 Imp.nil ?_))); (((with_reducible refine e_opN v_fa0 Imp.nil ?_))); (((with_reducible refine' e_opN (v_ldN ?hc) ?hi ?_); (case hi => (repeat (first | exact Imp.refl | exact Imp.nil | (apply Imp.pick; (focus ((repeat constructor); done))) | refine Imp.drop ?_))); (case hc => (repeat (first | exact Nth.here | apply Nth.there))))); (((with_reducible refine e_opN v_len Imp.nil ?_))); (((with_reducible refine e_opN (v_sub ?h1 ?h2) Imp.nil ?_); (case h1 => omega); (case h2 => omega)))
    have h0 := h
    (refine e_ask v_gtr Imp.nil (fun h => ?_) (fun h => ?_))
    · have hR : rrR b at_ n = 20 := by rw [rrR, if_neg h0, if_pos (by push_cast; omega)]
      have hB : rrB b at_ n = [] := by simp [rrB, hR]
      have hA : rrAt b at_ n = at_ := by simp [rrAt, hR]
      rw [hR, hB, hA]
      ((with_reducible refine e_condT ?_))
      (first | refine e_ret ((none, 0)) rfl ?_ | refine e_retT ((none, 0)) ?_)
      refine imp_nil (.ex (qa, qc) (.all ?_))
      (try simp only [List.cons_append, List.nil_append])
      exact .pick .here (.pick .here (.pu hL .refl))
    · have hR : rrR b at_ n = 0 := by rw [rrR, if_neg h0, if_neg (by push_cast; omega)]
      obtain ⟨N, rfl⟩ := Int.eq_ofNat_of_zero_le (show 0 ≤ n by omega)
      have hB : rrB b at_ N = (b.drop ((at_ + 7) / 8)).take N := by simp [rrB, hR]
      have hA : rrAt b at_ N = 8 * ((at_ + 7) / 8 + N) := by simp [rrAt, hR]
      have hN : (at_ + 7) / 8 + N ≤ b.length := by omega
      have hBl : (rrB b at_ N).length = N := by rw [hB, List.length_take, List.length_drop]; omega
      rw [hR, hA]
      refine e_slfacts (.there .here) fun f1 f2 f3 f4 => ?_
      ((with_reducible refine e_condF ?_)); (((with_reducible refine e_opN (v_add ?h1 ?h2) Imp.nil ?_); (case h1 => omega); (case h2 => omega))); (((with_reducible refine e_opN (v_mul ?h1 ?h2) Imp.nil ?_); (case h1 => omega); (case h2 => omega))); (((with_reducible refine e_opN v_nil Imp.nil ?_))); (((with_reducible refine e_opN v_fa0 Imp.nil ?_))); (((with_reducible refine e_opN v_fa0 Imp.nil ?_))); (((with_reducible refine' e_stN ?hp ?ho ?_); (case hp => (repeat constructor)); (case ho => (repeat (first | exact Put.here | apply Put.there))))); (((with_reducible refine e_opN v_nil Imp.nil ?_))); (((with_reducible refine e_opN v_fa0 Imp.nil ?_))); (((with_reducible refine e_opN v_fa0 Imp.nil ?_))); (((with_reducible refine' e_opN (v_ldN ?hc) ?hi ?_); (case hi => (repeat (first | exact Imp.refl | exact Imp.nil | (apply Imp.pick; (focus ((repeat constructor); done))) | refine Imp.drop ?_))); (case hc => (repeat (first | exact Nth.here | apply Nth.there))))); (((with_reducible refine e_opN (v_add ?h1 ?h2) Imp.nil ?_); (case h1 => omega); (case h2 => omega)))
      refine e_opN (v_sl2 ((at_ + 7) / 8) ((at_ + 7) / 8 + N) (by norm_cast) (by norm_cast) (by omega) (by omega)) Imp.nil ?_
      have hcut := (rd_sl (W := W) (e := 5) (cap := qc) (cs := b.map B) (by simp) f4).cut (cap := qc) (l := (at_ + 7) / 8) (h := (at_ + 7) / 8 + N) (by omega) (by omega) (by omega)
      refine e_nil (s := 1) (e := 5) ?_
      refine e_app (m := (at_ + 7) / 8 + N - (at_ + 7) / 8) .here (src_rd (e' := 5) (by kernel_rfl) (.there (.there .here)) hcut (RdB.none hcut) (fun u hu => B_one u (List.mem_of_mem_drop (List.mem_of_mem_take hu)))) (by omega) (by omega) fun a' c' => ?_
      rw [List.nil_append, Nat.zero_add, Nat.add_sub_cancel_left, ← List.map_drop, ← List.map_take, ← hB]
      refine e_ret (a', c') (by rw [hBl]) ?_
      rw [hBl]
      refine .pick (by (repeat constructor)) (.ex (qa, qc) (.all ?_))
      (try simp only [List.cons_append, List.nil_append])
      rw [show ((8 * ((at_ + 7) / 8 + N) : Nat) : Int) = 8 * (((at_ : Int) + 7) / 8 + N) by norm_cast]
      exact .pick (by (repeat constructor)) (.pick (by (repeat constructor)) (.pu (by omega) .refl))
theorem rrB_le (b : List UInt8) (t : Nat) (n : Int) : (rrB b t n).length ≤ b.length := by
  unfold rrB; split <;> simp <;> omega
theorem newQ {W : World} {a : Option Addr} {cap : Nat} {b : List UInt8} {A : HP} (hr : RdB W A a b.length (b.map B)) (ha : a = none → b.length = 0) (hb : b.length ≤ 140737488355328) :
    Cn Try.prog 38 [.slice a b.length cap] W [A] (fun p : Nat => .pointer (some ⟨p, 0, none⟩)) (fun p => [IsQ p b 0, A]) := by
  (refine S.ref02_NewReader_cn fun F => ?_; unfold S.ref02_NewReader; simp only [List.cons_append, List.nil_append])
  refine e_bslN (vs := []) rfl rfl (by simp) (by omega) fun g0 => ?_
  refine e_own (s := 1) (n := 0) .here (by rfl) (by unfold maxLen; omega) ?_
  refine e_app (m := b.length) (news := b.map B) .here (src_rd (A := A) (e' := 5) (by kernel_rfl) (.there .here) hr ha B_one) (by omega) (by omega) fun a' c' => ?_
  rw [Nat.zero_add, List.nil_append]
  (((with_reducible refine e_opN v_rv Imp.nil ?_))); (((with_reducible refine e_boxA fun g => ?_)))
  refine e_ret g rfl ?_
  refine .ex (a', c') (.all ?_)
  (try simp only [List.cons_append, List.nil_append])
  exact .pick .here (.pick .here (.pu ⟨by omega, hb⟩ (.pick .here .refl)))
theorem qleft {W : World} {p at_ : Nat} {b : List UInt8} : Cn Try.prog 42 [.pointer (some ⟨p, 0, none⟩)] W [IsQ p b at_] (fun _ : Unit => .int .i64 (8 * (b.length : Int) - at_)) (fun _ => [IsQ p b at_]) := by
  (refine S.ref02_Reader_Left_cn fun F => ?_; unfold S.ref02_Reader_Left; simp only [List.cons_append, List.nil_append])
  refine e_ex Pick.here fun q => ?_
  obtain ⟨qa, qc⟩ := q
  refine e_all Pick.here ?_
  (try simp only [List.cons_append, List.nil_append])
  refine e_pu (.there (.there .here)) fun hL => ?_
  ((with_reducible refine e_drS ?_)); (((with_reducible refine e_stS v_nil Imp.nil ?_))); (((with_reducible refine e_stS v_fa0 Imp.nil ?_))); (((with_reducible refine' e_stS (v_ldN ?hc) ?hi ?_); (case hi => (repeat (first | exact Imp.refl | exact Imp.nil | (apply Imp.pick; (focus ((repeat constructor); done))) | refine Imp.drop ?_))); (case hc => (repeat (first | exact Nth.here | apply Nth.there))))); (((with_reducible refine e_stS v_len Imp.nil ?_))); (((with_reducible refine e_stS (v_mul ?h1 ?h2) Imp.nil ?_); (case h1 => omega); (case h2 => omega))); (((with_reducible refine e_stS v_nil Imp.nil ?_))); (((with_reducible refine e_stS v_fa0 Imp.nil ?_))); (((with_reducible refine' e_stS (v_ldN ?hc) ?hi ?_); (case hi => (repeat (first | exact Imp.refl | exact Imp.nil | (apply Imp.pick; (focus ((repeat constructor); done))) | refine Imp.drop ?_))); (case hc => (repeat (first | exact Nth.here | apply Nth.there))))); (((with_reducible refine e_stS (v_sub ?h1 ?h2) Imp.nil ?_); (case h1 => omega); (case h2 => omega)))
  (first | refine e_ret (()) rfl ?_ | refine e_retT (()) ?_)
  refine .ex (qa, qc) (.all ?_)
  (try simp only [List.cons_append, List.nil_append])
  exact .pick .here (.pick .here (.pu hL .refl))
theorem qalign {W : World} {p at_ : Nat} {b : List UInt8} : Cn Try.prog 92 [.pointer (some ⟨p, 0, none⟩)] W [IsQ p b at_] (fun _ : Unit => .tuple #[]) (fun _ => [IsQ p b ((at_ + 7) / 8 * 8)]) := by
  (refine S.ref02_Reader_Align_cn fun F => ?_; unfold S.ref02_Reader_Align; simp only [List.cons_append, List.nil_append])
  refine e_ex Pick.here fun q => ?_
  obtain ⟨qa, qc⟩ := q
  refine e_all Pick.here ?_
  (try simp only [List.cons_append, List.nil_append])
  refine e_pu (.there (.there .here)) fun hL => ?_
  (((with_reducible refine e_opN v_nil Imp.nil ?_))); (((with_reducible refine e_opN v_fa0 Imp.nil ?_))); (((with_reducible refine' e_opN (v_ldN ?hc) ?hi ?_); (case hi => (repeat (first | exact Imp.refl | exact Imp.nil | (apply Imp.pick; (focus ((repeat constructor); done))) | refine Imp.drop ?_))); (case hc => (repeat (first | exact Nth.here | apply Nth.there))))); (((with_reducible refine e_opN (v_add ?h1 ?h2) Imp.nil ?_); (case h1 => omega); (case h2 => omega))); (((with_reducible refine e_opN (v_quo ?h1 ?h2 ?h3) Imp.nil ?_); (case h1 => omega); (case h2 => omega); (case h3 => omega))); (((with_reducible refine e_opN (v_mul ?h1 ?h2) Imp.nil ?_); (case h1 => omega); (case h2 => omega))); (((with_reducible refine e_opN v_nil Imp.nil ?_))); (((with_reducible refine e_opN v_fa0 Imp.nil ?_))); (((with_reducible refine' e_stN ?hp ?ho ?_); (case hp => (repeat constructor)); (case ho => (repeat (first | exact Put.here | apply Put.there)))))
  (first | refine e_ret (()) rfl ?_ | refine e_retT (()) ?_)
  refine .ex (qa, qc) (.all ?_)
  (try simp only [List.cons_append, List.nil_append])
  rw [show (((at_ + 7) / 8 * 8 : Nat) : Int) = ((at_ : Int) + 7) / 8 * 8 by norm_cast]
  exact .pick .here (.pick .here (.pu ⟨by omega, hL.2⟩ .refl))
theorem qraw {W : World} {p at_ : Nat} {b : List UInt8} {n : Int} : Cn Try.prog 93 [.pointer (some ⟨p, 0, none⟩), .int .i64 n] W [IsQ p b at_] (fun q : Option Addr × Nat => .tuple #[.slice q.1 (rrB b at_ n).length q.2, .int .i64 (rrR b at_ n)]) (fun q => [Sl 1 5 q.1 q.2 (rrB b at_ n).length ((rrB b at_ n).map B), IsQ p b (rrAt b at_ n)]) := by
  (refine S.ref02_Reader_Raw_cn fun F => ?_; unfold S.ref02_Reader_Raw; simp only [List.cons_append, List.nil_append])
  refine e_ex Pick.here fun q => ?_
  obtain ⟨qa, qc⟩ := q
  refine e_all Pick.here ?_
  (try simp only [List.cons_append, List.nil_append])
  refine e_pu (.there (.there .here)) fun hL => ?_
  (refine e_ask v_lss Imp.nil (fun h => ?_) (fun h => ?_))
  · have hR : rrR b at_ n = 1 := by simp [rrR, h]
    have hB : rrB b at_ n = [] := by simp [rrB, hR]
    have hA : rrAt b at_ n = at_ := by simp [rrAt, hR]
    rw [hR, hB, hA]
    ((with_reducible refine e_condT ?_))
    (first | refine e_ret ((none, 0)) rfl ?_ | refine e_retT ((none, 0)) ?_)
    refine imp_nil (.ex (qa, qc) (.all ?_))
    (try simp only [List.cons_append, List.nil_append])
    exact .pick .here (.pick .here (.pu hL .refl))
  · ((with_reducible refine e_condF ?_)); (((with_reducible refine e_opN v_nil Imp.nil ?_))); (((with_reducible refine e_opN v_fa0 Imp.nil ?_))); (((with_reducible refine' e_opN (v_ldN ?hc) ?hi ?_); (case hi => (repeat (first | exact Imp.refl | exact Imp.nil | (apply Imp.pick; (focus ((repeat constructor); done))) | refine Imp.drop ?_))); (case hc => (repeat (first | exact Nth.here | apply Nth.there))))); (((with_reducible refine e_opN (v_add ?h1 ?h2) Imp.nil ?_); (case h1 => omega); (case h2 => omega))); (((with_reducible refine e_opN (v_quo ?h1 ?h2 ?h3) Imp.nil ?_); (case h1 => omega); (case h2 => omega); (case h3 => omega))); (((with_reducible refine e_opN v_nil Imp.nil ?_))); (((with_reducible refine e_opN v_fa0 Imp.nil ?_))); (((with_reducible refine' e_opN (v_ldN ?hc) ?hi ?_); (case hi => (repeat (first | exact Imp.refl | exact Imp.nil | (apply Imp.pick; (focus ((repeat constructor); done))) | refine Imp.drop ?_))); (case hc => (repeat (first | exact Nth.here | apply Nth.there))))); (((with_reducible refine e_opN v_len Imp.nil ?_))); (((with_reducible refine e_opN (v_sub ?h1 ?h2) Imp.nil ?_); (case h1 => omega); (case h2 => omega)))
    have h0 := h
    (refine e_ask v_gtr Imp.nil (fun h => ?_) (fun h => ?_))
    · have hR : rrR b at_ n = 20 := by rw [rrR, if_neg h0, if_pos (by push_cast; omega)]
      have hB : rrB b at_ n = [] := by simp [rrB, hR]
      have hA : rrAt b at_ n = at_ := by simp [rrAt, hR]
      rw [hR, hB, hA]
      ((with_reducible refine e_condT ?_))
      (first | refine e_ret ((none, 0)) rfl ?_ | refine e_retT ((none, 0)) ?_)
      refine imp_nil (.ex (qa, qc) (.all ?_))
      (try simp only [List.cons_append, List.nil_append])
      exact .pick .here (.pick .here (.pu hL .refl))
    · have hR : rrR b at_ n = 0 := by rw [rrR, if_neg h0, if_neg (by push_cast; omega)]
      obtain ⟨N, rfl⟩ := Int.eq_ofNat_of_zero_le (show 0 ≤ n by omega)
      have hB : rrB b at_ N = (b.drop ((at_ + 7) / 8)).take N := by simp [rrB, hR]
      have hA : rrAt b at_ N = 8 * ((at_ + 7) / 8 + N) := by simp [rrAt, hR]
      have hN : (at_ + 7) / 8 + N ≤ b.length := by omega
      have hBl : (rrB b at_ N).length = N := by rw [hB, List.length_take, List.length_drop]; omega
      rw [hR, hA]
      refine e_slfacts (.there .here) fun f1 f2 f3 f4 => ?_
      refine e_condF ?_
      refine e_opN (v_add (by omega) (by omega)) Imp.nil ?_
      refine e_opN (v_mul (by omega) (by omega)) Imp.nil ?_
      refine e_opN v_nil Imp.nil ?_
      refine e_opN v_fa0 Imp.nil ?_
      ((with_reducible refine' e_stN ?hp ?ho ?_); (case hp => (repeat constructor)); (case ho => (repeat (first | exact Put.here | apply Put.there))))
      refine e_bslN (vs := []) rfl rfl (by simp) (by omega) fun g0 => ?_
      refine e_own (s := 1) (n := 0) .here (by rfl) (by unfold maxLen; omega) ?_
      (((with_reducible refine e_opN v_nil Imp.nil ?_))); (((with_reducible refine e_opN v_fa0 Imp.nil ?_))); (((with_reducible refine' e_opN (v_ldN ?hc) ?hi ?_); (case hi => (repeat (first | exact Imp.refl | exact Imp.nil | (apply Imp.pick; (focus ((repeat constructor); done))) | refine Imp.drop ?_))); (case hc => (repeat (first | exact Nth.here | apply Nth.there))))); (((with_reducible refine e_opN (v_add ?h1 ?h2) Imp.nil ?_); (case h1 => omega); (case h2 => omega)))
      refine e_opN (v_sl2 ((at_ + 7) / 8) ((at_ + 7) / 8 + N) (by norm_cast) (by norm_cast) (by omega) (by omega)) Imp.nil ?_
      have hcut := (rd_sl (W := W) (e := 5) (cap := qc) (cs := b.map B) (by simp) f4).cut (cap := qc) (l := (at_ + 7) / 8) (h := (at_ + 7) / 8 + N) (by omega) (by omega) (by omega)
      refine e_app (m := (at_ + 7) / 8 + N - (at_ + 7) / 8) .here (src_rd (e' := 5) (by kernel_rfl) (.there (.there .here)) hcut (RdB.none hcut) (fun u hu => B_one u (List.mem_of_mem_drop (List.mem_of_mem_take hu)))) (by omega) (by omega) fun a' c' => ?_
      rw [List.nil_append, Nat.zero_add, Nat.add_sub_cancel_left, ← List.map_drop, ← List.map_take, ← hB]
      refine e_ret (a', c') (by rw [hBl]) ?_
      rw [hBl]
      refine .pick (by (repeat constructor)) (.ex (qa, qc) (.all ?_))
      (try simp only [List.cons_append, List.nil_append])
      rw [show ((8 * ((at_ + 7) / 8 + N) : Nat) : Int) = 8 * (((at_ : Int) + 7) / 8 + N) by norm_cast]
      exact .pick (by (repeat constructor)) (.pick (by (repeat constructor)) (.pu (by omega) .refl))
theorem qtake {W : World} {p at_ : Nat} {b : List UInt8} {k : Int} : Cn Try.prog 60 [.pointer (some ⟨p, 0, none⟩), .int .i64 k] W [IsQ p b at_] (fun _ : Unit => .tuple #[.int .i64 (takN b at_ k : Int), .int .i64 (takR b at_ k)]) (fun _ => [IsQ p b (takAt b at_ k)]) := by
  (refine S.ref02_Reader_Take_cn fun F => ?_; unfold S.ref02_Reader_Take; simp only [List.cons_append, List.nil_append])
  refine e_ex Pick.here fun q => ?_
  obtain ⟨qa, qc⟩ := q
  refine e_all Pick.here ?_
  (try simp only [List.cons_append, List.nil_append])
  refine e_pu (.there (.there .here)) fun hL => ?_
  refine e_imp (M := IsQ p b at_ :: F) (.ex (qa, qc) (.all (.pick .here (.pick .here (.pu hL .refl))))) ?_
  (refine e_ask v_lss Imp.nil (fun h => ?_) (fun h => ?_))
  · have hR : takR b at_ k = 1 := by simp [takR, h]
    rw [hR, show takN b at_ k = 0 by simp [takN, hR], show takAt b at_ k = at_ by simp [takAt, hR]]
    ((with_reducible refine e_gdF1 ?_)); ((with_reducible refine e_gdF1 ?_)); (((with_reducible refine e_opN v_pickT Imp.nil ?_))); ((with_reducible refine e_condT ?_))
    (first | refine e_ret (()) rfl ?_ | refine e_retT (()) ?_)
    (repeat (first | exact Imp.refl | exact Imp.nil | (apply Imp.pick; (focus ((repeat constructor); done))) | refine Imp.drop ?_))
  have h0 := h
  ((with_reducible refine e_gdT ?_)); ((with_reducible refine e_gdT ?_))
  (refine e_ask v_gtr Imp.nil (fun h => ?_) (fun h => ?_))
  · have hR : takR b at_ k = 1 := by simp [takR, h]
    rw [hR, show takN b at_ k = 0 by simp [takN, hR], show takAt b at_ k = at_ by simp [takAt, hR]]
    (((with_reducible refine e_opN v_pickF Imp.nil ?_))); ((with_reducible refine e_condT ?_))
    (first | refine e_ret (()) rfl ?_ | refine e_retT (()) ?_)
    (repeat (first | exact Imp.refl | exact Imp.nil | (apply Imp.pick; (focus ((repeat constructor); done))) | refine Imp.drop ?_))
  have h1 := h
  have hb : ¬ (k < 0 ∨ 32 < k) := by omega
  (((with_reducible refine e_opN v_pickF Imp.nil ?_))); ((with_reducible refine e_condF ?_))
  (refine' e_call (qleft) ?hp fun _ => ?_; (case hp => (repeat (first | exact Picks.nil | (apply Picks.cons; (focus (repeat constructor)))))); (try simp only [List.cons_append, List.nil_append, Bool.not_true, Bool.not_false]))
  (refine e_ask v_gtr Imp.nil (fun h => ?_) (fun h => ?_))
  · have hR : takR b at_ k = 20 := by simp [takR, hb, h]
    rw [hR, show takN b at_ k = 0 by simp [takN, hR], show takAt b at_ k = at_ by simp [takAt, hR]]
    ((with_reducible refine e_condT ?_))
    (first | refine e_ret (()) rfl ?_ | refine e_retT (()) ?_)
    (repeat (first | exact Imp.refl | exact Imp.nil | (apply Imp.pick; (focus ((repeat constructor); done))) | refine Imp.drop ?_))
  have h2 := h
  have hR : takR b at_ k = 0 := by simp [takR, hb, h]
  rw [hR, show takN b at_ k = tak (ub b) at_ k.toNat by simp [takN, hR], show takAt b at_ k = at_ + k.toNat by simp [takAt, hR]]
  obtain ⟨K, rfl⟩ := Int.eq_ofNat_of_zero_le (show 0 ≤ k by omega)
  rw [Int.toNat_natCast]
  ((with_reducible refine e_condF ?_))
  refine e_loop2 (fun m x y => [ex fun i : Nat => all [pu (m + i = K ∧ y = .int .i64 (i : Int) ∧ x = .int .i64 (tak (ub b) at_ i : Int)), IsQ p b (at_ + i)]] ++ F) K ?_ ?_
  · refine Imp.ex 0 (.all ?_)
    (try simp only [List.cons_append, List.nil_append])
    exact .pu ⟨by omega, rfl, by rw [tak_zero]; rfl⟩ .refl
  · intro m ds x y
    (try simp only [List.cons_append, List.nil_append])
    refine e_ex Pick.here fun i => e_all Pick.here ?_
    (try simp only [List.cons_append, List.nil_append])
    refine e_pu Pick.here fun hi => ?_
    obtain ⟨hm, rfl, rfl⟩ := hi
    (refine e_ask v_lss Imp.nil (fun h => ?_) (fun h => ?_))
    · have hik : i < K := by omega
      obtain ⟨v, hv⟩ : ∃ v, (ub b)[at_ + i]? = some v := ⟨_, List.getElem?_eq_getElem (by rw [length_ub]; omega)⟩
      refine e_ex Pick.here fun q => ?_
      obtain ⟨qa, qc⟩ := q
      refine e_all Pick.here ?_
      (try simp only [List.cons_append, List.nil_append])
      refine e_pu (.there (.there .here)) fun hL2 => ?_
      have h8 : (at_ + i) / 8 < b.length := by omega
      have hv0 := hv
      rw [ub_get h8] at hv
      have hv' := Option.some.inj hv
      refine e_slsome (.there .here) (by omega) fun g hg => ?_
      subst hg
      ((with_reducible refine e_condT ?_)); ((with_reducible refine e_drS ?_)); (((with_reducible refine e_stS v_nil Imp.nil ?_))); (((with_reducible refine e_stS v_fa0 Imp.nil ?_))); (((with_reducible refine' e_stS (v_ldN ?hc) ?hi ?_); (case hi => (repeat (first | exact Imp.refl | exact Imp.nil | (apply Imp.pick; (focus ((repeat constructor); done))) | refine Imp.drop ?_))); (case hc => (repeat (first | exact Nth.here | apply Nth.there))))); (((with_reducible refine e_stS v_nil Imp.nil ?_))); (((with_reducible refine e_stS v_fa0 Imp.nil ?_))); (((with_reducible refine' e_stS (v_ldN ?hc) ?hi ?_); (case hi => (repeat (first | exact Imp.refl | exact Imp.nil | (apply Imp.pick; (focus ((repeat constructor); done))) | refine Imp.drop ?_))); (case hc => (repeat (first | exact Nth.here | apply Nth.there))))); (((with_reducible refine e_stS (v_quo ?h1 ?h2 ?h3) Imp.nil ?_); (case h1 => omega); (case h2 => omega); (case h3 => omega)))
      refine e_stS (v_ia1 ((at_ + i) / 8) (by norm_cast) (by omega)) Imp.nil ?_
      refine e_stS (v_ldSl (v := B b[(at_ + i) / 8]) (by rw [Nat.zero_add]; exact B_get h8)) (.pick (.there .here) .nil) ?_
      (((with_reducible refine e_stS v_nil Imp.nil ?_))); (((with_reducible refine e_stS v_fa0 Imp.nil ?_))); (((with_reducible refine' e_stS (v_ldN ?hc) ?hi ?_); (case hi => (repeat (first | exact Imp.refl | exact Imp.nil | (apply Imp.pick; (focus ((repeat constructor); done))) | refine Imp.drop ?_))); (case hc => (repeat (first | exact Nth.here | apply Nth.there))))); (((with_reducible refine e_stS (v_rem ?h1 ?h2) Imp.nil ?_); (case h1 => omega); (case h2 => omega)))
      have hb := b[(at_ + i) / 8].toNat_lt
      refine e_stS v_conv Imp.nil ?_
      rw [show (((at_ + i : Nat) : Int) % 8) = (((at_ + i) % 8 : Nat) : Int) by norm_cast, wrapu64 (by omega)]
      refine e_stS (v_shr (by omega)) Imp.nil ?_
      rw [shr8 (by omega)]
      refine e_stS v_and Imp.nil ?_
      have hdiv : b[(at_ + i) / 8].toNat / 2 ^ ((at_ + i) % 8) ≤ b[(at_ + i) / 8].toNat := Nat.div_le_self _ _
      rw [and1_8 (by omega), testBit_mod, hv']
      refine e_stS v_conv Imp.nil ?_
      rw [w64 (by omega) (by cases v <;> simp)]
      refine e_stS v_conv Imp.nil ?_
      rw [wrapu64 (by omega)]
      refine e_stS (v_shl (by omega)) Imp.nil ?_
      have hmin : min ((i : Int)).toNat IntKind.i64.bits = i := by simp only [IntKind.bits, Int.toNat_natCast]; omega
      have hp : 2 ^ i ≤ 2 ^ 32 := Nat.pow_le_pow_right (by omega) (by omega)
      have hc : (v.toNat : Int) * 2 ^ i = ((v.toNat * 2 ^ i : Nat) : Int) := by norm_cast
      have hle : v.toNat * 2 ^ i ≤ 2 ^ i := by cases v <;> simp
      obtain ⟨E, hE⟩ : ∃ E, E = v.toNat * 2 ^ i := ⟨_, rfl⟩
      rw [hmin, hc, ← hE, w64 (by omega) (by omega)]
      refine e_stS v_or Imp.nil ?_
      rw [hE, or_shl (by omega) (tak_lt _ _ _), ← tak_succ hv0]
      (((with_reducible refine e_opN v_nil Imp.nil ?_))); (((with_reducible refine e_opN v_fa0 Imp.nil ?_))); (((with_reducible refine' e_opN (v_ldN ?hc) ?hi ?_); (case hi => (repeat (first | exact Imp.refl | exact Imp.nil | (apply Imp.pick; (focus ((repeat constructor); done))) | refine Imp.drop ?_))); (case hc => (repeat (first | exact Nth.here | apply Nth.there))))); (((with_reducible refine e_opN (v_add ?h1 ?h2) Imp.nil ?_); (case h1 => omega); (case h2 => omega))); (((with_reducible refine e_opN v_nil Imp.nil ?_))); (((with_reducible refine e_opN v_fa0 Imp.nil ?_))); (((with_reducible refine' e_stN ?hp ?ho ?_); (case hp => (repeat constructor)); (case ho => (repeat (first | exact Put.here | apply Put.there))))); (((with_reducible refine e_opN (v_add ?h1 ?h2) Imp.nil ?_); (case h1 => omega); (case h2 => omega)))
      refine e_next2 (m - 1) (by omega) (.ex (i + 1) (.all ?_))
      (try simp only [List.cons_append, List.nil_append])
      refine .pu (by refine ⟨by omega, ?_⟩; first | trivial | exact ⟨by norm_cast, trivial⟩ | norm_cast) (.ex (some ⟨g, 0, none⟩, qc) (.all ?_))
      (try simp only [List.cons_append, List.nil_append])
      rw [show ((at_ + (i + 1) : Nat) : Int) = ((at_ + i : Nat) : Int) + 1 by norm_cast]
      exact .pick .here (.pick .here (.pu ⟨by omega, hL2.2⟩ .refl))
    · have : i = K := by omega
      subst this
      ((with_reducible refine e_condF ?_))
      (first | refine e_ret (()) rfl ?_ | refine e_retT (()) ?_)
      (repeat (first | exact Imp.refl | exact Imp.nil | (apply Imp.pick; (focus ((repeat constructor); done))) | refine Imp.drop ?_))
end Go.Proofs.Ytehfblkpbadikaa.B
