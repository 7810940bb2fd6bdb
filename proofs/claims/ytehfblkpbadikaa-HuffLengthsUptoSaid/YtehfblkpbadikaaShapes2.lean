/- The shapes of functions of the loaded program, printed by a program of mine; each is proved to be what the model asks of the function. No conditions. -/
import Derived.Test.YtehfblkpbadikaaChecked
import Derived.Test.YtehfblkpbadikaaShapes1
import Derived.KernelRfl
set_option linter.unusedVariables false
namespace Go.Proofs.Ytehfblkpbadikaa.S
open Go Go.Proofs.Ytehfblkpbadikaa.Sh Go.Proofs.Ytehfblkpbadikaa.Sl


/-- ref05_stream_dynamic -/
def ref05_stream_dynamic (v0 : Value) (Kp : PK) (K : Value → WP) : WP :=
  opN Try.prog (sCall (fn 72) [v0, (.int .i64 5)]) Kp fun x14 =>
  opN Try.prog (sCall (fn 72) [v0, (.int .i64 5)]) Kp fun x16 =>
  opN Try.prog (sCall (fn 72) [v0, (.int .i64 4)]) Kp fun x18 =>
  cut0 (fun J1 =>
   opN Try.prog (sNil v0) Kp fun x20 =>
   opN Try.prog (sFA 132 x20 3) Kp fun x21 =>
   opN Try.prog (sLoad 3 x21) Kp fun x22 =>
   opN Try.prog (sEq .eql 3 (.tmp 22) (.const (.int .i64 0)) x22 (.int .i64 0)) Kp fun x23 =>
   gdK x23 true (fun k => k x14) fun x25 =>
   gdK x23 true (opN Try.prog (sBin .gtr 3 x25 (.int .i64 29)) Kp) fun x26 =>
   gdK x23 true (fun k => k x26) fun x27 =>
   gdK x27 false (fun k => k x16) fun x28 =>
   gdK x27 false (opN Try.prog (sBin .gtr 3 x28 (.int .i64 29)) Kp) fun x29 =>
   gdK x23 true (opN Try.prog (sPick x27 (.bool true) x29) Kp) fun x30 =>
   opN Try.prog (sPick x23 x30 (.bool false)) Kp fun x31 =>
   condS x31
   (opN Try.prog (sCall (fn 77) [v0, (.int .i64 31)]) Kp fun x33 =>
    J1)
   (J1)) fun _ =>
  opN Try.prog (sMkSl 22 (.int .i64 19) (.int .i64 19)) Kp fun x34 =>
  opN Try.prog (sCall (fn 96) []) Kp fun x35 =>
  loop1 (fun I1 m1 _ y9 =>
   opN Try.prog (sBin .add 3 x18 (.int .i64 4)) Kp fun x38 =>
   opN Try.prog (sBin .lss 3 y9 x38) Kp fun x39 =>
   gdK x39 true (fun k => k v0) fun x41 =>
   gdK x39 true (opN Try.prog (sNil x41) Kp) fun x42 =>
   gdK x39 true (opN Try.prog (sFA 132 x42 3) Kp) fun x43 =>
   gdK x39 true (opN Try.prog (sLoad 3 x43) Kp) fun x44 =>
   gdK x39 true (opN Try.prog (sEq .eql 3 (.tmp 44) (.const (.int .i64 0)) x44 (.int .i64 0)) Kp) fun x45 =>
   opN Try.prog (sPick x39 x45 (.bool false)) Kp fun x46 =>
   condS x46
   (drS (stD Try.prog (sIA 22 x35 y9) fun D3 x52 =>
     stD Try.prog (sLoad 3 x52) fun D4 x53 =>
     opN Try.prog (sCall (fn 72) [v0, (.int .i64 3)]) Kp fun x55 =>
     (fun w => D4 w ∧ (fun w => D3 w ∧ (stS Try.prog (sIA 22 x34 x53) fun x56 =>
        opN Try.prog (sStore 3 x56 x55) Kp fun _ =>
        opN Try.prog (sBin .add 3 y9 (.int .i64 1)) Kp fun x48 =>
        next1 I1 m1 x48) w) w)))
   (cut0 (fun J2 =>
     opN Try.prog (sNil v0) Kp fun x58 =>
     opN Try.prog (sFA 132 x58 3) Kp fun x59 =>
     opN Try.prog (sLoad 3 x59) Kp fun x60 =>
     opN Try.prog (sEq .eql 3 (.tmp 60) (.const (.int .i64 0)) x60 (.int .i64 0)) Kp fun x61 =>
     gdK x61 true (fun k => k x34) fun x63 =>
     gdK x61 true (opN Try.prog (sCall (fn 23) [x63]) Kp) fun x64 =>
     gdK x61 true (opN Try.prog (sUn .not x64) Kp) fun x65 =>
     opN Try.prog (sPick x61 x65 (.bool false)) Kp fun x66 =>
     condS x66
     (opN Try.prog (sCall (fn 77) [v0, (.int .i64 30)]) Kp fun x68 =>
      J2)
     (J2)) fun _ =>
    opN Try.prog (sNil v0) Kp fun x70 =>
    opN Try.prog (sFA 132 x70 3) Kp fun x71 =>
    opN Try.prog (sLoad 3 x71) Kp fun x72 =>
    opN Try.prog (sEq .neq 3 (.tmp 72) (.const (.int .i64 0)) x72 (.int .i64 0)) Kp fun x73 =>
    condS x73
    (K (.tuple #[(.slice none 0 0), (.slice none 0 0)]))
    (opN Try.prog (sCall (fn 36) [x34]) Kp fun x76 =>
     opN Try.prog (sExt x76 0) Kp fun x77 =>
     opN Try.prog (sExt x76 1) Kp fun x78 =>
     opN Try.prog (sBin .add 3 x14 (.int .i64 257)) Kp fun x82 =>
     opN Try.prog (sBin .add 3 x82 x16) Kp fun x84 =>
     opN Try.prog (sBin .add 3 x84 (.int .i64 1)) Kp fun x85 =>
     opN Try.prog (sCall (fn 97) [v0, x77, x85]) Kp fun x86 =>
     opN Try.prog (sNil v0) Kp fun x88 =>
     opN Try.prog (sFA 132 x88 3) Kp fun x89 =>
     opN Try.prog (sLoad 3 x89) Kp fun x90 =>
     opN Try.prog (sEq .neq 3 (.tmp 90) (.const (.int .i64 0)) x90 (.int .i64 0)) Kp fun x91 =>
     condS x91
     (K (.tuple #[(.slice none 0 0), (.slice none 0 0)]))
     (cut0 (fun J3 =>
       opN Try.prog (sIA 22 x86 (.int .i64 256)) Kp fun x93 =>
       opN Try.prog (sLoad 3 x93) Kp fun x94 =>
       opN Try.prog (sEq .eql 3 (.tmp 94) (.const (.int .i64 0)) x94 (.int .i64 0)) Kp fun x95 =>
       gdK x95 false (fun k => k x86) fun x97 =>
       gdK x95 false (fun k => k x14) fun x98 =>
       gdK x95 false (opN Try.prog (sBin .add 3 x98 (.int .i64 257)) Kp) fun x99 =>
       gdK x95 false (opN Try.prog (sSl 22 x97 none (some x99) none) Kp) fun x100 =>
       gdK x95 false (opN Try.prog (sCall (fn 98) [x100]) Kp) fun x101 =>
       gdK x95 false (opN Try.prog (sUn .not x101) Kp) fun x102 =>
       opN Try.prog (sPick x95 (.bool true) x102) Kp fun x103 =>
       gdK x103 false (fun k => k x86) fun x105 =>
       gdK x103 false (fun k => k x14) fun x106 =>
       gdK x103 false (opN Try.prog (sBin .add 3 x106 (.int .i64 257)) Kp) fun x107 =>
       gdK x103 false (opN Try.prog (sSl 22 x105 (some x107) none none) Kp) fun x108 =>
       gdK x103 false (opN Try.prog (sCall (fn 98) [x108]) Kp) fun x109 =>
       gdK x103 false (opN Try.prog (sUn .not x109) Kp) fun x110 =>
       opN Try.prog (sPick x103 (.bool true) x110) Kp fun x111 =>
       condS x111
       (opN Try.prog (sCall (fn 77) [v0, (.int .i64 30)]) Kp fun x113 =>
        J3)
       (J3)) fun _ =>
      drS (stS Try.prog (sBin .add 3 x14 (.int .i64 257)) fun x116 =>
       stS Try.prog (sSl 22 x86 none (some x116) none) fun x117 =>
       stS Try.prog (sBin .add 3 x14 (.int .i64 257)) fun x120 =>
       stS Try.prog (sSl 22 x86 (some x120) none none) fun x121 =>
       K (.tuple #[x117, x121])))))) (.int .i64 0)
def ref05_stream_dynamic_an : Ann := { cuts := [(6, []), (14, []), (22, [])], blks := [], loops := [(9, [9])], drs := [(11, [(0, 2), (1, 2), (2, 2), (3, 3), (4, 3), (5, 1), (6, 0), (7, 1), (8, 0)]), (22, [(0, 1), (1, 1), (2, 1), (3, 1), (4, 1), (5, 1), (6, 1), (7, 1), (8, 1), (9, 1)])] }
theorem ref05_stream_dynamic_eq (v0 : Value) (Kp : PK) (K : Value → WP) : cevF Try.prog ref05_stream_dynamic_an Try.f76 [v0] Kp K = ref05_stream_dynamic v0 Kp K := by kernel_rfl
theorem ref05_stream_dynamic_calls {v0 : Value} {Kp : PK} {K : Value → WP} {w : World} (h : ref05_stream_dynamic v0 Kp K w) : Calls Try.prog 76 #[v0] w (after Kp K) :=
  calls_of_shape (calls_of_cev wide Try.func76 (an := ref05_stream_dynamic_an) (args := [v0]) (cast (congrFun (ref05_stream_dynamic_eq v0 Kp K) w).symm h))
theorem ref05_stream_dynamic_cn {v0 : Value} {W : World} {α : Type} {A : List HP} {r : α → Value} {B : α → List HP} (h : ∀ F, Ent W (A ++ F) (ref05_stream_dynamic v0 noP fun v w => ∃ x, v = r x ∧ sat W (B x ++ F) w)) : Cn Try.prog 76 [v0] W A r B :=
  Cn.of (shape := ref05_stream_dynamic v0) Try.call76 (fun h => ref05_stream_dynamic_calls h) h
theorem ref05_stream_dynamic_cnP {v0 : Value} {W : World} {α β : Type} {A : List HP} {r : α → Value} {B : α → List HP} {pc : β → List PanicEntry} {Bp : β → List HP} (h : ∀ F, Ent W (A ++ F) (ref05_stream_dynamic v0 (fun ch w => ∃ y, ch = pc y ∧ sat W (Bp y ++ F) w) fun v w => ∃ x, v = r x ∧ sat W (B x ++ F) w)) : CnP Try.prog 76 [v0] W A r B pc Bp :=
  CnP.of (shape := ref05_stream_dynamic v0) Try.call76 (fun h => ref05_stream_dynamic_calls h) h

/-- ref05_stream_fail -/
def ref05_stream_fail (v0 v1 : Value) (Kp : PK) (K : Value → WP) : WP :=
  opN Try.prog (sNil v0) Kp fun x5 =>
  opN Try.prog (sFA 132 x5 3) Kp fun x6 =>
  opN Try.prog (sLoad 3 x6) Kp fun x7 =>
  opN Try.prog (sEq .eql 3 (.tmp 7) (.const (.int .i64 0)) x7 (.int .i64 0)) Kp fun x8 =>
  condS x8
  (opN Try.prog (sNil v0) Kp fun x11 =>
   opN Try.prog (sFA 132 x11 3) Kp fun x12 =>
   opN Try.prog (sStore 3 x12 v1) Kp fun _ =>
   K (.tuple #[]))
  (K (.tuple #[]))
def ref05_stream_fail_an : Ann := { cuts := [], blks := [], loops := [], drs := [] }
theorem ref05_stream_fail_eq (v0 v1 : Value) (Kp : PK) (K : Value → WP) : cevF Try.prog ref05_stream_fail_an Try.f77 [v0, v1] Kp K = ref05_stream_fail v0 v1 Kp K := by kernel_rfl
theorem ref05_stream_fail_calls {v0 v1 : Value} {Kp : PK} {K : Value → WP} {w : World} (h : ref05_stream_fail v0 v1 Kp K w) : Calls Try.prog 77 #[v0, v1] w (after Kp K) :=
  calls_of_shape (calls_of_cev wide Try.func77 (an := ref05_stream_fail_an) (args := [v0, v1]) (cast (congrFun (ref05_stream_fail_eq v0 v1 Kp K) w).symm h))
theorem ref05_stream_fail_cn {v0 v1 : Value} {W : World} {α : Type} {A : List HP} {r : α → Value} {B : α → List HP} (h : ∀ F, Ent W (A ++ F) (ref05_stream_fail v0 v1 noP fun v w => ∃ x, v = r x ∧ sat W (B x ++ F) w)) : Cn Try.prog 77 [v0, v1] W A r B :=
  Cn.of (shape := ref05_stream_fail v0 v1) Try.call77 (fun h => ref05_stream_fail_calls h) h
theorem ref05_stream_fail_cnP {v0 v1 : Value} {W : World} {α β : Type} {A : List HP} {r : α → Value} {B : α → List HP} {pc : β → List PanicEntry} {Bp : β → List HP} (h : ∀ F, Ent W (A ++ F) (ref05_stream_fail v0 v1 (fun ch w => ∃ y, ch = pc y ∧ sat W (Bp y ++ F) w) fun v w => ∃ x, v = r x ∧ sat W (B x ++ F) w)) : CnP Try.prog 77 [v0, v1] W A r B pc Bp :=
  CnP.of (shape := ref05_stream_fail v0 v1) Try.call77 (fun h => ref05_stream_fail_calls h) h

/-- bits_masks -/
def bits_masks (Kp : PK) (K : Value → WP) : WP :=
  opN Try.prog (sAlloc 137) Kp fun x0 =>
  opN Try.prog (sBuild 137 [(0, (.int .u8 1)), (1, (.int .u8 2)), (2, (.int .u8 4)), (3, (.int .u8 8)), (4, (.int .u8 16)), (5, (.int .u8 32)), (6, (.int .u8 64)), (7, (.int .u8 128))]) Kp fun x1 =>
  opN Try.prog (sStore 137 x0 x1) Kp fun _ =>
  (stS Try.prog (sRes 137 x0) fun r0 => K r0)
def bits_masks_an : Ann := { cuts := [], blks := [], loops := [], drs := [] }
theorem bits_masks_eq (Kp : PK) (K : Value → WP) : cevF Try.prog bits_masks_an Try.f78 [] Kp K = bits_masks Kp K := by kernel_rfl
theorem bits_masks_calls  {Kp : PK} {K : Value → WP} {w : World} (h : bits_masks Kp K w) : Calls Try.prog 78 #[] w (after Kp K) :=
  calls_of_shape (calls_of_cev wide Try.func78 (an := bits_masks_an) (args := []) (cast (congrFun (bits_masks_eq Kp K) w).symm h))
theorem bits_masks_cn  {W : World} {α : Type} {A : List HP} {r : α → Value} {B : α → List HP} (h : ∀ F, Ent W (A ++ F) (bits_masks noP fun v w => ∃ x, v = r x ∧ sat W (B x ++ F) w)) : Cn Try.prog 78 [] W A r B :=
  Cn.of (shape := bits_masks) Try.call78 (fun h => bits_masks_calls h) h
theorem bits_masks_cnP  {W : World} {α β : Type} {A : List HP} {r : α → Value} {B : α → List HP} {pc : β → List PanicEntry} {Bp : β → List HP} (h : ∀ F, Ent W (A ++ F) (bits_masks (fun ch w => ∃ y, ch = pc y ∧ sat W (Bp y ++ F) w) fun v w => ∃ x, v = r x ∧ sat W (B x ++ F) w)) : CnP Try.prog 78 [] W A r B pc Bp :=
  CnP.of (shape := bits_masks) Try.call78 (fun h => bits_masks_calls h) h

/-- bits_source_bit -/
def bits_source_bit (v0 : Value) (Kp : PK) (K : Value → WP) : WP :=
  drS (stS Try.prog (sNil v0) fun x5 =>
   stS Try.prog (sFA 113 x5 0) fun x6 =>
   stS Try.prog (sLoad 39 x6) fun x7 =>
   stS Try.prog (sNil v0) fun x9 =>
   stS Try.prog (sFA 113 x9 1) fun x10 =>
   stS Try.prog (sLoad 3 x10) fun x11 =>
   stS Try.prog (sBin .quo 3 x11 (.int .i64 8)) fun x12 =>
   stS Try.prog (sIA 39 x7 x12) fun x13 =>
   stS Try.prog (sLoad 5 x13) fun x14 =>
   stS Try.prog (sNil v0) fun x16 =>
   stS Try.prog (sFA 113 x16 1) fun x17 =>
   stS Try.prog (sLoad 3 x17) fun x18 =>
   stS Try.prog (sBin .rem 3 x18 (.int .i64 8)) fun x19 =>
   stS Try.prog (sConv 3 33 x19) fun x20 =>
   stS Try.prog (sBin .shr 5 x14 x20) fun x21 =>
   stS Try.prog (sBin .and 5 x21 (.int .u8 1)) fun x22 =>
   stS Try.prog (sConv 5 3 x22) fun x23 =>
   opN Try.prog (sNil v0) Kp fun x25 =>
   opN Try.prog (sFA 113 x25 1) Kp fun x26 =>
   opN Try.prog (sLoad 3 x26) Kp fun x27 =>
   opN Try.prog (sBin .add 3 x27 (.int .i64 1)) Kp fun x28 =>
   opN Try.prog (sNil v0) Kp fun x29 =>
   opN Try.prog (sFA 113 x29 1) Kp fun x30 =>
   opN Try.prog (sStore 3 x30 x28) Kp fun _ =>
   K x23)
def bits_source_bit_an : Ann := { cuts := [], blks := [], loops := [], drs := [(1, [(0, 1), (1, 1), (2, 1), (3, 1), (4, 1), (5, 1), (6, 1), (7, 1), (8, 1), (9, 1), (10, 1), (11, 1), (12, 1), (13, 1), (14, 1), (15, 1), (16, 1), (17, 1), (18, 1), (19, 1), (20, 1)])] }
theorem bits_source_bit_eq (v0 : Value) (Kp : PK) (K : Value → WP) : cevF Try.prog bits_source_bit_an Try.f79 [v0] Kp K = bits_source_bit v0 Kp K := by kernel_rfl
theorem bits_source_bit_calls {v0 : Value} {Kp : PK} {K : Value → WP} {w : World} (h : bits_source_bit v0 Kp K w) : Calls Try.prog 79 #[v0] w (after Kp K) :=
  calls_of_shape (calls_of_cev wide Try.func79 (an := bits_source_bit_an) (args := [v0]) (cast (congrFun (bits_source_bit_eq v0 Kp K) w).symm h))
theorem bits_source_bit_cn {v0 : Value} {W : World} {α : Type} {A : List HP} {r : α → Value} {B : α → List HP} (h : ∀ F, Ent W (A ++ F) (bits_source_bit v0 noP fun v w => ∃ x, v = r x ∧ sat W (B x ++ F) w)) : Cn Try.prog 79 [v0] W A r B :=
  Cn.of (shape := bits_source_bit v0) Try.call79 (fun h => bits_source_bit_calls h) h
theorem bits_source_bit_cnP {v0 : Value} {W : World} {α β : Type} {A : List HP} {r : α → Value} {B : α → List HP} {pc : β → List PanicEntry} {Bp : β → List HP} (h : ∀ F, Ent W (A ++ F) (bits_source_bit v0 (fun ch w => ∃ y, ch = pc y ∧ sat W (Bp y ++ F) w) fun v w => ∃ x, v = r x ∧ sat W (B x ++ F) w)) : CnP Try.prog 79 [v0] W A r B pc Bp :=
  CnP.of (shape := bits_source_bit v0) Try.call79 (fun h => bits_source_bit_calls h) h

/-- slices_insertionSortCmpFunc_huff_weighed_int -/
def slices_insertionSortCmpFunc_huff_weighed_int (v0 v1 v2 v3 : Value) (Kp : PK) (K : Value → WP) : WP :=
  opN Try.prog (sBin .add 3 v1 (.int .i64 1)) Kp fun x11 =>
  loop1 (fun I1 m1 _ y8 =>
   opN Try.prog (sBin .lss 3 y8 v2) Kp fun x14 =>
   condS x14
   (loop1 (fun I2 m2 _ y9 =>
     drS (stS Try.prog (sBin .gtr 3 y9 v1) fun x20 =>
      gdK x20 true (fun k => k v3) fun x22 =>
      gdK x20 true (fun k => k v0) fun x23 =>
      gdK x20 true (fun k => k y9) fun x24 =>
      gdK x20 true (stS Try.prog (sIA 84 x23 x24)) fun x25 =>
      gdK x20 true (stS Try.prog (sLoad 86 x25)) fun x26 =>
      gdK x20 true (fun k => k v0) fun x27 =>
      gdK x20 true (fun k => k y9) fun x28 =>
      gdK x20 true (stS Try.prog (sBin .sub 3 x28 (.int .i64 1))) fun x29 =>
      gdK x20 true (stS Try.prog (sIA 84 x27 x29)) fun x30 =>
      gdK x20 true (stS Try.prog (sLoad 86 x30)) fun x31 =>
      gdK x20 true (opN Try.prog (sCall x22 [x26, x31]) Kp) fun x32 =>
      gdK x20 true (stS Try.prog (sBin .lss 3 x32 (.int .i64 0))) fun x33 =>
      stS Try.prog (sPick x20 x33 (.bool false)) fun x34 =>
      condS x34
      (drS (stD Try.prog (sBin .sub 3 y9 (.int .i64 1)) fun D4 x41 =>
        stS Try.prog (sBin .sub 3 y9 (.int .i64 1)) fun x44 =>
        stS Try.prog (sIA 84 v0 x44) fun x45 =>
        stS Try.prog (sLoad 86 x45) fun x46 =>
        stS Try.prog (sIA 84 v0 y9) fun x49 =>
        stS Try.prog (sLoad 86 x49) fun x50 =>
        stS Try.prog (sIA 84 v0 y9) fun x51 =>
        opN Try.prog (sStore 86 x51 x46) Kp fun _ =>
        (fun w => D4 w ∧ (stS Try.prog (sIA 84 v0 x41) fun x52 =>
          opN Try.prog (sStore 86 x52 x50) Kp fun _ =>
          opN Try.prog (sBin .sub 3 y9 (.int .i64 1)) Kp fun x36 =>
          next1 I2 m2 x36) w)))
      (opN Try.prog (sBin .add 3 y8 (.int .i64 1)) Kp fun x16 =>
       next1 I1 m1 x16))) y8)
   (K (.tuple #[]))) x11
def slices_insertionSortCmpFunc_huff_weighed_int_an : Ann := { cuts := [], blks := [], loops := [(1, [8]), (4, [9])], drs := [(4, [(0, 1), (1, 1), (2, 1), (3, 1), (4, 1), (5, 1), (6, 1), (7, 1), (8, 1), (9, 1), (10, 1), (11, 1), (12, 1), (13, 1), (14, 0), (15, 1), (16, 1)]), (6, [(0, 1), (1, 1), (2, 2), (3, 2), (4, 3), (5, 1), (6, 1), (7, 1), (8, 1), (9, 1), (10, 1), (11, 1), (12, 1), (13, 1), (14, 1), (15, 0), (16, 1), (17, 0)])] }
theorem slices_insertionSortCmpFunc_huff_weighed_int_eq (v0 v1 v2 v3 : Value) (Kp : PK) (K : Value → WP) : cevF Try.prog slices_insertionSortCmpFunc_huff_weighed_int_an Try.f80 [v0, v1, v2, v3] Kp K = slices_insertionSortCmpFunc_huff_weighed_int v0 v1 v2 v3 Kp K := by kernel_rfl
theorem slices_insertionSortCmpFunc_huff_weighed_int_calls {v0 v1 v2 v3 : Value} {Kp : PK} {K : Value → WP} {w : World} (h : slices_insertionSortCmpFunc_huff_weighed_int v0 v1 v2 v3 Kp K w) : Calls Try.prog 80 #[v0, v1, v2, v3] w (after Kp K) :=
  calls_of_shape (calls_of_cev wide Try.func80 (an := slices_insertionSortCmpFunc_huff_weighed_int_an) (args := [v0, v1, v2, v3]) (cast (congrFun (slices_insertionSortCmpFunc_huff_weighed_int_eq v0 v1 v2 v3 Kp K) w).symm h))
theorem slices_insertionSortCmpFunc_huff_weighed_int_cn {v0 v1 v2 v3 : Value} {W : World} {α : Type} {A : List HP} {r : α → Value} {B : α → List HP} (h : ∀ F, Ent W (A ++ F) (slices_insertionSortCmpFunc_huff_weighed_int v0 v1 v2 v3 noP fun v w => ∃ x, v = r x ∧ sat W (B x ++ F) w)) : Cn Try.prog 80 [v0, v1, v2, v3] W A r B :=
  Cn.of (shape := slices_insertionSortCmpFunc_huff_weighed_int v0 v1 v2 v3) Try.call80 (fun h => slices_insertionSortCmpFunc_huff_weighed_int_calls h) h
theorem slices_insertionSortCmpFunc_huff_weighed_int_cnP {v0 v1 v2 v3 : Value} {W : World} {α β : Type} {A : List HP} {r : α → Value} {B : α → List HP} {pc : β → List PanicEntry} {Bp : β → List HP} (h : ∀ F, Ent W (A ++ F) (slices_insertionSortCmpFunc_huff_weighed_int v0 v1 v2 v3 (fun ch w => ∃ y, ch = pc y ∧ sat W (Bp y ++ F) w) fun v w => ∃ x, v = r x ∧ sat W (B x ++ F) w)) : CnP Try.prog 80 [v0, v1, v2, v3] W A r B pc Bp :=
  CnP.of (shape := slices_insertionSortCmpFunc_huff_weighed_int v0 v1 v2 v3) Try.call80 (fun h => slices_insertionSortCmpFunc_huff_weighed_int_calls h) h

/-- slices_symMergeCmpFunc_huff_weighed_int -/
def slices_symMergeCmpFunc_huff_weighed_int (v0 v1 v2 v3 v4 : Value) (Kp : PK) (K : Value → WP) : WP :=
  opN Try.prog (sBin .sub 3 v2 v1) Kp fun x27 =>
  opN Try.prog (sEq .eql 3 (.tmp 27) (.const (.int .i64 1)) x27 (.int .i64 1)) Kp fun x28 =>
  condS x28
  (loop2 (fun I1 m1 _ y10 y11 =>
    opN Try.prog (sBin .lss 3 y10 y11) Kp fun x33 =>
    condS x33
    (opN Try.prog (sBin .add 3 y10 y11) Kp fun x36 =>
     opN Try.prog (sConv 3 33 x36) Kp fun x37 =>
     opN Try.prog (sBin .shr 33 x37 (.int .u64 1)) Kp fun x38 =>
     opN Try.prog (sConv 33 3 x38) Kp fun x39 =>
     drS (stS Try.prog (sIA 84 v0 x39) fun x43 =>
      stS Try.prog (sLoad 86 x43) fun x44 =>
      stS Try.prog (sIA 84 v0 v1) fun x47 =>
      stS Try.prog (sLoad 86 x47) fun x48 =>
      opN Try.prog (sCall v4 [x44, x48]) Kp fun x49 =>
      stS Try.prog (sBin .lss 3 x49 (.int .i64 0)) fun x50 =>
      condS x50
      (opN Try.prog (sBin .add 3 x39 (.int .i64 1)) Kp fun x52 =>
       next2 I1 m1 x52 y11)
      (next2 I1 m1 y10 x39)))
    (loop1 (fun I2 m2 _ y13 =>
      opN Try.prog (sBin .sub 3 y10 (.int .i64 1)) Kp fun x57 =>
      opN Try.prog (sBin .lss 3 y13 x57) Kp fun x58 =>
      condS x58
      (drS (stD Try.prog (sBin .add 3 y13 (.int .i64 1)) fun D4 x65 =>
        stS Try.prog (sBin .add 3 y13 (.int .i64 1)) fun x68 =>
        stS Try.prog (sIA 84 v0 x68) fun x69 =>
        stS Try.prog (sLoad 86 x69) fun x70 =>
        stS Try.prog (sIA 84 v0 y13) fun x73 =>
        stS Try.prog (sLoad 86 x73) fun x74 =>
        stS Try.prog (sIA 84 v0 y13) fun x75 =>
        opN Try.prog (sStore 86 x75 x70) Kp fun _ =>
        (fun w => D4 w ∧ (stS Try.prog (sIA 84 v0 x65) fun x76 =>
          opN Try.prog (sStore 86 x76 x74) Kp fun _ =>
          opN Try.prog (sBin .add 3 y13 (.int .i64 1)) Kp fun x60 =>
          next1 I2 m2 x60) w)))
      (K (.tuple #[]))) v1)) v2 v3)
  (opN Try.prog (sBin .sub 3 v3 v2) Kp fun x79 =>
   opN Try.prog (sEq .eql 3 (.tmp 79) (.const (.int .i64 1)) x79 (.int .i64 1)) Kp fun x80 =>
   condS x80
   (loop2 (fun I3 m3 _ y14 y15 =>
     opN Try.prog (sBin .lss 3 y14 y15) Kp fun x85 =>
     condS x85
     (opN Try.prog (sBin .add 3 y14 y15) Kp fun x88 =>
      opN Try.prog (sConv 3 33 x88) Kp fun x89 =>
      opN Try.prog (sBin .shr 33 x89 (.int .u64 1)) Kp fun x90 =>
      opN Try.prog (sConv 33 3 x90) Kp fun x91 =>
      drS (stS Try.prog (sIA 84 v0 v2) fun x95 =>
       stS Try.prog (sLoad 86 x95) fun x96 =>
       stS Try.prog (sIA 84 v0 x91) fun x99 =>
       stS Try.prog (sLoad 86 x99) fun x100 =>
       opN Try.prog (sCall v4 [x96, x100]) Kp fun x101 =>
       stS Try.prog (sBin .lss 3 x101 (.int .i64 0)) fun x102 =>
       stS Try.prog (sUn .not x102) fun x103 =>
       condS x103
       (opN Try.prog (sBin .add 3 x91 (.int .i64 1)) Kp fun x105 =>
        next2 I3 m3 x105 y15)
       (next2 I3 m3 y14 x91)))
     (loop1 (fun I4 m4 _ y17 =>
       opN Try.prog (sBin .gtr 3 y17 y14) Kp fun x110 =>
       condS x110
       (drS (stD Try.prog (sBin .sub 3 y17 (.int .i64 1)) fun D4 x117 =>
         stS Try.prog (sBin .sub 3 y17 (.int .i64 1)) fun x120 =>
         stS Try.prog (sIA 84 v0 x120) fun x121 =>
         stS Try.prog (sLoad 86 x121) fun x122 =>
         stS Try.prog (sIA 84 v0 y17) fun x125 =>
         stS Try.prog (sLoad 86 x125) fun x126 =>
         stS Try.prog (sIA 84 v0 y17) fun x127 =>
         opN Try.prog (sStore 86 x127 x122) Kp fun _ =>
         (fun w => D4 w ∧ (stS Try.prog (sIA 84 v0 x117) fun x128 =>
           opN Try.prog (sStore 86 x128 x126) Kp fun _ =>
           opN Try.prog (sBin .sub 3 y17 (.int .i64 1)) Kp fun x112 =>
           next1 I4 m4 x112) w)))
       (K (.tuple #[]))) v2)) v1 v2)
   (opN Try.prog (sBin .add 3 v1 v3) Kp fun x131 =>
    opN Try.prog (sConv 3 33 x131) Kp fun x132 =>
    opN Try.prog (sBin .shr 33 x132 (.int .u64 1)) Kp fun x133 =>
    opN Try.prog (sConv 33 3 x133) Kp fun x134 =>
    opN Try.prog (sBin .add 3 x134 v2) Kp fun x137 =>
    cut2 (fun J1 =>
     opN Try.prog (sBin .gtr 3 v2 x134) Kp fun x140 =>
     condS x140
     (opN Try.prog (sBin .sub 3 x137 v3) Kp fun x143 =>
      J1 x143 x134)
     (J1 v1 v2)) fun _ z20 z21 =>
    opN Try.prog (sBin .sub 3 x137 (.int .i64 1)) Kp fun x148 =>
    loop2 (fun I5 m5 _ y20 y21 =>
     opN Try.prog (sBin .lss 3 y20 y21) Kp fun x151 =>
     condS x151
     (opN Try.prog (sBin .add 3 y20 y21) Kp fun x154 =>
      opN Try.prog (sConv 3 33 x154) Kp fun x155 =>
      opN Try.prog (sBin .shr 33 x155 (.int .u64 1)) Kp fun x156 =>
      opN Try.prog (sConv 33 3 x156) Kp fun x157 =>
      drS (stS Try.prog (sBin .sub 3 x148 x157) fun x162 =>
       stS Try.prog (sIA 84 v0 x162) fun x163 =>
       stS Try.prog (sLoad 86 x163) fun x164 =>
       stS Try.prog (sIA 84 v0 x157) fun x167 =>
       stS Try.prog (sLoad 86 x167) fun x168 =>
       opN Try.prog (sCall v4 [x164, x168]) Kp fun x169 =>
       stS Try.prog (sBin .lss 3 x169 (.int .i64 0)) fun x170 =>
       stS Try.prog (sUn .not x170) fun x171 =>
       condS x171
       (opN Try.prog (sBin .add 3 x157 (.int .i64 1)) Kp fun x173 =>
        next2 I5 m5 x173 y21)
       (next2 I5 m5 y20 x157)))
     (opN Try.prog (sBin .sub 3 x137 y20) Kp fun x177 =>
      cut0 (fun J2 =>
       opN Try.prog (sBin .lss 3 y20 v2) Kp fun x180 =>
       gdK x180 true (fun k => k v2) fun x182 =>
       gdK x180 true (fun k => k x177) fun x183 =>
       gdK x180 true (opN Try.prog (sBin .lss 3 x182 x183) Kp) fun x184 =>
       opN Try.prog (sPick x180 x184 (.bool false)) Kp fun x185 =>
       condS x185
       (opN Try.prog (sCall (fn 99) [v0, y20, v2, x177, v4]) Kp fun x191 =>
        J2)
       (J2)) fun _ =>
      cut0 (fun J3 =>
       opN Try.prog (sBin .lss 3 v1 y20) Kp fun x194 =>
       gdK x194 true (fun k => k y20) fun x196 =>
       gdK x194 true (fun k => k x134) fun x197 =>
       gdK x194 true (opN Try.prog (sBin .lss 3 x196 x197) Kp) fun x198 =>
       opN Try.prog (sPick x194 x198 (.bool false)) Kp fun x199 =>
       condS x199
       (opN Try.prog (sCall (fn 81) [v0, v1, y20, x134, v4]) Kp fun x205 =>
        J3)
       (J3)) fun _ =>
      opN Try.prog (sBin .lss 3 x134 x177) Kp fun x208 =>
      gdK x208 true (fun k => k x177) fun x210 =>
      gdK x208 true (fun k => k v3) fun x211 =>
      gdK x208 true (opN Try.prog (sBin .lss 3 x210 x211) Kp) fun x212 =>
      opN Try.prog (sPick x208 x212 (.bool false)) Kp fun x213 =>
      condS x213
      (opN Try.prog (sCall (fn 81) [v0, x134, x177, v3, v4]) Kp fun x219 =>
       K (.tuple #[]))
      (K (.tuple #[])))) z20 z21))
def slices_symMergeCmpFunc_huff_weighed_int_an : Ann := { cuts := [(32, [20, 21]), (41, []), (43, [])], blks := [], loops := [(3, [10, 11]), (9, [13]), (15, [14, 15]), (21, [17]), (33, [20, 21])], drs := [(5, [(0, 1), (1, 1), (2, 1), (3, 1), (4, 1), (5, 1), (6, 1), (7, 1), (8, 1), (9, 0), (10, 1)]), (11, [(0, 1), (1, 1), (2, 2), (3, 2), (4, 3), (5, 1), (6, 1), (7, 1), (8, 1), (9, 1), (10, 1), (11, 1), (12, 1), (13, 1), (14, 1), (15, 0), (16, 1), (17, 0)]), (17, [(0, 1), (1, 1), (2, 1), (3, 1), (4, 1), (5, 1), (6, 1), (7, 1), (8, 1), (9, 0), (10, 1), (11, 1)]), (23, [(0, 1), (1, 1), (2, 2), (3, 2), (4, 3), (5, 1), (6, 1), (7, 1), (8, 1), (9, 1), (10, 1), (11, 1), (12, 1), (13, 1), (14, 1), (15, 0), (16, 1), (17, 0)]), (35, [(0, 1), (1, 1), (2, 1), (3, 1), (4, 1), (5, 1), (6, 1), (7, 1), (8, 1), (9, 1), (10, 1), (11, 0), (12, 1), (13, 1)])] }
theorem slices_symMergeCmpFunc_huff_weighed_int_eq (v0 v1 v2 v3 v4 : Value) (Kp : PK) (K : Value → WP) : cevF Try.prog slices_symMergeCmpFunc_huff_weighed_int_an Try.f81 [v0, v1, v2, v3, v4] Kp K = slices_symMergeCmpFunc_huff_weighed_int v0 v1 v2 v3 v4 Kp K := by kernel_rfl
theorem slices_symMergeCmpFunc_huff_weighed_int_calls {v0 v1 v2 v3 v4 : Value} {Kp : PK} {K : Value → WP} {w : World} (h : slices_symMergeCmpFunc_huff_weighed_int v0 v1 v2 v3 v4 Kp K w) : Calls Try.prog 81 #[v0, v1, v2, v3, v4] w (after Kp K) :=
  calls_of_shape (calls_of_cev wide Try.func81 (an := slices_symMergeCmpFunc_huff_weighed_int_an) (args := [v0, v1, v2, v3, v4]) (cast (congrFun (slices_symMergeCmpFunc_huff_weighed_int_eq v0 v1 v2 v3 v4 Kp K) w).symm h))
theorem slices_symMergeCmpFunc_huff_weighed_int_cn {v0 v1 v2 v3 v4 : Value} {W : World} {α : Type} {A : List HP} {r : α → Value} {B : α → List HP} (h : ∀ F, Ent W (A ++ F) (slices_symMergeCmpFunc_huff_weighed_int v0 v1 v2 v3 v4 noP fun v w => ∃ x, v = r x ∧ sat W (B x ++ F) w)) : Cn Try.prog 81 [v0, v1, v2, v3, v4] W A r B :=
  Cn.of (shape := slices_symMergeCmpFunc_huff_weighed_int v0 v1 v2 v3 v4) Try.call81 (fun h => slices_symMergeCmpFunc_huff_weighed_int_calls h) h
theorem slices_symMergeCmpFunc_huff_weighed_int_cnP {v0 v1 v2 v3 v4 : Value} {W : World} {α β : Type} {A : List HP} {r : α → Value} {B : α → List HP} {pc : β → List PanicEntry} {Bp : β → List HP} (h : ∀ F, Ent W (A ++ F) (slices_symMergeCmpFunc_huff_weighed_int v0 v1 v2 v3 v4 (fun ch w => ∃ y, ch = pc y ∧ sat W (Bp y ++ F) w) fun v w => ∃ x, v = r x ∧ sat W (B x ++ F) w)) : CnP Try.prog 81 [v0, v1, v2, v3, v4] W A r B pc Bp :=
  CnP.of (shape := slices_symMergeCmpFunc_huff_weighed_int v0 v1 v2 v3 v4) Try.call81 (fun h => slices_symMergeCmpFunc_huff_weighed_int_calls h) h

/-- bits_Reader_Align -/
def bits_Reader_Align (v0 : Value) (Kp : PK) (K : Value → WP) : WP :=
  opN Try.prog (sCall (fn 61) [v0]) Kp fun x3 =>
  opN Try.prog (sUn .not x3) Kp fun x4 =>
  condS x4
  (opN Try.prog (sNil v0) Kp fun x7 =>
   opN Try.prog (sFA 115 x7 0) Kp fun x8 =>
   opN Try.prog (sFA 113 x8 1) Kp fun x9 =>
   opN Try.prog (sLoad 3 x9) Kp fun x10 =>
   opN Try.prog (sBin .add 3 x10 (.int .i64 7)) Kp fun x11 =>
   opN Try.prog (sBin .quo 3 x11 (.int .i64 8)) Kp fun x12 =>
   opN Try.prog (sBin .mul 3 x12 (.int .i64 8)) Kp fun x13 =>
   opN Try.prog (sNil v0) Kp fun x14 =>
   opN Try.prog (sFA 115 x14 0) Kp fun x15 =>
   opN Try.prog (sFA 113 x15 1) Kp fun x16 =>
   opN Try.prog (sStore 3 x16 x13) Kp fun _ =>
   K (.tuple #[]))
  (K (.tuple #[]))
def bits_Reader_Align_an : Ann := { cuts := [], blks := [], loops := [], drs := [] }
theorem bits_Reader_Align_eq (v0 : Value) (Kp : PK) (K : Value → WP) : cevF Try.prog bits_Reader_Align_an Try.f82 [v0] Kp K = bits_Reader_Align v0 Kp K := by kernel_rfl
theorem bits_Reader_Align_calls {v0 : Value} {Kp : PK} {K : Value → WP} {w : World} (h : bits_Reader_Align v0 Kp K w) : Calls Try.prog 82 #[v0] w (after Kp K) :=
  calls_of_shape (calls_of_cev wide Try.func82 (an := bits_Reader_Align_an) (args := [v0]) (cast (congrFun (bits_Reader_Align_eq v0 Kp K) w).symm h))
theorem bits_Reader_Align_cn {v0 : Value} {W : World} {α : Type} {A : List HP} {r : α → Value} {B : α → List HP} (h : ∀ F, Ent W (A ++ F) (bits_Reader_Align v0 noP fun v w => ∃ x, v = r x ∧ sat W (B x ++ F) w)) : Cn Try.prog 82 [v0] W A r B :=
  Cn.of (shape := bits_Reader_Align v0) Try.call82 (fun h => bits_Reader_Align_calls h) h
theorem bits_Reader_Align_cnP {v0 : Value} {W : World} {α β : Type} {A : List HP} {r : α → Value} {B : α → List HP} {pc : β → List PanicEntry} {Bp : β → List HP} (h : ∀ F, Ent W (A ++ F) (bits_Reader_Align v0 (fun ch w => ∃ y, ch = pc y ∧ sat W (Bp y ++ F) w) fun v w => ∃ x, v = r x ∧ sat W (B x ++ F) w)) : CnP Try.prog 82 [v0] W A r B pc Bp :=
  CnP.of (shape := bits_Reader_Align v0) Try.call82 (fun h => bits_Reader_Align_calls h) h

/-- inflate_demand -/
def inflate_demand (v0 v1 : Value) (Kp : PK) (K : Value → WP) : WP :=
  opN Try.prog (sUn .not v0) Kp fun x5 =>
  condS x5
  (opN Try.prog (sMkI 23 v1) Kp fun x7 =>
   opN Try.prog (sPanic x7) Kp fun _ =>
   K (.tuple #[]))
  (K (.tuple #[]))
def inflate_demand_an : Ann := { cuts := [], blks := [], loops := [], drs := [] }
theorem inflate_demand_eq (v0 v1 : Value) (Kp : PK) (K : Value → WP) : cevF Try.prog inflate_demand_an Try.f83 [v0, v1] Kp K = inflate_demand v0 v1 Kp K := by kernel_rfl
theorem inflate_demand_calls {v0 v1 : Value} {Kp : PK} {K : Value → WP} {w : World} (h : inflate_demand v0 v1 Kp K w) : Calls Try.prog 83 #[v0, v1] w (after Kp K) :=
  calls_of_shape (calls_of_cev wide Try.func83 (an := inflate_demand_an) (args := [v0, v1]) (cast (congrFun (inflate_demand_eq v0 v1 Kp K) w).symm h))
theorem inflate_demand_cn {v0 v1 : Value} {W : World} {α : Type} {A : List HP} {r : α → Value} {B : α → List HP} (h : ∀ F, Ent W (A ++ F) (inflate_demand v0 v1 noP fun v w => ∃ x, v = r x ∧ sat W (B x ++ F) w)) : Cn Try.prog 83 [v0, v1] W A r B :=
  Cn.of (shape := inflate_demand v0 v1) Try.call83 (fun h => inflate_demand_calls h) h
theorem inflate_demand_cnP {v0 v1 : Value} {W : World} {α β : Type} {A : List HP} {r : α → Value} {B : α → List HP} {pc : β → List PanicEntry} {Bp : β → List HP} (h : ∀ F, Ent W (A ++ F) (inflate_demand v0 v1 (fun ch w => ∃ y, ch = pc y ∧ sat W (Bp y ++ F) w) fun v w => ∃ x, v = r x ∧ sat W (B x ++ F) w)) : CnP Try.prog 83 [v0, v1] W A r B pc Bp :=
  CnP.of (shape := inflate_demand v0 v1) Try.call83 (fun h => inflate_demand_calls h) h

/-- inflate_stream_room -/
def inflate_stream_room (v0 v1 : Value) (Kp : PK) (K : Value → WP) : WP :=
  drS (stS Try.prog (sNil v0) fun x6 =>
   stS Try.prog (sFA 126 x6 2) fun x7 =>
   stS Try.prog (sLoad 3 x7) fun x8 =>
   stS Try.prog (sNil v0) fun x10 =>
   stS Try.prog (sFA 126 x10 1) fun x11 =>
   stS Try.prog (sLoad 39 x11) fun x12 =>
   stS Try.prog (sLen #[39] 3 [x12]) fun x13 =>
   stS Try.prog (sBin .sub 3 x8 x13) fun x14 =>
   stS Try.prog (sBin .leq 3 v1 x14) fun x15 =>
   opN Try.prog (sCall (fn 83) [x15, (.int .i64 6)]) Kp fun x16 =>
   K (.tuple #[]))
def inflate_stream_room_an : Ann := { cuts := [], blks := [], loops := [], drs := [(0, [(0, 1), (1, 1), (2, 1), (3, 1), (4, 1), (5, 1), (6, 1), (7, 1), (8, 1), (9, 1), (10, 1), (11, 1), (12, 0)])] }
theorem inflate_stream_room_eq (v0 v1 : Value) (Kp : PK) (K : Value → WP) : cevF Try.prog inflate_stream_room_an Try.f84 [v0, v1] Kp K = inflate_stream_room v0 v1 Kp K := by kernel_rfl
theorem inflate_stream_room_calls {v0 v1 : Value} {Kp : PK} {K : Value → WP} {w : World} (h : inflate_stream_room v0 v1 Kp K w) : Calls Try.prog 84 #[v0, v1] w (after Kp K) :=
  calls_of_shape (calls_of_cev wide Try.func84 (an := inflate_stream_room_an) (args := [v0, v1]) (cast (congrFun (inflate_stream_room_eq v0 v1 Kp K) w).symm h))
theorem inflate_stream_room_cn {v0 v1 : Value} {W : World} {α : Type} {A : List HP} {r : α → Value} {B : α → List HP} (h : ∀ F, Ent W (A ++ F) (inflate_stream_room v0 v1 noP fun v w => ∃ x, v = r x ∧ sat W (B x ++ F) w)) : Cn Try.prog 84 [v0, v1] W A r B :=
  Cn.of (shape := inflate_stream_room v0 v1) Try.call84 (fun h => inflate_stream_room_calls h) h
theorem inflate_stream_room_cnP {v0 v1 : Value} {W : World} {α β : Type} {A : List HP} {r : α → Value} {B : α → List HP} {pc : β → List PanicEntry} {Bp : β → List HP} (h : ∀ F, Ent W (A ++ F) (inflate_stream_room v0 v1 (fun ch w => ∃ y, ch = pc y ∧ sat W (Bp y ++ F) w) fun v w => ∃ x, v = r x ∧ sat W (B x ++ F) w)) : CnP Try.prog 84 [v0, v1] W A r B pc Bp :=
  CnP.of (shape := inflate_stream_room v0 v1) Try.call84 (fun h => inflate_stream_room_calls h) h

/-- bits_Reader_Raw -/
def bits_Reader_Raw (v0 v1 : Value) (Kp : PK) (K : Value → WP) : WP :=
  opN Try.prog (sCall (fn 61) [v0]) Kp fun x8 =>
  gdK x8 false (fun k => k v1) fun x10 =>
  gdK x8 false (opN Try.prog (sBin .lss 3 x10 (.int .i64 0)) Kp) fun x11 =>
  opN Try.prog (sPick x8 (.bool true) x11) Kp fun x12 =>
  condS x12
  (K (.tuple #[(.slice none 0 0), (.int .i64 1)]))
  (opN Try.prog (sNil v0) Kp fun x14 =>
   opN Try.prog (sFA 115 x14 0) Kp fun x15 =>
   opN Try.prog (sFA 113 x15 1) Kp fun x16 =>
   opN Try.prog (sLoad 3 x16) Kp fun x17 =>
   opN Try.prog (sBin .add 3 x17 (.int .i64 7)) Kp fun x18 =>
   opN Try.prog (sBin .quo 3 x18 (.int .i64 8)) Kp fun x19 =>
   opN Try.prog (sNil v0) Kp fun x22 =>
   opN Try.prog (sFA 115 x22 0) Kp fun x23 =>
   opN Try.prog (sFA 113 x23 0) Kp fun x24 =>
   opN Try.prog (sLoad 39 x24) Kp fun x25 =>
   opN Try.prog (sLen #[39] 3 [x25]) Kp fun x26 =>
   opN Try.prog (sBin .sub 3 x26 x19) Kp fun x28 =>
   opN Try.prog (sBin .gtr 3 v1 x28) Kp fun x29 =>
   condS x29
   (K (.tuple #[(.slice none 0 0), (.int .i64 20)]))
   (opN Try.prog (sBin .add 3 x19 v1) Kp fun x33 =>
    opN Try.prog (sBin .mul 3 (.int .i64 8) x33) Kp fun x34 =>
    opN Try.prog (sNil v0) Kp fun x35 =>
    opN Try.prog (sFA 115 x35 0) Kp fun x36 =>
    opN Try.prog (sFA 113 x36 1) Kp fun x37 =>
    opN Try.prog (sStore 3 x37 x34) Kp fun _ =>
    opN Try.prog (sNil v0) Kp fun x39 =>
    opN Try.prog (sFA 115 x39 0) Kp fun x40 =>
    opN Try.prog (sFA 113 x40 0) Kp fun x41 =>
    opN Try.prog (sLoad 39 x41) Kp fun x42 =>
    opN Try.prog (sBin .add 3 x19 v1) Kp fun x46 =>
    opN Try.prog (sSl 39 x42 (some x19) (some x46) none) Kp fun x47 =>
    opN Try.prog (sApp #[39, 39] 39 [(.slice none 0 0), x47]) Kp fun x48 =>
    K (.tuple #[x48, (.int .i64 0)])))
def bits_Reader_Raw_an : Ann := { cuts := [], blks := [], loops := [], drs := [] }
theorem bits_Reader_Raw_eq (v0 v1 : Value) (Kp : PK) (K : Value → WP) : cevF Try.prog bits_Reader_Raw_an Try.f85 [v0, v1] Kp K = bits_Reader_Raw v0 v1 Kp K := by kernel_rfl
theorem bits_Reader_Raw_calls {v0 v1 : Value} {Kp : PK} {K : Value → WP} {w : World} (h : bits_Reader_Raw v0 v1 Kp K w) : Calls Try.prog 85 #[v0, v1] w (after Kp K) :=
  calls_of_shape (calls_of_cev wide Try.func85 (an := bits_Reader_Raw_an) (args := [v0, v1]) (cast (congrFun (bits_Reader_Raw_eq v0 v1 Kp K) w).symm h))
theorem bits_Reader_Raw_cn {v0 v1 : Value} {W : World} {α : Type} {A : List HP} {r : α → Value} {B : α → List HP} (h : ∀ F, Ent W (A ++ F) (bits_Reader_Raw v0 v1 noP fun v w => ∃ x, v = r x ∧ sat W (B x ++ F) w)) : Cn Try.prog 85 [v0, v1] W A r B :=
  Cn.of (shape := bits_Reader_Raw v0 v1) Try.call85 (fun h => bits_Reader_Raw_calls h) h
theorem bits_Reader_Raw_cnP {v0 v1 : Value} {W : World} {α β : Type} {A : List HP} {r : α → Value} {B : α → List HP} {pc : β → List PanicEntry} {Bp : β → List HP} (h : ∀ F, Ent W (A ++ F) (bits_Reader_Raw v0 v1 (fun ch w => ∃ y, ch = pc y ∧ sat W (Bp y ++ F) w) fun v w => ∃ x, v = r x ∧ sat W (B x ++ F) w)) : CnP Try.prog 85 [v0, v1] W A r B pc Bp :=
  CnP.of (shape := bits_Reader_Raw v0 v1) Try.call85 (fun h => bits_Reader_Raw_calls h) h

/-- inflate_must -/
def inflate_must (v0 : Value) (Kp : PK) (K : Value → WP) : WP :=
  opN Try.prog (sEq .neq 23 (.tmp 2) (.const (.int .i64 0)) v0 (.int .i64 0)) Kp fun x3 =>
  condS x3
  (opN Try.prog (sMkI 23 v0) Kp fun x5 =>
   opN Try.prog (sPanic x5) Kp fun _ =>
   K (.tuple #[]))
  (K (.tuple #[]))
def inflate_must_an : Ann := { cuts := [], blks := [], loops := [], drs := [] }
theorem inflate_must_eq (v0 : Value) (Kp : PK) (K : Value → WP) : cevF Try.prog inflate_must_an Try.f86 [v0] Kp K = inflate_must v0 Kp K := by kernel_rfl
theorem inflate_must_calls {v0 : Value} {Kp : PK} {K : Value → WP} {w : World} (h : inflate_must v0 Kp K w) : Calls Try.prog 86 #[v0] w (after Kp K) :=
  calls_of_shape (calls_of_cev wide Try.func86 (an := inflate_must_an) (args := [v0]) (cast (congrFun (inflate_must_eq v0 Kp K) w).symm h))
theorem inflate_must_cn {v0 : Value} {W : World} {α : Type} {A : List HP} {r : α → Value} {B : α → List HP} (h : ∀ F, Ent W (A ++ F) (inflate_must v0 noP fun v w => ∃ x, v = r x ∧ sat W (B x ++ F) w)) : Cn Try.prog 86 [v0] W A r B :=
  Cn.of (shape := inflate_must v0) Try.call86 (fun h => inflate_must_calls h) h
theorem inflate_must_cnP {v0 : Value} {W : World} {α β : Type} {A : List HP} {r : α → Value} {B : α → List HP} {pc : β → List PanicEntry} {Bp : β → List HP} (h : ∀ F, Ent W (A ++ F) (inflate_must v0 (fun ch w => ∃ y, ch = pc y ∧ sat W (Bp y ++ F) w) fun v w => ∃ x, v = r x ∧ sat W (B x ++ F) w)) : CnP Try.prog 86 [v0] W A r B pc Bp :=
  CnP.of (shape := inflate_must v0) Try.call86 (fun h => inflate_must_calls h) h

/-- inflate_Fixed -/
def inflate_Fixed (Kp : PK) (K : Value → WP) : WP :=
  opN Try.prog (sCall (fn 100) [(.slice none 0 0), (.int .i64 144), (.int .i64 8)]) Kp fun x7 =>
  opN Try.prog (sCall (fn 100) [x7, (.int .i64 112), (.int .i64 9)]) Kp fun x8 =>
  opN Try.prog (sCall (fn 100) [x8, (.int .i64 24), (.int .i64 7)]) Kp fun x9 =>
  opN Try.prog (sCall (fn 100) [x9, (.int .i64 8), (.int .i64 8)]) Kp fun x10 =>
  opN Try.prog (sCall (fn 100) [(.slice none 0 0), (.int .i64 32), (.int .i64 5)]) Kp fun x13 =>
  K (.tuple #[x10, x13])
def inflate_Fixed_an : Ann := { cuts := [], blks := [], loops := [], drs := [] }
theorem inflate_Fixed_eq (Kp : PK) (K : Value → WP) : cevF Try.prog inflate_Fixed_an Try.f87 [] Kp K = inflate_Fixed Kp K := by kernel_rfl
theorem inflate_Fixed_calls  {Kp : PK} {K : Value → WP} {w : World} (h : inflate_Fixed Kp K w) : Calls Try.prog 87 #[] w (after Kp K) :=
  calls_of_shape (calls_of_cev wide Try.func87 (an := inflate_Fixed_an) (args := []) (cast (congrFun (inflate_Fixed_eq Kp K) w).symm h))
theorem inflate_Fixed_cn  {W : World} {α : Type} {A : List HP} {r : α → Value} {B : α → List HP} (h : ∀ F, Ent W (A ++ F) (inflate_Fixed noP fun v w => ∃ x, v = r x ∧ sat W (B x ++ F) w)) : Cn Try.prog 87 [] W A r B :=
  Cn.of (shape := inflate_Fixed) Try.call87 (fun h => inflate_Fixed_calls h) h
theorem inflate_Fixed_cnP  {W : World} {α β : Type} {A : List HP} {r : α → Value} {B : α → List HP} {pc : β → List PanicEntry} {Bp : β → List HP} (h : ∀ F, Ent W (A ++ F) (inflate_Fixed (fun ch w => ∃ y, ch = pc y ∧ sat W (Bp y ++ F) w) fun v w => ∃ x, v = r x ∧ sat W (B x ++ F) w)) : CnP Try.prog 87 [] W A r B pc Bp :=
  CnP.of (shape := inflate_Fixed) Try.call87 (fun h => inflate_Fixed_calls h) h

/-- inflate_stream_symbols -/
def inflate_stream_symbols (v0 v1 v2 : Value) (Kp : PK) (K : Value → WP) : WP :=
  loop0 (fun I1 m1 _  =>
   opN Try.prog (sNil v0) Kp fun x13 =>
   opN Try.prog (sFA 126 x13 0) Kp fun x14 =>
   opN Try.prog (sLoad 70 x14) Kp fun x15 =>
   opN Try.prog (sCall (fn 101) [v1, x15]) Kp fun x16 =>
   opN Try.prog (sEq .eql 3 (.tmp 18) (.const (.int .i64 256)) x16 (.int .i64 256)) Kp fun x19 =>
   condS x19
   (K (.tuple #[]))
   (opN Try.prog (sBin .lss 3 x16 (.int .i64 256)) Kp fun x22 =>
    condS x22
    (opN Try.prog (sCall (fn 84) [v0, (.int .i64 1)]) Kp fun x24 =>
     opN Try.prog (sNil v0) Kp fun x27 =>
     opN Try.prog (sFA 126 x27 1) Kp fun x28 =>
     opN Try.prog (sLoad 39 x28) Kp fun x29 =>
     opN Try.prog (sConv 3 5 x16) Kp fun x31 =>
     opN Try.prog (sBuildSl 39 1 [(0, x31)]) Kp fun x32 =>
     opN Try.prog (sApp #[39, 39] 39 [x29, x32]) Kp fun x33 =>
     opN Try.prog (sNil v0) Kp fun x34 =>
     opN Try.prog (sFA 126 x34 1) Kp fun x35 =>
     opN Try.prog (sStore 39 x35 x33) Kp fun _ =>
     next0 I1 m1)
    (opN Try.prog (sCall (fn 102) [x16]) Kp fun x38 =>
     opN Try.prog (sExt x38 0) Kp fun x39 =>
     opN Try.prog (sExt x38 1) Kp fun x40 =>
     opN Try.prog (sBin .gtr 3 x39 (.int .i64 0)) Kp fun x42 =>
     opN Try.prog (sCall (fn 83) [x42, (.int .i64 30)]) Kp fun x43 =>
     opN Try.prog (sCall (fn 71) [v0, x40]) Kp fun x47 =>
     opN Try.prog (sBin .add 3 x39 x47) Kp fun x48 =>
     opN Try.prog (sNil v0) Kp fun x52 =>
     opN Try.prog (sFA 126 x52 0) Kp fun x53 =>
     opN Try.prog (sLoad 70 x53) Kp fun x54 =>
     opN Try.prog (sCall (fn 101) [v2, x54]) Kp fun x55 =>
     opN Try.prog (sCall (fn 103) [x55]) Kp fun x56 =>
     opN Try.prog (sExt x56 0) Kp fun x57 =>
     opN Try.prog (sExt x56 1) Kp fun x58 =>
     opN Try.prog (sBin .gtr 3 x57 (.int .i64 0)) Kp fun x60 =>
     opN Try.prog (sCall (fn 83) [x60, (.int .i64 30)]) Kp fun x61 =>
     opN Try.prog (sCall (fn 71) [v0, x58]) Kp fun x65 =>
     opN Try.prog (sBin .add 3 x57 x65) Kp fun x66 =>
     opN Try.prog (sNil v0) Kp fun x69 =>
     opN Try.prog (sFA 126 x69 1) Kp fun x70 =>
     opN Try.prog (sLoad 39 x70) Kp fun x71 =>
     opN Try.prog (sLen #[39] 3 [x71]) Kp fun x72 =>
     opN Try.prog (sBin .leq 3 x66 x72) Kp fun x73 =>
     opN Try.prog (sCall (fn 83) [x73, (.int .i64 31)]) Kp fun x74 =>
     opN Try.prog (sCall (fn 84) [v0, x48]) Kp fun x77 =>
     loop1 (fun I2 m2 _ y79 =>
      opN Try.prog (sBin .lss 3 y79 x48) Kp fun x80 =>
      condS x80
      (drS (stD Try.prog (sNil v0) fun D2 x83 =>
        stD Try.prog (sFA 126 x83 1) fun D3 x84 =>
        stD Try.prog (sLoad 39 x84) fun D4 x85 =>
        stS Try.prog (sNil v0) fun x87 =>
        stS Try.prog (sFA 126 x87 1) fun x88 =>
        stS Try.prog (sLoad 39 x88) fun x89 =>
        stS Try.prog (sNil v0) fun x91 =>
        stS Try.prog (sFA 126 x91 1) fun x92 =>
        stS Try.prog (sLoad 39 x92) fun x93 =>
        stS Try.prog (sLen #[39] 3 [x93]) fun x94 =>
        stS Try.prog (sBin .sub 3 x94 x66) fun x96 =>
        stS Try.prog (sIA 39 x89 x96) fun x97 =>
        stS Try.prog (sLoad 5 x97) fun x98 =>
        opN Try.prog (sBuildSl 39 1 [(0, x98)]) Kp fun x99 =>
        (fun w => D4 w ∧ (fun w => D3 w ∧ (fun w => D2 w ∧ (opN Try.prog (sApp #[39, 39] 39 [x85, x99]) Kp fun x100 =>
            stS Try.prog (sNil v0) fun x101 =>
            stS Try.prog (sFA 126 x101 1) fun x102 =>
            opN Try.prog (sStore 39 x102 x100) Kp fun _ =>
            opN Try.prog (sBin .add 3 y79 (.int .i64 1)) Kp fun x103 =>
            next1 I2 m2 x103) w) w) w)))
      (next0 I1 m1)) (.int .i64 0))))
def inflate_stream_symbols_an : Ann := { cuts := [], blks := [], loops := [(0, []), (14, [79])], drs := [(15, [(0, 2), (1, 2), (2, 3), (3, 3), (4, 3), (5, 1), (6, 1), (7, 1), (8, 1), (9, 1), (10, 1), (11, 1), (12, 1), (13, 1), (14, 1), (15, 1), (16, 1), (17, 1), (18, 0), (19, 0), (20, 1), (21, 1), (22, 0)])] }
theorem inflate_stream_symbols_eq (v0 v1 v2 : Value) (Kp : PK) (K : Value → WP) : cevF Try.prog inflate_stream_symbols_an Try.f88 [v0, v1, v2] Kp K = inflate_stream_symbols v0 v1 v2 Kp K := by kernel_rfl
theorem inflate_stream_symbols_calls {v0 v1 v2 : Value} {Kp : PK} {K : Value → WP} {w : World} (h : inflate_stream_symbols v0 v1 v2 Kp K w) : Calls Try.prog 88 #[v0, v1, v2] w (after Kp K) :=
  calls_of_shape (calls_of_cev wide Try.func88 (an := inflate_stream_symbols_an) (args := [v0, v1, v2]) (cast (congrFun (inflate_stream_symbols_eq v0 v1 v2 Kp K) w).symm h))
theorem inflate_stream_symbols_cn {v0 v1 v2 : Value} {W : World} {α : Type} {A : List HP} {r : α → Value} {B : α → List HP} (h : ∀ F, Ent W (A ++ F) (inflate_stream_symbols v0 v1 v2 noP fun v w => ∃ x, v = r x ∧ sat W (B x ++ F) w)) : Cn Try.prog 88 [v0, v1, v2] W A r B :=
  Cn.of (shape := inflate_stream_symbols v0 v1 v2) Try.call88 (fun h => inflate_stream_symbols_calls h) h
theorem inflate_stream_symbols_cnP {v0 v1 v2 : Value} {W : World} {α β : Type} {A : List HP} {r : α → Value} {B : α → List HP} {pc : β → List PanicEntry} {Bp : β → List HP} (h : ∀ F, Ent W (A ++ F) (inflate_stream_symbols v0 v1 v2 (fun ch w => ∃ y, ch = pc y ∧ sat W (Bp y ++ F) w) fun v w => ∃ x, v = r x ∧ sat W (B x ++ F) w)) : CnP Try.prog 88 [v0, v1, v2] W A r B pc Bp :=
  CnP.of (shape := inflate_stream_symbols v0 v1 v2) Try.call88 (fun h => inflate_stream_symbols_calls h) h

/-- inflate_decoder -/
def inflate_decoder (v0 : Value) (Kp : PK) (K : Value → WP) : WP :=
  opN Try.prog (sCall (fn 35) [v0]) Kp fun x7 =>
  opN Try.prog (sExt x7 0) Kp fun x8 =>
  opN Try.prog (sExt x7 1) Kp fun x9 =>
  opN Try.prog (sCall (fn 86) [x9]) Kp fun x11 =>
  K x8
def inflate_decoder_an : Ann := { cuts := [], blks := [], loops := [], drs := [] }
theorem inflate_decoder_eq (v0 : Value) (Kp : PK) (K : Value → WP) : cevF Try.prog inflate_decoder_an Try.f89 [v0] Kp K = inflate_decoder v0 Kp K := by kernel_rfl
theorem inflate_decoder_calls {v0 : Value} {Kp : PK} {K : Value → WP} {w : World} (h : inflate_decoder v0 Kp K w) : Calls Try.prog 89 #[v0] w (after Kp K) :=
  calls_of_shape (calls_of_cev wide Try.func89 (an := inflate_decoder_an) (args := [v0]) (cast (congrFun (inflate_decoder_eq v0 Kp K) w).symm h))
theorem inflate_decoder_cn {v0 : Value} {W : World} {α : Type} {A : List HP} {r : α → Value} {B : α → List HP} (h : ∀ F, Ent W (A ++ F) (inflate_decoder v0 noP fun v w => ∃ x, v = r x ∧ sat W (B x ++ F) w)) : Cn Try.prog 89 [v0] W A r B :=
  Cn.of (shape := inflate_decoder v0) Try.call89 (fun h => inflate_decoder_calls h) h
theorem inflate_decoder_cnP {v0 : Value} {W : World} {α β : Type} {A : List HP} {r : α → Value} {B : α → List HP} {pc : β → List PanicEntry} {Bp : β → List HP} (h : ∀ F, Ent W (A ++ F) (inflate_decoder v0 (fun ch w => ∃ y, ch = pc y ∧ sat W (Bp y ++ F) w) fun v w => ∃ x, v = r x ∧ sat W (B x ++ F) w)) : CnP Try.prog 89 [v0] W A r B pc Bp :=
  CnP.of (shape := inflate_decoder v0) Try.call89 (fun h => inflate_decoder_calls h) h

/-- inflate_stream_row -/
def inflate_stream_row (v0 v1 v2 : Value) (Kp : PK) (K : Value → WP) : WP :=
  loop1 (fun I1 m1 _ y7 =>
   opN Try.prog (sLen #[22] 3 [y7]) Kp fun x11 =>
   opN Try.prog (sBin .lss 3 x11 v2) Kp fun x13 =>
   condS x13
   (opN Try.prog (sNil v0) Kp fun x16 =>
    opN Try.prog (sFA 126 x16 0) Kp fun x17 =>
    opN Try.prog (sLoad 70 x17) Kp fun x18 =>
    opN Try.prog (sCall (fn 101) [v1, x18]) Kp fun x19 =>
    cut2 (fun J1 =>
     opN Try.prog (sEq .eql 3 (.tmp 20) (.const (.int .i64 16)) x19 (.int .i64 16)) Kp fun x22 =>
     condS x22
     (opN Try.prog (sCall (fn 71) [v0, (.int .i64 2)]) Kp fun x24 =>
      opN Try.prog (sBin .add 3 (.int .i64 3) x24) Kp fun x25 =>
      opN Try.prog (sLen #[22] 3 [y7]) Kp fun x27 =>
      opN Try.prog (sBin .gtr 3 x27 (.int .i64 0)) Kp fun x28 =>
      opN Try.prog (sCall (fn 83) [x28, (.int .i64 30)]) Kp fun x29 =>
      opN Try.prog (sLen #[22] 3 [y7]) Kp fun x32 =>
      opN Try.prog (sBin .sub 3 x32 (.int .i64 1)) Kp fun x33 =>
      opN Try.prog (sIA 22 y7 x33) Kp fun x34 =>
      opN Try.prog (sLoad 3 x34) Kp fun x35 =>
      J1 x35 x25)
     (opN Try.prog (sEq .eql 3 (.tmp 20) (.const (.int .i64 17)) x19 (.int .i64 17)) Kp fun x37 =>
      condS x37
      (opN Try.prog (sCall (fn 71) [v0, (.int .i64 3)]) Kp fun x39 =>
       opN Try.prog (sBin .add 3 (.int .i64 3) x39) Kp fun x40 =>
       J1 (.int .i64 0) x40)
      (opN Try.prog (sEq .eql 3 (.tmp 20) (.const (.int .i64 18)) x19 (.int .i64 18)) Kp fun x42 =>
       condS x42
       (opN Try.prog (sCall (fn 71) [v0, (.int .i64 7)]) Kp fun x44 =>
        opN Try.prog (sBin .add 3 (.int .i64 11) x44) Kp fun x45 =>
        J1 (.int .i64 0) x45)
       (J1 x19 (.int .i64 1))))) fun _ z8 z9 =>
    opN Try.prog (sLen #[22] 3 [y7]) Kp fun x49 =>
    opN Try.prog (sBin .sub 3 v2 x49) Kp fun x50 =>
    opN Try.prog (sBin .leq 3 z9 x50) Kp fun x51 =>
    opN Try.prog (sCall (fn 83) [x51, (.int .i64 30)]) Kp fun x52 =>
    loop2 (fun I2 m2 _ y7_2 y54 =>
     opN Try.prog (sBin .lss 3 y54 z9) Kp fun x55 =>
     condS x55
     (opN Try.prog (sBuildSl 22 1 [(0, z8)]) Kp fun x58 =>
      opN Try.prog (sApp #[22, 22] 22 [y7_2, x58]) Kp fun x59 =>
      opN Try.prog (sBin .add 3 y54 (.int .i64 1)) Kp fun x60 =>
      next2 I2 m2 x59 x60)
     (next1 I1 m1 y7_2)) y7 (.int .i64 0))
   (K y7)) (.slice none 0 0)
def inflate_stream_row_an : Ann := { cuts := [(14, [8, 9])], blks := [], loops := [(2, [7]), (16, [7, 54])], drs := [] }
theorem inflate_stream_row_eq (v0 v1 v2 : Value) (Kp : PK) (K : Value → WP) : cevF Try.prog inflate_stream_row_an Try.f90 [v0, v1, v2] Kp K = inflate_stream_row v0 v1 v2 Kp K := by kernel_rfl
theorem inflate_stream_row_calls {v0 v1 v2 : Value} {Kp : PK} {K : Value → WP} {w : World} (h : inflate_stream_row v0 v1 v2 Kp K w) : Calls Try.prog 90 #[v0, v1, v2] w (after Kp K) :=
  calls_of_shape (calls_of_cev wide Try.func90 (an := inflate_stream_row_an) (args := [v0, v1, v2]) (cast (congrFun (inflate_stream_row_eq v0 v1 v2 Kp K) w).symm h))
theorem inflate_stream_row_cn {v0 v1 v2 : Value} {W : World} {α : Type} {A : List HP} {r : α → Value} {B : α → List HP} (h : ∀ F, Ent W (A ++ F) (inflate_stream_row v0 v1 v2 noP fun v w => ∃ x, v = r x ∧ sat W (B x ++ F) w)) : Cn Try.prog 90 [v0, v1, v2] W A r B :=
  Cn.of (shape := inflate_stream_row v0 v1 v2) Try.call90 (fun h => inflate_stream_row_calls h) h
theorem inflate_stream_row_cnP {v0 v1 v2 : Value} {W : World} {α β : Type} {A : List HP} {r : α → Value} {B : α → List HP} {pc : β → List PanicEntry} {Bp : β → List HP} (h : ∀ F, Ent W (A ++ F) (inflate_stream_row v0 v1 v2 (fun ch w => ∃ y, ch = pc y ∧ sat W (Bp y ++ F) w) fun v w => ∃ x, v = r x ∧ sat W (B x ++ F) w)) : CnP Try.prog 90 [v0, v1, v2] W A r B pc Bp :=
  CnP.of (shape := inflate_stream_row v0 v1 v2) Try.call90 (fun h => inflate_stream_row_calls h) h

/-- inflate_enough -/
def inflate_enough (v0 : Value) (Kp : PK) (K : Value → WP) : WP :=
  opN Try.prog (sLen #[22] 3 [v0]) Kp fun x8 =>
  loop3 (fun I1 m1 _ y3 y4 y9 =>
   opN Try.prog (sBin .lss 3 y9 x8) Kp fun x10 =>
   condS x10
   (opN Try.prog (sIA 22 v0 y9) Kp fun x11 =>
    opN Try.prog (sLoad 3 x11) Kp fun x12 =>
    opN Try.prog (sBin .gtr 3 x12 (.int .i64 0)) Kp fun x14 =>
    condS x14
    (opN Try.prog (sBin .add 3 y3 (.int .i64 1)) Kp fun x16 =>
     opN Try.prog (sBin .add 3 y4 x12) Kp fun x19 =>
     opN Try.prog (sBin .add 3 y9 (.int .i64 1)) Kp fun x20 =>
     next3 I1 m1 x16 x19 x20)
    (opN Try.prog (sBin .add 3 y9 (.int .i64 1)) Kp fun x20 =>
     next3 I1 m1 y3 y4 x20))
   (opN Try.prog (sEq .eql 3 (.tmp 21) (.const (.int .i64 0)) y3 (.int .i64 0)) Kp fun x22 =>
    gdK x22 false (fun k => k y3) fun x24 =>
    gdK x22 false (opN Try.prog (sEq .eql 3 (.tmp 24) (.const (.int .i64 1)) x24 (.int .i64 1)) Kp) fun x25 =>
    gdK x22 false (fun k => k x25) fun x26 =>
    gdK x26 true (fun k => k y4) fun x27 =>
    gdK x26 true (opN Try.prog (sEq .eql 3 (.tmp 27) (.const (.int .i64 1)) x27 (.int .i64 1)) Kp) fun x28 =>
    gdK x22 false (opN Try.prog (sPick x26 x28 (.bool false)) Kp) fun x29 =>
    opN Try.prog (sPick x22 (.bool true) x29) Kp fun x30 =>
    gdK x30 false (fun k => k v0) fun x32 =>
    gdK x30 false (opN Try.prog (sCall (fn 22) [x32]) Kp) fun x33 =>
    opN Try.prog (sPick x30 (.bool true) x33) Kp fun x34 =>
    K x34)) (.int .i64 0) (.int .i64 0) (.int .i64 0)
def inflate_enough_an : Ann := { cuts := [], blks := [], loops := [(3, [3, 4, 9])], drs := [] }
theorem inflate_enough_eq (v0 : Value) (Kp : PK) (K : Value → WP) : cevF Try.prog inflate_enough_an Try.f91 [v0] Kp K = inflate_enough v0 Kp K := by kernel_rfl
theorem inflate_enough_calls {v0 : Value} {Kp : PK} {K : Value → WP} {w : World} (h : inflate_enough v0 Kp K w) : Calls Try.prog 91 #[v0] w (after Kp K) :=
  calls_of_shape (calls_of_cev wide Try.func91 (an := inflate_enough_an) (args := [v0]) (cast (congrFun (inflate_enough_eq v0 Kp K) w).symm h))
theorem inflate_enough_cn {v0 : Value} {W : World} {α : Type} {A : List HP} {r : α → Value} {B : α → List HP} (h : ∀ F, Ent W (A ++ F) (inflate_enough v0 noP fun v w => ∃ x, v = r x ∧ sat W (B x ++ F) w)) : Cn Try.prog 91 [v0] W A r B :=
  Cn.of (shape := inflate_enough v0) Try.call91 (fun h => inflate_enough_calls h) h
theorem inflate_enough_cnP {v0 : Value} {W : World} {α β : Type} {A : List HP} {r : α → Value} {B : α → List HP} {pc : β → List PanicEntry} {Bp : β → List HP} (h : ∀ F, Ent W (A ++ F) (inflate_enough v0 (fun ch w => ∃ y, ch = pc y ∧ sat W (Bp y ++ F) w) fun v w => ∃ x, v = r x ∧ sat W (B x ++ F) w)) : CnP Try.prog 91 [v0] W A r B pc Bp :=
  CnP.of (shape := inflate_enough v0) Try.call91 (fun h => inflate_enough_calls h) h

/-- ref02_Reader_Align -/
def ref02_Reader_Align (v0 : Value) (Kp : PK) (K : Value → WP) : WP :=
  opN Try.prog (sNil v0) Kp fun x4 =>
  opN Try.prog (sFA 117 x4 1) Kp fun x5 =>
  opN Try.prog (sLoad 3 x5) Kp fun x6 =>
  opN Try.prog (sBin .add 3 x6 (.int .i64 7)) Kp fun x7 =>
  opN Try.prog (sBin .quo 3 x7 (.int .i64 8)) Kp fun x8 =>
  opN Try.prog (sBin .mul 3 x8 (.int .i64 8)) Kp fun x9 =>
  opN Try.prog (sNil v0) Kp fun x10 =>
  opN Try.prog (sFA 117 x10 1) Kp fun x11 =>
  opN Try.prog (sStore 3 x11 x9) Kp fun _ =>
  K (.tuple #[])
def ref02_Reader_Align_an : Ann := { cuts := [], blks := [], loops := [], drs := [] }
theorem ref02_Reader_Align_eq (v0 : Value) (Kp : PK) (K : Value → WP) : cevF Try.prog ref02_Reader_Align_an Try.f92 [v0] Kp K = ref02_Reader_Align v0 Kp K := by kernel_rfl
theorem ref02_Reader_Align_calls {v0 : Value} {Kp : PK} {K : Value → WP} {w : World} (h : ref02_Reader_Align v0 Kp K w) : Calls Try.prog 92 #[v0] w (after Kp K) :=
  calls_of_shape (calls_of_cev wide Try.func92 (an := ref02_Reader_Align_an) (args := [v0]) (cast (congrFun (ref02_Reader_Align_eq v0 Kp K) w).symm h))
theorem ref02_Reader_Align_cn {v0 : Value} {W : World} {α : Type} {A : List HP} {r : α → Value} {B : α → List HP} (h : ∀ F, Ent W (A ++ F) (ref02_Reader_Align v0 noP fun v w => ∃ x, v = r x ∧ sat W (B x ++ F) w)) : Cn Try.prog 92 [v0] W A r B :=
  Cn.of (shape := ref02_Reader_Align v0) Try.call92 (fun h => ref02_Reader_Align_calls h) h
theorem ref02_Reader_Align_cnP {v0 : Value} {W : World} {α β : Type} {A : List HP} {r : α → Value} {B : α → List HP} {pc : β → List PanicEntry} {Bp : β → List HP} (h : ∀ F, Ent W (A ++ F) (ref02_Reader_Align v0 (fun ch w => ∃ y, ch = pc y ∧ sat W (Bp y ++ F) w) fun v w => ∃ x, v = r x ∧ sat W (B x ++ F) w)) : CnP Try.prog 92 [v0] W A r B pc Bp :=
  CnP.of (shape := ref02_Reader_Align v0) Try.call92 (fun h => ref02_Reader_Align_calls h) h

/-- ref02_Reader_Raw -/
def ref02_Reader_Raw (v0 v1 : Value) (Kp : PK) (K : Value → WP) : WP :=
  opN Try.prog (sBin .lss 3 v1 (.int .i64 0)) Kp fun x8 =>
  condS x8
  (K (.tuple #[(.slice none 0 0), (.int .i64 1)]))
  (opN Try.prog (sNil v0) Kp fun x10 =>
   opN Try.prog (sFA 117 x10 1) Kp fun x11 =>
   opN Try.prog (sLoad 3 x11) Kp fun x12 =>
   opN Try.prog (sBin .add 3 x12 (.int .i64 7)) Kp fun x13 =>
   opN Try.prog (sBin .quo 3 x13 (.int .i64 8)) Kp fun x14 =>
   opN Try.prog (sNil v0) Kp fun x17 =>
   opN Try.prog (sFA 117 x17 0) Kp fun x18 =>
   opN Try.prog (sLoad 39 x18) Kp fun x19 =>
   opN Try.prog (sLen #[39] 3 [x19]) Kp fun x20 =>
   opN Try.prog (sBin .sub 3 x20 x14) Kp fun x22 =>
   opN Try.prog (sBin .gtr 3 v1 x22) Kp fun x23 =>
   condS x23
   (K (.tuple #[(.slice none 0 0), (.int .i64 20)]))
   (opN Try.prog (sBin .add 3 x14 v1) Kp fun x27 =>
    opN Try.prog (sBin .mul 3 (.int .i64 8) x27) Kp fun x28 =>
    opN Try.prog (sNil v0) Kp fun x29 =>
    opN Try.prog (sFA 117 x29 1) Kp fun x30 =>
    opN Try.prog (sStore 3 x30 x28) Kp fun _ =>
    opN Try.prog (sBuildSl 39 0 []) Kp fun x31 =>
    opN Try.prog (sNil v0) Kp fun x33 =>
    opN Try.prog (sFA 117 x33 0) Kp fun x34 =>
    opN Try.prog (sLoad 39 x34) Kp fun x35 =>
    opN Try.prog (sBin .add 3 x14 v1) Kp fun x39 =>
    opN Try.prog (sSl 39 x35 (some x14) (some x39) none) Kp fun x40 =>
    opN Try.prog (sApp #[39, 39] 39 [x31, x40]) Kp fun x41 =>
    K (.tuple #[x41, (.int .i64 0)])))
def ref02_Reader_Raw_an : Ann := { cuts := [], blks := [], loops := [], drs := [] }
theorem ref02_Reader_Raw_eq (v0 v1 : Value) (Kp : PK) (K : Value → WP) : cevF Try.prog ref02_Reader_Raw_an Try.f93 [v0, v1] Kp K = ref02_Reader_Raw v0 v1 Kp K := by kernel_rfl
theorem ref02_Reader_Raw_calls {v0 v1 : Value} {Kp : PK} {K : Value → WP} {w : World} (h : ref02_Reader_Raw v0 v1 Kp K w) : Calls Try.prog 93 #[v0, v1] w (after Kp K) :=
  calls_of_shape (calls_of_cev wide Try.func93 (an := ref02_Reader_Raw_an) (args := [v0, v1]) (cast (congrFun (ref02_Reader_Raw_eq v0 v1 Kp K) w).symm h))
theorem ref02_Reader_Raw_cn {v0 v1 : Value} {W : World} {α : Type} {A : List HP} {r : α → Value} {B : α → List HP} (h : ∀ F, Ent W (A ++ F) (ref02_Reader_Raw v0 v1 noP fun v w => ∃ x, v = r x ∧ sat W (B x ++ F) w)) : Cn Try.prog 93 [v0, v1] W A r B :=
  Cn.of (shape := ref02_Reader_Raw v0 v1) Try.call93 (fun h => ref02_Reader_Raw_calls h) h
theorem ref02_Reader_Raw_cnP {v0 v1 : Value} {W : World} {α β : Type} {A : List HP} {r : α → Value} {B : α → List HP} {pc : β → List PanicEntry} {Bp : β → List HP} (h : ∀ F, Ent W (A ++ F) (ref02_Reader_Raw v0 v1 (fun ch w => ∃ y, ch = pc y ∧ sat W (Bp y ++ F) w) fun v w => ∃ x, v = r x ∧ sat W (B x ++ F) w)) : CnP Try.prog 93 [v0, v1] W A r B pc Bp :=
  CnP.of (shape := ref02_Reader_Raw v0 v1) Try.call93 (fun h => ref02_Reader_Raw_calls h) h

/-- ref05_stream_next -/
def ref05_stream_next (v0 v1 : Value) (Kp : PK) (K : Value → WP) : WP :=
  opN Try.prog (sNil v0) Kp fun x8 =>
  opN Try.prog (sFA 132 x8 3) Kp fun x9 =>
  opN Try.prog (sLoad 3 x9) Kp fun x10 =>
  opN Try.prog (sEq .neq 3 (.tmp 10) (.const (.int .i64 0)) x10 (.int .i64 0)) Kp fun x11 =>
  condS x11
  (K (.int .i64 0))
  (opN Try.prog (sNil v0) Kp fun x15 =>
   opN Try.prog (sFA 132 x15 0) Kp fun x16 =>
   opN Try.prog (sLoad 72 x16) Kp fun x17 =>
   opN Try.prog (sCall (fn 40) [v1, x17]) Kp fun x18 =>
   opN Try.prog (sExt x18 0) Kp fun x19 =>
   opN Try.prog (sExt x18 1) Kp fun x20 =>
   opN Try.prog (sEq .neq 3 (.tmp 21) (.const (.int .i64 0)) x20 (.int .i64 0)) Kp fun x22 =>
   condS x22
   (opN Try.prog (sCall (fn 77) [v0, x20]) Kp fun x25 =>
    K x19)
   (K x19))
def ref05_stream_next_an : Ann := { cuts := [], blks := [], loops := [], drs := [] }
theorem ref05_stream_next_eq (v0 v1 : Value) (Kp : PK) (K : Value → WP) : cevF Try.prog ref05_stream_next_an Try.f94 [v0, v1] Kp K = ref05_stream_next v0 v1 Kp K := by kernel_rfl
theorem ref05_stream_next_calls {v0 v1 : Value} {Kp : PK} {K : Value → WP} {w : World} (h : ref05_stream_next v0 v1 Kp K w) : Calls Try.prog 94 #[v0, v1] w (after Kp K) :=
  calls_of_shape (calls_of_cev wide Try.func94 (an := ref05_stream_next_an) (args := [v0, v1]) (cast (congrFun (ref05_stream_next_eq v0 v1 Kp K) w).symm h))
theorem ref05_stream_next_cn {v0 v1 : Value} {W : World} {α : Type} {A : List HP} {r : α → Value} {B : α → List HP} (h : ∀ F, Ent W (A ++ F) (ref05_stream_next v0 v1 noP fun v w => ∃ x, v = r x ∧ sat W (B x ++ F) w)) : Cn Try.prog 94 [v0, v1] W A r B :=
  Cn.of (shape := ref05_stream_next v0 v1) Try.call94 (fun h => ref05_stream_next_calls h) h
theorem ref05_stream_next_cnP {v0 v1 : Value} {W : World} {α β : Type} {A : List HP} {r : α → Value} {B : α → List HP} {pc : β → List PanicEntry} {Bp : β → List HP} (h : ∀ F, Ent W (A ++ F) (ref05_stream_next v0 v1 (fun ch w => ∃ y, ch = pc y ∧ sat W (Bp y ++ F) w) fun v w => ∃ x, v = r x ∧ sat W (B x ++ F) w)) : CnP Try.prog 94 [v0, v1] W A r B pc Bp :=
  CnP.of (shape := ref05_stream_next v0 v1) Try.call94 (fun h => ref05_stream_next_calls h) h

/-- ref05_stream_copied -/
def ref05_stream_copied (v0 v1 v2 : Value) (Kp : PK) (K : Value → WP) : WP :=
  opN Try.prog (sBin .gtr 3 v1 (.int .i64 285)) Kp fun x14 =>
  condS x14
  (opN Try.prog (sCall (fn 77) [v0, (.int .i64 30)]) Kp fun x16 =>
   K (.tuple #[]))
  (opN Try.prog (sCall (fn 104) [v1]) Kp fun x19 =>
   opN Try.prog (sExt x19 0) Kp fun x20 =>
   opN Try.prog (sExt x19 1) Kp fun x21 =>
   opN Try.prog (sCall (fn 72) [v0, x21]) Kp fun x25 =>
   opN Try.prog (sBin .add 3 x20 x25) Kp fun x26 =>
   opN Try.prog (sCall (fn 94) [v0, v2]) Kp fun x29 =>
   cut0 (fun J1 =>
    opN Try.prog (sNil v0) Kp fun x31 =>
    opN Try.prog (sFA 132 x31 3) Kp fun x32 =>
    opN Try.prog (sLoad 3 x32) Kp fun x33 =>
    opN Try.prog (sEq .eql 3 (.tmp 33) (.const (.int .i64 0)) x33 (.int .i64 0)) Kp fun x34 =>
    gdK x34 true (fun k => k x29) fun x36 =>
    gdK x34 true (opN Try.prog (sBin .gtr 3 x36 (.int .i64 29)) Kp) fun x37 =>
    opN Try.prog (sPick x34 x37 (.bool false)) Kp fun x38 =>
    condS x38
    (opN Try.prog (sCall (fn 77) [v0, (.int .i64 30)]) Kp fun x40 =>
     J1)
    (J1)) fun _ =>
   opN Try.prog (sCall (fn 105) [x29]) Kp fun x43 =>
   opN Try.prog (sExt x43 0) Kp fun x44 =>
   opN Try.prog (sExt x43 1) Kp fun x45 =>
   opN Try.prog (sCall (fn 72) [v0, x45]) Kp fun x49 =>
   opN Try.prog (sBin .add 3 x44 x49) Kp fun x50 =>
   cut0 (fun J2 =>
    opN Try.prog (sNil v0) Kp fun x52 =>
    opN Try.prog (sFA 132 x52 3) Kp fun x53 =>
    opN Try.prog (sLoad 3 x53) Kp fun x54 =>
    opN Try.prog (sEq .eql 3 (.tmp 54) (.const (.int .i64 0)) x54 (.int .i64 0)) Kp fun x55 =>
    gdK x55 true (fun k => k x50) fun x57 =>
    gdK x55 true (fun k => k v0) fun x58 =>
    gdK x55 true (opN Try.prog (sNil x58) Kp) fun x59 =>
    gdK x55 true (opN Try.prog (sFA 132 x59 1) Kp) fun x60 =>
    gdK x55 true (opN Try.prog (sLoad 39 x60) Kp) fun x61 =>
    gdK x55 true (opN Try.prog (sLen #[39] 3 [x61]) Kp) fun x62 =>
    gdK x55 true (opN Try.prog (sBin .gtr 3 x57 x62) Kp) fun x63 =>
    opN Try.prog (sPick x55 x63 (.bool false)) Kp fun x64 =>
    condS x64
    (opN Try.prog (sCall (fn 77) [v0, (.int .i64 31)]) Kp fun x66 =>
     J2)
    (J2)) fun _ =>
   cut0 (fun J3 =>
    drS (stS Try.prog (sNil v0) fun x68 =>
     stS Try.prog (sFA 132 x68 3) fun x69 =>
     stS Try.prog (sLoad 3 x69) fun x70 =>
     stS Try.prog (sEq .eql 3 (.tmp 70) (.const (.int .i64 0)) x70 (.int .i64 0)) fun x71 =>
     gdK x71 true (fun k => k x26) fun x73 =>
     gdK x71 true (fun k => k v0) fun x74 =>
     gdK x71 true (stS Try.prog (sNil x74)) fun x75 =>
     gdK x71 true (stS Try.prog (sFA 132 x75 2)) fun x76 =>
     gdK x71 true (stS Try.prog (sLoad 3 x76)) fun x77 =>
     gdK x71 true (fun k => k v0) fun x78 =>
     gdK x71 true (stS Try.prog (sNil x78)) fun x79 =>
     gdK x71 true (stS Try.prog (sFA 132 x79 1)) fun x80 =>
     gdK x71 true (stS Try.prog (sLoad 39 x80)) fun x81 =>
     gdK x71 true (stS Try.prog (sLen #[39] 3 [x81])) fun x82 =>
     gdK x71 true (stS Try.prog (sBin .sub 3 x77 x82)) fun x83 =>
     gdK x71 true (stS Try.prog (sBin .gtr 3 x73 x83)) fun x84 =>
     stS Try.prog (sPick x71 x84 (.bool false)) fun x85 =>
     condS x85
     (opN Try.prog (sCall (fn 77) [v0, (.int .i64 6)]) Kp fun x87 =>
      J3)
     (J3))) fun _ =>
   loop1 (fun I1 m1 _ y12 =>
    opN Try.prog (sBin .lss 3 y12 x26) Kp fun x90 =>
    gdK x90 true (fun k => k v0) fun x92 =>
    gdK x90 true (opN Try.prog (sNil x92) Kp) fun x93 =>
    gdK x90 true (opN Try.prog (sFA 132 x93 3) Kp) fun x94 =>
    gdK x90 true (opN Try.prog (sLoad 3 x94) Kp) fun x95 =>
    gdK x90 true (opN Try.prog (sEq .eql 3 (.tmp 95) (.const (.int .i64 0)) x95 (.int .i64 0)) Kp) fun x96 =>
    opN Try.prog (sPick x90 x96 (.bool false)) Kp fun x97 =>
    condS x97
    (drS (stD Try.prog (sNil v0) fun D2 x102 =>
      stD Try.prog (sFA 132 x102 1) fun D3 x103 =>
      stD Try.prog (sLoad 39 x103) fun D4 x104 =>
      stS Try.prog (sNil v0) fun x106 =>
      stS Try.prog (sFA 132 x106 1) fun x107 =>
      stS Try.prog (sLoad 39 x107) fun x108 =>
      stS Try.prog (sNil v0) fun x110 =>
      stS Try.prog (sFA 132 x110 1) fun x111 =>
      stS Try.prog (sLoad 39 x111) fun x112 =>
      stS Try.prog (sLen #[39] 3 [x112]) fun x113 =>
      stS Try.prog (sBin .sub 3 x113 x50) fun x115 =>
      stS Try.prog (sIA 39 x108 x115) fun x116 =>
      stS Try.prog (sLoad 5 x116) fun x117 =>
      opN Try.prog (sBuildSl 39 1 [(0, x117)]) Kp fun x118 =>
      (fun w => D4 w ∧ (fun w => D3 w ∧ (fun w => D2 w ∧ (opN Try.prog (sApp #[39, 39] 39 [x104, x118]) Kp fun x119 =>
          stS Try.prog (sNil v0) fun x120 =>
          stS Try.prog (sFA 132 x120 1) fun x121 =>
          opN Try.prog (sStore 39 x121 x119) Kp fun _ =>
          opN Try.prog (sBin .add 3 y12 (.int .i64 1)) Kp fun x99 =>
          next1 I1 m1 x99) w) w) w)))
    (K (.tuple #[]))) (.int .i64 0))
def ref05_stream_copied_an : Ann := { cuts := [(7, []), (11, []), (13, [])], blks := [], loops := [(14, [12])], drs := [(11, [(0, 1), (1, 1), (2, 1), (3, 1), (4, 1), (5, 1), (6, 1), (7, 1), (8, 1), (9, 1), (10, 1), (11, 1), (12, 1), (13, 1), (14, 1), (15, 1), (16, 1), (17, 1), (18, 1)]), (16, [(0, 2), (1, 2), (2, 3), (3, 3), (4, 3), (5, 1), (6, 1), (7, 1), (8, 1), (9, 1), (10, 1), (11, 1), (12, 1), (13, 1), (14, 1), (15, 1), (16, 1), (17, 1), (18, 0), (19, 0), (20, 1), (21, 1), (22, 0)])] }
theorem ref05_stream_copied_eq (v0 v1 v2 : Value) (Kp : PK) (K : Value → WP) : cevF Try.prog ref05_stream_copied_an Try.f95 [v0, v1, v2] Kp K = ref05_stream_copied v0 v1 v2 Kp K := by kernel_rfl
theorem ref05_stream_copied_calls {v0 v1 v2 : Value} {Kp : PK} {K : Value → WP} {w : World} (h : ref05_stream_copied v0 v1 v2 Kp K w) : Calls Try.prog 95 #[v0, v1, v2] w (after Kp K) :=
  calls_of_shape (calls_of_cev wide Try.func95 (an := ref05_stream_copied_an) (args := [v0, v1, v2]) (cast (congrFun (ref05_stream_copied_eq v0 v1 v2 Kp K) w).symm h))
theorem ref05_stream_copied_cn {v0 v1 v2 : Value} {W : World} {α : Type} {A : List HP} {r : α → Value} {B : α → List HP} (h : ∀ F, Ent W (A ++ F) (ref05_stream_copied v0 v1 v2 noP fun v w => ∃ x, v = r x ∧ sat W (B x ++ F) w)) : Cn Try.prog 95 [v0, v1, v2] W A r B :=
  Cn.of (shape := ref05_stream_copied v0 v1 v2) Try.call95 (fun h => ref05_stream_copied_calls h) h
theorem ref05_stream_copied_cnP {v0 v1 v2 : Value} {W : World} {α β : Type} {A : List HP} {r : α → Value} {B : α → List HP} {pc : β → List PanicEntry} {Bp : β → List HP} (h : ∀ F, Ent W (A ++ F) (ref05_stream_copied v0 v1 v2 (fun ch w => ∃ y, ch = pc y ∧ sat W (Bp y ++ F) w) fun v w => ∃ x, v = r x ∧ sat W (B x ++ F) w)) : CnP Try.prog 95 [v0, v1, v2] W A r B pc Bp :=
  CnP.of (shape := ref05_stream_copied v0 v1 v2) Try.call95 (fun h => ref05_stream_copied_calls h) h

/-- ref05_order -/
def ref05_order (Kp : PK) (K : Value → WP) : WP :=
  opN Try.prog (sBuildSl 22 19 [(0, (.int .i64 16)), (1, (.int .i64 17)), (2, (.int .i64 18)), (3, (.int .i64 0)), (4, (.int .i64 8)), (5, (.int .i64 7)), (6, (.int .i64 9)), (7, (.int .i64 6)), (8, (.int .i64 10)), (9, (.int .i64 5)), (10, (.int .i64 11)), (11, (.int .i64 4)), (12, (.int .i64 12)), (13, (.int .i64 3)), (14, (.int .i64 13)), (15, (.int .i64 2)), (16, (.int .i64 14)), (17, (.int .i64 1)), (18, (.int .i64 15))]) Kp fun x1 =>
  K x1
def ref05_order_an : Ann := { cuts := [], blks := [], loops := [], drs := [] }
theorem ref05_order_eq (Kp : PK) (K : Value → WP) : cevF Try.prog ref05_order_an Try.f96 [] Kp K = ref05_order Kp K := by kernel_rfl
theorem ref05_order_calls  {Kp : PK} {K : Value → WP} {w : World} (h : ref05_order Kp K w) : Calls Try.prog 96 #[] w (after Kp K) :=
  calls_of_shape (calls_of_cev wide Try.func96 (an := ref05_order_an) (args := []) (cast (congrFun (ref05_order_eq Kp K) w).symm h))
theorem ref05_order_cn  {W : World} {α : Type} {A : List HP} {r : α → Value} {B : α → List HP} (h : ∀ F, Ent W (A ++ F) (ref05_order noP fun v w => ∃ x, v = r x ∧ sat W (B x ++ F) w)) : Cn Try.prog 96 [] W A r B :=
  Cn.of (shape := ref05_order) Try.call96 (fun h => ref05_order_calls h) h
theorem ref05_order_cnP  {W : World} {α β : Type} {A : List HP} {r : α → Value} {B : α → List HP} {pc : β → List PanicEntry} {Bp : β → List HP} (h : ∀ F, Ent W (A ++ F) (ref05_order (fun ch w => ∃ y, ch = pc y ∧ sat W (Bp y ++ F) w) fun v w => ∃ x, v = r x ∧ sat W (B x ++ F) w)) : CnP Try.prog 96 [] W A r B pc Bp :=
  CnP.of (shape := ref05_order) Try.call96 (fun h => ref05_order_calls h) h

/-- ref05_stream_row -/
def ref05_stream_row (v0 v1 v2 : Value) (Kp : PK) (K : Value → WP) : WP :=
  loop1 (fun I1 m1 _ y7 =>
   opN Try.prog (sLen #[22] 3 [y7]) Kp fun x13 =>
   opN Try.prog (sBin .lss 3 x13 v2) Kp fun x15 =>
   gdK x15 true (fun k => k v0) fun x17 =>
   gdK x15 true (opN Try.prog (sNil x17) Kp) fun x18 =>
   gdK x15 true (opN Try.prog (sFA 132 x18 3) Kp) fun x19 =>
   gdK x15 true (opN Try.prog (sLoad 3 x19) Kp) fun x20 =>
   gdK x15 true (opN Try.prog (sEq .eql 3 (.tmp 20) (.const (.int .i64 0)) x20 (.int .i64 0)) Kp) fun x21 =>
   opN Try.prog (sPick x15 x21 (.bool false)) Kp fun x22 =>
   condS x22
   (opN Try.prog (sCall (fn 94) [v0, v1]) Kp fun x25 =>
    cut2 (fun J1 =>
     opN Try.prog (sNil v0) Kp fun x29 =>
     opN Try.prog (sFA 132 x29 3) Kp fun x30 =>
     opN Try.prog (sLoad 3 x30) Kp fun x31 =>
     opN Try.prog (sEq .neq 3 (.tmp 31) (.const (.int .i64 0)) x31 (.int .i64 0)) Kp fun x32 =>
     condS x32
     (K (.slice none 0 0))
     (opN Try.prog (sEq .eql 3 (.tmp 34) (.const (.int .i64 16)) x25 (.int .i64 16)) Kp fun x35 =>
      condS x35
      (opN Try.prog (sCall (fn 72) [v0, (.int .i64 2)]) Kp fun x37 =>
       opN Try.prog (sBin .add 3 (.int .i64 3) x37) Kp fun x38 =>
       opN Try.prog (sLen #[22] 3 [y7]) Kp fun x40 =>
       opN Try.prog (sEq .eql 3 (.tmp 40) (.const (.int .i64 0)) x40 (.int .i64 0)) Kp fun x41 =>
       condS x41
       (opN Try.prog (sCall (fn 77) [v0, (.int .i64 30)]) Kp fun x43 =>
        K (.slice none 0 0))
       (opN Try.prog (sLen #[22] 3 [y7]) Kp fun x46 =>
        opN Try.prog (sBin .sub 3 x46 (.int .i64 1)) Kp fun x47 =>
        opN Try.prog (sIA 22 y7 x47) Kp fun x48 =>
        opN Try.prog (sLoad 3 x48) Kp fun x49 =>
        J1 x38 x49))
      (opN Try.prog (sEq .eql 3 (.tmp 51) (.const (.int .i64 17)) x25 (.int .i64 17)) Kp fun x52 =>
       condS x52
       (opN Try.prog (sCall (fn 72) [v0, (.int .i64 3)]) Kp fun x54 =>
        opN Try.prog (sBin .add 3 (.int .i64 3) x54) Kp fun x55 =>
        J1 x55 (.int .i64 0))
       (opN Try.prog (sEq .eql 3 (.tmp 57) (.const (.int .i64 18)) x25 (.int .i64 18)) Kp fun x58 =>
        condS x58
        (opN Try.prog (sCall (fn 72) [v0, (.int .i64 7)]) Kp fun x60 =>
         opN Try.prog (sBin .add 3 (.int .i64 11) x60) Kp fun x61 =>
         J1 x61 (.int .i64 0))
        (J1 (.int .i64 1) x25))))) fun _ z9 z10 =>
    cut0 (fun J2 =>
     opN Try.prog (sNil v0) Kp fun x63 =>
     opN Try.prog (sFA 132 x63 3) Kp fun x64 =>
     opN Try.prog (sLoad 3 x64) Kp fun x65 =>
     opN Try.prog (sEq .eql 3 (.tmp 65) (.const (.int .i64 0)) x65 (.int .i64 0)) Kp fun x66 =>
     gdK x66 true (fun k => k z9) fun x68 =>
     gdK x66 true (fun k => k v2) fun x69 =>
     gdK x66 true (fun k => k y7) fun x70 =>
     gdK x66 true (opN Try.prog (sLen #[22] 3 [x70]) Kp) fun x71 =>
     gdK x66 true (opN Try.prog (sBin .sub 3 x69 x71) Kp) fun x72 =>
     gdK x66 true (opN Try.prog (sBin .gtr 3 x68 x72) Kp) fun x73 =>
     opN Try.prog (sPick x66 x73 (.bool false)) Kp fun x74 =>
     condS x74
     (opN Try.prog (sCall (fn 77) [v0, (.int .i64 30)]) Kp fun x76 =>
      J2)
     (J2)) fun _ =>
    loop2 (fun I2 m2 _ y7_2 y11 =>
     opN Try.prog (sBin .lss 3 y11 z9) Kp fun x79 =>
     gdK x79 true (fun k => k v0) fun x81 =>
     gdK x79 true (opN Try.prog (sNil x81) Kp) fun x82 =>
     gdK x79 true (opN Try.prog (sFA 132 x82 3) Kp) fun x83 =>
     gdK x79 true (opN Try.prog (sLoad 3 x83) Kp) fun x84 =>
     gdK x79 true (opN Try.prog (sEq .eql 3 (.tmp 84) (.const (.int .i64 0)) x84 (.int .i64 0)) Kp) fun x85 =>
     opN Try.prog (sPick x79 x85 (.bool false)) Kp fun x86 =>
     condS x86
     (opN Try.prog (sBuildSl 22 1 [(0, z10)]) Kp fun x91 =>
      opN Try.prog (sApp #[22, 22] 22 [y7_2, x91]) Kp fun x92 =>
      opN Try.prog (sBin .add 3 y11 (.int .i64 1)) Kp fun x88 =>
      next2 I2 m2 x92 x88)
     (next1 I1 m1 y7_2)) y7 (.int .i64 0))
   (K y7)) (.slice none 0 0)
def ref05_stream_row_an : Ann := { cuts := [(20, [9, 10]), (22, [])], blks := [], loops := [(2, [7]), (23, [7, 11])], drs := [] }
theorem ref05_stream_row_eq (v0 v1 v2 : Value) (Kp : PK) (K : Value → WP) : cevF Try.prog ref05_stream_row_an Try.f97 [v0, v1, v2] Kp K = ref05_stream_row v0 v1 v2 Kp K := by kernel_rfl
theorem ref05_stream_row_calls {v0 v1 v2 : Value} {Kp : PK} {K : Value → WP} {w : World} (h : ref05_stream_row v0 v1 v2 Kp K w) : Calls Try.prog 97 #[v0, v1, v2] w (after Kp K) :=
  calls_of_shape (calls_of_cev wide Try.func97 (an := ref05_stream_row_an) (args := [v0, v1, v2]) (cast (congrFun (ref05_stream_row_eq v0 v1 v2 Kp K) w).symm h))
theorem ref05_stream_row_cn {v0 v1 v2 : Value} {W : World} {α : Type} {A : List HP} {r : α → Value} {B : α → List HP} (h : ∀ F, Ent W (A ++ F) (ref05_stream_row v0 v1 v2 noP fun v w => ∃ x, v = r x ∧ sat W (B x ++ F) w)) : Cn Try.prog 97 [v0, v1, v2] W A r B :=
  Cn.of (shape := ref05_stream_row v0 v1 v2) Try.call97 (fun h => ref05_stream_row_calls h) h
theorem ref05_stream_row_cnP {v0 v1 v2 : Value} {W : World} {α β : Type} {A : List HP} {r : α → Value} {B : α → List HP} {pc : β → List PanicEntry} {Bp : β → List HP} (h : ∀ F, Ent W (A ++ F) (ref05_stream_row v0 v1 v2 (fun ch w => ∃ y, ch = pc y ∧ sat W (Bp y ++ F) w) fun v w => ∃ x, v = r x ∧ sat W (B x ++ F) w)) : CnP Try.prog 97 [v0, v1, v2] W A r B pc Bp :=
  CnP.of (shape := ref05_stream_row v0 v1 v2) Try.call97 (fun h => ref05_stream_row_calls h) h

/-- ref05_enough -/
def ref05_enough (v0 : Value) (Kp : PK) (K : Value → WP) : WP :=
  loop3 (fun I1 m1 _ y3 y4 y5 =>
   opN Try.prog (sLen #[22] 3 [v0]) Kp fun x8 =>
   opN Try.prog (sBin .lss 3 y5 x8) Kp fun x9 =>
   condS x9
   (opN Try.prog (sIA 22 v0 y5) Kp fun x14 =>
    opN Try.prog (sLoad 3 x14) Kp fun x15 =>
    opN Try.prog (sBin .gtr 3 x15 (.int .i64 0)) Kp fun x16 =>
    condS x16
    (opN Try.prog (sBin .add 3 y3 (.int .i64 1)) Kp fun x18 =>
     gdK y4 true (fun k => k v0) fun x21 =>
     gdK y4 true (fun k => k y5) fun x22 =>
     gdK y4 true (opN Try.prog (sIA 22 x21 x22) Kp) fun x23 =>
     gdK y4 true (opN Try.prog (sLoad 3 x23) Kp) fun x24 =>
     gdK y4 true (opN Try.prog (sEq .eql 3 (.tmp 24) (.const (.int .i64 1)) x24 (.int .i64 1)) Kp) fun x25 =>
     opN Try.prog (sPick y4 x25 (.bool false)) Kp fun x26 =>
     opN Try.prog (sBin .add 3 y5 (.int .i64 1)) Kp fun x11 =>
     next3 I1 m1 x18 x26 x11)
    (opN Try.prog (sBin .add 3 y5 (.int .i64 1)) Kp fun x11 =>
     next3 I1 m1 y3 y4 x11))
   (opN Try.prog (sEq .eql 3 (.tmp 27) (.const (.int .i64 0)) y3 (.int .i64 0)) Kp fun x28 =>
    gdK x28 false (fun k => k y3) fun x30 =>
    gdK x28 false (opN Try.prog (sEq .eql 3 (.tmp 30) (.const (.int .i64 1)) x30 (.int .i64 1)) Kp) fun x31 =>
    gdK x28 false (fun k => k x31) fun x32 =>
    gdK x32 true (fun k => k y4) fun x33 =>
    gdK x28 false (opN Try.prog (sPick x32 x33 (.bool false)) Kp) fun x34 =>
    opN Try.prog (sPick x28 (.bool true) x34) Kp fun x35 =>
    gdK x35 false (fun k => k v0) fun x37 =>
    gdK x35 false (opN Try.prog (sCall (fn 23) [x37]) Kp) fun x38 =>
    opN Try.prog (sPick x35 (.bool true) x38) Kp fun x39 =>
    K x39)) (.int .i64 0) (.bool true) (.int .i64 0)
def ref05_enough_an : Ann := { cuts := [], blks := [], loops := [(4, [3, 4, 5])], drs := [] }
theorem ref05_enough_eq (v0 : Value) (Kp : PK) (K : Value → WP) : cevF Try.prog ref05_enough_an Try.f98 [v0] Kp K = ref05_enough v0 Kp K := by kernel_rfl
theorem ref05_enough_calls {v0 : Value} {Kp : PK} {K : Value → WP} {w : World} (h : ref05_enough v0 Kp K w) : Calls Try.prog 98 #[v0] w (after Kp K) :=
  calls_of_shape (calls_of_cev wide Try.func98 (an := ref05_enough_an) (args := [v0]) (cast (congrFun (ref05_enough_eq v0 Kp K) w).symm h))
theorem ref05_enough_cn {v0 : Value} {W : World} {α : Type} {A : List HP} {r : α → Value} {B : α → List HP} (h : ∀ F, Ent W (A ++ F) (ref05_enough v0 noP fun v w => ∃ x, v = r x ∧ sat W (B x ++ F) w)) : Cn Try.prog 98 [v0] W A r B :=
  Cn.of (shape := ref05_enough v0) Try.call98 (fun h => ref05_enough_calls h) h
theorem ref05_enough_cnP {v0 : Value} {W : World} {α β : Type} {A : List HP} {r : α → Value} {B : α → List HP} {pc : β → List PanicEntry} {Bp : β → List HP} (h : ∀ F, Ent W (A ++ F) (ref05_enough v0 (fun ch w => ∃ y, ch = pc y ∧ sat W (Bp y ++ F) w) fun v w => ∃ x, v = r x ∧ sat W (B x ++ F) w)) : CnP Try.prog 98 [v0] W A r B pc Bp :=
  CnP.of (shape := ref05_enough v0) Try.call98 (fun h => ref05_enough_calls h) h

/-- slices_rotateCmpFunc_huff_weighed_int -/
def slices_rotateCmpFunc_huff_weighed_int (v0 v1 v2 v3 v4 : Value) (Kp : PK) (K : Value → WP) : WP :=
  opN Try.prog (sBin .sub 3 v2 v1) Kp fun x14 =>
  opN Try.prog (sBin .sub 3 v3 v2) Kp fun x17 =>
  loop2 (fun I1 m1 _ y10 y11 =>
   opN Try.prog (sEq .neq 3 (.tmp 18) (.tmp 19) y10 y11) Kp fun x20 =>
   condS x20
   (opN Try.prog (sBin .gtr 3 y10 y11) Kp fun x23 =>
    condS x23
    (opN Try.prog (sBin .sub 3 v2 y10) Kp fun x27 =>
     opN Try.prog (sCall (fn 106) [v0, x27, v2, y11, v4]) Kp fun x31 =>
     opN Try.prog (sBin .sub 3 y10 y11) Kp fun x34 =>
     next2 I1 m1 x34 y11)
    (opN Try.prog (sBin .sub 3 v2 y10) Kp fun x38 =>
     opN Try.prog (sBin .add 3 v2 y11) Kp fun x41 =>
     opN Try.prog (sBin .sub 3 x41 y10) Kp fun x43 =>
     opN Try.prog (sCall (fn 106) [v0, x38, x43, y10, v4]) Kp fun x46 =>
     opN Try.prog (sBin .sub 3 y11 y10) Kp fun x49 =>
     next2 I1 m1 y10 x49))
   (opN Try.prog (sBin .sub 3 v2 y10) Kp fun x53 =>
    opN Try.prog (sCall (fn 106) [v0, x53, v2, y10, v4]) Kp fun x57 =>
    K (.tuple #[]))) x14 x17
def slices_rotateCmpFunc_huff_weighed_int_an : Ann := { cuts := [], blks := [], loops := [(2, [10, 11])], drs := [] }
theorem slices_rotateCmpFunc_huff_weighed_int_eq (v0 v1 v2 v3 v4 : Value) (Kp : PK) (K : Value → WP) : cevF Try.prog slices_rotateCmpFunc_huff_weighed_int_an Try.f99 [v0, v1, v2, v3, v4] Kp K = slices_rotateCmpFunc_huff_weighed_int v0 v1 v2 v3 v4 Kp K := by kernel_rfl
theorem slices_rotateCmpFunc_huff_weighed_int_calls {v0 v1 v2 v3 v4 : Value} {Kp : PK} {K : Value → WP} {w : World} (h : slices_rotateCmpFunc_huff_weighed_int v0 v1 v2 v3 v4 Kp K w) : Calls Try.prog 99 #[v0, v1, v2, v3, v4] w (after Kp K) :=
  calls_of_shape (calls_of_cev wide Try.func99 (an := slices_rotateCmpFunc_huff_weighed_int_an) (args := [v0, v1, v2, v3, v4]) (cast (congrFun (slices_rotateCmpFunc_huff_weighed_int_eq v0 v1 v2 v3 v4 Kp K) w).symm h))
theorem slices_rotateCmpFunc_huff_weighed_int_cn {v0 v1 v2 v3 v4 : Value} {W : World} {α : Type} {A : List HP} {r : α → Value} {B : α → List HP} (h : ∀ F, Ent W (A ++ F) (slices_rotateCmpFunc_huff_weighed_int v0 v1 v2 v3 v4 noP fun v w => ∃ x, v = r x ∧ sat W (B x ++ F) w)) : Cn Try.prog 99 [v0, v1, v2, v3, v4] W A r B :=
  Cn.of (shape := slices_rotateCmpFunc_huff_weighed_int v0 v1 v2 v3 v4) Try.call99 (fun h => slices_rotateCmpFunc_huff_weighed_int_calls h) h
theorem slices_rotateCmpFunc_huff_weighed_int_cnP {v0 v1 v2 v3 v4 : Value} {W : World} {α β : Type} {A : List HP} {r : α → Value} {B : α → List HP} {pc : β → List PanicEntry} {Bp : β → List HP} (h : ∀ F, Ent W (A ++ F) (slices_rotateCmpFunc_huff_weighed_int v0 v1 v2 v3 v4 (fun ch w => ∃ y, ch = pc y ∧ sat W (Bp y ++ F) w) fun v w => ∃ x, v = r x ∧ sat W (B x ++ F) w)) : CnP Try.prog 99 [v0, v1, v2, v3, v4] W A r B pc Bp :=
  CnP.of (shape := slices_rotateCmpFunc_huff_weighed_int v0 v1 v2 v3 v4) Try.call99 (fun h => slices_rotateCmpFunc_huff_weighed_int_calls h) h

/-- inflate_Fixed_1 -/
def inflate_Fixed_1 (v0 v1 v2 : Value) (Kp : PK) (K : Value → WP) : WP :=
  loop2 (fun I1 m1 _ y0 y8 =>
   opN Try.prog (sBin .lss 3 y8 v1) Kp fun x9 =>
   condS x9
   (opN Try.prog (sBuildSl 22 1 [(0, v2)]) Kp fun x12 =>
    opN Try.prog (sApp #[22, 22] 22 [y0, x12]) Kp fun x13 =>
    opN Try.prog (sBin .add 3 y8 (.int .i64 1)) Kp fun x14 =>
    next2 I1 m1 x13 x14)
   (K y0)) v0 (.int .i64 0)
def inflate_Fixed_1_an : Ann := { cuts := [], blks := [], loops := [(2, [0, 8])], drs := [] }
theorem inflate_Fixed_1_eq (v0 v1 v2 : Value) (Kp : PK) (K : Value → WP) : cevF Try.prog inflate_Fixed_1_an Try.f100 [v0, v1, v2] Kp K = inflate_Fixed_1 v0 v1 v2 Kp K := by kernel_rfl
theorem inflate_Fixed_1_calls {v0 v1 v2 : Value} {Kp : PK} {K : Value → WP} {w : World} (h : inflate_Fixed_1 v0 v1 v2 Kp K w) : Calls Try.prog 100 #[v0, v1, v2] w (after Kp K) :=
  calls_of_shape (calls_of_cev wide Try.func100 (an := inflate_Fixed_1_an) (args := [v0, v1, v2]) (cast (congrFun (inflate_Fixed_1_eq v0 v1 v2 Kp K) w).symm h))
theorem inflate_Fixed_1_cn {v0 v1 v2 : Value} {W : World} {α : Type} {A : List HP} {r : α → Value} {B : α → List HP} (h : ∀ F, Ent W (A ++ F) (inflate_Fixed_1 v0 v1 v2 noP fun v w => ∃ x, v = r x ∧ sat W (B x ++ F) w)) : Cn Try.prog 100 [v0, v1, v2] W A r B :=
  Cn.of (shape := inflate_Fixed_1 v0 v1 v2) Try.call100 (fun h => inflate_Fixed_1_calls h) h
theorem inflate_Fixed_1_cnP {v0 v1 v2 : Value} {W : World} {α β : Type} {A : List HP} {r : α → Value} {B : α → List HP} {pc : β → List PanicEntry} {Bp : β → List HP} (h : ∀ F, Ent W (A ++ F) (inflate_Fixed_1 v0 v1 v2 (fun ch w => ∃ y, ch = pc y ∧ sat W (Bp y ++ F) w) fun v w => ∃ x, v = r x ∧ sat W (B x ++ F) w)) : CnP Try.prog 100 [v0, v1, v2] W A r B pc Bp :=
  CnP.of (shape := inflate_Fixed_1 v0 v1 v2) Try.call100 (fun h => inflate_Fixed_1_calls h) h

/-- inflate_next -/
def inflate_next (v0 v1 : Value) (Kp : PK) (K : Value → WP) : WP :=
  opN Try.prog (sCall (fn 39) [v0, v1]) Kp fun x10 =>
  opN Try.prog (sExt x10 0) Kp fun x11 =>
  opN Try.prog (sExt x10 1) Kp fun x12 =>
  opN Try.prog (sCall (fn 86) [x12]) Kp fun x14 =>
  K x11
def inflate_next_an : Ann := { cuts := [], blks := [], loops := [], drs := [] }
theorem inflate_next_eq (v0 v1 : Value) (Kp : PK) (K : Value → WP) : cevF Try.prog inflate_next_an Try.f101 [v0, v1] Kp K = inflate_next v0 v1 Kp K := by kernel_rfl
theorem inflate_next_calls {v0 v1 : Value} {Kp : PK} {K : Value → WP} {w : World} (h : inflate_next v0 v1 Kp K w) : Calls Try.prog 101 #[v0, v1] w (after Kp K) :=
  calls_of_shape (calls_of_cev wide Try.func101 (an := inflate_next_an) (args := [v0, v1]) (cast (congrFun (inflate_next_eq v0 v1 Kp K) w).symm h))
theorem inflate_next_cn {v0 v1 : Value} {W : World} {α : Type} {A : List HP} {r : α → Value} {B : α → List HP} (h : ∀ F, Ent W (A ++ F) (inflate_next v0 v1 noP fun v w => ∃ x, v = r x ∧ sat W (B x ++ F) w)) : Cn Try.prog 101 [v0, v1] W A r B :=
  Cn.of (shape := inflate_next v0 v1) Try.call101 (fun h => inflate_next_calls h) h
theorem inflate_next_cnP {v0 v1 : Value} {W : World} {α β : Type} {A : List HP} {r : α → Value} {B : α → List HP} {pc : β → List PanicEntry} {Bp : β → List HP} (h : ∀ F, Ent W (A ++ F) (inflate_next v0 v1 (fun ch w => ∃ y, ch = pc y ∧ sat W (Bp y ++ F) w) fun v w => ∃ x, v = r x ∧ sat W (B x ++ F) w)) : CnP Try.prog 101 [v0, v1] W A r B pc Bp :=
  CnP.of (shape := inflate_next v0 v1) Try.call101 (fun h => inflate_next_calls h) h

/-- lz_BaseLength -/
def lz_BaseLength (v0 : Value) (Kp : PK) (K : Value → WP) : WP :=
  opN Try.prog (sBin .sub 3 v0 (.int .i64 257)) Kp fun x6 =>
  opN Try.prog (sBin .lss 3 x6 (.int .i64 0)) Kp fun x20 =>
  gdK x20 false (fun k => k x6) fun x22 =>
  gdK x20 false (opN Try.prog (sBin .gtr 3 x22 (.int .i64 28)) Kp) fun x23 =>
  opN Try.prog (sPick x20 (.bool true) x23) Kp fun x24 =>
  condS x24
  (K (.tuple #[(.int .i64 0), (.int .i64 0)]))
  (opN Try.prog (sEq .eql 3 (.tmp 26) (.const (.int .i64 28)) x6 (.int .i64 28)) Kp fun x27 =>
   condS x27
   (K (.tuple #[(.int .i64 258), (.int .i64 0)]))
   (opN Try.prog (sBin .lss 3 x6 (.int .i64 8)) Kp fun x30 =>
    condS x30
    (opN Try.prog (sBin .add 3 x6 (.int .i64 3)) Kp fun x32 =>
     K (.tuple #[x32, (.int .i64 0)]))
    (opN Try.prog (sBin .quo 3 x6 (.int .i64 4)) Kp fun x8 =>
     opN Try.prog (sBin .sub 3 x8 (.int .i64 1)) Kp fun x9 =>
     opN Try.prog (sBin .rem 3 x6 (.int .i64 4)) Kp fun x11 =>
     opN Try.prog (sBin .add 3 (.int .i64 4) x11) Kp fun x12 =>
     opN Try.prog (sConv 3 33 x9) Kp fun x14 =>
     opN Try.prog (sBin .shl 3 x12 x14) Kp fun x15 =>
     opN Try.prog (sBin .add 3 (.int .i64 3) x15) Kp fun x16 =>
     K (.tuple #[x16, x9]))))
def lz_BaseLength_an : Ann := { cuts := [], blks := [], loops := [], drs := [] }
theorem lz_BaseLength_eq (v0 : Value) (Kp : PK) (K : Value → WP) : cevF Try.prog lz_BaseLength_an Try.f102 [v0] Kp K = lz_BaseLength v0 Kp K := by kernel_rfl
theorem lz_BaseLength_calls {v0 : Value} {Kp : PK} {K : Value → WP} {w : World} (h : lz_BaseLength v0 Kp K w) : Calls Try.prog 102 #[v0] w (after Kp K) :=
  calls_of_shape (calls_of_cev wide Try.func102 (an := lz_BaseLength_an) (args := [v0]) (cast (congrFun (lz_BaseLength_eq v0 Kp K) w).symm h))
theorem lz_BaseLength_cn {v0 : Value} {W : World} {α : Type} {A : List HP} {r : α → Value} {B : α → List HP} (h : ∀ F, Ent W (A ++ F) (lz_BaseLength v0 noP fun v w => ∃ x, v = r x ∧ sat W (B x ++ F) w)) : Cn Try.prog 102 [v0] W A r B :=
  Cn.of (shape := lz_BaseLength v0) Try.call102 (fun h => lz_BaseLength_calls h) h
theorem lz_BaseLength_cnP {v0 : Value} {W : World} {α β : Type} {A : List HP} {r : α → Value} {B : α → List HP} {pc : β → List PanicEntry} {Bp : β → List HP} (h : ∀ F, Ent W (A ++ F) (lz_BaseLength v0 (fun ch w => ∃ y, ch = pc y ∧ sat W (Bp y ++ F) w) fun v w => ∃ x, v = r x ∧ sat W (B x ++ F) w)) : CnP Try.prog 102 [v0] W A r B pc Bp :=
  CnP.of (shape := lz_BaseLength v0) Try.call102 (fun h => lz_BaseLength_calls h) h

/-- lz_BaseDistance -/
def lz_BaseDistance (v0 : Value) (Kp : PK) (K : Value → WP) : WP :=
  opN Try.prog (sBin .lss 3 v0 (.int .i64 0)) Kp fun x6 =>
  gdK x6 false (fun k => k v0) fun x8 =>
  gdK x6 false (opN Try.prog (sBin .gtr 3 x8 (.int .i64 29)) Kp) fun x9 =>
  opN Try.prog (sPick x6 (.bool true) x9) Kp fun x10 =>
  condS x10
  (K (.tuple #[(.int .i64 0), (.int .i64 0)]))
  (opN Try.prog (sBin .lss 3 v0 (.int .i64 4)) Kp fun x13 =>
   condS x13
   (opN Try.prog (sBin .add 3 v0 (.int .i64 1)) Kp fun x15 =>
    K (.tuple #[x15, (.int .i64 0)]))
   (opN Try.prog (sBin .quo 3 v0 (.int .i64 2)) Kp fun x17 =>
    opN Try.prog (sBin .sub 3 x17 (.int .i64 1)) Kp fun x18 =>
    opN Try.prog (sBin .rem 3 v0 (.int .i64 2)) Kp fun x20 =>
    opN Try.prog (sBin .add 3 (.int .i64 2) x20) Kp fun x21 =>
    opN Try.prog (sConv 3 33 x18) Kp fun x23 =>
    opN Try.prog (sBin .shl 3 x21 x23) Kp fun x24 =>
    opN Try.prog (sBin .add 3 (.int .i64 1) x24) Kp fun x25 =>
    K (.tuple #[x25, x18])))
def lz_BaseDistance_an : Ann := { cuts := [], blks := [], loops := [], drs := [] }
theorem lz_BaseDistance_eq (v0 : Value) (Kp : PK) (K : Value → WP) : cevF Try.prog lz_BaseDistance_an Try.f103 [v0] Kp K = lz_BaseDistance v0 Kp K := by kernel_rfl
theorem lz_BaseDistance_calls {v0 : Value} {Kp : PK} {K : Value → WP} {w : World} (h : lz_BaseDistance v0 Kp K w) : Calls Try.prog 103 #[v0] w (after Kp K) :=
  calls_of_shape (calls_of_cev wide Try.func103 (an := lz_BaseDistance_an) (args := [v0]) (cast (congrFun (lz_BaseDistance_eq v0 Kp K) w).symm h))
theorem lz_BaseDistance_cn {v0 : Value} {W : World} {α : Type} {A : List HP} {r : α → Value} {B : α → List HP} (h : ∀ F, Ent W (A ++ F) (lz_BaseDistance v0 noP fun v w => ∃ x, v = r x ∧ sat W (B x ++ F) w)) : Cn Try.prog 103 [v0] W A r B :=
  Cn.of (shape := lz_BaseDistance v0) Try.call103 (fun h => lz_BaseDistance_calls h) h
theorem lz_BaseDistance_cnP {v0 : Value} {W : World} {α β : Type} {A : List HP} {r : α → Value} {B : α → List HP} {pc : β → List PanicEntry} {Bp : β → List HP} (h : ∀ F, Ent W (A ++ F) (lz_BaseDistance v0 (fun ch w => ∃ y, ch = pc y ∧ sat W (Bp y ++ F) w) fun v w => ∃ x, v = r x ∧ sat W (B x ++ F) w)) : CnP Try.prog 103 [v0] W A r B pc Bp :=
  CnP.of (shape := lz_BaseDistance v0) Try.call103 (fun h => lz_BaseDistance_calls h) h

/-- ref04_BaseLength -/
def ref04_BaseLength (v0 : Value) (Kp : PK) (K : Value → WP) : WP :=
  opN Try.prog (sBin .lss 3 v0 (.int .i64 257)) Kp fun x9 =>
  gdK x9 false (fun k => k v0) fun x11 =>
  gdK x9 false (opN Try.prog (sBin .gtr 3 x11 (.int .i64 285)) Kp) fun x12 =>
  opN Try.prog (sPick x9 (.bool true) x12) Kp fun x13 =>
  condS x13
  (K (.tuple #[(.int .i64 0), (.int .i64 0)]))
  (opN Try.prog (sEq .eql 3 (.tmp 15) (.const (.int .i64 285)) v0 (.int .i64 285)) Kp fun x16 =>
   condS x16
   (K (.tuple #[(.int .i64 258), (.int .i64 0)]))
   (opN Try.prog (sBin .lss 3 v0 (.int .i64 265)) Kp fun x19 =>
    condS x19
    (opN Try.prog (sBin .sub 3 v0 (.int .i64 254)) Kp fun x21 =>
     K (.tuple #[x21, (.int .i64 0)]))
    (opN Try.prog (sBin .sub 3 v0 (.int .i64 261)) Kp fun x23 =>
     opN Try.prog (sBin .quo 3 x23 (.int .i64 4)) Kp fun x24 =>
     loop2 (fun I1 m1 _ y5 y6 =>
      opN Try.prog (sBin .lss 3 y6 v0) Kp fun x27 =>
      condS x27
      (opN Try.prog (sBin .sub 3 y6 (.int .i64 261)) Kp fun x32 =>
       opN Try.prog (sBin .quo 3 x32 (.int .i64 4)) Kp fun x33 =>
       opN Try.prog (sConv 3 33 x33) Kp fun x34 =>
       opN Try.prog (sBin .shl 3 (.int .i64 1) x34) Kp fun x35 =>
       opN Try.prog (sBin .add 3 y5 x35) Kp fun x36 =>
       opN Try.prog (sBin .add 3 y6 (.int .i64 1)) Kp fun x29 =>
       next2 I1 m1 x36 x29)
      (K (.tuple #[y5, x24]))) (.int .i64 11) (.int .i64 265))))
def ref04_BaseLength_an : Ann := { cuts := [], blks := [], loops := [(10, [5, 6])], drs := [] }
theorem ref04_BaseLength_eq (v0 : Value) (Kp : PK) (K : Value → WP) : cevF Try.prog ref04_BaseLength_an Try.f104 [v0] Kp K = ref04_BaseLength v0 Kp K := by kernel_rfl
theorem ref04_BaseLength_calls {v0 : Value} {Kp : PK} {K : Value → WP} {w : World} (h : ref04_BaseLength v0 Kp K w) : Calls Try.prog 104 #[v0] w (after Kp K) :=
  calls_of_shape (calls_of_cev wide Try.func104 (an := ref04_BaseLength_an) (args := [v0]) (cast (congrFun (ref04_BaseLength_eq v0 Kp K) w).symm h))
theorem ref04_BaseLength_cn {v0 : Value} {W : World} {α : Type} {A : List HP} {r : α → Value} {B : α → List HP} (h : ∀ F, Ent W (A ++ F) (ref04_BaseLength v0 noP fun v w => ∃ x, v = r x ∧ sat W (B x ++ F) w)) : Cn Try.prog 104 [v0] W A r B :=
  Cn.of (shape := ref04_BaseLength v0) Try.call104 (fun h => ref04_BaseLength_calls h) h
theorem ref04_BaseLength_cnP {v0 : Value} {W : World} {α β : Type} {A : List HP} {r : α → Value} {B : α → List HP} {pc : β → List PanicEntry} {Bp : β → List HP} (h : ∀ F, Ent W (A ++ F) (ref04_BaseLength v0 (fun ch w => ∃ y, ch = pc y ∧ sat W (Bp y ++ F) w) fun v w => ∃ x, v = r x ∧ sat W (B x ++ F) w)) : CnP Try.prog 104 [v0] W A r B pc Bp :=
  CnP.of (shape := ref04_BaseLength v0) Try.call104 (fun h => ref04_BaseLength_calls h) h

/-- ref04_BaseDistance -/
def ref04_BaseDistance (v0 : Value) (Kp : PK) (K : Value → WP) : WP :=
  opN Try.prog (sBin .lss 3 v0 (.int .i64 0)) Kp fun x9 =>
  gdK x9 false (fun k => k v0) fun x11 =>
  gdK x9 false (opN Try.prog (sBin .gtr 3 x11 (.int .i64 29)) Kp) fun x12 =>
  opN Try.prog (sPick x9 (.bool true) x12) Kp fun x13 =>
  condS x13
  (K (.tuple #[(.int .i64 0), (.int .i64 0)]))
  (opN Try.prog (sBin .lss 3 v0 (.int .i64 4)) Kp fun x16 =>
   condS x16
   (opN Try.prog (sBin .add 3 v0 (.int .i64 1)) Kp fun x18 =>
    K (.tuple #[x18, (.int .i64 0)]))
   (opN Try.prog (sBin .sub 3 v0 (.int .i64 2)) Kp fun x20 =>
    opN Try.prog (sBin .quo 3 x20 (.int .i64 2)) Kp fun x21 =>
    loop2 (fun I1 m1 _ y5 y6 =>
     opN Try.prog (sBin .lss 3 y6 v0) Kp fun x24 =>
     condS x24
     (opN Try.prog (sBin .sub 3 y6 (.int .i64 2)) Kp fun x29 =>
      opN Try.prog (sBin .quo 3 x29 (.int .i64 2)) Kp fun x30 =>
      opN Try.prog (sConv 3 33 x30) Kp fun x31 =>
      opN Try.prog (sBin .shl 3 (.int .i64 1) x31) Kp fun x32 =>
      opN Try.prog (sBin .add 3 y5 x32) Kp fun x33 =>
      opN Try.prog (sBin .add 3 y6 (.int .i64 1)) Kp fun x26 =>
      next2 I1 m1 x33 x26)
     (K (.tuple #[y5, x21]))) (.int .i64 5) (.int .i64 4)))
def ref04_BaseDistance_an : Ann := { cuts := [], blks := [], loops := [(8, [5, 6])], drs := [] }
theorem ref04_BaseDistance_eq (v0 : Value) (Kp : PK) (K : Value → WP) : cevF Try.prog ref04_BaseDistance_an Try.f105 [v0] Kp K = ref04_BaseDistance v0 Kp K := by kernel_rfl
theorem ref04_BaseDistance_calls {v0 : Value} {Kp : PK} {K : Value → WP} {w : World} (h : ref04_BaseDistance v0 Kp K w) : Calls Try.prog 105 #[v0] w (after Kp K) :=
  calls_of_shape (calls_of_cev wide Try.func105 (an := ref04_BaseDistance_an) (args := [v0]) (cast (congrFun (ref04_BaseDistance_eq v0 Kp K) w).symm h))
theorem ref04_BaseDistance_cn {v0 : Value} {W : World} {α : Type} {A : List HP} {r : α → Value} {B : α → List HP} (h : ∀ F, Ent W (A ++ F) (ref04_BaseDistance v0 noP fun v w => ∃ x, v = r x ∧ sat W (B x ++ F) w)) : Cn Try.prog 105 [v0] W A r B :=
  Cn.of (shape := ref04_BaseDistance v0) Try.call105 (fun h => ref04_BaseDistance_calls h) h
theorem ref04_BaseDistance_cnP {v0 : Value} {W : World} {α β : Type} {A : List HP} {r : α → Value} {B : α → List HP} {pc : β → List PanicEntry} {Bp : β → List HP} (h : ∀ F, Ent W (A ++ F) (ref04_BaseDistance v0 (fun ch w => ∃ y, ch = pc y ∧ sat W (Bp y ++ F) w) fun v w => ∃ x, v = r x ∧ sat W (B x ++ F) w)) : CnP Try.prog 105 [v0] W A r B pc Bp :=
  CnP.of (shape := ref04_BaseDistance v0) Try.call105 (fun h => ref04_BaseDistance_calls h) h

/-- slices_swapRangeCmpFunc_huff_weighed_int -/
def slices_swapRangeCmpFunc_huff_weighed_int (v0 v1 v2 v3 v4 : Value) (Kp : PK) (K : Value → WP) : WP :=
  loop1 (fun I1 m1 _ y10 =>
   opN Try.prog (sBin .lss 3 y10 v3) Kp fun x13 =>
   condS x13
   (drS (stS Try.prog (sBin .add 3 v1 y10) fun x19 =>
     stD Try.prog (sBin .add 3 v2 y10) fun D7 x23 =>
     stS Try.prog (sBin .add 3 v2 y10) fun x27 =>
     stS Try.prog (sIA 84 v0 x27) fun x28 =>
     stS Try.prog (sLoad 86 x28) fun x29 =>
     stS Try.prog (sBin .add 3 v1 y10) fun x33 =>
     stS Try.prog (sIA 84 v0 x33) fun x34 =>
     stS Try.prog (sLoad 86 x34) fun x35 =>
     stS Try.prog (sIA 84 v0 x19) fun x36 =>
     opN Try.prog (sStore 86 x36 x29) Kp fun _ =>
     (fun w => D7 w ∧ (stS Try.prog (sIA 84 v0 x23) fun x37 =>
       opN Try.prog (sStore 86 x37 x35) Kp fun _ =>
       opN Try.prog (sBin .add 3 y10 (.int .i64 1)) Kp fun x15 =>
       next1 I1 m1 x15) w)))
   (K (.tuple #[]))) (.int .i64 0)
def slices_swapRangeCmpFunc_huff_weighed_int_an : Ann := { cuts := [], blks := [], loops := [(1, [10])], drs := [(3, [(0, 1), (1, 1), (2, 1), (3, 1), (4, 2), (5, 2), (6, 2), (7, 3), (8, 1), (9, 1), (10, 1), (11, 1), (12, 1), (13, 1), (14, 1), (15, 1), (16, 1), (17, 1), (18, 1), (19, 1), (20, 1), (21, 0), (22, 1), (23, 0)])] }
theorem slices_swapRangeCmpFunc_huff_weighed_int_eq (v0 v1 v2 v3 v4 : Value) (Kp : PK) (K : Value → WP) : cevF Try.prog slices_swapRangeCmpFunc_huff_weighed_int_an Try.f106 [v0, v1, v2, v3, v4] Kp K = slices_swapRangeCmpFunc_huff_weighed_int v0 v1 v2 v3 v4 Kp K := by kernel_rfl
theorem slices_swapRangeCmpFunc_huff_weighed_int_calls {v0 v1 v2 v3 v4 : Value} {Kp : PK} {K : Value → WP} {w : World} (h : slices_swapRangeCmpFunc_huff_weighed_int v0 v1 v2 v3 v4 Kp K w) : Calls Try.prog 106 #[v0, v1, v2, v3, v4] w (after Kp K) :=
  calls_of_shape (calls_of_cev wide Try.func106 (an := slices_swapRangeCmpFunc_huff_weighed_int_an) (args := [v0, v1, v2, v3, v4]) (cast (congrFun (slices_swapRangeCmpFunc_huff_weighed_int_eq v0 v1 v2 v3 v4 Kp K) w).symm h))
theorem slices_swapRangeCmpFunc_huff_weighed_int_cn {v0 v1 v2 v3 v4 : Value} {W : World} {α : Type} {A : List HP} {r : α → Value} {B : α → List HP} (h : ∀ F, Ent W (A ++ F) (slices_swapRangeCmpFunc_huff_weighed_int v0 v1 v2 v3 v4 noP fun v w => ∃ x, v = r x ∧ sat W (B x ++ F) w)) : Cn Try.prog 106 [v0, v1, v2, v3, v4] W A r B :=
  Cn.of (shape := slices_swapRangeCmpFunc_huff_weighed_int v0 v1 v2 v3 v4) Try.call106 (fun h => slices_swapRangeCmpFunc_huff_weighed_int_calls h) h
theorem slices_swapRangeCmpFunc_huff_weighed_int_cnP {v0 v1 v2 v3 v4 : Value} {W : World} {α β : Type} {A : List HP} {r : α → Value} {B : α → List HP} {pc : β → List PanicEntry} {Bp : β → List HP} (h : ∀ F, Ent W (A ++ F) (slices_swapRangeCmpFunc_huff_weighed_int v0 v1 v2 v3 v4 (fun ch w => ∃ y, ch = pc y ∧ sat W (Bp y ++ F) w) fun v w => ∃ x, v = r x ∧ sat W (B x ++ F) w)) : CnP Try.prog 106 [v0, v1, v2, v3, v4] W A r B pc Bp :=
  CnP.of (shape := slices_swapRangeCmpFunc_huff_weighed_int v0 v1 v2 v3 v4) Try.call106 (fun h => slices_swapRangeCmpFunc_huff_weighed_int_calls h) h

end Go.Proofs.Ytehfblkpbadikaa.S
