/- The shapes of functions of the loaded program, printed by a program of mine; each is proved to be what the model asks of the function. No conditions. -/
import Derived.Test.YtpmcokpiplcnjaaChecked
import Derived.Test.YtpmcokpiplcnjaaIter
import Derived.KernelRfl
set_option linter.unusedVariables false
namespace Go.Proofs.Ytpmcokpiplcnjaa.S
open Go Go.Proofs.Ytpmcokpiplcnjaa.Sh Go.Proofs.Ytpmcokpiplcnjaa.Sl

theorem wide : Try.prog.follows .mixedOrders = true := by kernel_rfl

/-- law02_BitsReverse -/
def law02_BitsReverse (v0 v1 : Value) (Kp : PK) (K : Value → WP) : WP :=
  opN Try.prog (sCall (fn 11) [v0, v1]) Kp fun x9 =>
  opN Try.prog (sMin #[3, 3] 3 [v1, (.int .i64 32)]) Kp fun x11 =>
  opN Try.prog (sMax #[3, 3] 3 [(.int .i64 0), x11]) Kp fun x12 =>
  opN Try.prog (sCall (fn 12) [v0, v1]) Kp fun x16 =>
  opN Try.prog (sEq .eql 3 (.tmp 13) (.tmp 16) x9 x16) Kp fun x17 =>
  gdK x17 true (fun k => k x9) fun x19 =>
  gdK x17 true (fun k => k v1) fun x20 =>
  gdK x17 true (opN Try.prog (sCall (fn 11) [x19, x20]) Kp) fun x21 =>
  gdK x17 true (fun k => k v0) fun x22 =>
  gdK x17 true (fun k => k x12) fun x23 =>
  gdK x17 true (opN Try.prog (sConv 3 23 x23) Kp) fun x24 =>
  gdK x17 true (opN Try.prog (sBin .shl 3 (.int .i64 1) x24) Kp) fun x25 =>
  gdK x17 true (opN Try.prog (sBin .sub 3 x25 (.int .i64 1)) Kp) fun x26 =>
  gdK x17 true (opN Try.prog (sBin .and 3 x22 x26) Kp) fun x27 =>
  gdK x17 true (opN Try.prog (sEq .eql 3 (.tmp 21) (.tmp 27) x21 x27) Kp) fun x28 =>
  opN Try.prog (sPick x17 x28 (.bool false)) Kp fun x29 =>
  gdK x29 true (opN Try.prog (sCall (fn 13) []) Kp) fun x31 =>
  opN Try.prog (sPick x29 x31 (.bool false)) Kp fun x32 =>
  K x32
def law02_BitsReverse_an : Ann := { cuts := [], blks := [], loops := [], drs := [] }
theorem law02_BitsReverse_eq (v0 v1 : Value) (Kp : PK) (K : Value → WP) : cevF Try.prog law02_BitsReverse_an Try.f3 [v0, v1] Kp K = law02_BitsReverse v0 v1 Kp K := by kernel_rfl
theorem law02_BitsReverse_calls {v0 v1 : Value} {Kp : PK} {K : Value → WP} {w : World} (h : law02_BitsReverse v0 v1 Kp K w) : Calls Try.prog 3 #[v0, v1] w (after Kp K) :=
  calls_of_shape (calls_of_cev wide Try.func3 (an := law02_BitsReverse_an) (args := [v0, v1]) (cast (congrFun (law02_BitsReverse_eq v0 v1 Kp K) w).symm h))
theorem law02_BitsReverse_cn {v0 v1 : Value} {W : World} {α : Type} {A : List HP} {r : α → Value} {B : α → List HP} (h : ∀ F, Ent W (A ++ F) (law02_BitsReverse v0 v1 noP fun v w => ∃ x, v = r x ∧ sat W (B x ++ F) w)) : Cn Try.prog 3 [v0, v1] W A r B :=
  Cn.of (shape := law02_BitsReverse v0 v1) Try.call3 (fun h => law02_BitsReverse_calls h) h
theorem law02_BitsReverse_cnP {v0 v1 : Value} {W : World} {α β : Type} {A : List HP} {r : α → Value} {B : α → List HP} {pc : β → List PanicEntry} {Bp : β → List HP} (h : ∀ F, Ent W (A ++ F) (law02_BitsReverse v0 v1 (fun ch w => ∃ y, ch = pc y ∧ sat W (Bp y ++ F) w) fun v w => ∃ x, v = r x ∧ sat W (B x ++ F) w)) : CnP Try.prog 3 [v0, v1] W A r B pc Bp :=
  CnP.of (shape := law02_BitsReverse v0 v1) Try.call3 (fun h => law02_BitsReverse_calls h) h

/-- law22_PoolRound -/
def law22_PoolRound (v0 v1 : Value) (Kp : PK) (K : Value → WP) : WP :=
  opN Try.prog (sBox 28 v0) Kp fun x2 =>
  opN Try.prog (sLoad 28 x2) Kp fun x14 =>
  opN Try.prog (sCall (fn 15) [x14]) Kp fun x15 =>
  opN Try.prog (sCall (fn 14) [x15]) Kp fun x16 =>
  opN Try.prog (sExt x16 0) Kp fun x17 =>
  opN Try.prog (sExt x16 1) Kp fun x18 =>
  opN Try.prog (sCall (fn 16) [x18]) Kp fun x20 =>
  opN Try.prog (sEq .neq 3 (.tmp 20) (.const (.int .i64 0)) x20 (.int .i64 0)) Kp fun x21 =>
  gdK x21 false (fun k => k x17) fun x23 =>
  gdK x21 false (opN Try.prog (sEq .eql 29 (.tmp 23) (.const (.pointer none)) x23 (.pointer none)) Kp) fun x24 =>
  opN Try.prog (sPick x21 (.bool true) x24) Kp fun x25 =>
  gdK x25 false (opN Try.prog (sCall (fn 17) []) Kp) fun x27 =>
  gdK x25 false (opN Try.prog (sUn .not x27) Kp) fun x28 =>
  opN Try.prog (sPick x25 (.bool true) x28) Kp fun x29 =>
  condS x29
  (opN Try.prog (sCall (fn 17) []) Kp fun x30 =>
   K x30)
  (loop2 (fun I1 m1 _ y7 y8 =>
    opN Try.prog (sFA 28 x2 1) Kp fun x32 =>
    opN Try.prog (sLoad 26 x32) Kp fun x33 =>
    opN Try.prog (sLen #[26] 3 [x33]) Kp fun x34 =>
    opN Try.prog (sBin .lss 3 y8 x34) Kp fun x35 =>
    condS x35
    (opN Try.prog (sFA 28 x2 1) Kp fun x39 =>
     opN Try.prog (sLoad 26 x39) Kp fun x40 =>
     opN Try.prog (sIA 26 x40 y8) Kp fun x42 =>
     opN Try.prog (sFA 39 x42 1) Kp fun x43 =>
     opN Try.prog (sLoad 3 x43) Kp fun x44 =>
     opN Try.prog (sMin #[3, 3] 3 [y7, x44]) Kp fun x45 =>
     opN Try.prog (sBin .add 3 y8 (.int .i64 1)) Kp fun x37 =>
     next2 I1 m1 x45 x37)
    (opN Try.prog (sBin .rem 3 v1 (.int .i64 64)) Kp fun x47 =>
     opN Try.prog (sBin .add 3 x47 (.int .i64 64)) Kp fun x48 =>
     opN Try.prog (sBin .rem 3 x48 (.int .i64 64)) Kp fun x49 =>
     loop1 (fun I2 m2 _ y9 =>
      opN Try.prog (sBin .lss 3 y9 x49) Kp fun x52 =>
      gdK x52 true (fun k => k y9) fun x54 =>
      gdK x52 true (fun k => k y7) fun x55 =>
      gdK x52 true (opN Try.prog (sFA 28 x2 1) Kp) fun x56 =>
      gdK x52 true (opN Try.prog (sLoad 26 x56) Kp) fun x57 =>
      gdK x52 true (opN Try.prog (sLen #[26] 3 [x57]) Kp) fun x58 =>
      gdK x52 true (opN Try.prog (sBin .mul 3 x55 x58) Kp) fun x59 =>
      gdK x52 true (opN Try.prog (sBin .lss 3 x54 x59) Kp) fun x60 =>
      opN Try.prog (sPick x52 x60 (.bool false)) Kp fun x61 =>
      condS x61
      (opN Try.prog (sCall (fn 18) [x17, (.int .i64 5)]) Kp fun x66 =>
       opN Try.prog (sExt x66 0) Kp fun x67 =>
       opN Try.prog (sExt x66 1) Kp fun x68 =>
       opN Try.prog (sExt x66 2) Kp fun x69 =>
       opN Try.prog (sAlloc 41) Kp fun x10 =>
       opN Try.prog (sStore 41 x10 x67) Kp fun _ =>
       drS (opN Try.prog (sCall (fn 16) [x69]) Kp fun x71 =>
        stS Try.prog (sEq .neq 3 (.tmp 71) (.const (.int .i64 0)) x71 (.int .i64 0)) fun x72 =>
        gdK x72 false (stS Try.prog (sFA 41 x10 0)) fun x74 =>
        gdK x72 false (stS Try.prog (sLoad 3 x74)) fun x75 =>
        gdK x72 false (stS Try.prog (sFA 28 x2 1)) fun x76 =>
        gdK x72 false (stS Try.prog (sLoad 26 x76)) fun x77 =>
        gdK x72 false (fun k => k y9) fun x78 =>
        gdK x72 false (stS Try.prog (sFA 28 x2 1)) fun x79 =>
        gdK x72 false (stS Try.prog (sLoad 26 x79)) fun x80 =>
        gdK x72 false (stS Try.prog (sLen #[26] 3 [x80])) fun x81 =>
        gdK x72 false (stS Try.prog (sBin .rem 3 x78 x81)) fun x82 =>
        gdK x72 false (stS Try.prog (sIA 26 x77 x82)) fun x83 =>
        gdK x72 false (stS Try.prog (sFA 39 x83 0)) fun x84 =>
        gdK x72 false (stS Try.prog (sLoad 3 x84)) fun x85 =>
        gdK x72 false (stS Try.prog (sEq .neq 3 (.tmp 75) (.tmp 85) x75 x85)) fun x86 =>
        stS Try.prog (sPick x72 (.bool true) x86) fun x87 =>
        gdK x87 false (fun k => k x68) fun x89 =>
        gdK x87 false (stS Try.prog (sUn .not x89)) fun x90 =>
        stS Try.prog (sPick x87 (.bool true) x90) fun x91 =>
        gdK x91 false (stS Try.prog (sFA 41 x10 1)) fun x93 =>
        gdK x91 false (stS Try.prog (sLoad 3 x93)) fun x94 =>
        gdK x91 false (fun k => k y9) fun x95 =>
        gdK x91 false (stS Try.prog (sEq .neq 3 (.tmp 94) (.tmp 95) x94 x95)) fun x96 =>
        stS Try.prog (sPick x91 (.bool true) x96) fun x97 =>
        condS x97
        (K (.bool false))
        (opN Try.prog (sBin .add 3 y9 (.int .i64 1)) Kp fun x63 =>
         next1 I2 m2 x63)))
      (K (.bool true))) (.int .i64 0))) (.int .i64 64) (.int .i64 0))
def law22_PoolRound_an : Ann := { cuts := [], blks := [], loops := [(6, [7, 8]), (11, [9])], drs := [(14, [(0, 1), (1, 0), (2, 1), (3, 1), (4, 1), (5, 1), (6, 1), (7, 1), (8, 1), (9, 1), (10, 1), (11, 1), (12, 1), (13, 1), (14, 1), (15, 1), (16, 1), (17, 1), (18, 1), (19, 1), (20, 1), (21, 1), (22, 1), (23, 1), (24, 1), (25, 1), (26, 1), (27, 1)])] }
theorem law22_PoolRound_eq (v0 v1 : Value) (Kp : PK) (K : Value → WP) : cevF Try.prog law22_PoolRound_an Try.f4 [v0, v1] Kp K = law22_PoolRound v0 v1 Kp K := by kernel_rfl
theorem law22_PoolRound_calls {v0 v1 : Value} {Kp : PK} {K : Value → WP} {w : World} (h : law22_PoolRound v0 v1 Kp K w) : Calls Try.prog 4 #[v0, v1] w (after Kp K) :=
  calls_of_shape (calls_of_cev wide Try.func4 (an := law22_PoolRound_an) (args := [v0, v1]) (cast (congrFun (law22_PoolRound_eq v0 v1 Kp K) w).symm h))
theorem law22_PoolRound_cn {v0 v1 : Value} {W : World} {α : Type} {A : List HP} {r : α → Value} {B : α → List HP} (h : ∀ F, Ent W (A ++ F) (law22_PoolRound v0 v1 noP fun v w => ∃ x, v = r x ∧ sat W (B x ++ F) w)) : Cn Try.prog 4 [v0, v1] W A r B :=
  Cn.of (shape := law22_PoolRound v0 v1) Try.call4 (fun h => law22_PoolRound_calls h) h
theorem law22_PoolRound_cnP {v0 v1 : Value} {W : World} {α β : Type} {A : List HP} {r : α → Value} {B : α → List HP} {pc : β → List PanicEntry} {Bp : β → List HP} (h : ∀ F, Ent W (A ++ F) (law22_PoolRound v0 v1 (fun ch w => ∃ y, ch = pc y ∧ sat W (Bp y ++ F) w) fun v w => ∃ x, v = r x ∧ sat W (B x ++ F) w)) : CnP Try.prog 4 [v0, v1] W A r B pc Bp :=
  CnP.of (shape := law22_PoolRound v0 v1) Try.call4 (fun h => law22_PoolRound_calls h) h

/-- law02_BitsWrites -/
def law02_BitsWrites (v0 v1 : Value) (Kp : PK) (K : Value → WP) : WP :=
  opN Try.prog (sCall (fn 19) []) Kp fun x10 =>
  opN Try.prog (sCall (fn 19) []) Kp fun x11 =>
  opN Try.prog (sEq .eql 46 (.tmp 12) (.const (.pointer none)) x10 (.pointer none)) Kp fun x13 =>
  gdK x13 false (fun k => k x11) fun x15 =>
  gdK x13 false (opN Try.prog (sEq .eql 46 (.tmp 15) (.const (.pointer none)) x15 (.pointer none)) Kp) fun x16 =>
  opN Try.prog (sPick x13 (.bool true) x16) Kp fun x17 =>
  gdK x17 false (opN Try.prog (sCall (fn 13) []) Kp) fun x19 =>
  gdK x17 false (opN Try.prog (sUn .not x19) Kp) fun x20 =>
  opN Try.prog (sPick x17 (.bool true) x20) Kp fun x21 =>
  condS x21
  (K (.bool false))
  (opN Try.prog (sBuild 51 []) Kp fun x22 =>
   opN Try.prog (sBox 51 x22) Kp fun x23 =>
   opN Try.prog (sBuild 51 []) Kp fun x24 =>
   opN Try.prog (sBox 51 x24) Kp fun x25 =>
   loop1 (fun I1 m1 _ y9 =>
    opN Try.prog (sLen #[45] 3 [v0]) Kp fun x28 =>
    opN Try.prog (sBin .lss 3 y9 x28) Kp fun x29 =>
    gdK x29 false (fun k => k y9) fun x31 =>
    gdK x29 false (fun k => k v1) fun x32 =>
    gdK x29 false (opN Try.prog (sLen #[45] 3 [x32]) Kp) fun x33 =>
    gdK x29 false (opN Try.prog (sBin .lss 3 x31 x33) Kp) fun x34 =>
    opN Try.prog (sPick x29 (.bool true) x34) Kp fun x35 =>
    condS x35
    (opN Try.prog (sLen #[45] 3 [v0]) Kp fun x40 =>
     opN Try.prog (sBin .lss 3 y9 x40) Kp fun x41 =>
     gdK x41 true (fun k => k x10) fun x43 =>
     gdK x41 true (fun k => k x23) fun x44 =>
     gdK x41 true (fun k => k v0) fun x45 =>
     gdK x41 true (fun k => k y9) fun x46 =>
     gdK x41 true (opN Try.prog (sIA 45 x45 x46) Kp) fun x47 =>
     gdK x41 true (opN Try.prog (sLoad 54 x47) Kp) fun x48 =>
     gdK x41 true (opN Try.prog (sCall (fn 20) [x43, x44, x48]) Kp) fun x49 =>
     gdK x41 true (opN Try.prog (sUn .not x49) Kp) fun x50 =>
     opN Try.prog (sPick x41 x50 (.bool false)) Kp fun x51 =>
     gdK x51 false (fun k => k y9) fun x53 =>
     gdK x51 false (fun k => k v1) fun x54 =>
     gdK x51 false (opN Try.prog (sLen #[45] 3 [x54]) Kp) fun x55 =>
     gdK x51 false (opN Try.prog (sBin .lss 3 x53 x55) Kp) fun x56 =>
     gdK x51 false (fun k => k x56) fun x57 =>
     gdK x57 true (fun k => k x11) fun x58 =>
     gdK x57 true (fun k => k x25) fun x59 =>
     gdK x57 true (fun k => k v1) fun x60 =>
     gdK x57 true (fun k => k y9) fun x61 =>
     gdK x57 true (opN Try.prog (sIA 45 x60 x61) Kp) fun x62 =>
     gdK x57 true (opN Try.prog (sLoad 54 x62) Kp) fun x63 =>
     gdK x57 true (opN Try.prog (sCall (fn 20) [x58, x59, x63]) Kp) fun x64 =>
     gdK x57 true (opN Try.prog (sUn .not x64) Kp) fun x65 =>
     gdK x51 false (opN Try.prog (sPick x57 x65 (.bool false)) Kp) fun x66 =>
     opN Try.prog (sPick x51 (.bool true) x66) Kp fun x67 =>
     condS x67
     (K (.bool false))
     (opN Try.prog (sBin .add 3 y9 (.int .i64 1)) Kp fun x37 =>
      next1 I1 m1 x37))
    (drS (opN Try.prog (sCall (fn 21) [x10]) Kp fun x69 =>
      stD Try.prog (sConv 49 9 x69) fun D2 x70 =>
      opN Try.prog (sCall (fn 22) [x23]) Kp fun x72 =>
      (fun w => D2 w ∧ (stS Try.prog (sConv 49 9 x72) fun x73 =>
        stS Try.prog (sEq .eql 9 (.tmp 70) (.tmp 73) x70 x73) fun x74 =>
        gdK x74 true (fun k => k x11) fun x76 =>
        gdK x74 true (fun k => k x25) fun x79 =>
        gdK x74 true (opN Try.prog (sCall (fn 21) [x76]) Kp) fun x77 =>
        gdD x74 true (stD Try.prog (sConv 49 9 x77)) fun D10 x78 =>
        gdK x74 true (opN Try.prog (sCall (fn 22) [x79]) Kp) fun x80 =>
        (fun w => D10 w ∧ (gdK x74 true (stS Try.prog (sConv 49 9 x80)) fun x81 =>
          gdK x74 true (stS Try.prog (sEq .eql 9 (.tmp 78) (.tmp 81) x78 x81)) fun x82 =>
          stS Try.prog (sPick x74 x82 (.bool false)) fun x83 =>
          K x83) w)) w)))) (.int .i64 0))
def law02_BitsWrites_an : Ann := { cuts := [], blks := [], loops := [(8, [9])], drs := [(12, [(0, 1), (3, 2), (1, 0), (2, 3), (4, 0), (5, 1), (6, 1), (7, 1), (8, 1), (11, 2), (9, 0), (10, 3), (12, 0), (13, 1), (14, 1), (15, 1), (16, 1)])] }
theorem law02_BitsWrites_eq (v0 v1 : Value) (Kp : PK) (K : Value → WP) : cevF Try.prog law02_BitsWrites_an Try.f5 [v0, v1] Kp K = law02_BitsWrites v0 v1 Kp K := by kernel_rfl
theorem law02_BitsWrites_calls {v0 v1 : Value} {Kp : PK} {K : Value → WP} {w : World} (h : law02_BitsWrites v0 v1 Kp K w) : Calls Try.prog 5 #[v0, v1] w (after Kp K) :=
  calls_of_shape (calls_of_cev wide Try.func5 (an := law02_BitsWrites_an) (args := [v0, v1]) (cast (congrFun (law02_BitsWrites_eq v0 v1 Kp K) w).symm h))
theorem law02_BitsWrites_cn {v0 v1 : Value} {W : World} {α : Type} {A : List HP} {r : α → Value} {B : α → List HP} (h : ∀ F, Ent W (A ++ F) (law02_BitsWrites v0 v1 noP fun v w => ∃ x, v = r x ∧ sat W (B x ++ F) w)) : Cn Try.prog 5 [v0, v1] W A r B :=
  Cn.of (shape := law02_BitsWrites v0 v1) Try.call5 (fun h => law02_BitsWrites_calls h) h
theorem law02_BitsWrites_cnP {v0 v1 : Value} {W : World} {α β : Type} {A : List HP} {r : α → Value} {B : α → List HP} {pc : β → List PanicEntry} {Bp : β → List HP} (h : ∀ F, Ent W (A ++ F) (law02_BitsWrites v0 v1 (fun ch w => ∃ y, ch = pc y ∧ sat W (Bp y ++ F) w) fun v w => ∃ x, v = r x ∧ sat W (B x ++ F) w)) : CnP Try.prog 5 [v0, v1] W A r B pc Bp :=
  CnP.of (shape := law02_BitsWrites v0 v1) Try.call5 (fun h => law02_BitsWrites_calls h) h

/-- law02_BitsReads -/
def law02_BitsReads (v0 v1 : Value) (Kp : PK) (K : Value → WP) : WP :=
  opN Try.prog (sCall (fn 23) [v0]) Kp fun x20 =>
  opN Try.prog (sCall (fn 24) [x20]) Kp fun x22 =>
  opN Try.prog (sEq .eql 58 (.tmp 23) (.const (.pointer none)) x22 (.pointer none)) Kp fun x24 =>
  gdK x24 false (fun k => k x20) fun x26 =>
  gdK x24 false (fun k => k v0) fun x27 =>
  gdK x24 false (opN Try.prog (sCall (fn 25) [x26, x27]) Kp) fun x28 =>
  gdK x24 false (opN Try.prog (sUn .not x28) Kp) fun x29 =>
  opN Try.prog (sPick x24 (.bool true) x29) Kp fun x30 =>
  gdK x30 false (opN Try.prog (sCall (fn 13) []) Kp) fun x32 =>
  gdK x30 false (opN Try.prog (sUn .not x32) Kp) fun x33 =>
  opN Try.prog (sPick x30 (.bool true) x33) Kp fun x34 =>
  condS x34
  (K (.bool false))
  (loop1 (fun I1 m1 _ y7 =>
    opN Try.prog (sLen #[49] 3 [x20]) Kp fun x37 =>
    opN Try.prog (sBin .lss 3 y7 x37) Kp fun x38 =>
    condS x38
    (opN Try.prog (sIA 49 x20 y7) Kp fun x45 =>
     opN Try.prog (sLoad 5 x45) Kp fun x46 =>
     opN Try.prog (sBin .add 5 x46 (.int .u8 1)) Kp fun x47 =>
     opN Try.prog (sIA 49 x20 y7) Kp fun x48 =>
     opN Try.prog (sStore 5 x48 x47) Kp fun _ =>
     opN Try.prog (sBin .add 3 y7 (.int .i64 1)) Kp fun x40 =>
     next1 I1 m1 x40)
    (opN Try.prog (sCall (fn 26) [v0]) Kp fun x50 =>
     loop1 (fun I2 m2 _ y9 =>
      opN Try.prog (sLen #[45] 3 [v1]) Kp fun x53 =>
      opN Try.prog (sBin .lss 3 y9 x53) Kp fun x54 =>
      condS x54
      (cut0 (fun J1 =>
        opN Try.prog (sIA 45 v1 y9) Kp fun x59 =>
        opN Try.prog (sFA 54 x59 0) Kp fun x60 =>
        opN Try.prog (sLoad 3 x60) Kp fun x61 =>
        opN Try.prog (sEq .eql 3 (.tmp 61) (.const (.int .i64 0)) x61 (.int .i64 0)) Kp fun x108 =>
        condS x108
        (opN Try.prog (sIA 45 v1 y9) Kp fun x113 =>
         opN Try.prog (sFA 54 x113 1) Kp fun x114 =>
         opN Try.prog (sLoad 3 x114) Kp fun x115 =>
         opN Try.prog (sCall (fn 27) [x22, x115]) Kp fun x116 =>
         opN Try.prog (sExt x116 0) Kp fun x117 =>
         opN Try.prog (sExt x116 1) Kp fun x118 =>
         opN Try.prog (sIA 45 v1 y9) Kp fun x123 =>
         opN Try.prog (sFA 54 x123 1) Kp fun x124 =>
         opN Try.prog (sLoad 3 x124) Kp fun x125 =>
         opN Try.prog (sCall (fn 28) [x50, x125]) Kp fun x126 =>
         opN Try.prog (sExt x126 0) Kp fun x127 =>
         opN Try.prog (sExt x126 1) Kp fun x128 =>
         opN Try.prog (sEq .neq 3 (.tmp 129) (.tmp 130) x117 x127) Kp fun x131 =>
         gdK x131 false (fun k => k x118) fun x133 =>
         gdK x131 false (opN Try.prog (sCall (fn 29) [x133]) Kp) fun x134 =>
         gdK x131 false (fun k => k x128) fun x135 =>
         gdK x131 false (opN Try.prog (sEq .neq 3 (.tmp 134) (.tmp 135) x134 x135) Kp) fun x136 =>
         opN Try.prog (sPick x131 (.bool true) x136) Kp fun x137 =>
         condS x137
         (K (.bool false))
         (J1))
        (opN Try.prog (sEq .eql 3 (.tmp 61) (.const (.int .i64 1)) x61 (.int .i64 1)) Kp fun x139 =>
         condS x139
         (opN Try.prog (sCall (fn 30) [x22]) Kp fun x141 =>
          opN Try.prog (sCall (fn 31) [x50]) Kp fun x143 =>
          J1)
         (opN Try.prog (sIA 45 v1 y9) Kp fun x66 =>
          opN Try.prog (sFA 54 x66 1) Kp fun x67 =>
          opN Try.prog (sLoad 3 x67) Kp fun x68 =>
          opN Try.prog (sCall (fn 32) [x22, x68]) Kp fun x69 =>
          opN Try.prog (sExt x69 0) Kp fun x70 =>
          opN Try.prog (sExt x69 1) Kp fun x71 =>
          opN Try.prog (sIA 45 v1 y9) Kp fun x76 =>
          opN Try.prog (sFA 54 x76 1) Kp fun x77 =>
          opN Try.prog (sLoad 3 x77) Kp fun x78 =>
          opN Try.prog (sCall (fn 33) [x50, x78]) Kp fun x79 =>
          opN Try.prog (sExt x79 0) Kp fun x80 =>
          opN Try.prog (sExt x79 1) Kp fun x81 =>
          opN Try.prog (sConv 49 9 x70) Kp fun x83 =>
          opN Try.prog (sConv 49 9 x80) Kp fun x85 =>
          opN Try.prog (sEq .neq 9 (.tmp 83) (.tmp 85) x83 x85) Kp fun x86 =>
          gdK x86 false (fun k => k x71) fun x88 =>
          gdK x86 false (opN Try.prog (sCall (fn 29) [x88]) Kp) fun x89 =>
          gdK x86 false (fun k => k x81) fun x90 =>
          gdK x86 false (opN Try.prog (sEq .neq 3 (.tmp 89) (.tmp 90) x89 x90) Kp) fun x91 =>
          opN Try.prog (sPick x86 (.bool true) x91) Kp fun x92 =>
          condS x92
          (K (.bool false))
          (loop1 (fun I3 m3 _ y18 =>
            opN Try.prog (sLen #[49] 3 [x70]) Kp fun x95 =>
            opN Try.prog (sBin .lss 3 y18 x95) Kp fun x96 =>
            condS x96
            (opN Try.prog (sIA 49 x70 y18) Kp fun x103 =>
             opN Try.prog (sLoad 5 x103) Kp fun x104 =>
             opN Try.prog (sBin .add 5 x104 (.int .u8 1)) Kp fun x105 =>
             opN Try.prog (sIA 49 x70 y18) Kp fun x106 =>
             opN Try.prog (sStore 5 x106 x105) Kp fun _ =>
             opN Try.prog (sBin .add 3 y18 (.int .i64 1)) Kp fun x98 =>
             next1 I3 m3 x98)
            (J1)) (.int .i64 0))))) fun _ =>
       opN Try.prog (sCall (fn 34) [x22]) Kp fun x145 =>
       opN Try.prog (sCall (fn 35) [x50]) Kp fun x147 =>
       opN Try.prog (sEq .neq 3 (.tmp 145) (.tmp 147) x145 x147) Kp fun x148 =>
       condS x148
       (K (.bool false))
       (opN Try.prog (sBin .add 3 y9 (.int .i64 1)) Kp fun x56 =>
        next1 I2 m2 x56))
      (K (.bool true))) (.int .i64 0))) (.int .i64 0))
def law02_BitsReads_an : Ann := { cuts := [(30, [])], blks := [], loops := [(6, [7]), (11, [9]), (19, [18])], drs := [] }
theorem law02_BitsReads_eq (v0 v1 : Value) (Kp : PK) (K : Value → WP) : cevF Try.prog law02_BitsReads_an Try.f6 [v0, v1] Kp K = law02_BitsReads v0 v1 Kp K := by kernel_rfl
theorem law02_BitsReads_calls {v0 v1 : Value} {Kp : PK} {K : Value → WP} {w : World} (h : law02_BitsReads v0 v1 Kp K w) : Calls Try.prog 6 #[v0, v1] w (after Kp K) :=
  calls_of_shape (calls_of_cev wide Try.func6 (an := law02_BitsReads_an) (args := [v0, v1]) (cast (congrFun (law02_BitsReads_eq v0 v1 Kp K) w).symm h))
theorem law02_BitsReads_cn {v0 v1 : Value} {W : World} {α : Type} {A : List HP} {r : α → Value} {B : α → List HP} (h : ∀ F, Ent W (A ++ F) (law02_BitsReads v0 v1 noP fun v w => ∃ x, v = r x ∧ sat W (B x ++ F) w)) : Cn Try.prog 6 [v0, v1] W A r B :=
  Cn.of (shape := law02_BitsReads v0 v1) Try.call6 (fun h => law02_BitsReads_calls h) h
theorem law02_BitsReads_cnP {v0 v1 : Value} {W : World} {α β : Type} {A : List HP} {r : α → Value} {B : α → List HP} {pc : β → List PanicEntry} {Bp : β → List HP} (h : ∀ F, Ent W (A ++ F) (law02_BitsReads v0 v1 (fun ch w => ∃ y, ch = pc y ∧ sat W (Bp y ++ F) w) fun v w => ∃ x, v = r x ∧ sat W (B x ++ F) w)) : CnP Try.prog 6 [v0, v1] W A r B pc Bp :=
  CnP.of (shape := law02_BitsReads v0 v1) Try.call6 (fun h => law02_BitsReads_calls h) h

/-- law02_BitsNil -/
def law02_BitsNil (v0 v1 v2 : Value) (Kp : PK) (K : Value → WP) : WP :=
  loop3 (fun I1 m1 _ y7 y8 y9 =>
   opN Try.prog (sBin .lss 3 y9 (.int .i64 2)) Kp fun x15 =>
   condS x15
   (opN Try.prog (sCall (fn 36) [y7]) Kp fun x19 =>
    opN Try.prog (sCall (fn 30) [y8]) Kp fun x21 =>
    opN Try.prog (sCall (fn 27) [y8, v1]) Kp fun x25 =>
    opN Try.prog (sExt x25 0) Kp fun x26 =>
    opN Try.prog (sExt x25 1) Kp fun x27 =>
    opN Try.prog (sCall (fn 32) [y8, v0]) Kp fun x31 =>
    opN Try.prog (sExt x31 0) Kp fun x32 =>
    opN Try.prog (sExt x31 1) Kp fun x33 =>
    opN Try.prog (sCall (fn 37) [y7, v0, v1]) Kp fun x37 =>
    opN Try.prog (sCall (fn 29) [x37]) Kp fun x38 =>
    opN Try.prog (sEq .neq 3 (.tmp 38) (.const (.int .i64 1)) x38 (.int .i64 1)) Kp fun x39 =>
    gdK x39 false (fun k => k y7) fun x41 =>
    gdK x39 false (fun k => k v2) fun x42 =>
    gdK x39 false (opN Try.prog (sCall (fn 38) [x41, x42]) Kp) fun x43 =>
    gdK x39 false (opN Try.prog (sCall (fn 29) [x43]) Kp) fun x44 =>
    gdK x39 false (opN Try.prog (sEq .neq 3 (.tmp 44) (.const (.int .i64 1)) x44 (.int .i64 1)) Kp) fun x45 =>
    opN Try.prog (sPick x39 (.bool true) x45) Kp fun x46 =>
    gdK x46 false (fun k => k y7) fun x48 =>
    gdK x46 false (opN Try.prog (sCall (fn 39) [x48]) Kp) fun x49 =>
    gdK x46 false (opN Try.prog (sEq .neq 3 (.tmp 49) (.const (.int .i64 0)) x49 (.int .i64 0)) Kp) fun x50 =>
    opN Try.prog (sPick x46 (.bool true) x50) Kp fun x51 =>
    gdK x51 false (fun k => k y7) fun x53 =>
    gdK x51 false (opN Try.prog (sCall (fn 21) [x53]) Kp) fun x54 =>
    gdK x51 false (opN Try.prog (sLen #[49] 3 [x54]) Kp) fun x55 =>
    gdK x51 false (opN Try.prog (sEq .neq 3 (.tmp 55) (.const (.int .i64 0)) x55 (.int .i64 0)) Kp) fun x56 =>
    opN Try.prog (sPick x51 (.bool true) x56) Kp fun x57 =>
    gdK x57 false (fun k => k x26) fun x59 =>
    gdK x57 false (opN Try.prog (sEq .neq 3 (.tmp 59) (.const (.int .i64 0)) x59 (.int .i64 0)) Kp) fun x60 =>
    opN Try.prog (sPick x57 (.bool true) x60) Kp fun x61 =>
    gdK x61 false (fun k => k x27) fun x63 =>
    gdK x61 false (opN Try.prog (sCall (fn 29) [x63]) Kp) fun x64 =>
    gdK x61 false (opN Try.prog (sEq .neq 3 (.tmp 64) (.const (.int .i64 1)) x64 (.int .i64 1)) Kp) fun x65 =>
    opN Try.prog (sPick x61 (.bool true) x65) Kp fun x66 =>
    gdK x66 false (fun k => k x32) fun x68 =>
    gdK x66 false (opN Try.prog (sLen #[49] 3 [x68]) Kp) fun x69 =>
    gdK x66 false (opN Try.prog (sEq .neq 3 (.tmp 69) (.const (.int .i64 0)) x69 (.int .i64 0)) Kp) fun x70 =>
    opN Try.prog (sPick x66 (.bool true) x70) Kp fun x71 =>
    gdK x71 false (fun k => k x33) fun x73 =>
    gdK x71 false (opN Try.prog (sCall (fn 29) [x73]) Kp) fun x74 =>
    gdK x71 false (opN Try.prog (sEq .neq 3 (.tmp 74) (.const (.int .i64 1)) x74 (.int .i64 1)) Kp) fun x75 =>
    opN Try.prog (sPick x71 (.bool true) x75) Kp fun x76 =>
    gdK x76 false (fun k => k y8) fun x78 =>
    gdK x76 false (opN Try.prog (sCall (fn 34) [x78]) Kp) fun x79 =>
    gdK x76 false (opN Try.prog (sEq .neq 3 (.tmp 79) (.const (.int .i64 0)) x79 (.int .i64 0)) Kp) fun x80 =>
    opN Try.prog (sPick x76 (.bool true) x80) Kp fun x81 =>
    condS x81
    (K (.bool false))
    (opN Try.prog (sBuild 76 []) Kp fun x82 =>
     opN Try.prog (sBox 76 x82) Kp fun x83 =>
     opN Try.prog (sBuild 80 []) Kp fun x84 =>
     opN Try.prog (sBox 80 x84) Kp fun x85 =>
     opN Try.prog (sBin .add 3 y9 (.int .i64 1)) Kp fun x17 =>
     next3 I1 m1 x83 x85 x17))
   (opN Try.prog (sCall (fn 13) []) Kp fun x86 =>
    K x86)) (.pointer none) (.pointer none) (.int .i64 0)
def law02_BitsNil_an : Ann := { cuts := [], blks := [], loops := [(4, [7, 8, 9])], drs := [] }
theorem law02_BitsNil_eq (v0 v1 v2 : Value) (Kp : PK) (K : Value → WP) : cevF Try.prog law02_BitsNil_an Try.f7 [v0, v1, v2] Kp K = law02_BitsNil v0 v1 v2 Kp K := by kernel_rfl
theorem law02_BitsNil_calls {v0 v1 v2 : Value} {Kp : PK} {K : Value → WP} {w : World} (h : law02_BitsNil v0 v1 v2 Kp K w) : Calls Try.prog 7 #[v0, v1, v2] w (after Kp K) :=
  calls_of_shape (calls_of_cev wide Try.func7 (an := law02_BitsNil_an) (args := [v0, v1, v2]) (cast (congrFun (law02_BitsNil_eq v0 v1 v2 Kp K) w).symm h))
theorem law02_BitsNil_cn {v0 v1 v2 : Value} {W : World} {α : Type} {A : List HP} {r : α → Value} {B : α → List HP} (h : ∀ F, Ent W (A ++ F) (law02_BitsNil v0 v1 v2 noP fun v w => ∃ x, v = r x ∧ sat W (B x ++ F) w)) : Cn Try.prog 7 [v0, v1, v2] W A r B :=
  Cn.of (shape := law02_BitsNil v0 v1 v2) Try.call7 (fun h => law02_BitsNil_calls h) h
theorem law02_BitsNil_cnP {v0 v1 v2 : Value} {W : World} {α β : Type} {A : List HP} {r : α → Value} {B : α → List HP} {pc : β → List PanicEntry} {Bp : β → List HP} (h : ∀ F, Ent W (A ++ F) (law02_BitsNil v0 v1 v2 (fun ch w => ∃ y, ch = pc y ∧ sat W (Bp y ++ F) w) fun v w => ∃ x, v = r x ∧ sat W (B x ++ F) w)) : CnP Try.prog 7 [v0, v1, v2] W A r B pc Bp :=
  CnP.of (shape := law02_BitsNil v0 v1 v2) Try.call7 (fun h => law02_BitsNil_calls h) h

/-- law02_BitsBack -/
def law02_BitsBack (v0 : Value) (Kp : PK) (K : Value → WP) : WP :=
  opN Try.prog (sCall (fn 19) []) Kp fun x13 =>
  opN Try.prog (sEq .eql 46 (.tmp 14) (.const (.pointer none)) x13 (.pointer none)) Kp fun x15 =>
  gdK x15 false (opN Try.prog (sCall (fn 13) []) Kp) fun x17 =>
  gdK x15 false (opN Try.prog (sUn .not x17) Kp) fun x18 =>
  opN Try.prog (sPick x15 (.bool true) x18) Kp fun x19 =>
  condS x19
  (K (.bool false))
  (loop2 (fun I1 m1 _ y4 y5 =>
    opN Try.prog (sLen #[45] 3 [v0]) Kp fun x22 =>
    opN Try.prog (sBin .lss 3 y5 x22) Kp fun x23 =>
    condS x23
    (cut1 (fun J1 =>
      opN Try.prog (sIA 45 v0 y5) Kp fun x28 =>
      opN Try.prog (sFA 54 x28 0) Kp fun x29 =>
      opN Try.prog (sLoad 3 x29) Kp fun x30 =>
      opN Try.prog (sEq .eql 3 (.tmp 30) (.const (.int .i64 0)) x30 (.int .i64 0)) Kp fun x43 =>
      condS x43
      (drS (stS Try.prog (sIA 45 v0 y5) fun x47 =>
        stS Try.prog (sFA 54 x47 2) fun x48 =>
        stS Try.prog (sLoad 3 x48) fun x49 =>
        stS Try.prog (sIA 45 v0 y5) fun x52 =>
        stS Try.prog (sFA 54 x52 1) fun x53 =>
        stS Try.prog (sLoad 3 x53) fun x54 =>
        opN Try.prog (sCall (fn 37) [x13, x49, x54]) Kp fun x55 =>
        opN Try.prog (sCall (fn 29) [x55]) Kp fun x56 =>
        stS Try.prog (sEq .eql 3 (.tmp 56) (.const (.int .i64 0)) x56 (.int .i64 0)) fun x57 =>
        J1 x57))
      (opN Try.prog (sEq .eql 3 (.tmp 30) (.const (.int .i64 1)) x30 (.int .i64 1)) Kp fun x59 =>
       condS x59
       (opN Try.prog (sCall (fn 36) [x13]) Kp fun x61 =>
        J1 (.bool true))
       (opN Try.prog (sBuildSl 49 0 []) Kp fun x32 =>
        opN Try.prog (sIA 45 v0 y5) Kp fun x35 =>
        opN Try.prog (sFA 54 x35 3) Kp fun x36 =>
        opN Try.prog (sLoad 49 x36) Kp fun x37 =>
        opN Try.prog (sApp #[49, 49] 49 [x32, x37]) Kp fun x38 =>
        opN Try.prog (sCall (fn 38) [x13, x38]) Kp fun x39 =>
        opN Try.prog (sCall (fn 29) [x39]) Kp fun x40 =>
        opN Try.prog (sEq .eql 3 (.tmp 40) (.const (.int .i64 0)) x40 (.int .i64 0)) Kp fun x41 =>
        J1 x41))) fun _ z6 =>
     condS z6
     (opN Try.prog (sIA 45 v0 y5) Kp fun x66 =>
      opN Try.prog (sLoad 54 x66) Kp fun x67 =>
      opN Try.prog (sBuildSl 45 1 [(0, x67)]) Kp fun x68 =>
      opN Try.prog (sApp #[45, 45] 45 [y4, x68]) Kp fun x69 =>
      opN Try.prog (sBin .add 3 y5 (.int .i64 1)) Kp fun x25 =>
      next2 I1 m1 x69 x25)
     (opN Try.prog (sBin .add 3 y5 (.int .i64 1)) Kp fun x25 =>
      next2 I1 m1 y4 x25))
    (opN Try.prog (sCall (fn 21) [x13]) Kp fun x71 =>
     opN Try.prog (sCall (fn 24) [x71]) Kp fun x72 =>
     opN Try.prog (sEq .eql 58 (.tmp 73) (.const (.pointer none)) x72 (.pointer none)) Kp fun x74 =>
     gdK x74 false (fun k => k x72) fun x76 =>
     gdK x74 false (opN Try.prog (sCall (fn 34) [x76]) Kp) fun x77 =>
     gdK x74 false (fun k => k x13) fun x78 =>
     gdK x74 false (opN Try.prog (sCall (fn 39) [x78]) Kp) fun x79 =>
     gdK x74 false (opN Try.prog (sBin .lss 3 x77 x79) Kp) fun x80 =>
     opN Try.prog (sPick x74 (.bool true) x80) Kp fun x81 =>
     gdK x81 false (fun k => k x72) fun x83 =>
     gdK x81 false (opN Try.prog (sCall (fn 34) [x83]) Kp) fun x84 =>
     gdK x81 false (fun k => k x13) fun x85 =>
     gdK x81 false (opN Try.prog (sCall (fn 39) [x85]) Kp) fun x86 =>
     gdK x81 false (opN Try.prog (sBin .sub 3 x84 x86) Kp) fun x87 =>
     gdK x81 false (opN Try.prog (sBin .gtr 3 x87 (.int .i64 7)) Kp) fun x88 =>
     opN Try.prog (sPick x81 (.bool true) x88) Kp fun x89 =>
     condS x89
     (K (.bool false))
     (loop1 (fun I2 m2 _ y8 =>
       opN Try.prog (sLen #[45] 3 [y4]) Kp fun x92 =>
       opN Try.prog (sBin .lss 3 y8 x92) Kp fun x93 =>
       condS x93
       (opN Try.prog (sIA 45 y4 y8) Kp fun x98 =>
        opN Try.prog (sFA 54 x98 0) Kp fun x99 =>
        opN Try.prog (sLoad 3 x99) Kp fun x100 =>
        opN Try.prog (sEq .eql 3 (.tmp 100) (.const (.int .i64 0)) x100 (.int .i64 0)) Kp fun x127 =>
        condS x127
        (opN Try.prog (sIA 45 y4 y8) Kp fun x132 =>
         opN Try.prog (sFA 54 x132 1) Kp fun x133 =>
         opN Try.prog (sLoad 3 x133) Kp fun x134 =>
         opN Try.prog (sCall (fn 27) [x72, x134]) Kp fun x135 =>
         opN Try.prog (sExt x135 0) Kp fun x136 =>
         opN Try.prog (sExt x135 1) Kp fun x137 =>
         opN Try.prog (sCall (fn 29) [x137]) Kp fun x139 =>
         opN Try.prog (sEq .neq 3 (.tmp 139) (.const (.int .i64 0)) x139 (.int .i64 0)) Kp fun x140 =>
         gdK x140 false (fun k => k x136) fun x142 =>
         gdK x140 false (fun k => k y4) fun x143 =>
         gdK x140 false (fun k => k y8) fun x144 =>
         gdK x140 false (opN Try.prog (sIA 45 x143 x144) Kp) fun x145 =>
         gdK x140 false (opN Try.prog (sFA 54 x145 2) Kp) fun x146 =>
         gdK x140 false (opN Try.prog (sLoad 3 x146) Kp) fun x147 =>
         gdK x140 false (opN Try.prog (sEq .neq 3 (.tmp 142) (.tmp 147) x142 x147) Kp) fun x148 =>
         opN Try.prog (sPick x140 (.bool true) x148) Kp fun x149 =>
         condS x149
         (K (.bool false))
         (opN Try.prog (sBin .add 3 y8 (.int .i64 1)) Kp fun x95 =>
          next1 I2 m2 x95))
        (opN Try.prog (sEq .eql 3 (.tmp 100) (.const (.int .i64 1)) x100 (.int .i64 1)) Kp fun x151 =>
         condS x151
         (opN Try.prog (sCall (fn 30) [x72]) Kp fun x153 =>
          opN Try.prog (sBin .add 3 y8 (.int .i64 1)) Kp fun x95 =>
          next1 I2 m2 x95)
         (opN Try.prog (sIA 45 y4 y8) Kp fun x105 =>
          opN Try.prog (sFA 54 x105 3) Kp fun x106 =>
          opN Try.prog (sLoad 49 x106) Kp fun x107 =>
          opN Try.prog (sLen #[49] 3 [x107]) Kp fun x108 =>
          opN Try.prog (sCall (fn 32) [x72, x108]) Kp fun x109 =>
          opN Try.prog (sExt x109 0) Kp fun x110 =>
          opN Try.prog (sExt x109 1) Kp fun x111 =>
          drS (opN Try.prog (sCall (fn 29) [x111]) Kp fun x113 =>
           stS Try.prog (sEq .neq 3 (.tmp 113) (.const (.int .i64 0)) x113 (.int .i64 0)) fun x114 =>
           gdK x114 false (fun k => k x110) fun x116 =>
           gdK x114 false (stS Try.prog (sConv 49 9 x116)) fun x117 =>
           gdK x114 false (fun k => k y4) fun x118 =>
           gdK x114 false (fun k => k y8) fun x119 =>
           gdK x114 false (stS Try.prog (sIA 45 x118 x119)) fun x120 =>
           gdK x114 false (stS Try.prog (sFA 54 x120 3)) fun x121 =>
           gdK x114 false (stS Try.prog (sLoad 49 x121)) fun x122 =>
           gdK x114 false (stS Try.prog (sConv 49 9 x122)) fun x123 =>
           gdK x114 false (stS Try.prog (sEq .neq 9 (.tmp 117) (.tmp 123) x117 x123)) fun x124 =>
           stS Try.prog (sPick x114 (.bool true) x124) fun x125 =>
           condS x125
           (K (.bool false))
           (opN Try.prog (sBin .add 3 y8 (.int .i64 1)) Kp fun x95 =>
            next1 I2 m2 x95)))))
       (opN Try.prog (sCall (fn 34) [x72]) Kp fun x155 =>
        opN Try.prog (sBin .lss 3 x155 (.int .i64 8)) Kp fun x156 =>
        K x156)) (.int .i64 0)))) (.slice none 0 0) (.int .i64 0))
def law02_BitsBack_an : Ann := { cuts := [(15, [6])], blks := [], loops := [(6, [4, 5]), (21, [8])], drs := [(12, [(0, 1), (1, 1), (2, 1), (3, 1), (4, 1), (5, 1), (6, 1), (7, 1), (8, 1), (9, 1), (10, 1), (11, 0), (12, 0), (13, 1), (14, 1)]), (25, [(0, 1), (1, 0), (2, 1), (3, 1), (4, 1), (5, 1), (6, 1), (7, 1), (8, 1), (9, 1), (10, 1), (11, 1), (12, 1), (13, 1)])] }
theorem law02_BitsBack_eq (v0 : Value) (Kp : PK) (K : Value → WP) : cevF Try.prog law02_BitsBack_an Try.f8 [v0] Kp K = law02_BitsBack v0 Kp K := by kernel_rfl
theorem law02_BitsBack_calls {v0 : Value} {Kp : PK} {K : Value → WP} {w : World} (h : law02_BitsBack v0 Kp K w) : Calls Try.prog 8 #[v0] w (after Kp K) :=
  calls_of_shape (calls_of_cev wide Try.func8 (an := law02_BitsBack_an) (args := [v0]) (cast (congrFun (law02_BitsBack_eq v0 Kp K) w).symm h))
theorem law02_BitsBack_cn {v0 : Value} {W : World} {α : Type} {A : List HP} {r : α → Value} {B : α → List HP} (h : ∀ F, Ent W (A ++ F) (law02_BitsBack v0 noP fun v w => ∃ x, v = r x ∧ sat W (B x ++ F) w)) : Cn Try.prog 8 [v0] W A r B :=
  Cn.of (shape := law02_BitsBack v0) Try.call8 (fun h => law02_BitsBack_calls h) h
theorem law02_BitsBack_cnP {v0 : Value} {W : World} {α β : Type} {A : List HP} {r : α → Value} {B : α → List HP} {pc : β → List PanicEntry} {Bp : β → List HP} (h : ∀ F, Ent W (A ++ F) (law02_BitsBack v0 (fun ch w => ∃ y, ch = pc y ∧ sat W (Bp y ++ F) w) fun v w => ∃ x, v = r x ∧ sat W (B x ++ F) w)) : CnP Try.prog 8 [v0] W A r B pc Bp :=
  CnP.of (shape := law02_BitsBack v0) Try.call8 (fun h => law02_BitsBack_calls h) h

/-- law22_PoolBounds -/
def law22_PoolBounds (v0 v1 : Value) (Kp : PK) (K : Value → WP) : WP :=
  opN Try.prog (sBox 28 v0) Kp fun x2 =>
  opN Try.prog (sLoad 28 x2) Kp fun x21 =>
  opN Try.prog (sCall (fn 15) [x21]) Kp fun x22 =>
  opN Try.prog (sCall (fn 14) [x22]) Kp fun x23 =>
  opN Try.prog (sExt x23 0) Kp fun x24 =>
  opN Try.prog (sExt x23 1) Kp fun x25 =>
  opN Try.prog (sCall (fn 16) [x25]) Kp fun x27 =>
  opN Try.prog (sEq .neq 3 (.tmp 27) (.const (.int .i64 0)) x27 (.int .i64 0)) Kp fun x28 =>
  gdK x28 false (fun k => k x24) fun x30 =>
  gdK x28 false (opN Try.prog (sEq .eql 29 (.tmp 30) (.const (.pointer none)) x30 (.pointer none)) Kp) fun x31 =>
  opN Try.prog (sPick x28 (.bool true) x31) Kp fun x32 =>
  gdK x32 false (opN Try.prog (sCall (fn 17) []) Kp) fun x34 =>
  gdK x32 false (opN Try.prog (sUn .not x34) Kp) fun x35 =>
  opN Try.prog (sPick x32 (.bool true) x35) Kp fun x36 =>
  condS x36
  (opN Try.prog (sCall (fn 16) [x25]) Kp fun x38 =>
   opN Try.prog (sEq .eql 3 (.tmp 38) (.const (.int .i64 0)) x38 (.int .i64 0)) Kp fun x39 =>
   opN Try.prog (sEq .neq 29 (.tmp 40) (.const (.pointer none)) x24 (.pointer none)) Kp fun x41 =>
   opN Try.prog (sEq .eql 4 (.tmp 39) (.tmp 41) x39 x41) Kp fun x42 =>
   gdK x42 true (opN Try.prog (sCall (fn 17) []) Kp) fun x44 =>
   opN Try.prog (sPick x42 x44 (.bool false)) Kp fun x45 =>
   K x45)
  (opN Try.prog (sFA 28 x2 1) Kp fun x46 =>
   opN Try.prog (sLoad 26 x46) Kp fun x47 =>
   opN Try.prog (sLen #[26] 3 [x47]) Kp fun x48 =>
   opN Try.prog (sMkSl 85 x48 x48) Kp fun x49 =>
   loop3 (fun I1 m1 _ y7 y9 y10 =>
    opN Try.prog (sLen #[83] 3 [v1]) Kp fun x52 =>
    opN Try.prog (sBin .lss 3 y10 x52) Kp fun x53 =>
    condS x53
    (opN Try.prog (sIA 83 v1 y10) Kp fun x59 =>
     opN Try.prog (sFA 87 x59 2) Kp fun x60 =>
     opN Try.prog (sLoad 3 x60) Kp fun x61 =>
     opN Try.prog (sBin .rem 3 x61 (.int .i64 100)) Kp fun x62 =>
     opN Try.prog (sBin .add 3 x62 (.int .i64 100)) Kp fun x63 =>
     opN Try.prog (sBin .rem 3 x63 (.int .i64 100)) Kp fun x64 =>
     opN Try.prog (sBin .add 3 y9 x64) Kp fun x65 =>
     cut1 (fun J1 =>
      opN Try.prog (sIA 83 v1 y10) Kp fun x68 =>
      opN Try.prog (sFA 87 x68 0) Kp fun x69 =>
      opN Try.prog (sLoad 3 x69) Kp fun x70 =>
      opN Try.prog (sEq .eql 3 (.tmp 70) (.const (.int .i64 0)) x70 (.int .i64 0)) Kp fun x171 =>
      condS x171
      (opN Try.prog (sCall (fn 18) [x24, x65]) Kp fun x175 =>
       opN Try.prog (sExt x175 0) Kp fun x176 =>
       opN Try.prog (sExt x175 1) Kp fun x177 =>
       opN Try.prog (sExt x175 2) Kp fun x178 =>
       opN Try.prog (sAlloc 41) Kp fun x11 =>
       opN Try.prog (sStore 41 x11 x176) Kp fun _ =>
       opN Try.prog (sCall (fn 16) [x178]) Kp fun x180 =>
       opN Try.prog (sEq .neq 3 (.tmp 180) (.const (.int .i64 0)) x180 (.int .i64 0)) Kp fun x181 =>
       condS x181
       (J1 y7)
       (loop1 (fun I2 m2 _ y14 =>
         opN Try.prog (sLen #[84] 3 [y7]) Kp fun x184 =>
         opN Try.prog (sBin .lss 3 y14 x184) Kp fun x185 =>
         condS x185
         (drS (stS Try.prog (sIA 84 y7 y14) fun x190 =>
           stS Try.prog (sFA 41 x190 1) fun x191 =>
           stS Try.prog (sLoad 3 x191) fun x192 =>
           stS Try.prog (sFA 41 x11 1) fun x193 =>
           stS Try.prog (sLoad 3 x193) fun x194 =>
           stS Try.prog (sEq .eql 3 (.tmp 192) (.tmp 194) x192 x194) fun x195 =>
           condS x195
           (K (.bool false))
           (opN Try.prog (sBin .add 3 y14 (.int .i64 1)) Kp fun x187 =>
            next1 I2 m2 x187)))
         (loop1 (fun I3 m3 _ y15 =>
           opN Try.prog (sFA 28 x2 1) Kp fun x197 =>
           opN Try.prog (sLoad 26 x197) Kp fun x198 =>
           opN Try.prog (sLen #[26] 3 [x198]) Kp fun x199 =>
           opN Try.prog (sBin .lss 3 y15 x199) Kp fun x200 =>
           condS x200
           (drS (stS Try.prog (sFA 28 x2 1) fun x203 =>
             stS Try.prog (sLoad 26 x203) fun x204 =>
             stS Try.prog (sIA 26 x204 y15) fun x206 =>
             stS Try.prog (sFA 39 x206 0) fun x207 =>
             stS Try.prog (sLoad 3 x207) fun x208 =>
             stS Try.prog (sFA 41 x11 0) fun x209 =>
             stS Try.prog (sLoad 3 x209) fun x210 =>
             stS Try.prog (sEq .eql 3 (.tmp 208) (.tmp 210) x208 x210) fun x211 =>
             gdK x211 true (fun k => k x65) fun x213 =>
             gdK x211 true (fun k => k x49) fun x214 =>
             gdK x211 true (fun k => k y15) fun x215 =>
             gdK x211 true (stS Try.prog (sIA 85 x214 x215)) fun x216 =>
             gdK x211 true (stS Try.prog (sLoad 3 x216)) fun x217 =>
             gdK x211 true (stS Try.prog (sBin .lss 3 x213 x217)) fun x218 =>
             stS Try.prog (sPick x211 x218 (.bool false)) fun x219 =>
             condS x219
             (K (.bool false))
             (opN Try.prog (sBin .add 3 y15 (.int .i64 1)) Kp fun x202 =>
              next1 I3 m3 x202)))
           (opN Try.prog (sLoad 41 x11) Kp fun x221 =>
            opN Try.prog (sBuildSl 84 1 [(0, x221)]) Kp fun x222 =>
            opN Try.prog (sApp #[84, 84] 84 [y7, x222]) Kp fun x223 =>
            J1 x223)) (.int .i64 0))) (.int .i64 0)))
      (opN Try.prog (sLen #[84] 3 [y7]) Kp fun x72 =>
       opN Try.prog (sEq .eql 3 (.tmp 72) (.const (.int .i64 0)) x72 (.int .i64 0)) Kp fun x73 =>
       condS x73
       (J1 y7)
       (opN Try.prog (sIA 83 v1 y10) Kp fun x76 =>
        opN Try.prog (sFA 87 x76 1) Kp fun x77 =>
        opN Try.prog (sLoad 3 x77) Kp fun x78 =>
        opN Try.prog (sLen #[84] 3 [y7]) Kp fun x80 =>
        opN Try.prog (sBin .rem 3 x78 x80) Kp fun x81 =>
        opN Try.prog (sLen #[84] 3 [y7]) Kp fun x83 =>
        opN Try.prog (sBin .add 3 x81 x83) Kp fun x84 =>
        opN Try.prog (sLen #[84] 3 [y7]) Kp fun x86 =>
        opN Try.prog (sBin .rem 3 x84 x86) Kp fun x87 =>
        opN Try.prog (sIA 84 y7 x87) Kp fun x90 =>
        opN Try.prog (sLoad 41 x90) Kp fun x91 =>
        opN Try.prog (sAlloc 41) Kp fun x17 =>
        opN Try.prog (sStore 41 x17 x91) Kp fun _ =>
        drS (stD Try.prog (sSl 84 y7 none (some x87) none) fun D3 x95 =>
         stD Try.prog (sBin .add 3 x87 (.int .i64 1)) fun D7 x99 =>
         stD Try.prog (sSl 84 y7 (some x99) none none) fun D8 x100 =>
         opN Try.prog (sBuildSl 84 0 []) Kp fun x92 =>
         (fun w => D8 w ∧ (fun w => D7 w ∧ (fun w => D3 w ∧ (opN Try.prog (sApp #[84, 84] 84 [x92, x95]) Kp fun x96 =>
             (fun w => D8 w ∧ (fun w => D7 w ∧ (opN Try.prog (sApp #[84, 84] 84 [x96, x100]) Kp fun x101 =>
                drS (stS Try.prog (sIA 83 v1 y10) fun x104 =>
                 stS Try.prog (sFA 87 x104 0) fun x105 =>
                 stS Try.prog (sLoad 3 x105) fun x106 =>
                 stS Try.prog (sEq .neq 3 (.tmp 106) (.const (.int .i64 3)) x106 (.int .i64 3)) fun x107 =>
                 gdK x107 true (fun k => k x24) fun x109 =>
                 gdK x107 true (stS Try.prog (sFA 41 x17 1)) fun x110 =>
                 gdK x107 true (stS Try.prog (sLoad 3 x110)) fun x111 =>
                 gdK x107 true (fun k => k v1) fun x112 =>
                 gdK x107 true (fun k => k y10) fun x113 =>
                 gdK x107 true (stS Try.prog (sIA 83 x112 x113)) fun x114 =>
                 gdK x107 true (stS Try.prog (sFA 87 x114 0)) fun x115 =>
                 gdK x107 true (stS Try.prog (sLoad 3 x115)) fun x116 =>
                 gdK x107 true (stS Try.prog (sEq .eql 3 (.tmp 116) (.const (.int .i64 1)) x116 (.int .i64 1))) fun x117 =>
                 gdK x107 true (opN Try.prog (sCall (fn 40) [x109, x111, x117]) Kp) fun x118 =>
                 gdK x107 true (opN Try.prog (sCall (fn 16) [x118]) Kp) fun x119 =>
                 gdK x107 true (stS Try.prog (sEq .neq 3 (.tmp 119) (.const (.int .i64 0)) x119 (.int .i64 0))) fun x120 =>
                 stS Try.prog (sPick x107 x120 (.bool false)) fun x121 =>
                 gdK x121 false (fun k => k v1) fun x123 =>
                 gdK x121 false (fun k => k y10) fun x124 =>
                 gdK x121 false (stS Try.prog (sIA 83 x123 x124)) fun x125 =>
                 gdK x121 false (stS Try.prog (sFA 87 x125 0)) fun x126 =>
                 gdK x121 false (stS Try.prog (sLoad 3 x126)) fun x127 =>
                 gdK x121 false (stS Try.prog (sEq .eql 3 (.tmp 127) (.const (.int .i64 3)) x127 (.int .i64 3))) fun x128 =>
                 gdK x121 false (fun k => k x128) fun x129 =>
                 gdK x129 true (fun k => k x24) fun x130 =>
                 gdK x129 true (stS Try.prog (sFA 41 x17 1)) fun x131 =>
                 gdK x129 true (stS Try.prog (sLoad 3 x131)) fun x132 =>
                 gdK x129 true (fun k => k x65) fun x133 =>
                 gdK x129 true (opN Try.prog (sCall (fn 41) [x130, x132, x133]) Kp) fun x134 =>
                 gdK x129 true (opN Try.prog (sCall (fn 16) [x134]) Kp) fun x135 =>
                 gdK x129 true (stS Try.prog (sEq .neq 3 (.tmp 135) (.const (.int .i64 0)) x135 (.int .i64 0))) fun x136 =>
                 gdK x121 false (stS Try.prog (sPick x129 x136 (.bool false))) fun x137 =>
                 stS Try.prog (sPick x121 (.bool true) x137) fun x138 =>
                 condS x138
                 (K (.bool false))
                 (loop1 (fun I4 m4 _ y18 =>
                   opN Try.prog (sFA 28 x2 1) Kp fun x140 =>
                   opN Try.prog (sLoad 26 x140) Kp fun x141 =>
                   opN Try.prog (sLen #[26] 3 [x141]) Kp fun x142 =>
                   opN Try.prog (sBin .lss 3 y18 x142) Kp fun x143 =>
                   gdK x143 true (fun k => k v1) fun x145 =>
                   gdK x143 true (fun k => k y10) fun x146 =>
                   gdK x143 true (opN Try.prog (sIA 83 x145 x146) Kp) fun x147 =>
                   gdK x143 true (opN Try.prog (sFA 87 x147 0) Kp) fun x148 =>
                   gdK x143 true (opN Try.prog (sLoad 3 x148) Kp) fun x149 =>
                   gdK x143 true (opN Try.prog (sEq .eql 3 (.tmp 149) (.const (.int .i64 3)) x149 (.int .i64 3)) Kp) fun x150 =>
                   opN Try.prog (sPick x143 x150 (.bool false)) Kp fun x151 =>
                   condS x151
                   (drS (stS Try.prog (sFA 28 x2 1) fun x154 =>
                     stS Try.prog (sLoad 26 x154) fun x155 =>
                     stS Try.prog (sIA 26 x155 y18) fun x157 =>
                     stS Try.prog (sFA 39 x157 0) fun x158 =>
                     stS Try.prog (sLoad 3 x158) fun x159 =>
                     stS Try.prog (sFA 41 x17 0) fun x160 =>
                     stS Try.prog (sLoad 3 x160) fun x161 =>
                     stS Try.prog (sEq .eql 3 (.tmp 159) (.tmp 161) x159 x161) fun x162 =>
                     condS x162
                     (opN Try.prog (sFA 28 x2 2) Kp fun x166 =>
                      opN Try.prog (sLoad 3 x166) Kp fun x167 =>
                      opN Try.prog (sBin .add 3 x65 x167) Kp fun x168 =>
                      opN Try.prog (sIA 85 x49 y18) Kp fun x169 =>
                      opN Try.prog (sStore 3 x169 x168) Kp fun _ =>
                      opN Try.prog (sBin .add 3 y18 (.int .i64 1)) Kp fun x153 =>
                      next1 I4 m4 x153)
                     (opN Try.prog (sBin .add 3 y18 (.int .i64 1)) Kp fun x153 =>
                      next1 I4 m4 x153)))
                   (J1 x101)) (.int .i64 0)))) w) w)) w) w) w))))) fun _ z7 =>
     loop1 (fun I5 m5 _ y19 =>
      opN Try.prog (sFA 28 x2 1) Kp fun x225 =>
      opN Try.prog (sLoad 26 x225) Kp fun x226 =>
      opN Try.prog (sLen #[26] 3 [x226]) Kp fun x227 =>
      opN Try.prog (sBin .lss 3 y19 x227) Kp fun x228 =>
      condS x228
      (drS (stS Try.prog (sFA 28 x2 1) fun x232 =>
        stS Try.prog (sLoad 26 x232) fun x233 =>
        stS Try.prog (sIA 26 x233 y19) fun x235 =>
        stS Try.prog (sFA 39 x235 0) fun x236 =>
        stS Try.prog (sLoad 3 x236) fun x237 =>
        stD Try.prog (sFA 28 x2 1) fun D9 x240 =>
        stD Try.prog (sLoad 26 x240) fun D10 x241 =>
        stD Try.prog (sIA 26 x241 y19) fun D12 x243 =>
        stD Try.prog (sFA 39 x243 0) fun D13 x244 =>
        stD Try.prog (sLoad 3 x244) fun D14 x245 =>
        stD Try.prog (sFA 28 x2 1) fun D17 x248 =>
        stD Try.prog (sLoad 26 x248) fun D18 x249 =>
        stD Try.prog (sIA 26 x249 y19) fun D20 x251 =>
        stD Try.prog (sFA 39 x251 1) fun D21 x252 =>
        stD Try.prog (sLoad 3 x252) fun D22 x253 =>
        opN Try.prog (sCall (fn 42) [x24, x237]) Kp fun x238 =>
        (fun w => D22 w ∧ (fun w => D21 w ∧ (fun w => D20 w ∧ (fun w => D18 w ∧ (fun w => D17 w ∧ (fun w => D14 w ∧ (fun w => D13 w ∧ (fun w => D12 w ∧ (fun w => D10 w ∧ (fun w => D9 w ∧ (opN Try.prog (sCall (fn 43) [x24, x245]) Kp fun x246 =>
                   (fun w => D22 w ∧ (fun w => D21 w ∧ (fun w => D20 w ∧ (fun w => D18 w ∧ (fun w => D17 w ∧ (stS Try.prog (sBin .add 3 x238 x246) fun x247 =>
                      stS Try.prog (sBin .gtr 3 x247 x253) fun x254 =>
                      condS x254
                      (K (.bool false))
                      (opN Try.prog (sBin .add 3 y19 (.int .i64 1)) Kp fun x230 =>
                      next1 I5 m5 x230)) w) w) w) w) w)) w) w) w) w) w) w) w) w) w) w)))
      (opN Try.prog (sBin .add 3 y10 (.int .i64 1)) Kp fun x55 =>
       next3 I1 m1 z7 x65 x55)) (.int .i64 0))
    (K (.bool true))) (.slice none 0 0) (.int .i64 0) (.int .i64 0))
def law22_PoolBounds_an : Ann := { cuts := [(37, [7])], blks := [], loops := [(8, [7, 9, 10]), (19, [18]), (27, [14]), (32, [15]), (38, [19])], drs := [(15, [(1, 2), (2, 2), (3, 3), (5, 2), (6, 2), (7, 3), (8, 3), (0, 0), (4, 0), (9, 0), (10, 1)]), (16, [(0, 1), (1, 1), (2, 1), (3, 1), (4, 1), (5, 1), (6, 1), (7, 1), (8, 1), (9, 1), (10, 1), (11, 1), (12, 1), (13, 1), (14, 1), (15, 1), (16, 0), (17, 0), (18, 1), (19, 1), (20, 1), (21, 1), (22, 1), (23, 1), (24, 1), (25, 1), (26, 1), (27, 1), (28, 1), (29, 1), (30, 1), (31, 1), (32, 0), (33, 0), (34, 1), (35, 1), (36, 1)]), (21, [(0, 1), (1, 1), (2, 1), (3, 1), (4, 1), (5, 1), (6, 1), (7, 1), (8, 1)]), (29, [(0, 1), (1, 1), (2, 1), (3, 1), (4, 1), (5, 1), (6, 1), (7, 1)]), (34, [(0, 1), (1, 1), (2, 1), (3, 1), (4, 1), (5, 1), (6, 1), (7, 1), (8, 1), (9, 1), (10, 1), (11, 1), (12, 1), (13, 1), (14, 1), (15, 1), (16, 1)]), (40, [(0, 1), (1, 1), (2, 1), (3, 1), (4, 1), (5, 1), (6, 1), (8, 2), (9, 3), (10, 3), (11, 2), (12, 3), (13, 3), (14, 3), (17, 3), (18, 3), (19, 2), (20, 3), (21, 3), (22, 3), (7, 0), (15, 0), (16, 1), (23, 1)])] }
theorem law22_PoolBounds_eq (v0 v1 : Value) (Kp : PK) (K : Value → WP) : cevF Try.prog law22_PoolBounds_an Try.f9 [v0, v1] Kp K = law22_PoolBounds v0 v1 Kp K := by kernel_rfl
theorem law22_PoolBounds_calls {v0 v1 : Value} {Kp : PK} {K : Value → WP} {w : World} (h : law22_PoolBounds v0 v1 Kp K w) : Calls Try.prog 9 #[v0, v1] w (after Kp K) :=
  calls_of_shape (calls_of_cev wide Try.func9 (an := law22_PoolBounds_an) (args := [v0, v1]) (cast (congrFun (law22_PoolBounds_eq v0 v1 Kp K) w).symm h))
theorem law22_PoolBounds_cn {v0 v1 : Value} {W : World} {α : Type} {A : List HP} {r : α → Value} {B : α → List HP} (h : ∀ F, Ent W (A ++ F) (law22_PoolBounds v0 v1 noP fun v w => ∃ x, v = r x ∧ sat W (B x ++ F) w)) : Cn Try.prog 9 [v0, v1] W A r B :=
  Cn.of (shape := law22_PoolBounds v0 v1) Try.call9 (fun h => law22_PoolBounds_calls h) h
theorem law22_PoolBounds_cnP {v0 v1 : Value} {W : World} {α β : Type} {A : List HP} {r : α → Value} {B : α → List HP} {pc : β → List PanicEntry} {Bp : β → List HP} (h : ∀ F, Ent W (A ++ F) (law22_PoolBounds v0 v1 (fun ch w => ∃ y, ch = pc y ∧ sat W (Bp y ++ F) w) fun v w => ∃ x, v = r x ∧ sat W (B x ++ F) w)) : CnP Try.prog 9 [v0, v1] W A r B pc Bp :=
  CnP.of (shape := law22_PoolBounds v0 v1) Try.call9 (fun h => law22_PoolBounds_calls h) h

/-- law22_PoolNil -/
def law22_PoolNil (v0 v1 : Value) (Kp : PK) (K : Value → WP) : WP :=
  loop2 (fun I1 m1 _ y5 y6 =>
   opN Try.prog (sBin .lss 3 y6 (.int .i64 2)) Kp fun x11 =>
   condS x11
   (opN Try.prog (sCall (fn 18) [y5, v1]) Kp fun x17 =>
    opN Try.prog (sExt x17 0) Kp fun x18 =>
    opN Try.prog (sExt x17 1) Kp fun x19 =>
    opN Try.prog (sExt x17 2) Kp fun x20 =>
    opN Try.prog (sAlloc 41) Kp fun x7 =>
    opN Try.prog (sStore 41 x7 x18) Kp fun _ =>
    opN Try.prog (sFA 41 x7 0) Kp fun x21 =>
    opN Try.prog (sLoad 3 x21) Kp fun x22 =>
    opN Try.prog (sEq .neq 3 (.tmp 22) (.const (.int .i64 0)) x22 (.int .i64 0)) Kp fun x23 =>
    gdK x23 false (opN Try.prog (sFA 41 x7 1) Kp) fun x25 =>
    gdK x23 false (opN Try.prog (sLoad 3 x25) Kp) fun x26 =>
    gdK x23 false (opN Try.prog (sEq .neq 3 (.tmp 26) (.const (.int .i64 0)) x26 (.int .i64 0)) Kp) fun x27 =>
    opN Try.prog (sPick x23 (.bool true) x27) Kp fun x28 =>
    gdK x28 false (fun k => k x19) fun x30 =>
    opN Try.prog (sPick x28 (.bool true) x30) Kp fun x31 =>
    gdK x31 false (fun k => k x20) fun x33 =>
    gdK x31 false (opN Try.prog (sCall (fn 16) [x33]) Kp) fun x34 =>
    gdK x31 false (opN Try.prog (sEq .neq 3 (.tmp 34) (.const (.int .i64 1)) x34 (.int .i64 1)) Kp) fun x35 =>
    opN Try.prog (sPick x31 (.bool true) x35) Kp fun x36 =>
    gdK x36 false (fun k => k y5) fun x38 =>
    gdK x36 false (fun k => k v0) fun x39 =>
    gdK x36 false (opN Try.prog (sCall (fn 40) [x38, x39, (.bool true)]) Kp) fun x40 =>
    gdK x36 false (opN Try.prog (sCall (fn 16) [x40]) Kp) fun x41 =>
    gdK x36 false (opN Try.prog (sEq .neq 3 (.tmp 41) (.const (.int .i64 1)) x41 (.int .i64 1)) Kp) fun x42 =>
    opN Try.prog (sPick x36 (.bool true) x42) Kp fun x43 =>
    gdK x43 false (fun k => k y5) fun x45 =>
    gdK x43 false (fun k => k v0) fun x46 =>
    gdK x43 false (fun k => k v1) fun x47 =>
    gdK x43 false (opN Try.prog (sCall (fn 41) [x45, x46, x47]) Kp) fun x48 =>
    gdK x43 false (opN Try.prog (sCall (fn 16) [x48]) Kp) fun x49 =>
    gdK x43 false (opN Try.prog (sEq .neq 3 (.tmp 49) (.const (.int .i64 1)) x49 (.int .i64 1)) Kp) fun x50 =>
    opN Try.prog (sPick x43 (.bool true) x50) Kp fun x51 =>
    gdK x51 false (fun k => k y5) fun x53 =>
    gdK x51 false (fun k => k v0) fun x54 =>
    gdK x51 false (opN Try.prog (sCall (fn 44) [x53, x54]) Kp) fun x55 =>
    gdK x51 false (opN Try.prog (sCall (fn 16) [x55]) Kp) fun x56 =>
    gdK x51 false (opN Try.prog (sEq .neq 3 (.tmp 56) (.const (.int .i64 1)) x56 (.int .i64 1)) Kp) fun x57 =>
    opN Try.prog (sPick x51 (.bool true) x57) Kp fun x58 =>
    gdK x58 false (fun k => k y5) fun x60 =>
    gdK x58 false (fun k => k v0) fun x61 =>
    gdK x58 false (opN Try.prog (sCall (fn 42) [x60, x61]) Kp) fun x62 =>
    gdK x58 false (fun k => k y5) fun x63 =>
    gdK x58 false (fun k => k v0) fun x64 =>
    gdK x58 false (opN Try.prog (sCall (fn 43) [x63, x64]) Kp) fun x65 =>
    gdK x58 false (opN Try.prog (sBin .add 3 x62 x65) Kp) fun x66 =>
    gdK x58 false (opN Try.prog (sEq .neq 3 (.tmp 66) (.const (.int .i64 0)) x66 (.int .i64 0)) Kp) fun x67 =>
    opN Try.prog (sPick x58 (.bool true) x67) Kp fun x68 =>
    condS x68
    (K (.bool false))
    (opN Try.prog (sBuild 95 []) Kp fun x69 =>
     opN Try.prog (sBox 95 x69) Kp fun x70 =>
     opN Try.prog (sBin .add 3 y6 (.int .i64 1)) Kp fun x13 =>
     next2 I1 m1 x70 x13))
   (opN Try.prog (sCall (fn 17) []) Kp fun x71 =>
    K x71)) (.pointer none) (.int .i64 0)
def law22_PoolNil_an : Ann := { cuts := [], blks := [], loops := [(3, [5, 6])], drs := [] }
theorem law22_PoolNil_eq (v0 v1 : Value) (Kp : PK) (K : Value → WP) : cevF Try.prog law22_PoolNil_an Try.f10 [v0, v1] Kp K = law22_PoolNil v0 v1 Kp K := by kernel_rfl
theorem law22_PoolNil_calls {v0 v1 : Value} {Kp : PK} {K : Value → WP} {w : World} (h : law22_PoolNil v0 v1 Kp K w) : Calls Try.prog 10 #[v0, v1] w (after Kp K) :=
  calls_of_shape (calls_of_cev wide Try.func10 (an := law22_PoolNil_an) (args := [v0, v1]) (cast (congrFun (law22_PoolNil_eq v0 v1 Kp K) w).symm h))
theorem law22_PoolNil_cn {v0 v1 : Value} {W : World} {α : Type} {A : List HP} {r : α → Value} {B : α → List HP} (h : ∀ F, Ent W (A ++ F) (law22_PoolNil v0 v1 noP fun v w => ∃ x, v = r x ∧ sat W (B x ++ F) w)) : Cn Try.prog 10 [v0, v1] W A r B :=
  Cn.of (shape := law22_PoolNil v0 v1) Try.call10 (fun h => law22_PoolNil_calls h) h
theorem law22_PoolNil_cnP {v0 v1 : Value} {W : World} {α β : Type} {A : List HP} {r : α → Value} {B : α → List HP} {pc : β → List PanicEntry} {Bp : β → List HP} (h : ∀ F, Ent W (A ++ F) (law22_PoolNil v0 v1 (fun ch w => ∃ y, ch = pc y ∧ sat W (Bp y ++ F) w) fun v w => ∃ x, v = r x ∧ sat W (B x ++ F) w)) : CnP Try.prog 10 [v0, v1] W A r B pc Bp :=
  CnP.of (shape := law22_PoolNil v0 v1) Try.call10 (fun h => law22_PoolNil_calls h) h

/-- bits_Reverse -/
def bits_Reverse (v0 v1 : Value) (Kp : PK) (K : Value → WP) : WP :=
  opN Try.prog (sMin #[3, 3] 3 [v1, (.int .i64 32)]) Kp fun x8 =>
  opN Try.prog (sMax #[3, 3] 3 [(.int .i64 0), x8]) Kp fun x9 =>
  loop2 (fun I1 m1 _ y5 y10 =>
   opN Try.prog (sBin .lss 3 y10 x9) Kp fun x11 =>
   condS x11
   (opN Try.prog (sBin .shl 3 y5 (.int .u64 1)) Kp fun x14 =>
    opN Try.prog (sConv 3 23 y10) Kp fun x17 =>
    opN Try.prog (sBin .shr 3 v0 x17) Kp fun x18 =>
    opN Try.prog (sBin .and 3 x18 (.int .i64 1)) Kp fun x19 =>
    opN Try.prog (sBin .or 3 x14 x19) Kp fun x20 =>
    opN Try.prog (sBin .add 3 y10 (.int .i64 1)) Kp fun x21 =>
    next2 I1 m1 x20 x21)
   (K y5)) (.int .i64 0) (.int .i64 0)
def bits_Reverse_an : Ann := { cuts := [], blks := [], loops := [(3, [5, 10])], drs := [] }
theorem bits_Reverse_eq (v0 v1 : Value) (Kp : PK) (K : Value → WP) : cevF Try.prog bits_Reverse_an Try.f11 [v0, v1] Kp K = bits_Reverse v0 v1 Kp K := by kernel_rfl
theorem bits_Reverse_calls {v0 v1 : Value} {Kp : PK} {K : Value → WP} {w : World} (h : bits_Reverse v0 v1 Kp K w) : Calls Try.prog 11 #[v0, v1] w (after Kp K) :=
  calls_of_shape (calls_of_cev wide Try.func11 (an := bits_Reverse_an) (args := [v0, v1]) (cast (congrFun (bits_Reverse_eq v0 v1 Kp K) w).symm h))
theorem bits_Reverse_cn {v0 v1 : Value} {W : World} {α : Type} {A : List HP} {r : α → Value} {B : α → List HP} (h : ∀ F, Ent W (A ++ F) (bits_Reverse v0 v1 noP fun v w => ∃ x, v = r x ∧ sat W (B x ++ F) w)) : Cn Try.prog 11 [v0, v1] W A r B :=
  Cn.of (shape := bits_Reverse v0 v1) Try.call11 (fun h => bits_Reverse_calls h) h
theorem bits_Reverse_cnP {v0 v1 : Value} {W : World} {α β : Type} {A : List HP} {r : α → Value} {B : α → List HP} {pc : β → List PanicEntry} {Bp : β → List HP} (h : ∀ F, Ent W (A ++ F) (bits_Reverse v0 v1 (fun ch w => ∃ y, ch = pc y ∧ sat W (Bp y ++ F) w) fun v w => ∃ x, v = r x ∧ sat W (B x ++ F) w)) : CnP Try.prog 11 [v0, v1] W A r B pc Bp :=
  CnP.of (shape := bits_Reverse v0 v1) Try.call11 (fun h => bits_Reverse_calls h) h

/-- ref02_Reverse -/
def ref02_Reverse (v0 v1 : Value) (Kp : PK) (K : Value → WP) : WP :=
  opN Try.prog (sMin #[3, 3] 3 [v1, (.int .i64 32)]) Kp fun x8 =>
  opN Try.prog (sMax #[3, 3] 3 [(.int .i64 0), x8]) Kp fun x9 =>
  loop2 (fun I1 m1 _ y5 y6 =>
   opN Try.prog (sBin .lss 3 y6 x9) Kp fun x12 =>
   condS x12
   (opN Try.prog (sBin .mul 3 (.int .i64 2) y5) Kp fun x16 =>
    opN Try.prog (sConv 3 23 y6) Kp fun x19 =>
    opN Try.prog (sBin .shr 3 v0 x19) Kp fun x20 =>
    opN Try.prog (sBin .and 3 x20 (.int .i64 1)) Kp fun x21 =>
    opN Try.prog (sBin .add 3 x16 x21) Kp fun x22 =>
    opN Try.prog (sBin .add 3 y6 (.int .i64 1)) Kp fun x14 =>
    next2 I1 m1 x22 x14)
   (K y5)) (.int .i64 0) (.int .i64 0)
def ref02_Reverse_an : Ann := { cuts := [], blks := [], loops := [(4, [5, 6])], drs := [] }
theorem ref02_Reverse_eq (v0 v1 : Value) (Kp : PK) (K : Value → WP) : cevF Try.prog ref02_Reverse_an Try.f12 [v0, v1] Kp K = ref02_Reverse v0 v1 Kp K := by kernel_rfl
theorem ref02_Reverse_calls {v0 v1 : Value} {Kp : PK} {K : Value → WP} {w : World} (h : ref02_Reverse v0 v1 Kp K w) : Calls Try.prog 12 #[v0, v1] w (after Kp K) :=
  calls_of_shape (calls_of_cev wide Try.func12 (an := ref02_Reverse_an) (args := [v0, v1]) (cast (congrFun (ref02_Reverse_eq v0 v1 Kp K) w).symm h))
theorem ref02_Reverse_cn {v0 v1 : Value} {W : World} {α : Type} {A : List HP} {r : α → Value} {B : α → List HP} (h : ∀ F, Ent W (A ++ F) (ref02_Reverse v0 v1 noP fun v w => ∃ x, v = r x ∧ sat W (B x ++ F) w)) : Cn Try.prog 12 [v0, v1] W A r B :=
  Cn.of (shape := ref02_Reverse v0 v1) Try.call12 (fun h => ref02_Reverse_calls h) h
theorem ref02_Reverse_cnP {v0 v1 : Value} {W : World} {α β : Type} {A : List HP} {r : α → Value} {B : α → List HP} {pc : β → List PanicEntry} {Bp : β → List HP} (h : ∀ F, Ent W (A ++ F) (ref02_Reverse v0 v1 (fun ch w => ∃ y, ch = pc y ∧ sat W (Bp y ++ F) w) fun v w => ∃ x, v = r x ∧ sat W (B x ++ F) w)) : CnP Try.prog 12 [v0, v1] W A r B pc Bp :=
  CnP.of (shape := ref02_Reverse v0 v1) Try.call12 (fun h => ref02_Reverse_calls h) h

/-- law02_knows -/
def law02_knows (Kp : PK) (K : Value → WP) : WP :=
  opN Try.prog (sCall (fn 19) []) Kp fun x5 =>
  opN Try.prog (sEq .eql 46 (.tmp 6) (.const (.pointer none)) x5 (.pointer none)) Kp fun x7 =>
  gdK x7 false (fun k => k x5) fun x9 =>
  gdK x7 false (opN Try.prog (sCall (fn 37) [x9, (.int .i64 1), (.int .i64 1)]) Kp) fun x10 =>
  gdK x7 false (opN Try.prog (sCall (fn 29) [x10]) Kp) fun x11 =>
  gdK x7 false (fun k => k x5) fun x12 =>
  gdK x7 false (opN Try.prog (sCall (fn 37) [x12, (.int .i64 2), (.int .i64 2)]) Kp) fun x13 =>
  gdK x7 false (opN Try.prog (sCall (fn 29) [x13]) Kp) fun x14 =>
  gdK x7 false (opN Try.prog (sBin .add 3 x11 x14) Kp) fun x15 =>
  gdK x7 false (fun k => k x5) fun x16 =>
  gdK x7 false (opN Try.prog (sCall (fn 37) [x16, (.int .i64 5), (.int .i64 3)]) Kp) fun x17 =>
  gdK x7 false (opN Try.prog (sCall (fn 29) [x17]) Kp) fun x18 =>
  gdK x7 false (opN Try.prog (sBin .add 3 x15 x18) Kp) fun x19 =>
  gdK x7 false (opN Try.prog (sEq .neq 3 (.tmp 19) (.const (.int .i64 0)) x19 (.int .i64 0)) Kp) fun x20 =>
  opN Try.prog (sPick x7 (.bool true) x20) Kp fun x21 =>
  gdK x21 false (fun k => k x5) fun x23 =>
  gdK x21 false (opN Try.prog (sCall (fn 21) [x23]) Kp) fun x24 =>
  gdK x21 false (opN Try.prog (sConv 49 9 x24) Kp) fun x25 =>
  gdK x21 false (opN Try.prog (sEq .neq 9 (.tmp 25) (.const (.string ⟨#[45]⟩)) x25 (.string ⟨#[45]⟩)) Kp) fun x26 =>
  opN Try.prog (sPick x21 (.bool true) x26) Kp fun x27 =>
  condS x27
  (K (.bool false))
  (opN Try.prog (sBuildSl 49 1 [(0, (.int .u8 45))]) Kp fun x28 =>
   opN Try.prog (sCall (fn 24) [x28]) Kp fun x29 =>
   opN Try.prog (sCall (fn 27) [x29, (.int .i64 3)]) Kp fun x32 =>
   opN Try.prog (sExt x32 0) Kp fun x33 =>
   opN Try.prog (sExt x32 1) Kp fun x34 =>
   opN Try.prog (sEq .eql 3 (.tmp 35) (.const (.int .i64 5)) x33 (.int .i64 5)) Kp fun x36 =>
   gdK x36 true (fun k => k x34) fun x38 =>
   gdK x36 true (opN Try.prog (sCall (fn 29) [x38]) Kp) fun x39 =>
   gdK x36 true (opN Try.prog (sEq .eql 3 (.tmp 39) (.const (.int .i64 0)) x39 (.int .i64 0)) Kp) fun x40 =>
   opN Try.prog (sPick x36 x40 (.bool false)) Kp fun x41 =>
   gdK x41 true (opN Try.prog (sCall (fn 11) [(.int .i64 1), (.int .i64 3)]) Kp) fun x43 =>
   gdK x41 true (opN Try.prog (sEq .eql 3 (.tmp 43) (.const (.int .i64 4)) x43 (.int .i64 4)) Kp) fun x44 =>
   opN Try.prog (sPick x41 x44 (.bool false)) Kp fun x45 =>
   K x45)
def law02_knows_an : Ann := { cuts := [], blks := [], loops := [], drs := [] }
theorem law02_knows_eq (Kp : PK) (K : Value → WP) : cevF Try.prog law02_knows_an Try.f13 [] Kp K = law02_knows Kp K := by kernel_rfl
theorem law02_knows_calls  {Kp : PK} {K : Value → WP} {w : World} (h : law02_knows Kp K w) : Calls Try.prog 13 #[] w (after Kp K) :=
  calls_of_shape (calls_of_cev wide Try.func13 (an := law02_knows_an) (args := []) (cast (congrFun (law02_knows_eq Kp K) w).symm h))
theorem law02_knows_cn  {W : World} {α : Type} {A : List HP} {r : α → Value} {B : α → List HP} (h : ∀ F, Ent W (A ++ F) (law02_knows noP fun v w => ∃ x, v = r x ∧ sat W (B x ++ F) w)) : Cn Try.prog 13 [] W A r B :=
  Cn.of (shape := law02_knows) Try.call13 (fun h => law02_knows_calls h) h
theorem law02_knows_cnP  {W : World} {α β : Type} {A : List HP} {r : α → Value} {B : α → List HP} {pc : β → List PanicEntry} {Bp : β → List HP} (h : ∀ F, Ent W (A ++ F) (law02_knows (fun ch w => ∃ y, ch = pc y ∧ sat W (Bp y ++ F) w) fun v w => ∃ x, v = r x ∧ sat W (B x ++ F) w)) : CnP Try.prog 13 [] W A r B pc Bp :=
  CnP.of (shape := law02_knows) Try.call13 (fun h => law02_knows_calls h) h

/-- pool_New -/
def pool_New (v0 : Value) (Kp : PK) (K : Value → WP) : WP :=
  opN Try.prog (sBox 35 v0) Kp fun x1 =>
  opN Try.prog (sFA 35 x1 1) Kp fun x7 =>
  opN Try.prog (sLoad 33 x7) Kp fun x8 =>
  opN Try.prog (sLen #[33] 3 [x8]) Kp fun x9 =>
  opN Try.prog (sEq .eql 3 (.tmp 9) (.const (.int .i64 0)) x9 (.int .i64 0)) Kp fun x10 =>
  gdK x10 false (opN Try.prog (sFA 35 x1 1) Kp) fun x12 =>
  gdK x10 false (opN Try.prog (sLoad 33 x12) Kp) fun x13 =>
  gdK x10 false (opN Try.prog (sLen #[33] 3 [x13]) Kp) fun x14 =>
  gdK x10 false (opN Try.prog (sBin .gtr 3 x14 (.int .i64 16)) Kp) fun x15 =>
  opN Try.prog (sPick x10 (.bool true) x15) Kp fun x16 =>
  gdK x16 false (opN Try.prog (sFA 35 x1 2) Kp) fun x18 =>
  gdK x16 false (opN Try.prog (sLoad 3 x18) Kp) fun x19 =>
  gdK x16 false (opN Try.prog (sBin .lss 3 x19 (.int .i64 1)) Kp) fun x20 =>
  opN Try.prog (sPick x16 (.bool true) x20) Kp fun x21 =>
  gdK x21 false (opN Try.prog (sFA 35 x1 2) Kp) fun x23 =>
  gdK x21 false (opN Try.prog (sLoad 3 x23) Kp) fun x24 =>
  gdK x21 false (opN Try.prog (sBin .gtr 3 x24 (.int .i64 3600)) Kp) fun x25 =>
  opN Try.prog (sPick x21 (.bool true) x25) Kp fun x26 =>
  condS x26
  (K (.tuple #[(.pointer none), (.int .i64 1)]))
  (opN Try.prog (sMkMap 93 none) Kp fun x27 =>
   opN Try.prog (sMkMap 93 none) Kp fun x28 =>
   opN Try.prog (sFA 35 x1 2) Kp fun x29 =>
   opN Try.prog (sLoad 3 x29) Kp fun x30 =>
   opN Try.prog (sBuild 95 [(1, x27), (2, x28), (5, x30)]) Kp fun x31 =>
   opN Try.prog (sBox 95 x31) Kp fun x32 =>
   opN Try.prog (sFA 35 x1 1) Kp fun x33 =>
   opN Try.prog (sLoad 33 x33) Kp fun x34 =>
   opN Try.prog (sLen #[33] 3 [x34]) Kp fun x35 =>
   loop1 (fun I1 m1 _ y36 =>
    opN Try.prog (sBin .lss 3 y36 x35) Kp fun x37 =>
    condS x37
    (opN Try.prog (sIA 33 x34 y36) Kp fun x38 =>
     opN Try.prog (sLoad 96 x38) Kp fun x39 =>
     opN Try.prog (sAlloc 96) Kp fun x6 =>
     opN Try.prog (sStore 96 x6 x39) Kp fun _ =>
     opN Try.prog (sFA 96 x6 1) Kp fun x40 =>
     opN Try.prog (sLoad 3 x40) Kp fun x41 =>
     opN Try.prog (sBin .lss 3 x41 (.int .i64 1)) Kp fun x42 =>
     gdK x42 false (opN Try.prog (sFA 96 x6 1) Kp) fun x44 =>
     gdK x42 false (opN Try.prog (sLoad 3 x44) Kp) fun x45 =>
     gdK x42 false (opN Try.prog (sBin .gtr 3 x45 (.int .i64 64)) Kp) fun x46 =>
     opN Try.prog (sPick x42 (.bool true) x46) Kp fun x47 =>
     gdK x47 false (fun k => k x32) fun x49 =>
     gdK x47 false (opN Try.prog (sFA 96 x6 0) Kp) fun x50 =>
     gdK x47 false (opN Try.prog (sLoad 3 x50) Kp) fun x51 =>
     gdK x47 false (opN Try.prog (sCall (fn 45) [x49, x51]) Kp) fun x52 =>
     gdK x47 false (opN Try.prog (sEq .neq 97 (.tmp 52) (.const (.pointer none)) x52 (.pointer none)) Kp) fun x53 =>
     opN Try.prog (sPick x47 (.bool true) x53) Kp fun x54 =>
     condS x54
     (K (.tuple #[(.pointer none), (.int .i64 1)]))
     (drS (stD Try.prog (sNil x32) fun D2 x57 =>
       stD Try.prog (sFA 95 x57 0) fun D3 x58 =>
       stD Try.prog (sLoad 92 x58) fun D4 x59 =>
       stS Try.prog (sLoad 96 x6) fun x60 =>
       stS Try.prog (sBuild 100 [(0, x60), (3, (.int .i64 (-2199023255552)))]) fun x61 =>
       opN Try.prog (sBox 100 x61) Kp fun x62 =>
       (fun w => D4 w ∧ (fun w => D3 w ∧ (fun w => D2 w ∧ (opN Try.prog (sBuildSl 92 1 [(0, x62)]) Kp fun x63 =>
           (fun w => D4 w ∧ (fun w => D3 w ∧ (fun w => D2 w ∧ (opN Try.prog (sApp #[92, 92] 92 [x59, x63]) Kp fun x64 =>
               stS Try.prog (sNil x32) fun x65 =>
               stS Try.prog (sFA 95 x65 0) fun x66 =>
               opN Try.prog (sStore 92 x66 x64) Kp fun _ =>
               opN Try.prog (sBin .add 3 y36 (.int .i64 1)) Kp fun x67 =>
               next1 I1 m1 x67) w) w) w)) w) w) w))))
    (K (.tuple #[x32, (.int .i64 0)]))) (.int .i64 0))
def pool_New_an : Ann := { cuts := [], blks := [], loops := [(5, [36])], drs := [(9, [(0, 2), (1, 2), (2, 3), (3, 3), (4, 3), (5, 1), (6, 1), (7, 0), (8, 0), (9, 0), (10, 1), (11, 1), (12, 0)])] }
theorem pool_New_eq (v0 : Value) (Kp : PK) (K : Value → WP) : cevF Try.prog pool_New_an Try.f14 [v0] Kp K = pool_New v0 Kp K := by kernel_rfl
theorem pool_New_calls {v0 : Value} {Kp : PK} {K : Value → WP} {w : World} (h : pool_New v0 Kp K w) : Calls Try.prog 14 #[v0] w (after Kp K) :=
  calls_of_shape (calls_of_cev wide Try.func14 (an := pool_New_an) (args := [v0]) (cast (congrFun (pool_New_eq v0 Kp K) w).symm h))
theorem pool_New_cn {v0 : Value} {W : World} {α : Type} {A : List HP} {r : α → Value} {B : α → List HP} (h : ∀ F, Ent W (A ++ F) (pool_New v0 noP fun v w => ∃ x, v = r x ∧ sat W (B x ++ F) w)) : Cn Try.prog 14 [v0] W A r B :=
  Cn.of (shape := pool_New v0) Try.call14 (fun h => pool_New_calls h) h
theorem pool_New_cnP {v0 : Value} {W : World} {α β : Type} {A : List HP} {r : α → Value} {B : α → List HP} {pc : β → List PanicEntry} {Bp : β → List HP} (h : ∀ F, Ent W (A ++ F) (pool_New v0 (fun ch w => ∃ y, ch = pc y ∧ sat W (Bp y ++ F) w) fun v w => ∃ x, v = r x ∧ sat W (B x ++ F) w)) : CnP Try.prog 14 [v0] W A r B pc Bp :=
  CnP.of (shape := pool_New v0) Try.call14 (fun h => pool_New_calls h) h

/-- law22_own -/
def law22_own (v0 : Value) (Kp : PK) (K : Value → WP) : WP :=
  opN Try.prog (sBox 28 v0) Kp fun x1 =>
  opN Try.prog (sAlloc 35) Kp fun x2 =>
  opN Try.prog (sFA 28 x1 0) Kp fun x5 =>
  opN Try.prog (sLoad 9 x5) Kp fun x6 =>
  opN Try.prog (sFA 28 x1 2) Kp fun x7 =>
  opN Try.prog (sLoad 3 x7) Kp fun x8 =>
  opN Try.prog (sFA 28 x1 3) Kp fun x9 =>
  opN Try.prog (sLoad 3 x9) Kp fun x10 =>
  opN Try.prog (sBuild 35 [(0, x6), (2, x8), (3, x10)]) Kp fun x11 =>
  opN Try.prog (sAlloc 35) Kp fun x3 =>
  opN Try.prog (sStore 35 x3 x11) Kp fun _ =>
  loop1 (fun I1 m1 _ y4 =>
   opN Try.prog (sFA 28 x1 1) Kp fun x13 =>
   opN Try.prog (sLoad 26 x13) Kp fun x14 =>
   opN Try.prog (sLen #[26] 3 [x14]) Kp fun x15 =>
   opN Try.prog (sBin .lss 3 y4 x15) Kp fun x16 =>
   condS x16
   (drS (stD Try.prog (sFA 35 x3 1) fun D0 x19 =>
     stD Try.prog (sLoad 33 x19) fun D1 x20 =>
     stS Try.prog (sFA 28 x1 1) fun x21 =>
     stS Try.prog (sLoad 26 x21) fun x22 =>
     stS Try.prog (sIA 26 x22 y4) fun x24 =>
     stS Try.prog (sFA 39 x24 0) fun x25 =>
     stS Try.prog (sLoad 3 x25) fun x26 =>
     stS Try.prog (sFA 28 x1 1) fun x27 =>
     stS Try.prog (sLoad 26 x27) fun x28 =>
     stS Try.prog (sIA 26 x28 y4) fun x30 =>
     stS Try.prog (sFA 39 x30 1) fun x31 =>
     stS Try.prog (sLoad 3 x31) fun x32 =>
     stS Try.prog (sBuild 96 [(0, x26), (1, x32)]) fun x33 =>
     opN Try.prog (sBuildSl 33 1 [(0, x33)]) Kp fun x34 =>
     (fun w => D1 w ∧ (fun w => D0 w ∧ (opN Try.prog (sApp #[33, 33] 33 [x20, x34]) Kp fun x35 =>
        stS Try.prog (sFA 35 x3 1) fun x36 =>
        opN Try.prog (sStore 33 x36 x35) Kp fun _ =>
        opN Try.prog (sBin .add 3 y4 (.int .i64 1)) Kp fun x18 =>
        next1 I1 m1 x18) w) w)))
   (opN Try.prog (sLoad 35 x3) Kp fun x37 =>
    opN Try.prog (sStore 35 x2 x37) Kp fun _ =>
    (stS Try.prog (sRes 35 x2) fun r0 => K r0))) (.int .i64 0)
def law22_own_an : Ann := { cuts := [], blks := [], loops := [(3, [4])], drs := [(5, [(0, 3), (1, 3), (2, 1), (3, 1), (4, 1), (5, 1), (6, 1), (7, 1), (8, 1), (9, 1), (10, 1), (11, 1), (12, 1), (13, 1), (14, 1), (15, 0), (16, 0), (17, 1), (18, 0)])] }
theorem law22_own_eq (v0 : Value) (Kp : PK) (K : Value → WP) : cevF Try.prog law22_own_an Try.f15 [v0] Kp K = law22_own v0 Kp K := by kernel_rfl
theorem law22_own_calls {v0 : Value} {Kp : PK} {K : Value → WP} {w : World} (h : law22_own v0 Kp K w) : Calls Try.prog 15 #[v0] w (after Kp K) :=
  calls_of_shape (calls_of_cev wide Try.func15 (an := law22_own_an) (args := [v0]) (cast (congrFun (law22_own_eq v0 Kp K) w).symm h))
theorem law22_own_cn {v0 : Value} {W : World} {α : Type} {A : List HP} {r : α → Value} {B : α → List HP} (h : ∀ F, Ent W (A ++ F) (law22_own v0 noP fun v w => ∃ x, v = r x ∧ sat W (B x ++ F) w)) : Cn Try.prog 15 [v0] W A r B :=
  Cn.of (shape := law22_own v0) Try.call15 (fun h => law22_own_calls h) h
theorem law22_own_cnP {v0 : Value} {W : World} {α β : Type} {A : List HP} {r : α → Value} {B : α → List HP} {pc : β → List PanicEntry} {Bp : β → List HP} (h : ∀ F, Ent W (A ++ F) (law22_own v0 (fun ch w => ∃ y, ch = pc y ∧ sat W (Bp y ++ F) w) fun v w => ∃ x, v = r x ∧ sat W (B x ++ F) w)) : CnP Try.prog 15 [v0] W A r B pc Bp :=
  CnP.of (shape := law22_own v0) Try.call15 (fun h => law22_own_calls h) h

/-- law22_num -/
def law22_num (v0 : Value) (Kp : PK) (K : Value → WP) : WP :=
  K v0
def law22_num_an : Ann := { cuts := [], blks := [], loops := [], drs := [] }
theorem law22_num_eq (v0 : Value) (Kp : PK) (K : Value → WP) : cevF Try.prog law22_num_an Try.f16 [v0] Kp K = law22_num v0 Kp K := by kernel_rfl
theorem law22_num_calls {v0 : Value} {Kp : PK} {K : Value → WP} {w : World} (h : law22_num v0 Kp K w) : Calls Try.prog 16 #[v0] w (after Kp K) :=
  calls_of_shape (calls_of_cev wide Try.func16 (an := law22_num_an) (args := [v0]) (cast (congrFun (law22_num_eq v0 Kp K) w).symm h))
theorem law22_num_cn {v0 : Value} {W : World} {α : Type} {A : List HP} {r : α → Value} {B : α → List HP} (h : ∀ F, Ent W (A ++ F) (law22_num v0 noP fun v w => ∃ x, v = r x ∧ sat W (B x ++ F) w)) : Cn Try.prog 16 [v0] W A r B :=
  Cn.of (shape := law22_num v0) Try.call16 (fun h => law22_num_calls h) h
theorem law22_num_cnP {v0 : Value} {W : World} {α β : Type} {A : List HP} {r : α → Value} {B : α → List HP} {pc : β → List PanicEntry} {Bp : β → List HP} (h : ∀ F, Ent W (A ++ F) (law22_num v0 (fun ch w => ∃ y, ch = pc y ∧ sat W (Bp y ++ F) w) fun v w => ∃ x, v = r x ∧ sat W (B x ++ F) w)) : CnP Try.prog 16 [v0] W A r B pc Bp :=
  CnP.of (shape := law22_num v0) Try.call16 (fun h => law22_num_calls h) h

/-- law22_knows -/
def law22_knows (Kp : PK) (K : Value → WP) : WP :=
  opN Try.prog (sCall (fn 46) []) Kp fun x17 =>
  opN Try.prog (sCall (fn 15) [x17]) Kp fun x18 =>
  opN Try.prog (sCall (fn 14) [x18]) Kp fun x19 =>
  opN Try.prog (sExt x19 0) Kp fun x20 =>
  opN Try.prog (sExt x19 1) Kp fun x21 =>
  opN Try.prog (sCall (fn 16) [x21]) Kp fun x23 =>
  opN Try.prog (sEq .neq 3 (.tmp 23) (.const (.int .i64 0)) x23 (.int .i64 0)) Kp fun x24 =>
  gdK x24 false (fun k => k x20) fun x26 =>
  gdK x24 false (opN Try.prog (sEq .eql 29 (.tmp 26) (.const (.pointer none)) x26 (.pointer none)) Kp) fun x27 =>
  opN Try.prog (sPick x24 (.bool true) x27) Kp fun x28 =>
  condS x28
  (K (.bool false))
  (opN Try.prog (sCall (fn 18) [x20, (.int .i64 0)]) Kp fun x31 =>
   opN Try.prog (sExt x31 0) Kp fun x32 =>
   opN Try.prog (sExt x31 1) Kp fun x33 =>
   opN Try.prog (sExt x31 2) Kp fun x34 =>
   opN Try.prog (sAlloc 41) Kp fun x3 =>
   opN Try.prog (sStore 41 x3 x32) Kp fun _ =>
   opN Try.prog (sCall (fn 18) [x20, (.int .i64 0)]) Kp fun x37 =>
   opN Try.prog (sExt x37 0) Kp fun x38 =>
   opN Try.prog (sExt x37 1) Kp fun x39 =>
   opN Try.prog (sExt x37 2) Kp fun x40 =>
   opN Try.prog (sAlloc 41) Kp fun x6 =>
   opN Try.prog (sStore 41 x6 x38) Kp fun _ =>
   opN Try.prog (sCall (fn 18) [x20, (.int .i64 0)]) Kp fun x43 =>
   opN Try.prog (sExt x43 0) Kp fun x44 =>
   opN Try.prog (sExt x43 1) Kp fun x45 =>
   opN Try.prog (sExt x43 2) Kp fun x46 =>
   opN Try.prog (sAlloc 41) Kp fun x9 =>
   opN Try.prog (sStore 41 x9 x44) Kp fun _ =>
   opN Try.prog (sCall (fn 40) [x20, (.int .i64 0), (.bool true)]) Kp fun x48 =>
   opN Try.prog (sCall (fn 18) [x20, (.int .i64 0)]) Kp fun x51 =>
   opN Try.prog (sExt x51 0) Kp fun x52 =>
   opN Try.prog (sExt x51 1) Kp fun x53 =>
   opN Try.prog (sExt x51 2) Kp fun x54 =>
   opN Try.prog (sAlloc 41) Kp fun x13 =>
   opN Try.prog (sStore 41 x13 x52) Kp fun _ =>
   opN Try.prog (sFA 41 x3 0) Kp fun x55 =>
   opN Try.prog (sLoad 3 x55) Kp fun x56 =>
   opN Try.prog (sEq .eql 3 (.tmp 56) (.const (.int .i64 1)) x56 (.int .i64 1)) Kp fun x57 =>
   gdK x57 true (fun k => k x33) fun x59 =>
   opN Try.prog (sPick x57 x59 (.bool false)) Kp fun x60 =>
   gdK x60 true (opN Try.prog (sFA 41 x6 0) Kp) fun x62 =>
   gdK x60 true (opN Try.prog (sLoad 3 x62) Kp) fun x63 =>
   gdK x60 true (opN Try.prog (sEq .eql 3 (.tmp 63) (.const (.int .i64 2)) x63 (.int .i64 2)) Kp) fun x64 =>
   opN Try.prog (sPick x60 x64 (.bool false)) Kp fun x65 =>
   gdK x65 true (opN Try.prog (sFA 41 x6 1) Kp) fun x67 =>
   gdK x65 true (opN Try.prog (sLoad 3 x67) Kp) fun x68 =>
   gdK x65 true (opN Try.prog (sEq .eql 3 (.tmp 68) (.const (.int .i64 1)) x68 (.int .i64 1)) Kp) fun x69 =>
   opN Try.prog (sPick x65 x69 (.bool false)) Kp fun x70 =>
   gdK x70 true (fun k => k x39) fun x72 =>
   opN Try.prog (sPick x70 x72 (.bool false)) Kp fun x73 =>
   gdK x73 true (fun k => k x46) fun x75 =>
   gdK x73 true (opN Try.prog (sCall (fn 16) [x75]) Kp) fun x76 =>
   gdK x73 true (opN Try.prog (sEq .eql 3 (.tmp 76) (.const (.int .i64 63)) x76 (.int .i64 63)) Kp) fun x77 =>
   opN Try.prog (sPick x73 x77 (.bool false)) Kp fun x78 =>
   gdK x78 true (fun k => k x48) fun x80 =>
   gdK x78 true (opN Try.prog (sCall (fn 16) [x80]) Kp) fun x81 =>
   gdK x78 true (opN Try.prog (sEq .eql 3 (.tmp 81) (.const (.int .i64 0)) x81 (.int .i64 0)) Kp) fun x82 =>
   opN Try.prog (sPick x78 x82 (.bool false)) Kp fun x83 =>
   gdK x83 true (opN Try.prog (sFA 41 x13 1) Kp) fun x85 =>
   gdK x83 true (opN Try.prog (sLoad 3 x85) Kp) fun x86 =>
   gdK x83 true (opN Try.prog (sEq .eql 3 (.tmp 86) (.const (.int .i64 0)) x86 (.int .i64 0)) Kp) fun x87 =>
   opN Try.prog (sPick x83 x87 (.bool false)) Kp fun x88 =>
   gdK x88 true (fun k => k x53) fun x90 =>
   gdK x88 true (opN Try.prog (sUn .not x90) Kp) fun x91 =>
   opN Try.prog (sPick x88 x91 (.bool false)) Kp fun x92 =>
   K x92)
def law22_knows_an : Ann := { cuts := [], blks := [], loops := [], drs := [] }
theorem law22_knows_eq (Kp : PK) (K : Value → WP) : cevF Try.prog law22_knows_an Try.f17 [] Kp K = law22_knows Kp K := by kernel_rfl
theorem law22_knows_calls  {Kp : PK} {K : Value → WP} {w : World} (h : law22_knows Kp K w) : Calls Try.prog 17 #[] w (after Kp K) :=
  calls_of_shape (calls_of_cev wide Try.func17 (an := law22_knows_an) (args := []) (cast (congrFun (law22_knows_eq Kp K) w).symm h))
theorem law22_knows_cn  {W : World} {α : Type} {A : List HP} {r : α → Value} {B : α → List HP} (h : ∀ F, Ent W (A ++ F) (law22_knows noP fun v w => ∃ x, v = r x ∧ sat W (B x ++ F) w)) : Cn Try.prog 17 [] W A r B :=
  Cn.of (shape := law22_knows) Try.call17 (fun h => law22_knows_calls h) h
theorem law22_knows_cnP  {W : World} {α β : Type} {A : List HP} {r : α → Value} {B : α → List HP} {pc : β → List PanicEntry} {Bp : β → List HP} (h : ∀ F, Ent W (A ++ F) (law22_knows (fun ch w => ∃ y, ch = pc y ∧ sat W (Bp y ++ F) w) fun v w => ∃ x, v = r x ∧ sat W (B x ++ F) w)) : CnP Try.prog 17 [] W A r B pc Bp :=
  CnP.of (shape := law22_knows) Try.call17 (fun h => law22_knows_calls h) h

/-- pool_Pool_Take -/
def pool_Pool_Take (v0 v1 : Value) (Kp : PK) (K : Value → WP) : WP :=
  opN Try.prog (sBox 29 v0) Kp fun x2 =>
  opN Try.prog (sBox 3 v1) Kp fun x3 =>
  opN Try.prog (sAlloc 41) Kp fun x4 =>
  opN Try.prog (sAlloc 4) Kp fun x5 =>
  opN Try.prog (sAlloc 30) Kp fun x6 =>
  opN Try.prog (sLoad 29 x2) Kp fun x11 =>
  opN Try.prog (sCall (fn 47) [x11]) Kp fun x12 =>
  condS x12
  (opN Try.prog (sBuild 41 []) Kp fun x13 =>
   opN Try.prog (sStore 41 x4 x13) Kp fun _ =>
   opN Try.prog (sStore 4 x5 (.bool false)) Kp fun _ =>
   opN Try.prog (sStore 30 x6 (.int .i64 1)) Kp fun _ =>
   (stS Try.prog (sRes 41 x4) fun r0 => (stS Try.prog (sRes 4 x5) fun r1 => (stS Try.prog (sRes 30 x6) fun r2 => K (.tuple #[r0, r1, r2])))))
  (opN Try.prog (sStore 30 x6 (.int .i64 3)) Kp fun _ =>
   opN Try.prog (sLoad 29 x2) Kp fun x14 =>
   opN Try.prog (sCall (fn 48) [x14]) Kp fun x15 =>
   rfS Try.prog x15 2 (fun u16 u17 B1 N1 J1r =>
    B1 (drS (stS Try.prog (sLoad 3 x3) fun x18 =>
      stD Try.prog (sNil u17) fun D3 x21 =>
      stD Try.prog (sFA 100 x21 3) fun D4 x22 =>
      stD Try.prog (sLoad 3 x22) fun D5 x23 =>
      opN Try.prog (sCall (fn 49) [x18]) noK fun x19 =>
      (fun w => D5 w ∧ (fun w => D4 w ∧ (fun w => D3 w ∧ (stS Try.prog (sBin .lss 3 x19 x23) fun x24 =>
          condS x24
          (N1)
          (opN Try.prog (sStore 30 x6 (.int .i64 63)) noK fun _ =>
           opN Try.prog (sLoad 29 x2) noK fun x25 =>
           opN Try.prog (sNil x25) noK fun x26 =>
           opN Try.prog (sFA 95 x26 4) noK fun x27 =>
           opN Try.prog (sLoad 3 x27) noK fun x28 =>
           opN Try.prog (sNil u17) noK fun x30 =>
           opN Try.prog (sFA 100 x30 1) noK fun x31 =>
           opN Try.prog (sLoad 85 x31) noK fun x32 =>
           opN Try.prog (sLen #[85] 3 [x32]) noK fun x33 =>
           cut1 (fun J1 =>
            opN Try.prog (sBin .gtr 3 x33 (.int .i64 0)) noK fun x36 =>
            condS x36
            (drS (stS Try.prog (sNil u17) fun x39 =>
              stS Try.prog (sFA 100 x39 1) fun x40 =>
              stS Try.prog (sLoad 85 x40) fun x41 =>
              stS Try.prog (sBin .sub 3 x33 (.int .i64 1)) fun x43 =>
              stS Try.prog (sIA 85 x41 x43) fun x44 =>
              stS Try.prog (sLoad 3 x44) fun x45 =>
              stS Try.prog (sNil u17) fun x47 =>
              stS Try.prog (sFA 100 x47 1) fun x48 =>
              stS Try.prog (sLoad 85 x48) fun x49 =>
              stS Try.prog (sBin .sub 3 x33 (.int .i64 1)) fun x51 =>
              stS Try.prog (sSl 85 x49 none (some x51) none) fun x52 =>
              stS Try.prog (sNil u17) fun x53 =>
              stS Try.prog (sFA 100 x53 1) fun x54 =>
              opN Try.prog (sStore 85 x54 x52) noK fun _ =>
              opN Try.prog (sLoad 29 x2) noK fun x55 =>
              opN Try.prog (sNil x55) noK fun x56 =>
              opN Try.prog (sFA 95 x56 2) noK fun x57 =>
              opN Try.prog (sLoad 93 x57) noK fun x58 =>
              opN Try.prog (sDel #[93, 3] 0 [x58, x45]) noK fun _ =>
              J1 x45))
            (drS (stS Try.prog (sNil u17) fun x62 =>
              stS Try.prog (sFA 100 x62 2) fun x63 =>
              stS Try.prog (sLoad 3 x63) fun x64 =>
              stS Try.prog (sNil u17) fun x66 =>
              stS Try.prog (sFA 100 x66 0) fun x67 =>
              stS Try.prog (sFA 96 x67 1) fun x68 =>
              stS Try.prog (sLoad 3 x68) fun x69 =>
              stS Try.prog (sBin .lss 3 x64 x69) fun x70 =>
              condS x70
              (opN Try.prog (sLoad 29 x2) noK fun x71 =>
               opN Try.prog (sNil x71) noK fun x72 =>
               opN Try.prog (sFA 95 x72 4) noK fun x73 =>
               opN Try.prog (sLoad 3 x73) noK fun x74 =>
               opN Try.prog (sBin .add 3 x74 (.int .i64 1)) noK fun x75 =>
               opN Try.prog (sNil x71) noK fun x76 =>
               opN Try.prog (sFA 95 x76 4) noK fun x77 =>
               opN Try.prog (sStore 3 x77 x75) noK fun _ =>
               J1 x28)
              (N1)))) fun _ z9 =>
           opN Try.prog (sNil u17) noK fun x79 =>
           opN Try.prog (sFA 100 x79 2) noK fun x80 =>
           opN Try.prog (sLoad 3 x80) noK fun x81 =>
           opN Try.prog (sBin .add 3 x81 (.int .i64 1)) noK fun x82 =>
           opN Try.prog (sNil u17) noK fun x83 =>
           opN Try.prog (sFA 100 x83 2) noK fun x84 =>
           opN Try.prog (sStore 3 x84 x82) noK fun _ =>
           opN Try.prog (sLoad 29 x2) noK fun x85 =>
           opN Try.prog (sNil x85) noK fun x86 =>
           opN Try.prog (sFA 95 x86 1) noK fun x87 =>
           opN Try.prog (sLoad 93 x87) noK fun x88 =>
           opN Try.prog (sMapSet 93 x88 z9 u17) noK fun _ =>
           drS (stS Try.prog (sLoad 29 x2) fun x91 =>
            stS Try.prog (sBin .add 3 u16 (.int .i64 1)) fun x93 =>
            stS Try.prog (sLoad 29 x2) fun x94 =>
            stS Try.prog (sNil x94) fun x95 =>
            stS Try.prog (sFA 95 x95 0) fun x96 =>
            stS Try.prog (sLoad 92 x96) fun x97 =>
            stS Try.prog (sLen #[92] 3 [x97]) fun x98 =>
            stS Try.prog (sBin .rem 3 x93 x98) fun x99 =>
            stS Try.prog (sNil x91) fun x100 =>
            stS Try.prog (sFA 95 x100 3) fun x101 =>
            opN Try.prog (sStore 3 x101 x99) noK fun _ =>
            opN Try.prog (sNil u17) noK fun x103 =>
            opN Try.prog (sFA 100 x103 0) noK fun x104 =>
            opN Try.prog (sFA 96 x104 0) noK fun x105 =>
            opN Try.prog (sLoad 3 x105) noK fun x106 =>
            opN Try.prog (sBuild 41 [(0, x106), (1, z9)]) noK fun x108 =>
            opN Try.prog (sEq .eql 3 (.tmp 109) (.const (.int .i64 0)) x33 (.int .i64 0)) noK fun x110 =>
            opN Try.prog (sStore 41 x4 x108) noK fun _ =>
            opN Try.prog (sStore 4 x5 x110) noK fun _ =>
            opN Try.prog (sStore 30 x6 (.int .i64 0)) noK fun _ =>
            J1r))) w) w) w)))) (fun d1 =>
    drS (stS Try.prog (sBuild 41 []) fun x111 =>
     stD Try.prog (sLoad 30 x6) fun D1 x112 =>
     opN Try.prog (sStore 41 x4 x111) (KpM [d1] Kp) fun _ =>
     (fun w => D1 w ∧ (opN Try.prog (sStore 4 x5 (.bool false)) (KpM [d1] Kp) fun _ =>
       (fun w => D1 w ∧ (opN Try.prog (sStore 30 x6 x112) (KpM [d1] Kp) fun _ =>
         (tkS d1 ((stS Try.prog (sRes 41 x4) fun r0 => (stS Try.prog (sRes 4 x5) fun r1 => (stS Try.prog (sRes 30 x6) fun r2 => K (.tuple #[r0, r1, r2]))))))) w)) w))) (fun d1 => (tkS d1 ((stS Try.prog (sRes 41 x4) fun r0 => (stS Try.prog (sRes 4 x5) fun r1 => (stS Try.prog (sRes 30 x6) fun r2 => K (.tuple #[r0, r1, r2]))))))) (fun d1 ch => (tkS d1 (Kp ch))))
def pool_Pool_Take_an : Ann := { cuts := [(16, [9])], blks := [], loops := [], drs := [(7, [(0, 1), (2, 2), (3, 3), (4, 3), (5, 3), (1, 0), (6, 1)]), (12, [(0, 1), (1, 1), (2, 1), (3, 1), (4, 1), (5, 1), (6, 1), (7, 1), (8, 1), (9, 1), (10, 1), (11, 1), (12, 1), (13, 1), (14, 1), (15, 1), (16, 1), (17, 1), (18, 1), (19, 0)]), (14, [(0, 1), (1, 1), (2, 1), (3, 1), (4, 1), (5, 1), (6, 1), (7, 1), (8, 1), (9, 1), (10, 1)]), (18, [(0, 1), (1, 1), (2, 1), (3, 1), (4, 1), (5, 1), (6, 1), (7, 1), (8, 1), (9, 1), (10, 1), (11, 0)]), (20, [(0, 1), (1, 3), (2, 0), (3, 0), (4, 0)])] }
theorem pool_Pool_Take_eq (v0 v1 : Value) (Kp : PK) (K : Value → WP) : cevFT Try.prog pool_Pool_Take_an Try.f18 [v0, v1] Kp K = pool_Pool_Take v0 v1 Kp K := by kernel_rfl
theorem pool_Pool_Take_calls {v0 v1 : Value} {Kp : PK} {K : Value → WP} {w : World} (h : pool_Pool_Take v0 v1 Kp K w) : Calls Try.prog 18 #[v0, v1] w (after Kp K) :=
  calls_of_shape (calls_of_cevT wide Try.func18 (an := pool_Pool_Take_an) (args := [v0, v1]) (cast (congrFun (pool_Pool_Take_eq v0 v1 Kp K) w).symm h))
theorem pool_Pool_Take_cn {v0 v1 : Value} {W : World} {α : Type} {A : List HP} {r : α → Value} {B : α → List HP} (h : ∀ F, Ent W (A ++ F) (pool_Pool_Take v0 v1 noP fun v w => ∃ x, v = r x ∧ sat W (B x ++ F) w)) : Cn Try.prog 18 [v0, v1] W A r B :=
  Cn.of (shape := pool_Pool_Take v0 v1) Try.call18 (fun h => pool_Pool_Take_calls h) h
theorem pool_Pool_Take_cnP {v0 v1 : Value} {W : World} {α β : Type} {A : List HP} {r : α → Value} {B : α → List HP} {pc : β → List PanicEntry} {Bp : β → List HP} (h : ∀ F, Ent W (A ++ F) (pool_Pool_Take v0 v1 (fun ch w => ∃ y, ch = pc y ∧ sat W (Bp y ++ F) w) fun v w => ∃ x, v = r x ∧ sat W (B x ++ F) w)) : CnP Try.prog 18 [v0, v1] W A r B pc Bp :=
  CnP.of (shape := pool_Pool_Take v0 v1) Try.call18 (fun h => pool_Pool_Take_calls h) h

/-- bits_NewWriter -/
def bits_NewWriter (Kp : PK) (K : Value → WP) : WP :=
  opN Try.prog (sBuild 76 [(2, (.bool true))]) Kp fun x1 =>
  opN Try.prog (sBox 76 x1) Kp fun x2 =>
  K x2
def bits_NewWriter_an : Ann := { cuts := [], blks := [], loops := [], drs := [] }
theorem bits_NewWriter_eq (Kp : PK) (K : Value → WP) : cevF Try.prog bits_NewWriter_an Try.f19 [] Kp K = bits_NewWriter Kp K := by kernel_rfl
theorem bits_NewWriter_calls  {Kp : PK} {K : Value → WP} {w : World} (h : bits_NewWriter Kp K w) : Calls Try.prog 19 #[] w (after Kp K) :=
  calls_of_shape (calls_of_cev wide Try.func19 (an := bits_NewWriter_an) (args := []) (cast (congrFun (bits_NewWriter_eq Kp K) w).symm h))
theorem bits_NewWriter_cn  {W : World} {α : Type} {A : List HP} {r : α → Value} {B : α → List HP} (h : ∀ F, Ent W (A ++ F) (bits_NewWriter noP fun v w => ∃ x, v = r x ∧ sat W (B x ++ F) w)) : Cn Try.prog 19 [] W A r B :=
  Cn.of (shape := bits_NewWriter) Try.call19 (fun h => bits_NewWriter_calls h) h
theorem bits_NewWriter_cnP  {W : World} {α β : Type} {A : List HP} {r : α → Value} {B : α → List HP} {pc : β → List PanicEntry} {Bp : β → List HP} (h : ∀ F, Ent W (A ++ F) (bits_NewWriter (fun ch w => ∃ y, ch = pc y ∧ sat W (Bp y ++ F) w) fun v w => ∃ x, v = r x ∧ sat W (B x ++ F) w)) : CnP Try.prog 19 [] W A r B pc Bp :=
  CnP.of (shape := bits_NewWriter) Try.call19 (fun h => bits_NewWriter_calls h) h

/-- law02_put -/
def law02_put (v0 v1 v2 : Value) (Kp : PK) (K : Value → WP) : WP :=
  opN Try.prog (sBox 54 v2) Kp fun x5 =>
  cut0 (fun J1 =>
   opN Try.prog (sFA 54 x5 0) Kp fun x11 =>
   opN Try.prog (sLoad 3 x11) Kp fun x12 =>
   opN Try.prog (sEq .eql 3 (.tmp 12) (.const (.int .i64 0)) x12 (.int .i64 0)) Kp fun x47 =>
   condS x47
   (drS (stS Try.prog (sFA 54 x5 2) fun x49 =>
     stS Try.prog (sLoad 3 x49) fun x50 =>
     stS Try.prog (sFA 54 x5 1) fun x51 =>
     stS Try.prog (sLoad 3 x51) fun x52 =>
     stD Try.prog (sFA 54 x5 2) fun D8 x56 =>
     stD Try.prog (sLoad 3 x56) fun D9 x57 =>
     stD Try.prog (sFA 54 x5 1) fun D10 x58 =>
     stD Try.prog (sLoad 3 x58) fun D11 x59 =>
     opN Try.prog (sCall (fn 37) [v0, x50, x52]) Kp fun x53 =>
     (fun w => D11 w ∧ (fun w => D10 w ∧ (fun w => D9 w ∧ (fun w => D8 w ∧ (opN Try.prog (sCall (fn 29) [x53]) Kp fun x54 =>
          (fun w => D11 w ∧ (fun w => D10 w ∧ (fun w => D9 w ∧ (fun w => D8 w ∧ (opN Try.prog (sCall (fn 50) [v1, x57, x59]) Kp fun x60 =>
               stS Try.prog (sEq .neq 3 (.tmp 54) (.tmp 60) x54 x60) fun x61 =>
               condS x61
               (K (.bool false))
               (J1)) w) w) w) w)) w) w) w) w)))
   (opN Try.prog (sEq .eql 3 (.tmp 12) (.const (.int .i64 1)) x12 (.int .i64 1)) Kp fun x63 =>
    condS x63
    (opN Try.prog (sCall (fn 36) [v0]) Kp fun x65 =>
     opN Try.prog (sCall (fn 51) [v1]) Kp fun x67 =>
     J1)
    (opN Try.prog (sFA 54 x5 3) Kp fun x13 =>
     opN Try.prog (sLoad 49 x13) Kp fun x14 =>
     opN Try.prog (sCall (fn 23) [x14]) Kp fun x15 =>
     drS (stD Try.prog (sFA 54 x5 3) fun D5 x21 =>
      stD Try.prog (sLoad 49 x21) fun D6 x22 =>
      opN Try.prog (sCall (fn 38) [v0, x15]) Kp fun x18 =>
      (fun w => D6 w ∧ (fun w => D5 w ∧ (opN Try.prog (sCall (fn 29) [x18]) Kp fun x19 =>
         (fun w => D6 w ∧ (fun w => D5 w ∧ (opN Try.prog (sCall (fn 52) [v1, x22]) Kp fun x23 =>
            stS Try.prog (sEq .neq 3 (.tmp 19) (.tmp 23) x19 x23) fun x24 =>
            gdK x24 false (fun k => k x15) fun x26 =>
            gdK x24 false (stS Try.prog (sFA 54 x5 3)) fun x27 =>
            gdK x24 false (stS Try.prog (sLoad 49 x27)) fun x28 =>
            gdK x24 false (opN Try.prog (sCall (fn 25) [x26, x28]) Kp) fun x29 =>
            gdK x24 false (stS Try.prog (sUn .not x29)) fun x30 =>
            stS Try.prog (sPick x24 (.bool true) x30) fun x31 =>
            condS x31
            (K (.bool false))
            (loop1 (fun I1 m1 _ y8 =>
              opN Try.prog (sLen #[49] 3 [x15]) Kp fun x34 =>
              opN Try.prog (sBin .lss 3 y8 x34) Kp fun x35 =>
              condS x35
              (opN Try.prog (sIA 49 x15 y8) Kp fun x42 =>
               opN Try.prog (sLoad 5 x42) Kp fun x43 =>
               opN Try.prog (sBin .add 5 x43 (.int .u8 1)) Kp fun x44 =>
               opN Try.prog (sIA 49 x15 y8) Kp fun x45 =>
               opN Try.prog (sStore 5 x45 x44) Kp fun _ =>
               opN Try.prog (sBin .add 3 y8 (.int .i64 1)) Kp fun x37 =>
               next1 I1 m1 x37)
              (J1)) (.int .i64 0))) w) w)) w) w))))) fun _ =>
  opN Try.prog (sCall (fn 21) [v0]) Kp fun x69 =>
  loop1 (fun I2 m2 _ y10 =>
   opN Try.prog (sLen #[49] 3 [x69]) Kp fun x72 =>
   opN Try.prog (sBin .lss 3 y10 x72) Kp fun x73 =>
   condS x73
   (opN Try.prog (sIA 49 x69 y10) Kp fun x80 =>
    opN Try.prog (sLoad 5 x80) Kp fun x81 =>
    opN Try.prog (sBin .add 5 x81 (.int .u8 1)) Kp fun x82 =>
    opN Try.prog (sIA 49 x69 y10) Kp fun x83 =>
    opN Try.prog (sStore 5 x83 x82) Kp fun _ =>
    opN Try.prog (sBin .add 3 y10 (.int .i64 1)) Kp fun x75 =>
    next1 I2 m2 x75)
   (drS (stD Try.prog (sNil v1) fun D3 x87 =>
     stD Try.prog (sFA 51 x87 0) fun D4 x88 =>
     stD Try.prog (sLoad 49 x88) fun D5 x89 =>
     stD Try.prog (sLen #[49] 3 [x89]) fun D6 x90 =>
     opN Try.prog (sCall (fn 39) [v0]) Kp fun x85 =>
     (fun w => D6 w ∧ (fun w => D5 w ∧ (fun w => D4 w ∧ (fun w => D3 w ∧ (stS Try.prog (sEq .eql 3 (.tmp 85) (.tmp 90) x85 x90) fun x91 =>
          K x91) w) w) w) w)))) (.int .i64 0)
def law02_put_an : Ann := { cuts := [(15, [])], blks := [], loops := [(6, [8]), (17, [10])], drs := [(3, [(0, 1), (1, 1), (4, 2), (5, 3), (6, 3), (2, 0), (3, 0), (7, 0), (8, 1), (9, 1), (10, 1), (11, 1), (12, 1), (13, 0), (14, 1), (15, 1)]), (10, [(0, 1), (1, 1), (2, 1), (3, 1), (4, 1), (7, 2), (8, 3), (9, 3), (10, 3), (11, 3), (5, 0), (6, 0), (12, 0), (13, 1)]), (20, [(0, 1), (2, 2), (3, 3), (4, 3), (5, 3), (6, 3), (1, 0), (7, 1), (8, 1)])] }
theorem law02_put_eq (v0 v1 v2 : Value) (Kp : PK) (K : Value → WP) : cevF Try.prog law02_put_an Try.f20 [v0, v1, v2] Kp K = law02_put v0 v1 v2 Kp K := by kernel_rfl
theorem law02_put_calls {v0 v1 v2 : Value} {Kp : PK} {K : Value → WP} {w : World} (h : law02_put v0 v1 v2 Kp K w) : Calls Try.prog 20 #[v0, v1, v2] w (after Kp K) :=
  calls_of_shape (calls_of_cev wide Try.func20 (an := law02_put_an) (args := [v0, v1, v2]) (cast (congrFun (law02_put_eq v0 v1 v2 Kp K) w).symm h))
theorem law02_put_cn {v0 v1 v2 : Value} {W : World} {α : Type} {A : List HP} {r : α → Value} {B : α → List HP} (h : ∀ F, Ent W (A ++ F) (law02_put v0 v1 v2 noP fun v w => ∃ x, v = r x ∧ sat W (B x ++ F) w)) : Cn Try.prog 20 [v0, v1, v2] W A r B :=
  Cn.of (shape := law02_put v0 v1 v2) Try.call20 (fun h => law02_put_calls h) h
theorem law02_put_cnP {v0 v1 v2 : Value} {W : World} {α β : Type} {A : List HP} {r : α → Value} {B : α → List HP} {pc : β → List PanicEntry} {Bp : β → List HP} (h : ∀ F, Ent W (A ++ F) (law02_put v0 v1 v2 (fun ch w => ∃ y, ch = pc y ∧ sat W (Bp y ++ F) w) fun v w => ∃ x, v = r x ∧ sat W (B x ++ F) w)) : CnP Try.prog 20 [v0, v1, v2] W A r B pc Bp :=
  CnP.of (shape := law02_put v0 v1 v2) Try.call20 (fun h => law02_put_calls h) h

/-- bits_Writer_Bytes -/
def bits_Writer_Bytes (v0 : Value) (Kp : PK) (K : Value → WP) : WP :=
  opN Try.prog (sCall (fn 53) [v0]) Kp fun x4 =>
  condS x4
  (K (.slice none 0 0))
  (opN Try.prog (sNil v0) Kp fun x6 =>
   opN Try.prog (sFA 76 x6 0) Kp fun x7 =>
   opN Try.prog (sLoad 49 x7) Kp fun x8 =>
   opN Try.prog (sApp #[49, 49] 49 [(.slice none 0 0), x8]) Kp fun x9 =>
   K x9)
def bits_Writer_Bytes_an : Ann := { cuts := [], blks := [], loops := [], drs := [] }
theorem bits_Writer_Bytes_eq (v0 : Value) (Kp : PK) (K : Value → WP) : cevF Try.prog bits_Writer_Bytes_an Try.f21 [v0] Kp K = bits_Writer_Bytes v0 Kp K := by kernel_rfl
theorem bits_Writer_Bytes_calls {v0 : Value} {Kp : PK} {K : Value → WP} {w : World} (h : bits_Writer_Bytes v0 Kp K w) : Calls Try.prog 21 #[v0] w (after Kp K) :=
  calls_of_shape (calls_of_cev wide Try.func21 (an := bits_Writer_Bytes_an) (args := [v0]) (cast (congrFun (bits_Writer_Bytes_eq v0 Kp K) w).symm h))
theorem bits_Writer_Bytes_cn {v0 : Value} {W : World} {α : Type} {A : List HP} {r : α → Value} {B : α → List HP} (h : ∀ F, Ent W (A ++ F) (bits_Writer_Bytes v0 noP fun v w => ∃ x, v = r x ∧ sat W (B x ++ F) w)) : Cn Try.prog 21 [v0] W A r B :=
  Cn.of (shape := bits_Writer_Bytes v0) Try.call21 (fun h => bits_Writer_Bytes_calls h) h
theorem bits_Writer_Bytes_cnP {v0 : Value} {W : World} {α β : Type} {A : List HP} {r : α → Value} {B : α → List HP} {pc : β → List PanicEntry} {Bp : β → List HP} (h : ∀ F, Ent W (A ++ F) (bits_Writer_Bytes v0 (fun ch w => ∃ y, ch = pc y ∧ sat W (Bp y ++ F) w) fun v w => ∃ x, v = r x ∧ sat W (B x ++ F) w)) : CnP Try.prog 21 [v0] W A r B pc Bp :=
  CnP.of (shape := bits_Writer_Bytes v0) Try.call21 (fun h => bits_Writer_Bytes_calls h) h

/-- ref02_Writer_Bytes -/
def ref02_Writer_Bytes (v0 : Value) (Kp : PK) (K : Value → WP) : WP :=
  opN Try.prog (sNil v0) Kp fun x6 =>
  opN Try.prog (sFA 51 x6 0) Kp fun x7 =>
  opN Try.prog (sLoad 49 x7) Kp fun x8 =>
  opN Try.prog (sLen #[49] 3 [x8]) Kp fun x9 =>
  opN Try.prog (sBin .add 3 x9 (.int .i64 7)) Kp fun x10 =>
  opN Try.prog (sBin .quo 3 x10 (.int .i64 8)) Kp fun x11 =>
  opN Try.prog (sMkSl 49 x11 x11) Kp fun x12 =>
  loop1 (fun I1 m1 _ y4 =>
   opN Try.prog (sNil v0) Kp fun x15 =>
   opN Try.prog (sFA 51 x15 0) Kp fun x16 =>
   opN Try.prog (sLoad 49 x16) Kp fun x17 =>
   opN Try.prog (sLen #[49] 3 [x17]) Kp fun x18 =>
   opN Try.prog (sBin .lss 3 y4 x18) Kp fun x19 =>
   condS x19
   (drS (stS Try.prog (sBin .quo 3 y4 (.int .i64 8)) fun x24 =>
     stS Try.prog (sBin .quo 3 y4 (.int .i64 8)) fun x27 =>
     stS Try.prog (sIA 49 x12 x27) fun x28 =>
     stS Try.prog (sLoad 5 x28) fun x29 =>
     stS Try.prog (sNil v0) fun x31 =>
     stS Try.prog (sFA 51 x31 0) fun x32 =>
     stS Try.prog (sLoad 49 x32) fun x33 =>
     stS Try.prog (sIA 49 x33 y4) fun x35 =>
     stS Try.prog (sLoad 5 x35) fun x36 =>
     stS Try.prog (sBin .rem 3 y4 (.int .i64 8)) fun x38 =>
     stS Try.prog (sConv 3 23 x38) fun x39 =>
     stS Try.prog (sBin .shl 5 x36 x39) fun x40 =>
     stS Try.prog (sBin .or 5 x29 x40) fun x41 =>
     stS Try.prog (sIA 49 x12 x24) fun x42 =>
     opN Try.prog (sStore 5 x42 x41) Kp fun _ =>
     opN Try.prog (sBin .add 3 y4 (.int .i64 1)) Kp fun x21 =>
     next1 I1 m1 x21))
   (K x12)) (.int .i64 0)
def ref02_Writer_Bytes_an : Ann := { cuts := [], blks := [], loops := [(3, [4])], drs := [(5, [(0, 1), (1, 1), (2, 1), (3, 1), (4, 1), (5, 1), (6, 1), (7, 1), (8, 1), (9, 1), (10, 1), (11, 1), (12, 1), (13, 1), (14, 1), (15, 1), (16, 1), (17, 1), (18, 1), (19, 1), (20, 1), (21, 0)])] }
theorem ref02_Writer_Bytes_eq (v0 : Value) (Kp : PK) (K : Value → WP) : cevF Try.prog ref02_Writer_Bytes_an Try.f22 [v0] Kp K = ref02_Writer_Bytes v0 Kp K := by kernel_rfl
theorem ref02_Writer_Bytes_calls {v0 : Value} {Kp : PK} {K : Value → WP} {w : World} (h : ref02_Writer_Bytes v0 Kp K w) : Calls Try.prog 22 #[v0] w (after Kp K) :=
  calls_of_shape (calls_of_cev wide Try.func22 (an := ref02_Writer_Bytes_an) (args := [v0]) (cast (congrFun (ref02_Writer_Bytes_eq v0 Kp K) w).symm h))
theorem ref02_Writer_Bytes_cn {v0 : Value} {W : World} {α : Type} {A : List HP} {r : α → Value} {B : α → List HP} (h : ∀ F, Ent W (A ++ F) (ref02_Writer_Bytes v0 noP fun v w => ∃ x, v = r x ∧ sat W (B x ++ F) w)) : Cn Try.prog 22 [v0] W A r B :=
  Cn.of (shape := ref02_Writer_Bytes v0) Try.call22 (fun h => ref02_Writer_Bytes_calls h) h
theorem ref02_Writer_Bytes_cnP {v0 : Value} {W : World} {α β : Type} {A : List HP} {r : α → Value} {B : α → List HP} {pc : β → List PanicEntry} {Bp : β → List HP} (h : ∀ F, Ent W (A ++ F) (ref02_Writer_Bytes v0 (fun ch w => ∃ y, ch = pc y ∧ sat W (Bp y ++ F) w) fun v w => ∃ x, v = r x ∧ sat W (B x ++ F) w)) : CnP Try.prog 22 [v0] W A r B pc Bp :=
  CnP.of (shape := ref02_Writer_Bytes v0) Try.call22 (fun h => ref02_Writer_Bytes_calls h) h

/-- law01_Lent -/
def law01_Lent (v0 : Value) (Kp : PK) (K : Value → WP) : WP :=
  opN Try.prog (sBuildSl 49 0 []) Kp fun x4 =>
  opN Try.prog (sApp #[49, 49] 49 [x4, v0]) Kp fun x6 =>
  opN Try.prog (sBuildSl 49 2 [(0, (.int .u8 201)), (1, (.int .u8 202))]) Kp fun x8 =>
  opN Try.prog (sApp #[49, 49] 49 [x6, x8]) Kp fun x9 =>
  opN Try.prog (sLen #[49] 3 [v0]) Kp fun x12 =>
  opN Try.prog (sSl 49 x9 none (some x12) none) Kp fun x13 =>
  K x13
def law01_Lent_an : Ann := { cuts := [], blks := [], loops := [], drs := [] }
theorem law01_Lent_eq (v0 : Value) (Kp : PK) (K : Value → WP) : cevF Try.prog law01_Lent_an Try.f23 [v0] Kp K = law01_Lent v0 Kp K := by kernel_rfl
theorem law01_Lent_calls {v0 : Value} {Kp : PK} {K : Value → WP} {w : World} (h : law01_Lent v0 Kp K w) : Calls Try.prog 23 #[v0] w (after Kp K) :=
  calls_of_shape (calls_of_cev wide Try.func23 (an := law01_Lent_an) (args := [v0]) (cast (congrFun (law01_Lent_eq v0 Kp K) w).symm h))
theorem law01_Lent_cn {v0 : Value} {W : World} {α : Type} {A : List HP} {r : α → Value} {B : α → List HP} (h : ∀ F, Ent W (A ++ F) (law01_Lent v0 noP fun v w => ∃ x, v = r x ∧ sat W (B x ++ F) w)) : Cn Try.prog 23 [v0] W A r B :=
  Cn.of (shape := law01_Lent v0) Try.call23 (fun h => law01_Lent_calls h) h
theorem law01_Lent_cnP {v0 : Value} {W : World} {α β : Type} {A : List HP} {r : α → Value} {B : α → List HP} {pc : β → List PanicEntry} {Bp : β → List HP} (h : ∀ F, Ent W (A ++ F) (law01_Lent v0 (fun ch w => ∃ y, ch = pc y ∧ sat W (Bp y ++ F) w) fun v w => ∃ x, v = r x ∧ sat W (B x ++ F) w)) : CnP Try.prog 23 [v0] W A r B pc Bp :=
  CnP.of (shape := law01_Lent v0) Try.call23 (fun h => law01_Lent_calls h) h

/-- bits_NewReader -/
def bits_NewReader (v0 : Value) (Kp : PK) (K : Value → WP) : WP :=
  opN Try.prog (sApp #[49, 49] 49 [(.slice none 0 0), v0]) Kp fun x4 =>
  opN Try.prog (sBuild 78 [(0, x4), (1, (.int .i64 0))]) Kp fun x5 =>
  opN Try.prog (sBuild 80 [(0, x5), (1, (.bool true))]) Kp fun x6 =>
  opN Try.prog (sBox 80 x6) Kp fun x7 =>
  K x7
def bits_NewReader_an : Ann := { cuts := [], blks := [], loops := [], drs := [] }
theorem bits_NewReader_eq (v0 : Value) (Kp : PK) (K : Value → WP) : cevF Try.prog bits_NewReader_an Try.f24 [v0] Kp K = bits_NewReader v0 Kp K := by kernel_rfl
theorem bits_NewReader_calls {v0 : Value} {Kp : PK} {K : Value → WP} {w : World} (h : bits_NewReader v0 Kp K w) : Calls Try.prog 24 #[v0] w (after Kp K) :=
  calls_of_shape (calls_of_cev wide Try.func24 (an := bits_NewReader_an) (args := [v0]) (cast (congrFun (bits_NewReader_eq v0 Kp K) w).symm h))
theorem bits_NewReader_cn {v0 : Value} {W : World} {α : Type} {A : List HP} {r : α → Value} {B : α → List HP} (h : ∀ F, Ent W (A ++ F) (bits_NewReader v0 noP fun v w => ∃ x, v = r x ∧ sat W (B x ++ F) w)) : Cn Try.prog 24 [v0] W A r B :=
  Cn.of (shape := bits_NewReader v0) Try.call24 (fun h => bits_NewReader_calls h) h
theorem bits_NewReader_cnP {v0 : Value} {W : World} {α β : Type} {A : List HP} {r : α → Value} {B : α → List HP} {pc : β → List PanicEntry} {Bp : β → List HP} (h : ∀ F, Ent W (A ++ F) (bits_NewReader v0 (fun ch w => ∃ y, ch = pc y ∧ sat W (Bp y ++ F) w) fun v w => ∃ x, v = r x ∧ sat W (B x ++ F) w)) : CnP Try.prog 24 [v0] W A r B pc Bp :=
  CnP.of (shape := bits_NewReader v0) Try.call24 (fun h => bits_NewReader_calls h) h

/-- law01_Stays -/
def law01_Stays (v0 v1 : Value) (Kp : PK) (K : Value → WP) : WP :=
  opN Try.prog (sLen #[49] 3 [v1]) Kp fun x8 =>
  opN Try.prog (sBin .add 3 x8 (.int .i64 2)) Kp fun x9 =>
  opN Try.prog (sSl 49 v0 none (some x9) none) Kp fun x10 =>
  drS (stS Try.prog (sLen #[49] 3 [v1]) fun x13 =>
   stS Try.prog (sSl 49 x10 none (some x13) none) fun x14 =>
   stS Try.prog (sConv 49 9 x14) fun x15 =>
   stS Try.prog (sConv 49 9 v1) fun x17 =>
   stS Try.prog (sEq .eql 9 (.tmp 15) (.tmp 17) x15 x17) fun x18 =>
   gdK x18 true (fun k => k x10) fun x20 =>
   gdK x18 true (fun k => k v1) fun x21 =>
   gdK x18 true (stS Try.prog (sLen #[49] 3 [x21])) fun x22 =>
   gdK x18 true (stS Try.prog (sIA 49 x20 x22)) fun x23 =>
   gdK x18 true (stS Try.prog (sLoad 5 x23)) fun x24 =>
   gdK x18 true (stS Try.prog (sEq .eql 5 (.tmp 24) (.const (.int .u8 201)) x24 (.int .u8 201))) fun x25 =>
   stS Try.prog (sPick x18 x25 (.bool false)) fun x26 =>
   gdK x26 true (fun k => k x10) fun x28 =>
   gdK x26 true (fun k => k v1) fun x29 =>
   gdK x26 true (stS Try.prog (sLen #[49] 3 [x29])) fun x30 =>
   gdK x26 true (stS Try.prog (sBin .add 3 x30 (.int .i64 1))) fun x31 =>
   gdK x26 true (stS Try.prog (sIA 49 x28 x31)) fun x32 =>
   gdK x26 true (stS Try.prog (sLoad 5 x32)) fun x33 =>
   gdK x26 true (stS Try.prog (sEq .eql 5 (.tmp 33) (.const (.int .u8 202)) x33 (.int .u8 202))) fun x34 =>
   stS Try.prog (sPick x26 x34 (.bool false)) fun x35 =>
   K x35)
def law01_Stays_an : Ann := { cuts := [], blks := [], loops := [], drs := [(2, [(0, 1), (1, 1), (2, 1), (3, 1), (4, 1), (5, 1), (6, 1), (7, 1), (8, 1), (9, 1), (10, 1), (11, 1), (12, 1), (13, 1), (14, 1), (15, 1), (16, 1), (17, 1), (18, 1), (19, 1), (20, 1), (21, 1), (22, 1), (23, 1), (24, 1), (25, 1)])] }
theorem law01_Stays_eq (v0 v1 : Value) (Kp : PK) (K : Value → WP) : cevF Try.prog law01_Stays_an Try.f25 [v0, v1] Kp K = law01_Stays v0 v1 Kp K := by kernel_rfl
theorem law01_Stays_calls {v0 v1 : Value} {Kp : PK} {K : Value → WP} {w : World} (h : law01_Stays v0 v1 Kp K w) : Calls Try.prog 25 #[v0, v1] w (after Kp K) :=
  calls_of_shape (calls_of_cev wide Try.func25 (an := law01_Stays_an) (args := [v0, v1]) (cast (congrFun (law01_Stays_eq v0 v1 Kp K) w).symm h))
theorem law01_Stays_cn {v0 v1 : Value} {W : World} {α : Type} {A : List HP} {r : α → Value} {B : α → List HP} (h : ∀ F, Ent W (A ++ F) (law01_Stays v0 v1 noP fun v w => ∃ x, v = r x ∧ sat W (B x ++ F) w)) : Cn Try.prog 25 [v0, v1] W A r B :=
  Cn.of (shape := law01_Stays v0 v1) Try.call25 (fun h => law01_Stays_calls h) h
theorem law01_Stays_cnP {v0 v1 : Value} {W : World} {α β : Type} {A : List HP} {r : α → Value} {B : α → List HP} {pc : β → List PanicEntry} {Bp : β → List HP} (h : ∀ F, Ent W (A ++ F) (law01_Stays v0 v1 (fun ch w => ∃ y, ch = pc y ∧ sat W (Bp y ++ F) w) fun v w => ∃ x, v = r x ∧ sat W (B x ++ F) w)) : CnP Try.prog 25 [v0, v1] W A r B pc Bp :=
  CnP.of (shape := law01_Stays v0 v1) Try.call25 (fun h => law01_Stays_calls h) h

/-- ref02_NewReader -/
def ref02_NewReader (v0 : Value) (Kp : PK) (K : Value → WP) : WP :=
  opN Try.prog (sBuildSl 49 0 []) Kp fun x3 =>
  opN Try.prog (sApp #[49, 49] 49 [x3, v0]) Kp fun x5 =>
  opN Try.prog (sBuild 107 [(0, x5)]) Kp fun x6 =>
  opN Try.prog (sBox 107 x6) Kp fun x7 =>
  K x7
def ref02_NewReader_an : Ann := { cuts := [], blks := [], loops := [], drs := [] }
theorem ref02_NewReader_eq (v0 : Value) (Kp : PK) (K : Value → WP) : cevF Try.prog ref02_NewReader_an Try.f26 [v0] Kp K = ref02_NewReader v0 Kp K := by kernel_rfl
theorem ref02_NewReader_calls {v0 : Value} {Kp : PK} {K : Value → WP} {w : World} (h : ref02_NewReader v0 Kp K w) : Calls Try.prog 26 #[v0] w (after Kp K) :=
  calls_of_shape (calls_of_cev wide Try.func26 (an := ref02_NewReader_an) (args := [v0]) (cast (congrFun (ref02_NewReader_eq v0 Kp K) w).symm h))
theorem ref02_NewReader_cn {v0 : Value} {W : World} {α : Type} {A : List HP} {r : α → Value} {B : α → List HP} (h : ∀ F, Ent W (A ++ F) (ref02_NewReader v0 noP fun v w => ∃ x, v = r x ∧ sat W (B x ++ F) w)) : Cn Try.prog 26 [v0] W A r B :=
  Cn.of (shape := ref02_NewReader v0) Try.call26 (fun h => ref02_NewReader_calls h) h
theorem ref02_NewReader_cnP {v0 : Value} {W : World} {α β : Type} {A : List HP} {r : α → Value} {B : α → List HP} {pc : β → List PanicEntry} {Bp : β → List HP} (h : ∀ F, Ent W (A ++ F) (ref02_NewReader v0 (fun ch w => ∃ y, ch = pc y ∧ sat W (Bp y ++ F) w) fun v w => ∃ x, v = r x ∧ sat W (B x ++ F) w)) : CnP Try.prog 26 [v0] W A r B pc Bp :=
  CnP.of (shape := ref02_NewReader v0) Try.call26 (fun h => ref02_NewReader_calls h) h

/-- bits_Reader_Take -/
def bits_Reader_Take (v0 v1 : Value) (Kp : PK) (K : Value → WP) : WP :=
  cut1 (fun J1 =>
   opN Try.prog (sCall (fn 54) [v0]) Kp fun x10 =>
   condS x10
   (J1 x10)
   (opN Try.prog (sBin .lss 3 v1 (.int .i64 0)) Kp fun x12 =>
    condS x12
    (J1 x12)
    (opN Try.prog (sBin .gtr 3 v1 (.int .i64 32)) Kp fun x14 =>
     J1 x14))) fun _ z8 =>
  condS z8
  (K (.tuple #[(.int .i64 0), (.int .i64 1)]))
  (opN Try.prog (sNil v0) Kp fun x18 =>
   opN Try.prog (sFA 80 x18 0) Kp fun x19 =>
   opN Try.prog (sCall (fn 55) [x19]) Kp fun x20 =>
   opN Try.prog (sBin .gtr 3 v1 x20) Kp fun x21 =>
   condS x21
   (K (.tuple #[(.int .i64 0), (.int .i64 20)]))
   (loop2 (fun I1 m1 _ y6 y23 =>
     opN Try.prog (sBin .lss 3 y23 v1) Kp fun x24 =>
     condS x24
     (opN Try.prog (sNil v0) Kp fun x28 =>
      opN Try.prog (sFA 80 x28 0) Kp fun x29 =>
      opN Try.prog (sCall (fn 56) [x29]) Kp fun x30 =>
      opN Try.prog (sConv 3 23 y23) Kp fun x32 =>
      opN Try.prog (sBin .shl 3 x30 x32) Kp fun x33 =>
      opN Try.prog (sBin .or 3 y6 x33) Kp fun x34 =>
      opN Try.prog (sBin .add 3 y23 (.int .i64 1)) Kp fun x35 =>
      next2 I1 m1 x34 x35)
     (K (.tuple #[y6, (.int .i64 0)]))) (.int .i64 0) (.int .i64 0)))
def bits_Reader_Take_an : Ann := { cuts := [(4, [8])], blks := [], loops := [(9, [6, 23])], drs := [] }
theorem bits_Reader_Take_eq (v0 v1 : Value) (Kp : PK) (K : Value → WP) : cevF Try.prog bits_Reader_Take_an Try.f27 [v0, v1] Kp K = bits_Reader_Take v0 v1 Kp K := by kernel_rfl
theorem bits_Reader_Take_calls {v0 v1 : Value} {Kp : PK} {K : Value → WP} {w : World} (h : bits_Reader_Take v0 v1 Kp K w) : Calls Try.prog 27 #[v0, v1] w (after Kp K) :=
  calls_of_shape (calls_of_cev wide Try.func27 (an := bits_Reader_Take_an) (args := [v0, v1]) (cast (congrFun (bits_Reader_Take_eq v0 v1 Kp K) w).symm h))
theorem bits_Reader_Take_cn {v0 v1 : Value} {W : World} {α : Type} {A : List HP} {r : α → Value} {B : α → List HP} (h : ∀ F, Ent W (A ++ F) (bits_Reader_Take v0 v1 noP fun v w => ∃ x, v = r x ∧ sat W (B x ++ F) w)) : Cn Try.prog 27 [v0, v1] W A r B :=
  Cn.of (shape := bits_Reader_Take v0 v1) Try.call27 (fun h => bits_Reader_Take_calls h) h
theorem bits_Reader_Take_cnP {v0 v1 : Value} {W : World} {α β : Type} {A : List HP} {r : α → Value} {B : α → List HP} {pc : β → List PanicEntry} {Bp : β → List HP} (h : ∀ F, Ent W (A ++ F) (bits_Reader_Take v0 v1 (fun ch w => ∃ y, ch = pc y ∧ sat W (Bp y ++ F) w) fun v w => ∃ x, v = r x ∧ sat W (B x ++ F) w)) : CnP Try.prog 27 [v0, v1] W A r B pc Bp :=
  CnP.of (shape := bits_Reader_Take v0 v1) Try.call27 (fun h => bits_Reader_Take_calls h) h

/-- ref02_Reader_Take -/
def ref02_Reader_Take (v0 v1 : Value) (Kp : PK) (K : Value → WP) : WP :=
  opN Try.prog (sBin .lss 3 v1 (.int .i64 0)) Kp fun x9 =>
  gdK x9 false (fun k => k v1) fun x11 =>
  gdK x9 false (opN Try.prog (sBin .gtr 3 x11 (.int .i64 32)) Kp) fun x12 =>
  opN Try.prog (sPick x9 (.bool true) x12) Kp fun x13 =>
  condS x13
  (K (.tuple #[(.int .i64 0), (.int .i64 1)]))
  (opN Try.prog (sCall (fn 35) [v0]) Kp fun x16 =>
   opN Try.prog (sBin .gtr 3 v1 x16) Kp fun x17 =>
   condS x17
   (K (.tuple #[(.int .i64 0), (.int .i64 20)]))
   (loop2 (fun I1 m1 _ y6 y7 =>
     opN Try.prog (sBin .lss 3 y7 v1) Kp fun x20 =>
     condS x20
     (drS (stS Try.prog (sNil v0) fun x25 =>
       stS Try.prog (sFA 107 x25 0) fun x26 =>
       stS Try.prog (sLoad 49 x26) fun x27 =>
       stS Try.prog (sNil v0) fun x29 =>
       stS Try.prog (sFA 107 x29 1) fun x30 =>
       stS Try.prog (sLoad 3 x30) fun x31 =>
       stS Try.prog (sBin .quo 3 x31 (.int .i64 8)) fun x32 =>
       stS Try.prog (sIA 49 x27 x32) fun x33 =>
       stS Try.prog (sLoad 5 x33) fun x34 =>
       stS Try.prog (sNil v0) fun x36 =>
       stS Try.prog (sFA 107 x36 1) fun x37 =>
       stS Try.prog (sLoad 3 x37) fun x38 =>
       stS Try.prog (sBin .rem 3 x38 (.int .i64 8)) fun x39 =>
       stS Try.prog (sConv 3 23 x39) fun x40 =>
       stS Try.prog (sBin .shr 5 x34 x40) fun x41 =>
       stS Try.prog (sBin .and 5 x41 (.int .u8 1)) fun x42 =>
       stS Try.prog (sConv 5 3 x42) fun x43 =>
       stS Try.prog (sConv 3 23 y7) fun x45 =>
       stS Try.prog (sBin .shl 3 x43 x45) fun x46 =>
       stS Try.prog (sBin .or 3 y6 x46) fun x47 =>
       opN Try.prog (sNil v0) Kp fun x49 =>
       opN Try.prog (sFA 107 x49 1) Kp fun x50 =>
       opN Try.prog (sLoad 3 x50) Kp fun x51 =>
       opN Try.prog (sBin .add 3 x51 (.int .i64 1)) Kp fun x52 =>
       opN Try.prog (sNil v0) Kp fun x53 =>
       opN Try.prog (sFA 107 x53 1) Kp fun x54 =>
       opN Try.prog (sStore 3 x54 x52) Kp fun _ =>
       opN Try.prog (sBin .add 3 y7 (.int .i64 1)) Kp fun x22 =>
       next2 I1 m1 x47 x22))
     (K (.tuple #[y6, (.int .i64 0)]))) (.int .i64 0) (.int .i64 0)))
def ref02_Reader_Take_an : Ann := { cuts := [], blks := [], loops := [(7, [6, 7])], drs := [(9, [(0, 1), (1, 1), (2, 1), (3, 1), (4, 1), (5, 1), (6, 1), (7, 1), (8, 1), (9, 1), (10, 1), (11, 1), (12, 1), (13, 1), (14, 1), (15, 1), (16, 1), (17, 1), (18, 1), (19, 1), (20, 1), (21, 1), (22, 1), (23, 1), (24, 1), (25, 1)])] }
theorem ref02_Reader_Take_eq (v0 v1 : Value) (Kp : PK) (K : Value → WP) : cevF Try.prog ref02_Reader_Take_an Try.f28 [v0, v1] Kp K = ref02_Reader_Take v0 v1 Kp K := by kernel_rfl
theorem ref02_Reader_Take_calls {v0 v1 : Value} {Kp : PK} {K : Value → WP} {w : World} (h : ref02_Reader_Take v0 v1 Kp K w) : Calls Try.prog 28 #[v0, v1] w (after Kp K) :=
  calls_of_shape (calls_of_cev wide Try.func28 (an := ref02_Reader_Take_an) (args := [v0, v1]) (cast (congrFun (ref02_Reader_Take_eq v0 v1 Kp K) w).symm h))
theorem ref02_Reader_Take_cn {v0 v1 : Value} {W : World} {α : Type} {A : List HP} {r : α → Value} {B : α → List HP} (h : ∀ F, Ent W (A ++ F) (ref02_Reader_Take v0 v1 noP fun v w => ∃ x, v = r x ∧ sat W (B x ++ F) w)) : Cn Try.prog 28 [v0, v1] W A r B :=
  Cn.of (shape := ref02_Reader_Take v0 v1) Try.call28 (fun h => ref02_Reader_Take_calls h) h
theorem ref02_Reader_Take_cnP {v0 v1 : Value} {W : World} {α β : Type} {A : List HP} {r : α → Value} {B : α → List HP} {pc : β → List PanicEntry} {Bp : β → List HP} (h : ∀ F, Ent W (A ++ F) (ref02_Reader_Take v0 v1 (fun ch w => ∃ y, ch = pc y ∧ sat W (Bp y ++ F) w) fun v w => ∃ x, v = r x ∧ sat W (B x ++ F) w)) : CnP Try.prog 28 [v0, v1] W A r B pc Bp :=
  CnP.of (shape := ref02_Reader_Take v0 v1) Try.call28 (fun h => ref02_Reader_Take_calls h) h

/-- law02_num -/
def law02_num (v0 : Value) (Kp : PK) (K : Value → WP) : WP :=
  K v0
def law02_num_an : Ann := { cuts := [], blks := [], loops := [], drs := [] }
theorem law02_num_eq (v0 : Value) (Kp : PK) (K : Value → WP) : cevF Try.prog law02_num_an Try.f29 [v0] Kp K = law02_num v0 Kp K := by kernel_rfl
theorem law02_num_calls {v0 : Value} {Kp : PK} {K : Value → WP} {w : World} (h : law02_num v0 Kp K w) : Calls Try.prog 29 #[v0] w (after Kp K) :=
  calls_of_shape (calls_of_cev wide Try.func29 (an := law02_num_an) (args := [v0]) (cast (congrFun (law02_num_eq v0 Kp K) w).symm h))
theorem law02_num_cn {v0 : Value} {W : World} {α : Type} {A : List HP} {r : α → Value} {B : α → List HP} (h : ∀ F, Ent W (A ++ F) (law02_num v0 noP fun v w => ∃ x, v = r x ∧ sat W (B x ++ F) w)) : Cn Try.prog 29 [v0] W A r B :=
  Cn.of (shape := law02_num v0) Try.call29 (fun h => law02_num_calls h) h
theorem law02_num_cnP {v0 : Value} {W : World} {α β : Type} {A : List HP} {r : α → Value} {B : α → List HP} {pc : β → List PanicEntry} {Bp : β → List HP} (h : ∀ F, Ent W (A ++ F) (law02_num v0 (fun ch w => ∃ y, ch = pc y ∧ sat W (Bp y ++ F) w) fun v w => ∃ x, v = r x ∧ sat W (B x ++ F) w)) : CnP Try.prog 29 [v0] W A r B pc Bp :=
  CnP.of (shape := law02_num v0) Try.call29 (fun h => law02_num_calls h) h

/-- bits_Reader_Align -/
def bits_Reader_Align (v0 : Value) (Kp : PK) (K : Value → WP) : WP :=
  opN Try.prog (sCall (fn 54) [v0]) Kp fun x3 =>
  opN Try.prog (sUn .not x3) Kp fun x4 =>
  condS x4
  (opN Try.prog (sNil v0) Kp fun x7 =>
   opN Try.prog (sFA 80 x7 0) Kp fun x8 =>
   opN Try.prog (sFA 78 x8 1) Kp fun x9 =>
   opN Try.prog (sLoad 3 x9) Kp fun x10 =>
   opN Try.prog (sBin .add 3 x10 (.int .i64 7)) Kp fun x11 =>
   opN Try.prog (sBin .quo 3 x11 (.int .i64 8)) Kp fun x12 =>
   opN Try.prog (sBin .mul 3 x12 (.int .i64 8)) Kp fun x13 =>
   opN Try.prog (sNil v0) Kp fun x14 =>
   opN Try.prog (sFA 80 x14 0) Kp fun x15 =>
   opN Try.prog (sFA 78 x15 1) Kp fun x16 =>
   opN Try.prog (sStore 3 x16 x13) Kp fun _ =>
   K (.tuple #[]))
  (K (.tuple #[]))
def bits_Reader_Align_an : Ann := { cuts := [], blks := [], loops := [], drs := [] }
theorem bits_Reader_Align_eq (v0 : Value) (Kp : PK) (K : Value → WP) : cevF Try.prog bits_Reader_Align_an Try.f30 [v0] Kp K = bits_Reader_Align v0 Kp K := by kernel_rfl
theorem bits_Reader_Align_calls {v0 : Value} {Kp : PK} {K : Value → WP} {w : World} (h : bits_Reader_Align v0 Kp K w) : Calls Try.prog 30 #[v0] w (after Kp K) :=
  calls_of_shape (calls_of_cev wide Try.func30 (an := bits_Reader_Align_an) (args := [v0]) (cast (congrFun (bits_Reader_Align_eq v0 Kp K) w).symm h))
theorem bits_Reader_Align_cn {v0 : Value} {W : World} {α : Type} {A : List HP} {r : α → Value} {B : α → List HP} (h : ∀ F, Ent W (A ++ F) (bits_Reader_Align v0 noP fun v w => ∃ x, v = r x ∧ sat W (B x ++ F) w)) : Cn Try.prog 30 [v0] W A r B :=
  Cn.of (shape := bits_Reader_Align v0) Try.call30 (fun h => bits_Reader_Align_calls h) h
theorem bits_Reader_Align_cnP {v0 : Value} {W : World} {α β : Type} {A : List HP} {r : α → Value} {B : α → List HP} {pc : β → List PanicEntry} {Bp : β → List HP} (h : ∀ F, Ent W (A ++ F) (bits_Reader_Align v0 (fun ch w => ∃ y, ch = pc y ∧ sat W (Bp y ++ F) w) fun v w => ∃ x, v = r x ∧ sat W (B x ++ F) w)) : CnP Try.prog 30 [v0] W A r B pc Bp :=
  CnP.of (shape := bits_Reader_Align v0) Try.call30 (fun h => bits_Reader_Align_calls h) h

/-- ref02_Reader_Align -/
def ref02_Reader_Align (v0 : Value) (Kp : PK) (K : Value → WP) : WP :=
  opN Try.prog (sNil v0) Kp fun x4 =>
  opN Try.prog (sFA 107 x4 1) Kp fun x5 =>
  opN Try.prog (sLoad 3 x5) Kp fun x6 =>
  opN Try.prog (sBin .add 3 x6 (.int .i64 7)) Kp fun x7 =>
  opN Try.prog (sBin .quo 3 x7 (.int .i64 8)) Kp fun x8 =>
  opN Try.prog (sBin .mul 3 x8 (.int .i64 8)) Kp fun x9 =>
  opN Try.prog (sNil v0) Kp fun x10 =>
  opN Try.prog (sFA 107 x10 1) Kp fun x11 =>
  opN Try.prog (sStore 3 x11 x9) Kp fun _ =>
  K (.tuple #[])
def ref02_Reader_Align_an : Ann := { cuts := [], blks := [], loops := [], drs := [] }
theorem ref02_Reader_Align_eq (v0 : Value) (Kp : PK) (K : Value → WP) : cevF Try.prog ref02_Reader_Align_an Try.f31 [v0] Kp K = ref02_Reader_Align v0 Kp K := by kernel_rfl
theorem ref02_Reader_Align_calls {v0 : Value} {Kp : PK} {K : Value → WP} {w : World} (h : ref02_Reader_Align v0 Kp K w) : Calls Try.prog 31 #[v0] w (after Kp K) :=
  calls_of_shape (calls_of_cev wide Try.func31 (an := ref02_Reader_Align_an) (args := [v0]) (cast (congrFun (ref02_Reader_Align_eq v0 Kp K) w).symm h))
theorem ref02_Reader_Align_cn {v0 : Value} {W : World} {α : Type} {A : List HP} {r : α → Value} {B : α → List HP} (h : ∀ F, Ent W (A ++ F) (ref02_Reader_Align v0 noP fun v w => ∃ x, v = r x ∧ sat W (B x ++ F) w)) : Cn Try.prog 31 [v0] W A r B :=
  Cn.of (shape := ref02_Reader_Align v0) Try.call31 (fun h => ref02_Reader_Align_calls h) h
theorem ref02_Reader_Align_cnP {v0 : Value} {W : World} {α β : Type} {A : List HP} {r : α → Value} {B : α → List HP} {pc : β → List PanicEntry} {Bp : β → List HP} (h : ∀ F, Ent W (A ++ F) (ref02_Reader_Align v0 (fun ch w => ∃ y, ch = pc y ∧ sat W (Bp y ++ F) w) fun v w => ∃ x, v = r x ∧ sat W (B x ++ F) w)) : CnP Try.prog 31 [v0] W A r B pc Bp :=
  CnP.of (shape := ref02_Reader_Align v0) Try.call31 (fun h => ref02_Reader_Align_calls h) h

/-- bits_Reader_Raw -/
def bits_Reader_Raw (v0 v1 : Value) (Kp : PK) (K : Value → WP) : WP :=
  opN Try.prog (sCall (fn 54) [v0]) Kp fun x8 =>
  gdK x8 false (fun k => k v1) fun x10 =>
  gdK x8 false (opN Try.prog (sBin .lss 3 x10 (.int .i64 0)) Kp) fun x11 =>
  opN Try.prog (sPick x8 (.bool true) x11) Kp fun x12 =>
  condS x12
  (K (.tuple #[(.slice none 0 0), (.int .i64 1)]))
  (opN Try.prog (sNil v0) Kp fun x14 =>
   opN Try.prog (sFA 80 x14 0) Kp fun x15 =>
   opN Try.prog (sFA 78 x15 1) Kp fun x16 =>
   opN Try.prog (sLoad 3 x16) Kp fun x17 =>
   opN Try.prog (sBin .add 3 x17 (.int .i64 7)) Kp fun x18 =>
   opN Try.prog (sBin .quo 3 x18 (.int .i64 8)) Kp fun x19 =>
   opN Try.prog (sNil v0) Kp fun x22 =>
   opN Try.prog (sFA 80 x22 0) Kp fun x23 =>
   opN Try.prog (sFA 78 x23 0) Kp fun x24 =>
   opN Try.prog (sLoad 49 x24) Kp fun x25 =>
   opN Try.prog (sLen #[49] 3 [x25]) Kp fun x26 =>
   opN Try.prog (sBin .sub 3 x26 x19) Kp fun x28 =>
   opN Try.prog (sBin .gtr 3 v1 x28) Kp fun x29 =>
   condS x29
   (K (.tuple #[(.slice none 0 0), (.int .i64 20)]))
   (opN Try.prog (sBin .add 3 x19 v1) Kp fun x33 =>
    opN Try.prog (sBin .mul 3 (.int .i64 8) x33) Kp fun x34 =>
    opN Try.prog (sNil v0) Kp fun x35 =>
    opN Try.prog (sFA 80 x35 0) Kp fun x36 =>
    opN Try.prog (sFA 78 x36 1) Kp fun x37 =>
    opN Try.prog (sStore 3 x37 x34) Kp fun _ =>
    opN Try.prog (sNil v0) Kp fun x39 =>
    opN Try.prog (sFA 80 x39 0) Kp fun x40 =>
    opN Try.prog (sFA 78 x40 0) Kp fun x41 =>
    opN Try.prog (sLoad 49 x41) Kp fun x42 =>
    opN Try.prog (sBin .add 3 x19 v1) Kp fun x46 =>
    opN Try.prog (sSl 49 x42 (some x19) (some x46) none) Kp fun x47 =>
    opN Try.prog (sApp #[49, 49] 49 [(.slice none 0 0), x47]) Kp fun x48 =>
    K (.tuple #[x48, (.int .i64 0)])))
def bits_Reader_Raw_an : Ann := { cuts := [], blks := [], loops := [], drs := [] }
theorem bits_Reader_Raw_eq (v0 v1 : Value) (Kp : PK) (K : Value → WP) : cevF Try.prog bits_Reader_Raw_an Try.f32 [v0, v1] Kp K = bits_Reader_Raw v0 v1 Kp K := by kernel_rfl
theorem bits_Reader_Raw_calls {v0 v1 : Value} {Kp : PK} {K : Value → WP} {w : World} (h : bits_Reader_Raw v0 v1 Kp K w) : Calls Try.prog 32 #[v0, v1] w (after Kp K) :=
  calls_of_shape (calls_of_cev wide Try.func32 (an := bits_Reader_Raw_an) (args := [v0, v1]) (cast (congrFun (bits_Reader_Raw_eq v0 v1 Kp K) w).symm h))
theorem bits_Reader_Raw_cn {v0 v1 : Value} {W : World} {α : Type} {A : List HP} {r : α → Value} {B : α → List HP} (h : ∀ F, Ent W (A ++ F) (bits_Reader_Raw v0 v1 noP fun v w => ∃ x, v = r x ∧ sat W (B x ++ F) w)) : Cn Try.prog 32 [v0, v1] W A r B :=
  Cn.of (shape := bits_Reader_Raw v0 v1) Try.call32 (fun h => bits_Reader_Raw_calls h) h
theorem bits_Reader_Raw_cnP {v0 v1 : Value} {W : World} {α β : Type} {A : List HP} {r : α → Value} {B : α → List HP} {pc : β → List PanicEntry} {Bp : β → List HP} (h : ∀ F, Ent W (A ++ F) (bits_Reader_Raw v0 v1 (fun ch w => ∃ y, ch = pc y ∧ sat W (Bp y ++ F) w) fun v w => ∃ x, v = r x ∧ sat W (B x ++ F) w)) : CnP Try.prog 32 [v0, v1] W A r B pc Bp :=
  CnP.of (shape := bits_Reader_Raw v0 v1) Try.call32 (fun h => bits_Reader_Raw_calls h) h

/-- ref02_Reader_Raw -/
def ref02_Reader_Raw (v0 v1 : Value) (Kp : PK) (K : Value → WP) : WP :=
  opN Try.prog (sBin .lss 3 v1 (.int .i64 0)) Kp fun x8 =>
  condS x8
  (K (.tuple #[(.slice none 0 0), (.int .i64 1)]))
  (opN Try.prog (sNil v0) Kp fun x10 =>
   opN Try.prog (sFA 107 x10 1) Kp fun x11 =>
   opN Try.prog (sLoad 3 x11) Kp fun x12 =>
   opN Try.prog (sBin .add 3 x12 (.int .i64 7)) Kp fun x13 =>
   opN Try.prog (sBin .quo 3 x13 (.int .i64 8)) Kp fun x14 =>
   opN Try.prog (sNil v0) Kp fun x17 =>
   opN Try.prog (sFA 107 x17 0) Kp fun x18 =>
   opN Try.prog (sLoad 49 x18) Kp fun x19 =>
   opN Try.prog (sLen #[49] 3 [x19]) Kp fun x20 =>
   opN Try.prog (sBin .sub 3 x20 x14) Kp fun x22 =>
   opN Try.prog (sBin .gtr 3 v1 x22) Kp fun x23 =>
   condS x23
   (K (.tuple #[(.slice none 0 0), (.int .i64 20)]))
   (opN Try.prog (sBin .add 3 x14 v1) Kp fun x27 =>
    opN Try.prog (sBin .mul 3 (.int .i64 8) x27) Kp fun x28 =>
    opN Try.prog (sNil v0) Kp fun x29 =>
    opN Try.prog (sFA 107 x29 1) Kp fun x30 =>
    opN Try.prog (sStore 3 x30 x28) Kp fun _ =>
    opN Try.prog (sBuildSl 49 0 []) Kp fun x31 =>
    opN Try.prog (sNil v0) Kp fun x33 =>
    opN Try.prog (sFA 107 x33 0) Kp fun x34 =>
    opN Try.prog (sLoad 49 x34) Kp fun x35 =>
    opN Try.prog (sBin .add 3 x14 v1) Kp fun x39 =>
    opN Try.prog (sSl 49 x35 (some x14) (some x39) none) Kp fun x40 =>
    opN Try.prog (sApp #[49, 49] 49 [x31, x40]) Kp fun x41 =>
    K (.tuple #[x41, (.int .i64 0)])))
def ref02_Reader_Raw_an : Ann := { cuts := [], blks := [], loops := [], drs := [] }
theorem ref02_Reader_Raw_eq (v0 v1 : Value) (Kp : PK) (K : Value → WP) : cevF Try.prog ref02_Reader_Raw_an Try.f33 [v0, v1] Kp K = ref02_Reader_Raw v0 v1 Kp K := by kernel_rfl
theorem ref02_Reader_Raw_calls {v0 v1 : Value} {Kp : PK} {K : Value → WP} {w : World} (h : ref02_Reader_Raw v0 v1 Kp K w) : Calls Try.prog 33 #[v0, v1] w (after Kp K) :=
  calls_of_shape (calls_of_cev wide Try.func33 (an := ref02_Reader_Raw_an) (args := [v0, v1]) (cast (congrFun (ref02_Reader_Raw_eq v0 v1 Kp K) w).symm h))
theorem ref02_Reader_Raw_cn {v0 v1 : Value} {W : World} {α : Type} {A : List HP} {r : α → Value} {B : α → List HP} (h : ∀ F, Ent W (A ++ F) (ref02_Reader_Raw v0 v1 noP fun v w => ∃ x, v = r x ∧ sat W (B x ++ F) w)) : Cn Try.prog 33 [v0, v1] W A r B :=
  Cn.of (shape := ref02_Reader_Raw v0 v1) Try.call33 (fun h => ref02_Reader_Raw_calls h) h
theorem ref02_Reader_Raw_cnP {v0 v1 : Value} {W : World} {α β : Type} {A : List HP} {r : α → Value} {B : α → List HP} {pc : β → List PanicEntry} {Bp : β → List HP} (h : ∀ F, Ent W (A ++ F) (ref02_Reader_Raw v0 v1 (fun ch w => ∃ y, ch = pc y ∧ sat W (Bp y ++ F) w) fun v w => ∃ x, v = r x ∧ sat W (B x ++ F) w)) : CnP Try.prog 33 [v0, v1] W A r B pc Bp :=
  CnP.of (shape := ref02_Reader_Raw v0 v1) Try.call33 (fun h => ref02_Reader_Raw_calls h) h

/-- bits_Reader_Left -/
def bits_Reader_Left (v0 : Value) (Kp : PK) (K : Value → WP) : WP :=
  opN Try.prog (sCall (fn 54) [v0]) Kp fun x4 =>
  condS x4
  (K (.int .i64 0))
  (opN Try.prog (sNil v0) Kp fun x6 =>
   opN Try.prog (sFA 80 x6 0) Kp fun x7 =>
   opN Try.prog (sCall (fn 55) [x7]) Kp fun x8 =>
   K x8)
def bits_Reader_Left_an : Ann := { cuts := [], blks := [], loops := [], drs := [] }
theorem bits_Reader_Left_eq (v0 : Value) (Kp : PK) (K : Value → WP) : cevF Try.prog bits_Reader_Left_an Try.f34 [v0] Kp K = bits_Reader_Left v0 Kp K := by kernel_rfl
theorem bits_Reader_Left_calls {v0 : Value} {Kp : PK} {K : Value → WP} {w : World} (h : bits_Reader_Left v0 Kp K w) : Calls Try.prog 34 #[v0] w (after Kp K) :=
  calls_of_shape (calls_of_cev wide Try.func34 (an := bits_Reader_Left_an) (args := [v0]) (cast (congrFun (bits_Reader_Left_eq v0 Kp K) w).symm h))
theorem bits_Reader_Left_cn {v0 : Value} {W : World} {α : Type} {A : List HP} {r : α → Value} {B : α → List HP} (h : ∀ F, Ent W (A ++ F) (bits_Reader_Left v0 noP fun v w => ∃ x, v = r x ∧ sat W (B x ++ F) w)) : Cn Try.prog 34 [v0] W A r B :=
  Cn.of (shape := bits_Reader_Left v0) Try.call34 (fun h => bits_Reader_Left_calls h) h
theorem bits_Reader_Left_cnP {v0 : Value} {W : World} {α β : Type} {A : List HP} {r : α → Value} {B : α → List HP} {pc : β → List PanicEntry} {Bp : β → List HP} (h : ∀ F, Ent W (A ++ F) (bits_Reader_Left v0 (fun ch w => ∃ y, ch = pc y ∧ sat W (Bp y ++ F) w) fun v w => ∃ x, v = r x ∧ sat W (B x ++ F) w)) : CnP Try.prog 34 [v0] W A r B pc Bp :=
  CnP.of (shape := bits_Reader_Left v0) Try.call34 (fun h => bits_Reader_Left_calls h) h

/-- ref02_Reader_Left -/
def ref02_Reader_Left (v0 : Value) (Kp : PK) (K : Value → WP) : WP :=
  drS (stS Try.prog (sNil v0) fun x4 =>
   stS Try.prog (sFA 107 x4 0) fun x5 =>
   stS Try.prog (sLoad 49 x5) fun x6 =>
   stS Try.prog (sLen #[49] 3 [x6]) fun x7 =>
   stS Try.prog (sBin .mul 3 (.int .i64 8) x7) fun x8 =>
   stS Try.prog (sNil v0) fun x10 =>
   stS Try.prog (sFA 107 x10 1) fun x11 =>
   stS Try.prog (sLoad 3 x11) fun x12 =>
   stS Try.prog (sBin .sub 3 x8 x12) fun x13 =>
   K x13)
def ref02_Reader_Left_an : Ann := { cuts := [], blks := [], loops := [], drs := [(1, [(0, 1), (1, 1), (2, 1), (3, 1), (4, 1), (5, 1), (6, 1), (7, 1), (8, 1), (9, 1), (10, 1), (11, 1)])] }
theorem ref02_Reader_Left_eq (v0 : Value) (Kp : PK) (K : Value → WP) : cevF Try.prog ref02_Reader_Left_an Try.f35 [v0] Kp K = ref02_Reader_Left v0 Kp K := by kernel_rfl
theorem ref02_Reader_Left_calls {v0 : Value} {Kp : PK} {K : Value → WP} {w : World} (h : ref02_Reader_Left v0 Kp K w) : Calls Try.prog 35 #[v0] w (after Kp K) :=
  calls_of_shape (calls_of_cev wide Try.func35 (an := ref02_Reader_Left_an) (args := [v0]) (cast (congrFun (ref02_Reader_Left_eq v0 Kp K) w).symm h))
theorem ref02_Reader_Left_cn {v0 : Value} {W : World} {α : Type} {A : List HP} {r : α → Value} {B : α → List HP} (h : ∀ F, Ent W (A ++ F) (ref02_Reader_Left v0 noP fun v w => ∃ x, v = r x ∧ sat W (B x ++ F) w)) : Cn Try.prog 35 [v0] W A r B :=
  Cn.of (shape := ref02_Reader_Left v0) Try.call35 (fun h => ref02_Reader_Left_calls h) h
theorem ref02_Reader_Left_cnP {v0 : Value} {W : World} {α β : Type} {A : List HP} {r : α → Value} {B : α → List HP} {pc : β → List PanicEntry} {Bp : β → List HP} (h : ∀ F, Ent W (A ++ F) (ref02_Reader_Left v0 (fun ch w => ∃ y, ch = pc y ∧ sat W (Bp y ++ F) w) fun v w => ∃ x, v = r x ∧ sat W (B x ++ F) w)) : CnP Try.prog 35 [v0] W A r B pc Bp :=
  CnP.of (shape := ref02_Reader_Left v0) Try.call35 (fun h => ref02_Reader_Left_calls h) h

/-- bits_Writer_Align -/
def bits_Writer_Align (v0 : Value) (Kp : PK) (K : Value → WP) : WP :=
  opN Try.prog (sCall (fn 53) [v0]) Kp fun x3 =>
  opN Try.prog (sUn .not x3) Kp fun x4 =>
  condS x4
  (opN Try.prog (sNil v0) Kp fun x7 =>
   opN Try.prog (sFA 76 x7 0) Kp fun x8 =>
   opN Try.prog (sLoad 49 x8) Kp fun x9 =>
   opN Try.prog (sLen #[49] 3 [x9]) Kp fun x10 =>
   opN Try.prog (sBin .mul 3 (.int .i64 8) x10) Kp fun x11 =>
   opN Try.prog (sNil v0) Kp fun x12 =>
   opN Try.prog (sFA 76 x12 1) Kp fun x13 =>
   opN Try.prog (sStore 3 x13 x11) Kp fun _ =>
   K (.tuple #[]))
  (K (.tuple #[]))
def bits_Writer_Align_an : Ann := { cuts := [], blks := [], loops := [], drs := [] }
theorem bits_Writer_Align_eq (v0 : Value) (Kp : PK) (K : Value → WP) : cevF Try.prog bits_Writer_Align_an Try.f36 [v0] Kp K = bits_Writer_Align v0 Kp K := by kernel_rfl
theorem bits_Writer_Align_calls {v0 : Value} {Kp : PK} {K : Value → WP} {w : World} (h : bits_Writer_Align v0 Kp K w) : Calls Try.prog 36 #[v0] w (after Kp K) :=
  calls_of_shape (calls_of_cev wide Try.func36 (an := bits_Writer_Align_an) (args := [v0]) (cast (congrFun (bits_Writer_Align_eq v0 Kp K) w).symm h))
theorem bits_Writer_Align_cn {v0 : Value} {W : World} {α : Type} {A : List HP} {r : α → Value} {B : α → List HP} (h : ∀ F, Ent W (A ++ F) (bits_Writer_Align v0 noP fun v w => ∃ x, v = r x ∧ sat W (B x ++ F) w)) : Cn Try.prog 36 [v0] W A r B :=
  Cn.of (shape := bits_Writer_Align v0) Try.call36 (fun h => bits_Writer_Align_calls h) h
theorem bits_Writer_Align_cnP {v0 : Value} {W : World} {α β : Type} {A : List HP} {r : α → Value} {B : α → List HP} {pc : β → List PanicEntry} {Bp : β → List HP} (h : ∀ F, Ent W (A ++ F) (bits_Writer_Align v0 (fun ch w => ∃ y, ch = pc y ∧ sat W (Bp y ++ F) w) fun v w => ∃ x, v = r x ∧ sat W (B x ++ F) w)) : CnP Try.prog 36 [v0] W A r B pc Bp :=
  CnP.of (shape := bits_Writer_Align v0) Try.call36 (fun h => bits_Writer_Align_calls h) h

/-- bits_Writer_Put -/
def bits_Writer_Put (v0 v1 v2 : Value) (Kp : PK) (K : Value → WP) : WP :=
  cut1 (fun J1 =>
   opN Try.prog (sCall (fn 53) [v0]) Kp fun x11 =>
   condS x11
   (J1 x11)
   (opN Try.prog (sBin .lss 3 v2 (.int .i64 0)) Kp fun x13 =>
    condS x13
    (J1 x13)
    (opN Try.prog (sBin .gtr 3 v2 (.int .i64 32)) Kp fun x15 =>
     condS x15
     (J1 x15)
     (opN Try.prog (sBin .lss 3 v1 (.int .i64 0)) Kp fun x17 =>
      condS x17
      (J1 x17)
      (opN Try.prog (sMin #[3, 3] 3 [v2, (.int .i64 32)]) Kp fun x20 =>
       opN Try.prog (sMax #[3, 3] 3 [(.int .i64 0), x20]) Kp fun x21 =>
       opN Try.prog (sConv 3 23 x21) Kp fun x22 =>
       opN Try.prog (sBin .shl 3 (.int .i64 1) x22) Kp fun x23 =>
       opN Try.prog (sBin .geq 3 v1 x23) Kp fun x24 =>
       J1 x24))))) fun _ z9 =>
  condS z9
  (K (.int .i64 1))
  (opN Try.prog (sNil v0) Kp fun x28 =>
   opN Try.prog (sFA 76 x28 1) Kp fun x29 =>
   opN Try.prog (sLoad 3 x29) Kp fun x30 =>
   opN Try.prog (sBin .sub 3 (.int .i64 8388608) x30) Kp fun x31 =>
   opN Try.prog (sBin .gtr 3 v2 x31) Kp fun x32 =>
   condS x32
   (K (.int .i64 6))
   (opN Try.prog (sCall (fn 57) []) Kp fun x33 =>
    opN Try.prog (sAlloc 108) Kp fun x7 =>
    opN Try.prog (sStore 108 x7 x33) Kp fun _ =>
    loop1 (fun I1 m1 _ y35 =>
     opN Try.prog (sBin .lss 3 y35 v2) Kp fun x36 =>
     condS x36
     (cut0 (fun J2 =>
       opN Try.prog (sNil v0) Kp fun x39 =>
       opN Try.prog (sFA 76 x39 1) Kp fun x40 =>
       opN Try.prog (sLoad 3 x40) Kp fun x41 =>
       opN Try.prog (sBin .rem 3 x41 (.int .i64 8)) Kp fun x42 =>
       opN Try.prog (sEq .eql 3 (.tmp 42) (.const (.int .i64 0)) x42 (.int .i64 0)) Kp fun x43 =>
       condS x43
       (opN Try.prog (sNil v0) Kp fun x46 =>
        opN Try.prog (sFA 76 x46 0) Kp fun x47 =>
        opN Try.prog (sLoad 49 x47) Kp fun x48 =>
        opN Try.prog (sBuildSl 49 1 [(0, (.int .u8 0))]) Kp fun x49 =>
        opN Try.prog (sApp #[49, 49] 49 [x48, x49]) Kp fun x50 =>
        opN Try.prog (sNil v0) Kp fun x51 =>
        opN Try.prog (sFA 76 x51 0) Kp fun x52 =>
        opN Try.prog (sStore 49 x52 x50) Kp fun _ =>
        J2)
       (J2)) fun _ =>
      cut0 (fun J3 =>
       opN Try.prog (sConv 3 23 y35) Kp fun x55 =>
       opN Try.prog (sBin .shr 3 v1 x55) Kp fun x56 =>
       opN Try.prog (sBin .and 3 x56 (.int .i64 1)) Kp fun x57 =>
       opN Try.prog (sEq .eql 3 (.tmp 57) (.const (.int .i64 1)) x57 (.int .i64 1)) Kp fun x58 =>
       condS x58
       (drS (stS Try.prog (sNil v0) fun x60 =>
         stS Try.prog (sFA 76 x60 0) fun x61 =>
         stS Try.prog (sLoad 49 x61) fun x62 =>
         stS Try.prog (sNil v0) fun x64 =>
         stS Try.prog (sFA 76 x64 1) fun x65 =>
         stS Try.prog (sLoad 3 x65) fun x66 =>
         stS Try.prog (sBin .quo 3 x66 (.int .i64 8)) fun x67 =>
         stS Try.prog (sIA 49 x62 x67) fun x68 =>
         stS Try.prog (sLoad 5 x68) fun x69 =>
         stS Try.prog (sNil v0) fun x71 =>
         stS Try.prog (sFA 76 x71 1) fun x72 =>
         stS Try.prog (sLoad 3 x72) fun x73 =>
         stS Try.prog (sBin .rem 3 x73 (.int .i64 8)) fun x74 =>
         stS Try.prog (sIA 108 x7 x74) fun x75 =>
         stS Try.prog (sLoad 5 x75) fun x76 =>
         stS Try.prog (sBin .or 5 x69 x76) fun x77 =>
         stS Try.prog (sIA 49 x62 x67) fun x78 =>
         opN Try.prog (sStore 5 x78 x77) Kp fun _ =>
         J3))
       (J3)) fun _ =>
      opN Try.prog (sNil v0) Kp fun x80 =>
      opN Try.prog (sFA 76 x80 1) Kp fun x81 =>
      opN Try.prog (sLoad 3 x81) Kp fun x82 =>
      opN Try.prog (sBin .add 3 x82 (.int .i64 1)) Kp fun x83 =>
      opN Try.prog (sNil v0) Kp fun x84 =>
      opN Try.prog (sFA 76 x84 1) Kp fun x85 =>
      opN Try.prog (sStore 3 x85 x83) Kp fun _ =>
      opN Try.prog (sBin .add 3 y35 (.int .i64 1)) Kp fun x86 =>
      next1 I1 m1 x86)
     (K (.int .i64 0))) (.int .i64 0)))
def bits_Writer_Put_an : Ann := { cuts := [(6, [9]), (15, []), (17, [])], blks := [], loops := [(11, [35])], drs := [(16, [(0, 1), (1, 1), (2, 1), (3, 1), (4, 1), (5, 1), (6, 1), (7, 1), (8, 1), (9, 1), (10, 1), (11, 1), (12, 1), (13, 1), (14, 1), (15, 1), (16, 1), (17, 1), (18, 1), (19, 1), (20, 0)])] }
theorem bits_Writer_Put_eq (v0 v1 v2 : Value) (Kp : PK) (K : Value → WP) : cevF Try.prog bits_Writer_Put_an Try.f37 [v0, v1, v2] Kp K = bits_Writer_Put v0 v1 v2 Kp K := by kernel_rfl
theorem bits_Writer_Put_calls {v0 v1 v2 : Value} {Kp : PK} {K : Value → WP} {w : World} (h : bits_Writer_Put v0 v1 v2 Kp K w) : Calls Try.prog 37 #[v0, v1, v2] w (after Kp K) :=
  calls_of_shape (calls_of_cev wide Try.func37 (an := bits_Writer_Put_an) (args := [v0, v1, v2]) (cast (congrFun (bits_Writer_Put_eq v0 v1 v2 Kp K) w).symm h))
theorem bits_Writer_Put_cn {v0 v1 v2 : Value} {W : World} {α : Type} {A : List HP} {r : α → Value} {B : α → List HP} (h : ∀ F, Ent W (A ++ F) (bits_Writer_Put v0 v1 v2 noP fun v w => ∃ x, v = r x ∧ sat W (B x ++ F) w)) : Cn Try.prog 37 [v0, v1, v2] W A r B :=
  Cn.of (shape := bits_Writer_Put v0 v1 v2) Try.call37 (fun h => bits_Writer_Put_calls h) h
theorem bits_Writer_Put_cnP {v0 v1 v2 : Value} {W : World} {α β : Type} {A : List HP} {r : α → Value} {B : α → List HP} {pc : β → List PanicEntry} {Bp : β → List HP} (h : ∀ F, Ent W (A ++ F) (bits_Writer_Put v0 v1 v2 (fun ch w => ∃ y, ch = pc y ∧ sat W (Bp y ++ F) w) fun v w => ∃ x, v = r x ∧ sat W (B x ++ F) w)) : CnP Try.prog 37 [v0, v1, v2] W A r B pc Bp :=
  CnP.of (shape := bits_Writer_Put v0 v1 v2) Try.call37 (fun h => bits_Writer_Put_calls h) h

/-- bits_Writer_Raw -/
def bits_Writer_Raw (v0 v1 : Value) (Kp : PK) (K : Value → WP) : WP :=
  opN Try.prog (sCall (fn 53) [v0]) Kp fun x7 =>
  condS x7
  (K (.int .i64 1))
  (opN Try.prog (sLen #[49] 3 [v1]) Kp fun x10 =>
   opN Try.prog (sNil v0) Kp fun x12 =>
   opN Try.prog (sFA 76 x12 0) Kp fun x13 =>
   opN Try.prog (sLoad 49 x13) Kp fun x14 =>
   opN Try.prog (sLen #[49] 3 [x14]) Kp fun x15 =>
   opN Try.prog (sBin .sub 3 (.int .i64 1048576) x15) Kp fun x16 =>
   opN Try.prog (sBin .gtr 3 x10 x16) Kp fun x17 =>
   condS x17
   (K (.int .i64 6))
   (opN Try.prog (sNil v0) Kp fun x20 =>
    opN Try.prog (sFA 76 x20 0) Kp fun x21 =>
    opN Try.prog (sLoad 49 x21) Kp fun x22 =>
    opN Try.prog (sApp #[49, 49] 49 [x22, v1]) Kp fun x24 =>
    opN Try.prog (sNil v0) Kp fun x25 =>
    opN Try.prog (sFA 76 x25 0) Kp fun x26 =>
    opN Try.prog (sStore 49 x26 x24) Kp fun _ =>
    opN Try.prog (sCall (fn 36) [v0]) Kp fun x28 =>
    K (.int .i64 0)))
def bits_Writer_Raw_an : Ann := { cuts := [], blks := [], loops := [], drs := [] }
theorem bits_Writer_Raw_eq (v0 v1 : Value) (Kp : PK) (K : Value → WP) : cevF Try.prog bits_Writer_Raw_an Try.f38 [v0, v1] Kp K = bits_Writer_Raw v0 v1 Kp K := by kernel_rfl
theorem bits_Writer_Raw_calls {v0 v1 : Value} {Kp : PK} {K : Value → WP} {w : World} (h : bits_Writer_Raw v0 v1 Kp K w) : Calls Try.prog 38 #[v0, v1] w (after Kp K) :=
  calls_of_shape (calls_of_cev wide Try.func38 (an := bits_Writer_Raw_an) (args := [v0, v1]) (cast (congrFun (bits_Writer_Raw_eq v0 v1 Kp K) w).symm h))
theorem bits_Writer_Raw_cn {v0 v1 : Value} {W : World} {α : Type} {A : List HP} {r : α → Value} {B : α → List HP} (h : ∀ F, Ent W (A ++ F) (bits_Writer_Raw v0 v1 noP fun v w => ∃ x, v = r x ∧ sat W (B x ++ F) w)) : Cn Try.prog 38 [v0, v1] W A r B :=
  Cn.of (shape := bits_Writer_Raw v0 v1) Try.call38 (fun h => bits_Writer_Raw_calls h) h
theorem bits_Writer_Raw_cnP {v0 v1 : Value} {W : World} {α β : Type} {A : List HP} {r : α → Value} {B : α → List HP} {pc : β → List PanicEntry} {Bp : β → List HP} (h : ∀ F, Ent W (A ++ F) (bits_Writer_Raw v0 v1 (fun ch w => ∃ y, ch = pc y ∧ sat W (Bp y ++ F) w) fun v w => ∃ x, v = r x ∧ sat W (B x ++ F) w)) : CnP Try.prog 38 [v0, v1] W A r B pc Bp :=
  CnP.of (shape := bits_Writer_Raw v0 v1) Try.call38 (fun h => bits_Writer_Raw_calls h) h

/-- bits_Writer_Bits -/
def bits_Writer_Bits (v0 : Value) (Kp : PK) (K : Value → WP) : WP :=
  opN Try.prog (sCall (fn 53) [v0]) Kp fun x4 =>
  condS x4
  (K (.int .i64 0))
  (opN Try.prog (sNil v0) Kp fun x6 =>
   opN Try.prog (sFA 76 x6 1) Kp fun x7 =>
   opN Try.prog (sLoad 3 x7) Kp fun x8 =>
   K x8)
def bits_Writer_Bits_an : Ann := { cuts := [], blks := [], loops := [], drs := [] }
theorem bits_Writer_Bits_eq (v0 : Value) (Kp : PK) (K : Value → WP) : cevF Try.prog bits_Writer_Bits_an Try.f39 [v0] Kp K = bits_Writer_Bits v0 Kp K := by kernel_rfl
theorem bits_Writer_Bits_calls {v0 : Value} {Kp : PK} {K : Value → WP} {w : World} (h : bits_Writer_Bits v0 Kp K w) : Calls Try.prog 39 #[v0] w (after Kp K) :=
  calls_of_shape (calls_of_cev wide Try.func39 (an := bits_Writer_Bits_an) (args := [v0]) (cast (congrFun (bits_Writer_Bits_eq v0 Kp K) w).symm h))
theorem bits_Writer_Bits_cn {v0 : Value} {W : World} {α : Type} {A : List HP} {r : α → Value} {B : α → List HP} (h : ∀ F, Ent W (A ++ F) (bits_Writer_Bits v0 noP fun v w => ∃ x, v = r x ∧ sat W (B x ++ F) w)) : Cn Try.prog 39 [v0] W A r B :=
  Cn.of (shape := bits_Writer_Bits v0) Try.call39 (fun h => bits_Writer_Bits_calls h) h
theorem bits_Writer_Bits_cnP {v0 : Value} {W : World} {α β : Type} {A : List HP} {r : α → Value} {B : α → List HP} {pc : β → List PanicEntry} {Bp : β → List HP} (h : ∀ F, Ent W (A ++ F) (bits_Writer_Bits v0 (fun ch w => ∃ y, ch = pc y ∧ sat W (Bp y ++ F) w) fun v w => ∃ x, v = r x ∧ sat W (B x ++ F) w)) : CnP Try.prog 39 [v0] W A r B pc Bp :=
  CnP.of (shape := bits_Writer_Bits v0) Try.call39 (fun h => bits_Writer_Bits_calls h) h

/-- pool_Pool_Done -/
def pool_Pool_Done (v0 v1 v2 : Value) (Kp : PK) (K : Value → WP) : WP :=
  opN Try.prog (sCall (fn 47) [v0]) Kp fun x9 =>
  condS x9
  (K (.int .i64 1))
  (opN Try.prog (sNil v0) Kp fun x11 =>
   opN Try.prog (sFA 95 x11 1) Kp fun x12 =>
   opN Try.prog (sLoad 93 x12) Kp fun x13 =>
   opN Try.prog (sLook 93 x13 v1 false) Kp fun x15 =>
   opN Try.prog (sEq .eql 97 (.tmp 16) (.const (.pointer none)) x15 (.pointer none)) Kp fun x17 =>
   condS x17
   (K (.int .i64 3))
   (opN Try.prog (sNil v0) Kp fun x19 =>
    opN Try.prog (sFA 95 x19 1) Kp fun x20 =>
    opN Try.prog (sLoad 93 x20) Kp fun x21 =>
    opN Try.prog (sDel #[93, 3] 0 [x21, v1]) Kp fun _ =>
    opN Try.prog (sNil x15) Kp fun x24 =>
    opN Try.prog (sFA 100 x24 2) Kp fun x25 =>
    opN Try.prog (sLoad 3 x25) Kp fun x26 =>
    opN Try.prog (sBin .sub 3 x26 (.int .i64 1)) Kp fun x27 =>
    opN Try.prog (sNil x15) Kp fun x28 =>
    opN Try.prog (sFA 100 x28 2) Kp fun x29 =>
    opN Try.prog (sStore 3 x29 x27) Kp fun _ =>
    condS v2
    (opN Try.prog (sNil x15) Kp fun x33 =>
     opN Try.prog (sFA 100 x33 1) Kp fun x34 =>
     opN Try.prog (sLoad 85 x34) Kp fun x35 =>
     opN Try.prog (sBuildSl 85 1 [(0, v1)]) Kp fun x37 =>
     opN Try.prog (sApp #[85, 85] 85 [x35, x37]) Kp fun x38 =>
     opN Try.prog (sNil x15) Kp fun x39 =>
     opN Try.prog (sFA 100 x39 1) Kp fun x40 =>
     opN Try.prog (sStore 85 x40 x38) Kp fun _ =>
     opN Try.prog (sNil v0) Kp fun x42 =>
     opN Try.prog (sFA 95 x42 2) Kp fun x43 =>
     opN Try.prog (sLoad 93 x43) Kp fun x44 =>
     opN Try.prog (sMapSet 93 x44 v1 x15) Kp fun _ =>
     K (.int .i64 0))
    (K (.int .i64 0))))
def pool_Pool_Done_an : Ann := { cuts := [], blks := [], loops := [], drs := [] }
theorem pool_Pool_Done_eq (v0 v1 v2 : Value) (Kp : PK) (K : Value → WP) : cevF Try.prog pool_Pool_Done_an Try.f40 [v0, v1, v2] Kp K = pool_Pool_Done v0 v1 v2 Kp K := by kernel_rfl
theorem pool_Pool_Done_calls {v0 v1 v2 : Value} {Kp : PK} {K : Value → WP} {w : World} (h : pool_Pool_Done v0 v1 v2 Kp K w) : Calls Try.prog 40 #[v0, v1, v2] w (after Kp K) :=
  calls_of_shape (calls_of_cev wide Try.func40 (an := pool_Pool_Done_an) (args := [v0, v1, v2]) (cast (congrFun (pool_Pool_Done_eq v0 v1 v2 Kp K) w).symm h))
theorem pool_Pool_Done_cn {v0 v1 v2 : Value} {W : World} {α : Type} {A : List HP} {r : α → Value} {B : α → List HP} (h : ∀ F, Ent W (A ++ F) (pool_Pool_Done v0 v1 v2 noP fun v w => ∃ x, v = r x ∧ sat W (B x ++ F) w)) : Cn Try.prog 40 [v0, v1, v2] W A r B :=
  Cn.of (shape := pool_Pool_Done v0 v1 v2) Try.call40 (fun h => pool_Pool_Done_calls h) h
theorem pool_Pool_Done_cnP {v0 v1 v2 : Value} {W : World} {α β : Type} {A : List HP} {r : α → Value} {B : α → List HP} {pc : β → List PanicEntry} {Bp : β → List HP} (h : ∀ F, Ent W (A ++ F) (pool_Pool_Done v0 v1 v2 (fun ch w => ∃ y, ch = pc y ∧ sat W (Bp y ++ F) w) fun v w => ∃ x, v = r x ∧ sat W (B x ++ F) w)) : CnP Try.prog 40 [v0, v1, v2] W A r B pc Bp :=
  CnP.of (shape := pool_Pool_Done v0 v1 v2) Try.call40 (fun h => pool_Pool_Done_calls h) h

/-- pool_Pool_Fail -/
def pool_Pool_Fail (v0 v1 v2 : Value) (Kp : PK) (K : Value → WP) : WP :=
  opN Try.prog (sCall (fn 47) [v0]) Kp fun x11 =>
  condS x11
  (K (.int .i64 1))
  (opN Try.prog (sNil v0) Kp fun x13 =>
   opN Try.prog (sFA 95 x13 1) Kp fun x14 =>
   opN Try.prog (sLoad 93 x14) Kp fun x15 =>
   opN Try.prog (sLook 93 x15 v1 false) Kp fun x17 =>
   cut1 (fun J1 =>
    opN Try.prog (sEq .neq 97 (.tmp 18) (.const (.pointer none)) x17 (.pointer none)) Kp fun x19 =>
    condS x19
    (opN Try.prog (sCall (fn 40) [v0, v1, (.bool false)]) Kp fun x22 =>
     J1 x17)
    (opN Try.prog (sNil v0) Kp fun x24 =>
     opN Try.prog (sFA 95 x24 2) Kp fun x25 =>
     opN Try.prog (sLoad 93 x25) Kp fun x26 =>
     opN Try.prog (sLook 93 x26 v1 false) Kp fun x28 =>
     opN Try.prog (sEq .eql 97 (.tmp 29) (.const (.pointer none)) x28 (.pointer none)) Kp fun x30 =>
     condS x30
     (K (.int .i64 3))
     (J1 x28))) fun _ z7 =>
   opN Try.prog (sNil z7) Kp fun x32 =>
   opN Try.prog (sFA 100 x32 1) Kp fun x33 =>
   opN Try.prog (sLoad 85 x33) Kp fun x34 =>
   opN Try.prog (sLen #[85] 3 [x34]) Kp fun x35 =>
   loop1 (fun I1 m1 _ y36 =>
    opN Try.prog (sBin .lss 3 y36 x35) Kp fun x37 =>
    condS x37
    (opN Try.prog (sIA 85 x34 y36) Kp fun x38 =>
     opN Try.prog (sLoad 3 x38) Kp fun x39 =>
     opN Try.prog (sNil v0) Kp fun x41 =>
     opN Try.prog (sFA 95 x41 2) Kp fun x42 =>
     opN Try.prog (sLoad 93 x42) Kp fun x43 =>
     opN Try.prog (sDel #[93, 3] 0 [x43, x39]) Kp fun _ =>
     opN Try.prog (sBin .add 3 y36 (.int .i64 1)) Kp fun x45 =>
     next1 I1 m1 x45)
    (opN Try.prog (sNil z7) Kp fun x47 =>
     opN Try.prog (sFA 100 x47 1) Kp fun x48 =>
     opN Try.prog (sStore 85 x48 (.slice none 0 0)) Kp fun _ =>
     drS (stD Try.prog (sNil v0) fun D4 x53 =>
      stD Try.prog (sFA 95 x53 5) fun D5 x54 =>
      stD Try.prog (sLoad 3 x54) fun D6 x55 =>
      opN Try.prog (sCall (fn 49) [v2]) Kp fun x51 =>
      (fun w => D6 w ∧ (fun w => D5 w ∧ (fun w => D4 w ∧ (stS Try.prog (sBin .add 3 x51 x55) fun x56 =>
          stS Try.prog (sNil z7) fun x57 =>
          stS Try.prog (sFA 100 x57 3) fun x58 =>
          opN Try.prog (sStore 3 x58 x56) Kp fun _ =>
          K (.int .i64 0)) w) w) w)))) (.int .i64 0))
def pool_Pool_Fail_an : Ann := { cuts := [(9, [7])], blks := [], loops := [(10, [36])], drs := [(15, [(0, 2), (1, 1), (3, 2), (4, 3), (5, 3), (6, 3), (2, 0), (7, 1), (8, 1), (9, 1), (10, 0)])] }
theorem pool_Pool_Fail_eq (v0 v1 v2 : Value) (Kp : PK) (K : Value → WP) : cevF Try.prog pool_Pool_Fail_an Try.f41 [v0, v1, v2] Kp K = pool_Pool_Fail v0 v1 v2 Kp K := by kernel_rfl
theorem pool_Pool_Fail_calls {v0 v1 v2 : Value} {Kp : PK} {K : Value → WP} {w : World} (h : pool_Pool_Fail v0 v1 v2 Kp K w) : Calls Try.prog 41 #[v0, v1, v2] w (after Kp K) :=
  calls_of_shape (calls_of_cev wide Try.func41 (an := pool_Pool_Fail_an) (args := [v0, v1, v2]) (cast (congrFun (pool_Pool_Fail_eq v0 v1 v2 Kp K) w).symm h))
theorem pool_Pool_Fail_cn {v0 v1 v2 : Value} {W : World} {α : Type} {A : List HP} {r : α → Value} {B : α → List HP} (h : ∀ F, Ent W (A ++ F) (pool_Pool_Fail v0 v1 v2 noP fun v w => ∃ x, v = r x ∧ sat W (B x ++ F) w)) : Cn Try.prog 41 [v0, v1, v2] W A r B :=
  Cn.of (shape := pool_Pool_Fail v0 v1 v2) Try.call41 (fun h => pool_Pool_Fail_calls h) h
theorem pool_Pool_Fail_cnP {v0 v1 v2 : Value} {W : World} {α β : Type} {A : List HP} {r : α → Value} {B : α → List HP} {pc : β → List PanicEntry} {Bp : β → List HP} (h : ∀ F, Ent W (A ++ F) (pool_Pool_Fail v0 v1 v2 (fun ch w => ∃ y, ch = pc y ∧ sat W (Bp y ++ F) w) fun v w => ∃ x, v = r x ∧ sat W (B x ++ F) w)) : CnP Try.prog 41 [v0, v1, v2] W A r B pc Bp :=
  CnP.of (shape := pool_Pool_Fail v0 v1 v2) Try.call41 (fun h => pool_Pool_Fail_calls h) h

/-- pool_Pool_Busy -/
def pool_Pool_Busy (v0 v1 : Value) (Kp : PK) (K : Value → WP) : WP :=
  opN Try.prog (sCall (fn 47) [v0]) Kp fun x6 =>
  gdK x6 false (fun k => k v0) fun x8 =>
  gdK x6 false (fun k => k v1) fun x9 =>
  gdK x6 false (opN Try.prog (sCall (fn 45) [x8, x9]) Kp) fun x10 =>
  gdK x6 false (opN Try.prog (sEq .eql 97 (.tmp 10) (.const (.pointer none)) x10 (.pointer none)) Kp) fun x11 =>
  opN Try.prog (sPick x6 (.bool true) x11) Kp fun x12 =>
  condS x12
  (K (.int .i64 0))
  (opN Try.prog (sCall (fn 45) [v0, v1]) Kp fun x15 =>
   opN Try.prog (sNil x15) Kp fun x16 =>
   opN Try.prog (sFA 100 x16 2) Kp fun x17 =>
   opN Try.prog (sLoad 3 x17) Kp fun x18 =>
   K x18)
def pool_Pool_Busy_an : Ann := { cuts := [], blks := [], loops := [], drs := [] }
theorem pool_Pool_Busy_eq (v0 v1 : Value) (Kp : PK) (K : Value → WP) : cevF Try.prog pool_Pool_Busy_an Try.f42 [v0, v1] Kp K = pool_Pool_Busy v0 v1 Kp K := by kernel_rfl
theorem pool_Pool_Busy_calls {v0 v1 : Value} {Kp : PK} {K : Value → WP} {w : World} (h : pool_Pool_Busy v0 v1 Kp K w) : Calls Try.prog 42 #[v0, v1] w (after Kp K) :=
  calls_of_shape (calls_of_cev wide Try.func42 (an := pool_Pool_Busy_an) (args := [v0, v1]) (cast (congrFun (pool_Pool_Busy_eq v0 v1 Kp K) w).symm h))
theorem pool_Pool_Busy_cn {v0 v1 : Value} {W : World} {α : Type} {A : List HP} {r : α → Value} {B : α → List HP} (h : ∀ F, Ent W (A ++ F) (pool_Pool_Busy v0 v1 noP fun v w => ∃ x, v = r x ∧ sat W (B x ++ F) w)) : Cn Try.prog 42 [v0, v1] W A r B :=
  Cn.of (shape := pool_Pool_Busy v0 v1) Try.call42 (fun h => pool_Pool_Busy_calls h) h
theorem pool_Pool_Busy_cnP {v0 v1 : Value} {W : World} {α β : Type} {A : List HP} {r : α → Value} {B : α → List HP} {pc : β → List PanicEntry} {Bp : β → List HP} (h : ∀ F, Ent W (A ++ F) (pool_Pool_Busy v0 v1 (fun ch w => ∃ y, ch = pc y ∧ sat W (Bp y ++ F) w) fun v w => ∃ x, v = r x ∧ sat W (B x ++ F) w)) : CnP Try.prog 42 [v0, v1] W A r B pc Bp :=
  CnP.of (shape := pool_Pool_Busy v0 v1) Try.call42 (fun h => pool_Pool_Busy_calls h) h

/-- pool_Pool_Idle -/
def pool_Pool_Idle (v0 v1 : Value) (Kp : PK) (K : Value → WP) : WP :=
  opN Try.prog (sCall (fn 47) [v0]) Kp fun x6 =>
  gdK x6 false (fun k => k v0) fun x8 =>
  gdK x6 false (fun k => k v1) fun x9 =>
  gdK x6 false (opN Try.prog (sCall (fn 45) [x8, x9]) Kp) fun x10 =>
  gdK x6 false (opN Try.prog (sEq .eql 97 (.tmp 10) (.const (.pointer none)) x10 (.pointer none)) Kp) fun x11 =>
  opN Try.prog (sPick x6 (.bool true) x11) Kp fun x12 =>
  condS x12
  (K (.int .i64 0))
  (opN Try.prog (sCall (fn 45) [v0, v1]) Kp fun x15 =>
   opN Try.prog (sNil x15) Kp fun x16 =>
   opN Try.prog (sFA 100 x16 1) Kp fun x17 =>
   opN Try.prog (sLoad 85 x17) Kp fun x18 =>
   opN Try.prog (sLen #[85] 3 [x18]) Kp fun x19 =>
   K x19)
def pool_Pool_Idle_an : Ann := { cuts := [], blks := [], loops := [], drs := [] }
theorem pool_Pool_Idle_eq (v0 v1 : Value) (Kp : PK) (K : Value → WP) : cevF Try.prog pool_Pool_Idle_an Try.f43 [v0, v1] Kp K = pool_Pool_Idle v0 v1 Kp K := by kernel_rfl
theorem pool_Pool_Idle_calls {v0 v1 : Value} {Kp : PK} {K : Value → WP} {w : World} (h : pool_Pool_Idle v0 v1 Kp K w) : Calls Try.prog 43 #[v0, v1] w (after Kp K) :=
  calls_of_shape (calls_of_cev wide Try.func43 (an := pool_Pool_Idle_an) (args := [v0, v1]) (cast (congrFun (pool_Pool_Idle_eq v0 v1 Kp K) w).symm h))
theorem pool_Pool_Idle_cn {v0 v1 : Value} {W : World} {α : Type} {A : List HP} {r : α → Value} {B : α → List HP} (h : ∀ F, Ent W (A ++ F) (pool_Pool_Idle v0 v1 noP fun v w => ∃ x, v = r x ∧ sat W (B x ++ F) w)) : Cn Try.prog 43 [v0, v1] W A r B :=
  Cn.of (shape := pool_Pool_Idle v0 v1) Try.call43 (fun h => pool_Pool_Idle_calls h) h
theorem pool_Pool_Idle_cnP {v0 v1 : Value} {W : World} {α β : Type} {A : List HP} {r : α → Value} {B : α → List HP} {pc : β → List PanicEntry} {Bp : β → List HP} (h : ∀ F, Ent W (A ++ F) (pool_Pool_Idle v0 v1 (fun ch w => ∃ y, ch = pc y ∧ sat W (Bp y ++ F) w) fun v w => ∃ x, v = r x ∧ sat W (B x ++ F) w)) : CnP Try.prog 43 [v0, v1] W A r B pc Bp :=
  CnP.of (shape := pool_Pool_Idle v0 v1) Try.call43 (fun h => pool_Pool_Idle_calls h) h

/-- pool_Pool_Gone -/
def pool_Pool_Gone (v0 v1 : Value) (Kp : PK) (K : Value → WP) : WP :=
  opN Try.prog (sBox 3 v1) Kp fun x3 =>
  opN Try.prog (sCall (fn 47) [v0]) Kp fun x7 =>
  condS x7
  (K (.int .i64 1))
  (drS (stS Try.prog (sNil v0) fun x9 =>
    stS Try.prog (sFA 95 x9 2) fun x10 =>
    stS Try.prog (sLoad 93 x10) fun x11 =>
    stS Try.prog (sLoad 3 x3) fun x12 =>
    stS Try.prog (sLook 93 x11 x12 false) fun x13 =>
    opN Try.prog (sEq .eql 97 (.tmp 14) (.const (.pointer none)) x13 (.pointer none)) Kp fun x15 =>
    condS x15
    (K (.int .i64 3))
    (drS (stS Try.prog (sNil v0) fun x17 =>
      stS Try.prog (sFA 95 x17 2) fun x18 =>
      stS Try.prog (sLoad 93 x18) fun x19 =>
      stS Try.prog (sLoad 3 x3) fun x20 =>
      opN Try.prog (sDel #[93, 3] 0 [x19, x20]) Kp fun _ =>
      opN Try.prog (sNil x13) Kp fun x23 =>
      opN Try.prog (sFA 100 x23 1) Kp fun x24 =>
      opN Try.prog (sLoad 85 x24) Kp fun x25 =>
      opN Try.prog (sMkF (.func 59) [] [x3]) Kp fun x26 =>
      opN Try.prog (sCall (fn 58) [x25, x26]) Kp fun x27 =>
      opN Try.prog (sNil x13) Kp fun x28 =>
      opN Try.prog (sFA 100 x28 1) Kp fun x29 =>
      opN Try.prog (sStore 85 x29 x27) Kp fun _ =>
      K (.int .i64 0)))))
def pool_Pool_Gone_an : Ann := { cuts := [], blks := [], loops := [], drs := [(3, [(0, 1), (1, 1), (2, 1), (3, 1), (4, 1), (5, 1), (6, 1)]), (6, [(0, 1), (1, 1), (2, 1), (3, 1), (4, 1), (5, 0)])] }
theorem pool_Pool_Gone_eq (v0 v1 : Value) (Kp : PK) (K : Value → WP) : cevF Try.prog pool_Pool_Gone_an Try.f44 [v0, v1] Kp K = pool_Pool_Gone v0 v1 Kp K := by kernel_rfl
theorem pool_Pool_Gone_calls {v0 v1 : Value} {Kp : PK} {K : Value → WP} {w : World} (h : pool_Pool_Gone v0 v1 Kp K w) : Calls Try.prog 44 #[v0, v1] w (after Kp K) :=
  calls_of_shape (calls_of_cev wide Try.func44 (an := pool_Pool_Gone_an) (args := [v0, v1]) (cast (congrFun (pool_Pool_Gone_eq v0 v1 Kp K) w).symm h))
theorem pool_Pool_Gone_cn {v0 v1 : Value} {W : World} {α : Type} {A : List HP} {r : α → Value} {B : α → List HP} (h : ∀ F, Ent W (A ++ F) (pool_Pool_Gone v0 v1 noP fun v w => ∃ x, v = r x ∧ sat W (B x ++ F) w)) : Cn Try.prog 44 [v0, v1] W A r B :=
  Cn.of (shape := pool_Pool_Gone v0 v1) Try.call44 (fun h => pool_Pool_Gone_calls h) h
theorem pool_Pool_Gone_cnP {v0 v1 : Value} {W : World} {α β : Type} {A : List HP} {r : α → Value} {B : α → List HP} {pc : β → List PanicEntry} {Bp : β → List HP} (h : ∀ F, Ent W (A ++ F) (pool_Pool_Gone v0 v1 (fun ch w => ∃ y, ch = pc y ∧ sat W (Bp y ++ F) w) fun v w => ∃ x, v = r x ∧ sat W (B x ++ F) w)) : CnP Try.prog 44 [v0, v1] W A r B pc Bp :=
  CnP.of (shape := pool_Pool_Gone v0 v1) Try.call44 (fun h => pool_Pool_Gone_calls h) h

/-- pool_Pool_peer -/
def pool_Pool_peer (v0 v1 : Value) (Kp : PK) (K : Value → WP) : WP :=
  opN Try.prog (sNil v0) Kp fun x8 =>
  opN Try.prog (sFA 95 x8 0) Kp fun x9 =>
  opN Try.prog (sLoad 92 x9) Kp fun x10 =>
  opN Try.prog (sLen #[92] 3 [x10]) Kp fun x11 =>
  loop1 (fun I1 m1 _ y12 =>
   opN Try.prog (sBin .lss 3 y12 x11) Kp fun x13 =>
   condS x13
   (opN Try.prog (sIA 92 x10 y12) Kp fun x14 =>
    opN Try.prog (sLoad 97 x14) Kp fun x15 =>
    opN Try.prog (sNil x15) Kp fun x17 =>
    opN Try.prog (sFA 100 x17 0) Kp fun x18 =>
    opN Try.prog (sFA 96 x18 0) Kp fun x19 =>
    opN Try.prog (sLoad 3 x19) Kp fun x20 =>
    opN Try.prog (sEq .eql 3 (.tmp 20) (.tmp 21) x20 v1) Kp fun x22 =>
    condS x22
    (K x15)
    (opN Try.prog (sBin .add 3 y12 (.int .i64 1)) Kp fun x24 =>
     next1 I1 m1 x24))
   (K (.pointer none))) (.int .i64 0)
def pool_Pool_peer_an : Ann := { cuts := [], blks := [], loops := [(2, [12])], drs := [] }
theorem pool_Pool_peer_eq (v0 v1 : Value) (Kp : PK) (K : Value → WP) : cevF Try.prog pool_Pool_peer_an Try.f45 [v0, v1] Kp K = pool_Pool_peer v0 v1 Kp K := by kernel_rfl
theorem pool_Pool_peer_calls {v0 v1 : Value} {Kp : PK} {K : Value → WP} {w : World} (h : pool_Pool_peer v0 v1 Kp K w) : Calls Try.prog 45 #[v0, v1] w (after Kp K) :=
  calls_of_shape (calls_of_cev wide Try.func45 (an := pool_Pool_peer_an) (args := [v0, v1]) (cast (congrFun (pool_Pool_peer_eq v0 v1 Kp K) w).symm h))
theorem pool_Pool_peer_cn {v0 v1 : Value} {W : World} {α : Type} {A : List HP} {r : α → Value} {B : α → List HP} (h : ∀ F, Ent W (A ++ F) (pool_Pool_peer v0 v1 noP fun v w => ∃ x, v = r x ∧ sat W (B x ++ F) w)) : Cn Try.prog 45 [v0, v1] W A r B :=
  Cn.of (shape := pool_Pool_peer v0 v1) Try.call45 (fun h => pool_Pool_peer_calls h) h
theorem pool_Pool_peer_cnP {v0 v1 : Value} {W : World} {α β : Type} {A : List HP} {r : α → Value} {B : α → List HP} {pc : β → List PanicEntry} {Bp : β → List HP} (h : ∀ F, Ent W (A ++ F) (pool_Pool_peer v0 v1 (fun ch w => ∃ y, ch = pc y ∧ sat W (Bp y ++ F) w) fun v w => ∃ x, v = r x ∧ sat W (B x ++ F) w)) : CnP Try.prog 45 [v0, v1] W A r B pc Bp :=
  CnP.of (shape := pool_Pool_peer v0 v1) Try.call45 (fun h => pool_Pool_peer_calls h) h

/-- law22_two -/
def law22_two (Kp : PK) (K : Value → WP) : WP :=
  opN Try.prog (sAlloc 28) Kp fun x0 =>
  opN Try.prog (sBuild 39 [(0, (.int .i64 1)), (1, (.int .i64 1))]) Kp fun x1 =>
  opN Try.prog (sBuild 39 [(0, (.int .i64 2)), (1, (.int .i64 1))]) Kp fun x2 =>
  opN Try.prog (sBuildSl 26 2 [(0, x1), (1, x2)]) Kp fun x3 =>
  opN Try.prog (sBuild 28 [(1, x3), (2, (.int .i64 10))]) Kp fun x4 =>
  opN Try.prog (sStore 28 x0 x4) Kp fun _ =>
  (stS Try.prog (sRes 28 x0) fun r0 => K r0)
def law22_two_an : Ann := { cuts := [], blks := [], loops := [], drs := [] }
theorem law22_two_eq (Kp : PK) (K : Value → WP) : cevF Try.prog law22_two_an Try.f46 [] Kp K = law22_two Kp K := by kernel_rfl
theorem law22_two_calls  {Kp : PK} {K : Value → WP} {w : World} (h : law22_two Kp K w) : Calls Try.prog 46 #[] w (after Kp K) :=
  calls_of_shape (calls_of_cev wide Try.func46 (an := law22_two_an) (args := []) (cast (congrFun (law22_two_eq Kp K) w).symm h))
theorem law22_two_cn  {W : World} {α : Type} {A : List HP} {r : α → Value} {B : α → List HP} (h : ∀ F, Ent W (A ++ F) (law22_two noP fun v w => ∃ x, v = r x ∧ sat W (B x ++ F) w)) : Cn Try.prog 46 [] W A r B :=
  Cn.of (shape := law22_two) Try.call46 (fun h => law22_two_calls h) h
theorem law22_two_cnP  {W : World} {α β : Type} {A : List HP} {r : α → Value} {B : α → List HP} {pc : β → List PanicEntry} {Bp : β → List HP} (h : ∀ F, Ent W (A ++ F) (law22_two (fun ch w => ∃ y, ch = pc y ∧ sat W (Bp y ++ F) w) fun v w => ∃ x, v = r x ∧ sat W (B x ++ F) w)) : CnP Try.prog 46 [] W A r B pc Bp :=
  CnP.of (shape := law22_two) Try.call46 (fun h => law22_two_calls h) h

/-- pool_Pool_none -/
def pool_Pool_none (v0 : Value) (Kp : PK) (K : Value → WP) : WP :=
  opN Try.prog (sEq .eql 29 (.tmp 3) (.const (.pointer none)) v0 (.pointer none)) Kp fun x4 =>
  gdK x4 false (fun k => k v0) fun x6 =>
  gdK x4 false (opN Try.prog (sNil x6) Kp) fun x7 =>
  gdK x4 false (opN Try.prog (sFA 95 x7 1) Kp) fun x8 =>
  gdK x4 false (opN Try.prog (sLoad 93 x8) Kp) fun x9 =>
  gdK x4 false (opN Try.prog (sEq .eql 93 (.tmp 9) (.const (.map none)) x9 (.map none)) Kp) fun x10 =>
  opN Try.prog (sPick x4 (.bool true) x10) Kp fun x11 =>
  K x11
def pool_Pool_none_an : Ann := { cuts := [], blks := [], loops := [], drs := [] }
theorem pool_Pool_none_eq (v0 : Value) (Kp : PK) (K : Value → WP) : cevF Try.prog pool_Pool_none_an Try.f47 [v0] Kp K = pool_Pool_none v0 Kp K := by kernel_rfl
theorem pool_Pool_none_calls {v0 : Value} {Kp : PK} {K : Value → WP} {w : World} (h : pool_Pool_none v0 Kp K w) : Calls Try.prog 47 #[v0] w (after Kp K) :=
  calls_of_shape (calls_of_cev wide Try.func47 (an := pool_Pool_none_an) (args := [v0]) (cast (congrFun (pool_Pool_none_eq v0 Kp K) w).symm h))
theorem pool_Pool_none_cn {v0 : Value} {W : World} {α : Type} {A : List HP} {r : α → Value} {B : α → List HP} (h : ∀ F, Ent W (A ++ F) (pool_Pool_none v0 noP fun v w => ∃ x, v = r x ∧ sat W (B x ++ F) w)) : Cn Try.prog 47 [v0] W A r B :=
  Cn.of (shape := pool_Pool_none v0) Try.call47 (fun h => pool_Pool_none_calls h) h
theorem pool_Pool_none_cnP {v0 : Value} {W : World} {α β : Type} {A : List HP} {r : α → Value} {B : α → List HP} {pc : β → List PanicEntry} {Bp : β → List HP} (h : ∀ F, Ent W (A ++ F) (pool_Pool_none v0 (fun ch w => ∃ y, ch = pc y ∧ sat W (Bp y ++ F) w) fun v w => ∃ x, v = r x ∧ sat W (B x ++ F) w)) : CnP Try.prog 47 [v0] W A r B pc Bp :=
  CnP.of (shape := pool_Pool_none v0) Try.call47 (fun h => pool_Pool_none_calls h) h

/-- pool_Pool_round -/
def pool_Pool_round (v0 : Value) (Kp : PK) (K : Value → WP) : WP :=
  opN Try.prog (sBox 29 v0) Kp fun x1 =>
  opN Try.prog (sMkF (.func 60) [] [x1]) Kp fun x3 =>
  K x3
def pool_Pool_round_an : Ann := { cuts := [], blks := [], loops := [], drs := [] }
theorem pool_Pool_round_eq (v0 : Value) (Kp : PK) (K : Value → WP) : cevF Try.prog pool_Pool_round_an Try.f48 [v0] Kp K = pool_Pool_round v0 Kp K := by kernel_rfl
theorem pool_Pool_round_calls {v0 : Value} {Kp : PK} {K : Value → WP} {w : World} (h : pool_Pool_round v0 Kp K w) : Calls Try.prog 48 #[v0] w (after Kp K) :=
  calls_of_shape (calls_of_cev wide Try.func48 (an := pool_Pool_round_an) (args := [v0]) (cast (congrFun (pool_Pool_round_eq v0 Kp K) w).symm h))
theorem pool_Pool_round_cn {v0 : Value} {W : World} {α : Type} {A : List HP} {r : α → Value} {B : α → List HP} (h : ∀ F, Ent W (A ++ F) (pool_Pool_round v0 noP fun v w => ∃ x, v = r x ∧ sat W (B x ++ F) w)) : Cn Try.prog 48 [v0] W A r B :=
  Cn.of (shape := pool_Pool_round v0) Try.call48 (fun h => pool_Pool_round_calls h) h
theorem pool_Pool_round_cnP {v0 : Value} {W : World} {α β : Type} {A : List HP} {r : α → Value} {B : α → List HP} {pc : β → List PanicEntry} {Bp : β → List HP} (h : ∀ F, Ent W (A ++ F) (pool_Pool_round v0 (fun ch w => ∃ y, ch = pc y ∧ sat W (Bp y ++ F) w) fun v w => ∃ x, v = r x ∧ sat W (B x ++ F) w)) : CnP Try.prog 48 [v0] W A r B pc Bp :=
  CnP.of (shape := pool_Pool_round v0) Try.call48 (fun h => pool_Pool_round_calls h) h

/-- pool_clock -/
def pool_clock (v0 : Value) (Kp : PK) (K : Value → WP) : WP :=
  opN Try.prog (sMin #[3, 3] 3 [v0, (.int .i64 1099511627776)]) Kp fun x4 =>
  opN Try.prog (sMax #[3, 3] 3 [(.int .i64 (-1099511627776)), x4]) Kp fun x5 =>
  K x5
def pool_clock_an : Ann := { cuts := [], blks := [], loops := [], drs := [] }
theorem pool_clock_eq (v0 : Value) (Kp : PK) (K : Value → WP) : cevF Try.prog pool_clock_an Try.f49 [v0] Kp K = pool_clock v0 Kp K := by kernel_rfl
theorem pool_clock_calls {v0 : Value} {Kp : PK} {K : Value → WP} {w : World} (h : pool_clock v0 Kp K w) : Calls Try.prog 49 #[v0] w (after Kp K) :=
  calls_of_shape (calls_of_cev wide Try.func49 (an := pool_clock_an) (args := [v0]) (cast (congrFun (pool_clock_eq v0 Kp K) w).symm h))
theorem pool_clock_cn {v0 : Value} {W : World} {α : Type} {A : List HP} {r : α → Value} {B : α → List HP} (h : ∀ F, Ent W (A ++ F) (pool_clock v0 noP fun v w => ∃ x, v = r x ∧ sat W (B x ++ F) w)) : Cn Try.prog 49 [v0] W A r B :=
  Cn.of (shape := pool_clock v0) Try.call49 (fun h => pool_clock_calls h) h
theorem pool_clock_cnP {v0 : Value} {W : World} {α β : Type} {A : List HP} {r : α → Value} {B : α → List HP} {pc : β → List PanicEntry} {Bp : β → List HP} (h : ∀ F, Ent W (A ++ F) (pool_clock v0 (fun ch w => ∃ y, ch = pc y ∧ sat W (Bp y ++ F) w) fun v w => ∃ x, v = r x ∧ sat W (B x ++ F) w)) : CnP Try.prog 49 [v0] W A r B pc Bp :=
  CnP.of (shape := pool_clock v0) Try.call49 (fun h => pool_clock_calls h) h

/-- ref02_Writer_Put -/
def ref02_Writer_Put (v0 v1 v2 : Value) (Kp : PK) (K : Value → WP) : WP :=
  opN Try.prog (sBin .lss 3 v2 (.int .i64 0)) Kp fun x9 =>
  gdK x9 false (fun k => k v2) fun x11 =>
  gdK x9 false (opN Try.prog (sBin .gtr 3 x11 (.int .i64 32)) Kp) fun x12 =>
  opN Try.prog (sPick x9 (.bool true) x12) Kp fun x13 =>
  gdK x13 false (fun k => k v1) fun x15 =>
  gdK x13 false (opN Try.prog (sBin .lss 3 x15 (.int .i64 0)) Kp) fun x16 =>
  opN Try.prog (sPick x13 (.bool true) x16) Kp fun x17 =>
  gdK x17 false (fun k => k v1) fun x19 =>
  gdK x17 false (fun k => k v2) fun x20 =>
  gdK x17 false (opN Try.prog (sConv 3 23 x20) Kp) fun x21 =>
  gdK x17 false (opN Try.prog (sBin .shl 3 (.int .i64 1) x21) Kp) fun x22 =>
  gdK x17 false (opN Try.prog (sBin .geq 3 x19 x22) Kp) fun x23 =>
  opN Try.prog (sPick x17 (.bool true) x23) Kp fun x24 =>
  condS x24
  (K (.int .i64 1))
  (opN Try.prog (sNil v0) Kp fun x27 =>
   opN Try.prog (sFA 51 x27 0) Kp fun x28 =>
   opN Try.prog (sLoad 49 x28) Kp fun x29 =>
   opN Try.prog (sLen #[49] 3 [x29]) Kp fun x30 =>
   opN Try.prog (sBin .sub 3 (.int .i64 8388608) x30) Kp fun x31 =>
   opN Try.prog (sBin .gtr 3 v2 x31) Kp fun x32 =>
   condS x32
   (K (.int .i64 6))
   (loop1 (fun I1 m1 _ y7 =>
     opN Try.prog (sBin .lss 3 y7 v2) Kp fun x35 =>
     condS x35
     (opN Try.prog (sNil v0) Kp fun x40 =>
      opN Try.prog (sFA 51 x40 0) Kp fun x41 =>
      opN Try.prog (sLoad 49 x41) Kp fun x42 =>
      opN Try.prog (sConv 3 23 y7) Kp fun x45 =>
      opN Try.prog (sBin .shr 3 v1 x45) Kp fun x46 =>
      opN Try.prog (sBin .and 3 x46 (.int .i64 1)) Kp fun x47 =>
      opN Try.prog (sConv 3 5 x47) Kp fun x48 =>
      opN Try.prog (sBuildSl 49 1 [(0, x48)]) Kp fun x49 =>
      opN Try.prog (sApp #[49, 49] 49 [x42, x49]) Kp fun x50 =>
      opN Try.prog (sNil v0) Kp fun x51 =>
      opN Try.prog (sFA 51 x51 0) Kp fun x52 =>
      opN Try.prog (sStore 49 x52 x50) Kp fun _ =>
      opN Try.prog (sBin .add 3 y7 (.int .i64 1)) Kp fun x37 =>
      next1 I1 m1 x37)
     (K (.int .i64 0))) (.int .i64 0)))
def ref02_Writer_Put_an : Ann := { cuts := [], blks := [], loops := [(6, [7])], drs := [] }
theorem ref02_Writer_Put_eq (v0 v1 v2 : Value) (Kp : PK) (K : Value → WP) : cevF Try.prog ref02_Writer_Put_an Try.f50 [v0, v1, v2] Kp K = ref02_Writer_Put v0 v1 v2 Kp K := by kernel_rfl
theorem ref02_Writer_Put_calls {v0 v1 v2 : Value} {Kp : PK} {K : Value → WP} {w : World} (h : ref02_Writer_Put v0 v1 v2 Kp K w) : Calls Try.prog 50 #[v0, v1, v2] w (after Kp K) :=
  calls_of_shape (calls_of_cev wide Try.func50 (an := ref02_Writer_Put_an) (args := [v0, v1, v2]) (cast (congrFun (ref02_Writer_Put_eq v0 v1 v2 Kp K) w).symm h))
theorem ref02_Writer_Put_cn {v0 v1 v2 : Value} {W : World} {α : Type} {A : List HP} {r : α → Value} {B : α → List HP} (h : ∀ F, Ent W (A ++ F) (ref02_Writer_Put v0 v1 v2 noP fun v w => ∃ x, v = r x ∧ sat W (B x ++ F) w)) : Cn Try.prog 50 [v0, v1, v2] W A r B :=
  Cn.of (shape := ref02_Writer_Put v0 v1 v2) Try.call50 (fun h => ref02_Writer_Put_calls h) h
theorem ref02_Writer_Put_cnP {v0 v1 v2 : Value} {W : World} {α β : Type} {A : List HP} {r : α → Value} {B : α → List HP} {pc : β → List PanicEntry} {Bp : β → List HP} (h : ∀ F, Ent W (A ++ F) (ref02_Writer_Put v0 v1 v2 (fun ch w => ∃ y, ch = pc y ∧ sat W (Bp y ++ F) w) fun v w => ∃ x, v = r x ∧ sat W (B x ++ F) w)) : CnP Try.prog 50 [v0, v1, v2] W A r B pc Bp :=
  CnP.of (shape := ref02_Writer_Put v0 v1 v2) Try.call50 (fun h => ref02_Writer_Put_calls h) h

/-- ref02_Writer_Align -/
def ref02_Writer_Align (v0 : Value) (Kp : PK) (K : Value → WP) : WP :=
  loop0 (fun I1 m1 _  =>
   opN Try.prog (sNil v0) Kp fun x3 =>
   opN Try.prog (sFA 51 x3 0) Kp fun x4 =>
   opN Try.prog (sLoad 49 x4) Kp fun x5 =>
   opN Try.prog (sLen #[49] 3 [x5]) Kp fun x6 =>
   opN Try.prog (sBin .rem 3 x6 (.int .i64 8)) Kp fun x7 =>
   opN Try.prog (sEq .neq 3 (.tmp 7) (.const (.int .i64 0)) x7 (.int .i64 0)) Kp fun x8 =>
   condS x8
   (opN Try.prog (sNil v0) Kp fun x11 =>
    opN Try.prog (sFA 51 x11 0) Kp fun x12 =>
    opN Try.prog (sLoad 49 x12) Kp fun x13 =>
    opN Try.prog (sBuildSl 49 1 [(0, (.int .u8 0))]) Kp fun x14 =>
    opN Try.prog (sApp #[49, 49] 49 [x13, x14]) Kp fun x15 =>
    opN Try.prog (sNil v0) Kp fun x16 =>
    opN Try.prog (sFA 51 x16 0) Kp fun x17 =>
    opN Try.prog (sStore 49 x17 x15) Kp fun _ =>
    next0 I1 m1)
   (K (.tuple #[])))
def ref02_Writer_Align_an : Ann := { cuts := [], blks := [], loops := [(0, [])], drs := [] }
theorem ref02_Writer_Align_eq (v0 : Value) (Kp : PK) (K : Value → WP) : cevF Try.prog ref02_Writer_Align_an Try.f51 [v0] Kp K = ref02_Writer_Align v0 Kp K := by kernel_rfl
theorem ref02_Writer_Align_calls {v0 : Value} {Kp : PK} {K : Value → WP} {w : World} (h : ref02_Writer_Align v0 Kp K w) : Calls Try.prog 51 #[v0] w (after Kp K) :=
  calls_of_shape (calls_of_cev wide Try.func51 (an := ref02_Writer_Align_an) (args := [v0]) (cast (congrFun (ref02_Writer_Align_eq v0 Kp K) w).symm h))
theorem ref02_Writer_Align_cn {v0 : Value} {W : World} {α : Type} {A : List HP} {r : α → Value} {B : α → List HP} (h : ∀ F, Ent W (A ++ F) (ref02_Writer_Align v0 noP fun v w => ∃ x, v = r x ∧ sat W (B x ++ F) w)) : Cn Try.prog 51 [v0] W A r B :=
  Cn.of (shape := ref02_Writer_Align v0) Try.call51 (fun h => ref02_Writer_Align_calls h) h
theorem ref02_Writer_Align_cnP {v0 : Value} {W : World} {α β : Type} {A : List HP} {r : α → Value} {B : α → List HP} {pc : β → List PanicEntry} {Bp : β → List HP} (h : ∀ F, Ent W (A ++ F) (ref02_Writer_Align v0 (fun ch w => ∃ y, ch = pc y ∧ sat W (Bp y ++ F) w) fun v w => ∃ x, v = r x ∧ sat W (B x ++ F) w)) : CnP Try.prog 51 [v0] W A r B pc Bp :=
  CnP.of (shape := ref02_Writer_Align v0) Try.call51 (fun h => ref02_Writer_Align_calls h) h

/-- ref02_Writer_Raw -/
def ref02_Writer_Raw (v0 v1 : Value) (Kp : PK) (K : Value → WP) : WP :=
  opN Try.prog (sNil v0) Kp fun x8 =>
  opN Try.prog (sFA 51 x8 0) Kp fun x9 =>
  opN Try.prog (sLoad 49 x9) Kp fun x10 =>
  opN Try.prog (sLen #[49] 3 [x10]) Kp fun x11 =>
  opN Try.prog (sBin .add 3 x11 (.int .i64 7)) Kp fun x12 =>
  opN Try.prog (sBin .quo 3 x12 (.int .i64 8)) Kp fun x13 =>
  opN Try.prog (sLen #[49] 3 [v1]) Kp fun x15 =>
  opN Try.prog (sBin .sub 3 (.int .i64 1048576) x13) Kp fun x17 =>
  opN Try.prog (sBin .gtr 3 x15 x17) Kp fun x18 =>
  condS x18
  (K (.int .i64 6))
  (opN Try.prog (sCall (fn 51) [v0]) Kp fun x20 =>
   loop1 (fun I1 m1 _ y6 =>
    opN Try.prog (sLen #[49] 3 [v1]) Kp fun x23 =>
    opN Try.prog (sBin .lss 3 y6 x23) Kp fun x24 =>
    condS x24
    (opN Try.prog (sIA 49 v1 y6) Kp fun x30 =>
     opN Try.prog (sLoad 5 x30) Kp fun x31 =>
     opN Try.prog (sConv 5 3 x31) Kp fun x32 =>
     opN Try.prog (sCall (fn 50) [v0, x32, (.int .i64 8)]) Kp fun x33 =>
     opN Try.prog (sBin .add 3 y6 (.int .i64 1)) Kp fun x26 =>
     next1 I1 m1 x26)
    (K (.int .i64 0))) (.int .i64 0))
def ref02_Writer_Raw_an : Ann := { cuts := [], blks := [], loops := [(6, [6])], drs := [] }
theorem ref02_Writer_Raw_eq (v0 v1 : Value) (Kp : PK) (K : Value → WP) : cevF Try.prog ref02_Writer_Raw_an Try.f52 [v0, v1] Kp K = ref02_Writer_Raw v0 v1 Kp K := by kernel_rfl
theorem ref02_Writer_Raw_calls {v0 v1 : Value} {Kp : PK} {K : Value → WP} {w : World} (h : ref02_Writer_Raw v0 v1 Kp K w) : Calls Try.prog 52 #[v0, v1] w (after Kp K) :=
  calls_of_shape (calls_of_cev wide Try.func52 (an := ref02_Writer_Raw_an) (args := [v0, v1]) (cast (congrFun (ref02_Writer_Raw_eq v0 v1 Kp K) w).symm h))
theorem ref02_Writer_Raw_cn {v0 v1 : Value} {W : World} {α : Type} {A : List HP} {r : α → Value} {B : α → List HP} (h : ∀ F, Ent W (A ++ F) (ref02_Writer_Raw v0 v1 noP fun v w => ∃ x, v = r x ∧ sat W (B x ++ F) w)) : Cn Try.prog 52 [v0, v1] W A r B :=
  Cn.of (shape := ref02_Writer_Raw v0 v1) Try.call52 (fun h => ref02_Writer_Raw_calls h) h
theorem ref02_Writer_Raw_cnP {v0 v1 : Value} {W : World} {α β : Type} {A : List HP} {r : α → Value} {B : α → List HP} {pc : β → List PanicEntry} {Bp : β → List HP} (h : ∀ F, Ent W (A ++ F) (ref02_Writer_Raw v0 v1 (fun ch w => ∃ y, ch = pc y ∧ sat W (Bp y ++ F) w) fun v w => ∃ x, v = r x ∧ sat W (B x ++ F) w)) : CnP Try.prog 52 [v0, v1] W A r B pc Bp :=
  CnP.of (shape := ref02_Writer_Raw v0 v1) Try.call52 (fun h => ref02_Writer_Raw_calls h) h

/-- bits_Writer_none -/
def bits_Writer_none (v0 : Value) (Kp : PK) (K : Value → WP) : WP :=
  opN Try.prog (sEq .eql 46 (.tmp 3) (.const (.pointer none)) v0 (.pointer none)) Kp fun x4 =>
  gdK x4 false (fun k => k v0) fun x6 =>
  gdK x4 false (opN Try.prog (sNil x6) Kp) fun x7 =>
  gdK x4 false (opN Try.prog (sFA 76 x7 2) Kp) fun x8 =>
  gdK x4 false (opN Try.prog (sLoad 4 x8) Kp) fun x9 =>
  gdK x4 false (opN Try.prog (sUn .not x9) Kp) fun x10 =>
  opN Try.prog (sPick x4 (.bool true) x10) Kp fun x11 =>
  K x11
def bits_Writer_none_an : Ann := { cuts := [], blks := [], loops := [], drs := [] }
theorem bits_Writer_none_eq (v0 : Value) (Kp : PK) (K : Value → WP) : cevF Try.prog bits_Writer_none_an Try.f53 [v0] Kp K = bits_Writer_none v0 Kp K := by kernel_rfl
theorem bits_Writer_none_calls {v0 : Value} {Kp : PK} {K : Value → WP} {w : World} (h : bits_Writer_none v0 Kp K w) : Calls Try.prog 53 #[v0] w (after Kp K) :=
  calls_of_shape (calls_of_cev wide Try.func53 (an := bits_Writer_none_an) (args := [v0]) (cast (congrFun (bits_Writer_none_eq v0 Kp K) w).symm h))
theorem bits_Writer_none_cn {v0 : Value} {W : World} {α : Type} {A : List HP} {r : α → Value} {B : α → List HP} (h : ∀ F, Ent W (A ++ F) (bits_Writer_none v0 noP fun v w => ∃ x, v = r x ∧ sat W (B x ++ F) w)) : Cn Try.prog 53 [v0] W A r B :=
  Cn.of (shape := bits_Writer_none v0) Try.call53 (fun h => bits_Writer_none_calls h) h
theorem bits_Writer_none_cnP {v0 : Value} {W : World} {α β : Type} {A : List HP} {r : α → Value} {B : α → List HP} {pc : β → List PanicEntry} {Bp : β → List HP} (h : ∀ F, Ent W (A ++ F) (bits_Writer_none v0 (fun ch w => ∃ y, ch = pc y ∧ sat W (Bp y ++ F) w) fun v w => ∃ x, v = r x ∧ sat W (B x ++ F) w)) : CnP Try.prog 53 [v0] W A r B pc Bp :=
  CnP.of (shape := bits_Writer_none v0) Try.call53 (fun h => bits_Writer_none_calls h) h

/-- bits_Reader_none -/
def bits_Reader_none (v0 : Value) (Kp : PK) (K : Value → WP) : WP :=
  opN Try.prog (sEq .eql 58 (.tmp 3) (.const (.pointer none)) v0 (.pointer none)) Kp fun x4 =>
  gdK x4 false (fun k => k v0) fun x6 =>
  gdK x4 false (opN Try.prog (sNil x6) Kp) fun x7 =>
  gdK x4 false (opN Try.prog (sFA 80 x7 1) Kp) fun x8 =>
  gdK x4 false (opN Try.prog (sLoad 4 x8) Kp) fun x9 =>
  gdK x4 false (opN Try.prog (sUn .not x9) Kp) fun x10 =>
  opN Try.prog (sPick x4 (.bool true) x10) Kp fun x11 =>
  K x11
def bits_Reader_none_an : Ann := { cuts := [], blks := [], loops := [], drs := [] }
theorem bits_Reader_none_eq (v0 : Value) (Kp : PK) (K : Value → WP) : cevF Try.prog bits_Reader_none_an Try.f54 [v0] Kp K = bits_Reader_none v0 Kp K := by kernel_rfl
theorem bits_Reader_none_calls {v0 : Value} {Kp : PK} {K : Value → WP} {w : World} (h : bits_Reader_none v0 Kp K w) : Calls Try.prog 54 #[v0] w (after Kp K) :=
  calls_of_shape (calls_of_cev wide Try.func54 (an := bits_Reader_none_an) (args := [v0]) (cast (congrFun (bits_Reader_none_eq v0 Kp K) w).symm h))
theorem bits_Reader_none_cn {v0 : Value} {W : World} {α : Type} {A : List HP} {r : α → Value} {B : α → List HP} (h : ∀ F, Ent W (A ++ F) (bits_Reader_none v0 noP fun v w => ∃ x, v = r x ∧ sat W (B x ++ F) w)) : Cn Try.prog 54 [v0] W A r B :=
  Cn.of (shape := bits_Reader_none v0) Try.call54 (fun h => bits_Reader_none_calls h) h
theorem bits_Reader_none_cnP {v0 : Value} {W : World} {α β : Type} {A : List HP} {r : α → Value} {B : α → List HP} {pc : β → List PanicEntry} {Bp : β → List HP} (h : ∀ F, Ent W (A ++ F) (bits_Reader_none v0 (fun ch w => ∃ y, ch = pc y ∧ sat W (Bp y ++ F) w) fun v w => ∃ x, v = r x ∧ sat W (B x ++ F) w)) : CnP Try.prog 54 [v0] W A r B pc Bp :=
  CnP.of (shape := bits_Reader_none v0) Try.call54 (fun h => bits_Reader_none_calls h) h

/-- bits_source_left -/
def bits_source_left (v0 : Value) (Kp : PK) (K : Value → WP) : WP :=
  drS (stS Try.prog (sNil v0) fun x4 =>
   stS Try.prog (sFA 78 x4 0) fun x5 =>
   stS Try.prog (sLoad 49 x5) fun x6 =>
   stS Try.prog (sLen #[49] 3 [x6]) fun x7 =>
   stS Try.prog (sBin .mul 3 (.int .i64 8) x7) fun x8 =>
   stS Try.prog (sNil v0) fun x10 =>
   stS Try.prog (sFA 78 x10 1) fun x11 =>
   stS Try.prog (sLoad 3 x11) fun x12 =>
   stS Try.prog (sBin .sub 3 x8 x12) fun x13 =>
   K x13)
def bits_source_left_an : Ann := { cuts := [], blks := [], loops := [], drs := [(1, [(0, 1), (1, 1), (2, 1), (3, 1), (4, 1), (5, 1), (6, 1), (7, 1), (8, 1), (9, 1), (10, 1), (11, 1)])] }
theorem bits_source_left_eq (v0 : Value) (Kp : PK) (K : Value → WP) : cevF Try.prog bits_source_left_an Try.f55 [v0] Kp K = bits_source_left v0 Kp K := by kernel_rfl
theorem bits_source_left_calls {v0 : Value} {Kp : PK} {K : Value → WP} {w : World} (h : bits_source_left v0 Kp K w) : Calls Try.prog 55 #[v0] w (after Kp K) :=
  calls_of_shape (calls_of_cev wide Try.func55 (an := bits_source_left_an) (args := [v0]) (cast (congrFun (bits_source_left_eq v0 Kp K) w).symm h))
theorem bits_source_left_cn {v0 : Value} {W : World} {α : Type} {A : List HP} {r : α → Value} {B : α → List HP} (h : ∀ F, Ent W (A ++ F) (bits_source_left v0 noP fun v w => ∃ x, v = r x ∧ sat W (B x ++ F) w)) : Cn Try.prog 55 [v0] W A r B :=
  Cn.of (shape := bits_source_left v0) Try.call55 (fun h => bits_source_left_calls h) h
theorem bits_source_left_cnP {v0 : Value} {W : World} {α β : Type} {A : List HP} {r : α → Value} {B : α → List HP} {pc : β → List PanicEntry} {Bp : β → List HP} (h : ∀ F, Ent W (A ++ F) (bits_source_left v0 (fun ch w => ∃ y, ch = pc y ∧ sat W (Bp y ++ F) w) fun v w => ∃ x, v = r x ∧ sat W (B x ++ F) w)) : CnP Try.prog 55 [v0] W A r B pc Bp :=
  CnP.of (shape := bits_source_left v0) Try.call55 (fun h => bits_source_left_calls h) h

/-- bits_source_bit -/
def bits_source_bit (v0 : Value) (Kp : PK) (K : Value → WP) : WP :=
  drS (stS Try.prog (sNil v0) fun x5 =>
   stS Try.prog (sFA 78 x5 0) fun x6 =>
   stS Try.prog (sLoad 49 x6) fun x7 =>
   stS Try.prog (sNil v0) fun x9 =>
   stS Try.prog (sFA 78 x9 1) fun x10 =>
   stS Try.prog (sLoad 3 x10) fun x11 =>
   stS Try.prog (sBin .quo 3 x11 (.int .i64 8)) fun x12 =>
   stS Try.prog (sIA 49 x7 x12) fun x13 =>
   stS Try.prog (sLoad 5 x13) fun x14 =>
   stS Try.prog (sNil v0) fun x16 =>
   stS Try.prog (sFA 78 x16 1) fun x17 =>
   stS Try.prog (sLoad 3 x17) fun x18 =>
   stS Try.prog (sBin .rem 3 x18 (.int .i64 8)) fun x19 =>
   stS Try.prog (sConv 3 23 x19) fun x20 =>
   stS Try.prog (sBin .shr 5 x14 x20) fun x21 =>
   stS Try.prog (sBin .and 5 x21 (.int .u8 1)) fun x22 =>
   stS Try.prog (sConv 5 3 x22) fun x23 =>
   opN Try.prog (sNil v0) Kp fun x25 =>
   opN Try.prog (sFA 78 x25 1) Kp fun x26 =>
   opN Try.prog (sLoad 3 x26) Kp fun x27 =>
   opN Try.prog (sBin .add 3 x27 (.int .i64 1)) Kp fun x28 =>
   opN Try.prog (sNil v0) Kp fun x29 =>
   opN Try.prog (sFA 78 x29 1) Kp fun x30 =>
   opN Try.prog (sStore 3 x30 x28) Kp fun _ =>
   K x23)
def bits_source_bit_an : Ann := { cuts := [], blks := [], loops := [], drs := [(1, [(0, 1), (1, 1), (2, 1), (3, 1), (4, 1), (5, 1), (6, 1), (7, 1), (8, 1), (9, 1), (10, 1), (11, 1), (12, 1), (13, 1), (14, 1), (15, 1), (16, 1), (17, 1), (18, 1), (19, 1), (20, 1)])] }
theorem bits_source_bit_eq (v0 : Value) (Kp : PK) (K : Value → WP) : cevF Try.prog bits_source_bit_an Try.f56 [v0] Kp K = bits_source_bit v0 Kp K := by kernel_rfl
theorem bits_source_bit_calls {v0 : Value} {Kp : PK} {K : Value → WP} {w : World} (h : bits_source_bit v0 Kp K w) : Calls Try.prog 56 #[v0] w (after Kp K) :=
  calls_of_shape (calls_of_cev wide Try.func56 (an := bits_source_bit_an) (args := [v0]) (cast (congrFun (bits_source_bit_eq v0 Kp K) w).symm h))
theorem bits_source_bit_cn {v0 : Value} {W : World} {α : Type} {A : List HP} {r : α → Value} {B : α → List HP} (h : ∀ F, Ent W (A ++ F) (bits_source_bit v0 noP fun v w => ∃ x, v = r x ∧ sat W (B x ++ F) w)) : Cn Try.prog 56 [v0] W A r B :=
  Cn.of (shape := bits_source_bit v0) Try.call56 (fun h => bits_source_bit_calls h) h
theorem bits_source_bit_cnP {v0 : Value} {W : World} {α β : Type} {A : List HP} {r : α → Value} {B : α → List HP} {pc : β → List PanicEntry} {Bp : β → List HP} (h : ∀ F, Ent W (A ++ F) (bits_source_bit v0 (fun ch w => ∃ y, ch = pc y ∧ sat W (Bp y ++ F) w) fun v w => ∃ x, v = r x ∧ sat W (B x ++ F) w)) : CnP Try.prog 56 [v0] W A r B pc Bp :=
  CnP.of (shape := bits_source_bit v0) Try.call56 (fun h => bits_source_bit_calls h) h

/-- bits_masks -/
def bits_masks (Kp : PK) (K : Value → WP) : WP :=
  opN Try.prog (sAlloc 108) Kp fun x0 =>
  opN Try.prog (sBuild 108 [(0, (.int .u8 1)), (1, (.int .u8 2)), (2, (.int .u8 4)), (3, (.int .u8 8)), (4, (.int .u8 16)), (5, (.int .u8 32)), (6, (.int .u8 64)), (7, (.int .u8 128))]) Kp fun x1 =>
  opN Try.prog (sStore 108 x0 x1) Kp fun _ =>
  (stS Try.prog (sRes 108 x0) fun r0 => K r0)
def bits_masks_an : Ann := { cuts := [], blks := [], loops := [], drs := [] }
theorem bits_masks_eq (Kp : PK) (K : Value → WP) : cevF Try.prog bits_masks_an Try.f57 [] Kp K = bits_masks Kp K := by kernel_rfl
theorem bits_masks_calls  {Kp : PK} {K : Value → WP} {w : World} (h : bits_masks Kp K w) : Calls Try.prog 57 #[] w (after Kp K) :=
  calls_of_shape (calls_of_cev wide Try.func57 (an := bits_masks_an) (args := []) (cast (congrFun (bits_masks_eq Kp K) w).symm h))
theorem bits_masks_cn  {W : World} {α : Type} {A : List HP} {r : α → Value} {B : α → List HP} (h : ∀ F, Ent W (A ++ F) (bits_masks noP fun v w => ∃ x, v = r x ∧ sat W (B x ++ F) w)) : Cn Try.prog 57 [] W A r B :=
  Cn.of (shape := bits_masks) Try.call57 (fun h => bits_masks_calls h) h
theorem bits_masks_cnP  {W : World} {α β : Type} {A : List HP} {r : α → Value} {B : α → List HP} {pc : β → List PanicEntry} {Bp : β → List HP} (h : ∀ F, Ent W (A ++ F) (bits_masks (fun ch w => ∃ y, ch = pc y ∧ sat W (Bp y ++ F) w) fun v w => ∃ x, v = r x ∧ sat W (B x ++ F) w)) : CnP Try.prog 57 [] W A r B pc Bp :=
  CnP.of (shape := bits_masks) Try.call57 (fun h => bits_masks_calls h) h

/-- slices_DeleteFunc_int_int -/
def slices_DeleteFunc_int_int (v0 v1 : Value) (Kp : PK) (K : Value → WP) : WP :=
  opN Try.prog (sCall (fn 61) [v0, v1]) Kp fun x10 =>
  opN Try.prog (sEq .eql 3 (.tmp 11) (.const (.int .i64 (-1))) x10 (.int .i64 (-1))) Kp fun x12 =>
  condS x12
  (K v0)
  (opN Try.prog (sBin .add 3 x10 (.int .i64 1)) Kp fun x15 =>
   loop2 (fun I1 m1 _ y5 y6 =>
    opN Try.prog (sLen #[85] 3 [v0]) Kp fun x18 =>
    opN Try.prog (sBin .lss 3 y6 x18) Kp fun x19 =>
    condS x19
    (opN Try.prog (sIA 85 v0 y6) Kp fun x24 =>
     opN Try.prog (sLoad 3 x24) Kp fun x25 =>
     opN Try.prog (sCall v1 [x25]) Kp fun x28 =>
     opN Try.prog (sUn .not x28) Kp fun x29 =>
     condS x29
     (opN Try.prog (sIA 85 v0 y5) Kp fun x33 =>
      opN Try.prog (sStore 3 x33 x25) Kp fun _ =>
      opN Try.prog (sBin .add 3 y5 (.int .i64 1)) Kp fun x35 =>
      opN Try.prog (sBin .add 3 y6 (.int .i64 1)) Kp fun x21 =>
      next2 I1 m1 x35 x21)
     (opN Try.prog (sBin .add 3 y6 (.int .i64 1)) Kp fun x21 =>
      next2 I1 m1 y5 x21))
    (opN Try.prog (sSl 85 v0 (some y5) none none) Kp fun x38 =>
     opN Try.prog (sClear #[85] 0 [x38]) Kp fun _ =>
     opN Try.prog (sSl 85 v0 none (some y5) none) Kp fun x41 =>
     K x41)) x10 x15)
def slices_DeleteFunc_int_int_an : Ann := { cuts := [], blks := [], loops := [(5, [5, 6])], drs := [] }
theorem slices_DeleteFunc_int_int_eq (v0 v1 : Value) (Kp : PK) (K : Value → WP) : cevF Try.prog slices_DeleteFunc_int_int_an Try.f58 [v0, v1] Kp K = slices_DeleteFunc_int_int v0 v1 Kp K := by kernel_rfl
theorem slices_DeleteFunc_int_int_calls {v0 v1 : Value} {Kp : PK} {K : Value → WP} {w : World} (h : slices_DeleteFunc_int_int v0 v1 Kp K w) : Calls Try.prog 58 #[v0, v1] w (after Kp K) :=
  calls_of_shape (calls_of_cev wide Try.func58 (an := slices_DeleteFunc_int_int_an) (args := [v0, v1]) (cast (congrFun (slices_DeleteFunc_int_int_eq v0 v1 Kp K) w).symm h))
theorem slices_DeleteFunc_int_int_cn {v0 v1 : Value} {W : World} {α : Type} {A : List HP} {r : α → Value} {B : α → List HP} (h : ∀ F, Ent W (A ++ F) (slices_DeleteFunc_int_int v0 v1 noP fun v w => ∃ x, v = r x ∧ sat W (B x ++ F) w)) : Cn Try.prog 58 [v0, v1] W A r B :=
  Cn.of (shape := slices_DeleteFunc_int_int v0 v1) Try.call58 (fun h => slices_DeleteFunc_int_int_calls h) h
theorem slices_DeleteFunc_int_int_cnP {v0 v1 : Value} {W : World} {α β : Type} {A : List HP} {r : α → Value} {B : α → List HP} {pc : β → List PanicEntry} {Bp : β → List HP} (h : ∀ F, Ent W (A ++ F) (slices_DeleteFunc_int_int v0 v1 (fun ch w => ∃ y, ch = pc y ∧ sat W (Bp y ++ F) w) fun v w => ∃ x, v = r x ∧ sat W (B x ++ F) w)) : CnP Try.prog 58 [v0, v1] W A r B pc Bp :=
  CnP.of (shape := slices_DeleteFunc_int_int v0 v1) Try.call58 (fun h => slices_DeleteFunc_int_int_calls h) h

/-- pool_Pool_Gone_1 -/
def pool_Pool_Gone_1 (v0 v1 : Value) (Kp : PK) (K : Value → WP) : WP :=
  opN Try.prog (sLoad 3 v1) Kp fun x5 =>
  opN Try.prog (sEq .eql 3 (.tmp 4) (.tmp 5) v0 x5) Kp fun x6 =>
  K x6
def pool_Pool_Gone_1_an : Ann := { cuts := [], blks := [], loops := [], drs := [] }
theorem pool_Pool_Gone_1_eq (v0 v1 : Value) (Kp : PK) (K : Value → WP) : cevF Try.prog pool_Pool_Gone_1_an Try.f59 [v0, v1] Kp K = pool_Pool_Gone_1 v0 v1 Kp K := by kernel_rfl
theorem pool_Pool_Gone_1_calls {v0 v1 : Value} {Kp : PK} {K : Value → WP} {w : World} (h : pool_Pool_Gone_1 v0 v1 Kp K w) : Calls Try.prog 59 #[v0, v1] w (after Kp K) :=
  calls_of_shape (calls_of_cev wide Try.func59 (an := pool_Pool_Gone_1_an) (args := [v0, v1]) (cast (congrFun (pool_Pool_Gone_1_eq v0 v1 Kp K) w).symm h))
theorem pool_Pool_Gone_1_cn {v0 v1 : Value} {W : World} {α : Type} {A : List HP} {r : α → Value} {B : α → List HP} (h : ∀ F, Ent W (A ++ F) (pool_Pool_Gone_1 v0 v1 noP fun v w => ∃ x, v = r x ∧ sat W (B x ++ F) w)) : Cn Try.prog 59 [v0, v1] W A r B :=
  Cn.of (shape := pool_Pool_Gone_1 v0 v1) Try.call59 (fun h => pool_Pool_Gone_1_calls h) h
theorem pool_Pool_Gone_1_cnP {v0 v1 : Value} {W : World} {α β : Type} {A : List HP} {r : α → Value} {B : α → List HP} {pc : β → List PanicEntry} {Bp : β → List HP} (h : ∀ F, Ent W (A ++ F) (pool_Pool_Gone_1 v0 v1 (fun ch w => ∃ y, ch = pc y ∧ sat W (Bp y ++ F) w) fun v w => ∃ x, v = r x ∧ sat W (B x ++ F) w)) : CnP Try.prog 59 [v0, v1] W A r B pc Bp :=
  CnP.of (shape := pool_Pool_Gone_1 v0 v1) Try.call59 (fun h => pool_Pool_Gone_1_calls h) h

/-- pool_Pool_round_1 -/
def pool_Pool_round_1 (v0 v1 : Value) (Kp : PK) (K : Value → WP) : WP :=
  opN Try.prog (sLoad 29 v1) Kp fun x5 =>
  opN Try.prog (sNil x5) Kp fun x6 =>
  opN Try.prog (sFA 95 x6 0) Kp fun x7 =>
  opN Try.prog (sLoad 92 x7) Kp fun x8 =>
  opN Try.prog (sLen #[92] 3 [x8]) Kp fun x9 =>
  loop1 (fun I1 m1 _ y10 =>
   opN Try.prog (sBin .lss 3 y10 x9) Kp fun x11 =>
   condS x11
   (drS (stS Try.prog (sLoad 29 v1) fun x13 =>
     stS Try.prog (sNil x13) fun x14 =>
     stS Try.prog (sFA 95 x14 3) fun x15 =>
     stS Try.prog (sLoad 3 x15) fun x16 =>
     stS Try.prog (sBin .add 3 x16 y10) fun x18 =>
     stS Try.prog (sLoad 29 v1) fun x19 =>
     stS Try.prog (sNil x19) fun x20 =>
     stS Try.prog (sFA 95 x20 0) fun x21 =>
     stS Try.prog (sLoad 92 x21) fun x22 =>
     stS Try.prog (sLen #[92] 3 [x22]) fun x23 =>
     stS Try.prog (sBin .rem 3 x18 x23) fun x24 =>
     opN Try.prog (sLoad 29 v1) Kp fun x27 =>
     opN Try.prog (sNil x27) Kp fun x28 =>
     opN Try.prog (sFA 95 x28 0) Kp fun x29 =>
     opN Try.prog (sLoad 92 x29) Kp fun x30 =>
     opN Try.prog (sIA 92 x30 x24) Kp fun x32 =>
     opN Try.prog (sLoad 97 x32) Kp fun x33 =>
     opN Try.prog (sCall v0 [x24, x33]) Kp fun x34 =>
     opN Try.prog (sUn .not x34) Kp fun x35 =>
     condS x35
     (K (.tuple #[]))
     (opN Try.prog (sBin .add 3 y10 (.int .i64 1)) Kp fun x36 =>
      next1 I1 m1 x36)))
   (K (.tuple #[]))) (.int .i64 0)
def pool_Pool_round_1_an : Ann := { cuts := [], blks := [], loops := [(1, [10])], drs := [(3, [(0, 1), (1, 1), (2, 1), (3, 1), (4, 1), (5, 1), (6, 1), (7, 1), (8, 1), (9, 1), (10, 1), (11, 1), (12, 1)])] }
theorem pool_Pool_round_1_eq (v0 v1 : Value) (Kp : PK) (K : Value → WP) : cevF Try.prog pool_Pool_round_1_an Try.f60 [v0, v1] Kp K = pool_Pool_round_1 v0 v1 Kp K := by kernel_rfl
theorem pool_Pool_round_1_calls {v0 v1 : Value} {Kp : PK} {K : Value → WP} {w : World} (h : pool_Pool_round_1 v0 v1 Kp K w) : Calls Try.prog 60 #[v0, v1] w (after Kp K) :=
  calls_of_shape (calls_of_cev wide Try.func60 (an := pool_Pool_round_1_an) (args := [v0, v1]) (cast (congrFun (pool_Pool_round_1_eq v0 v1 Kp K) w).symm h))
theorem pool_Pool_round_1_cn {v0 v1 : Value} {W : World} {α : Type} {A : List HP} {r : α → Value} {B : α → List HP} (h : ∀ F, Ent W (A ++ F) (pool_Pool_round_1 v0 v1 noP fun v w => ∃ x, v = r x ∧ sat W (B x ++ F) w)) : Cn Try.prog 60 [v0, v1] W A r B :=
  Cn.of (shape := pool_Pool_round_1 v0 v1) Try.call60 (fun h => pool_Pool_round_1_calls h) h
theorem pool_Pool_round_1_cnP {v0 v1 : Value} {W : World} {α β : Type} {A : List HP} {r : α → Value} {B : α → List HP} {pc : β → List PanicEntry} {Bp : β → List HP} (h : ∀ F, Ent W (A ++ F) (pool_Pool_round_1 v0 v1 (fun ch w => ∃ y, ch = pc y ∧ sat W (Bp y ++ F) w) fun v w => ∃ x, v = r x ∧ sat W (B x ++ F) w)) : CnP Try.prog 60 [v0, v1] W A r B pc Bp :=
  CnP.of (shape := pool_Pool_round_1 v0 v1) Try.call60 (fun h => pool_Pool_round_1_calls h) h

/-- slices_IndexFunc_int_int -/
def slices_IndexFunc_int_int (v0 v1 : Value) (Kp : PK) (K : Value → WP) : WP :=
  opN Try.prog (sLen #[85] 3 [v0]) Kp fun x7 =>
  loop1 (fun I1 m1 _ y8 =>
   opN Try.prog (sBin .lss 3 y8 x7) Kp fun x9 =>
   condS x9
   (opN Try.prog (sIA 85 v0 y8) Kp fun x14 =>
    opN Try.prog (sLoad 3 x14) Kp fun x15 =>
    opN Try.prog (sCall v1 [x15]) Kp fun x16 =>
    condS x16
    (K y8)
    (opN Try.prog (sBin .add 3 y8 (.int .i64 1)) Kp fun x18 =>
     next1 I1 m1 x18))
   (K (.int .i64 (-1)))) (.int .i64 0)
def slices_IndexFunc_int_int_an : Ann := { cuts := [], blks := [], loops := [(2, [8])], drs := [] }
theorem slices_IndexFunc_int_int_eq (v0 v1 : Value) (Kp : PK) (K : Value → WP) : cevF Try.prog slices_IndexFunc_int_int_an Try.f61 [v0, v1] Kp K = slices_IndexFunc_int_int v0 v1 Kp K := by kernel_rfl
theorem slices_IndexFunc_int_int_calls {v0 v1 : Value} {Kp : PK} {K : Value → WP} {w : World} (h : slices_IndexFunc_int_int v0 v1 Kp K w) : Calls Try.prog 61 #[v0, v1] w (after Kp K) :=
  calls_of_shape (calls_of_cev wide Try.func61 (an := slices_IndexFunc_int_int_an) (args := [v0, v1]) (cast (congrFun (slices_IndexFunc_int_int_eq v0 v1 Kp K) w).symm h))
theorem slices_IndexFunc_int_int_cn {v0 v1 : Value} {W : World} {α : Type} {A : List HP} {r : α → Value} {B : α → List HP} (h : ∀ F, Ent W (A ++ F) (slices_IndexFunc_int_int v0 v1 noP fun v w => ∃ x, v = r x ∧ sat W (B x ++ F) w)) : Cn Try.prog 61 [v0, v1] W A r B :=
  Cn.of (shape := slices_IndexFunc_int_int v0 v1) Try.call61 (fun h => slices_IndexFunc_int_int_calls h) h
theorem slices_IndexFunc_int_int_cnP {v0 v1 : Value} {W : World} {α β : Type} {A : List HP} {r : α → Value} {B : α → List HP} {pc : β → List PanicEntry} {Bp : β → List HP} (h : ∀ F, Ent W (A ++ F) (slices_IndexFunc_int_int v0 v1 (fun ch w => ∃ y, ch = pc y ∧ sat W (Bp y ++ F) w) fun v w => ∃ x, v = r x ∧ sat W (B x ++ F) w)) : CnP Try.prog 61 [v0, v1] W A r B pc Bp :=
  CnP.of (shape := slices_IndexFunc_int_int v0 v1) Try.call61 (fun h => slices_IndexFunc_int_int_calls h) h

end Go.Proofs.Ytpmcokpiplcnjaa.S
