/- The shapes of functions of the loaded program, printed by a program of mine; each is proved to be what the model asks of the function. No conditions. (1 texts made one; each says below what it is.) -/
import Derived.Test.YthoeeahdkdcceaaGreatChecked
import Derived.Test.YthoeeahdkdcceaaGreatK1
import Derived.KernelRfl
set_option linter.unusedVariables false
set_option linter.unusedSimpArgs false
set_option linter.unusedSectionVars false
namespace Go.Proofs.YthoeeahdkdcceaaGreat.S
open Go Sh Sl
theorem wide : p_.follows .mixedOrders = true := by kernel_rfl
def law07_GzipPacks (v0 v1 v2 v3 : Value) (Kp : PK) (K : Value -> WP) : WP :=
 opN p_ (sCall (fn 9) [v0]) Kp fun x15 =>
 opN p_ (sCall (fn 10) [x15, v1, v2]) Kp fun x20 =>
 opN p_ (sExt x20 0) Kp fun x21 =>
 opN p_ (sExt x20 1) Kp fun x22 =>
 opN p_ (sCall (fn 11) [v0, v1, v2]) Kp fun x27 =>
 opN p_ (sExt x27 0) Kp fun x28 =>
 opN p_ (sExt x27 1) Kp fun x29 =>
 opN p_ (sConv 22 9 x21) Kp fun x31 =>
 opN p_ (sConv 22 9 x28) Kp fun x33 =>
 opN p_ (sEq .eql 9 (.tmp 31) (.tmp 33) x31 x33) Kp fun x34 =>
 gdK x34 true (fun k => k x22) fun x36 =>
 gdK x34 true (opN p_ (sCall (fn 12) [x36]) Kp) fun x37 =>
 gdK x34 true (fun k => k x29) fun x38 =>
 gdK x34 true (opN p_ (sEq .eql 3 (.tmp 37) (.tmp 38) x37 x38) Kp) fun x39 =>
 opN p_ (sPick x34 x39 (.bool false)) Kp fun x40 =>
 gdK x40 true (fun k => k x15) fun x42 =>
 gdK x40 true (opN p_ (sCall (fn 13) [x42]) Kp) fun x43 =>
 gdK x40 true (fun k => k v0) fun x44 =>
 gdK x40 true (opN p_ (sCall (fn 14) [x44]) Kp) fun x45 =>
 gdK x40 true (opN p_ (sEq .eql 23 (.tmp 43) (.tmp 45) x43 x45) Kp) fun x46 =>
 opN p_ (sPick x40 x46 (.bool false)) Kp fun x47 =>
 gdK x47 true (fun k => k v3) fun x49 =>
 gdK x47 true (fun k => k x15) fun x50 =>
 gdK x47 true (opN p_ (sCall (fn 15) [x49, x50]) Kp) fun x51 =>
 gdK x47 true (fun k => k v3) fun x52 =>
 gdK x47 true (fun k => k v0) fun x53 =>
 gdK x47 true (opN p_ (sCall (fn 16) [x52, x53]) Kp) fun x54 =>
 gdK x47 true (opN p_ (sEq .eql 23 (.tmp 51) (.tmp 54) x51 x54) Kp) fun x55 =>
 opN p_ (sPick x47 x55 (.bool false)) Kp fun x56 =>
 gdK x56 true (fun k => k x15) fun x58 =>
 gdK x56 true (fun k => k v0) fun x59 =>
 gdK x56 true (opN p_ (sCall (fn 17) [x58, x59]) Kp) fun x60 =>
 opN p_ (sPick x56 x60 (.bool false)) Kp fun x61 =>
 gdK x61 true (opN p_ (sCall (fn 18) []) Kp) fun x63 =>
 opN p_ (sPick x61 x63 (.bool false)) Kp fun x64 =>
 K x64
def law07_GzipPacks_an : Ann := { cuts := [], blks := [], loops := [], drs := [] }
theorem law07_GzipPacks_eq (v0 v1 v2 v3 : Value) (Kp : PK) (K : Value -> WP) : cevF p_ law07_GzipPacks_an Tryz.f3 [v0, v1, v2, v3] Kp K = law07_GzipPacks v0 v1 v2 v3 Kp K := by kernel_rfl
theorem law07_GzipPacks_calls {v0 v1 v2 v3 : Value} {Kp : PK} {K : Value -> WP} {w : World} (h : law07_GzipPacks v0 v1 v2 v3 Kp K w) : Calls p_ 3 #[v0, v1, v2, v3] w (after Kp K) :=
 calls_of_shape (calls_of_cev wide Tryz.func3 (an := law07_GzipPacks_an) (args := [v0, v1, v2, v3]) (cast (congrFun (law07_GzipPacks_eq v0 v1 v2 v3 Kp K) w).symm h))
theorem law07_GzipPacks_cn {v0 v1 v2 v3 : Value} {W : World} {α : Type} {A : List HP} {r : α -> Value} {B : α -> List HP} (h : ∀ F, Ent W (A ++ F) (law07_GzipPacks v0 v1 v2 v3 noP fun v w => ∃ x, v = r x /\ sat W (B x ++ F) w)) : Cn p_ 3 [v0, v1, v2, v3] W A r B :=
 Cn.of (shape := law07_GzipPacks v0 v1 v2 v3) Tryz.call3 (fun h => law07_GzipPacks_calls h) h
def law01_Lent (v0 : Value) (Kp : PK) (K : Value -> WP) : WP :=
 opN p_ (sBuildSl 22 0 []) Kp fun x4 =>
 opN p_ (sApp #[22, 22] 22 [x4, v0]) Kp fun x6 =>
 opN p_ (sBuildSl 22 2 [(0, (.int .u8 201)), (1, (.int .u8 202))]) Kp fun x8 =>
 opN p_ (sApp #[22, 22] 22 [x6, x8]) Kp fun x9 =>
 opN p_ (sLen #[22] 3 [v0]) Kp fun x12 =>
 opN p_ (sSl 22 x9 none (some x12) none) Kp fun x13 =>
 K x13
def law01_Lent_an : Ann := { cuts := [], blks := [], loops := [], drs := [] }
theorem law01_Lent_eq (v0 : Value) (Kp : PK) (K : Value -> WP) : cevF p_ law01_Lent_an Tryz.f9 [v0] Kp K = law01_Lent v0 Kp K := by kernel_rfl
theorem law01_Lent_calls {v0 : Value} {Kp : PK} {K : Value -> WP} {w : World} (h : law01_Lent v0 Kp K w) : Calls p_ 9 #[v0] w (after Kp K) :=
 calls_of_shape (calls_of_cev wide Tryz.func9 (an := law01_Lent_an) (args := [v0]) (cast (congrFun (law01_Lent_eq v0 Kp K) w).symm h))
theorem law01_Lent_cn {v0 : Value} {W : World} {α : Type} {A : List HP} {r : α -> Value} {B : α -> List HP} (h : ∀ F, Ent W (A ++ F) (law01_Lent v0 noP fun v w => ∃ x, v = r x /\ sat W (B x ++ F) w)) : Cn p_ 9 [v0] W A r B :=
 Cn.of (shape := law01_Lent v0) Tryz.call9 (fun h => law01_Lent_calls h) h
def gzip_Pack (v0 v1 v2 : Value) (Kp : PK) (K : Value → WP) : WP :=
  opN p_ (sBin .lss 3 v2 (.int .i64 0)) Kp fun x11 =>
  gdK x11 false (fun k => k v2) fun x13 =>
  gdK x11 false (opN p_ (sBin .gtr 3 x13 (.int .i64 4294967295)) Kp) fun x14 =>
  opN p_ (sPick x11 (.bool true) x14) Kp fun x15 =>
  condS x15
  (K (.tuple #[(.slice none 0 0), (.int .i64 1)]))
  (opN p_ (sCall (fn 39) [v0, v1]) Kp fun x19 =>
   opN p_ (sExt x19 0) Kp fun x20 =>
   opN p_ (sExt x19 1) Kp fun x21 =>
   opN p_ (sEq .neq 25 (.tmp 22) (.const (.int .i64 0)) x21 (.int .i64 0)) Kp fun x23 =>
   condS x23
   (K (.tuple #[(.slice none 0 0), x21]))
   (opN p_ (sCall (fn 41) [v2]) Kp fun x26 =>
    opN p_ (sApp #[22, 22] 22 [x26, x20]) Kp fun x28 =>
    opN p_ (sCall (fn 13) [v0]) Kp fun x30 =>
    opN p_ (sCall (fn 40) [x28, x30]) Kp fun x31 =>
    opN p_ (sLen #[22] 3 [v0]) Kp fun x33 =>
    opN p_ (sConv 3 23 x33) Kp fun x34 =>
    opN p_ (sCall (fn 40) [x31, x34]) Kp fun x35 =>
    K (.tuple #[x35, (.int .i64 0)])))
def gzip_Pack_an : Ann := { cuts := [], blks := [], loops := [], drs := [] }
theorem gzip_Pack_eq (v0 v1 v2 : Value) (Kp : PK) (K : Value -> WP) : cevF p_ gzip_Pack_an Tryz.f10 [v0, v1, v2] Kp K = gzip_Pack v0 v1 v2 Kp K := by kernel_rfl
theorem gzip_Pack_calls {v0 v1 v2 : Value} {Kp : PK} {K : Value -> WP} {w : World} (h : gzip_Pack v0 v1 v2 Kp K w) : Calls p_ 10 #[v0, v1, v2] w (after Kp K) :=
 calls_of_shape (calls_of_cev wide Tryz.func10 (an := gzip_Pack_an) (args := [v0, v1, v2]) (cast (congrFun (gzip_Pack_eq v0 v1 v2 Kp K) w).symm h))
theorem gzip_Pack_cn {v0 v1 v2 : Value} {W : World} {α : Type} {A : List HP} {r : α -> Value} {B : α -> List HP} (h : ∀ F, Ent W (A ++ F) (gzip_Pack v0 v1 v2 noP fun v w => ∃ x, v = r x /\ sat W (B x ++ F) w)) : Cn p_ 10 [v0, v1, v2] W A r B :=
 Cn.of (shape := gzip_Pack v0 v1 v2) Tryz.call10 (fun h => gzip_Pack_calls h) h
def ref07_Pack (v0 v1 v2 : Value) (Kp : PK) (K : Value → WP) : WP :=
  opN p_ (sBin .lss 3 v2 (.int .i64 0)) Kp fun x11 =>
  gdK x11 false (fun k => k v2) fun x13 =>
  gdK x11 false (opN p_ (sBin .geq 3 x13 (.int .i64 4294967296)) Kp) fun x14 =>
  opN p_ (sPick x11 (.bool true) x14) Kp fun x15 =>
  condS x15
  (K (.tuple #[(.slice none 0 0), (.int .i64 1)]))
  (opN p_ (sCall (fn 42) [v0, v1]) Kp fun x19 =>
   opN p_ (sExt x19 0) Kp fun x20 =>
   opN p_ (sExt x19 1) Kp fun x21 =>
   opN p_ (sEq .neq 3 (.tmp 22) (.const (.int .i64 0)) x21 (.int .i64 0)) Kp fun x23 =>
   condS x23
   (K (.tuple #[(.slice none 0 0), x21]))
   (opN p_ (sCall (fn 43) [v2]) Kp fun x26 =>
    opN p_ (sApp #[22, 22] 22 [x26, x20]) Kp fun x28 =>
    opN p_ (sCall (fn 44) [v0]) Kp fun x30 =>
    opN p_ (sApp #[22, 22] 22 [x28, x30]) Kp fun x31 =>
    K (.tuple #[x31, (.int .i64 0)])))
def ref07_Pack_an : Ann := { cuts := [], blks := [], loops := [], drs := [] }
theorem ref07_Pack_eq (v0 v1 v2 : Value) (Kp : PK) (K : Value -> WP) : cevF p_ ref07_Pack_an Tryz.f11 [v0, v1, v2] Kp K = ref07_Pack v0 v1 v2 Kp K := by kernel_rfl
theorem ref07_Pack_calls {v0 v1 v2 : Value} {Kp : PK} {K : Value -> WP} {w : World} (h : ref07_Pack v0 v1 v2 Kp K w) : Calls p_ 11 #[v0, v1, v2] w (after Kp K) :=
 calls_of_shape (calls_of_cev wide Tryz.func11 (an := ref07_Pack_an) (args := [v0, v1, v2]) (cast (congrFun (ref07_Pack_eq v0 v1 v2 Kp K) w).symm h))
theorem ref07_Pack_cn {v0 v1 v2 : Value} {W : World} {α : Type} {A : List HP} {r : α -> Value} {B : α -> List HP} (h : ∀ F, Ent W (A ++ F) (ref07_Pack v0 v1 v2 noP fun v w => ∃ x, v = r x /\ sat W (B x ++ F) w)) : Cn p_ 11 [v0, v1, v2] W A r B :=
 Cn.of (shape := ref07_Pack v0 v1 v2) Tryz.call11 (fun h => ref07_Pack_calls h) h
def law07_num (v0 : Value) (Kp : PK) (K : Value -> WP) : WP :=
 K v0
def law07_num_an : Ann := { cuts := [], blks := [], loops := [], drs := [] }
theorem law07_num_eq (v0 : Value) (Kp : PK) (K : Value -> WP) : cevF p_ law07_num_an Tryz.f12 [v0] Kp K = law07_num v0 Kp K := by kernel_rfl
theorem law07_num_calls {v0 : Value} {Kp : PK} {K : Value -> WP} {w : World} (h : law07_num v0 Kp K w) : Calls p_ 12 #[v0] w (after Kp K) :=
 calls_of_shape (calls_of_cev wide Tryz.func12 (an := law07_num_an) (args := [v0]) (cast (congrFun (law07_num_eq v0 Kp K) w).symm h))
theorem law07_num_cn {v0 : Value} {W : World} {α : Type} {A : List HP} {r : α -> Value} {B : α -> List HP} (h : ∀ F, Ent W (A ++ F) (law07_num v0 noP fun v w => ∃ x, v = r x /\ sat W (B x ++ F) w)) : Cn p_ 12 [v0] W A r B :=
 Cn.of (shape := law07_num v0) Tryz.call12 (fun h => law07_num_calls h) h
def gzip_Crc (v0 : Value) (Kp : PK) (K : Value -> WP) : WP :=
 opN p_ (sCall (fn 15) [(.int .u32 0), v0]) Kp fun x4 =>
 K x4
def gzip_Crc_an : Ann := { cuts := [], blks := [], loops := [], drs := [] }
theorem gzip_Crc_eq (v0 : Value) (Kp : PK) (K : Value -> WP) : cevF p_ gzip_Crc_an Tryz.f13 [v0] Kp K = gzip_Crc v0 Kp K := by kernel_rfl
theorem gzip_Crc_calls {v0 : Value} {Kp : PK} {K : Value -> WP} {w : World} (h : gzip_Crc v0 Kp K w) : Calls p_ 13 #[v0] w (after Kp K) :=
 calls_of_shape (calls_of_cev wide Tryz.func13 (an := gzip_Crc_an) (args := [v0]) (cast (congrFun (gzip_Crc_eq v0 Kp K) w).symm h))
theorem gzip_Crc_cn {v0 : Value} {W : World} {α : Type} {A : List HP} {r : α -> Value} {B : α -> List HP} (h : ∀ F, Ent W (A ++ F) (gzip_Crc v0 noP fun v w => ∃ x, v = r x /\ sat W (B x ++ F) w)) : Cn p_ 13 [v0] W A r B :=
 Cn.of (shape := gzip_Crc v0) Tryz.call13 (fun h => gzip_Crc_calls h) h
def ref07_Crc (v0 : Value) (Kp : PK) (K : Value -> WP) : WP :=
 opN p_ (sCall (fn 16) [(.int .u32 0), v0]) Kp fun x4 =>
 K x4
def ref07_Crc_an : Ann := { cuts := [], blks := [], loops := [], drs := [] }
theorem ref07_Crc_eq (v0 : Value) (Kp : PK) (K : Value -> WP) : cevF p_ ref07_Crc_an Tryz.f14 [v0] Kp K = ref07_Crc v0 Kp K := by kernel_rfl
theorem ref07_Crc_calls {v0 : Value} {Kp : PK} {K : Value -> WP} {w : World} (h : ref07_Crc v0 Kp K w) : Calls p_ 14 #[v0] w (after Kp K) :=
 calls_of_shape (calls_of_cev wide Tryz.func14 (an := ref07_Crc_an) (args := [v0]) (cast (congrFun (ref07_Crc_eq v0 Kp K) w).symm h))
theorem ref07_Crc_cn {v0 : Value} {W : World} {α : Type} {A : List HP} {r : α -> Value} {B : α -> List HP} (h : ∀ F, Ent W (A ++ F) (ref07_Crc v0 noP fun v w => ∃ x, v = r x /\ sat W (B x ++ F) w)) : Cn p_ 14 [v0] W A r B :=
 Cn.of (shape := ref07_Crc v0) Tryz.call14 (fun h => ref07_Crc_calls h) h
def gzip_Add (v0 v1 : Value) (Kp : PK) (K : Value → WP) : WP :=
  opN p_ (sCall (fn 45) []) Kp fun x9 =>
  opN p_ (sAlloc 65) Kp fun x5 =>
  opN p_ (sStore 65 x5 x9) Kp fun _ =>
  opN p_ (sUn .xor v0) Kp fun x11 =>
  opN p_ (sLen #[22] 3 [v1]) Kp fun x13 =>
  loop2 (fun I1 m1 _ y6 y14 =>
   opN p_ (sBin .lss 3 y14 x13) Kp fun x15 =>
   condS x15
   (opN p_ (sIA 22 v1 y14) Kp fun x16 =>
    opN p_ (sLoad 5 x16) Kp fun x17 =>
    opN p_ (sConv 23 5 y6) Kp fun x19 =>
    opN p_ (sBin .xor 5 x19 x17) Kp fun x21 =>
    opN p_ (sIA 65 x5 x21) Kp fun x22 =>
    opN p_ (sLoad 23 x22) Kp fun x23 =>
    opN p_ (sBin .shr 23 y6 (.int .u64 8)) Kp fun x25 =>
    opN p_ (sBin .xor 23 x23 x25) Kp fun x26 =>
    opN p_ (sBin .add 3 y14 (.int .i64 1)) Kp fun x27 =>
    next2 I1 m1 x26 x27)
   (opN p_ (sUn .xor y6) Kp fun x29 =>
    K x29)) x11 (.int .i64 0)
def gzip_Add_an : Ann := { cuts := [], blks := [], loops := [(4, [6, 14])], drs := [] }
theorem gzip_Add_eq (v0 v1 : Value) (Kp : PK) (K : Value -> WP) : cevF p_ gzip_Add_an Tryz.f15 [v0, v1] Kp K = gzip_Add v0 v1 Kp K := by kernel_rfl
theorem gzip_Add_calls {v0 v1 : Value} {Kp : PK} {K : Value -> WP} {w : World} (h : gzip_Add v0 v1 Kp K w) : Calls p_ 15 #[v0, v1] w (after Kp K) :=
 calls_of_shape (calls_of_cev wide Tryz.func15 (an := gzip_Add_an) (args := [v0, v1]) (cast (congrFun (gzip_Add_eq v0 v1 Kp K) w).symm h))
theorem gzip_Add_cn {v0 v1 : Value} {W : World} {α : Type} {A : List HP} {r : α -> Value} {B : α -> List HP} (h : ∀ F, Ent W (A ++ F) (gzip_Add v0 v1 noP fun v w => ∃ x, v = r x /\ sat W (B x ++ F) w)) : Cn p_ 15 [v0, v1] W A r B :=
 Cn.of (shape := gzip_Add v0 v1) Tryz.call15 (fun h => gzip_Add_calls h) h
def ref07_Add (v0 v1 : Value) (Kp : PK) (K : Value → WP) : WP :=
  opN p_ (sUn .xor v0) Kp fun x11 =>
  loop2 (fun I1 m1 _ y5 y6 =>
   opN p_ (sLen #[22] 3 [v1]) Kp fun x14 =>
   opN p_ (sBin .lss 3 y6 x14) Kp fun x15 =>
   condS x15
   (opN p_ (sIA 22 v1 y6) Kp fun x20 =>
    opN p_ (sLoad 5 x20) Kp fun x21 =>
    opN p_ (sConv 5 23 x21) Kp fun x22 =>
    loop3 (fun I2 m2 _ y5 y7 y8 =>
     opN p_ (sBin .lss 3 y8 (.int .i64 8)) Kp fun x24 =>
     condS x24
     (opN p_ (sBin .xor 23 y5 y7) Kp fun x29 =>
      opN p_ (sBin .and 23 x29 (.int .u32 1)) Kp fun x30 =>
      opN p_ (sEq .eql 23 (.tmp 30) (.const (.int .u32 1)) x30 (.int .u32 1)) Kp fun x31 =>
      opN p_ (sBin .shr 23 y5 (.int .u64 1)) Kp fun x33 =>
      opN p_ (sBin .shr 23 y7 (.int .u64 1)) Kp fun x35 =>
      condS x31
      (opN p_ (sBin .xor 23 x33 (.int .u32 3988292384)) Kp fun x38 =>
       opN p_ (sBin .add 3 y8 (.int .i64 1)) Kp fun x26 =>
       next3 I2 m2 x38 x35 x26)
      (opN p_ (sBin .add 3 y8 (.int .i64 1)) Kp fun x26 =>
       next3 I2 m2 x33 x35 x26))
     (opN p_ (sBin .add 3 y6 (.int .i64 1)) Kp fun x17 =>
      next2 I1 m1 y5 x17)) y5 x22 (.int .i64 0))
   (opN p_ (sUn .xor y5) Kp fun x40 =>
    K x40)) x11 (.int .i64 0)
def ref07_Add_an : Ann := { cuts := [], blks := [], loops := [(3, [5, 6]), (7, [5, 7, 8])], drs := [] }
theorem ref07_Add_eq (v0 v1 : Value) (Kp : PK) (K : Value -> WP) : cevF p_ ref07_Add_an Tryz.f16 [v0, v1] Kp K = ref07_Add v0 v1 Kp K := by kernel_rfl
theorem ref07_Add_calls {v0 v1 : Value} {Kp : PK} {K : Value -> WP} {w : World} (h : ref07_Add v0 v1 Kp K w) : Calls p_ 16 #[v0, v1] w (after Kp K) :=
 calls_of_shape (calls_of_cev wide Tryz.func16 (an := ref07_Add_an) (args := [v0, v1]) (cast (congrFun (ref07_Add_eq v0 v1 Kp K) w).symm h))
theorem ref07_Add_cn {v0 v1 : Value} {W : World} {α : Type} {A : List HP} {r : α -> Value} {B : α -> List HP} (h : ∀ F, Ent W (A ++ F) (ref07_Add v0 v1 noP fun v w => ∃ x, v = r x /\ sat W (B x ++ F) w)) : Cn p_ 16 [v0, v1] W A r B :=
 Cn.of (shape := ref07_Add v0 v1) Tryz.call16 (fun h => ref07_Add_calls h) h
def law01_Stays (v0 v1 : Value) (Kp : PK) (K : Value -> WP) : WP :=
  opN p_ (sLen #[22] 3 [v1]) Kp fun x8 =>
  opN p_ (sBin .add 3 x8 (.int .i64 2)) Kp fun x9 =>
  opN p_ (sSl 22 v0 none (some x9) none) Kp fun x10 =>
  drS (stS p_ (sLen #[22] 3 [v1]) fun x13 =>
   stS p_ (sSl 22 x10 none (some x13) none) fun x14 =>
   stS p_ (sConv 22 9 x14) fun x15 =>
   stS p_ (sConv 22 9 v1) fun x17 =>
   stS p_ (sEq .eql 9 (.tmp 15) (.tmp 17) x15 x17) fun x18 =>
   gdK x18 true (fun k => k x10) fun x20 =>
   gdK x18 true (fun k => k v1) fun x21 =>
   gdK x18 true (stS p_ (sLen #[22] 3 [x21])) fun x22 =>
   gdK x18 true (stS p_ (sIA 22 x20 x22)) fun x23 =>
   gdK x18 true (stS p_ (sLoad 5 x23)) fun x24 =>
   gdK x18 true (stS p_ (sEq .eql 5 (.tmp 24) (.const (.int .u8 201)) x24 (.int .u8 201))) fun x25 =>
   stS p_ (sPick x18 x25 (.bool false)) fun x26 =>
   gdK x26 true (fun k => k x10) fun x28 =>
   gdK x26 true (fun k => k v1) fun x29 =>
   gdK x26 true (stS p_ (sLen #[22] 3 [x29])) fun x30 =>
   gdK x26 true (stS p_ (sBin .add 3 x30 (.int .i64 1))) fun x31 =>
   gdK x26 true (stS p_ (sIA 22 x28 x31)) fun x32 =>
   gdK x26 true (stS p_ (sLoad 5 x32)) fun x33 =>
   gdK x26 true (stS p_ (sEq .eql 5 (.tmp 33) (.const (.int .u8 202)) x33 (.int .u8 202))) fun x34 =>
   stS p_ (sPick x26 x34 (.bool false)) fun x35 =>
   K x35)
def law01_Stays_an : Ann := { cuts := [], blks := [], loops := [], drs := [(2, .ofL [(0, 1), (1, 1), (2, 1), (3, 1), (4, 1), (5, 1), (6, 1), (7, 1), (8, 1), (9, 1), (10, 1), (11, 1), (12, 1), (13, 1), (14, 1), (15, 1), (16, 1), (17, 1), (18, 1), (19, 1), (20, 1), (21, 1), (22, 1), (23, 1), (24, 1), (25, 1)])] }
theorem law01_Stays_eq (v0 v1 : Value) (Kp : PK) (K : Value -> WP) : cevF p_ law01_Stays_an Tryz.f17 [v0, v1] Kp K = law01_Stays v0 v1 Kp K := by kernel_rfl
theorem law01_Stays_calls {v0 v1 : Value} {Kp : PK} {K : Value -> WP} {w : World} (h : law01_Stays v0 v1 Kp K w) : Calls p_ 17 #[v0, v1] w (after Kp K) :=
 calls_of_shape (calls_of_cev wide Tryz.func17 (an := law01_Stays_an) (args := [v0, v1]) (cast (congrFun (law01_Stays_eq v0 v1 Kp K) w).symm h))
theorem law01_Stays_cn {v0 v1 : Value} {W : World} {α : Type} {A : List HP} {r : α -> Value} {B : α -> List HP} (h : ∀ F, Ent W (A ++ F) (law01_Stays v0 v1 noP fun v w => ∃ x, v = r x /\ sat W (B x ++ F) w)) : Cn p_ 17 [v0, v1] W A r B :=
 Cn.of (shape := law01_Stays v0 v1) Tryz.call17 (fun h => law01_Stays_calls h) h
def law07_knows (Kp : PK) (K : Value -> WP) : WP :=
 opN p_ (sCall (fn 10) [(.slice none 0 0), (.int .i64 6), (.int .i64 0)]) Kp fun x4 =>
 opN p_ (sExt x4 0) Kp fun x5 =>
 opN p_ (sExt x4 1) Kp fun x6 =>
 opN p_ (sCall (fn 12) [x6]) Kp fun x8 =>
 opN p_ (sEq .eql 3 (.tmp 8) (.const (.int .i64 0)) x8 (.int .i64 0)) Kp fun x9 =>
 gdK x9 true (fun k => k x5) fun x11 =>
 gdK x9 true (opN p_ (sConv 22 9 x11) Kp) fun x12 =>
 gdK x9 true (opN p_ (sEq .eql 9 (.tmp 12) (.const (.string ⟨#[31, 139, 8, 0, 0, 0, 0, 0, 0, 255, 3, 0, 0, 0, 0, 0, 0, 0, 0, 0]⟩)) x12 (.string ⟨#[31, 139, 8, 0, 0, 0, 0, 0, 0, 255, 3, 0, 0, 0, 0, 0, 0, 0, 0, 0]⟩)) Kp) fun x13 =>
 opN p_ (sPick x9 x13 (.bool false)) Kp fun x14 =>
 gdK x14 true (opN p_ (sBuildSl 22 9 [(0, (.int .u8 49)), (1, (.int .u8 50)), (2, (.int .u8 51)), (3, (.int .u8 52)), (4, (.int .u8 53)), (5, (.int .u8 54)), (6, (.int .u8 55)), (7, (.int .u8 56)), (8, (.int .u8 57))]) Kp) fun x16 =>
 gdK x14 true (opN p_ (sConv 22 22 x16) Kp) fun x17 =>
 gdK x14 true (opN p_ (sCall (fn 13) [x17]) Kp) fun x18 =>
 gdK x14 true (opN p_ (sEq .eql 23 (.tmp 18) (.const (.int .u32 3421780262)) x18 (.int .u32 3421780262)) Kp) fun x19 =>
 opN p_ (sPick x14 x19 (.bool false)) Kp fun x20 =>
 K x20
def law07_knows_an : Ann := { cuts := [], blks := [], loops := [], drs := [] }
theorem law07_knows_eq (Kp : PK) (K : Value -> WP) : cevF p_ law07_knows_an Tryz.f18 [] Kp K = law07_knows Kp K := by kernel_rfl
theorem law07_knows_calls  {Kp : PK} {K : Value -> WP} {w : World} (h : law07_knows Kp K w) : Calls p_ 18 #[] w (after Kp K) :=
 calls_of_shape (calls_of_cev wide Tryz.func18 (an := law07_knows_an) (args := []) (cast (congrFun (law07_knows_eq Kp K) w).symm h))
theorem law07_knows_cn  {W : World} {α : Type} {A : List HP} {r : α -> Value} {B : α -> List HP} (h : ∀ F, Ent W (A ++ F) (law07_knows noP fun v w => ∃ x, v = r x /\ sat W (B x ++ F) w)) : Cn p_ 18 [] W A r B :=
 Cn.of (shape := law07_knows) Tryz.call18 (fun h => law07_knows_calls h) h
def deflate_Deflate (v0 v1 : Value) (Kp : PK) (K : Value → WP) : WP :=
  opN p_ (sCall (fn 46) [v1]) Kp fun x13 =>
  condS x13
  (K (.tuple #[(.slice none 0 0), (.int .i64 1)]))
  (opN p_ (sLen #[22] 3 [v0]) Kp fun x16 =>
   opN p_ (sBin .gtr 3 x16 (.int .i64 524288)) Kp fun x17 =>
   condS x17
   (K (.tuple #[(.slice none 0 0), (.int .i64 6)]))
   (opN p_ (sCall (fn 48) []) Kp fun x18 =>
    opN p_ (sCall (fn 49) [v0, v1]) Kp fun x21 =>
    opN p_ (sLen #[75] 3 [x21]) Kp fun x23 =>
    loop1 (fun I1 m1 _ y24 =>
     opN p_ (sBin .lss 3 y24 x23) Kp fun x25 =>
     condS x25
     (opN p_ (sIA 75 x21 y24) Kp fun x27 =>
      opN p_ (sLoad 79 x27) Kp fun x28 =>
      opN p_ (sAlloc 79) Kp fun x9 =>
      opN p_ (sStore 79 x9 x28) Kp fun _ =>
      cut1 (fun J1 =>
       opN p_ (sLen #[75] 3 [x21]) Kp fun x31 =>
       opN p_ (sBin .sub 3 x31 (.int .i64 1)) Kp fun x32 =>
       opN p_ (sEq .eql 3 (.tmp 29) (.tmp 32) y24 x32) Kp fun x33 =>
       condS x33
       (J1 (.int .i64 1))
       (J1 (.int .i64 0))) fun _ z10 =>
      opN p_ (sLoad 79 x9) Kp fun x34 =>
      opN p_ (sCall (fn 50) [x34, x18, z10]) Kp fun x37 =>
      opN p_ (sBin .add 3 y24 (.int .i64 1)) Kp fun x38 =>
      next1 I1 m1 x38)
     (opN p_ (sCall (fn 53) [x18]) Kp fun x40 =>
      K (.tuple #[x40, (.int .i64 0)]))) (.int .i64 0)))
def deflate_Deflate_an : Ann := { cuts := [(13, [10])], blks := [], loops := [(8, [24])], drs := [] }
theorem deflate_Deflate_eq (v0 v1 : Value) (Kp : PK) (K : Value -> WP) : cevF p_ deflate_Deflate_an Tryz.f39 [v0, v1] Kp K = deflate_Deflate v0 v1 Kp K := by kernel_rfl
theorem deflate_Deflate_calls {v0 v1 : Value} {Kp : PK} {K : Value -> WP} {w : World} (h : deflate_Deflate v0 v1 Kp K w) : Calls p_ 39 #[v0, v1] w (after Kp K) :=
 calls_of_shape (calls_of_cev wide Tryz.func39 (an := deflate_Deflate_an) (args := [v0, v1]) (cast (congrFun (deflate_Deflate_eq v0 v1 Kp K) w).symm h))
theorem deflate_Deflate_cn {v0 v1 : Value} {W : World} {α : Type} {A : List HP} {r : α -> Value} {B : α -> List HP} (h : ∀ F, Ent W (A ++ F) (deflate_Deflate v0 v1 noP fun v w => ∃ x, v = r x /\ sat W (B x ++ F) w)) : Cn p_ 39 [v0, v1] W A r B :=
 Cn.of (shape := deflate_Deflate v0 v1) Tryz.call39 (fun h => deflate_Deflate_calls h) h
def gzip_four (v0 v1 : Value) (Kp : PK) (K : Value -> WP) : WP :=
 opN p_ (sConv 23 5 v1) Kp fun x7 =>
 opN p_ (sBin .shr 23 v1 (.int .u64 8)) Kp fun x9 =>
 opN p_ (sConv 23 5 x9) Kp fun x10 =>
 opN p_ (sBin .shr 23 v1 (.int .u64 16)) Kp fun x12 =>
 opN p_ (sConv 23 5 x12) Kp fun x13 =>
 opN p_ (sBin .shr 23 v1 (.int .u64 24)) Kp fun x15 =>
 opN p_ (sConv 23 5 x15) Kp fun x16 =>
 opN p_ (sBuildSl 22 4 [(0, x7), (1, x10), (2, x13), (3, x16)]) Kp fun x17 =>
 opN p_ (sApp #[22, 22] 22 [v0, x17]) Kp fun x18 =>
 K x18
def gzip_four_an : Ann := { cuts := [], blks := [], loops := [], drs := [] }
theorem gzip_four_eq (v0 v1 : Value) (Kp : PK) (K : Value -> WP) : cevF p_ gzip_four_an Tryz.f40 [v0, v1] Kp K = gzip_four v0 v1 Kp K := by kernel_rfl
theorem gzip_four_calls {v0 v1 : Value} {Kp : PK} {K : Value -> WP} {w : World} (h : gzip_four v0 v1 Kp K w) : Calls p_ 40 #[v0, v1] w (after Kp K) :=
 calls_of_shape (calls_of_cev wide Tryz.func40 (an := gzip_four_an) (args := [v0, v1]) (cast (congrFun (gzip_four_eq v0 v1 Kp K) w).symm h))
theorem gzip_four_cn {v0 v1 : Value} {W : World} {α : Type} {A : List HP} {r : α -> Value} {B : α -> List HP} (h : ∀ F, Ent W (A ++ F) (gzip_four v0 v1 noP fun v w => ∃ x, v = r x /\ sat W (B x ++ F) w)) : Cn p_ 40 [v0, v1] W A r B :=
 Cn.of (shape := gzip_four v0 v1) Tryz.call40 (fun h => gzip_four_calls h) h
def gzip_head (v0 : Value) (Kp : PK) (K : Value -> WP) : WP :=
 opN p_ (sBuildSl 22 4 [(0, (.int .u8 31)), (1, (.int .u8 139)), (2, (.int .u8 8)), (3, (.int .u8 0))]) Kp fun x3 =>
 opN p_ (sConv 3 23 v0) Kp fun x5 =>
 opN p_ (sCall (fn 40) [x3, x5]) Kp fun x6 =>
 opN p_ (sBuildSl 22 2 [(0, (.int .u8 0)), (1, (.int .u8 255))]) Kp fun x7 =>
 opN p_ (sApp #[22, 22] 22 [x6, x7]) Kp fun x8 =>
 K x8
def gzip_head_an : Ann := { cuts := [], blks := [], loops := [], drs := [] }
theorem gzip_head_eq (v0 : Value) (Kp : PK) (K : Value -> WP) : cevF p_ gzip_head_an Tryz.f41 [v0] Kp K = gzip_head v0 Kp K := by kernel_rfl
theorem gzip_head_calls {v0 : Value} {Kp : PK} {K : Value -> WP} {w : World} (h : gzip_head v0 Kp K w) : Calls p_ 41 #[v0] w (after Kp K) :=
 calls_of_shape (calls_of_cev wide Tryz.func41 (an := gzip_head_an) (args := [v0]) (cast (congrFun (gzip_head_eq v0 Kp K) w).symm h))
theorem gzip_head_cn {v0 : Value} {W : World} {α : Type} {A : List HP} {r : α -> Value} {B : α -> List HP} (h : ∀ F, Ent W (A ++ F) (gzip_head v0 noP fun v w => ∃ x, v = r x /\ sat W (B x ++ F) w)) : Cn p_ 41 [v0] W A r B :=
 Cn.of (shape := gzip_head v0) Tryz.call41 (fun h => gzip_head_calls h) h
def ref06_Deflate (v0 v1 : Value) (Kp : PK) (K : Value → WP) : WP :=
  opN p_ (sBin .lss 3 v1 (.int .i64 0)) Kp fun x11 =>
  gdK x11 false (fun k => k v1) fun x13 =>
  gdK x11 false (opN p_ (sBin .gtr 3 x13 (.int .i64 9)) Kp) fun x14 =>
  opN p_ (sPick x11 (.bool true) x14) Kp fun x15 =>
  condS x15
  (K (.tuple #[(.slice none 0 0), (.int .i64 1)]))
  (opN p_ (sLen #[22] 3 [v0]) Kp fun x17 =>
   opN p_ (sBin .gtr 3 x17 (.int .i64 524288)) Kp fun x18 =>
   condS x18
   (K (.tuple #[(.slice none 0 0), (.int .i64 6)]))
   (opN p_ (sBuild 86 []) Kp fun x19 =>
    opN p_ (sBox 86 x19) Kp fun x20 =>
    opN p_ (sCall (fn 54) [v0, v1]) Kp fun x23 =>
    loop1 (fun I1 m1 _ y8 =>
     opN p_ (sLen #[87] 3 [x23]) Kp fun x26 =>
     opN p_ (sBin .lss 3 y8 x26) Kp fun x27 =>
     condS x27
     (cut1 (fun J1 =>
       opN p_ (sLen #[87] 3 [x23]) Kp fun x32 =>
       opN p_ (sBin .sub 3 x32 (.int .i64 1)) Kp fun x33 =>
       opN p_ (sEq .eql 3 (.tmp 30) (.tmp 33) y8 x33) Kp fun x34 =>
       condS x34
       (J1 (.int .i64 1))
       (J1 (.int .i64 0))) fun _ z9 =>
      opN p_ (sIA 87 x23 y8) Kp fun x38 =>
      opN p_ (sLoad 92 x38) Kp fun x39 =>
      opN p_ (sCall (fn 55) [x20, x39, v1, z9]) Kp fun x42 =>
      opN p_ (sBin .add 3 y8 (.int .i64 1)) Kp fun x29 =>
      next1 I1 m1 x29)
     (opN p_ (sCall (fn 58) [x20]) Kp fun x44 =>
      K (.tuple #[x44, (.int .i64 0)]))) (.int .i64 0)))
def ref06_Deflate_an : Ann := { cuts := [(13, [9])], blks := [], loops := [(8, [8])], drs := [] }
theorem ref06_Deflate_eq (v0 v1 : Value) (Kp : PK) (K : Value -> WP) : cevF p_ ref06_Deflate_an Tryz.f42 [v0, v1] Kp K = ref06_Deflate v0 v1 Kp K := by kernel_rfl
theorem ref06_Deflate_calls {v0 v1 : Value} {Kp : PK} {K : Value -> WP} {w : World} (h : ref06_Deflate v0 v1 Kp K w) : Calls p_ 42 #[v0, v1] w (after Kp K) :=
 calls_of_shape (calls_of_cev wide Tryz.func42 (an := ref06_Deflate_an) (args := [v0, v1]) (cast (congrFun (ref06_Deflate_eq v0 v1 Kp K) w).symm h))
theorem ref06_Deflate_cn {v0 v1 : Value} {W : World} {α : Type} {A : List HP} {r : α -> Value} {B : α -> List HP} (h : ∀ F, Ent W (A ++ F) (ref06_Deflate v0 v1 noP fun v w => ∃ x, v = r x /\ sat W (B x ++ F) w)) : Cn p_ 42 [v0, v1] W A r B :=
 Cn.of (shape := ref06_Deflate v0 v1) Tryz.call42 (fun h => ref06_Deflate_calls h) h
def ref07_Head (v0 : Value) (Kp : PK) (K : Value -> WP) : WP :=
 opN p_ (sBuildSl 22 4 [(0, (.int .u8 31)), (1, (.int .u8 139)), (2, (.int .u8 8)), (3, (.int .u8 0))]) Kp fun x4 =>
 opN p_ (sConv 3 23 v0) Kp fun x6 =>
 opN p_ (sCall (fn 63) [x6]) Kp fun x7 =>
 opN p_ (sApp #[22, 22] 22 [x4, x7]) Kp fun x8 =>
 opN p_ (sBuildSl 22 2 [(0, (.int .u8 0)), (1, (.int .u8 255))]) Kp fun x10 =>
 opN p_ (sApp #[22, 22] 22 [x8, x10]) Kp fun x11 =>
 K x11
def ref07_Head_an : Ann := { cuts := [], blks := [], loops := [], drs := [] }
theorem ref07_Head_eq (v0 : Value) (Kp : PK) (K : Value -> WP) : cevF p_ ref07_Head_an Tryz.f43 [v0] Kp K = ref07_Head v0 Kp K := by kernel_rfl
theorem ref07_Head_calls {v0 : Value} {Kp : PK} {K : Value -> WP} {w : World} (h : ref07_Head v0 Kp K w) : Calls p_ 43 #[v0] w (after Kp K) :=
 calls_of_shape (calls_of_cev wide Tryz.func43 (an := ref07_Head_an) (args := [v0]) (cast (congrFun (ref07_Head_eq v0 Kp K) w).symm h))
theorem ref07_Head_cn {v0 : Value} {W : World} {α : Type} {A : List HP} {r : α -> Value} {B : α -> List HP} (h : ∀ F, Ent W (A ++ F) (ref07_Head v0 noP fun v w => ∃ x, v = r x /\ sat W (B x ++ F) w)) : Cn p_ 43 [v0] W A r B :=
 Cn.of (shape := ref07_Head v0) Tryz.call43 (fun h => ref07_Head_calls h) h
def ref07_Tail (v0 : Value) (Kp : PK) (K : Value -> WP) : WP :=
 opN p_ (sCall (fn 14) [v0]) Kp fun x4 =>
 opN p_ (sCall (fn 63) [x4]) Kp fun x5 =>
 opN p_ (sLen #[22] 3 [v0]) Kp fun x7 =>
 opN p_ (sConv 3 23 x7) Kp fun x8 =>
 opN p_ (sCall (fn 63) [x8]) Kp fun x9 =>
 opN p_ (sApp #[22, 22] 22 [x5, x9]) Kp fun x10 =>
 K x10
def ref07_Tail_an : Ann := { cuts := [], blks := [], loops := [], drs := [] }
theorem ref07_Tail_eq (v0 : Value) (Kp : PK) (K : Value -> WP) : cevF p_ ref07_Tail_an Tryz.f44 [v0] Kp K = ref07_Tail v0 Kp K := by kernel_rfl
theorem ref07_Tail_calls {v0 : Value} {Kp : PK} {K : Value -> WP} {w : World} (h : ref07_Tail v0 Kp K w) : Calls p_ 44 #[v0] w (after Kp K) :=
 calls_of_shape (calls_of_cev wide Tryz.func44 (an := ref07_Tail_an) (args := [v0]) (cast (congrFun (ref07_Tail_eq v0 Kp K) w).symm h))
theorem ref07_Tail_cn {v0 : Value} {W : World} {α : Type} {A : List HP} {r : α -> Value} {B : α -> List HP} (h : ∀ F, Ent W (A ++ F) (ref07_Tail v0 noP fun v w => ∃ x, v = r x /\ sat W (B x ++ F) w)) : Cn p_ 44 [v0] W A r B :=
 Cn.of (shape := ref07_Tail v0) Tryz.call44 (fun h => ref07_Tail_calls h) h
def gzip_table (Kp : PK) (K : Value → WP) : WP :=
  opN p_ (sAlloc 65) Kp fun x0 =>
  opN p_ (sAlloc 65) Kp fun x1 =>
  loop1 (fun I1 m1 _ y4 =>
   opN p_ (sBin .lss 3 y4 (.int .i64 256)) Kp fun x5 =>
   condS x5
   (opN p_ (sConv 3 23 y4) Kp fun x8 =>
    loop2 (fun I2 m2 _ y3 y9 =>
     opN p_ (sBin .lss 3 y9 (.int .i64 8)) Kp fun x10 =>
     condS x10
     (opN p_ (sBin .and 23 y3 (.int .u32 1)) Kp fun x12 =>
      opN p_ (sEq .eql 23 (.tmp 12) (.const (.int .u32 1)) x12 (.int .u32 1)) Kp fun x13 =>
      condS x13
      (opN p_ (sBin .shr 23 y3 (.int .u64 1)) Kp fun x15 =>
       opN p_ (sBin .xor 23 x15 (.int .u32 3988292384)) Kp fun x16 =>
       opN p_ (sBin .add 3 y9 (.int .i64 1)) Kp fun x19 =>
       next2 I2 m2 x16 x19)
      (opN p_ (sBin .shr 23 y3 (.int .u64 1)) Kp fun x18 =>
       opN p_ (sBin .add 3 y9 (.int .i64 1)) Kp fun x19 =>
       next2 I2 m2 x18 x19))
     (opN p_ (sIA 65 x1 y4) Kp fun x22 =>
      opN p_ (sStore 23 x22 y3) Kp fun _ =>
      opN p_ (sBin .add 3 y4 (.int .i64 1)) Kp fun x23 =>
      next1 I1 m1 x23)) x8 (.int .i64 0))
   (opN p_ (sLoad 65 x1) Kp fun x24 =>
    opN p_ (sStore 65 x0 x24) Kp fun _ =>
    (stS p_ (sRes 65 x0) fun r0 => K r0))) (.int .i64 0)
def gzip_table_an : Ann := { cuts := [], blks := [], loops := [(3, [4]), (7, [3, 9])], drs := [] }
theorem gzip_table_eq (Kp : PK) (K : Value -> WP) : cevF p_ gzip_table_an Tryz.f45 [] Kp K = gzip_table Kp K := by kernel_rfl
theorem gzip_table_calls  {Kp : PK} {K : Value -> WP} {w : World} (h : gzip_table Kp K w) : Calls p_ 45 #[] w (after Kp K) :=
 calls_of_shape (calls_of_cev wide Tryz.func45 (an := gzip_table_an) (args := []) (cast (congrFun (gzip_table_eq Kp K) w).symm h))
theorem gzip_table_cn  {W : World} {α : Type} {A : List HP} {r : α -> Value} {B : α -> List HP} (h : ∀ F, Ent W (A ++ F) (gzip_table noP fun v w => ∃ x, v = r x /\ sat W (B x ++ F) w)) : Cn p_ 45 [] W A r B :=
 Cn.of (shape := gzip_table) Tryz.call45 (fun h => gzip_table_calls h) h
def deflate_wrong (v0 : Value) (Kp : PK) (K : Value -> WP) : WP :=
 opN p_ (sBin .lss 3 v0 (.int .i64 0)) Kp fun x4 =>
 gdK x4 false (fun k => k v0) fun x6 =>
 gdK x4 false (opN p_ (sBin .gtr 3 x6 (.int .i64 9)) Kp) fun x7 =>
 opN p_ (sPick x4 (.bool true) x7) Kp fun x8 =>
 K x8
def deflate_wrong_an : Ann := { cuts := [], blks := [], loops := [], drs := [] }
theorem deflate_wrong_eq (v0 : Value) (Kp : PK) (K : Value -> WP) : cevF p_ deflate_wrong_an Tryz.f46 [v0] Kp K = deflate_wrong v0 Kp K := by kernel_rfl
theorem deflate_wrong_calls {v0 : Value} {Kp : PK} {K : Value -> WP} {w : World} (h : deflate_wrong v0 Kp K w) : Calls p_ 46 #[v0] w (after Kp K) :=
 calls_of_shape (calls_of_cev wide Tryz.func46 (an := deflate_wrong_an) (args := [v0]) (cast (congrFun (deflate_wrong_eq v0 Kp K) w).symm h))
theorem deflate_wrong_cn {v0 : Value} {W : World} {α : Type} {A : List HP} {r : α -> Value} {B : α -> List HP} (h : ∀ F, Ent W (A ++ F) (deflate_wrong v0 noP fun v w => ∃ x, v = r x /\ sat W (B x ++ F) w)) : Cn p_ 46 [v0] W A r B :=
 Cn.of (shape := deflate_wrong v0) Tryz.call46 (fun h => deflate_wrong_calls h) h
def bits_NewWriter (Kp : PK) (K : Value -> WP) : WP :=
 opN p_ (sBuild 104 [(2, (.bool true))]) Kp fun x1 =>
 opN p_ (sBox 104 x1) Kp fun x2 =>
 K x2
def bits_NewWriter_an : Ann := { cuts := [], blks := [], loops := [], drs := [] }
theorem bits_NewWriter_eq (Kp : PK) (K : Value -> WP) : cevF p_ bits_NewWriter_an Tryz.f48 [] Kp K = bits_NewWriter Kp K := by kernel_rfl
theorem bits_NewWriter_calls  {Kp : PK} {K : Value -> WP} {w : World} (h : bits_NewWriter Kp K w) : Calls p_ 48 #[] w (after Kp K) :=
 calls_of_shape (calls_of_cev wide Tryz.func48 (an := bits_NewWriter_an) (args := []) (cast (congrFun (bits_NewWriter_eq Kp K) w).symm h))
theorem bits_NewWriter_cn  {W : World} {α : Type} {A : List HP} {r : α -> Value} {B : α -> List HP} (h : ∀ F, Ent W (A ++ F) (bits_NewWriter noP fun v w => ∃ x, v = r x /\ sat W (B x ++ F) w)) : Cn p_ 48 [] W A r B :=
 Cn.of (shape := bits_NewWriter) Tryz.call48 (fun h => bits_NewWriter_calls h) h
def deflate_blocks (v0 v1 : Value) (Kp : PK) (K : Value → WP) : WP :=
  opN p_ (sBox 22 v0) Kp fun x2 =>
  opN p_ (sBox 3 v1) Kp fun x3 =>
  opN p_ (sAlloc 77) Kp fun x5 =>
  cut0 (fun J1 =>
   opN p_ (sLoad 3 x3) Kp fun x16 =>
   opN p_ (sBin .gtr 3 x16 (.int .i64 0)) Kp fun x17 =>
   condS x17
   (opN p_ (sLoad 22 x2) Kp fun x19 =>
    opN p_ (sLoad 3 x3) Kp fun x20 =>
    opN p_ (sConv 3 55 x20) Kp fun x21 =>
    opN p_ (sBin .shl 3 (.int .i64 2) x21) Kp fun x22 =>
    opN p_ (sCall (fn 64) [x19, (.int .i64 32768), x22]) Kp fun x23 =>
    opN p_ (sExt x23 0) Kp fun x24 =>
    opN p_ (sExt x23 1) Kp fun x25 =>
    opN p_ (sStore 77 x5 x24) Kp fun _ =>
    J1)
   (opN p_ (sLoad 22 x2) Kp fun x26 =>
    opN p_ (sLen #[22] 3 [x26]) Kp fun x27 =>
    loop1 (fun I1 m1 _ y28 =>
     opN p_ (sBin .lss 3 y28 x27) Kp fun x29 =>
     condS x29
     (opN p_ (sIA 22 x26 y28) Kp fun x30 =>
      opN p_ (sLoad 5 x30) Kp fun x31 =>
      opN p_ (sLoad 77 x5) Kp fun x32 =>
      opN p_ (sBuild 108 [(2, x31)]) Kp fun x34 =>
      opN p_ (sBuildSl 77 1 [(0, x34)]) Kp fun x35 =>
      opN p_ (sApp #[77, 77] 77 [x32, x35]) Kp fun x36 =>
      opN p_ (sStore 77 x5 x36) Kp fun _ =>
      opN p_ (sBin .add 3 y28 (.int .i64 1)) Kp fun x37 =>
      next1 I1 m1 x37)
     (J1)) (.int .i64 0))) fun _ =>
  opN p_ (sAlloc 75) Kp fun x8 =>
  opN p_ (sAlloc 3) Kp fun x9 =>
  opN p_ (sAlloc 3) Kp fun x10 =>
  opN p_ (sAlloc 3) Kp fun x11 =>
  opN p_ (sStore 3 x9 (.int .i64 0)) Kp fun _ =>
  opN p_ (sStore 3 x10 (.int .i64 0)) Kp fun _ =>
  opN p_ (sStore 3 x11 (.int .i64 0)) Kp fun _ =>
  opN p_ (sMkF (.func 65) [] [x8, x5, x9, x2, x10, x11, x3]) Kp fun x38 =>
  opN p_ (sLoad 77 x5) Kp fun x39 =>
  opN p_ (sLen #[77] 3 [x39]) Kp fun x40 =>
  loop1 (fun I2 m2 _ y41 =>
   opN p_ (sBin .lss 3 y41 x40) Kp fun x42 =>
   condS x42
   (opN p_ (sIA 77 x39 y41) Kp fun x44 =>
    opN p_ (sLoad 108 x44) Kp fun x45 =>
    opN p_ (sAlloc 108) Kp fun x14 =>
    opN p_ (sStore 108 x14 x45) Kp fun _ =>
    opN p_ (sLoad 3 x11) Kp fun x46 =>
    opN p_ (sFA 108 x14 0) Kp fun x47 =>
    opN p_ (sLoad 3 x47) Kp fun x48 =>
    opN p_ (sMax #[3, 3] 3 [(.int .i64 1), x48]) Kp fun x49 =>
    opN p_ (sBin .add 3 x46 x49) Kp fun x50 =>
    opN p_ (sStore 3 x11 x50) Kp fun _ =>
    opN p_ (sLoad 3 x11) Kp fun x51 =>
    opN p_ (sLoad 3 x10) Kp fun x52 =>
    opN p_ (sBin .sub 3 x51 x52) Kp fun x53 =>
    opN p_ (sLoad 3 x3) Kp fun x54 =>
    opN p_ (sEq .eql 3 (.tmp 54) (.const (.int .i64 0)) x54 (.int .i64 0)) Kp fun x55 =>
    gdK x55 true (fun k => k x53) fun x57 =>
    gdK x55 true (opN p_ (sEq .eql 3 (.tmp 57) (.const (.int .i64 30000)) x57 (.int .i64 30000)) Kp) fun x58 =>
    opN p_ (sPick x55 x58 (.bool false)) Kp fun x59 =>
    gdK x59 false (opN p_ (sLoad 3 x3) Kp) fun x61 =>
    gdK x59 false (opN p_ (sBin .gtr 3 x61 (.int .i64 0)) Kp) fun x62 =>
    gdK x59 false (fun k => k x62) fun x63 =>
    gdK x63 true (fun k => k y41) fun x64 =>
    gdK x63 true (opN p_ (sBin .add 3 x64 (.int .i64 1)) Kp) fun x65 =>
    gdK x63 true (opN p_ (sLoad 3 x9) Kp) fun x66 =>
    gdK x63 true (opN p_ (sBin .sub 3 x65 x66) Kp) fun x67 =>
    gdK x63 true (opN p_ (sEq .eql 3 (.tmp 67) (.const (.int .i64 8192)) x67 (.int .i64 8192)) Kp) fun x68 =>
    gdK x63 true (fun k => k x68) fun x69 =>
    gdK x69 false (fun k => k x53) fun x70 =>
    gdK x69 false (opN p_ (sBin .gtr 3 x70 (.int .i64 30000)) Kp) fun x71 =>
    gdK x63 true (opN p_ (sPick x69 (.bool true) x71) Kp) fun x72 =>
    gdK x59 false (opN p_ (sPick x63 x72 (.bool false)) Kp) fun x73 =>
    opN p_ (sPick x59 (.bool true) x73) Kp fun x74 =>
    condS x74
    (opN p_ (sBin .add 3 y41 (.int .i64 1)) Kp fun x77 =>
     opN p_ (sCall x38 [x77]) Kp fun x78 =>
     opN p_ (sBin .add 3 y41 (.int .i64 1)) Kp fun x79 =>
     next1 I2 m2 x79)
    (opN p_ (sBin .add 3 y41 (.int .i64 1)) Kp fun x79 =>
     next1 I2 m2 x79))
   (opN p_ (sLoad 3 x9) Kp fun x80 =>
    opN p_ (sLoad 77 x5) Kp fun x81 =>
    opN p_ (sLen #[77] 3 [x81]) Kp fun x82 =>
    opN p_ (sBin .lss 3 x80 x82) Kp fun x83 =>
    gdK x83 false (opN p_ (sLoad 75 x8) Kp) fun x85 =>
    gdK x83 false (opN p_ (sLen #[75] 3 [x85]) Kp) fun x86 =>
    gdK x83 false (opN p_ (sEq .eql 3 (.tmp 86) (.const (.int .i64 0)) x86 (.int .i64 0)) Kp) fun x87 =>
    opN p_ (sPick x83 (.bool true) x87) Kp fun x88 =>
    condS x88
    (opN p_ (sLoad 77 x5) Kp fun x90 =>
     opN p_ (sLen #[77] 3 [x90]) Kp fun x91 =>
     opN p_ (sCall x38 [x91]) Kp fun x92 =>
     opN p_ (sLoad 75 x8) Kp fun x93 =>
     K x93)
    (opN p_ (sLoad 75 x8) Kp fun x93 =>
     K x93))) (.int .i64 0)
def deflate_blocks_an : Ann := { cuts := [(9, [])], blks := [], loops := [(5, [28]), (13, [41])], drs := [] }
theorem deflate_blocks_eq (v0 v1 : Value) (Kp : PK) (K : Value -> WP) : cevF p_ deflate_blocks_an Tryz.f49 [v0, v1] Kp K = deflate_blocks v0 v1 Kp K := by kernel_rfl
theorem deflate_blocks_calls {v0 v1 : Value} {Kp : PK} {K : Value -> WP} {w : World} (h : deflate_blocks v0 v1 Kp K w) : Calls p_ 49 #[v0, v1] w (after Kp K) :=
 calls_of_shape (calls_of_cev wide Tryz.func49 (an := deflate_blocks_an) (args := [v0, v1]) (cast (congrFun (deflate_blocks_eq v0 v1 Kp K) w).symm h))
theorem deflate_blocks_cn {v0 v1 : Value} {W : World} {α : Type} {A : List HP} {r : α -> Value} {B : α -> List HP} (h : ∀ F, Ent W (A ++ F) (deflate_blocks v0 v1 noP fun v w => ∃ x, v = r x /\ sat W (B x ++ F) w)) : Cn p_ 49 [v0, v1] W A r B :=
 Cn.of (shape := deflate_blocks v0 v1) Tryz.call49 (fun h => deflate_blocks_calls h) h
def deflate_block_put (v0 v1 v2 : Value) (Kp : PK) (K : Value → WP) : WP :=
  opN p_ (sBox 79 v0) Kp fun x3 =>
  opN p_ (sBuild 111 [(0, (fn 52)), (1, (fn 66)), (2, (fn 67))]) Kp fun x12 =>
  opN p_ (sAlloc 111) Kp fun x6 =>
  opN p_ (sStore 111 x6 x12) Kp fun _ =>
  cut1 (fun J1 =>
   opN p_ (sFA 79 x3 2) Kp fun x13 =>
   opN p_ (sLoad 3 x13) Kp fun x14 =>
   opN p_ (sBin .gtr 3 x14 (.int .i64 0)) Kp fun x15 =>
   condS x15
   (drS (stD p_ (sLoad 79 x3) fun D0 x16 =>
     stD p_ (sIA 111 x6 (.int .i64 0)) fun D1 x17 =>
     stD p_ (sLoad 110 x17) fun D2 x18 =>
     opN p_ (sCall (fn 69) [v1]) Kp fun x20 =>
     (fun w => D2 w ∧ (fun w => D1 w ∧ (fun w => D0 w ∧ (opN p_ (sCall (fn 68) [x16, x18, x20]) Kp fun x21 =>
         opN p_ (sSl 111 x6 (some (.int .i64 1)) none none) Kp fun x22 =>
         opN p_ (sLen #[114] 3 [x22]) Kp fun x23 =>
         loop3 (fun I1 m1 _ y7 y8 y24 =>
          opN p_ (sBin .lss 3 y24 x23) Kp fun x25 =>
          condS x25
          (opN p_ (sIA 114 x22 y24) Kp fun x27 =>
           opN p_ (sLoad 110 x27) Kp fun x28 =>
           drS (stD p_ (sLoad 79 x3) fun D0 x29 =>
            opN p_ (sCall (fn 69) [v1]) Kp fun x32 =>
            (fun w => D0 w ∧ (opN p_ (sCall (fn 68) [x29, x28, x32]) Kp fun x33 =>
              opN p_ (sBin .lss 3 x33 y8) Kp fun x36 =>
              condS x36
              (opN p_ (sBin .add 3 y24 (.int .i64 1)) Kp fun x39 =>
               opN p_ (sBin .add 3 y24 (.int .i64 1)) Kp fun x40 =>
               next3 I1 m1 x39 x33 x40)
              (opN p_ (sBin .add 3 y24 (.int .i64 1)) Kp fun x40 =>
               next3 I1 m1 y7 y8 x40)) w)))
          (J1 y7)) (.int .i64 0) x21 (.int .i64 0)) w) w) w)))
   (J1 (.int .i64 0))) fun _ z7 =>
  opN p_ (sCall (fn 51) [v1, v2, (.int .i64 1)]) Kp fun x43 =>
  opN p_ (sCall (fn 51) [v1, z7, (.int .i64 2)]) Kp fun x46 =>
  drS (stS p_ (sIA 111 x6 z7) fun x48 =>
   stS p_ (sLoad 110 x48) fun x49 =>
   stS p_ (sLoad 79 x3) fun x50 =>
   opN p_ (sCall x49 [x50, v1]) Kp fun x52 =>
   K (.tuple #[]))
def deflate_block_put_an : Ann := { cuts := [(12, [7])], blks := [], loops := [(6, [7, 8, 24])], drs := [(4, .ofL [(0, 3), (1, 3), (2, 3), (3, 1), (4, 0), (5, 0), (6, 1)]), (8, .ofL [(0, 3), (1, 2), (2, 1), (3, 0), (4, 0), (5, 1)]), (14, .ofL [(0, 1), (1, 1), (2, 1), (3, 1), (4, 1), (5, 0)])] }
theorem deflate_block_put_eq (v0 v1 v2 : Value) (Kp : PK) (K : Value -> WP) : cevF p_ deflate_block_put_an Tryz.f50 [v0, v1, v2] Kp K = deflate_block_put v0 v1 v2 Kp K := by kernel_rfl
theorem deflate_block_put_calls {v0 v1 v2 : Value} {Kp : PK} {K : Value -> WP} {w : World} (h : deflate_block_put v0 v1 v2 Kp K w) : Calls p_ 50 #[v0, v1, v2] w (after Kp K) :=
 calls_of_shape (calls_of_cev wide Tryz.func50 (an := deflate_block_put_an) (args := [v0, v1, v2]) (cast (congrFun (deflate_block_put_eq v0 v1 v2 Kp K) w).symm h))
theorem deflate_block_put_cn {v0 v1 v2 : Value} {W : World} {α : Type} {A : List HP} {r : α -> Value} {B : α -> List HP} (h : ∀ F, Ent W (A ++ F) (deflate_block_put v0 v1 v2 noP fun v w => ∃ x, v = r x /\ sat W (B x ++ F) w)) : Cn p_ 50 [v0, v1, v2] W A r B :=
 Cn.of (shape := deflate_block_put v0 v1 v2) Tryz.call50 (fun h => deflate_block_put_calls h) h
def bits_Writer_Put (v0 v1 v2 : Value) (Kp : PK) (K : Value → WP) : WP :=
  cut1 (fun J1 =>
   opN p_ (sCall (fn 70) [v0]) Kp fun x11 =>
   condS x11
   (J1 x11)
   (opN p_ (sBin .lss 3 v2 (.int .i64 0)) Kp fun x13 =>
    condS x13
    (J1 x13)
    (opN p_ (sBin .gtr 3 v2 (.int .i64 32)) Kp fun x15 =>
     condS x15
     (J1 x15)
     (opN p_ (sBin .lss 3 v1 (.int .i64 0)) Kp fun x17 =>
      condS x17
      (J1 x17)
      (opN p_ (sMin #[3, 3] 3 [v2, (.int .i64 32)]) Kp fun x20 =>
       opN p_ (sMax #[3, 3] 3 [(.int .i64 0), x20]) Kp fun x21 =>
       opN p_ (sConv 3 55 x21) Kp fun x22 =>
       opN p_ (sBin .shl 3 (.int .i64 1) x22) Kp fun x23 =>
       opN p_ (sBin .geq 3 v1 x23) Kp fun x24 =>
       J1 x24))))) fun _ z9 =>
  condS z9
  (K (.int .i64 1))
  (opN p_ (sNil v0) Kp fun x28 =>
   opN p_ (sFA 104 x28 1) Kp fun x29 =>
   opN p_ (sLoad 3 x29) Kp fun x30 =>
   opN p_ (sBin .sub 3 (.int .i64 8388608) x30) Kp fun x31 =>
   opN p_ (sBin .gtr 3 v2 x31) Kp fun x32 =>
   condS x32
   (K (.int .i64 6))
   (opN p_ (sCall (fn 71) []) Kp fun x33 =>
    opN p_ (sAlloc 115) Kp fun x7 =>
    opN p_ (sStore 115 x7 x33) Kp fun _ =>
    loop1 (fun I1 m1 _ y35 =>
     opN p_ (sBin .lss 3 y35 v2) Kp fun x36 =>
     condS x36
     (cut0 (fun J2 =>
       opN p_ (sNil v0) Kp fun x39 =>
       opN p_ (sFA 104 x39 1) Kp fun x40 =>
       opN p_ (sLoad 3 x40) Kp fun x41 =>
       opN p_ (sBin .rem 3 x41 (.int .i64 8)) Kp fun x42 =>
       opN p_ (sEq .eql 3 (.tmp 42) (.const (.int .i64 0)) x42 (.int .i64 0)) Kp fun x43 =>
       condS x43
       (opN p_ (sNil v0) Kp fun x46 =>
        opN p_ (sFA 104 x46 0) Kp fun x47 =>
        opN p_ (sLoad 22 x47) Kp fun x48 =>
        opN p_ (sBuildSl 22 1 [(0, (.int .u8 0))]) Kp fun x49 =>
        opN p_ (sApp #[22, 22] 22 [x48, x49]) Kp fun x50 =>
        opN p_ (sNil v0) Kp fun x51 =>
        opN p_ (sFA 104 x51 0) Kp fun x52 =>
        opN p_ (sStore 22 x52 x50) Kp fun _ =>
        J2)
       (J2)) fun _ =>
      cut0 (fun J3 =>
       opN p_ (sConv 3 55 y35) Kp fun x55 =>
       opN p_ (sBin .shr 3 v1 x55) Kp fun x56 =>
       opN p_ (sBin .and 3 x56 (.int .i64 1)) Kp fun x57 =>
       opN p_ (sEq .eql 3 (.tmp 57) (.const (.int .i64 1)) x57 (.int .i64 1)) Kp fun x58 =>
       condS x58
       (drS (stS p_ (sNil v0) fun x60 =>
         stS p_ (sFA 104 x60 0) fun x61 =>
         stS p_ (sLoad 22 x61) fun x62 =>
         stS p_ (sNil v0) fun x64 =>
         stS p_ (sFA 104 x64 1) fun x65 =>
         stS p_ (sLoad 3 x65) fun x66 =>
         stS p_ (sBin .quo 3 x66 (.int .i64 8)) fun x67 =>
         stS p_ (sIA 22 x62 x67) fun x68 =>
         stS p_ (sLoad 5 x68) fun x69 =>
         stS p_ (sNil v0) fun x71 =>
         stS p_ (sFA 104 x71 1) fun x72 =>
         stS p_ (sLoad 3 x72) fun x73 =>
         stS p_ (sBin .rem 3 x73 (.int .i64 8)) fun x74 =>
         stS p_ (sIA 115 x7 x74) fun x75 =>
         stS p_ (sLoad 5 x75) fun x76 =>
         stS p_ (sBin .or 5 x69 x76) fun x77 =>
         stS p_ (sIA 22 x62 x67) fun x78 =>
         opN p_ (sStore 5 x78 x77) Kp fun _ =>
         J3))
       (J3)) fun _ =>
      opN p_ (sNil v0) Kp fun x80 =>
      opN p_ (sFA 104 x80 1) Kp fun x81 =>
      opN p_ (sLoad 3 x81) Kp fun x82 =>
      opN p_ (sBin .add 3 x82 (.int .i64 1)) Kp fun x83 =>
      opN p_ (sNil v0) Kp fun x84 =>
      opN p_ (sFA 104 x84 1) Kp fun x85 =>
      opN p_ (sStore 3 x85 x83) Kp fun _ =>
      opN p_ (sBin .add 3 y35 (.int .i64 1)) Kp fun x86 =>
      next1 I1 m1 x86)
     (K (.int .i64 0))) (.int .i64 0)))
def bits_Writer_Put_an : Ann := { cuts := [(6, [9]), (15, []), (17, [])], blks := [], loops := [(11, [35])], drs := [(16, .ofL [(0, 1), (1, 1), (2, 1), (3, 1), (4, 1), (5, 1), (6, 1), (7, 1), (8, 1), (9, 1), (10, 1), (11, 1), (12, 1), (13, 1), (14, 1), (15, 1), (16, 1), (17, 1), (18, 1), (19, 1), (20, 0)])] }
theorem bits_Writer_Put_eq (v0 v1 v2 : Value) (Kp : PK) (K : Value -> WP) : cevF p_ bits_Writer_Put_an Tryz.f51 [v0, v1, v2] Kp K = bits_Writer_Put v0 v1 v2 Kp K := by kernel_rfl
theorem bits_Writer_Put_calls {v0 v1 v2 : Value} {Kp : PK} {K : Value -> WP} {w : World} (h : bits_Writer_Put v0 v1 v2 Kp K w) : Calls p_ 51 #[v0, v1, v2] w (after Kp K) :=
 calls_of_shape (calls_of_cev wide Tryz.func51 (an := bits_Writer_Put_an) (args := [v0, v1, v2]) (cast (congrFun (bits_Writer_Put_eq v0 v1 v2 Kp K) w).symm h))
theorem bits_Writer_Put_cn {v0 v1 v2 : Value} {W : World} {α : Type} {A : List HP} {r : α -> Value} {B : α -> List HP} (h : ∀ F, Ent W (A ++ F) (bits_Writer_Put v0 v1 v2 noP fun v w => ∃ x, v = r x /\ sat W (B x ++ F) w)) : Cn p_ 51 [v0, v1, v2] W A r B :=
 Cn.of (shape := bits_Writer_Put v0 v1 v2) Tryz.call51 (fun h => bits_Writer_Put_calls h) h
def deflate_block_stored (v0 v1 : Value) (Kp : PK) (K : Value -> WP) : WP :=
 opN p_ (sBox 79 v0) Kp fun x2 =>
 opN p_ (sCall (fn 72) [v1]) Kp fun x5 =>
 opN p_ (sFA 79 x2 1) Kp fun x7 =>
 opN p_ (sLoad 22 x7) Kp fun x8 =>
 opN p_ (sLen #[22] 3 [x8]) Kp fun x9 =>
 opN p_ (sCall (fn 51) [v1, x9, (.int .i64 16)]) Kp fun x10 =>
 opN p_ (sFA 79 x2 1) Kp fun x12 =>
 opN p_ (sLoad 22 x12) Kp fun x13 =>
 opN p_ (sLen #[22] 3 [x13]) Kp fun x14 =>
 opN p_ (sBin .sub 3 (.int .i64 65535) x14) Kp fun x15 =>
 opN p_ (sCall (fn 51) [v1, x15, (.int .i64 16)]) Kp fun x16 =>
 opN p_ (sFA 79 x2 1) Kp fun x18 =>
 opN p_ (sLoad 22 x18) Kp fun x19 =>
 opN p_ (sCall (fn 73) [v1, x19]) Kp fun x20 =>
 K (.tuple #[])
def deflate_block_stored_an : Ann := { cuts := [], blks := [], loops := [], drs := [] }
theorem deflate_block_stored_eq (v0 v1 : Value) (Kp : PK) (K : Value -> WP) : cevF p_ deflate_block_stored_an Tryz.f52 [v0, v1] Kp K = deflate_block_stored v0 v1 Kp K := by kernel_rfl
theorem deflate_block_stored_calls {v0 v1 : Value} {Kp : PK} {K : Value -> WP} {w : World} (h : deflate_block_stored v0 v1 Kp K w) : Calls p_ 52 #[v0, v1] w (after Kp K) :=
 calls_of_shape (calls_of_cev wide Tryz.func52 (an := deflate_block_stored_an) (args := [v0, v1]) (cast (congrFun (deflate_block_stored_eq v0 v1 Kp K) w).symm h))
theorem deflate_block_stored_cn {v0 v1 : Value} {W : World} {α : Type} {A : List HP} {r : α -> Value} {B : α -> List HP} (h : ∀ F, Ent W (A ++ F) (deflate_block_stored v0 v1 noP fun v w => ∃ x, v = r x /\ sat W (B x ++ F) w)) : Cn p_ 52 [v0, v1] W A r B :=
 Cn.of (shape := deflate_block_stored v0 v1) Tryz.call52 (fun h => deflate_block_stored_calls h) h
def bits_Writer_Bytes (v0 : Value) (Kp : PK) (K : Value → WP) : WP :=
  opN p_ (sCall (fn 70) [v0]) Kp fun x4 =>
  condS x4
  (K (.slice none 0 0))
  (opN p_ (sNil v0) Kp fun x6 =>
   opN p_ (sFA 104 x6 0) Kp fun x7 =>
   opN p_ (sLoad 22 x7) Kp fun x8 =>
   opN p_ (sApp #[22, 22] 22 [(.slice none 0 0), x8]) Kp fun x9 =>
   K x9)
def bits_Writer_Bytes_an : Ann := { cuts := [], blks := [], loops := [], drs := [] }
theorem bits_Writer_Bytes_eq (v0 : Value) (Kp : PK) (K : Value -> WP) : cevF p_ bits_Writer_Bytes_an Tryz.f53 [v0] Kp K = bits_Writer_Bytes v0 Kp K := by kernel_rfl
theorem bits_Writer_Bytes_calls {v0 : Value} {Kp : PK} {K : Value -> WP} {w : World} (h : bits_Writer_Bytes v0 Kp K w) : Calls p_ 53 #[v0] w (after Kp K) :=
 calls_of_shape (calls_of_cev wide Tryz.func53 (an := bits_Writer_Bytes_an) (args := [v0]) (cast (congrFun (bits_Writer_Bytes_eq v0 Kp K) w).symm h))
theorem bits_Writer_Bytes_cn {v0 : Value} {W : World} {α : Type} {A : List HP} {r : α -> Value} {B : α -> List HP} (h : ∀ F, Ent W (A ++ F) (bits_Writer_Bytes v0 noP fun v w => ∃ x, v = r x /\ sat W (B x ++ F) w)) : Cn p_ 53 [v0] W A r B :=
 Cn.of (shape := bits_Writer_Bytes v0) Tryz.call53 (fun h => bits_Writer_Bytes_calls h) h
def ref06_blocks (v0 v1 : Value) (Kp : PK) (K : Value → WP) : WP :=
  opN p_ (sCall (fn 74) [v0, v1]) Kp fun x14 =>
  opN p_ (sBuild 92 []) Kp fun x15 =>
  opN p_ (sAlloc 92) Kp fun x7 =>
  opN p_ (sStore 92 x7 x15) Kp fun _ =>
  loop3 (fun I1 m1 _ y6 y8 y9 =>
   opN p_ (sLen #[90] 3 [x14]) Kp fun x18 =>
   opN p_ (sBin .lss 3 y9 x18) Kp fun x19 =>
   condS x19
   (opN p_ (sIA 90 x14 y9) Kp fun x24 =>
    opN p_ (sFA 118 x24 0) Kp fun x25 =>
    opN p_ (sLoad 3 x25) Kp fun x26 =>
    opN p_ (sMax #[3, 3] 3 [(.int .i64 1), x26]) Kp fun x27 =>
    drS (stD p_ (sFA 92 x7 0) fun D0 x28 =>
     stD p_ (sLoad 90 x28) fun D1 x29 =>
     stS p_ (sIA 90 x14 y9) fun x32 =>
     stS p_ (sLoad 118 x32) fun x33 =>
     opN p_ (sBuildSl 90 1 [(0, x33)]) Kp fun x34 =>
     (fun w => D1 w ∧ (fun w => D0 w ∧ (opN p_ (sApp #[90, 90] 90 [x29, x34]) Kp fun x35 =>
        stS p_ (sFA 92 x7 0) fun x36 =>
        opN p_ (sStore 90 x36 x35) Kp fun _ =>
        drS (stS p_ (sFA 92 x7 1) fun x37 =>
         stS p_ (sLoad 22 x37) fun x38 =>
         stS p_ (sBin .add 3 y8 x27) fun x43 =>
         stS p_ (sSl 22 v0 (some y8) (some x43) none) fun x44 =>
         opN p_ (sApp #[22, 22] 22 [x38, x44]) Kp fun x45 =>
         stS p_ (sFA 92 x7 1) fun x46 =>
         opN p_ (sStore 22 x46 x45) Kp fun _ =>
         opN p_ (sBin .add 3 y8 x27) Kp fun x49 =>
         opN p_ (sFA 92 x7 0) Kp fun x50 =>
         opN p_ (sLoad 90 x50) Kp fun x51 =>
         opN p_ (sLen #[90] 3 [x51]) Kp fun x52 =>
         opN p_ (sEq .eql 3 (.tmp 52) (.const (.int .i64 8192)) x52 (.int .i64 8192)) Kp fun x53 =>
         gdK x53 false (opN p_ (sFA 92 x7 1) Kp) fun x55 =>
         gdK x53 false (opN p_ (sLoad 22 x55) Kp) fun x56 =>
         gdK x53 false (opN p_ (sLen #[22] 3 [x56]) Kp) fun x57 =>
         gdK x53 false (opN p_ (sBin .gtr 3 x57 (.int .i64 30000)) Kp) fun x58 =>
         opN p_ (sPick x53 (.bool true) x58) Kp fun x59 =>
         cut1 (fun J1 =>
          opN p_ (sEq .eql 3 (.tmp 60) (.const (.int .i64 0)) v1 (.int .i64 0)) Kp fun x61 =>
          condS x61
          (opN p_ (sFA 92 x7 1) Kp fun x62 =>
           opN p_ (sLoad 22 x62) Kp fun x63 =>
           opN p_ (sLen #[22] 3 [x63]) Kp fun x64 =>
           opN p_ (sEq .eql 3 (.tmp 64) (.const (.int .i64 30000)) x64 (.int .i64 30000)) Kp fun x65 =>
           J1 x65)
          (J1 x59)) fun _ z11 =>
         condS z11
         (opN p_ (sLoad 92 x7) Kp fun x68 =>
          opN p_ (sBuildSl 87 1 [(0, x68)]) Kp fun x69 =>
          opN p_ (sApp #[87, 87] 87 [y6, x69]) Kp fun x70 =>
          opN p_ (sBuild 92 []) Kp fun x71 =>
          opN p_ (sStore 92 x7 x71) Kp fun _ =>
          opN p_ (sBin .add 3 y9 (.int .i64 1)) Kp fun x21 =>
          next3 I1 m1 x70 x49 x21)
         (opN p_ (sBin .add 3 y9 (.int .i64 1)) Kp fun x21 =>
          next3 I1 m1 y6 x49 x21))) w) w)))
   (opN p_ (sFA 92 x7 0) Kp fun x72 =>
    opN p_ (sLoad 90 x72) Kp fun x73 =>
    opN p_ (sLen #[90] 3 [x73]) Kp fun x74 =>
    opN p_ (sBin .gtr 3 x74 (.int .i64 0)) Kp fun x75 =>
    gdK x75 false (fun k => k y6) fun x77 =>
    gdK x75 false (opN p_ (sLen #[87] 3 [x77]) Kp) fun x78 =>
    gdK x75 false (opN p_ (sEq .eql 3 (.tmp 78) (.const (.int .i64 0)) x78 (.int .i64 0)) Kp) fun x79 =>
    opN p_ (sPick x75 (.bool true) x79) Kp fun x80 =>
    condS x80
    (opN p_ (sLoad 92 x7) Kp fun x82 =>
     opN p_ (sBuildSl 87 1 [(0, x82)]) Kp fun x83 =>
     opN p_ (sApp #[87, 87] 87 [y6, x83]) Kp fun x84 =>
     K x84)
    (K y6))) (.slice none 0 0) (.int .i64 0) (.int .i64 0)
def ref06_blocks_an : Ann := { cuts := [(15, [11])], blks := [], loops := [(6, [6, 8, 9])], drs := [(9, .ofL [(0, 3), (1, 3), (2, 1), (3, 1), (4, 1), (5, 1), (6, 0), (7, 0), (8, 1), (9, 0)]), (10, .ofL [(0, 1), (1, 1), (2, 1), (3, 1), (4, 1), (5, 1), (6, 1), (7, 1), (8, 0), (9, 1), (10, 0)])] }
theorem ref06_blocks_eq (v0 v1 : Value) (Kp : PK) (K : Value -> WP) : cevF p_ ref06_blocks_an Tryz.f54 [v0, v1] Kp K = ref06_blocks v0 v1 Kp K := by kernel_rfl
theorem ref06_blocks_calls {v0 v1 : Value} {Kp : PK} {K : Value -> WP} {w : World} (h : ref06_blocks v0 v1 Kp K w) : Calls p_ 54 #[v0, v1] w (after Kp K) :=
 calls_of_shape (calls_of_cev wide Tryz.func54 (an := ref06_blocks_an) (args := [v0, v1]) (cast (congrFun (ref06_blocks_eq v0 v1 Kp K) w).symm h))
theorem ref06_blocks_cn {v0 v1 : Value} {W : World} {α : Type} {A : List HP} {r : α -> Value} {B : α -> List HP} (h : ∀ F, Ent W (A ++ F) (ref06_blocks v0 v1 noP fun v w => ∃ x, v = r x /\ sat W (B x ++ F) w)) : Cn p_ 54 [v0, v1] W A r B :=
 Cn.of (shape := ref06_blocks v0 v1) Tryz.call54 (fun h => ref06_blocks_calls h) h
def ref06_put (v0 v1 v2 v3 : Value) (Kp : PK) (K : Value → WP) : WP :=
  opN p_ (sBox 92 v1) Kp fun x5 =>
  loop1 (fun I1 m1 _ y8 =>
   opN p_ (sNil v0) Kp fun x13 =>
   opN p_ (sFA 86 x13 0) Kp fun x14 =>
   opN p_ (sLoad 22 x14) Kp fun x15 =>
   opN p_ (sLen #[22] 3 [x15]) Kp fun x16 =>
   opN p_ (sBin .add 3 x16 y8) Kp fun x18 =>
   opN p_ (sBin .rem 3 x18 (.int .i64 8)) Kp fun x19 =>
   opN p_ (sEq .neq 3 (.tmp 19) (.const (.int .i64 0)) x19 (.int .i64 0)) Kp fun x20 =>
   condS x20
   (opN p_ (sBin .add 3 y8 (.int .i64 1)) Kp fun x22 =>
    next1 I1 m1 x22)
   (opN p_ (sBin .add 3 y8 (.int .i64 32)) Kp fun x24 =>
    opN p_ (sFA 92 x5 1) Kp fun x25 =>
    opN p_ (sLoad 22 x25) Kp fun x26 =>
    opN p_ (sLen #[22] 3 [x26]) Kp fun x27 =>
    opN p_ (sBin .mul 3 (.int .i64 8) x27) Kp fun x28 =>
    opN p_ (sBin .add 3 x24 x28) Kp fun x29 =>
    loop3 (fun I2 m2 _ y8_2 y9 y10 =>
     opN p_ (sBin .leq 3 y10 (.int .i64 2)) Kp fun x31 =>
     gdK x31 true (fun k => k v2) fun x33 =>
     gdK x31 true (opN p_ (sBin .gtr 3 x33 (.int .i64 0)) Kp) fun x34 =>
     opN p_ (sPick x31 x34 (.bool false)) Kp fun x35 =>
     condS x35
     (opN p_ (sLoad 92 x5) Kp fun x40 =>
      opN p_ (sCall (fn 75) [y10, v3, x40]) Kp fun x41 =>
      opN p_ (sNil x41) Kp fun x43 =>
      opN p_ (sFA 86 x43 0) Kp fun x44 =>
      opN p_ (sLoad 22 x44) Kp fun x45 =>
      opN p_ (sLen #[22] 3 [x45]) Kp fun x46 =>
      opN p_ (sBin .lss 3 x46 y8_2) Kp fun x48 =>
      condS x48
      (opN p_ (sNil x41) Kp fun x50 =>
       opN p_ (sFA 86 x50 0) Kp fun x51 =>
       opN p_ (sLoad 22 x51) Kp fun x52 =>
       opN p_ (sLen #[22] 3 [x52]) Kp fun x53 =>
       opN p_ (sBin .add 3 y10 (.int .i64 1)) Kp fun x37 =>
       next3 I2 m2 x53 x41 x37)
      (opN p_ (sBin .add 3 y10 (.int .i64 1)) Kp fun x37 =>
       next3 I2 m2 y8_2 y9 x37))
     (opN p_ (sEq .neq 84 (.tmp 55) (.const (.pointer none)) y9 (.pointer none)) Kp fun x56 =>
      condS x56
      (drS (stS p_ (sNil v0) fun x59 =>
        stS p_ (sFA 86 x59 0) fun x60 =>
        stS p_ (sLoad 22 x60) fun x61 =>
        stS p_ (sNil y9) fun x63 =>
        stS p_ (sFA 86 x63 0) fun x64 =>
        stS p_ (sLoad 22 x64) fun x65 =>
        opN p_ (sApp #[22, 22] 22 [x61, x65]) Kp fun x66 =>
        stS p_ (sNil v0) fun x67 =>
        stS p_ (sFA 86 x67 0) fun x68 =>
        opN p_ (sStore 22 x68 x66) Kp fun _ =>
        K (.tuple #[])))
      (opN p_ (sCall (fn 56) [v0, v3, (.int .i64 1)]) Kp fun x71 =>
       opN p_ (sCall (fn 56) [v0, (.int .i64 0), (.int .i64 2)]) Kp fun x73 =>
       opN p_ (sFA 92 x5 1) Kp fun x75 =>
       opN p_ (sLoad 22 x75) Kp fun x76 =>
       opN p_ (sCall (fn 57) [v0, x76]) Kp fun x77 =>
       K (.tuple #[])))) x29 (.pointer none) (.int .i64 1))) (.int .i64 3)
def ref06_put_an : Ann := { cuts := [], blks := [], loops := [(2, [8]), (7, [8, 9, 10])], drs := [(14, .ofL [(0, 2), (1, 1), (2, 1), (3, 1), (4, 1), (5, 1), (6, 1), (7, 1), (8, 1), (9, 0), (10, 1), (11, 1), (12, 0)])] }
theorem ref06_put_eq (v0 v1 v2 v3 : Value) (Kp : PK) (K : Value -> WP) : cevF p_ ref06_put_an Tryz.f55 [v0, v1, v2, v3] Kp K = ref06_put v0 v1 v2 v3 Kp K := by kernel_rfl
theorem ref06_put_calls {v0 v1 v2 v3 : Value} {Kp : PK} {K : Value -> WP} {w : World} (h : ref06_put v0 v1 v2 v3 Kp K w) : Calls p_ 55 #[v0, v1, v2, v3] w (after Kp K) :=
 calls_of_shape (calls_of_cev wide Tryz.func55 (an := ref06_put_an) (args := [v0, v1, v2, v3]) (cast (congrFun (ref06_put_eq v0 v1 v2 v3 Kp K) w).symm h))
theorem ref06_put_cn {v0 v1 v2 v3 : Value} {W : World} {α : Type} {A : List HP} {r : α -> Value} {B : α -> List HP} (h : ∀ F, Ent W (A ++ F) (ref06_put v0 v1 v2 v3 noP fun v w => ∃ x, v = r x /\ sat W (B x ++ F) w)) : Cn p_ 55 [v0, v1, v2, v3] W A r B :=
 Cn.of (shape := ref06_put v0 v1 v2 v3) Tryz.call55 (fun h => ref06_put_calls h) h
def ref02_Writer_Put (v0 v1 v2 : Value) (Kp : PK) (K : Value → WP) : WP :=
  opN p_ (sBin .lss 3 v2 (.int .i64 0)) Kp fun x9 =>
  gdK x9 false (fun k => k v2) fun x11 =>
  gdK x9 false (opN p_ (sBin .gtr 3 x11 (.int .i64 32)) Kp) fun x12 =>
  opN p_ (sPick x9 (.bool true) x12) Kp fun x13 =>
  gdK x13 false (fun k => k v1) fun x15 =>
  gdK x13 false (opN p_ (sBin .lss 3 x15 (.int .i64 0)) Kp) fun x16 =>
  opN p_ (sPick x13 (.bool true) x16) Kp fun x17 =>
  gdK x17 false (fun k => k v1) fun x19 =>
  gdK x17 false (fun k => k v2) fun x20 =>
  gdK x17 false (opN p_ (sConv 3 55 x20) Kp) fun x21 =>
  gdK x17 false (opN p_ (sBin .shl 3 (.int .i64 1) x21) Kp) fun x22 =>
  gdK x17 false (opN p_ (sBin .geq 3 x19 x22) Kp) fun x23 =>
  opN p_ (sPick x17 (.bool true) x23) Kp fun x24 =>
  condS x24
  (K (.int .i64 1))
  (opN p_ (sNil v0) Kp fun x27 =>
   opN p_ (sFA 86 x27 0) Kp fun x28 =>
   opN p_ (sLoad 22 x28) Kp fun x29 =>
   opN p_ (sLen #[22] 3 [x29]) Kp fun x30 =>
   opN p_ (sBin .sub 3 (.int .i64 8388608) x30) Kp fun x31 =>
   opN p_ (sBin .gtr 3 v2 x31) Kp fun x32 =>
   condS x32
   (K (.int .i64 6))
   (loop1 (fun I1 m1 _ y7 =>
     opN p_ (sBin .lss 3 y7 v2) Kp fun x35 =>
     condS x35
     (opN p_ (sNil v0) Kp fun x40 =>
      opN p_ (sFA 86 x40 0) Kp fun x41 =>
      opN p_ (sLoad 22 x41) Kp fun x42 =>
      opN p_ (sConv 3 55 y7) Kp fun x45 =>
      opN p_ (sBin .shr 3 v1 x45) Kp fun x46 =>
      opN p_ (sBin .and 3 x46 (.int .i64 1)) Kp fun x47 =>
      opN p_ (sConv 3 5 x47) Kp fun x48 =>
      opN p_ (sBuildSl 22 1 [(0, x48)]) Kp fun x49 =>
      opN p_ (sApp #[22, 22] 22 [x42, x49]) Kp fun x50 =>
      opN p_ (sNil v0) Kp fun x51 =>
      opN p_ (sFA 86 x51 0) Kp fun x52 =>
      opN p_ (sStore 22 x52 x50) Kp fun _ =>
      opN p_ (sBin .add 3 y7 (.int .i64 1)) Kp fun x37 =>
      next1 I1 m1 x37)
     (K (.int .i64 0))) (.int .i64 0)))
def ref02_Writer_Put_an : Ann := { cuts := [], blks := [], loops := [(6, [7])], drs := [] }
theorem ref02_Writer_Put_eq (v0 v1 v2 : Value) (Kp : PK) (K : Value -> WP) : cevF p_ ref02_Writer_Put_an Tryz.f56 [v0, v1, v2] Kp K = ref02_Writer_Put v0 v1 v2 Kp K := by kernel_rfl
theorem ref02_Writer_Put_calls {v0 v1 v2 : Value} {Kp : PK} {K : Value -> WP} {w : World} (h : ref02_Writer_Put v0 v1 v2 Kp K w) : Calls p_ 56 #[v0, v1, v2] w (after Kp K) :=
 calls_of_shape (calls_of_cev wide Tryz.func56 (an := ref02_Writer_Put_an) (args := [v0, v1, v2]) (cast (congrFun (ref02_Writer_Put_eq v0 v1 v2 Kp K) w).symm h))
theorem ref02_Writer_Put_cn {v0 v1 v2 : Value} {W : World} {α : Type} {A : List HP} {r : α -> Value} {B : α -> List HP} (h : ∀ F, Ent W (A ++ F) (ref02_Writer_Put v0 v1 v2 noP fun v w => ∃ x, v = r x /\ sat W (B x ++ F) w)) : Cn p_ 56 [v0, v1, v2] W A r B :=
 Cn.of (shape := ref02_Writer_Put v0 v1 v2) Tryz.call56 (fun h => ref02_Writer_Put_calls h) h
def ref06_stored (v0 v1 : Value) (Kp : PK) (K : Value -> WP) : WP :=
 opN p_ (sCall (fn 76) [v0]) Kp fun x5 =>
 opN p_ (sLen #[22] 3 [v1]) Kp fun x8 =>
 opN p_ (sCall (fn 56) [v0, x8, (.int .i64 16)]) Kp fun x9 =>
 opN p_ (sLen #[22] 3 [v1]) Kp fun x12 =>
 opN p_ (sBin .sub 3 (.int .i64 65535) x12) Kp fun x13 =>
 opN p_ (sCall (fn 56) [v0, x13, (.int .i64 16)]) Kp fun x14 =>
 opN p_ (sCall (fn 77) [v0, v1]) Kp fun x17 =>
 K (.tuple #[])
def ref06_stored_an : Ann := { cuts := [], blks := [], loops := [], drs := [] }
theorem ref06_stored_eq (v0 v1 : Value) (Kp : PK) (K : Value -> WP) : cevF p_ ref06_stored_an Tryz.f57 [v0, v1] Kp K = ref06_stored v0 v1 Kp K := by kernel_rfl
theorem ref06_stored_calls {v0 v1 : Value} {Kp : PK} {K : Value -> WP} {w : World} (h : ref06_stored v0 v1 Kp K w) : Calls p_ 57 #[v0, v1] w (after Kp K) :=
 calls_of_shape (calls_of_cev wide Tryz.func57 (an := ref06_stored_an) (args := [v0, v1]) (cast (congrFun (ref06_stored_eq v0 v1 Kp K) w).symm h))
theorem ref06_stored_cn {v0 v1 : Value} {W : World} {α : Type} {A : List HP} {r : α -> Value} {B : α -> List HP} (h : ∀ F, Ent W (A ++ F) (ref06_stored v0 v1 noP fun v w => ∃ x, v = r x /\ sat W (B x ++ F) w)) : Cn p_ 57 [v0, v1] W A r B :=
 Cn.of (shape := ref06_stored v0 v1) Tryz.call57 (fun h => ref06_stored_calls h) h
def ref02_Writer_Bytes (v0 : Value) (Kp : PK) (K : Value -> WP) : WP :=
  opN p_ (sNil v0) Kp fun x6 =>
  opN p_ (sFA 86 x6 0) Kp fun x7 =>
  opN p_ (sLoad 22 x7) Kp fun x8 =>
  opN p_ (sLen #[22] 3 [x8]) Kp fun x9 =>
  opN p_ (sBin .add 3 x9 (.int .i64 7)) Kp fun x10 =>
  opN p_ (sBin .quo 3 x10 (.int .i64 8)) Kp fun x11 =>
  opN p_ (sMkSl 22 x11 x11) Kp fun x12 =>
  loop1 (fun I1 m1 _ y4 =>
   opN p_ (sNil v0) Kp fun x15 =>
   opN p_ (sFA 86 x15 0) Kp fun x16 =>
   opN p_ (sLoad 22 x16) Kp fun x17 =>
   opN p_ (sLen #[22] 3 [x17]) Kp fun x18 =>
   opN p_ (sBin .lss 3 y4 x18) Kp fun x19 =>
   condS x19
   (drS (stS p_ (sBin .quo 3 y4 (.int .i64 8)) fun x24 =>
     stS p_ (sBin .quo 3 y4 (.int .i64 8)) fun x27 =>
     stS p_ (sIA 22 x12 x27) fun x28 =>
     stS p_ (sLoad 5 x28) fun x29 =>
     stS p_ (sNil v0) fun x31 =>
     stS p_ (sFA 86 x31 0) fun x32 =>
     stS p_ (sLoad 22 x32) fun x33 =>
     stS p_ (sIA 22 x33 y4) fun x35 =>
     stS p_ (sLoad 5 x35) fun x36 =>
     stS p_ (sBin .rem 3 y4 (.int .i64 8)) fun x38 =>
     stS p_ (sConv 3 55 x38) fun x39 =>
     stS p_ (sBin .shl 5 x36 x39) fun x40 =>
     stS p_ (sBin .or 5 x29 x40) fun x41 =>
     stS p_ (sIA 22 x12 x24) fun x42 =>
     opN p_ (sStore 5 x42 x41) Kp fun _ =>
     opN p_ (sBin .add 3 y4 (.int .i64 1)) Kp fun x21 =>
     next1 I1 m1 x21))
   (K x12)) (.int .i64 0)
def ref02_Writer_Bytes_an : Ann := { cuts := [], blks := [], loops := [(3, [4])], drs := [(5, .ofL [(0, 1), (1, 1), (2, 1), (3, 1), (4, 1), (5, 1), (6, 1), (7, 1), (8, 1), (9, 1), (10, 1), (11, 1), (12, 1), (13, 1), (14, 1), (15, 1), (16, 1), (17, 1), (18, 1), (19, 1), (20, 1), (21, 0)])] }
theorem ref02_Writer_Bytes_eq (v0 : Value) (Kp : PK) (K : Value -> WP) : cevF p_ ref02_Writer_Bytes_an Tryz.f58 [v0] Kp K = ref02_Writer_Bytes v0 Kp K := by kernel_rfl
theorem ref02_Writer_Bytes_calls {v0 : Value} {Kp : PK} {K : Value -> WP} {w : World} (h : ref02_Writer_Bytes v0 Kp K w) : Calls p_ 58 #[v0] w (after Kp K) :=
 calls_of_shape (calls_of_cev wide Tryz.func58 (an := ref02_Writer_Bytes_an) (args := [v0]) (cast (congrFun (ref02_Writer_Bytes_eq v0 Kp K) w).symm h))
theorem ref02_Writer_Bytes_cn {v0 : Value} {W : World} {α : Type} {A : List HP} {r : α -> Value} {B : α -> List HP} (h : ∀ F, Ent W (A ++ F) (ref02_Writer_Bytes v0 noP fun v w => ∃ x, v = r x /\ sat W (B x ++ F) w)) : Cn p_ 58 [v0] W A r B :=
 Cn.of (shape := ref02_Writer_Bytes v0) Tryz.call58 (fun h => ref02_Writer_Bytes_calls h) h
def ref07_four (v0 : Value) (Kp : PK) (K : Value -> WP) : WP :=
 opN p_ (sConv 23 5 v0) Kp fun x4 =>
 opN p_ (sBin .shr 23 v0 (.int .u64 8)) Kp fun x6 =>
 opN p_ (sConv 23 5 x6) Kp fun x7 =>
 opN p_ (sBin .shr 23 v0 (.int .u64 16)) Kp fun x9 =>
 opN p_ (sConv 23 5 x9) Kp fun x10 =>
 opN p_ (sBin .shr 23 v0 (.int .u64 24)) Kp fun x12 =>
 opN p_ (sConv 23 5 x12) Kp fun x13 =>
 opN p_ (sBuildSl 22 4 [(0, x4), (1, x7), (2, x10), (3, x13)]) Kp fun x14 =>
 K x14
def ref07_four_an : Ann := { cuts := [], blks := [], loops := [], drs := [] }
theorem ref07_four_eq (v0 : Value) (Kp : PK) (K : Value -> WP) : cevF p_ ref07_four_an Tryz.f63 [v0] Kp K = ref07_four v0 Kp K := by kernel_rfl
theorem ref07_four_calls {v0 : Value} {Kp : PK} {K : Value -> WP} {w : World} (h : ref07_four v0 Kp K w) : Calls p_ 63 #[v0] w (after Kp K) :=
 calls_of_shape (calls_of_cev wide Tryz.func63 (an := ref07_four_an) (args := [v0]) (cast (congrFun (ref07_four_eq v0 Kp K) w).symm h))
theorem ref07_four_cn {v0 : Value} {W : World} {α : Type} {A : List HP} {r : α -> Value} {B : α -> List HP} (h : ∀ F, Ent W (A ++ F) (ref07_four v0 noP fun v w => ∃ x, v = r x /\ sat W (B x ++ F) w)) : Cn p_ 63 [v0] W A r B :=
 Cn.of (shape := ref07_four v0) Tryz.call63 (fun h => ref07_four_calls h) h
def lz_Pieces (v0 v1 v2 : Value) (Kp : PK) (K : Value → WP) : WP :=
  cut1 (fun J1 =>
   opN p_ (sBin .lss 3 v1 (.int .i64 1)) Kp fun x14 =>
   condS x14
   (J1 x14)
   (opN p_ (sBin .gtr 3 v1 (.int .i64 32768)) Kp fun x16 =>
    condS x16
    (J1 x16)
    (opN p_ (sBin .lss 3 v2 (.int .i64 0)) Kp fun x18 =>
     condS x18
     (J1 x18)
     (opN p_ (sBin .gtr 3 v2 (.int .i64 4096)) Kp fun x20 =>
      J1 x20)))) fun _ z12 =>
  condS z12
  (K (.tuple #[(.slice none 0 0), (.int .i64 1)]))
  (opN p_ (sLen #[22] 3 [v0]) Kp fun x23 =>
   opN p_ (sBin .gtr 3 x23 (.int .i64 1048576)) Kp fun x24 =>
   condS x24
   (K (.tuple #[(.slice none 0 0), (.int .i64 6)]))
   (opN p_ (sMkMap 125 none) Kp fun x26 =>
    opN p_ (sBuild 127 [(0, v0), (1, x26), (3, v1), (4, v2)]) Kp fun x29 =>
    opN p_ (sBox 127 x29) Kp fun x30 =>
    loop2 (fun I1 m1 _ y9 y10 =>
     opN p_ (sLen #[22] 3 [v0]) Kp fun x33 =>
     opN p_ (sBin .lss 3 y10 x33) Kp fun x34 =>
     condS x34
     (opN p_ (sCall (fn 84) [x30, y10]) Kp fun x37 =>
      opN p_ (sCall (fn 85) [x30, y10]) Kp fun x40 =>
      opN p_ (sAlloc 108) Kp fun x11 =>
      opN p_ (sStore 108 x11 x40) Kp fun _ =>
      opN p_ (sLoad 108 x11) Kp fun x42 =>
      opN p_ (sBuildSl 77 1 [(0, x42)]) Kp fun x43 =>
      opN p_ (sApp #[77, 77] 77 [y9, x43]) Kp fun x44 =>
      opN p_ (sFA 108 x11 0) Kp fun x46 =>
      opN p_ (sLoad 3 x46) Kp fun x47 =>
      opN p_ (sMax #[3, 3] 3 [(.int .i64 1), x47]) Kp fun x48 =>
      opN p_ (sBin .add 3 y10 x48) Kp fun x49 =>
      next2 I1 m1 x44 x49)
     (K (.tuple #[y9, (.int .i64 0)]))) (.slice none 0 0) (.int .i64 0)))
def lz_Pieces_an : Ann := { cuts := [(5, [12])], blks := [], loops := [(11, [9, 10])], drs := [] }
theorem lz_Pieces_eq (v0 v1 v2 : Value) (Kp : PK) (K : Value -> WP) : cevF p_ lz_Pieces_an Tryz.f64 [v0, v1, v2] Kp K = lz_Pieces v0 v1 v2 Kp K := by kernel_rfl
theorem lz_Pieces_calls {v0 v1 v2 : Value} {Kp : PK} {K : Value -> WP} {w : World} (h : lz_Pieces v0 v1 v2 Kp K w) : Calls p_ 64 #[v0, v1, v2] w (after Kp K) :=
 calls_of_shape (calls_of_cev wide Tryz.func64 (an := lz_Pieces_an) (args := [v0, v1, v2]) (cast (congrFun (lz_Pieces_eq v0 v1 v2 Kp K) w).symm h))
theorem lz_Pieces_cn {v0 v1 v2 : Value} {W : World} {α : Type} {A : List HP} {r : α -> Value} {B : α -> List HP} (h : ∀ F, Ent W (A ++ F) (lz_Pieces v0 v1 v2 noP fun v w => ∃ x, v = r x /\ sat W (B x ++ F) w)) : Cn p_ 64 [v0, v1, v2] W A r B :=
 Cn.of (shape := lz_Pieces v0 v1 v2) Tryz.call64 (fun h => lz_Pieces_calls h) h
def deflate_blocks_1 (v0 v1 v2 v3 v4 v5 v6 v7 : Value) (Kp : PK) (K : Value -> WP) : WP :=
  drS (stD p_ (sLoad 75 v1) fun D0 x9 =>
   stS p_ (sLoad 77 v2) fun x10 =>
   stS p_ (sLoad 3 v3) fun x11 =>
   stS p_ (sSl 77 x10 (some x11) (some v0) none) fun x13 =>
   stS p_ (sLoad 22 v4) fun x14 =>
   stS p_ (sLoad 3 v5) fun x15 =>
   stS p_ (sLoad 3 v6) fun x16 =>
   stS p_ (sSl 22 x14 (some x15) (some x16) none) fun x17 =>
   stS p_ (sLoad 3 v7) fun x18 =>
   stS p_ (sBuild 79 [(0, x13), (1, x17), (2, x18)]) fun x19 =>
   opN p_ (sBuildSl 75 1 [(0, x19)]) Kp fun x20 =>
   (fun w => D0 w /\ (opN p_ (sApp #[75, 75] 75 [x9, x20]) Kp fun x21 =>
     opN p_ (sStore 75 v1 x21) Kp fun _ =>
     drS (stD p_ (sLoad 3 v6) fun D1 x23 =>
      opN p_ (sStore 3 v3 v0) Kp fun _ =>
      (fun w => D1 w /\ (opN p_ (sStore 3 v5 x23) Kp fun _ =>
        K (.tuple #[])) w))) w))
def deflate_blocks_1_an : Ann := { cuts := [], blks := [], loops := [], drs := [(0, .ofL [(0, 3), (1, 1), (2, 1), (3, 1), (4, 1), (5, 1), (6, 1), (7, 1), (8, 1), (9, 1), (10, 1), (11, 0), (12, 0), (13, 0)]), (1, .ofL [(0, 1), (1, 3), (2, 0), (3, 0)])] }
theorem deflate_blocks_1_eq (v0 v1 v2 v3 v4 v5 v6 v7 : Value) (Kp : PK) (K : Value -> WP) : cevF p_ deflate_blocks_1_an Tryz.f65 [v0, v1, v2, v3, v4, v5, v6, v7] Kp K = deflate_blocks_1 v0 v1 v2 v3 v4 v5 v6 v7 Kp K := by kernel_rfl
theorem deflate_blocks_1_calls {v0 v1 v2 v3 v4 v5 v6 v7 : Value} {Kp : PK} {K : Value -> WP} {w : World} (h : deflate_blocks_1 v0 v1 v2 v3 v4 v5 v6 v7 Kp K w) : Calls p_ 65 #[v0, v1, v2, v3, v4, v5, v6, v7] w (after Kp K) :=
 calls_of_shape (calls_of_cev wide Tryz.func65 (an := deflate_blocks_1_an) (args := [v0, v1, v2, v3, v4, v5, v6, v7]) (cast (congrFun (deflate_blocks_1_eq v0 v1 v2 v3 v4 v5 v6 v7 Kp K) w).symm h))
theorem deflate_blocks_1_cn {v0 v1 v2 v3 v4 v5 v6 v7 : Value} {W : World} {α : Type} {A : List HP} {r : α -> Value} {B : α -> List HP} (h : ∀ F, Ent W (A ++ F) (deflate_blocks_1 v0 v1 v2 v3 v4 v5 v6 v7 noP fun v w => ∃ x, v = r x /\ sat W (B x ++ F) w)) : Cn p_ 65 [v0, v1, v2, v3, v4, v5, v6, v7] W A r B :=
 Cn.of (shape := deflate_blocks_1 v0 v1 v2 v3 v4 v5 v6 v7) Tryz.call65 (fun h => deflate_blocks_1_calls h) h
def deflate_block_fixed (v0 v1 : Value) (Kp : PK) (K : Value -> WP) : WP :=
  opN p_ (sBox 79 v0) Kp fun x2 =>
  opN p_ (sCall (fn 86) []) Kp fun x7 =>
  opN p_ (sExt x7 0) Kp fun x8 =>
  opN p_ (sExt x7 1) Kp fun x9 =>
  drS (stD p_ (sLoad 79 x2) fun D0 x10 =>
   opN p_ (sCall (fn 88) [x8]) Kp fun x12 =>
   (fun w => D0 w /\ (opN p_ (sCall (fn 88) [x9]) Kp fun x14 =>
     (fun w => D0 w /\ (opN p_ (sCall (fn 89) [v1]) Kp fun x16 =>
       (fun w => D0 w /\ (opN p_ (sCall (fn 87) [x10, x12, x14, x16]) Kp fun x17 =>
         K (.tuple #[])) w)) w)) w))
def deflate_block_fixed_an : Ann := { cuts := [], blks := [], loops := [], drs := [(2, .ofL [(0, 3), (1, 1), (3, 2), (5, 2), (2, 0), (4, 0), (6, 0), (7, 0)])] }
theorem deflate_block_fixed_eq (v0 v1 : Value) (Kp : PK) (K : Value -> WP) : cevF p_ deflate_block_fixed_an Tryz.f66 [v0, v1] Kp K = deflate_block_fixed v0 v1 Kp K := by kernel_rfl
theorem deflate_block_fixed_calls {v0 v1 : Value} {Kp : PK} {K : Value -> WP} {w : World} (h : deflate_block_fixed v0 v1 Kp K w) : Calls p_ 66 #[v0, v1] w (after Kp K) :=
 calls_of_shape (calls_of_cev wide Tryz.func66 (an := deflate_block_fixed_an) (args := [v0, v1]) (cast (congrFun (deflate_block_fixed_eq v0 v1 Kp K) w).symm h))
theorem deflate_block_fixed_cn {v0 v1 : Value} {W : World} {α : Type} {A : List HP} {r : α -> Value} {B : α -> List HP} (h : ∀ F, Ent W (A ++ F) (deflate_block_fixed v0 v1 noP fun v w => ∃ x, v = r x /\ sat W (B x ++ F) w)) : Cn p_ 66 [v0, v1] W A r B :=
 Cn.of (shape := deflate_block_fixed v0 v1) Tryz.call66 (fun h => deflate_block_fixed_calls h) h
def deflate_block_dynamic (v0 v1 : Value) (Kp : PK) (K : Value -> WP) : WP :=
  opN p_ (sBox 79 v0) Kp fun x2 =>
  opN p_ (sLoad 79 x2) Kp fun x7 =>
  opN p_ (sCall (fn 90) [x7]) Kp fun x8 =>
  opN p_ (sExt x8 0) Kp fun x9 =>
  opN p_ (sExt x8 1) Kp fun x10 =>
  opN p_ (sAlloc 134) Kp fun x4 =>
  opN p_ (sAlloc 134) Kp fun x5 =>
  opN p_ (sStore 134 x4 x9) Kp fun _ =>
  opN p_ (sStore 134 x5 x10) Kp fun _ =>
  opN p_ (sLoad 134 x4) Kp fun x12 =>
  opN p_ (sLoad 134 x5) Kp fun x13 =>
  opN p_ (sCall (fn 91) [v1, x12, x13]) Kp fun x14 =>
  drS (stD p_ (sLoad 79 x2) fun D0 x15 =>
   stD p_ (sLoad 134 x4) fun D1 x16 =>
   stD p_ (sLoad 134 x5) fun D2 x17 =>
   opN p_ (sCall (fn 89) [v1]) Kp fun x19 =>
   (fun w => D2 w /\ (fun w => D1 w /\ (fun w => D0 w /\ (opN p_ (sCall (fn 87) [x15, x16, x17, x19]) Kp fun x20 =>
       K (.tuple #[])) w) w) w))
def deflate_block_dynamic_an : Ann := { cuts := [], blks := [], loops := [], drs := [(3, .ofL [(0, 3), (1, 3), (2, 3), (3, 1), (4, 0), (5, 0)])] }
theorem deflate_block_dynamic_eq (v0 v1 : Value) (Kp : PK) (K : Value -> WP) : cevF p_ deflate_block_dynamic_an Tryz.f67 [v0, v1] Kp K = deflate_block_dynamic v0 v1 Kp K := by kernel_rfl
theorem deflate_block_dynamic_calls {v0 v1 : Value} {Kp : PK} {K : Value -> WP} {w : World} (h : deflate_block_dynamic v0 v1 Kp K w) : Calls p_ 67 #[v0, v1] w (after Kp K) :=
 calls_of_shape (calls_of_cev wide Tryz.func67 (an := deflate_block_dynamic_an) (args := [v0, v1]) (cast (congrFun (deflate_block_dynamic_eq v0 v1 Kp K) w).symm h))
theorem deflate_block_dynamic_cn {v0 v1 : Value} {W : World} {α : Type} {A : List HP} {r : α -> Value} {B : α -> List HP} (h : ∀ F, Ent W (A ++ F) (deflate_block_dynamic v0 v1 noP fun v w => ∃ x, v = r x /\ sat W (B x ++ F) w)) : Cn p_ 67 [v0, v1] W A r B :=
 Cn.of (shape := deflate_block_dynamic v0 v1) Tryz.call67 (fun h => deflate_block_dynamic_calls h) h
def deflate_block_size (v0 v1 v2 : Value) (Kp : PK) (K : Value -> WP) : WP :=
 opN p_ (sBox 79 v0) Kp fun x3 =>
 opN p_ (sCall (fn 48) []) Kp fun x8 =>
 opN p_ (sBin .rem 3 v2 (.int .i64 8)) Kp fun x11 =>
 opN p_ (sCall (fn 51) [x8, (.int .i64 0), x11]) Kp fun x12 =>
 opN p_ (sCall (fn 51) [x8, (.int .i64 0), (.int .i64 3)]) Kp fun x14 =>
 opN p_ (sLoad 79 x3) Kp fun x16 =>
 opN p_ (sCall v1 [x16, x8]) Kp fun x18 =>
 opN p_ (sCall (fn 69) [x8]) Kp fun x20 =>
 opN p_ (sBin .rem 3 v2 (.int .i64 8)) Kp fun x22 =>
 opN p_ (sBin .sub 3 x20 x22) Kp fun x23 =>
 K x23
def deflate_block_size_an : Ann := { cuts := [], blks := [], loops := [], drs := [] }
theorem deflate_block_size_eq (v0 v1 v2 : Value) (Kp : PK) (K : Value -> WP) : cevF p_ deflate_block_size_an Tryz.f68 [v0, v1, v2] Kp K = deflate_block_size v0 v1 v2 Kp K := by kernel_rfl
theorem deflate_block_size_calls {v0 v1 v2 : Value} {Kp : PK} {K : Value -> WP} {w : World} (h : deflate_block_size v0 v1 v2 Kp K w) : Calls p_ 68 #[v0, v1, v2] w (after Kp K) :=
 calls_of_shape (calls_of_cev wide Tryz.func68 (an := deflate_block_size_an) (args := [v0, v1, v2]) (cast (congrFun (deflate_block_size_eq v0 v1 v2 Kp K) w).symm h))
theorem deflate_block_size_cn {v0 v1 v2 : Value} {W : World} {α : Type} {A : List HP} {r : α -> Value} {B : α -> List HP} (h : ∀ F, Ent W (A ++ F) (deflate_block_size v0 v1 v2 noP fun v w => ∃ x, v = r x /\ sat W (B x ++ F) w)) : Cn p_ 68 [v0, v1, v2] W A r B :=
 Cn.of (shape := deflate_block_size v0 v1 v2) Tryz.call68 (fun h => deflate_block_size_calls h) h
def bits_Writer_Bits (v0 : Value) (Kp : PK) (K : Value → WP) : WP :=
  opN p_ (sCall (fn 70) [v0]) Kp fun x4 =>
  condS x4
  (K (.int .i64 0))
  (opN p_ (sNil v0) Kp fun x6 =>
   opN p_ (sFA 104 x6 1) Kp fun x7 =>
   opN p_ (sLoad 3 x7) Kp fun x8 =>
   K x8)
def bits_Writer_Bits_an : Ann := { cuts := [], blks := [], loops := [], drs := [] }
theorem bits_Writer_Bits_eq (v0 : Value) (Kp : PK) (K : Value -> WP) : cevF p_ bits_Writer_Bits_an Tryz.f69 [v0] Kp K = bits_Writer_Bits v0 Kp K := by kernel_rfl
theorem bits_Writer_Bits_calls {v0 : Value} {Kp : PK} {K : Value -> WP} {w : World} (h : bits_Writer_Bits v0 Kp K w) : Calls p_ 69 #[v0] w (after Kp K) :=
 calls_of_shape (calls_of_cev wide Tryz.func69 (an := bits_Writer_Bits_an) (args := [v0]) (cast (congrFun (bits_Writer_Bits_eq v0 Kp K) w).symm h))
theorem bits_Writer_Bits_cn {v0 : Value} {W : World} {α : Type} {A : List HP} {r : α -> Value} {B : α -> List HP} (h : ∀ F, Ent W (A ++ F) (bits_Writer_Bits v0 noP fun v w => ∃ x, v = r x /\ sat W (B x ++ F) w)) : Cn p_ 69 [v0] W A r B :=
 Cn.of (shape := bits_Writer_Bits v0) Tryz.call69 (fun h => bits_Writer_Bits_calls h) h
def bits_Writer_none (v0 : Value) (Kp : PK) (K : Value -> WP) : WP :=
 opN p_ (sEq .eql 73 (.tmp 3) (.const (.pointer none)) v0 (.pointer none)) Kp fun x4 =>
 gdK x4 false (fun k => k v0) fun x6 =>
 gdK x4 false (opN p_ (sNil x6) Kp) fun x7 =>
 gdK x4 false (opN p_ (sFA 104 x7 2) Kp) fun x8 =>
 gdK x4 false (opN p_ (sLoad 4 x8) Kp) fun x9 =>
 gdK x4 false (opN p_ (sUn .not x9) Kp) fun x10 =>
 opN p_ (sPick x4 (.bool true) x10) Kp fun x11 =>
 K x11
def bits_Writer_none_an : Ann := { cuts := [], blks := [], loops := [], drs := [] }
theorem bits_Writer_none_eq (v0 : Value) (Kp : PK) (K : Value -> WP) : cevF p_ bits_Writer_none_an Tryz.f70 [v0] Kp K = bits_Writer_none v0 Kp K := by kernel_rfl
theorem bits_Writer_none_calls {v0 : Value} {Kp : PK} {K : Value -> WP} {w : World} (h : bits_Writer_none v0 Kp K w) : Calls p_ 70 #[v0] w (after Kp K) :=
 calls_of_shape (calls_of_cev wide Tryz.func70 (an := bits_Writer_none_an) (args := [v0]) (cast (congrFun (bits_Writer_none_eq v0 Kp K) w).symm h))
theorem bits_Writer_none_cn {v0 : Value} {W : World} {α : Type} {A : List HP} {r : α -> Value} {B : α -> List HP} (h : ∀ F, Ent W (A ++ F) (bits_Writer_none v0 noP fun v w => ∃ x, v = r x /\ sat W (B x ++ F) w)) : Cn p_ 70 [v0] W A r B :=
 Cn.of (shape := bits_Writer_none v0) Tryz.call70 (fun h => bits_Writer_none_calls h) h
def bits_masks (Kp : PK) (K : Value -> WP) : WP :=
 opN p_ (sAlloc 115) Kp fun x0 =>
 opN p_ (sBuild 115 [(0, (.int .u8 1)), (1, (.int .u8 2)), (2, (.int .u8 4)), (3, (.int .u8 8)), (4, (.int .u8 16)), (5, (.int .u8 32)), (6, (.int .u8 64)), (7, (.int .u8 128))]) Kp fun x1 =>
 opN p_ (sStore 115 x0 x1) Kp fun _ =>
 (stS p_ (sRes 115 x0) fun r0 => K r0)
def bits_masks_an : Ann := { cuts := [], blks := [], loops := [], drs := [] }
theorem bits_masks_eq (Kp : PK) (K : Value -> WP) : cevF p_ bits_masks_an Tryz.f71 [] Kp K = bits_masks Kp K := by kernel_rfl
theorem bits_masks_calls  {Kp : PK} {K : Value -> WP} {w : World} (h : bits_masks Kp K w) : Calls p_ 71 #[] w (after Kp K) :=
 calls_of_shape (calls_of_cev wide Tryz.func71 (an := bits_masks_an) (args := []) (cast (congrFun (bits_masks_eq Kp K) w).symm h))
theorem bits_masks_cn  {W : World} {α : Type} {A : List HP} {r : α -> Value} {B : α -> List HP} (h : ∀ F, Ent W (A ++ F) (bits_masks noP fun v w => ∃ x, v = r x /\ sat W (B x ++ F) w)) : Cn p_ 71 [] W A r B :=
 Cn.of (shape := bits_masks) Tryz.call71 (fun h => bits_masks_calls h) h
def bits_Writer_Align (v0 : Value) (Kp : PK) (K : Value → WP) : WP :=
  opN p_ (sCall (fn 70) [v0]) Kp fun x3 =>
  opN p_ (sUn .not x3) Kp fun x4 =>
  condS x4
  (opN p_ (sNil v0) Kp fun x7 =>
   opN p_ (sFA 104 x7 0) Kp fun x8 =>
   opN p_ (sLoad 22 x8) Kp fun x9 =>
   opN p_ (sLen #[22] 3 [x9]) Kp fun x10 =>
   opN p_ (sBin .mul 3 (.int .i64 8) x10) Kp fun x11 =>
   opN p_ (sNil v0) Kp fun x12 =>
   opN p_ (sFA 104 x12 1) Kp fun x13 =>
   opN p_ (sStore 3 x13 x11) Kp fun _ =>
   K (.tuple #[]))
  (K (.tuple #[]))
def bits_Writer_Align_an : Ann := { cuts := [], blks := [], loops := [], drs := [] }
theorem bits_Writer_Align_eq (v0 : Value) (Kp : PK) (K : Value -> WP) : cevF p_ bits_Writer_Align_an Tryz.f72 [v0] Kp K = bits_Writer_Align v0 Kp K := by kernel_rfl
theorem bits_Writer_Align_calls {v0 : Value} {Kp : PK} {K : Value -> WP} {w : World} (h : bits_Writer_Align v0 Kp K w) : Calls p_ 72 #[v0] w (after Kp K) :=
 calls_of_shape (calls_of_cev wide Tryz.func72 (an := bits_Writer_Align_an) (args := [v0]) (cast (congrFun (bits_Writer_Align_eq v0 Kp K) w).symm h))
theorem bits_Writer_Align_cn {v0 : Value} {W : World} {α : Type} {A : List HP} {r : α -> Value} {B : α -> List HP} (h : ∀ F, Ent W (A ++ F) (bits_Writer_Align v0 noP fun v w => ∃ x, v = r x /\ sat W (B x ++ F) w)) : Cn p_ 72 [v0] W A r B :=
 Cn.of (shape := bits_Writer_Align v0) Tryz.call72 (fun h => bits_Writer_Align_calls h) h
def bits_Writer_Raw (v0 v1 : Value) (Kp : PK) (K : Value → WP) : WP :=
  opN p_ (sCall (fn 70) [v0]) Kp fun x7 =>
  condS x7
  (K (.int .i64 1))
  (opN p_ (sLen #[22] 3 [v1]) Kp fun x10 =>
   opN p_ (sNil v0) Kp fun x12 =>
   opN p_ (sFA 104 x12 0) Kp fun x13 =>
   opN p_ (sLoad 22 x13) Kp fun x14 =>
   opN p_ (sLen #[22] 3 [x14]) Kp fun x15 =>
   opN p_ (sBin .sub 3 (.int .i64 1048576) x15) Kp fun x16 =>
   opN p_ (sBin .gtr 3 x10 x16) Kp fun x17 =>
   condS x17
   (K (.int .i64 6))
   (opN p_ (sNil v0) Kp fun x20 =>
    opN p_ (sFA 104 x20 0) Kp fun x21 =>
    opN p_ (sLoad 22 x21) Kp fun x22 =>
    opN p_ (sApp #[22, 22] 22 [x22, v1]) Kp fun x24 =>
    opN p_ (sNil v0) Kp fun x25 =>
    opN p_ (sFA 104 x25 0) Kp fun x26 =>
    opN p_ (sStore 22 x26 x24) Kp fun _ =>
    opN p_ (sCall (fn 72) [v0]) Kp fun x28 =>
    K (.int .i64 0)))
def bits_Writer_Raw_an : Ann := { cuts := [], blks := [], loops := [], drs := [] }
theorem bits_Writer_Raw_eq (v0 v1 : Value) (Kp : PK) (K : Value -> WP) : cevF p_ bits_Writer_Raw_an Tryz.f73 [v0, v1] Kp K = bits_Writer_Raw v0 v1 Kp K := by kernel_rfl
theorem bits_Writer_Raw_calls {v0 v1 : Value} {Kp : PK} {K : Value -> WP} {w : World} (h : bits_Writer_Raw v0 v1 Kp K w) : Calls p_ 73 #[v0, v1] w (after Kp K) :=
 calls_of_shape (calls_of_cev wide Tryz.func73 (an := bits_Writer_Raw_an) (args := [v0, v1]) (cast (congrFun (bits_Writer_Raw_eq v0 v1 Kp K) w).symm h))
theorem bits_Writer_Raw_cn {v0 v1 : Value} {W : World} {α : Type} {A : List HP} {r : α -> Value} {B : α -> List HP} (h : ∀ F, Ent W (A ++ F) (bits_Writer_Raw v0 v1 noP fun v w => ∃ x, v = r x /\ sat W (B x ++ F) w)) : Cn p_ 73 [v0, v1] W A r B :=
 Cn.of (shape := bits_Writer_Raw v0 v1) Tryz.call73 (fun h => bits_Writer_Raw_calls h) h
def ref06_pieces (v0 v1 : Value) (Kp : PK) (K : Value → WP) : WP :=
  opN p_ (sEq .eql 3 (.tmp 9) (.const (.int .i64 0)) v1 (.int .i64 0)) Kp fun x10 =>
  condS x10
  (loop2 (fun I1 m1 _ y5 y6 =>
    opN p_ (sLen #[22] 3 [v0]) Kp fun x13 =>
    opN p_ (sBin .lss 3 y6 x13) Kp fun x14 =>
    condS x14
    (opN p_ (sIA 22 v0 y6) Kp fun x20 =>
     opN p_ (sLoad 5 x20) Kp fun x21 =>
     opN p_ (sBuild 118 [(2, x21)]) Kp fun x22 =>
     opN p_ (sBuildSl 90 1 [(0, x22)]) Kp fun x23 =>
     opN p_ (sApp #[90, 90] 90 [y5, x23]) Kp fun x24 =>
     opN p_ (sBin .add 3 y6 (.int .i64 1)) Kp fun x16 =>
     next2 I1 m1 x24 x16)
    (K y5)) (.slice none 0 0) (.int .i64 0))
  (opN p_ (sConv 3 55 v1) Kp fun x29 =>
   opN p_ (sBin .shl 3 (.int .i64 2) x29) Kp fun x30 =>
   opN p_ (sCall (fn 92) [v0, (.int .i64 32768), x30]) Kp fun x31 =>
   opN p_ (sExt x31 0) Kp fun x32 =>
   opN p_ (sExt x31 1) Kp fun x33 =>
   K x32)
def ref06_pieces_an : Ann := { cuts := [], blks := [], loops := [(4, [5, 6])], drs := [] }
theorem ref06_pieces_eq (v0 v1 : Value) (Kp : PK) (K : Value -> WP) : cevF p_ ref06_pieces_an Tryz.f74 [v0, v1] Kp K = ref06_pieces v0 v1 Kp K := by kernel_rfl
theorem ref06_pieces_calls {v0 v1 : Value} {Kp : PK} {K : Value -> WP} {w : World} (h : ref06_pieces v0 v1 Kp K w) : Calls p_ 74 #[v0, v1] w (after Kp K) :=
 calls_of_shape (calls_of_cev wide Tryz.func74 (an := ref06_pieces_an) (args := [v0, v1]) (cast (congrFun (ref06_pieces_eq v0 v1 Kp K) w).symm h))
theorem ref06_pieces_cn {v0 v1 : Value} {W : World} {α : Type} {A : List HP} {r : α -> Value} {B : α -> List HP} (h : ∀ F, Ent W (A ++ F) (ref06_pieces v0 v1 noP fun v w => ∃ x, v = r x /\ sat W (B x ++ F) w)) : Cn p_ 74 [v0, v1] W A r B :=
 Cn.of (shape := ref06_pieces v0 v1) Tryz.call74 (fun h => ref06_pieces_calls h) h
def ref06_way (v0 v1 v2 : Value) (Kp : PK) (K : Value → WP) : WP :=
  opN p_ (sBox 92 v2) Kp fun x5 =>
  opN p_ (sBuild 86 []) Kp fun x12 =>
  opN p_ (sBox 86 x12) Kp fun x13 =>
  opN p_ (sCall (fn 56) [x13, v1, (.int .i64 1)]) Kp fun x16 =>
  opN p_ (sCall (fn 56) [x13, v0, (.int .i64 2)]) Kp fun x19 =>
  opN p_ (sEq .eql 3 (.tmp 20) (.const (.int .i64 1)) v0 (.int .i64 1)) Kp fun x22 =>
  condS x22
  (opN p_ (sCall (fn 93) []) Kp fun x24 =>
   opN p_ (sExt x24 0) Kp fun x25 =>
   opN p_ (sExt x24 1) Kp fun x26 =>
   opN p_ (sLoad 92 x5) Kp fun x28 =>
   opN p_ (sCall (fn 94) [x13, x28, x25, x26]) Kp fun x31 =>
   K x13)
  (opN p_ (sEq .eql 3 (.tmp 20) (.const (.int .i64 2)) v0 (.int .i64 2)) Kp fun x33 =>
   condS x33
   (opN p_ (sLoad 92 x5) Kp fun x35 =>
    opN p_ (sCall (fn 95) [x35]) Kp fun x36 =>
    opN p_ (sExt x36 0) Kp fun x37 =>
    opN p_ (sExt x36 1) Kp fun x38 =>
    opN p_ (sCall (fn 96) [x13, x37, x38]) Kp fun x42 =>
    opN p_ (sLoad 92 x5) Kp fun x44 =>
    opN p_ (sCall (fn 94) [x13, x44, x37, x38]) Kp fun x47 =>
    K x13)
   (K x13))
def ref06_way_an : Ann := { cuts := [], blks := [], loops := [], drs := [] }
theorem ref06_way_eq (v0 v1 v2 : Value) (Kp : PK) (K : Value -> WP) : cevF p_ ref06_way_an Tryz.f75 [v0, v1, v2] Kp K = ref06_way v0 v1 v2 Kp K := by kernel_rfl
theorem ref06_way_calls {v0 v1 v2 : Value} {Kp : PK} {K : Value -> WP} {w : World} (h : ref06_way v0 v1 v2 Kp K w) : Calls p_ 75 #[v0, v1, v2] w (after Kp K) :=
 calls_of_shape (calls_of_cev wide Tryz.func75 (an := ref06_way_an) (args := [v0, v1, v2]) (cast (congrFun (ref06_way_eq v0 v1 v2 Kp K) w).symm h))
theorem ref06_way_cn {v0 v1 v2 : Value} {W : World} {α : Type} {A : List HP} {r : α -> Value} {B : α -> List HP} (h : ∀ F, Ent W (A ++ F) (ref06_way v0 v1 v2 noP fun v w => ∃ x, v = r x /\ sat W (B x ++ F) w)) : Cn p_ 75 [v0, v1, v2] W A r B :=
 Cn.of (shape := ref06_way v0 v1 v2) Tryz.call75 (fun h => ref06_way_calls h) h
def ref02_Writer_Align (v0 : Value) (Kp : PK) (K : Value → WP) : WP :=
  loop0 (fun I1 m1 _  =>
   opN p_ (sNil v0) Kp fun x3 =>
   opN p_ (sFA 86 x3 0) Kp fun x4 =>
   opN p_ (sLoad 22 x4) Kp fun x5 =>
   opN p_ (sLen #[22] 3 [x5]) Kp fun x6 =>
   opN p_ (sBin .rem 3 x6 (.int .i64 8)) Kp fun x7 =>
   opN p_ (sEq .neq 3 (.tmp 7) (.const (.int .i64 0)) x7 (.int .i64 0)) Kp fun x8 =>
   condS x8
   (opN p_ (sNil v0) Kp fun x11 =>
    opN p_ (sFA 86 x11 0) Kp fun x12 =>
    opN p_ (sLoad 22 x12) Kp fun x13 =>
    opN p_ (sBuildSl 22 1 [(0, (.int .u8 0))]) Kp fun x14 =>
    opN p_ (sApp #[22, 22] 22 [x13, x14]) Kp fun x15 =>
    opN p_ (sNil v0) Kp fun x16 =>
    opN p_ (sFA 86 x16 0) Kp fun x17 =>
    opN p_ (sStore 22 x17 x15) Kp fun _ =>
    next0 I1 m1)
   (K (.tuple #[])))
def ref02_Writer_Align_an : Ann := { cuts := [], blks := [], loops := [(0, [])], drs := [] }
theorem ref02_Writer_Align_eq (v0 : Value) (Kp : PK) (K : Value -> WP) : cevF p_ ref02_Writer_Align_an Tryz.f76 [v0] Kp K = ref02_Writer_Align v0 Kp K := by kernel_rfl
theorem ref02_Writer_Align_calls {v0 : Value} {Kp : PK} {K : Value -> WP} {w : World} (h : ref02_Writer_Align v0 Kp K w) : Calls p_ 76 #[v0] w (after Kp K) :=
 calls_of_shape (calls_of_cev wide Tryz.func76 (an := ref02_Writer_Align_an) (args := [v0]) (cast (congrFun (ref02_Writer_Align_eq v0 Kp K) w).symm h))
theorem ref02_Writer_Align_cn {v0 : Value} {W : World} {α : Type} {A : List HP} {r : α -> Value} {B : α -> List HP} (h : ∀ F, Ent W (A ++ F) (ref02_Writer_Align v0 noP fun v w => ∃ x, v = r x /\ sat W (B x ++ F) w)) : Cn p_ 76 [v0] W A r B :=
 Cn.of (shape := ref02_Writer_Align v0) Tryz.call76 (fun h => ref02_Writer_Align_calls h) h
def ref02_Writer_Raw (v0 v1 : Value) (Kp : PK) (K : Value → WP) : WP :=
  opN p_ (sNil v0) Kp fun x8 =>
  opN p_ (sFA 86 x8 0) Kp fun x9 =>
  opN p_ (sLoad 22 x9) Kp fun x10 =>
  opN p_ (sLen #[22] 3 [x10]) Kp fun x11 =>
  opN p_ (sBin .add 3 x11 (.int .i64 7)) Kp fun x12 =>
  opN p_ (sBin .quo 3 x12 (.int .i64 8)) Kp fun x13 =>
  opN p_ (sLen #[22] 3 [v1]) Kp fun x15 =>
  opN p_ (sBin .sub 3 (.int .i64 1048576) x13) Kp fun x17 =>
  opN p_ (sBin .gtr 3 x15 x17) Kp fun x18 =>
  condS x18
  (K (.int .i64 6))
  (opN p_ (sCall (fn 76) [v0]) Kp fun x20 =>
   loop1 (fun I1 m1 _ y6 =>
    opN p_ (sLen #[22] 3 [v1]) Kp fun x23 =>
    opN p_ (sBin .lss 3 y6 x23) Kp fun x24 =>
    condS x24
    (opN p_ (sIA 22 v1 y6) Kp fun x30 =>
     opN p_ (sLoad 5 x30) Kp fun x31 =>
     opN p_ (sConv 5 3 x31) Kp fun x32 =>
     opN p_ (sCall (fn 56) [v0, x32, (.int .i64 8)]) Kp fun x33 =>
     opN p_ (sBin .add 3 y6 (.int .i64 1)) Kp fun x26 =>
     next1 I1 m1 x26)
    (K (.int .i64 0))) (.int .i64 0))
def ref02_Writer_Raw_an : Ann := { cuts := [], blks := [], loops := [(6, [6])], drs := [] }
theorem ref02_Writer_Raw_eq (v0 v1 : Value) (Kp : PK) (K : Value -> WP) : cevF p_ ref02_Writer_Raw_an Tryz.f77 [v0, v1] Kp K = ref02_Writer_Raw v0 v1 Kp K := by kernel_rfl
theorem ref02_Writer_Raw_calls {v0 v1 : Value} {Kp : PK} {K : Value -> WP} {w : World} (h : ref02_Writer_Raw v0 v1 Kp K w) : Calls p_ 77 #[v0, v1] w (after Kp K) :=
 calls_of_shape (calls_of_cev wide Tryz.func77 (an := ref02_Writer_Raw_an) (args := [v0, v1]) (cast (congrFun (ref02_Writer_Raw_eq v0 v1 Kp K) w).symm h))
theorem ref02_Writer_Raw_cn {v0 v1 : Value} {W : World} {α : Type} {A : List HP} {r : α -> Value} {B : α -> List HP} (h : ∀ F, Ent W (A ++ F) (ref02_Writer_Raw v0 v1 noP fun v w => ∃ x, v = r x /\ sat W (B x ++ F) w)) : Cn p_ 77 [v0, v1] W A r B :=
 Cn.of (shape := ref02_Writer_Raw v0 v1) Tryz.call77 (fun h => ref02_Writer_Raw_calls h) h
def lz_finder_learn (v0 v1 : Value) (Kp : PK) (K : Value → WP) : WP :=
  loop0 (fun I1 m1 _  =>
   drS (stS p_ (sNil v0) fun x6 =>
    stS p_ (sFA 127 x6 2) fun x7 =>
    stS p_ (sLoad 3 x7) fun x8 =>
    stS p_ (sBin .lss 3 x8 v1) fun x10 =>
    gdK x10 true (fun k => k v0) fun x12 =>
    gdK x10 true (stS p_ (sNil x12)) fun x13 =>
    gdK x10 true (stS p_ (sFA 127 x13 2)) fun x14 =>
    gdK x10 true (stS p_ (sLoad 3 x14)) fun x15 =>
    gdK x10 true (stS p_ (sBin .add 3 x15 (.int .i64 3))) fun x16 =>
    gdK x10 true (fun k => k v0) fun x17 =>
    gdK x10 true (stS p_ (sNil x17)) fun x18 =>
    gdK x10 true (stS p_ (sFA 127 x18 0)) fun x19 =>
    gdK x10 true (stS p_ (sLoad 22 x19)) fun x20 =>
    gdK x10 true (stS p_ (sLen #[22] 3 [x20])) fun x21 =>
    gdK x10 true (stS p_ (sBin .leq 3 x16 x21)) fun x22 =>
    stS p_ (sPick x10 x22 (.bool false)) fun x23 =>
    condS x23
    (drS (stD p_ (sNil v0) fun D1 x32 =>
      stD p_ (sFA 127 x32 0) fun D2 x33 =>
      stD p_ (sLoad 22 x33) fun D3 x34 =>
      stD p_ (sNil v0) fun D5 x36 =>
      stD p_ (sFA 127 x36 2) fun D6 x37 =>
      stD p_ (sLoad 3 x37) fun D7 x38 =>
      stD p_ (sSl 22 x34 (some x38) none none) fun D8 x39 =>
      stD p_ (sArrP 147 x39) fun D9 x40 =>
      stD p_ (sLoad 147 x40) fun D10 x41 =>
      opN p_ (sAlloc 147) Kp fun x4 =>
      (fun w => D10 w ∧ (fun w => D9 w ∧ (fun w => D8 w ∧ (fun w => D7 w ∧ (fun w => D6 w ∧ (fun w => D5 w ∧ (fun w => D3 w ∧ (fun w => D2 w ∧ (fun w => D1 w ∧ (opN p_ (sStore 147 x4 x41) Kp fun _ =>
                drS (stD p_ (sNil v0) fun D1 x43 =>
                 stD p_ (sFA 127 x43 1) fun D2 x44 =>
                 stD p_ (sLoad 125 x44) fun D3 x45 =>
                 stD p_ (sLoad 147 x4) fun D4 x46 =>
                 stS p_ (sNil v0) fun x49 =>
                 stS p_ (sFA 127 x49 2) fun x50 =>
                 stS p_ (sLoad 3 x50) fun x51 =>
                 opN p_ (sBuildSl 129 1 [(0, x51)]) Kp fun x52 =>
                 (fun w => D4 w ∧ (fun w => D3 w ∧ (fun w => D2 w ∧ (fun w => D1 w ∧ (opN p_ (sMapEnt 125 x45 x46) Kp fun x53 =>
                      stS p_ (sExt x53 0) fun x47 =>
                      stD p_ (sExt x53 1) fun D13 x55 =>
                      opN p_ (sApp #[129, 129] 129 [x47, x52]) Kp fun x54 =>
                      (fun w => D13 w ∧ (opN p_ (sEntSt 125 x45 x55 x54) Kp fun _ =>
                      opN p_ (sNil v0) Kp fun x25 =>
                      opN p_ (sFA 127 x25 2) Kp fun x26 =>
                      opN p_ (sLoad 3 x26) Kp fun x27 =>
                      opN p_ (sBin .add 3 x27 (.int .i64 1)) Kp fun x28 =>
                      opN p_ (sNil v0) Kp fun x29 =>
                      opN p_ (sFA 127 x29 2) Kp fun x30 =>
                      opN p_ (sStore 3 x30 x28) Kp fun _ =>
                      next0 I1 m1) w)) w) w) w) w))) w) w) w) w) w) w) w) w) w)))
    (K (.tuple #[]))))
def lz_finder_learn_an : Ann := { cuts := [], blks := [], loops := [(0, [])], drs := [(0, .ofL [(0, 1), (1, 1), (2, 1), (3, 1), (4, 1), (5, 1), (6, 1), (7, 1), (8, 1), (9, 1), (10, 1), (11, 1), (12, 1), (13, 1), (14, 1), (15, 1), (16, 1), (17, 1), (18, 1)]), (2, .ofL [(0, 2), (1, 3), (2, 3), (3, 3), (4, 2), (5, 3), (6, 3), (7, 3), (8, 3), (9, 3), (10, 3), (11, 0), (12, 0)]), (3, .ofL [(0, 2), (1, 3), (2, 3), (3, 3), (4, 3), (5, 1), (6, 1), (7, 1), (8, 1), (9, 0), (10, 0), (11, 1), (13, 3), (12, 0), (14, 0)])] }
theorem lz_finder_learn_eq (v0 v1 : Value) (Kp : PK) (K : Value -> WP) : cevF p_ lz_finder_learn_an Tryz.f84 [v0, v1] Kp K = lz_finder_learn v0 v1 Kp K := by kernel_rfl
theorem lz_finder_learn_calls {v0 v1 : Value} {Kp : PK} {K : Value -> WP} {w : World} (h : lz_finder_learn v0 v1 Kp K w) : Calls p_ 84 #[v0, v1] w (after Kp K) :=
 calls_of_shape (calls_of_cev wide Tryz.func84 (an := lz_finder_learn_an) (args := [v0, v1]) (cast (congrFun (lz_finder_learn_eq v0 v1 Kp K) w).symm h))
theorem lz_finder_learn_cn {v0 v1 : Value} {W : World} {α : Type} {A : List HP} {r : α -> Value} {B : α -> List HP} (h : ∀ F, Ent W (A ++ F) (lz_finder_learn v0 v1 noP fun v w => ∃ x, v = r x /\ sat W (B x ++ F) w)) : Cn p_ 84 [v0, v1] W A r B :=
 Cn.of (shape := lz_finder_learn v0 v1) Tryz.call84 (fun h => lz_finder_learn_calls h) h
def lz_finder_piece (v0 v1 : Value) (Kp : PK) (K : Value → WP) : WP :=
  opN p_ (sBox 124 v0) Kp fun x2 =>
  opN p_ (sBox 3 v1) Kp fun x3 =>
  opN p_ (sAlloc 108) Kp fun x4 =>
  drS (stD p_ (sLoad 124 x2) fun D0 x8 =>
   stD p_ (sNil x8) fun D1 x9 =>
   stD p_ (sFA 127 x9 0) fun D2 x10 =>
   stD p_ (sLoad 22 x10) fun D3 x11 =>
   stD p_ (sLoad 3 x3) fun D4 x12 =>
   stD p_ (sIA 22 x11 x12) fun D5 x13 =>
   stD p_ (sLoad 5 x13) fun D6 x14 =>
   stD p_ (sBuild 108 [(2, x14)]) fun D7 x15 =>
   opN p_ (sAlloc 108) Kp fun x5 =>
   (fun w => D7 w ∧ (fun w => D6 w ∧ (fun w => D5 w ∧ (fun w => D4 w ∧ (fun w => D3 w ∧ (fun w => D2 w ∧ (fun w => D1 w ∧ (fun w => D0 w ∧ (opN p_ (sStore 108 x5 x15) Kp fun _ =>
            opN p_ (sLoad 124 x2) Kp fun x16 =>
            opN p_ (sLoad 3 x3) Kp fun x17 =>
            opN p_ (sCall (fn 101) [x16, x17]) Kp fun x18 =>
            rfS p_ x18 1 (fun u19 B1 N1 J1r =>
             B1 (opN p_ (sLoad 124 x2) noK fun x20 =>
              opN p_ (sLoad 3 x3) noK fun x22 =>
              opN p_ (sCall (fn 102) [x20, u19, x22]) noK fun x23 =>
              opN p_ (sFA 108 x5 0) noK fun x25 =>
              opN p_ (sLoad 3 x25) noK fun x26 =>
              opN p_ (sBin .gtr 3 x23 x26) noK fun x27 =>
              condS x27
              (opN p_ (sLoad 3 x3) noK fun x29 =>
               opN p_ (sBin .sub 3 x29 u19) noK fun x31 =>
               opN p_ (sBuild 108 [(0, x23), (1, x31)]) noK fun x32 =>
               opN p_ (sStore 108 x5 x32) noK fun _ =>
               N1)
              (N1))) (fun d1 =>
             opN p_ (sLoad 108 x5) (KpM [d1] Kp) fun x33 =>
             opN p_ (sStore 108 x4 x33) (KpM [d1] Kp) fun _ =>
             (tkS d1 ((stS p_ (sRes 108 x4) fun r0 => K r0)))) (fun d1 => (tkS d1 ((stS p_ (sRes 108 x4) fun r0 => K r0)))) (fun d1 ch => (tkS d1 (Kp ch)))) w) w) w) w) w) w) w) w))
def lz_finder_piece_an : Ann := { cuts := [], blks := [], loops := [], drs := [(1, .ofL [(0, 3), (1, 3), (2, 3), (3, 3), (4, 3), (5, 3), (6, 3), (7, 3), (8, 0), (9, 0)])] }
theorem lz_finder_piece_eq (v0 v1 : Value) (Kp : PK) (K : Value -> WP) : cevFT p_ lz_finder_piece_an Tryz.f85 [v0, v1] Kp K = lz_finder_piece v0 v1 Kp K := by kernel_rfl
theorem lz_finder_piece_calls {v0 v1 : Value} {Kp : PK} {K : Value -> WP} {w : World} (h : lz_finder_piece v0 v1 Kp K w) : Calls p_ 85 #[v0, v1] w (after Kp K) :=
 calls_of_shape (calls_of_cevT wide Tryz.func85 (an := lz_finder_piece_an) (args := [v0, v1]) (cast (congrFun (lz_finder_piece_eq v0 v1 Kp K) w).symm h))
theorem lz_finder_piece_cn {v0 v1 : Value} {W : World} {α : Type} {A : List HP} {r : α -> Value} {B : α -> List HP} (h : ∀ F, Ent W (A ++ F) (lz_finder_piece v0 v1 noP fun v w => ∃ x, v = r x /\ sat W (B x ++ F) w)) : Cn p_ 85 [v0, v1] W A r B :=
 Cn.of (shape := lz_finder_piece v0 v1) Tryz.call85 (fun h => lz_finder_piece_calls h) h
def inflate_Fixed (Kp : PK) (K : Value -> WP) : WP :=
 opN p_ (sCall (fn 103) [(.slice none 0 0), (.int .i64 144), (.int .i64 8)]) Kp fun x7 =>
 opN p_ (sCall (fn 103) [x7, (.int .i64 112), (.int .i64 9)]) Kp fun x8 =>
 opN p_ (sCall (fn 103) [x8, (.int .i64 24), (.int .i64 7)]) Kp fun x9 =>
 opN p_ (sCall (fn 103) [x9, (.int .i64 8), (.int .i64 8)]) Kp fun x10 =>
 opN p_ (sCall (fn 103) [(.slice none 0 0), (.int .i64 32), (.int .i64 5)]) Kp fun x13 =>
 K (.tuple #[x10, x13])
def inflate_Fixed_an : Ann := { cuts := [], blks := [], loops := [], drs := [] }
theorem inflate_Fixed_eq (Kp : PK) (K : Value -> WP) : cevF p_ inflate_Fixed_an Tryz.f86 [] Kp K = inflate_Fixed Kp K := by kernel_rfl
theorem inflate_Fixed_calls  {Kp : PK} {K : Value -> WP} {w : World} (h : inflate_Fixed Kp K w) : Calls p_ 86 #[] w (after Kp K) :=
 calls_of_shape (calls_of_cev wide Tryz.func86 (an := inflate_Fixed_an) (args := []) (cast (congrFun (inflate_Fixed_eq Kp K) w).symm h))
theorem inflate_Fixed_cn  {W : World} {α : Type} {A : List HP} {r : α -> Value} {B : α -> List HP} (h : ∀ F, Ent W (A ++ F) (inflate_Fixed noP fun v w => ∃ x, v = r x /\ sat W (B x ++ F) w)) : Cn p_ 86 [] W A r B :=
 Cn.of (shape := inflate_Fixed) Tryz.call86 (fun h => inflate_Fixed_calls h) h
def deflate_block_symbols (v0 v1 v2 v3 : Value) (Kp : PK) (K : Value → WP) : WP :=
  opN p_ (sBox 79 v0) Kp fun x4 =>
  opN p_ (sBox 134 v1) Kp fun x5 =>
  opN p_ (sBox 134 v2) Kp fun x6 =>
  opN p_ (sFA 79 x4 0) Kp fun x13 =>
  opN p_ (sLoad 77 x13) Kp fun x14 =>
  opN p_ (sLen #[77] 3 [x14]) Kp fun x15 =>
  loop1 (fun I1 m1 _ y16 =>
   opN p_ (sBin .lss 3 y16 x15) Kp fun x17 =>
   condS x17
   (opN p_ (sIA 77 x14 y16) Kp fun x18 =>
    opN p_ (sLoad 108 x18) Kp fun x19 =>
    opN p_ (sAlloc 108) Kp fun x9 =>
    opN p_ (sStore 108 x9 x19) Kp fun _ =>
    opN p_ (sFA 108 x9 0) Kp fun x20 =>
    opN p_ (sLoad 3 x20) Kp fun x21 =>
    opN p_ (sEq .eql 3 (.tmp 21) (.const (.int .i64 0)) x21 (.int .i64 0)) Kp fun x22 =>
    condS x22
    (opN p_ (sLoad 134 x5) Kp fun x24 =>
     opN p_ (sFA 108 x9 2) Kp fun x25 =>
     opN p_ (sLoad 5 x25) Kp fun x26 =>
     opN p_ (sConv 5 3 x26) Kp fun x27 =>
     opN p_ (sCall v3 [x24, x27, (.int .i64 0), (.int .i64 0)]) Kp fun x28 =>
     opN p_ (sBin .add 3 y16 (.int .i64 1)) Kp fun x55 =>
     next1 I1 m1 x55)
    (opN p_ (sFA 108 x9 0) Kp fun x30 =>
     opN p_ (sLoad 3 x30) Kp fun x31 =>
     opN p_ (sCall (fn 104) [x31]) Kp fun x32 =>
     opN p_ (sExt x32 0) Kp fun x33 =>
     opN p_ (sExt x32 1) Kp fun x34 =>
     opN p_ (sExt x32 2) Kp fun x35 =>
     opN p_ (sLoad 134 x5) Kp fun x37 =>
     opN p_ (sCall v3 [x37, x33, x34, x35]) Kp fun x41 =>
     opN p_ (sFA 108 x9 1) Kp fun x43 =>
     opN p_ (sLoad 3 x43) Kp fun x44 =>
     opN p_ (sCall (fn 105) [x44]) Kp fun x45 =>
     opN p_ (sExt x45 0) Kp fun x46 =>
     opN p_ (sExt x45 1) Kp fun x47 =>
     opN p_ (sExt x45 2) Kp fun x48 =>
     opN p_ (sLoad 134 x6) Kp fun x50 =>
     opN p_ (sCall v3 [x50, x46, x47, x48]) Kp fun x54 =>
     opN p_ (sBin .add 3 y16 (.int .i64 1)) Kp fun x55 =>
     next1 I1 m1 x55))
   (opN p_ (sLoad 134 x5) Kp fun x57 =>
    opN p_ (sCall v3 [x57, (.int .i64 256), (.int .i64 0), (.int .i64 0)]) Kp fun x58 =>
    K (.tuple #[]))) (.int .i64 0)
def deflate_block_symbols_an : Ann := { cuts := [], blks := [], loops := [(2, [16])], drs := [] }
theorem deflate_block_symbols_eq (v0 v1 v2 v3 : Value) (Kp : PK) (K : Value -> WP) : cevF p_ deflate_block_symbols_an Tryz.f87 [v0, v1, v2, v3] Kp K = deflate_block_symbols v0 v1 v2 v3 Kp K := by kernel_rfl
theorem deflate_block_symbols_calls {v0 v1 v2 v3 : Value} {Kp : PK} {K : Value -> WP} {w : World} (h : deflate_block_symbols v0 v1 v2 v3 Kp K w) : Calls p_ 87 #[v0, v1, v2, v3] w (after Kp K) :=
 calls_of_shape (calls_of_cev wide Tryz.func87 (an := deflate_block_symbols_an) (args := [v0, v1, v2, v3]) (cast (congrFun (deflate_block_symbols_eq v0 v1 v2 v3 Kp K) w).symm h))
theorem deflate_block_symbols_cn {v0 v1 v2 v3 : Value} {W : World} {α : Type} {A : List HP} {r : α -> Value} {B : α -> List HP} (h : ∀ F, Ent W (A ++ F) (deflate_block_symbols v0 v1 v2 v3 noP fun v w => ∃ x, v = r x /\ sat W (B x ++ F) w)) : Cn p_ 87 [v0, v1, v2, v3] W A r B :=
 Cn.of (shape := deflate_block_symbols v0 v1 v2 v3) Tryz.call87 (fun h => deflate_block_symbols_calls h) h
def deflate_newSet (v0 : Value) (Kp : PK) (K : Value -> WP) : WP :=
 opN p_ (sAlloc 134) Kp fun x2 =>
 opN p_ (sCall (fn 106) [v0]) Kp fun x7 =>
 opN p_ (sExt x7 0) Kp fun x8 =>
 opN p_ (sExt x7 1) Kp fun x9 =>
 opN p_ (sBuild 134 [(0, v0), (1, x8)]) Kp fun x12 =>
 opN p_ (sStore 134 x2 x12) Kp fun _ =>
 (stS p_ (sRes 134 x2) fun r0 => K r0)
def deflate_newSet_an : Ann := { cuts := [], blks := [], loops := [], drs := [] }
theorem deflate_newSet_eq (v0 : Value) (Kp : PK) (K : Value -> WP) : cevF p_ deflate_newSet_an Tryz.f88 [v0] Kp K = deflate_newSet v0 Kp K := by kernel_rfl
theorem deflate_newSet_calls {v0 : Value} {Kp : PK} {K : Value -> WP} {w : World} (h : deflate_newSet v0 Kp K w) : Calls p_ 88 #[v0] w (after Kp K) :=
 calls_of_shape (calls_of_cev wide Tryz.func88 (an := deflate_newSet_an) (args := [v0]) (cast (congrFun (deflate_newSet_eq v0 Kp K) w).symm h))
theorem deflate_newSet_cn {v0 : Value} {W : World} {α : Type} {A : List HP} {r : α -> Value} {B : α -> List HP} (h : ∀ F, Ent W (A ++ F) (deflate_newSet v0 noP fun v w => ∃ x, v = r x /\ sat W (B x ++ F) w)) : Cn p_ 88 [v0] W A r B :=
 Cn.of (shape := deflate_newSet v0) Tryz.call88 (fun h => deflate_newSet_calls h) h
end Go.Proofs.YthoeeahdkdcceaaGreat.S
