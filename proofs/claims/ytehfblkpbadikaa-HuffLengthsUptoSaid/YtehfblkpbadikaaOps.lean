/- One lemma for each of the model's operations: what it yields. No conditions but those that each names. -/
import Derived.Test.YtehfblkpbadikaaRules
import Derived.IntWalk
import Derived.Laws.Pointers
import Derived.Laws.Cover3
namespace Go.Proofs.Ytehfblkpbadikaa.Sl
open Go Go.RowKit Go.Proofs.Ytehfblkpbadikaa.Sh
set_option linter.unusedVariables false
variable {P : Program} {W : World} {L L' L'' : List HP} {Kp : PK} {k : Value → WP}

/-! ### numbers -/
theorem w64 {n : Int} (h1 : -9223372036854775808 ≤ n) (h2 : n ≤ 9223372036854775807) : IntKind.i64.wrap n = n := IntWalk.i64_in n ⟨h1, h2⟩

theorem v_add {t : TypeId} {a b : Int} (h1 : -9223372036854775808 ≤ a + b) (h2 : a + b ≤ 9223372036854775807) : RunV P W [] (sBin .add t (.int .i64 a) (.int .i64 b)) (.int .i64 (a + b)) := fun w _ => by
  simp [sBin, sv, eqGuard, binOp, Op.intArith, w64 h1 h2]
theorem v_sub {t : TypeId} {a b : Int} (h1 : -9223372036854775808 ≤ a - b) (h2 : a - b ≤ 9223372036854775807) : RunV P W [] (sBin .sub t (.int .i64 a) (.int .i64 b)) (.int .i64 (a - b)) := fun w _ => by
  simp [sBin, sv, eqGuard, binOp, Op.intArith, w64 h1 h2]
theorem v_mul {t : TypeId} {a b : Int} (h1 : -9223372036854775808 ≤ a * b) (h2 : a * b ≤ 9223372036854775807) : RunV P W [] (sBin .mul t (.int .i64 a) (.int .i64 b)) (.int .i64 (a * b)) := fun w _ => by
  simp [sBin, sv, eqGuard, binOp, Op.intArith, w64 h1 h2]
theorem v_addw {t : TypeId} {q : IntKind} {a b : Int} : RunV P W [] (sBin .add t (.int q a) (.int q b)) (.int q (q.wrap (a + b))) := fun w _ => by
  simp [sBin, sv, eqGuard, binOp, Op.intArith]
theorem v_subw {t : TypeId} {q : IntKind} {a b : Int} : RunV P W [] (sBin .sub t (.int q a) (.int q b)) (.int q (q.wrap (a - b))) := fun w _ => by
  simp [sBin, sv, eqGuard, binOp, Op.intArith]
theorem v_mulw {t : TypeId} {q : IntKind} {a b : Int} : RunV P W [] (sBin .mul t (.int q a) (.int q b)) (.int q (q.wrap (a * b))) := fun w _ => by
  simp [sBin, sv, eqGuard, binOp, Op.intArith]
theorem v_quo {t : TypeId} {a b : Int} (ha : 0 ≤ a) (hb : 0 < b) (h2 : a ≤ 9223372036854775807) : RunV P W [] (sBin .quo t (.int .i64 a) (.int .i64 b)) (.int .i64 (a / b)) := fun w _ => by
  have h0 : ¬ b = 0 := by omega
  have e : a.tdiv b = a / b := Int.tdiv_eq_ediv_of_nonneg ha
  have l1 : 0 ≤ a / b := Int.ediv_nonneg ha (by omega)
  have l2 : a / b ≤ a := Int.ediv_le_self b ha
  simp [sBin, sv, eqGuard, binOp, Op.intDiv, h0, e, w64 (n := a / b) (by omega) (by omega)]
theorem v_rem {t : TypeId} {q : IntKind} {a b : Int} (ha : 0 ≤ a) (hb : 0 < b) : RunV P W [] (sBin .rem t (.int q a) (.int q b)) (.int q (a % b)) := fun w _ => by
  have h0 : ¬ b = 0 := by omega
  have e : a.tmod b = a % b := Int.tmod_eq_emod_of_nonneg ha
  simp [sBin, sv, eqGuard, binOp, Op.intDiv, h0, e]
theorem v_remt {t : TypeId} {q : IntKind} {a b : Int} (hb : b ≠ 0) : RunV P W [] (sBin .rem t (.int q a) (.int q b)) (.int q (a.tmod b)) := fun w _ => by
  simp [sBin, sv, eqGuard, binOp, Op.intDiv, hb]
theorem v_shl {t : TypeId} {q r : IntKind} {a b : Int} (hb : 0 ≤ b) : RunV P W [] (sBin .shl t (.int q a) (.int r b)) (.int q (q.wrap (a * 2 ^ (min b.toNat q.bits)))) := fun w _ => by
  have h0 : ¬ b < 0 := by omega
  simp [sBin, sv, eqGuard, binOp, Op.shift, h0]
theorem v_shr {t : TypeId} {q r : IntKind} {a b : Int} (hb : 0 ≤ b) : RunV P W [] (sBin .shr t (.int q a) (.int r b)) (.int q (a.fdiv (2 ^ (min b.toNat q.bits)))) := fun w _ => by
  have h0 : ¬ b < 0 := by omega
  simp [sBin, sv, eqGuard, binOp, Op.shift, h0]
def bitOp (o : BinOp) (q : IntKind) (a b : Int) : Int :=
  let x := BitVec.ofInt q.bits a
  let y := BitVec.ofInt q.bits b
  q.wrap (match o with | .and => x &&& y | .or => x ||| y | .xor => x ^^^ y | _ => x &&& ~~~y : BitVec q.bits).toNat
theorem v_and {t : TypeId} {q : IntKind} {a b : Int} : RunV P W [] (sBin .and t (.int q a) (.int q b)) (.int q (bitOp .and q a b)) := fun w _ => by
  simp [sBin, sv, eqGuard, binOp, Op.intBits, bitOp]
theorem v_or {t : TypeId} {q : IntKind} {a b : Int} : RunV P W [] (sBin .or t (.int q a) (.int q b)) (.int q (bitOp .or q a b)) := fun w _ => by
  simp [sBin, sv, eqGuard, binOp, Op.intBits, bitOp]
theorem v_xor {t : TypeId} {q : IntKind} {a b : Int} : RunV P W [] (sBin .xor t (.int q a) (.int q b)) (.int q (bitOp .xor q a b)) := fun w _ => by
  simp [sBin, sv, eqGuard, binOp, Op.intBits, bitOp]
theorem v_lss {t : TypeId} {q : IntKind} {a b : Int} : RunV P W [] (sBin .lss t (.int q a) (.int q b)) (.bool (decide (a < b))) := fun w _ => by
  simp [sBin, sv, eqGuard, binOp, Op.intCmp]
theorem v_leq {t : TypeId} {q : IntKind} {a b : Int} : RunV P W [] (sBin .leq t (.int q a) (.int q b)) (.bool (decide (a ≤ b))) := fun w _ => by
  simp [sBin, sv, eqGuard, binOp, Op.intCmp]
theorem v_gtr {t : TypeId} {q : IntKind} {a b : Int} : RunV P W [] (sBin .gtr t (.int q a) (.int q b)) (.bool (decide (b < a))) := fun w _ => by
  simp [sBin, sv, eqGuard, binOp, Op.intCmp]
theorem v_geq {t : TypeId} {q : IntKind} {a b : Int} : RunV P W [] (sBin .geq t (.int q a) (.int q b)) (.bool (decide (b ≤ a))) := fun w _ => by
  simp [sBin, sv, eqGuard, binOp, Op.intCmp]
theorem v_eql {t : TypeId} {ox oy : Operand} {q : IntKind} {a b : Int} : RunV P W [] (sEq .eql t ox oy (.int q a) (.int q b)) (.bool (decide (a = b))) := fun w _ => by
  simp [sEq, sv, eqGuard, binOp, Op.intCmp]
  by_cases h : a = b <;> simp [h]
theorem v_neq {t : TypeId} {ox oy : Operand} {q : IntKind} {a b : Int} : RunV P W [] (sEq .neq t ox oy (.int q a) (.int q b)) (.bool (decide (a ≠ b))) := fun w _ => by
  simp [sEq, sv, eqGuard, binOp, Op.intCmp]
  by_cases h : a = b <;> simp [h]
theorem v_not {b : Bool} : RunV P W [] (sUn .not (.bool b)) (.bool (!b)) := fun w _ => by simp [sUn, Op.unary]
theorem v_notT : RunV P W [] (sUn .not (.bool true)) (.bool false) := v_not
theorem v_notF : RunV P W [] (sUn .not (.bool false)) (.bool true) := v_not
theorem v_min {ts : Array TypeId} {t : TypeId} {q r : IntKind} {a b : Int} : RunV P W [] (sMin ts t [.int q a, .int r b]) (.int q (if b < a then b else a)) := fun w _ => by
  simp [sMin, Builtin.min_, Builtin.min2]
theorem v_max {ts : Array TypeId} {t : TypeId} {q r : IntKind} {a b : Int} : RunV P W [] (sMax ts t [.int q a, .int r b]) (.int q (if a < b then b else a)) := fun w _ => by
  simp [sMax, Builtin.max_, Builtin.max2]
theorem v_pickT {a b : Value} : RunV P W [] (sPick (.bool true) a b) a := fun w _ => by simp [sPick, execOp, asBool]
theorem v_pickF {a b : Value} : RunV P W [] (sPick (.bool false) a b) b := fun w _ => by simp [sPick, execOp, asBool]
theorem v_ext {vs : Array Value} {i : Nat} {v : Value} (h : vs[i]? = some v) : RunV P W [] (sExt (.tuple vs) i) v := fun w _ => by
  simp [sExt, Instr.extract, h]
class IntT (P : Program) (t : TypeId) (q : outParam IntKind) : Prop where
  run : ∀ w, (underlying t).run P w = .ok (.int q) w
theorem v_conv {s t : TypeId} {p q r : IntKind} {n : Int} [hs : IntT P s p] [ht : IntT P t q] : RunV P W [] (sConv s t (.int r n)) (.int q (q.wrap n)) := fun w _ => by
  simp [sConv, convert, hs.run, ht.run, Conv.intToInt]

/-- a truth that is asked: both ways -/
theorem e_ask {A : List HP} {s : Sem Next} {φ : Prop} [Decidable φ] (hr : RunV P W A s (.bool (decide φ))) (i : Imp W L A) (ht : φ → Ent W L (k (.bool true))) (hf : ¬ φ → Ent W L (k (.bool false))) : Ent W L (opN P s Kp k) := by
  refine e_opN hr i ?_
  by_cases h : φ
  · rw [decide_eq_true h]; exact ht h
  · rw [decide_eq_false h]; exact hf h
theorem e_askS {A : List HP} {s : Sem Next} {φ : Prop} [Decidable φ] (hr : RunV P W A s (.bool (decide φ))) (i : Imp W L A) (ht : φ → Ent W L (k (.bool true))) (hf : ¬ φ → Ent W L (k (.bool false))) : Ent W L (stS P s k) := by
  refine e_stS hr i ?_
  by_cases h : φ
  · rw [decide_eq_true h]; exact ht h
  · rw [decide_eq_false h]; exact hf h
theorem e_askD {A : List HP} {s : Sem Next} {φ : Prop} [Decidable φ] {kd : WP → Value → WP} (hr : RunV P W A s (.bool (decide φ))) (i : Imp W L A) (ht : φ → Ent W L (kd (sat W A) (.bool true))) (hf : ¬ φ → Ent W L (kd (sat W A) (.bool false))) : Ent W L (stD P s kd) := by
  refine e_stD hr i ?_
  by_cases h : φ
  · rw [decide_eq_true h]; exact ht h
  · rw [decide_eq_false h]; exact hf h

/-- values of one cell, found by their form -/
class OC (a : Value) : Prop where
  one : a.oneCell' = true
instance {q : IntKind} {n : Int} : OC (.int q n) := ⟨rfl⟩
instance {b : Bool} : OC (.bool b) := ⟨rfl⟩
instance {s : ByteArray} : OC (.string s) := ⟨rfl⟩
instance {a : Option Addr} : OC (.pointer a) := ⟨rfl⟩
instance {a : Option Addr} {n c : Nat} : OC (.slice a n c) := ⟨rfl⟩
instance {m : Option Nat} : OC (.map m) := ⟨rfl⟩
instance {f : Fn} {a b : Array Value} : OC (.func f a b) := ⟨rfl⟩
instance : OC .nilFunc := ⟨rfl⟩
instance {t : TypeId} {v : Value} : OC (.iface t v) := ⟨rfl⟩
instance : OC .nilIface := ⟨rfl⟩
/-- an operation whose value is found by its form -/
class RV (P : Program) (s : Sem Next) (v : outParam Value) : Prop where
  run : ∀ W, RunV P W [] s v
theorem v_rv {s : Sem Next} {v : Value} [h : RV P s v] : RunV P W [] s v := h.run W
theorem cells_agg {cs : Array Value} : (Value.agg cs).cells = cs := rfl
theorem cells_one {a : Value} (h : a.oneCell' = true) : a.cells = #[a] := by cases a <;> first | rfl | cases h

/-! ### pointers -/
theorem v_nil {a : Addr} : RunV P W [] (sNil (.pointer (some a))) (.pointer (some a)) := fun w _ => by simp [sNil, execOp]
class PtrT (P : Program) (t : TypeId) : Prop where
  ex : P.underlying t = some (.pointer (P.pointee t))
theorem v_eqNil {t : TypeId} {ox oy : Operand} {p : Option Addr} [ht : PtrT P t] : RunV P W [] (sEq .eql t ox oy (.pointer p) (.pointer none)) (.bool p.isNone) := fun w _ => by
  simp [sEq, sv, eqGuard, run_eql_pointer_nil w t p ht.ex]
theorem v_neNil {t : TypeId} {ox oy : Operand} {p : Option Addr} [ht : PtrT P t] : RunV P W [] (sEq .neq t ox oy (.pointer p) (.pointer none)) (.bool (!p.isNone)) := fun w _ => by
  simp [sEq, sv, eqGuard, run_neq_pointer_nil w t p ht.ex]
theorem v_eqNil0 {t : TypeId} {ox oy : Operand} [ht : PtrT P t] : RunV P W [] (sEq .eql t ox oy (.pointer none) (.pointer none)) (.bool true) := v_eqNil
theorem v_eqNil1 {t : TypeId} {ox oy : Operand} {a : Addr} [ht : PtrT P t] : RunV P W [] (sEq .eql t ox oy (.pointer (some a)) (.pointer none)) (.bool false) := v_eqNil
theorem v_neNil0 {t : TypeId} {ox oy : Operand} [ht : PtrT P t] : RunV P W [] (sEq .neq t ox oy (.pointer none) (.pointer none)) (.bool false) := v_neNil
theorem v_neNil1 {t : TypeId} {ox oy : Operand} {a : Addr} [ht : PtrT P t] : RunV P W [] (sEq .neq t ox oy (.pointer (some a)) (.pointer none)) (.bool true) := v_neNil
/-- a struct's field: where it lies -/
class FldT (P : Program) (t : TypeId) (f : Nat) (o : outParam Nat) : Prop where
  run : ∀ (g b : Nat) (w : World), (Instr.fieldAt t (.pointer (some ⟨g, b, none⟩)) f).run P w = .ok (.pointer (some ⟨g, b + o, none⟩)) w
theorem v_fa {t : TypeId} {f o g b : Nat} [h : FldT P t f o] : RunV P W [] (sFA t (.pointer (some ⟨g, b, none⟩)) f) (.pointer (some ⟨g, b + o, none⟩)) := fun w _ => by
  simp [sFA, h.run]
theorem v_fa0 {t : TypeId} {f o g : Nat} [h : FldT P t f o] : RunV P W [] (sFA t (.pointer (some ⟨g, 0, none⟩)) f) (.pointer (some ⟨g, o, none⟩)) := fun w _ => by
  simp [sFA, h.run]
/-- a list's element, looked up step by step -/
inductive Nth : List Value → Nat → Value → Prop
  | here {v : Value} {l : List Value} : Nth (v :: l) 0 v
  | there {u v : Value} {l : List Value} {n : Nat} (h : Nth l n v) : Nth (u :: l) (n + 1) v
theorem Nth.get {l : List Value} {n : Nat} {v : Value} (h : Nth l n v) : l.toArray[n]? = some v := by
  induction h with
  | here => simp
  | there _ ih => simpa using ih
/-- a list, one element turned, step by step -/
inductive Put : List Value → Nat → Value → List Value → Prop
  | here {u v : Value} {l : List Value} : Put (u :: l) 0 v (v :: l)
  | there {u v : Value} {l l' : List Value} {n : Nat} (h : Put l n v l') : Put (u :: l) (n + 1) v (u :: l')
theorem Put.set {l l' : List Value} {n : Nat} {v : Value} (h : Put l n v l') : l.toArray.setIfInBounds n v = l'.toArray ∧ n < l.length := by
  induction h with
  | here => simp
  | there _ ih => obtain ⟨h1, h2⟩ := ih; simp at h1 ⊢; exact ⟨h1, h2⟩
/-- a type whose values take one cell -/
class OneT (P : Program) (t : TypeId) : Prop where
  agg : ∀ w, (isAgg t).run P w = .ok false w
  size : ∀ w, (sizeOf t).run P w = .ok 1 w
theorem v_ld {t : TypeId} {g o : Nat} {cs : Array Value} {T : TypeId} {fz : Nat × Nat} {v : Value} [ht : OneT P t] (hc : cs[o]? = some v) : RunV P W [pt g (.cells cs T fz)] (sLoad t (.pointer (some ⟨g, o, none⟩))) v := fun w hw => by
  have h : w.cell? ⟨g, o, none⟩ = some v := by rw [hw.cell, hc]
  simp [sLoad, Instr.loadAt, Instr.sureAddr, loadVar, ht.agg, h]
theorem v_ldN {t : TypeId} {g o : Nat} {cs : List Value} {T : TypeId} {fz : Nat × Nat} {v : Value} [ht : OneT P t] (hc : Nth cs o v) : RunV P W [pt g (.cells cs.toArray T fz)] (sLoad t (.pointer (some ⟨g, o, none⟩))) v := v_ld hc.get
theorem e_st {t : TypeId} {g o : Nat} {cs : Array Value} {T : TypeId} {v : Value} [ht : OneT P t] [hv : OC v] (p : Pick L (pt g (.cells cs T (0, 0))) L') (ho : o < cs.size)
    (h : Ent W (pt g (.cells (cs.setIfInBounds o v) T (0, 0)) :: L') (k undef)) : Ent W L (opN P (sStore t (.pointer (some ⟨g, o, none⟩)) v) Kp k) := fun w hw => by
  have hw' := hw.pick p
  have hc : w.cell? ⟨g, o, none⟩ = some cs[o] := by rw [hw'.cell, Array.getElem?_eq_getElem ho]
  have hf := hw'.free (o := o)
  have hcells : v.cells = #[v] := by exact cells_one hv.one
  refine ⟨?_⟩
  have hr : (sStore t (.pointer (some ⟨g, o, none⟩)) v).run P w = .ok .skip (w.setCell ⟨g, o, none⟩ v) := by
    simp [sStore, Instr.storeAt, Instr.sureAddr, storeVar, ht.size, hcells, storeCells, Addr.add, run_store, hv.one, hc, hf]
  rw [hr]
  exact h _ (hw'.setCell v)
theorem e_stN {t : TypeId} {g o : Nat} {cs cs' : List Value} {T : TypeId} {v : Value} [ht : OneT P t] (p : Pick L (pt g (.cells cs.toArray T (0, 0))) L') (ho : Put cs o v cs') [hv : OC v]
    (h : Ent W (pt g (.cells cs'.toArray T (0, 0)) :: L') (k undef)) : Ent W L (opN P (sStore t (.pointer (some ⟨g, o, none⟩)) v) Kp k) := by
  refine e_st p (by simpa using ho.set.2) ?_
  rw [ho.set.1]; exact h
theorem v_extN {vs : List Value} {i : Nat} {v : Value} (h : Nth vs i v) : RunV P W [] (sExt (.tuple vs.toArray) i) v := v_ext h.get
end Go.Proofs.Ytehfblkpbadikaa.Sl
