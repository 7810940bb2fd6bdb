/- Lists of numbers, small arrays of numbers. No conditions but those that each names. -/
import Derived.Test.YtehfblkpbadikaaTypes
import Derived.Test.YtehfblkpbadikaaMore
set_option linter.unusedVariables false
namespace Go.Proofs.Ytehfblkpbadikaa.Sl
open Go Go.RowKit Go.Proofs.Ytehfblkpbadikaa.Sh
variable {P : Program} {W : World} {L L' : List HP} {Kp : PK} {k : Value → WP} {H : Type} {enc : TypeId × Value → H}
/-- a number as the model holds it -/
def I (n : Int) : Value := .int .i64 n
instance {n : Int} : OC (I n) := ⟨rfl⟩
theorem I_one {l : List Int} : ∀ u ∈ l.map I, u.oneCell' = true := by
  intro u hu; obtain ⟨c, _, rfl⟩ := List.mem_map.1 hu; rfl
theorem I_get {l : List Int} {j : Nat} (h : j < l.length) : (l.map I)[j]? = some (I l[j]) := by simp [h]
/-- an array of n numbers -/
def An (n : Nat) (f : Nat → Int) : Array Value := ((List.range n).map fun j => I (f j)).toArray
theorem An_size (n : Nat) (f : Nat → Int) : (An n f).size = n := by simp [An]
theorem An_get {n j : Nat} {f : Nat → Int} (h : j < n) : (An n f)[j]? = some (I (f j)) := by simp [An, h]
theorem An_congr {n : Nat} {f g : Nat → Int} (h : ∀ j, j < n → f j = g j) : An n f = An n g := by
  unfold An
  congr 1
  exact List.map_congr_left fun j hj => by rw [h j (List.mem_range.1 hj)]
theorem An_set {n j : Nat} {f : Nat → Int} {v : Int} : (An n f).setIfInBounds j (I v) = An n fun i => if i = j then v else f i := by
  apply Array.ext_getElem?
  intro i
  rw [Array.getElem?_setIfInBounds, An_size]
  by_cases c : j = i
  · subst c
    rw [if_pos rfl]
    by_cases h : j < n
    · rw [if_pos h, An_get h]; simp
    · rw [if_neg h, Array.getElem?_eq_none (by rw [An_size]; omega)]
  · rw [if_neg c]
    by_cases h : i < n
    · rw [An_get h, An_get h, if_neg (fun e => c e.symm)]
    · rw [Array.getElem?_eq_none (by rw [An_size]; omega), Array.getElem?_eq_none (by rw [An_size]; omega)]
theorem v_slA {t e : TypeId} {s len : Nat} {g l : Nat} {q : IntKind} {i : Int} [ht : ArrT P t len e s] (hi : i = (l : Int)) (hl : l < len) : RunV P W [] (sSl t (.pointer (some ⟨g, 0, none⟩)) (some (.int q i)) none none) (.slice (some ⟨g, l * s, none⟩) (len - l) (len - l)) := fun w _ => by
  have hne : len ≠ l := by omega
  simp [sSl, Instr.sliceAt, Instr.sliceBounds, ht.ut, ht.size, run_bound l hi (Nat.le_of_lt hl), Instr.sureAddr, hne, Addr.add]
  intro h; exact h.symm
theorem rd_cut {A : HP} {g m n l : Nat} {f : Nat → Int} (h : RdB W A (some ⟨g, 0, none⟩) n ((List.range n).map fun j => I (f j))) (hl : l + m = n) : RdB W A (some ⟨g, l * 1, none⟩) m ((List.range m).map fun j => I (f (l + j))) := by
  have := h.cut (cap := n + 1) (l := l) (h := n) (by omega) (by omega) (by omega)
  rw [if_neg (by omega)] at this
  have e : (Option.map (fun x : Addr => x.add (l * 1)) (some ⟨g, 0, none⟩)) = some ⟨g, l * 1, none⟩ := by simp [addr_add]
  rw [e, show n - l = m by omega] at this
  have e2 : List.take m (List.drop l ((List.range n).map fun j => I (f j))) = (List.range m).map fun j => I (f (l + j)) := by
    apply List.ext_getElem?
    intro j
    rw [List.getElem?_take]
    by_cases c : j < m
    · rw [if_pos c, List.getElem?_drop, List.getElem?_map, List.getElem?_map, List.getElem?_range (by omega), List.getElem?_range c]; rfl
    · rw [if_neg c, List.getElem?_eq_none (by simp; omega)]
  rw [e2] at this
  exact this
def rdI (c : Int) (cs : List Value) : Prop := cs = [I c]
theorem Old.ints {a : Option Addr} {n : Nat} {b : List Int} {A : HP} (h : Old W 1 rdI a n b) : RdB W A a n (b.map I) := by
  refine ⟨by rw [List.length_map]; exact h.len, fun hn => ?_⟩
  obtain ⟨g, o, rfl, hg, hc⟩ := h.at_ hn
  refine ⟨g, o, rfl, fun w L hw j v hv => ?_⟩
  rw [List.getElem?_map] at hv
  have hj : j < b.length := by
    rcases Nat.lt_or_ge j b.length with c | c
    · exact c
    · rw [List.getElem?_eq_none c] at hv; cases hv
  obtain ⟨cs, h1, h2, h3⟩ := hc j hj
  rw [h2] at h3
  have := h3 0 (I b[j]) rfl
  rw [List.getElem?_eq_getElem hj] at hv
  have hv' : I b[j] = v := Option.some.inj hv
  rw [hw.base.cell (p := ⟨g, o + j, none⟩) hg, ← hv']
  simpa using this
theorem open_i64 {e : TypeId} {sp : Nat → Bool} {held : Bool} (he : P.underlying e = some (.int .i64)) : ∀ (n : Nat) (cs : List Value) (x : DataW H × List MemPlace), DataW.trod enc P W 0 sp held n e cs = some x → ∃ a, (rdI a cs ∧ -9223372036854775808 ≤ a ∧ a ≤ 9223372036854775807) ∧ 1 ≤ Rows.uptoBulk x.1 := fun n cs x h => by
  obtain ⟨m, rfl, rfl, hw⟩ := DataW.trod_int he h
  have hm : -9223372036854775808 ≤ m ∧ m ≤ 9223372036854775807 := by simpa [Lit.wf, IntKind.min, IntKind.max, IntKind.signed, IntKind.bits] using hw
  exact ⟨m, ⟨rfl, hm⟩, by simp [Rows.uptoBulk]⟩
theorem open_ints {t e : TypeId} {v : Value} {d : DataW H} {ps : List MemPlace} {r : Reach} {b0 : Nat} {sp : Nat → Bool} {held : Bool} (ht : P.underlying t = some (.slice e)) (hc : P.cellsOf e = 1) (he : P.underlying e = some (.int .i64)) (hval : Value.okWide P W r b0 t v) (hd : DataW.Trod enc P W 0 sp held t v d ps) :
    ∃ (a : Option Addr) (cap : Nat) (b : List Int), v = .slice a b.length cap ∧ (a = none → b.length = 0) ∧ (∀ A, RdB W A a b.length (b.map I)) ∧ (∀ x ∈ b, -9223372036854775808 ≤ x ∧ x ≤ 9223372036854775807) ∧ b.length ≤ Rows.uptoBulk d := by
  obtain ⟨fuel, hf⟩ := open_slice (e := e) ht hval hd
  obtain ⟨a, n, cap, b, e1, h1, h2, h3, h4, h5⟩ := open_old (rd := fun (x : Int) cs => rdI x cs ∧ -9223372036854775808 ≤ x ∧ x ≤ 9223372036854775807) (m := fun _ => 1) ht hc (by omega) (open_i64 (enc := enc) he) hf
  have hl := h4.len
  subst hl
  have h6 : Old W 1 rdI a b.length b := ⟨rfl, fun c => let ⟨g, o, q1, q2, q3⟩ := h4.at_ c; ⟨g, o, q1, q2, fun i hi => let ⟨cs, z1, z2, z3⟩ := q3 i hi; ⟨cs, z1, z2.1, z3⟩⟩⟩
  refine ⟨a, cap, b, by injection e1, fun c => (h3 c).1, fun A => h6.ints, fun x hx => ?_, by rw [sum_ones] at h5; simp at h5; omega⟩
  obtain ⟨i, hi, rfl⟩ := List.mem_iff_getElem.1 hx
  obtain ⟨g, o, q1, q2, q3⟩ := h4.at_ (by omega)
  obtain ⟨cs, z1, z2, z3⟩ := q3 i hi
  exact z2.2
end Go.Proofs.Ytehfblkpbadikaa.Sl
