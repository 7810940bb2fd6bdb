/- What came in: slices of what is read, as lists of what it means. Conditions: what each names. -/
import Derived.Test.YtehfblkpbadikaaMake
import Derived.ChangeArms
import Derived.Test.YtehfblkpbadikaaRows
set_option linter.unusedVariables false
namespace Go.Proofs.Ytehfblkpbadikaa.Sl
open Go Go.RowKit Go.Proofs.Ytehfblkpbadikaa.Sh
variable {P : Program} {W : World} {L L' : List HP} {Kp : PK} {k : Value → WP} {H : Type} {enc : TypeId × Value → H}
theorem spot_none {w : World} {a : Addr} {v : Value} (h : w.cell? a = some v) : a.spot = none ∧ a.block < w.heap.size := by
  unfold World.cell? at h
  split at h
  · rename_i c _ _ e
    refine ⟨?_, (Array.getElem?_eq_some_iff.1 e).1⟩
    cases hs : a.spot with
    | none => rfl
    | some x => rw [hs] at h; simp at h
  · cases h
/-- the n elements (s cells each) from address a on mean xs, in the world where all began -/
structure Old {α : Type} (W : World) (s : Nat) (rd : α → List Value → Prop) (a : Option Addr) (n : Nat) (xs : List α) : Prop where
  len : xs.length = n
  at_ : 0 < n → ∃ g o, a = some ⟨g, o, none⟩ ∧ g < W.heap.size ∧ ∀ (i : Nat) (h : i < xs.length), ∃ cs : List Value, cs.length = s ∧ rd xs[i] cs ∧ ∀ (j : Nat) (v : Value), cs[j]? = some v → W.cell? ⟨g, o + (i * s + j), none⟩ = some v
theorem v_ldOld {t : TypeId} {g o : Nat} {v : Value} [ht : OneT P t] (hg : g < W.heap.size) (hv : W.cell? ⟨g, o, none⟩ = some v) : RunV P W [] (sLoad t (.pointer (some ⟨g, o, none⟩))) v := by
  have H : RdB W (pu True) (some ⟨g, o, none⟩) 1 [v] := rd_old rfl hg (fun j u hu => by
    match j, hu with
    | 0, hu => simp at hu; subst hu; exact hv)
  have := v_ldRd (P := P) (t := t) (j := 0) H rfl
  exact fun w hw => this w (Imp.sat (.pu trivial .refl) hw)
theorem choose_list {α : Type} {n : Nat} {R : Nat → α → Prop} (h : ∀ i, i < n → ∃ a, R i a) : ∃ xs : List α, xs.length = n ∧ ∀ (i : Nat) (hi : i < xs.length), R i xs[i] := by
  induction n with
  | zero => exact ⟨[], rfl, fun i hi => by simp at hi⟩
  | succ n ih =>
    obtain ⟨xs, h1, h2⟩ := ih fun i hi => h i (by omega)
    obtain ⟨a, ha⟩ := h n (by omega)
    refine ⟨xs ++ [a], by simp [h1], fun i hi => ?_⟩
    by_cases c : i < xs.length
    · rw [List.getElem_append_left c]; exact h2 i c
    · have : i = n := by simp at hi; omega
      subst this
      rw [List.getElem_append_right (by omega)]
      simpa [h1] using ha
theorem bulk_cons (d : DataW H) (r : List (DataW H)) : Rows.uptoBulkAll (d :: r) = Rows.uptoBulk d + Rows.uptoBulkAll r := by simp [Rows.uptoBulkAll]
theorem bulk_sum {α : Type} {m : α → Nat} : ∀ (xs : List α) (ds : List (DataW H)), xs.length = ds.length → (∀ (i : Nat) (h1 : i < xs.length) (h2 : i < ds.length), m xs[i] ≤ Rows.uptoBulk ds[i]) → (xs.map m).sum ≤ Rows.uptoBulkAll ds
  | [], [], _, _ => by simp
  | x :: xs, d :: ds, hl, h => by
    have h0 := h 0 (by simp) (by simp)
    have ih := bulk_sum xs ds (by simpa using hl) (fun i h1 h2 => h (i + 1) (by simp; omega) (by simp; omega))
    rw [bulk_cons, List.map_cons, List.sum_cons]
    simp only [List.getElem_cons_zero] at h0
    omega
theorem open_old {α : Type} {rd : α → List Value → Prop} {m : α → Nat} {t e : TypeId} {s fuel : Nat} {sp : Nat → Bool} {held : Bool} {cs : List Value} {x : DataW H × List MemPlace} (ht : P.underlying t = some (.slice e)) (hc : P.cellsOf e = s) (hs : 0 < s)
    (op : ∀ (n : Nat) (cs : List Value) (x : DataW H × List MemPlace), DataW.trod enc P W 0 sp held n e cs = some x → ∃ a, rd a cs ∧ m a ≤ Rows.uptoBulk x.1) (h : DataW.trod enc P W 0 sp held fuel t cs = some x) :
    ∃ (a : Option Addr) (n cap : Nat) (xs : List α), cs = [.slice a n cap] ∧ n ≤ cap ∧ cap ≤ maxLen ∧ (a = none → n = 0 ∧ cap = 0) ∧ Old W s rd a n xs ∧ (xs.map m).sum + 1 ≤ Rows.uptoBulk x.1 := by
  rcases DataW.trod_slice ht h with ⟨rfl, rfl⟩ | ⟨a, len, cap, elems, rest, n, rfl, rfl, rfl, hb, hl, hm, he, hel, _, _⟩
  · exact ⟨none, 0, 0, [], rfl, Nat.le_refl _, by unfold maxLen; omega, fun _ => ⟨rfl, rfl⟩, ⟨rfl, fun c => by omega⟩, by simp [Rows.uptoBulk]⟩
  · have cell0 : ∀ i, i < len → ∃ ds : List Value, ds.length = s ∧ (∃ y, rd y ds ∧ ∀ h : i < elems.length, m y ≤ Rows.uptoBulk elems[i].1) ∧ ∀ j, j < s → W.cell? ((a.add (i * s)).add j) = ds[j]? := fun i hi => by
      have h1 := hel i hi
      rw [List.getElem?_eq_getElem (by omega), Option.bind_eq_some_iff] at h1
      obtain ⟨ds, h2, h3⟩ := h1
      unfold World.cells? at h2
      rw [if_pos (Nat.zero_le _), hc] at h2
      obtain ⟨y, hy, hm2⟩ := op _ _ _ h3
      exact ⟨ds, by simpa using mapM_some_length h2, ⟨y, hy, fun _ => hm2⟩, fun j hj => mapM_some_get h2 j j (by simp [hj])⟩
    by_cases hz : len = 0
    · subst hz
      exact ⟨some a, 0, cap, [], rfl, hl, hm, (fun c => by cases c), ⟨rfl, fun c => by omega⟩, by simp [Rows.uptoBulk]⟩
    obtain ⟨d0, hd0, _, hg0⟩ := cell0 0 (by omega)
    have h0 := hg0 0 hs
    have ea : (a.add (0 * s)).add 0 = a := by unfold Addr.add; simp
    rw [ea, List.getElem?_eq_getElem (by omega)] at h0
    obtain ⟨s1, s2⟩ := spot_none h0
    obtain ⟨g, o, sp'⟩ := a
    obtain rfl : sp' = none := s1
    have key : ∀ i, i < len → ∃ y : α, (∀ h : i < elems.length, m y ≤ Rows.uptoBulk elems[i].1) ∧ ∃ ds : List Value, ds.length = s ∧ rd y ds ∧ ∀ (j : Nat) (v : Value), ds[j]? = some v → W.cell? ⟨g, o + (i * s + j), none⟩ = some v := fun i hi => by
      obtain ⟨ds, hlen, ⟨y, hy, hyb⟩, hget⟩ := cell0 i hi
      refine ⟨y, hyb, ds, hlen, hy, fun j v hv => ?_⟩
      have hj : j < s := by
        rcases Nat.lt_or_ge j ds.length with c | c
        · omega
        · rw [List.getElem?_eq_none c] at hv; cases hv
      have := hget j hj
      rw [addr_add, addr_add, hv, Nat.add_assoc] at this
      exact this
    obtain ⟨xs, h1, h2⟩ := choose_list key
    refine ⟨some ⟨g, o, none⟩, len, cap, xs, rfl, hl, hm, (fun c => by cases c), ⟨h1, fun hn => ⟨g, o, rfl, s2, fun i hi => (h2 i hi).2⟩⟩, ?_⟩
    have := bulk_sum (m := m) xs (elems.map (·.1)) (by simp; omega) (fun i e1 e2 => by simpa using (h2 i e1).1 (by simpa using e2))
    simp only [Rows.uptoBulk]
    omega
theorem sum_ones {α : Type} : ∀ l : List α, (l.map fun _ => 1).sum = l.length
  | [] => rfl
  | x :: l => by simp [sum_ones l]; omega
def rdU (c : UInt8) (cs : List Value) : Prop := cs = [B c]
theorem Old.bytes {a : Option Addr} {n : Nat} {b : List UInt8} {A : HP} (h : Old W 1 rdU a n b) : RdB W A a n (b.map B) := by
  refine ⟨by rw [List.length_map]; exact h.len, fun hn => ?_⟩
  obtain ⟨g, o, rfl, hg, hc⟩ := h.at_ hn
  refine ⟨g, o, rfl, fun w L hw j v hv => ?_⟩
  rw [List.getElem?_map] at hv
  have hj : j < b.length := by
    rcases Nat.lt_or_ge j b.length with c | c
    · exact c
    · rw [List.getElem?_eq_none c] at hv; cases hv
  obtain ⟨cs, h1, h2, h3⟩ := hc j hj
  rw [h2] at h3
  have := h3 0 (B b[j]) rfl
  rw [List.getElem?_eq_getElem hj] at hv
  have hv' : B b[j] = v := Option.some.inj hv
  rw [hw.base.cell (p := ⟨g, o + j, none⟩) hg, ← hv']
  simpa using this
theorem open_u8 {e : TypeId} {sp : Nat → Bool} {held : Bool} (he : P.underlying e = some (.int .u8)) : ∀ (n : Nat) (cs : List Value) (x : DataW H × List MemPlace), DataW.trod enc P W 0 sp held n e cs = some x → ∃ a, rdU a cs ∧ 1 ≤ Rows.uptoBulk x.1 := fun n cs x h => by
  obtain ⟨m, rfl, rfl, hw⟩ := DataW.trod_int he h
  have hm : 0 ≤ m ∧ m ≤ 255 := by simpa [Lit.wf, IntKind.min, IntKind.max, IntKind.signed, IntKind.bits] using hw
  refine ⟨UInt8.ofNat m.toNat, ?_, by simp [Rows.uptoBulk]⟩
  unfold rdU B
  rw [UInt8.toNat_ofNat', Nat.mod_eq_of_lt (by omega), Int.toNat_of_nonneg hm.1]
theorem open_bytes {t e : TypeId} {fuel : Nat} {sp : Nat → Bool} {held : Bool} {cs : List Value} {x : DataW H × List MemPlace} (ht : P.underlying t = some (.slice e)) (hc : P.cellsOf e = 1) (he : P.underlying e = some (.int .u8)) (h : DataW.trod enc P W 0 sp held fuel t cs = some x) :
    ∃ (a : Option Addr) (cap : Nat) (b : List UInt8), cs = [.slice a b.length cap] ∧ b.length ≤ cap ∧ cap ≤ maxLen ∧ (a = none → b.length = 0) ∧ (∀ A, RdB W A a b.length (b.map B)) ∧ b.length + 1 ≤ Rows.uptoBulk x.1 := by
  obtain ⟨a, n, cap, b, rfl, h1, h2, h3, h4, h5⟩ := open_old (m := fun _ => 1) ht hc (by omega) (open_u8 (enc := enc) he) h
  have hl := h4.len
  subst hl
  exact ⟨a, cap, b, rfl, h1, h2, fun c => (h3 c).1, fun A => h4.bytes, by rwa [sum_ones] at h5⟩
theorem v_ldOldA {t : TypeId} {n g o : Nat} {cs : List Value} [ht : AggT P t n] (hn : cs.length = n) (hg : g < W.heap.size) (hc : ∀ (j : Nat) (v : Value), cs[j]? = some v → W.cell? ⟨g, o + j, none⟩ = some v) : RunV P W [] (sLoad t (.pointer (some ⟨g, o, none⟩))) (.agg cs.toArray) := fun w hw => by
  have h : (loadCells ⟨g, o, none⟩ n).run P w = .ok cs.toArray w := by
    subst hn
    exact run_loadCells_list (P := P) w ⟨g, o, none⟩ cs (fun j v hv => by
      rw [addr_add, hw.base.cell (p := ⟨g, o + j, none⟩) hg]; exact hc j v hv)
  simp [sLoad, Instr.loadAt, Instr.sureAddr, loadVar, ht.agg, ht.size, h]
theorem open_slice {t e : TypeId} {v : Value} {d : DataW H} {ps : List MemPlace} {r : Reach} {b0 : Nat} {sp : Nat → Bool} {held : Bool} (ht : P.underlying t = some (.slice e)) (hval : Value.okWide P W r b0 t v) (hd : DataW.Trod enc P W 0 sp held t v d ps) :
    ∃ fuel, DataW.trod enc P W 0 sp held fuel t [v] = some (d, ps) := by
  obtain ⟨a, n, c, rfl⟩ := WideShapes.okWide_slice ht hval
  obtain ⟨fuel, hf⟩ := hd
  exact ⟨fuel, hf⟩
theorem four {cs : List Value} (h : cs.length = 4) : ∃ a b c d, cs = [a, b, c, d] := by
  match cs, h with
  | [a, b, c, d], _ => exact ⟨a, b, c, d, rfl⟩
end Go.Proofs.Ytehfblkpbadikaa.Sl
