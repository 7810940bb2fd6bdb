/- A stable sort by parts: merges put one behind the other, cut in halves; pieces in order. Plain. No conditions. -/
import Derived.Test.YtehfblkpbadikaaHuff7
set_option linter.unusedVariables false
set_option linter.unusedSimpArgs false
namespace Go.Proofs.Ytehfblkpbadikaa.HF
open Go Go.Proofs
section spec
variable {α : Type} (key : α → Int)
def Upk (xs : List α) : Prop := xs.Pairwise fun a b => key a ≤ key b
theorem mrg_assoc : ∀ (n : Nat) (xs bs cs : List α), xs.length + bs.length + cs.length = n → mrg key (mrg key xs bs) cs = mrg key xs (mrg key bs cs) := by
  intro n
  induction n with
  | zero =>
    intro xs bs cs h
    have h1 : xs = [] := List.eq_nil_of_length_eq_zero (by omega)
    subst h1
    simp [mrg]
  | succ n ih =>
    intro xs bs cs h
    cases xs with
    | nil => simp [mrg]
    | cons a xs =>
      cases bs with
      | nil => rw [mrg_nil]; simp [mrg]
      | cons b bs =>
        cases cs with
        | nil => rw [mrg_nil, mrg_nil]
        | cons c cs =>
          simp only [List.length_cons] at h
          by_cases h1 : key b < key a
          · by_cases h2 : key c < key b
            · rw [mrg_lt key h1, mrg_lt key h2, mrg_lt key h2, mrg_lt key (show key c < key a by omega), ← mrg_lt key h1, ih _ _ _ (by simp; omega)]
            · rw [mrg_lt key h1, mrg_ge key h2, mrg_ge key h2, mrg_lt key h1, ih _ _ _ (by simp; omega)]
          · by_cases h2 : key c < key a
            · rw [mrg_ge key h1, mrg_lt key h2, mrg_lt key (show key c < key b by omega), mrg_lt key h2, ← mrg_ge key h1, ih _ _ _ (by simp; omega)]
            · rw [mrg_ge key h1, mrg_ge key h2, ih _ _ _ (by simp; omega)]
              by_cases h3 : key c < key b
              · rw [mrg_lt key h3, mrg_ge key h2]
              · rw [mrg_ge key h3, mrg_ge key h1]
theorem mrg_len' : ∀ us bs : List α, (mrg key us bs).length = us.length + bs.length
  | [], bs => by simp [mrg]
  | a :: us, bs => by
    have ih := mrg_len' us (bs.dropWhile fun b => decide (key b < key a))
    have h : bs.length = (bs.takeWhile fun b => decide (key b < key a)).length + (bs.dropWhile fun b => decide (key b < key a)).length := by
      rw [← List.length_append, List.takeWhile_append_dropWhile]
    simp only [mrg, List.length_append, List.length_cons, ih]
    omega
theorem mrg_up : ∀ (n : Nat) (us bs : List α), us.length + bs.length = n → Upk key us → Upk key bs → Upk key (mrg key us bs) ∧ ∀ y ∈ mrg key us bs, y ∈ us ∨ y ∈ bs := by
  intro n
  induction n with
  | zero =>
    intro us bs h _ _
    have h1 : us = [] := List.eq_nil_of_length_eq_zero (by omega)
    have h2 : bs = [] := List.eq_nil_of_length_eq_zero (by omega)
    subst h1; subst h2
    exact ⟨List.Pairwise.nil, fun y hy => by simp [mrg] at hy⟩
  | succ n ih =>
    intro us bs h hu hb
    cases us with
    | nil => exact ⟨hb, fun y hy => .inr hy⟩
    | cons a us =>
      cases bs with
      | nil => rw [mrg_nil]; exact ⟨hu, fun y hy => .inl hy⟩
      | cons b bs =>
        obtain ⟨hu1, hu2⟩ := List.pairwise_cons.1 hu
        obtain ⟨hb1, hb2⟩ := List.pairwise_cons.1 hb
        simp only [List.length_cons] at h
        by_cases hab : key b < key a
        · obtain ⟨i1, i2⟩ := ih (a :: us) bs (by simp; omega) hu hb2
          rw [mrg_lt key hab]
          refine ⟨List.pairwise_cons.2 ⟨fun x hx => ?_, i1⟩, fun y hy => ?_⟩
          · rcases i2 x hx with c | c
            · rcases List.mem_cons.1 c with rfl | c
              · omega
              · have := hu1 x c; omega
            · exact hb1 x c
          · rcases List.mem_cons.1 hy with rfl | hy
            · exact .inr (by simp)
            · rcases i2 y hy with c | c
              · exact .inl c
              · exact .inr (by simp [c])
        · obtain ⟨i1, i2⟩ := ih us (b :: bs) (by simp; omega) hu2 hb
          rw [mrg_ge key hab]
          refine ⟨List.pairwise_cons.2 ⟨fun x hx => ?_, i1⟩, fun y hy => ?_⟩
          · rcases i2 x hx with c | c
            · exact hu1 x c
            · rcases List.mem_cons.1 c with rfl | c
              · omega
              · have := hb1 x c; omega
          · rcases List.mem_cons.1 hy with rfl | hy
            · exact .inl (by simp)
            · rcases i2 y hy with c | c
              · exact .inl (by simp [c])
              · exact .inr c
theorem mrg_skip {x : α} : ∀ (us vs : List α), (∀ u ∈ us, key u ≤ key x) → mrg key (us ++ vs) [x] = us ++ mrg key vs [x]
  | [], vs, _ => rfl
  | a :: us, vs, h => by
    have := h a (by simp)
    rw [List.cons_append, mrg_ge key (by omega), mrg_skip us vs fun u hu => h u (by simp [hu])]; rfl
theorem mrg_stop {x : α} : ∀ (vs : List α), (∀ u ∈ vs, key x < key u) → mrg key vs [x] = x :: vs
  | [], _ => rfl
  | a :: us, h => by
    have := h a (by simp)
    rw [mrg_lt key this, mrg_nil]
theorem insAt_mrg {acc : List α} {x : α} (hu : Upk key acc) : ∀ j, j ≤ acc.length → (∀ u ∈ acc.drop j, key x < key u) → insAt key acc x j = mrg key acc [x]
  | 0, _, h => by rw [insAt, mrg_stop key acc (by simpa using h)]
  | j + 1, hj, h => by
    unfold insAt
    rw [List.getElem?_eq_getElem (by omega)]
    simp only
    split
    · rename_i hlt
      refine insAt_mrg hu j (by omega) fun u hu => ?_
      rw [List.drop_eq_getElem_cons (by omega)] at hu
      rcases List.mem_cons.1 hu with rfl | hu
      · exact hlt
      · exact h u hu
    · rename_i hge
      conv => rhs; rw [← List.take_append_drop (j + 1) acc]
      rw [mrg_skip, mrg_stop key _ h]
      intro u hu'
      obtain ⟨i, hi, rfl⟩ := List.getElem_of_mem hu'
      rw [List.length_take] at hi
      rw [List.getElem_take]
      rcases Nat.lt_or_ge i j with c | c
      · have := List.pairwise_iff_getElem.1 hu i j (by omega) (by omega) c
        omega
      · have : i = j := by omega
        subst this
        omega
theorem insR_mrg {acc : List α} {x : α} (hu : Upk key acc) : insR key acc x = mrg key acc [x] := insAt_mrg key hu _ (Nat.le_refl _) (by simp)
theorem isort_up : ∀ (n : Nat) (xs : List α), xs.length = n → Upk key (isort key xs)
  | 0, xs, h => by rw [List.eq_nil_of_length_eq_zero h]; exact List.Pairwise.nil
  | n + 1, xs, h => by
    have e : xs = xs.take n ++ [xs[n]] := by rw [← List.take_succ_eq_append_getElem (by omega), List.take_of_length_le (by omega)]
    have ih := isort_up n (xs.take n) (by simp; omega)
    rw [e, isort_snoc, insR_mrg key ih]
    exact (mrg_up key _ _ _ rfl ih (by simp [Upk])).1
theorem isort_app (xs : List α) : ∀ (n : Nat) (bs : List α), bs.length = n → mrg key (isort key xs) (isort key bs) = isort key (xs ++ bs)
  | 0, bs, h => by rw [List.eq_nil_of_length_eq_zero h, show isort key ([] : List α) = [] from rfl, mrg_nil, List.append_nil]
  | n + 1, bs, h => by
    have e : bs = bs.take n ++ [bs[n]] := by rw [← List.take_succ_eq_append_getElem (by omega), List.take_of_length_le (by omega)]
    have ih := isort_app xs n (bs.take n) (by simp; omega)
    have u1 := isort_up key _ xs rfl
    have u2 := isort_up key _ (bs.take n) rfl
    rw [e, isort_snoc, insR_mrg key u2, ← mrg_assoc key _ _ _ _ rfl, ih, ← List.append_assoc, isort_snoc, insR_mrg key (isort_up key _ _ rfl)]
/-- a merge in two halves -/
theorem mrg_cut : ∀ (n : Nat) (u1 u2 v1 v2 : List α), u1.length + v1.length = n → (∀ u ∈ u1, ∀ v ∈ v2, key u ≤ key v) → (∀ v ∈ v1, ∀ u ∈ u2, key v < key u) → mrg key (u1 ++ u2) (v1 ++ v2) = mrg key u1 v1 ++ mrg key u2 v2 := by
  intro n
  induction n with
  | zero =>
    intro u1 u2 v1 v2 h _ _
    have h1 : u1 = [] := List.eq_nil_of_length_eq_zero (by omega)
    have h2 : v1 = [] := List.eq_nil_of_length_eq_zero (by omega)
    subst h1; subst h2
    rfl
  | succ n ih =>
    intro u1 u2 v1 v2 h h1 h2
    cases u1 with
    | nil =>
      cases v1 with
      | nil => simp at h
      | cons v v1 =>
        cases u2 with
        | nil => rfl
        | cons u u2 =>
          have hv := h2 v (by simp) u (by simp)
          have := ih [] (u :: u2) v1 v2 (by simp at h ⊢; omega) (by simp) (fun x hx => h2 x (by simp [hx]))
          rw [List.nil_append] at this
          rw [List.nil_append, List.cons_append, mrg_lt key hv, this]; rfl
    | cons u u1 =>
      cases v1 with
      | nil =>
        cases v2 with
        | nil => simp [mrg_nil]
        | cons v v2 =>
          have hv := h1 u (by simp) v (by simp)
          have := ih u1 u2 [] (v :: v2) (by simp at h ⊢; omega) (fun x hx => h1 x (by simp [hx])) (by simp)
          rw [List.nil_append] at this
          rw [List.nil_append, List.cons_append, mrg_ge key (by omega), this, mrg_nil, mrg_nil]; rfl
      | cons v v1 =>
        simp only [List.length_cons] at h
        rw [List.cons_append, List.cons_append]
        by_cases c : key v < key u
        · have := ih (u :: u1) u2 v1 v2 (by simp; omega) h1 (fun x hx => h2 x (by simp [hx]))
          rw [List.cons_append] at this
          rw [mrg_lt key c, mrg_lt key c, this]; rfl
        · have := ih u1 u2 (v :: v1) v2 (by simp; omega) (fun x hx => h1 x (by simp [hx])) h2
          rw [List.cons_append] at this
          rw [mrg_ge key c, mrg_ge key c, this]; rfl
/-- pieces of s, each in order -/
def srt (s : Nat) : Nat → List α → List α
  | 0, _ => []
  | f + 1, xs => isort key (xs.take s) ++ if xs.length ≤ s then [] else srt s f (xs.drop s)
theorem srt_small {s f : Nat} {xs : List α} (h : xs.length ≤ s) : srt key s (f + 1) xs = isort key xs := by
  rw [srt, if_pos h, List.append_nil, List.take_of_length_le h]
theorem srt_fuel {s : Nat} (hs : 0 < s) : ∀ (f g : Nat) (xs : List α), xs.length ≤ f → xs.length ≤ g → 0 < f → 0 < g → srt key s f xs = srt key s g xs
  | 0, _, _, _, _, h, _ => by omega
  | _, 0, _, _, _, _, h => by omega
  | f + 1, g + 1, xs, h1, h2, _, _ => by
    rw [srt, srt]
    split
    · rfl
    · rename_i h
      congr 1
      exact srt_fuel hs f g _ (by simp; omega) (by simp; omega) (by omega) (by omega)
def srtF (s : Nat) (xs : List α) : List α := srt key s (xs.length + 1) xs
theorem srtF_small {s : Nat} {xs : List α} (h : xs.length ≤ s) : srtF key s xs = isort key xs := srt_small key h
theorem srtF_more {s : Nat} {xs : List α} (hs : 0 < s) (h : s < xs.length) : srtF key s xs = isort key (xs.take s) ++ srtF key s (xs.drop s) := by
  unfold srtF
  rw [srt, if_neg (by omega)]
  congr 1
  exact srt_fuel key hs _ _ _ (by simp) (by simp) (by omega) (by omega)
theorem srtF_len (s : Nat) (hs : 0 < s) (hl : ∀ xs : List α, (isort key xs).length = xs.length) : ∀ (n : Nat) (xs : List α), xs.length ≤ n → (srtF key s xs).length = xs.length := by
  intro n
  induction n with
  | zero => intro xs h; rw [srtF_small key (by omega), hl]
  | succ n ih =>
    intro xs h
    rcases Nat.lt_or_ge s xs.length with c | c
    · rw [srtF_more key hs c, List.length_append, hl, ih _ (by simp; omega)]; simp; omega
    · rw [srtF_small key c, hl]
end spec
end Go.Proofs.Ytehfblkpbadikaa.HF
