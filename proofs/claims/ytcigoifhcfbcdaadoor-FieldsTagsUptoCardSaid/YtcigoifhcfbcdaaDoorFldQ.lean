/- Values of fields: what two ways to read them have in common; lists joined; what is written is read back. No conditions but those that each names. -/
import Derived.Test.YtcigoifhcfbcdaaDoorFldP
set_option linter.unusedVariables false
set_option linter.unusedSimpArgs false
namespace Go.Proofs.YtcigoifhcfbcdaaDoor.FD
theorem listF_eq {α : Type} {f g : List UInt8 → α × Bool} (h1 : ∀ w, (f w).2 = (g w).2) (h2 : ∀ w, (f w).2 = true → (f w).1 = (g w).1) (ws : List (List UInt8)) : listF f ws = listF g ws := by
  unfold listF
  have e : (ws.all fun w => (f w).2) = ws.all fun w => (g w).2 := by simp only [h1]
  rw [← e]
  by_cases h : (ws.all fun w => (f w).2) = true
  · rw [if_pos h, if_pos h]
    congr 1
    refine List.map_congr_left fun w hw => h2 w (List.all_eq_true.1 h w hw)
  · rw [if_neg h, if_neg h]
theorem listF_app {α : Type} {f : List UInt8 → α × Bool} {a b : List (List UInt8)} {x y : List α} (ha : listF f a = some x) (hb : listF f b = some y) : listF f (a ++ b) = some (x ++ y) := by
  unfold listF at *
  split at ha
  · split at hb
    · injection ha with ha; injection hb with hb
      rename_i h1 h2
      rw [if_pos (by rw [List.all_append, h1, h2]; rfl), List.map_append, ha, hb]
    · cases hb
  · cases ha
theorem listF_all {α : Type} {f : List UInt8 → α × Bool} {a : List (List UInt8)} {x : List α} (ha : listF f a = some x) : ∀ w ∈ a, (f w).2 = true := by
  unfold listF at ha
  split at ha
  · rename_i h
    exact List.all_eq_true.1 h
  · cases ha
/-- a weight, as the document reads it -/
def fracF : List UInt8 → Nat → Nat
  | [], _ => 0
  | c :: r, u => u * (c.toNat - 48) + fracF r (u / 10)
def weightR (s : List UInt8) : Int :=
  if s.length < 1 ∨ 5 < s.length ∨ (s[0]? ≠ some 48 ∧ s[0]? ≠ some 49) ∨ (1 < s.length ∧ s[1]? ≠ some 46) then -1
  else if (s.drop 2).all digB = false then -1
  else if 1000 < 1000 * ((s.headD 0).toNat - 48) + fracF (s.drop 2) 100 then -1
  else ((1000 * ((s.headD 0).toNat - 48) + fracF (s.drop 2) 100 : Nat) : Int)
theorem dg_b {c : UInt8} (h : digB c = true) : 48 ≤ c.toNat ∧ c.toNat ≤ 57 := by
  unfold digB at h
  have := of_decide_eq_true h
  exact ⟨UInt8.le_iff_toNat_le.1 this.1, UInt8.le_iff_toNat_le.1 this.2⟩
theorem cutA_len {c : UInt8} : ∀ s : List UInt8, (cutA c s).length ≤ s.length
  | [] => by simp [cutA]
  | x :: r => by
    have := cutA_len (c := c) r
    unfold cutA
    split <;> simp <;> omega
theorem w_main {c : UInt8} {p : List UInt8} (hp : p.length ≤ 3) (hc : c = 48 ∨ c = 49) : decF ([c] ++ (p ++ [48, 48, 48]).take 3) = if p.all digB then (((1000 * (c.toNat - 48) + fracF p 100 : Nat) : Int), 0) else (0, 21) := by
  have hv : ∀ x y z : UInt8, valF [c, x, y, z] = (((c.toNat - 48) * 10 + (x.toNat - 48)) * 10 + (y.toNat - 48)) * 10 + (z.toNat - 48) := fun x y z => by simp [valF]
  have hd : digB c = true := by rcases hc with rfl | rfl <;> rfl
  have h48 : digB 48 = true := rfl
  have k : ∀ (x y z : UInt8), decF [c, x, y, z] = if digB x && digB y && digB z then ((valF [c, x, y, z] : Int), 0) else (0, 21) := fun x y z => by
    unfold decF
    simp only [nb, List.isEmpty_cons, Bool.not_false, Bool.true_and, List.all_cons, List.all_nil, Bool.and_true, hd]
    by_cases hh : (digB x && (digB y && digB z)) = true
    · have h1 : digB x = true := by simp at hh; exact hh.1
      have h2 : digB y = true := by simp at hh; exact hh.2.1
      have h3 : digB z = true := by simp at hh; exact hh.2.2
      have b0 := dg_b hd
      have b1 := dg_b h1
      have b2 := dg_b h2
      have b3 := dg_b h3
      rw [if_pos hh, if_pos (by rw [hv]; omega), if_pos (by simp [h1, h2, h3])]
    · rw [if_neg hh, if_neg (by simpa [Bool.and_assoc] using hh)]
  have e48 : (48 : UInt8).toNat - 48 = 0 := rfl
  match p, hp with
  | [], _ =>
    simp only [List.nil_append, List.take_succ_cons, List.take_zero, List.singleton_append]
    rw [k]
    simp only [h48, List.all_nil, Bool.and_self, if_true, hv, fracF, e48]
    congr 2; omega
  | [x], _ =>
    simp only [List.cons_append, List.nil_append, List.take_succ_cons, List.take_zero]
    rw [k]
    simp only [h48, List.all_cons, List.all_nil, Bool.and_true, hv, fracF, e48]
    split <;> first | rfl | (congr 2; omega)
  | [x, y], _ =>
    simp only [List.cons_append, List.nil_append, List.take_succ_cons, List.take_zero]
    rw [k]
    simp only [h48, List.all_cons, List.all_nil, Bool.and_true, hv, fracF, e48]
    split <;> first | rfl | (congr 2; omega)
  | [x, y, z], _ =>
    simp only [List.cons_append, List.nil_append, List.take_succ_cons, List.take_zero]
    rw [k]
    simp only [h48, List.all_cons, List.all_nil, Bool.and_true, hv, fracF, e48, Bool.and_assoc]
    split <;> first | rfl | (congr 2; omega)
  | x :: y :: z :: w :: r, hp => exact absurd hp (by simp)
theorem weight_eq (s : List UInt8) : (weightF s).2 = decide (0 ≤ weightR s) ∧ ((weightF s).2 = true → (weightF s).1 = weightR s) := by
  have fin : ∀ {c : UInt8} {p : List UInt8}, p.length ≤ 3 → (c = 48 ∨ c = 49) → cutA 46 s = [c] → cutB 46 s = p → weightR s = (if p.all digB = false then -1 else if 1000 < 1000 * (c.toNat - 48) + fracF p 100 then -1 else ((1000 * (c.toNat - 48) + fracF p 100 : Nat) : Int)) → (weightF s).2 = decide (0 ≤ weightR s) ∧ ((weightF s).2 = true → (weightF s).1 = weightR s) := by
    intro c p hp hc ea eb er
    have ew : weightF s = ((decF ([c] ++ (p ++ [48, 48, 48]).take 3)).1, decide ((decF ([c] ++ (p ++ [48, 48, 48]).take 3)).2 = 0) && decide ((decF ([c] ++ (p ++ [48, 48, 48]).take 3)).1 ≤ 1000)) := by
      unfold weightF
      rw [ea, eb, if_neg]
      rintro (⟨h1, h2⟩ | h)
      · rcases hc with rfl | rfl
        · exact h1 rfl
        · exact h2 rfl
      · omega
    rw [ew, er, w_main hp hc]
    by_cases h : p.all digB = true
    · rw [if_pos h, if_neg (by rw [h]; simp)]
      by_cases h2 : 1000 < 1000 * (c.toNat - 48) + fracF p 100
      · rw [if_pos h2]
        have : ¬ (((1000 * (c.toNat - 48) + fracF p 100 : Nat) : Int) ≤ 1000) := by omega
        simp only [this, decide_false, Bool.and_false]
        exact ⟨rfl, fun h => by cases h⟩
      · rw [if_neg h2]
        have : (((1000 * (c.toNat - 48) + fracF p 100 : Nat) : Int) ≤ 1000) := by omega
        simp only [this, decide_true, Bool.and_self, true_and, implies_true, and_true]
        exact (decide_eq_true (by omega)).symm
    · rw [if_neg h, if_pos (by simpa using h)]
      simp
  have bad : (weightF s).2 = false → weightR s = -1 → (weightF s).2 = decide (0 ≤ weightR s) ∧ ((weightF s).2 = true → (weightF s).1 = weightR s) := by
    intro h1 h2
    rw [h1, h2]; simp
  rcases s with _ | ⟨c, _ | ⟨d, p⟩⟩
  · exact bad rfl rfl
  · skip
    by_cases hc : c = 48 ∨ c = 49
    · refine fin (c := c) (p := []) (by simp) hc ?_ ?_ ?_
      · rcases hc with rfl | rfl <;> rfl
      · rcases hc with rfl | rfl <;> rfl
      · rcases hc with rfl | rfl <;> rfl
    · have h1 : c ≠ 48 := fun h => hc (.inl h)
      have h2 : c ≠ 49 := fun h => hc (.inr h)
      refine bad ?_ ?_
      · unfold weightF
        have : cutA 46 [c] ≠ [48] ∧ cutA 46 [c] ≠ [49] := by
          unfold cutA
          split
          · simp
          · simp [cutA, h1, h2]
        rw [if_pos (.inl this)]
      · unfold weightR
        rw [if_pos (.inr (.inr (.inl (by simp [h1, h2]))))]
  · skip
    by_cases hd : d = 46
    · subst hd
      by_cases hc : c = 48 ∨ c = 49
      · have ea : cutA 46 (c :: 46 :: p) = [c] := by rcases hc with rfl | rfl <;> rfl
        have eb : cutB 46 (c :: 46 :: p) = p := by rcases hc with rfl | rfl <;> rfl
        by_cases hp : p.length ≤ 3
        · refine fin hp hc ea eb ?_
          unfold weightR
          rw [if_neg]
          · rfl
          · rintro (h | h | h | h)
            · simp at h
            · simp at h; omega
            · rcases hc with rfl | rfl
              · exact h.1 rfl
              · exact h.2 rfl
            · exact h.2 rfl
        · refine bad ?_ ?_
          · unfold weightF
            rw [eb, if_pos (.inr (by omega))]
          · unfold weightR
            rw [if_pos (.inr (.inl (by simp; omega)))]
      · have h1 : c ≠ 48 := fun h => hc (.inl h)
        have h2 : c ≠ 49 := fun h => hc (.inr h)
        refine bad ?_ ?_
        · unfold weightF
          have : cutA 46 (c :: 46 :: p) ≠ [48] ∧ cutA 46 (c :: 46 :: p) ≠ [49] := by
            unfold cutA
            split
            · simp
            · simp [cutA, h1, h2]
          rw [if_pos (.inl this)]
        · unfold weightR
          rw [if_pos (.inr (.inr (.inl (by simp [h1, h2]))))]
    · refine bad ?_ ?_
      · unfold weightF
        have : cutA 46 (c :: d :: p) ≠ [48] ∧ cutA 46 (c :: d :: p) ≠ [49] := by
          unfold cutA
          split
          · simp
          · simp [cutA, hd]
        rw [if_pos (.inl this)]
      · unfold weightR
        rw [if_pos (.inr (.inr (.inr ⟨by simp, by simp [hd]⟩)))]
def choiceR (s : List UInt8) : (List UInt8 × Int) × Bool :=
  if cutS 59 s then
    if (trimB (cutB 59 s)).length < 2 ∨ ((trimB (cutB 59 s))[0]? ≠ some 113 ∧ (trimB (cutB 59 s))[0]? ≠ some 81) ∨ (trimB (cutB 59 s))[1]? ≠ some 61 then ((lowF (trimB (cutA 59 s)), 1000), false)
    else ((lowF (trimB (cutA 59 s)), weightR ((trimB (cutB 59 s)).drop 2)), tokF (lowF (trimB (cutA 59 s))) && decide (0 ≤ weightR ((trimB (cutB 59 s)).drop 2)))
  else ((lowF (trimB (cutA 59 s)), 1000), tokF (lowF (trimB (cutA 59 s))))
theorem all8 {p : UInt8 → Prop} (h : ∀ n : Fin 256, p ⟨⟨n⟩⟩) (c : UInt8) : p c := h c.toBitVec.toFin
theorem low_q (c : UInt8) : lowB c = 113 ↔ (c = 113 ∨ c = 81) := by
  refine all8 (p := fun c => lowB c = 113 ↔ (c = 113 ∨ c = 81)) ?_ c
  decide +kernel
theorem low_e (c : UInt8) : lowB c = 61 ↔ c = 61 := by
  refine all8 (p := fun c => lowB c = 61 ↔ c = 61) ?_ c
  decide +kernel
theorem choice_eq (s : List UInt8) : (choiceF s).2 = (choiceR s).2 ∧ ((choiceF s).2 = true → (choiceF s).1 = (choiceR s).1) := by
  unfold choiceF choiceR
  by_cases h : cutS 59 s = true
  · rw [if_pos h, if_pos h]
    have hw := weight_eq ((trimB (cutB 59 s)).drop 2)
    have hc : ((trimB (cutB 59 s)).length < 2 ∨ lowF ((trimB (cutB 59 s)).take 2) ≠ [113, 61]) ↔ ((trimB (cutB 59 s)).length < 2 ∨ ((trimB (cutB 59 s))[0]? ≠ some 113 ∧ (trimB (cutB 59 s))[0]? ≠ some 81) ∨ (trimB (cutB 59 s))[1]? ≠ some 61) := by
      match trimB (cutB 59 s) with
      | [] => simp
      | [x] => simp
      | x :: y :: r =>
        have e1 := low_q x
        have e2 := low_e y
        simp only [lowF, List.take_succ_cons, List.take_zero, List.map_cons, List.map_nil, List.length_cons, ne_eq, List.cons.injEq, and_true, List.getElem?_cons_zero, List.getElem?_cons_succ, Option.some.injEq, e1, e2]
        constructor
        · rintro (h | h)
          · omega
          · right
            by_cases c1 : x = 113
            · right; exact fun c2 => h ⟨.inl c1, c2⟩
            · by_cases c2 : x = 81
              · right; exact fun c3 => h ⟨.inr c2, c3⟩
              · left; exact ⟨c1, c2⟩
        · rintro (h | h | h)
          · omega
          · right; rintro ⟨c1 | c1, _⟩
            · exact h.1 c1
            · exact h.2 c1
          · right; rintro ⟨_, c2⟩; exact h c2
    by_cases h2 : (trimB (cutB 59 s)).length < 2 ∨ lowF ((trimB (cutB 59 s)).take 2) ≠ [113, 61]
    · rw [if_pos h2, if_pos (hc.1 h2)]; simp
    · rw [if_neg h2, if_neg (fun c => h2 (hc.2 c))]
      simp only
      refine ⟨by rw [hw.1], fun hh => ?_⟩
      have : (weightF ((trimB (cutB 59 s)).drop 2)).2 = true := by simp at hh; exact hh.2
      rw [hw.2 this]
  · rw [if_neg h, if_neg h]; simp
theorem choices_eq (s : List UInt8) : choicesF s = listF choiceR (elemsF false false s) := listF_eq (fun w => (choice_eq w).1) (fun w => (choice_eq w).2) _
theorem tok_low1 (c : UInt8) : tokB (lowB c) = tokB c := by
  refine all8 (p := fun c => tokB (lowB c) = tokB c) ?_ c
  decide +kernel
theorem tok_low (s : List UInt8) : tokF (lowF s) = tokF s := by
  unfold tokF lowF
  rw [List.all_map]
  have : (tokB ∘ lowB) = tokB := funext tok_low1
  rw [this]
  cases s <;> rfl
def dirR (s : List UInt8) : Dir × Bool :=
  if tokF (lowF (cutA 61 s)) = false then (⟨lowF (cutA 61 s), [], false⟩, false)
  else if cutS 61 s = false then (⟨lowF (cutA 61 s), [], false⟩, true)
  else if tokF (cutB 61 s) then (⟨lowF (cutA 61 s), cutB 61 s, true⟩, true)
  else (⟨lowF (cutA 61 s), (unqF (cutB 61 s)).1, true⟩, (unqF (cutB 61 s)).2)
theorem cutB_none {c : UInt8} : ∀ {s : List UInt8}, cutS c s = false → cutB c s = []
  | [], _ => rfl
  | x :: r, h => by
    unfold cutS at h
    unfold cutB
    split at h
    · cases h
    · rename_i hx
      rw [if_neg hx]; exact cutB_none h
theorem dir_eq (s : List UInt8) : (dirF s).2 = (dirR s).2 ∧ ((dirF s).2 = true → (dirF s).1 = (dirR s).1) := by
  unfold dirF dirR
  rw [tok_low]
  by_cases ht : tokF (cutA 61 s) = true <;> by_cases hs : cutS 61 s = true <;> by_cases hb : tokF (cutB 61 s) = true <;> simp [ht, hs, hb]
  all_goals (try (have := cutB_none (by simpa using hs); simp [this]))
theorem dirs_eq (s : List UInt8) : dirsF s = listF dirR (elemsF true true s) := listF_eq (fun w => (dir_eq w).1) (fun w => (dir_eq w).2) _
theorem dir_has {s : List UInt8} (h : (dirF s).1.has = false) : (dirF s).1.value = [] := by
  unfold dirF at h ⊢
  split at h
  · cases h
  · rename_i hn
    rw [if_neg hn]
    exact cutB_none h
def spanR (s : List UInt8) : (Int × Int) × Bool :=
  if cutS 45 s = false ∨ s.length = 1 then ((0, 0), false)
  else if endOk (cutA 45 s) = false then ((-1, -1), false)
  else if endOk (cutB 45 s) = false then ((endF (cutA 45 s), -1), false)
  else ((endF (cutA 45 s), endF (cutB 45 s)), decide (endF (cutA 45 s) < 0 ∨ endF (cutB 45 s) < 0 ∨ endF (cutA 45 s) ≤ endF (cutB 45 s)))
theorem dec_nn (s : List UInt8) : 0 ≤ (decF s).1 := by
  unfold decF
  split
  · split
    · exact Int.natCast_nonneg _
    · exact Int.le_refl _
  · exact Int.le_refl _
theorem end_m (s : List UInt8) : endF s = -1 ↔ s = [] := by
  unfold endF
  have := dec_nn s
  constructor
  · intro h
    split at h
    · assumption
    · omega
  · intro h; rw [if_pos h]
theorem cut_one {c : UInt8} : ∀ {s : List UInt8}, cutS c s = true → s.length = (cutA c s).length + (cutB c s).length + 1
  | [], h => by cases h
  | x :: r, h => by
    unfold cutS at h
    unfold cutA cutB
    split at h
    · rename_i hx
      rw [if_pos hx, if_pos hx]; simp
    · rename_i hx
      rw [if_neg hx, if_neg hx]
      have := cut_one h
      simp only [List.length_cons]; omega
theorem span_eq (s : List UInt8) : (spanF s).2 = (spanR s).2 ∧ ((spanF s).2 = true → (spanF s).1 = (spanR s).1) := by
  unfold spanF spanR
  by_cases hs : cutS 45 s = true
  · have hl := cut_one hs
    by_cases h1 : s.length = 1
    · have ea : cutA 45 s = [] := List.eq_nil_of_length_eq_zero (by omega)
      have eb : cutB 45 s = [] := List.eq_nil_of_length_eq_zero (by omega)
      rw [if_pos (.inr h1), ea, eb]
      simp [endF]
    · rw [if_neg (fun h => h.elim (fun h => by rw [hs] at h; cases h) h1)]
      have hn : ¬ (endF (cutA 45 s) = -1 ∧ endF (cutB 45 s) = -1) := by
        rw [end_m, end_m]
        rintro ⟨ha, hb⟩
        rw [ha, hb] at hl
        exact h1 (by simpa using hl)
      by_cases ha : endOk (cutA 45 s) = true <;> by_cases hb : endOk (cutB 45 s) = true <;> simp [hs, ha, hb]
      all_goals (first | (intro x y; exact absurd ⟨x, y⟩ hn) | (intro x; exact Classical.not_and_iff_not_or_not.1 hn))
  · rw [if_pos (.inl (by simpa using hs))]
    simp [hs]
end Go.Proofs.YtcigoifhcfbcdaaDoor.FD
