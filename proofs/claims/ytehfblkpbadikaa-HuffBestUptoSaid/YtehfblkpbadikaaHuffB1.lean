/- What the lengths are, all cases together; and costs, item by item. Plain. No conditions. -/
import Derived.Test.YtehfblkpbadikaaHuffL
set_option linter.unusedVariables false
set_option linter.unusedSimpArgs false
set_option maxRecDepth 4000
namespace Go.Proofs.Ytehfblkpbadikaa.PM
open Go Go.Proofs Go.Proofs.Ytehfblkpbadikaa.HM Go.Proofs.Ytehfblkpbadikaa.HF
theorem coins_from {e : E} : ∀ (l : List Int) (s : Int), e ∈ coinsF s l → ∃ (k : Nat) (hk : k < l.length), one e = s + k ∧ 0 < l[k] ∧ e.1 = l[k] := by
  intro l
  induction l with
  | nil => intro s h; simp [coinsF] at h
  | cons x l ih =>
    intro s h
    unfold coinsF at h
    have tl : e ∈ coinsF (s + 1) l → ∃ (k : Nat) (hk : k < (x :: l).length), one e = s + k ∧ 0 < (x :: l)[k] ∧ e.1 = (x :: l)[k] := fun h => by
      obtain ⟨k, hk, e1, e2, e3⟩ := ih (s + 1) h
      exact ⟨k + 1, by simp; omega, by rw [e1]; push_cast; omega, by simpa using e2, by simpa using e3⟩
    split at h
    · rename_i hx
      rcases List.mem_cons.1 h with rfl | h
      · exact ⟨0, by simp, by simp [one], by simpa using hx, rfl⟩
      · exact tl h
    · exact tl h
theorem coins_count : ∀ (l : List Int) (s : Int), (coinsF s l).length = l.countP fun x => decide (0 < x)
  | [], _ => rfl
  | x :: l, s => by
    have ih := coins_count l (s + 1)
    unfold coinsF
    rw [List.countP_cons]
    by_cases h : 0 < x
    · rw [if_pos h, List.length_cons, ih, if_pos (by simpa using h)]
    · rw [if_neg h, ih, if_neg (by simpa using h)]; rfl
theorem wk_kr : ∀ {l : List Int}, (∀ x ∈ l, x ≤ 15) → (wk l 15 : Int) = krF l
  | [], _ => rfl
  | x :: l, h => by
    have ih := wk_kr (l := l) fun y hy => h y (by simp [hy])
    have hx := h x (by simp)
    rw [wk, krF]
    push_cast
    rw [ih]
    by_cases c : 0 < x
    · rw [if_pos ⟨c, hx⟩, if_pos c]; push_cast; rfl
    · rw [if_neg (fun d => c d.1), if_neg c]; rfl
/-- may these be lengths for these counts? -/
def okB (counts l : List Int) (lim : Int) : Bool := decide (counts.length = l.length) && (counts.zip l).all fun p => !((decide (p.2 < 0) || decide (lim < p.2)) || (decide (p.1 ≠ 0) && decide (p.2 = 0)))
theorem okB_at {counts l : List Int} {lim : Int} (h : okB counts l lim = true) : counts.length = l.length ∧ (∀ x ∈ l, 0 ≤ x ∧ x ≤ lim) ∧ ∀ (i : Nat) (h : i < counts.length) (h' : i < l.length), counts[i] ≠ 0 → l[i] ≠ 0 := by
  unfold okB at h
  rw [Bool.and_eq_true, decide_eq_true_eq, List.all_eq_true] at h
  obtain ⟨h1, h2⟩ := h
  have key : ∀ (i : Nat) (h : i < counts.length) (h' : i < l.length), (0 ≤ l[i] ∧ l[i] ≤ lim) ∧ (counts[i] ≠ 0 → l[i] ≠ 0) := fun i hi hi' => by
    have hm : (counts[i], l[i]) ∈ counts.zip l := by
      have := List.getElem_mem (l := counts.zip l) (n := i) (by simp; omega)
      rwa [List.getElem_zip] at this
    have := h2 _ hm
    simp at this
    omega
  refine ⟨h1, fun x hx => ?_, fun i hi hi' => (key i hi hi').2⟩
  obtain ⟨i, hi, rfl⟩ := List.getElem_of_mem hx
  exact (key i (by omega) hi).1
theorem okB_of {counts l : List Int} {lim : Int} (h1 : counts.length = l.length) (h2 : ∀ x ∈ l, 0 ≤ x ∧ x ≤ lim) (h3 : ∀ (i : Nat) (h : i < counts.length) (h' : i < l.length), counts[i] ≠ 0 → l[i] ≠ 0) : okB counts l lim = true := by
  unfold okB
  rw [Bool.and_eq_true, decide_eq_true_eq, List.all_eq_true]
  refine ⟨h1, fun p hp => ?_⟩
  obtain ⟨i, hi, rfl⟩ := List.getElem_of_mem hp
  rw [List.length_zip] at hi
  rw [List.getElem_zip]
  have a := h2 l[i] (List.getElem_mem _)
  have b := h3 i (by omega) (by omega)
  simp
  omega
theorem okB_bad {counts l : List Int} {lim : Int} {i : Nat} (h : i < counts.length) (h' : i < l.length) (hb : ((decide (l[i] < 0) || decide (lim < l[i])) || (decide (counts[i] ≠ 0) && decide (l[i] = 0))) = true) : okB counts l lim = false := by
  cases hc : okB counts l lim with
  | false => rfl
  | true =>
    exfalso
    unfold okB at hc
    rw [Bool.and_eq_true, List.all_eq_true] at hc
    have hm : (counts[i], l[i]) ∈ counts.zip l := by
      have := List.getElem_mem (l := counts.zip l) (n := i) (by simp; omega)
      rwa [List.getElem_zip] at this
    have := hc.2 _ hm
    simp only at this
    rw [hb] at this
    cases this
theorem cost_snoc : ∀ {a b : List Int} {c x : Int}, a.length = b.length → costF (a ++ [c]) (b ++ [x]) = costF a b + c * x
  | [], [], _, _, _ => by simp [costF]
  | p :: a, q :: b, c, x, h => by
    have := cost_snoc (a := a) (b := b) (c := c) (x := x) (by simpa using h)
    simp only [List.cons_append, costF, this]
    omega
  | [], _ :: _, _, _, h => by simp at h
  | _ :: _, [], _, _, h => by simp at h
theorem kr_snoc (x : Int) : ∀ a : List Int, krF (a ++ [x]) = krF a + (if 0 < x then 2 ^ (15 - x.toNat) else 0)
  | [] => by simp [krF]
  | p :: a => by simp only [List.cons_append, krF, kr_snoc x a]; omega
theorem kr_b : ∀ a : List Int, 0 ≤ krF a ∧ krF a ≤ 16384 * a.length
  | [] => by simp [krF]
  | x :: a => by
    have ih := kr_b a
    rw [krF, List.length_cons]
    push_cast
    split
    · rename_i h
      have h1 : (0 : Int) < 2 ^ (15 - x.toNat) := Int.pow_pos (by omega)
      have h2 : (2 : Int) ^ (15 - x.toNat) ≤ 16384 := by
        have : (2 : Nat) ^ (15 - x.toNat) ≤ 2 ^ 14 := Nat.pow_le_pow_right (by omega) (by omega)
        have h3 : (((2 : Nat) ^ (15 - x.toNat) : Nat) : Int) ≤ ((2 ^ 14 : Nat) : Int) := Int.ofNat_le.2 this
        rw [Int.natCast_pow] at h3
        exact h3
      omega
    · omega
theorem cost_b : ∀ {a b : List Int}, (∀ x ∈ a, 0 ≤ x ∧ x ≤ 1099511627776) → (∀ x ∈ b, 0 ≤ x ∧ x ≤ 15) → 0 ≤ costF a b ∧ costF a b ≤ 16492674416640 * a.length
  | [], b, _, _ => by simp [costF]
  | x :: a, [], _, _ => by simp [costF]; omega
  | x :: a, y :: b, h1, h2 => by
    have ih := cost_b (a := a) (b := b) (fun z hz => h1 z (by simp [hz])) (fun z hz => h2 z (by simp [hz]))
    have hx := h1 x (by simp)
    have hy := h2 y (by simp)
    have p1 : 0 ≤ x * y := Int.mul_nonneg hx.1 hy.1
    have p2 : x * y ≤ 1099511627776 * 15 := Int.mul_le_mul hx.2 hy.2 hy.1 (by omega)
    have e : ((a.length + 1 : Nat) : Int) = (a.length : Int) + 1 := rfl
    rw [costF, List.length_cons, e]
    omega
/-- the lengths: within the limit, just those that come, they leave nothing where there are two, and no others cost less -/
theorem lenV_facts {freq : List Int} {lim : Int} (hE : lenE freq lim = 0) :
    (lenV freq lim).length = freq.length ∧ freq.length ≤ 320 ∧ (1 ≤ lim ∧ lim ≤ 15) ∧ (∀ x ∈ freq, 0 ≤ x ∧ x ≤ 1099511627776) ∧ (∀ x ∈ lenV freq lim, 0 ≤ x ∧ x ≤ lim) ∧ (∀ (i : Nat) (h : i < freq.length) (h' : i < (lenV freq lim).length), 0 < freq[i] ↔ 0 < (lenV freq lim)[i]) ∧
    krF (lenV freq lim) ≤ 2 ^ 15 ∧ (2 ≤ (freq.countP fun x => decide (0 < x)) → krF (lenV freq lim) = 2 ^ 15) ∧
    ∀ t : List Int, okB freq t lim = true → krF t ≤ 2 ^ 15 → costF freq (lenV freq lim) ≤ costF freq t := by
  have hno : ¬ ((320 < freq.length ∨ lim < 1 ∨ 15 < lim) ∨ (∃ x ∈ freq, badF x) ∨ 2 ^ lim.toNat < (csF freq).length) := fun h => by
    unfold lenE at hE
    rw [if_pos h] at hE
    cases hE
  have h1 : ¬ (320 < freq.length ∨ lim < 1 ∨ 15 < lim) := fun c => hno (.inl c)
  have h2 : ∀ x ∈ freq, ¬ badF x := fun x hx c => hno (.inr (.inl ⟨x, hx, c⟩))
  have h3 : (csF freq).length ≤ 2 ^ lim.toNat := Nat.le_of_not_lt fun c => hno (.inr (.inr c))
  have hf : ∀ x ∈ freq, 0 ≤ x ∧ x ≤ 1099511627776 := fun x hx => by
    have := h2 x hx
    unfold badF at this
    omega
  obtain ⟨L, rfl⟩ := Int.eq_ofNat_of_zero_le (show 0 ≤ lim by omega)
  rw [Int.toNat_natCast] at h3
  have hperm : (csF freq).Perm (coinsF 0 freq) := perm_isort _ _
  have hcl : (csF freq).length = freq.countP fun x => decide (0 < x) := by rw [hperm.length_eq, coins_count]
  have hV : lenV freq (L : Int) = if (csF freq).length = 1 then (List.range freq.length).map fun s => (cnt (((csF freq).map one)) s : Int) else (List.range freq.length).map (hist (csF freq) L) := by
    unfold lenV
    rw [if_neg (fun c => c hE), Int.toNat_natCast]
  have hlen : (lenV freq (L : Int)).length = freq.length := by rw [hV]; split <;> simp
  refine ⟨hlen, by omega, by omega, hf, ?_⟩
  obtain ⟨cs, hcs⟩ : ∃ cs, cs = csF freq := ⟨_, rfl⟩
  rw [← hcs] at hV hcl hperm h3
  rw [← hcl]
  rcases Nat.lt_or_ge cs.length 2 with hk | hk
  · -- none, or one
    have hget : ∃ T : Int → Int, (∀ (i : Nat) (h : i < (lenV freq (L : Int)).length), (lenV freq (L : Int))[i] = T (0 + (i : Int))) ∧ (∀ e ∈ cs, T (one e) = 1) ∧ ∀ i : Nat, T i ≠ 0 → T i = 1 ∧ ∃ e ∈ cs, one e = (i : Int) := by
      rcases Nat.lt_or_ge cs.length 1 with c | c
      · have h0 : cs = [] := List.eq_nil_of_length_eq_zero (by omega)
        refine ⟨fun _ => 0, fun i h => ?_, by rw [h0]; simp, fun i h => absurd rfl h⟩
        have e : lenV freq (L : Int) = (List.range freq.length).map (hist [] L) := by rw [hV, h0]; rfl
        simp only [e, List.getElem_map, List.getElem_range]
        rfl
      · obtain ⟨e, he⟩ := List.length_eq_one_iff.1 (show cs.length = 1 by omega)
        obtain ⟨k, hk', e1, e2, e3⟩ := coins_from freq 0 (hperm.mem_iff.1 (show e ∈ cs by rw [he]; simp))
        have e4 : lenV freq (L : Int) = (List.range freq.length).map fun s => (cnt (cs.map one) s : Int) := by rw [hV, if_pos (by rw [he]; rfl)]
        refine ⟨fun j => if j = one e then 1 else 0, fun i h => ?_, fun x hx => ?_, fun i h => ?_⟩
        · simp only [e4, List.getElem_map, List.getElem_range, he, List.map_cons, List.map_nil, cnt]
          by_cases d : one e = (i : Int)
          · rw [if_pos d, if_pos (by omega)]; rfl
          · rw [if_neg d, if_neg (by omega)]; rfl
        · rw [he] at hx
          rw [List.mem_singleton.1 hx]
          show (if one e = one e then (1 : Int) else 0) = 1
          rw [if_pos rfl]
        · by_cases d : (i : Int) = one e
          · exact ⟨if_pos d, e, by rw [he]; simp, d.symm⟩
          · simp only [if_neg d] at h
            exact absurd rfl h
    obtain ⟨T, hT, hT1, hT2⟩ := hget
    have hiff : ∀ (i : Nat) (h : i < freq.length) (h' : i < (lenV freq (L : Int)).length), 0 < freq[i] ↔ 0 < (lenV freq (L : Int))[i] := fun i hi hi' => by
      rw [hT i hi', Int.zero_add]
      constructor
      · intro hp
        have hm := hperm.mem_iff.2 (coins_has (l := freq) (s := 0) hi hp)
        have := hT1 _ hm
        have e : one (freq[i], [0 + (i : Int)]) = (i : Int) := by simp [one]
        rw [e] at this
        omega
      · intro hp
        obtain ⟨_, e, he, h2⟩ := hT2 i (by omega)
        obtain ⟨k, hk', e1, e2, e3⟩ := coins_from freq 0 (hperm.mem_iff.1 he)
        have : k = i := by omega
        subst this
        exact e2
    have hb : ∀ x ∈ lenV freq (L : Int), 0 ≤ x ∧ x ≤ (L : Int) := fun x hx => by
      obtain ⟨i, hi, rfl⟩ := List.getElem_of_mem hx
      rw [hT i hi, Int.zero_add]
      by_cases c : T i = 0
      · omega
      · have := (hT2 i c).1; omega
    have hkr : krF (lenV freq (L : Int)) = cSum (fun e => 2 ^ (15 - (T (one e)).toNat)) cs := by
      rw [← kr_eq T 0 freq _ hlen.symm (fun i h h' => hiff i h' h) hT, ← cSum_coins (fun _ j => 2 ^ (15 - (T j).toNat)) 0 freq, ← cSum_perm _ hperm]
    refine ⟨hb, hiff, ?_, fun h => absurd h (by omega), fun t ht hkt => ?_⟩
    · rw [hkr]
      match cs, hk, hT1 with
      | [], _, _ => show (0 : Int) ≤ 2 ^ 15; decide
      | [e], _, hT1 =>
        rw [cSum, cSum, hT1 e (by simp)]
        decide
    · obtain ⟨t1, t2, t3⟩ := okB_at ht
      rw [cost_f T 0 freq _ hlen.symm (fun x hx => (hf x hx).1) hT, cost_f (fun j : Int => t.getD j.toNat 0) 0 freq t t1 (fun x hx => (hf x hx).1) (fun i h => by simp [h])]
      rw [← cSum_coins (fun x j => x * T j) 0 freq, ← cSum_coins (fun x j => x * t.getD j.toNat 0) 0 freq, ← cSum_perm _ hperm, ← cSum_perm _ hperm]
      match cs, hk, hT1, hperm with
      | [], _, _, _ => exact Int.le_refl _
      | [e], _, hT1, hperm =>
        obtain ⟨k, hk', e1, e2, e3⟩ := coins_from freq 0 (hperm.mem_iff.1 (show e ∈ [e] by simp))
        rw [cSum, cSum, cSum, cSum, hT1 e (by simp)]
        have hk2 : (one e).toNat = k := by omega
        rw [hk2]
        have hkt' : k < t.length := by omega
        have e4 : t.getD k 0 = t[k] := by simp [hkt']
        rw [e4]
        have a := t2 t[k] (List.getElem_mem _)
        have b := t3 k hk' hkt' (by omega)
        have : e.1 * 1 ≤ e.1 * t[k] := Int.mul_le_mul_of_nonneg_left (by omega) (by omega)
        omega
  · have hV2 : lenV freq (L : Int) = (List.range freq.length).map (hist cs L) := by rw [hV, if_neg (by omega)]
    obtain ⟨b1, b2, b3, b4⟩ := best_said (freq := freq) (L := L) (cs := cs) (by omega) (by omega) (fun x hx => (hf x hx).1) hcs hk h3
    rw [hV2]
    refine ⟨fun x hx => ?_, fun i hi hi' => ?_, by rw [b3]; exact Int.le_refl _, fun _ => b3, fun t ht hkt => ?_⟩
    · obtain ⟨i, hi, rfl⟩ := List.mem_map.1 hx
      exact b1 i
    · rw [List.getElem_map, List.getElem_range]
      exact b2 i hi
    · obtain ⟨t1, t2, t3⟩ := okB_at ht
      refine b4 t t1.symm t2 (fun i hi hi' hp => ?_) hkt
      have a := t2 t[i] (List.getElem_mem _)
      have b := t3 i hi hi' (by omega)
      omega
end Go.Proofs.Ytehfblkpbadikaa.PM
