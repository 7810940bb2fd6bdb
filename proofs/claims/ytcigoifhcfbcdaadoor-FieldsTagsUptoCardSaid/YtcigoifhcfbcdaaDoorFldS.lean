/- Values of fields: two lists joined by a comma are both; what is written is read back. No conditions but those that each names. -/
import Derived.Test.YtcigoifhcfbcdaaDoorFldQ
set_option linter.unusedVariables false
set_option linter.unusedSimpArgs false
namespace Go.Proofs.YtcigoifhcfbcdaaDoor.FD
theorem els_plain : ∀ (s cur t : List UInt8), els false false false cur (s ++ 44 :: t) = els false false false cur s ++ els false false false [] t
  | [], cur, t => by
    rw [List.nil_append, els_cons, els]
    simp
  | c :: r, cur, t => by
    rw [List.cons_append, els_cons, els_cons]
    by_cases h : c = 44
    · simp [h, els_plain r [] t]
    · simp [h, els_plain r (cur ++ [c]) t]
theorem tidy_app (a b : List (List UInt8)) : tidy (a ++ b) = tidy a ++ tidy b := by simp [tidy]
theorem sub0 {q e inn : Bool} (s : List UInt8) : stE s q e inn 0 0 = els q e inn [] s := by
  unfold stE
  rw [sub_self, List.drop_zero]
theorem elems_plain (s t : List UInt8) : elemsF false false (s ++ 44 :: t) = elemsF false false s ++ elemsF false false t := by
  unfold elemsF
  rw [sub0, sub0, sub0, els_plain, tidy_app]
theorem choices_join {s t : List UInt8} {x y : List (List UInt8 × Int)} (h1 : choicesF s = some x) (h2 : choicesF t = some y) : choicesF (s ++ 44 :: t) = some (x ++ y) := by
  unfold choicesF at *
  rw [elems_plain]
  exact listF_app h1 h2
/-- quoted, escaped: byte by byte -/
def stp (st : Nat) (c : UInt8) : Nat := if st = 0 then (if c = 34 then 1 else 0) else if st = 1 then (if c = 92 then 2 else if c = 34 then 0 else 1) else 1
def el3 (st : Nat) : List UInt8 → List UInt8 → List (List UInt8)
  | cur, [] => [cur]
  | cur, c :: r => if c = 44 ∧ st = 0 then cur :: el3 0 [] r else el3 (stp st c) (cur ++ [c]) r
theorem els_el3 : ∀ (n : Nat) (l : List UInt8), l.length ≤ n → ∀ (inn : Bool) (cur : List UInt8), els true true inn cur l = el3 (if inn then 1 else 0) cur l
  | _, [], _, inn, cur => by rw [els, el3]
  | n + 1, c :: r, hn, inn, cur => by
    have hr : r.length ≤ n := by simpa using hn
    rw [els_cons, el3]
    cases inn with
    | true =>
      by_cases h1 : c = 92
      · subst h1
        cases r with
        | nil => simp [stp, el3]
        | cons d r' =>
          have h2 : r'.length ≤ n := by simp at hr; omega
          have := els_el3 n r' h2 true (cur ++ [92, d])
          simp [stp, el3, this]
      · by_cases h2 : c = 34
        · subst h2
          have := els_el3 n r hr false (cur ++ [34])
          simp [stp, this]
        · have := els_el3 n r hr true (cur ++ [c])
          simp [stp, h1, h2, this]
    | false =>
      by_cases h2 : c = 34
      · subst h2
        have := els_el3 n r hr true (cur ++ [34])
        simp [stp, this]
      · by_cases h3 : c = 44
        · subst h3
          have := els_el3 n r hr false []
          simp [this]
        · have := els_el3 n r hr false (cur ++ [c])
          simp [stp, h2, h3, this]
theorem stp44 : stp 0 44 = 0 := rfl
theorem el3_app : ∀ (s : List UInt8) (st : Nat) (cur t : List UInt8), s.foldl stp st = 0 → el3 st cur (s ++ 44 :: t) = el3 st cur s ++ el3 0 [] t
  | [], st, cur, t, h => by
    have h : st = 0 := h
    subst h
    rw [List.nil_append, el3, el3]
    simp
  | c :: r, st, cur, t, h => by
    rw [List.cons_append, el3, el3]
    by_cases h1 : c = 44 ∧ st = 0
    · obtain ⟨rfl, rfl⟩ := h1
      simp only [and_self, if_true]
      rw [el3_app r 0 [] t h]; rfl
    · rw [if_neg h1, if_neg h1]
      exact el3_app r _ _ t h
theorem el3_last : ∀ (s : List UInt8) (st : Nat) (cur : List UInt8), cur.foldl stp 0 = st → ∃ w, w ∈ el3 st cur s ∧ w.foldl stp 0 = s.foldl stp st
  | [], st, cur, h => ⟨cur, by simp [el3], h⟩
  | c :: r, st, cur, h => by
    rw [el3]
    by_cases h1 : c = 44 ∧ st = 0
    · obtain ⟨rfl, rfl⟩ := h1
      obtain ⟨w, hw, he⟩ := el3_last r 0 [] rfl
      exact ⟨w, by simp [hw], he⟩
    · rw [if_neg h1]
      exact el3_last r _ _ (by rw [List.foldl_append, h]; rfl)
theorem tok_ne {l : List UInt8} {c : UInt8} (h : tokF l = true) (hc : c ∈ l) : c ≠ 34 ∧ c ≠ 44 ∧ c ≠ 61 ∧ isBl c = false := by
  have h1 : tokB c = true := by
    unfold tokF at h
    simp only [Bool.and_eq_true, List.all_eq_true] at h
    exact h.2 c hc
  refine ⟨?_, ?_, ?_, ?_⟩
  · rintro rfl; exact absurd h1 (by decide)
  · rintro rfl; exact absurd h1 (by decide)
  · rintro rfl; exact absurd h1 (by decide)
  · cases hb : isBl c with
    | false => rfl
    | true =>
      unfold isBl at hb
      simp only [Bool.or_eq_true, beq_iff_eq] at hb
      rcases hb with rfl | rfl <;> exact absurd h1 (by decide)
theorem fold_out : ∀ {l : List UInt8}, (∀ c ∈ l, c ≠ 34) → l.foldl stp 0 = 0
  | [], _ => rfl
  | c :: r, h => by
    rw [List.foldl_cons, show stp 0 c = 0 by simp [stp, h c (by simp)]]
    exact fold_out fun x hx => h x (by simp [hx])
theorem cut_eq {c : UInt8} : ∀ {s : List UInt8}, s = if cutS c s then cutA c s ++ c :: cutB c s else cutA c s
  | [] => rfl
  | x :: r => by
    unfold cutS cutA cutB
    by_cases h : x = c
    · simp [h]
    · simp only [h, if_false]
      have := cut_eq (c := c) (s := r)
      by_cases hs : cutS c r = true
      · rw [if_pos hs] at this ⊢
        rw [List.cons_append, ← this]
      · rw [if_neg hs] at this ⊢
        rw [← this]
theorem unq_fold : ∀ (n : Nat) (r : List UInt8), r.length ≤ n → ∀ acc, (unqL acc r).2 = true → r.foldl stp 1 = 0
  | _, [], _, acc, h => by simp [unqL] at h
  | n + 1, c :: r, hn, acc, h => by
    have hr : r.length ≤ n := by simpa using hn
    rw [unqL_cons] at h
    by_cases h1 : c = 34
    · subst h1
      simp only [if_true] at h
      cases r with
      | nil => rfl
      | cons x y => cases h
    · rw [if_neg h1] at h
      by_cases h2 : c = 92
      · subst h2
        simp only [if_true] at h
        cases r with
        | nil => cases h
        | cons d r' =>
          simp only at h
          by_cases hb : badQ d = true
          · rw [if_pos hb] at h; cases h
          · rw [if_neg hb] at h
            have := unq_fold n r' (by simp at hr; omega) _ h
            simpa [stp] using this
      · rw [if_neg h2] at h
        by_cases hb : badQ c = true
        · rw [if_pos hb] at h; cases h
        · rw [if_neg hb] at h
          have := unq_fold n r hr _ h
          simpa [stp, h1, h2] using this
theorem dir_fold {w : List UInt8} (h : (dirF w).2 = true) : w.foldl stp 0 = 0 := by
  have ht : tokF (cutA 61 w) = true := by
    unfold dirF at h
    split at h
    · simp at h; exact h.1
    · exact h
  have ha : (cutA 61 w).foldl stp 0 = 0 := fold_out fun c hc => (tok_ne ht hc).1
  have he := cut_eq (c := 61) (s := w)
  by_cases hs : cutS 61 w = true
  · rw [if_pos hs] at he
    rw [he, List.foldl_append, ha, List.foldl_cons, show stp 0 61 = 0 from rfl]
    by_cases hb : tokF (cutB 61 w) = true
    · exact fold_out fun c hc => (tok_ne hb hc).1
    · unfold dirF at h
      rw [if_pos (by simp [hs, hb])] at h
      simp only [Bool.and_eq_true] at h
      have h2 := h.2
      generalize cutB 61 w = b at h2
      cases b with
      | nil => rfl
      | cons c r =>
        rw [unqF] at h2
        by_cases hc : c = 34
        · subst hc
          simp only [if_true] at h2
          exact unq_fold _ r (Nat.le_refl _) _ h2
        · rw [if_neg hc] at h2; cases h2
  · rw [if_neg hs] at he
    rw [he]; exact ha
theorem bl_out {l : List UInt8} (h : ∀ c ∈ l, isBl c = true) : l.foldl stp 0 = 0 := fold_out fun c hc => by
  rintro rfl
  exact absurd (h _ hc) (by decide)
theorem tw_mem {p : UInt8 → Bool} {c : UInt8} : ∀ {l : List UInt8}, c ∈ l.takeWhile p → p c = true
  | [], h => by cases h
  | x :: r, h => by
    rw [List.takeWhile_cons] at h
    split at h
    · rename_i hx
      rcases List.mem_cons.1 h with rfl | h
      · exact hx
      · exact tw_mem h
    · cases h
theorem trim_parts (l : List UInt8) : ∃ a b, l = a ++ trimB l ++ b ∧ (∀ c ∈ a, isBl c = true) ∧ ∀ c ∈ b, isBl c = true := by
  refine ⟨(trimR l).takeWhile isBl, (l.reverse.takeWhile isBl).reverse, ?_, fun c hc => ?_, fun c hc => ?_⟩
  · have h1 : (trimR l).takeWhile isBl ++ trimB l = trimR l := List.takeWhile_append_dropWhile
    rw [h1]
    unfold trimR
    rw [← List.reverse_append, List.takeWhile_append_dropWhile, List.reverse_reverse]
  · exact tw_mem hc
  · exact tw_mem (List.mem_reverse.1 hc)
theorem fold_trim {l : List UInt8} (h : (trimB l).foldl stp 0 = 0) : l.foldl stp 0 = 0 := by
  obtain ⟨a, b, e, ha, hb⟩ := trim_parts l
  rw [e, List.foldl_append, List.foldl_append, bl_out ha, h, bl_out hb]
theorem dirs_fold {s : List UInt8} {x : List Dir} (h : dirsF s = some x) : s.foldl stp 0 = 0 := by
  have hall := listF_all h
  obtain ⟨w, hw, he⟩ := el3_last s 0 [] rfl
  rw [← he]
  refine fold_trim ?_
  by_cases hn : trimB w = []
  · rw [hn]; rfl
  · refine dir_fold (hall _ ?_)
    unfold elemsF
    rw [sub0, els_el3 _ s (Nat.le_refl _)]
    unfold tidy
    rw [List.mem_filter]
    refine ⟨List.mem_map.2 ⟨w, hw, rfl⟩, ?_⟩
    cases hx : trimB w with
    | nil => exact absurd hx hn
    | cons _ _ => rfl
theorem dirs_join {s t : List UInt8} {x y : List Dir} (h1 : dirsF s = some x) (h2 : dirsF t = some y) : dirsF (s ++ 44 :: t) = some (x ++ y) := by
  have e : elemsF true true (s ++ 44 :: t) = elemsF true true s ++ elemsF true true t := by
    unfold elemsF
    rw [sub0, sub0, sub0, els_el3 _ _ (Nat.le_refl _), els_el3 _ _ (Nat.le_refl _), els_el3 _ _ (Nat.le_refl _)]
    simp only [Bool.false_eq_true, if_false]
    rw [el3_app s 0 [] t (dirs_fold h1), tidy_app]
  unfold dirsF at *
  rw [e]
  exact listF_app h1 h2
/-- a tag that is written is read as it was -/
theorem mid_q (s : List UInt8) : mid (34 :: s ++ [34]) = s := by
  unfold mid sub
  simp
theorem tag_back (weak : Bool) (s : List UInt8) : tagF (tagT (weak, s)) = if s.any badT then ((false, []), false) else ((weak, s), true) := by
  have hv : tagV (tagT (weak, s)) = 34 :: s ++ [34] := by cases weak <;> simp [tagV, tagT, weakF]
  have hw : weakF (tagT (weak, s)) = weak := by
    cases weak
    · cases s <;> simp [tagT, weakF]
    · rfl
  unfold tagF
  rw [hv, hw, mid_q]
  have ho : tagOk (34 :: s ++ [34]) = !s.any badT := by
    unfold tagOk
    rw [mid_q]
    have : (2 ≤ (34 :: s ++ [34]).length ∧ (34 :: s ++ [34])[0]? = some (34 : UInt8) ∧ (34 :: s ++ [34])[(34 :: s ++ [34]).length - 1]? = some (34 : UInt8)) := by
      refine ⟨by simp, by simp, ?_⟩
      simp [List.getElem?_append]
    simp [this]
  rw [ho]
  cases s.any badT <;> simp
/-- a value that is quoted means what it was -/
theorem unq_quo : ∀ (s acc : List UInt8), s.any badQ = false → unqL acc (s.flatMap (fun c => if c = 34 ∨ c = 92 then [92, c] else [c]) ++ [34]) = (acc ++ s, true)
  | [], acc, _ => by simp [unqL]
  | c :: r, acc, h => by
    simp only [List.any_cons, Bool.or_eq_false_iff] at h
    have ih := unq_quo r (acc ++ [c]) h.2
    rw [List.flatMap_cons]
    by_cases hc : c = 34 ∨ c = 92
    · rw [if_pos hc]
      simp only [List.cons_append, List.nil_append]
      rw [unqL_cons]
      simp only [show ¬ ((92 : UInt8) = 34) by decide, if_false, if_true, h.1, Bool.false_eq_true, ih, List.append_assoc, List.singleton_append]
    · rw [if_neg hc]
      simp only [List.cons_append, List.nil_append]
      rw [unqL_cons, if_neg (fun h => hc (.inl h)), if_neg (fun h => hc (.inr h)), if_neg (by rw [h.1]; simp), ih]
      simp
theorem quo_fold : ∀ (s : List UInt8) (cur t : List UInt8), el3 1 cur (s.flatMap (fun c => if c = 34 ∨ c = 92 then [92, c] else [c]) ++ 34 :: t) = el3 0 (cur ++ s.flatMap (fun c => if c = 34 ∨ c = 92 then [92, c] else [c]) ++ [34]) t
  | [], cur, t => by simp [el3, stp]
  | c :: r, cur, t => by
    rw [List.flatMap_cons]
    by_cases hc : c = 34 ∨ c = 92
    · rw [if_pos hc]
      simp only [List.cons_append, List.nil_append]
      have e1 : ∀ z : List UInt8, el3 1 cur (92 :: c :: z) = el3 1 (cur ++ [92] ++ [c]) z := fun z => by
        rw [el3, if_neg (by simp), show stp 1 92 = 2 from rfl, el3, if_neg (by simp)]
        rfl
      rw [e1, quo_fold r]
      simp
    · rw [if_neg hc]
      simp only [List.cons_append, List.nil_append]
      rw [el3]
      have e : stp 1 c = 1 := by
        unfold stp
        rw [if_neg (by decide), if_pos rfl, if_neg (fun h => hc (.inr h)), if_neg (fun h => hc (.inl h))]
      rw [if_neg (by simp), e, quo_fold r]
      simp
theorem out_fold : ∀ (s : List UInt8) (cur t : List UInt8), (∀ c ∈ s, c ≠ 34 ∧ c ≠ 44) → el3 0 cur (s ++ t) = el3 0 (cur ++ s) t
  | [], cur, t, _ => by simp
  | c :: r, cur, t, h => by
    have hc := h c (by simp)
    rw [List.cons_append, el3, if_neg (fun x => hc.2 x.1), show stp 0 c = 0 by simp [stp, hc.1], out_fold r _ t fun x hx => h x (by simp [hx])]
    simp
theorem cutA_at {c : UInt8} : ∀ {a b : List UInt8}, (∀ x ∈ a, x ≠ c) → cutA c (a ++ c :: b) = a ∧ cutB c (a ++ c :: b) = b ∧ cutS c (a ++ c :: b) = true
  | [], b, _ => by simp [cutA, cutB, cutS]
  | x :: r, b, h => by
    have hx := h x (by simp)
    have ih := cutA_at (a := r) (b := b) fun y hy => h y (by simp [hy])
    simp [cutA, cutB, cutS, hx, ih]
theorem dirs_back {name s : List UInt8} (hn : tokF name = true) (hs : s.any badQ = false) : dirsF (name ++ [61] ++ quoF s) = some [⟨lowF name, s, true⟩] := by
  have hne : name ≠ [] := by rintro rfl; cases hn
  obtain ⟨w, hw⟩ : ∃ w, w = name ++ [61] ++ quoF s := ⟨_, rfl⟩
  have he : els true true false [] w = [w] := by
    rw [els_el3 _ _ (Nat.le_refl _)]
    simp only [Bool.false_eq_true, if_false]
    rw [hw]
    have e1 : name ++ [61] ++ quoF s = (name ++ [61]) ++ (quoF s) := rfl
    rw [e1, out_fold (name ++ [61]) [] _ (by
      intro c hc
      rcases List.mem_append.1 hc with h | h
      · exact ⟨(tok_ne hn h).1, (tok_ne hn h).2.1⟩
      · have : c = 61 := by simpa using h
        subst this; decide)]
    unfold quoF
    rw [List.cons_append, el3]
    simp only [show ¬ ((34 : UInt8) = 44) by decide, false_and, if_false, show stp 0 34 = 1 from rfl]
    rw [quo_fold s _ [], el3]
    simp
  have ht : trimB w = w := by
    have hl : trimR w = w := by
      rw [hw]
      unfold quoF
      rw [show name ++ [61] ++ (34 :: s.flatMap (fun c => if c = 34 ∨ c = 92 then [92, c] else [c]) ++ [34]) = (name ++ [61] ++ (34 :: s.flatMap (fun c => if c = 34 ∨ c = 92 then [92, c] else [c]))) ++ [34] by simp, trimR_snoc]
      rfl
    unfold trimB
    rw [hl, hw]
    cases name with
    | nil => exact absurd rfl hne
    | cons c r =>
      have := (tok_ne hn (c := c) (by simp)).2.2.2
      simp [trimL, List.dropWhile_cons, this]
  have hd : dirF w = (⟨lowF name, s, true⟩, true) := by
    have hc := cutA_at (c := 61) (a := name) (b := quoF s) fun x hx => (tok_ne hn hx).2.2.1
    have e1 : w = name ++ 61 :: quoF s := by rw [hw]; simp
    have hq : tokF (quoF s) = false := by
      unfold tokF quoF
      simp only [List.cons_append, List.all_cons]
      rw [show tokB 34 = false by decide]
      simp
    have hu : unqF (quoF s) = (s, true) := by
      unfold quoF
      rw [List.cons_append, unqF]
      simp only [if_true]
      have := unq_quo s [] hs
      simpa using this
    unfold dirF
    rw [e1, hc.1, hc.2.1, hc.2.2, hq, hn, hu]
    rfl
  unfold dirsF elemsF
  rw [← hw, sub0, he]
  have : tidy [w] = [w] := by
    unfold tidy
    simp only [List.map_cons, List.map_nil, ht, List.filter_cons, List.filter_nil]
    have : nb w = true := by
      rw [hw]
      cases name <;> rfl
    rw [this]; rfl
  rw [this]
  unfold listF
  simp [hd]
end Go.Proofs.YtcigoifhcfbcdaaDoor.FD
