/- Values of fields: two lists joined by a comma are both; what is written is read back. No conditions but those that each names. (16 texts made one; each says below what it is.) -/
import Derived.Test.YtcmpkkkigmheoaaGreatDoorK2
import Derived.Test.YtcmpkkkigmheoaaGreatDoorK4
import Derived.Laws.Externs
set_option linter.unusedVariables false
set_option linter.unusedSimpArgs false
set_option linter.unusedSectionVars false
/-! Values of fields: two lists joined by a comma are both; what is written is read back. No conditions but those that each names. -/
namespace Go.Proofs.YtcmpkkkigmheoaaGreatDoor.FD
theorem els_plain : ∀ (s cur t : List UInt8), els false false false cur (s ++ 44 :: t) = els false false false cur s ++ els false false false [] t
  | [], cur, t => by
    rw [List.nil_append, els_cons, els]
    simp
  | c :: r, cur, t => by
    rw [List.cons_append, els_cons, els_cons]
    by_cases h : c = 44
    · simp [h, els_plain r [] t]
    · simp [h, els_plain r (cur ++ [c]) t]
theorem tidy_app (a b : List (List UInt8)) : tidy (a ++ b) = tidy a ++ tidy b := by simp [tidy]
theorem sub0 {q e inn : Bool} (s : List UInt8) : stE s q e inn 0 0 = els q e inn [] s := by
  unfold stE
  rw [sub_self, List.drop_zero]
theorem elems_plain (s t : List UInt8) : elemsF false false (s ++ 44 :: t) = elemsF false false s ++ elemsF false false t := by
  unfold elemsF
  rw [sub0, sub0, sub0, els_plain, tidy_app]
theorem choices_join {s t : List UInt8} {x y : List (List UInt8 × Int)} (h1 : choicesF s = some x) (h2 : choicesF t = some y) : choicesF (s ++ 44 :: t) = some (x ++ y) := by
  unfold choicesF at *
  rw [elems_plain]
  exact listF_app h1 h2
/-- quoted, escaped: byte by byte -/
def stp (st : Nat) (c : UInt8) : Nat := if st = 0 then (if c = 34 then 1 else 0) else if st = 1 then (if c = 92 then 2 else if c = 34 then 0 else 1) else 1
def el3 (st : Nat) : List UInt8 → List UInt8 → List (List UInt8)
  | cur, [] => [cur]
  | cur, c :: r => if c = 44 ∧ st = 0 then cur :: el3 0 [] r else el3 (stp st c) (cur ++ [c]) r
theorem els_el3 : ∀ (n : Nat) (l : List UInt8), l.length ≤ n → ∀ (inn : Bool) (cur : List UInt8), els true true inn cur l = el3 (if inn then 1 else 0) cur l
  | _, [], _, inn, cur => by rw [els, el3]
  | n + 1, c :: r, hn, inn, cur => by
    have hr : r.length ≤ n := by simpa using hn
    rw [els_cons, el3]
    cases inn with
    | true =>
      by_cases h1 : c = 92
      · subst h1
        cases r with
        | nil => simp [stp, el3]
        | cons d r' =>
          have h2 : r'.length ≤ n := by simp at hr; omega
          have := els_el3 n r' h2 true (cur ++ [92, d])
          simp [stp, el3, this]
      · by_cases h2 : c = 34
        · subst h2
          have := els_el3 n r hr false (cur ++ [34])
          simp [stp, this]
        · have := els_el3 n r hr true (cur ++ [c])
          simp [stp, h1, h2, this]
    | false =>
      by_cases h2 : c = 34
      · subst h2
        have := els_el3 n r hr true (cur ++ [34])
        simp [stp, this]
      · by_cases h3 : c = 44
        · subst h3
          have := els_el3 n r hr false []
          simp [this]
        · have := els_el3 n r hr false (cur ++ [c])
          simp [stp, h2, h3, this]
theorem stp44 : stp 0 44 = 0 := rfl
theorem el3_app : ∀ (s : List UInt8) (st : Nat) (cur t : List UInt8), s.foldl stp st = 0 → el3 st cur (s ++ 44 :: t) = el3 st cur s ++ el3 0 [] t
  | [], st, cur, t, h => by
    have h : st = 0 := h
    subst h
    rw [List.nil_append, el3, el3]
    simp
  | c :: r, st, cur, t, h => by
    rw [List.cons_append, el3, el3]
    by_cases h1 : c = 44 ∧ st = 0
    · obtain ⟨rfl, rfl⟩ := h1
      simp only [and_self, if_true]
      rw [el3_app r 0 [] t h]; rfl
    · rw [if_neg h1, if_neg h1]
      exact el3_app r _ _ t h
theorem el3_last : ∀ (s : List UInt8) (st : Nat) (cur : List UInt8), cur.foldl stp 0 = st → ∃ w, w ∈ el3 st cur s ∧ w.foldl stp 0 = s.foldl stp st
  | [], st, cur, h => ⟨cur, by simp [el3], h⟩
  | c :: r, st, cur, h => by
    rw [el3]
    by_cases h1 : c = 44 ∧ st = 0
    · obtain ⟨rfl, rfl⟩ := h1
      obtain ⟨w, hw, he⟩ := el3_last r 0 [] rfl
      exact ⟨w, by simp [hw], he⟩
    · rw [if_neg h1]
      exact el3_last r _ _ (by rw [List.foldl_append, h]; rfl)
theorem tok_ne {l : List UInt8} {c : UInt8} (h : tokF l = true) (hc : c ∈ l) : c ≠ 34 ∧ c ≠ 44 ∧ c ≠ 61 ∧ isBl c = false := by
  have h1 : tokB c = true := by
    unfold tokF at h
    simp only [Bool.and_eq_true, List.all_eq_true] at h
    exact h.2 c hc
  refine ⟨?_, ?_, ?_, ?_⟩
  · rintro rfl; exact absurd h1 (by decide)
  · rintro rfl; exact absurd h1 (by decide)
  · rintro rfl; exact absurd h1 (by decide)
  · cases hb : isBl c with
    | false => rfl
    | true =>
      unfold isBl at hb
      simp only [Bool.or_eq_true, beq_iff_eq] at hb
      rcases hb with rfl | rfl <;> exact absurd h1 (by decide)
theorem fold_out : ∀ {l : List UInt8}, (∀ c ∈ l, c ≠ 34) → l.foldl stp 0 = 0
  | [], _ => rfl
  | c :: r, h => by
    rw [List.foldl_cons, show stp 0 c = 0 by simp [stp, h c (by simp)]]
    exact fold_out fun x hx => h x (by simp [hx])
theorem cut_eq {c : UInt8} : ∀ {s : List UInt8}, s = if cutS c s then cutA c s ++ c :: cutB c s else cutA c s
  | [] => rfl
  | x :: r => by
    unfold cutS cutA cutB
    by_cases h : x = c
    · simp [h]
    · simp only [h, if_false]
      have := cut_eq (c := c) (s := r)
      by_cases hs : cutS c r = true
      · rw [if_pos hs] at this ⊢
        rw [List.cons_append, ← this]
      · rw [if_neg hs] at this ⊢
        rw [← this]
theorem unq_fold : ∀ (n : Nat) (r : List UInt8), r.length ≤ n → ∀ acc, (unqL acc r).2 = true → r.foldl stp 1 = 0
  | _, [], _, acc, h => by simp [unqL] at h
  | n + 1, c :: r, hn, acc, h => by
    have hr : r.length ≤ n := by simpa using hn
    rw [unqL_cons] at h
    by_cases h1 : c = 34
    · subst h1
      simp only [if_true] at h
      cases r with
      | nil => rfl
      | cons x y => cases h
    · rw [if_neg h1] at h
      by_cases h2 : c = 92
      · subst h2
        simp only [if_true] at h
        cases r with
        | nil => cases h
        | cons d r' =>
          simp only at h
          by_cases hb : badQ d = true
          · rw [if_pos hb] at h; cases h
          · rw [if_neg hb] at h
            have := unq_fold n r' (by simp at hr; omega) _ h
            simpa [stp] using this
      · rw [if_neg h2] at h
        by_cases hb : badQ c = true
        · rw [if_pos hb] at h; cases h
        · rw [if_neg hb] at h
          have := unq_fold n r hr _ h
          simpa [stp, h1, h2] using this
theorem dir_fold {w : List UInt8} (h : (dirF w).2 = true) : w.foldl stp 0 = 0 := by
  have ht : tokF (cutA 61 w) = true := by
    unfold dirF at h
    split at h
    · simp at h; exact h.1
    · exact h
  have ha : (cutA 61 w).foldl stp 0 = 0 := fold_out fun c hc => (tok_ne ht hc).1
  have he := cut_eq (c := 61) (s := w)
  by_cases hs : cutS 61 w = true
  · rw [if_pos hs] at he
    rw [he, List.foldl_append, ha, List.foldl_cons, show stp 0 61 = 0 from rfl]
    by_cases hb : tokF (cutB 61 w) = true
    · exact fold_out fun c hc => (tok_ne hb hc).1
    · unfold dirF at h
      rw [if_pos (by simp [hs, hb])] at h
      simp only [Bool.and_eq_true] at h
      have h2 := h.2
      generalize cutB 61 w = b at h2
      cases b with
      | nil => rfl
      | cons c r =>
        rw [unqF] at h2
        by_cases hc : c = 34
        · subst hc
          simp only [if_true] at h2
          exact unq_fold _ r (Nat.le_refl _) _ h2
        · rw [if_neg hc] at h2; cases h2
  · rw [if_neg hs] at he
    rw [he]; exact ha
theorem bl_out {l : List UInt8} (h : ∀ c ∈ l, isBl c = true) : l.foldl stp 0 = 0 := fold_out fun c hc => by
  rintro rfl
  exact absurd (h _ hc) (by decide)
theorem tw_mem {p : UInt8 → Bool} {c : UInt8} : ∀ {l : List UInt8}, c ∈ l.takeWhile p → p c = true
  | [], h => by cases h
  | x :: r, h => by
    rw [List.takeWhile_cons] at h
    split at h
    · rename_i hx
      rcases List.mem_cons.1 h with rfl | h
      · exact hx
      · exact tw_mem h
    · cases h
theorem trim_parts (l : List UInt8) : ∃ a b, l = a ++ trimB l ++ b ∧ (∀ c ∈ a, isBl c = true) ∧ ∀ c ∈ b, isBl c = true := by
  refine ⟨(trimR l).takeWhile isBl, (l.reverse.takeWhile isBl).reverse, ?_, fun c hc => ?_, fun c hc => ?_⟩
  · have h1 : (trimR l).takeWhile isBl ++ trimB l = trimR l := List.takeWhile_append_dropWhile
    rw [h1]
    unfold trimR
    rw [← List.reverse_append, List.takeWhile_append_dropWhile, List.reverse_reverse]
  · exact tw_mem hc
  · exact tw_mem (List.mem_reverse.1 hc)
theorem fold_trim {l : List UInt8} (h : (trimB l).foldl stp 0 = 0) : l.foldl stp 0 = 0 := by
  obtain ⟨a, b, e, ha, hb⟩ := trim_parts l
  rw [e, List.foldl_append, List.foldl_append, bl_out ha, h, bl_out hb]
theorem dirs_fold {s : List UInt8} {x : List Dir} (h : dirsF s = some x) : s.foldl stp 0 = 0 := by
  have hall := listF_all h
  obtain ⟨w, hw, he⟩ := el3_last s 0 [] rfl
  rw [← he]
  refine fold_trim ?_
  by_cases hn : trimB w = []
  · rw [hn]; rfl
  · refine dir_fold (hall _ ?_)
    unfold elemsF
    rw [sub0, els_el3 _ s (Nat.le_refl _)]
    unfold tidy
    rw [List.mem_filter]
    refine ⟨List.mem_map.2 ⟨w, hw, rfl⟩, ?_⟩
    cases hx : trimB w with
    | nil => exact absurd hx hn
    | cons _ _ => rfl
theorem dirs_join {s t : List UInt8} {x y : List Dir} (h1 : dirsF s = some x) (h2 : dirsF t = some y) : dirsF (s ++ 44 :: t) = some (x ++ y) := by
  have e : elemsF true true (s ++ 44 :: t) = elemsF true true s ++ elemsF true true t := by
    unfold elemsF
    rw [sub0, sub0, sub0, els_el3 _ _ (Nat.le_refl _), els_el3 _ _ (Nat.le_refl _), els_el3 _ _ (Nat.le_refl _)]
    simp only [Bool.false_eq_true, if_false]
    rw [el3_app s 0 [] t (dirs_fold h1), tidy_app]
  unfold dirsF at *
  rw [e]
  exact listF_app h1 h2
/-- a tag that is written is read as it was -/
theorem mid_q (s : List UInt8) : mid (34 :: s ++ [34]) = s := by
  unfold mid sub
  simp
theorem tag_back (weak : Bool) (s : List UInt8) : tagF (tagT (weak, s)) = if s.any badT then ((false, []), false) else ((weak, s), true) := by
  have hv : tagV (tagT (weak, s)) = 34 :: s ++ [34] := by cases weak <;> simp [tagV, tagT, weakF]
  have hw : weakF (tagT (weak, s)) = weak := by
    cases weak
    · cases s <;> simp [tagT, weakF]
    · rfl
  unfold tagF
  rw [hv, hw, mid_q]
  have ho : tagOk (34 :: s ++ [34]) = !s.any badT := by
    unfold tagOk
    rw [mid_q]
    have : (2 ≤ (34 :: s ++ [34]).length ∧ (34 :: s ++ [34])[0]? = some (34 : UInt8) ∧ (34 :: s ++ [34])[(34 :: s ++ [34]).length - 1]? = some (34 : UInt8)) := by
      refine ⟨by simp, by simp, ?_⟩
      simp [List.getElem?_append]
    simp [this]
  rw [ho]
  cases s.any badT <;> simp
/-- a value that is quoted means what it was -/
theorem unq_quo : ∀ (s acc : List UInt8), s.any badQ = false → unqL acc (s.flatMap (fun c => if c = 34 ∨ c = 92 then [92, c] else [c]) ++ [34]) = (acc ++ s, true)
  | [], acc, _ => by simp [unqL]
  | c :: r, acc, h => by
    simp only [List.any_cons, Bool.or_eq_false_iff] at h
    have ih := unq_quo r (acc ++ [c]) h.2
    rw [List.flatMap_cons]
    by_cases hc : c = 34 ∨ c = 92
    · rw [if_pos hc]
      simp only [List.cons_append, List.nil_append]
      rw [unqL_cons]
      simp only [show ¬ ((92 : UInt8) = 34) by decide, if_false, if_true, h.1, Bool.false_eq_true, ih, List.append_assoc, List.singleton_append]
    · rw [if_neg hc]
      simp only [List.cons_append, List.nil_append]
      rw [unqL_cons, if_neg (fun h => hc (.inl h)), if_neg (fun h => hc (.inr h)), if_neg (by rw [h.1]; simp), ih]
      simp
theorem quo_fold : ∀ (s : List UInt8) (cur t : List UInt8), el3 1 cur (s.flatMap (fun c => if c = 34 ∨ c = 92 then [92, c] else [c]) ++ 34 :: t) = el3 0 (cur ++ s.flatMap (fun c => if c = 34 ∨ c = 92 then [92, c] else [c]) ++ [34]) t
  | [], cur, t => by simp [el3, stp]
  | c :: r, cur, t => by
    rw [List.flatMap_cons]
    by_cases hc : c = 34 ∨ c = 92
    · rw [if_pos hc]
      simp only [List.cons_append, List.nil_append]
      have e1 : ∀ z : List UInt8, el3 1 cur (92 :: c :: z) = el3 1 (cur ++ [92] ++ [c]) z := fun z => by
        rw [el3, if_neg (by simp), show stp 1 92 = 2 from rfl, el3, if_neg (by simp)]
        rfl
      rw [e1, quo_fold r]
      simp
    · rw [if_neg hc]
      simp only [List.cons_append, List.nil_append]
      rw [el3]
      have e : stp 1 c = 1 := by
        unfold stp
        rw [if_neg (by decide), if_pos rfl, if_neg (fun h => hc (.inr h)), if_neg (fun h => hc (.inl h))]
      rw [if_neg (by simp), e, quo_fold r]
      simp
theorem out_fold : ∀ (s : List UInt8) (cur t : List UInt8), (∀ c ∈ s, c ≠ 34 ∧ c ≠ 44) → el3 0 cur (s ++ t) = el3 0 (cur ++ s) t
  | [], cur, t, _ => by simp
  | c :: r, cur, t, h => by
    have hc := h c (by simp)
    rw [List.cons_append, el3, if_neg (fun x => hc.2 x.1), show stp 0 c = 0 by simp [stp, hc.1], out_fold r _ t fun x hx => h x (by simp [hx])]
    simp
theorem cutA_at {c : UInt8} : ∀ {a b : List UInt8}, (∀ x ∈ a, x ≠ c) → cutA c (a ++ c :: b) = a ∧ cutB c (a ++ c :: b) = b ∧ cutS c (a ++ c :: b) = true
  | [], b, _ => by simp [cutA, cutB, cutS]
  | x :: r, b, h => by
    have hx := h x (by simp)
    have ih := cutA_at (a := r) (b := b) fun y hy => h y (by simp [hy])
    simp [cutA, cutB, cutS, hx, ih]
theorem dirs_back {name s : List UInt8} (hn : tokF name = true) (hs : s.any badQ = false) : dirsF (name ++ [61] ++ quoF s) = some [⟨lowF name, s, true⟩] := by
  have hne : name ≠ [] := by rintro rfl; cases hn
  obtain ⟨w, hw⟩ : ∃ w, w = name ++ [61] ++ quoF s := ⟨_, rfl⟩
  have he : els true true false [] w = [w] := by
    rw [els_el3 _ _ (Nat.le_refl _)]
    simp only [Bool.false_eq_true, if_false]
    rw [hw]
    have e1 : name ++ [61] ++ quoF s = (name ++ [61]) ++ (quoF s) := rfl
    rw [e1, out_fold (name ++ [61]) [] _ (by
      intro c hc
      rcases List.mem_append.1 hc with h | h
      · exact ⟨(tok_ne hn h).1, (tok_ne hn h).2.1⟩
      · have : c = 61 := by simpa using h
        subst this; decide)]
    unfold quoF
    rw [List.cons_append, el3]
    simp only [show ¬ ((34 : UInt8) = 44) by decide, false_and, if_false, show stp 0 34 = 1 from rfl]
    rw [quo_fold s _ [], el3]
    simp
  have ht : trimB w = w := by
    have hl : trimR w = w := by
      rw [hw]
      unfold quoF
      rw [show name ++ [61] ++ (34 :: s.flatMap (fun c => if c = 34 ∨ c = 92 then [92, c] else [c]) ++ [34]) = (name ++ [61] ++ (34 :: s.flatMap (fun c => if c = 34 ∨ c = 92 then [92, c] else [c]))) ++ [34] by simp, trimR_snoc]
      rfl
    unfold trimB
    rw [hl, hw]
    cases name with
    | nil => exact absurd rfl hne
    | cons c r =>
      have := (tok_ne hn (c := c) (by simp)).2.2.2
      simp [trimL, List.dropWhile_cons, this]
  have hd : dirF w = (⟨lowF name, s, true⟩, true) := by
    have hc := cutA_at (c := 61) (a := name) (b := quoF s) fun x hx => (tok_ne hn hx).2.2.1
    have e1 : w = name ++ 61 :: quoF s := by rw [hw]; simp
    have hq : tokF (quoF s) = false := by
      unfold tokF quoF
      simp only [List.cons_append, List.all_cons]
      rw [show tokB 34 = false by decide]
      simp
    have hu : unqF (quoF s) = (s, true) := by
      unfold quoF
      rw [List.cons_append, unqF]
      simp only [if_true]
      have := unq_quo s [] hs
      simpa using this
    unfold dirF
    rw [e1, hc.1, hc.2.1, hc.2.2, hq, hn, hu]
    rfl
  unfold dirsF elemsF
  rw [← hw, sub0, he]
  have : tidy [w] = [w] := by
    unfold tidy
    simp only [List.map_cons, List.map_nil, ht, List.filter_cons, List.filter_nil]
    have : nb w = true := by
      rw [hw]
      cases name <;> rfl
    rw [this]; rfl
  rw [this]
  unfold listF
  simp [hd]
end Go.Proofs.YtcmpkkkigmheoaaGreatDoor.FD
/-! Tags, quoted texts, directives: one element each. The texts' bounds are named. -/
namespace Go.Proofs.YtcmpkkkigmheoaaGreatDoor.FD
open Go Go.Proofs Go.RowKit Go.Proofs.YtcmpkkkigmheoaaGreatDoor.Sh Go.Proofs.YtcmpkkkigmheoaaGreatDoor.Sl Go.Proofs.YtcmpkkkigmheoaaGreatDoor.T
theorem badT_i (c : UInt8) : badT c = (decide ((c.toNat : Int) ≤ 32) || decide (c = 34) || decide (c = 127)) := by
  have e : decide ((c.toNat : Int) ≤ 32) = decide (c ≤ 32) := by
    rw [decide_eq_decide, UInt8.le_iff_toNat_le]
    simp only [show (32 : UInt8).toNat = 32 from rfl]
    omega
  rw [e]
  unfold badT
  by_cases h1 : c ≤ 32 <;> by_cases h2 : c = 34 <;> by_cases h3 : c = 127 <;> simp [h1, h2, h3]
theorem tagV_len (l : List UInt8) : (tagV l).length ≤ l.length := by
  unfold tagV
  split
  · simp
  · exact Nat.le_refl _
theorem tag {W : World} {l : List UInt8} (hl : l.length ≤ 4611686018427387904) : Cn Tryz.prog 34 [txt l] W [] (fun _ : Unit => .tuple #[vTag (tagF l).1, .bool (tagF l).2]) (fun _ => []) := by
  have hvl := tagV_len l
  have bad : tagOk (tagV l) = false → tagF l = ((false, []), false) := fun h => by unfold tagF; rw [h]; rfl
  (refine S.fields_tag_cn fun F => ?_; unfold S.fields_tag; simp only [List.cons_append, List.nil_append])
  refine e_newA fun b2 => ?_
  (refine' e_call (cutPre hl) ?hp fun _ => ?_; (case hp => (repeat (first | exact Picks.nil | (apply Picks.cons; (focus (repeat constructor)))))); (try simp only [List.cons_append, List.nil_append, Bool.not_true, Bool.not_false]))
  refine e_opN (v_extN (vs := [_, _]) .here) Imp.nil ?_
  refine e_opN (v_extN (vs := [_, _]) (.there .here)) Imp.nil ?_
  obtain ⟨v, hv⟩ : ∃ v, v = tagV l := ⟨_, rfl⟩
  rw [← hv] at hvl bad ⊢
  refine e_opN v_lent Imp.nil ?_
  refine e_opN v_lss Imp.nil ?_
  by_cases h2 : v.length < 2
  · have hno : tagOk v = false := by
      unfold tagOk
      rw [decide_eq_false (fun c => by omega)]; rfl
    rw [bad hno, decide_eq_true (by omega)]
    ((with_reducible refine e_gdF1 ?_)); ((with_reducible refine e_gdF1 ?_)); ((with_reducible refine e_gdF1 ?_)); (((with_reducible refine e_opN v_pickT Imp.nil ?_))); ((with_reducible refine e_gdF1 ?_)); ((with_reducible refine e_gdF1 ?_)); ((with_reducible refine e_gdF1 ?_)); ((with_reducible refine e_gdF1 ?_)); ((with_reducible refine e_gdF1 ?_)); ((with_reducible refine e_gdF1 ?_)); (((with_reducible refine e_opN v_pickT Imp.nil ?_))); ((with_reducible refine e_condT ?_)); (((with_reducible refine e_opN v_rv Imp.nil ?_))); (((with_reducible refine' e_stAgg ?hp ?hn ?hv ?h1 ?_); (case hp => (repeat constructor)); (case hn => rfl); (case hv => rfl); (case h1 => simp [Value.oneCell']))); (((with_reducible refine' e_stS (v_resA ?hn) ?hi ?_); (case hi => (repeat (first | exact Imp.refl | exact Imp.nil | (apply Imp.pick; (focus ((repeat constructor); done))) | refine Imp.drop ?_))); (case hn => rfl)))
    (first | refine e_ret (()) rfl ?_ | refine e_retT (()) ?_)
    (repeat (first | exact Imp.refl | exact Imp.nil | (apply Imp.pick; (focus ((repeat constructor); done))) | refine Imp.drop ?_))
  · rw [decide_eq_false (by omega)]
    refine e_or2 (fun _ => v_ixS (l := v) 0 rfl (by omega)) (fun _ => B_ne 34 rfl) ?_
    rw [Bool.false_or]
    by_cases h3 : v[0]'(by omega) = 34
    · rw [decide_eq_false (fun c => c h3)]
      ((with_reducible refine e_gdT ?_)); ((with_reducible refine e_gdT ?_)); ((with_reducible refine e_gdT ?_))
      refine e_opN v_lent Imp.nil ?_
      ((with_reducible refine e_gdT ?_)); (((with_reducible refine e_opN (v_sub ?h1 ?h2) Imp.nil ?_); (case h1 => omega); (case h2 => omega))); ((with_reducible refine e_gdT ?_))
      refine e_opN (v_ixS (v.length - 1) (by omega) (by omega)) Imp.nil ?_
      ((with_reducible refine e_gdT ?_))
      refine e_opN (B_ne 34 rfl) Imp.nil ?_
      (((with_reducible refine e_opN v_pickF Imp.nil ?_)))
      by_cases h4 : v[v.length - 1]'(by omega) = 34
      · rw [decide_eq_false (fun c => c h4)]
        have hok : tagOk v = !(mid v).any badT := by
          unfold tagOk
          rw [decide_eq_true ⟨by omega, by rw [List.getElem?_eq_getElem (by omega), h3], by rw [List.getElem?_eq_getElem (by omega), h4]⟩, Bool.true_and]
        refine e_condF ?_
        refine e_opN v_lent Imp.nil ?_
        refine e_opN (v_sub (by omega) (by omega)) Imp.nil ?_
        refine e_opN (v_sslh 1 (v.length - 1) rfl (by omega) (by omega) (by omega)) Imp.nil ?_
        rw [show sub v 1 (v.length - 1) = mid v from rfl]
        have hml : (mid v).length ≤ v.length := by simp [mid, sub]; omega
        refine e_sbytesF Tryz.underlying95 Tryz.underlying5 fun g c rest => ?_
        refine e_opN v_len Imp.nil ?_
        refine e_loop1 (fun m y => [ex fun i : Nat => all [pu (m + i = (mid v).length ∧ y = .int .i64 (i : Int) ∧ (mid v).any badT = ((mid v).drop i).any badT), pt g (.cells ((mid v).map B ++ rest).toArray 5 ((mid v).length + rest.length, (mid v).length + rest.length + 1)), pt b2 (.cells #[.bool false, .string ⟨#[]⟩] 28 (0, 0))]] ++ F) (mid v).length ?_ ?_
        · refine Imp.ex 0 (.all ?_)
          (try simp only [List.cons_append, List.nil_append, -eq_self])
          exact .pu ⟨by omega, rfl, rfl⟩ .refl
        intro m ds y
        (try simp only [List.cons_append, List.nil_append, -eq_self])
        refine e_ex Pick.here fun i => e_all Pick.here ?_
        (try simp only [List.cons_append, List.nil_append, -eq_self])
        refine e_pu Pick.here fun hi => ?_
        obtain ⟨hmi, rfl, hany⟩ := hi
        refine e_ask v_lss Imp.nil (fun h => ?_) (fun h => ?_)
        · have hil : i < (mid v).length := by omega
          rw [dr hil, List.any_cons] at hany
          refine e_condT ?_
          refine e_opN (v_ia1 i rfl hil) Imp.nil ?_
          rw [Nat.zero_add]
          refine e_opN (v_ld (v := B (mid v)[i]) (by simp [List.getElem?_append, hil])) (.pick .here .nil) ?_
          refine e_opN (v_leq (q := .u8) (a := ((mid v)[i].toNat : Int)) (b := 32)) Imp.nil ?_
          refine e_or1 (fun _ => B_eq 34 rfl) ?_
          refine e_or1 (fun _ => B_eq 127 rfl) ?_
          rw [← badT_i]
          cases hb : badT (mid v)[i] with
          | true =>
            rw [hb, Bool.true_or] at hany
            rw [hany] at hok
            rw [bad hok]
            ((with_reducible refine e_condT ?_)); (((with_reducible refine e_opN v_rv Imp.nil ?_))); (((with_reducible refine' e_stAgg ?hp ?hn ?hv ?h1 ?_); (case hp => (repeat constructor)); (case hn => rfl); (case hv => rfl); (case h1 => simp [Value.oneCell']))); (((with_reducible refine' e_stS (v_resA ?hn) ?hi ?_); (case hi => (repeat (first | exact Imp.refl | exact Imp.nil | (apply Imp.pick; (focus ((repeat constructor); done))) | refine Imp.drop ?_))); (case hn => rfl)))
            (first | refine e_ret (()) rfl ?_ | refine e_retT (()) ?_)
            (repeat (first | exact Imp.refl | exact Imp.nil | (apply Imp.pick; (focus ((repeat constructor); done))) | refine Imp.drop ?_))
          | false =>
            rw [hb, Bool.false_or] at hany
            ((with_reducible refine e_condF ?_)); (((with_reducible refine e_opN (v_add ?h1 ?h2) Imp.nil ?_); (case h1 => omega); (case h2 => omega)))
            refine e_next1 (m - 1) (by omega) (.ex (i + 1) (.all ?_))
            (try simp only [List.cons_append, List.nil_append, -eq_self])
            exact .pu ⟨by omega, rfl, hany⟩ .refl
        · rw [List.drop_of_length_le (by omega), List.any_nil] at hany
          rw [hany] at hok
          have e : tagF l = ((weakF l, mid v), true) := by
            unfold tagF
            rw [← hv, hok]; rfl
          rw [e]
          ((with_reducible refine e_condF ?_)); (((with_reducible refine e_opN v_rv Imp.nil ?_))); (((with_reducible refine' e_stAgg ?hp ?hn ?hv ?h1 ?_); (case hp => (repeat constructor)); (case hn => rfl); (case hv => rfl); (case h1 => (intro u hu; simp at hu; rcases hu with rfl | rfl <;> rfl)))); (((with_reducible refine' e_stS (v_resA ?hn) ?hi ?_); (case hi => (repeat (first | exact Imp.refl | exact Imp.nil | (apply Imp.pick; (focus ((repeat constructor); done))) | refine Imp.drop ?_))); (case hn => rfl)))
          (first | refine e_ret (()) rfl ?_ | refine e_retT (()) ?_)
          (repeat (first | exact Imp.refl | exact Imp.nil | (apply Imp.pick; (focus ((repeat constructor); done))) | refine Imp.drop ?_))
      · have hno : tagOk v = false := by
          unfold tagOk
          rw [decide_eq_false (fun c => h4 (by have := c.2.2; rw [List.getElem?_eq_getElem (by omega)] at this; exact Option.some.inj this))]; rfl
        rw [bad hno, decide_eq_true h4]
        ((with_reducible refine e_condT ?_)); (((with_reducible refine e_opN v_rv Imp.nil ?_))); (((with_reducible refine' e_stAgg ?hp ?hn ?hv ?h1 ?_); (case hp => (repeat constructor)); (case hn => rfl); (case hv => rfl); (case h1 => simp [Value.oneCell']))); (((with_reducible refine' e_stS (v_resA ?hn) ?hi ?_); (case hi => (repeat (first | exact Imp.refl | exact Imp.nil | (apply Imp.pick; (focus ((repeat constructor); done))) | refine Imp.drop ?_))); (case hn => rfl)))
        (first | refine e_ret (()) rfl ?_ | refine e_retT (()) ?_)
        (repeat (first | exact Imp.refl | exact Imp.nil | (apply Imp.pick; (focus ((repeat constructor); done))) | refine Imp.drop ?_))
    · have hno : tagOk v = false := by
        unfold tagOk
        rw [decide_eq_false (fun c => h3 (by have := c.2.1; rw [List.getElem?_eq_getElem (by omega)] at this; exact Option.some.inj this))]; rfl
      rw [bad hno, decide_eq_true h3]
      ((with_reducible refine e_gdF1 ?_)); ((with_reducible refine e_gdF1 ?_)); ((with_reducible refine e_gdF1 ?_)); ((with_reducible refine e_gdF1 ?_)); ((with_reducible refine e_gdF1 ?_)); ((with_reducible refine e_gdF1 ?_)); (((with_reducible refine e_opN v_pickT Imp.nil ?_))); ((with_reducible refine e_condT ?_)); (((with_reducible refine e_opN v_rv Imp.nil ?_))); (((with_reducible refine' e_stAgg ?hp ?hn ?hv ?h1 ?_); (case hp => (repeat constructor)); (case hn => rfl); (case hv => rfl); (case h1 => simp [Value.oneCell']))); (((with_reducible refine' e_stS (v_resA ?hn) ?hi ?_); (case hi => (repeat (first | exact Imp.refl | exact Imp.nil | (apply Imp.pick; (focus ((repeat constructor); done))) | refine Imp.drop ?_))); (case hn => rfl)))
      (first | refine e_ret (()) rfl ?_ | refine e_retT (()) ?_)
      (repeat (first | exact Imp.refl | exact Imp.nil | (apply Imp.pick; (focus ((repeat constructor); done))) | refine Imp.drop ?_))
theorem parseTag {W : World} {l : List UInt8} (hl : l.length ≤ 4611686018427387904) : Cn Tryz.prog 20 [txt l] W [] (fun _ : Unit => .tuple #[vTag (tagF l).1, .int .i64 (if (tagF l).2 then 0 else 42)]) (fun _ => []) := by
  have hbad : (tagF l).2 = false → (tagF l).1 = (false, []) := by
    unfold tagF
    split
    · intro h; cases h
    · intro _; rfl
  (refine S.fields_ParseTag_cn fun F => ?_; unfold S.fields_ParseTag; simp only [List.cons_append, List.nil_append])
  refine e_newA fun b2 => ?_
  (refine' e_call (tag hl) ?hp fun _ => ?_; (case hp => (repeat (first | exact Picks.nil | (apply Picks.cons; (focus (repeat constructor)))))); (try simp only [List.cons_append, List.nil_append, Bool.not_true, Bool.not_false]))
  refine e_opN (v_extN (vs := [_, _]) .here) Imp.nil ?_
  refine e_opN (v_extN (vs := [_, _]) (.there .here)) Imp.nil ?_
  refine e_newA fun b4 => ?_
  unfold vTag
  cases h : (tagF l).2 with
  | true =>
    (((with_reducible refine' e_stAgg ?hp ?hn ?hv ?h1 ?_); (case hp => (repeat constructor)); (case hn => rfl); (case hv => rfl); (case h1 => (intro u hu; simp at hu; rcases hu with rfl | rfl <;> rfl)))); (((with_reducible refine e_opN v_notT Imp.nil ?_))); ((with_reducible refine e_condF ?_)); (((with_reducible refine' e_opN (v_ldAgg ?hn) ?hi ?_); (case hi => (repeat (first | exact Imp.refl | exact Imp.nil | (apply Imp.pick; (focus ((repeat constructor); done))) | refine Imp.drop ?_))); (case hn => rfl))); (((with_reducible refine' e_stAgg ?hp ?hn ?hv ?h1 ?_); (case hp => (repeat constructor)); (case hn => rfl); (case hv => rfl); (case h1 => (intro u hu; simp at hu; rcases hu with rfl | rfl <;> rfl)))); (((with_reducible refine' e_stS (v_resA ?hn) ?hi ?_); (case hi => (repeat (first | exact Imp.refl | exact Imp.nil | (apply Imp.pick; (focus ((repeat constructor); done))) | refine Imp.drop ?_))); (case hn => rfl)))
    (first | refine e_ret (()) rfl ?_ | refine e_retT (()) ?_)
    (repeat (first | exact Imp.refl | exact Imp.nil | (apply Imp.pick; (focus ((repeat constructor); done))) | refine Imp.drop ?_))
  | false =>
    rw [hbad h]
    (((with_reducible refine' e_stAgg ?hp ?hn ?hv ?h1 ?_); (case hp => (repeat constructor)); (case hn => rfl); (case hv => rfl); (case h1 => (intro u hu; simp at hu; rcases hu with rfl | rfl <;> rfl)))); (((with_reducible refine e_opN v_notF Imp.nil ?_))); ((with_reducible refine e_condT ?_)); (((with_reducible refine e_opN v_rv Imp.nil ?_))); (((with_reducible refine' e_stAgg ?hp ?hn ?hv ?h1 ?_); (case hp => (repeat constructor)); (case hn => rfl); (case hv => rfl); (case h1 => simp [Value.oneCell']))); (((with_reducible refine' e_stS (v_resA ?hn) ?hi ?_); (case hi => (repeat (first | exact Imp.refl | exact Imp.nil | (apply Imp.pick; (focus ((repeat constructor); done))) | refine Imp.drop ?_))); (case hn => rfl)))
    (first | refine e_ret (()) rfl ?_ | refine e_retT (()) ?_)
    (repeat (first | exact Imp.refl | exact Imp.nil | (apply Imp.pick; (focus ((repeat constructor); done))) | refine Imp.drop ?_))
theorem tagText {W : World} {x : Bool × List UInt8} (hl : x.2.length ≤ 4611686018427387904) : Cn Tryz.prog 26 [vTag x] W [] (fun _ : Unit => txt (tagT x)) (fun _ => []) := by
  (refine S.fields_TagText_cn fun F => ?_; unfold S.fields_TagText; simp only [List.cons_append, List.nil_append])
  unfold vTag
  refine e_boxA fun b1 => ?_
  refine e_cut1 (fun z => pu (z = txt (if x.1 then [87, 47] else [])) :: pt b1 (.cells #[.bool x.1, txt x.2] 28 (0, 0)) :: F) ?_ ?_
  · intro ds z
    refine e_pu .here fun hz => ?_
    subst hz
    have hw : ((if x.1 then [87, 47] else []) : List UInt8).length ≤ 2 := by cases x.1 <;> simp
    refine e_opN (v_cat (b := [34]) (by simp; omega)) Imp.nil ?_
    (((with_reducible refine e_opN v_fa0 Imp.nil ?_))); (((with_reducible refine' e_opN (v_ldN ?hc) ?hi ?_); (case hi => (repeat (first | exact Imp.refl | exact Imp.nil | (apply Imp.pick; (focus ((repeat constructor); done))) | refine Imp.drop ?_))); (case hc => (repeat (first | exact Nth.here | apply Nth.there)))))
    refine e_opN (v_cat (by simp; omega)) Imp.nil ?_
    refine e_opN (v_cat (b := [34]) (by simp; omega)) Imp.nil ?_
    refine e_ret () (by unfold tagT; simp) ?_
    (repeat (first | exact Imp.refl | exact Imp.nil | (apply Imp.pick; (focus ((repeat constructor); done))) | refine Imp.drop ?_))
  · (((with_reducible refine e_opN v_fa0 Imp.nil ?_))); (((with_reducible refine' e_opN (v_ldN ?hc) ?hi ?_); (case hi => (repeat (first | exact Imp.refl | exact Imp.nil | (apply Imp.pick; (focus ((repeat constructor); done))) | refine Imp.drop ?_))); (case hc => (repeat (first | exact Nth.here | apply Nth.there)))))
    cases hx : x.1 with
    | true =>
      refine e_condT ?_
      refine e_sat (.pu rfl ?_)
      exact .refl
    | false =>
      refine e_condF ?_
      refine e_sat (.pu rfl ?_)
      exact .refl
theorem badQ_i (c : UInt8) : badQ c = ((decide ((c.toNat : Int) < 32) && decide (c ≠ 9)) || decide (c = 127)) := by
  have e : decide ((c.toNat : Int) < 32) = decide (c < 32) := by
    rw [decide_eq_decide, UInt8.lt_iff_toNat_lt]
    simp only [show (32 : UInt8).toNat = 32 from rfl]
    omega
  rw [e]
  unfold badQ
  by_cases h1 : c < 32 <;> by_cases h2 : c = 9 <;> by_cases h3 : c = 127 <;> simp [h1, h2, h3]
theorem unq_len : ∀ (n : Nat) (r : List UInt8), r.length ≤ n → ∀ acc, (unqL acc r).1.length ≤ acc.length + r.length
  | _, [], _, acc => by simp [unqL]
  | n + 1, c :: r, hn, acc => by
    have hr : r.length ≤ n := by simpa using hn
    rw [unqL_cons]
    split
    · simp
    · split
      · cases r with
        | nil => simp
        | cons d r' =>
          simp only
          split
          · simp
          · have := unq_len n r' (by simp at hr; omega) (acc ++ [d])
            simp at this ⊢; omega
      · split
        · simp
        · have := unq_len n r hr (acc ++ [c])
          simp at this ⊢; omega
theorem nn_none {a : Option Addr} {n : Nat} (h : 0 < n → ∃ g, a = some ⟨g, 0, none⟩) : a = none → n = 0 := fun e => by
  rcases Nat.eq_zero_or_pos n with c | c
  · exact c
  · obtain ⟨g, hg⟩ := h c
    rw [e] at hg; cases hg
theorem unqF_at {l : List UInt8} (h : 0 < l.length) : unqF l = if l[0] = 34 then unqL [] (l.drop 1) else ([], false) := by
  cases l with
  | nil => simp at h
  | cons c r => rfl
end Go.Proofs.YtcmpkkkigmheoaaGreatDoor.FD
/-! Choices, spans; tags compared; what must come. The library's own error can be read ('Gl'); a text of at most 2097152 bytes. -/
namespace Go.Proofs.YtcmpkkkigmheoaaGreatDoor.FD
open Go Go.Proofs Go.RowKit Go.Proofs.YtcmpkkkigmheoaaGreatDoor.Sh Go.Proofs.YtcmpkkkigmheoaaGreatDoor.Sl Go.Proofs.YtcmpkkkigmheoaaGreatDoor.T
def kC : List UInt8 := [103, 122, 105, 112, 59, 113, 61, 48, 46, 53, 44, 32, 98, 114]
def kS : List UInt8 := [98, 121, 116, 101, 115, 61, 48, 45, 52, 44, 32, 45, 51]
theorem kC_v : lsF (choicesF kC) = ([([103, 122, 105, 112], 500), ([98, 114], 1000)], 0) := by kernel_rfl
theorem kS_v : spansF kS = ([(0, 4), (-1, 3)], 0) := by kernel_rfl
def strF (x y : Bool × List UInt8) : Bool := decide (x.1 = y.1 ∧ x.2 = y.2) && !x.1
theorem strong {W : World} {x y : Bool × List UInt8} : Cn Tryz.prog 13 [vTag x, vTag y] W [] (fun _ : Unit => .bool (strF x y)) (fun _ => []) := by
  (refine S.fields_Strong_cn fun F => ?_; unfold S.fields_Strong; simp only [List.cons_append, List.nil_append])
  refine e_boxA fun b2 => ?_
  refine e_boxA fun b3 => ?_
  refine e_opN (v_ldAgg (cs := #[.bool x.1, txt x.2]) rfl) (.pick (.there .here) .nil) ?_
  refine e_opN (v_ldAgg (cs := #[.bool y.1, txt y.2]) rfl) (.pick .here .nil) ?_
  refine e_opN (v_tagEq x y) Imp.nil ?_
  unfold strF
  cases h : decide (x.1 = y.1 ∧ x.2 = y.2) with
  | true =>
    ((with_reducible refine e_gdT ?_)); (((with_reducible refine e_opN v_fa0 Imp.nil ?_))); ((with_reducible refine e_gdT ?_)); (((with_reducible refine' e_opN (v_ldN ?hc) ?hi ?_); (case hi => (repeat (first | exact Imp.refl | exact Imp.nil | (apply Imp.pick; (focus ((repeat constructor); done))) | refine Imp.drop ?_))); (case hc => (repeat (first | exact Nth.here | apply Nth.there))))); ((with_reducible refine e_gdT ?_)); (((with_reducible refine e_opN v_not Imp.nil ?_))); (((with_reducible refine e_opN v_pickT Imp.nil ?_)))
    (first | refine e_ret (()) rfl ?_ | refine e_retT (()) ?_)
    (repeat (first | exact Imp.refl | exact Imp.nil | (apply Imp.pick; (focus ((repeat constructor); done))) | refine Imp.drop ?_))
  | false =>
    ((with_reducible refine e_gdF2 ?_)); ((with_reducible refine e_gdF2 ?_)); ((with_reducible refine e_gdF2 ?_)); (((with_reducible refine e_opN v_pickF Imp.nil ?_)))
    (first | refine e_ret (()) rfl ?_ | refine e_retT (()) ?_)
    (repeat (first | exact Imp.refl | exact Imp.nil | (apply Imp.pick; (focus ((repeat constructor); done))) | refine Imp.drop ?_))
theorem weak {W : World} {x y : Bool × List UInt8} : Cn Tryz.prog 16 [vTag x, vTag y] W [] (fun _ : Unit => .bool (decide (x.2 = y.2))) (fun _ => []) := by
  (refine S.fields_Weak_cn fun F => ?_; unfold S.fields_Weak; simp only [List.cons_append, List.nil_append])
  refine e_boxA fun b2 => ?_
  refine e_boxA fun b3 => ?_
  (((with_reducible refine e_opN v_fa0 Imp.nil ?_))); (((with_reducible refine' e_opN (v_ldN ?hc) ?hi ?_); (case hi => (repeat (first | exact Imp.refl | exact Imp.nil | (apply Imp.pick; (focus ((repeat constructor); done))) | refine Imp.drop ?_))); (case hc => (repeat (first | exact Nth.here | apply Nth.there))))); (((with_reducible refine e_opN v_fa0 Imp.nil ?_))); (((with_reducible refine' e_opN (v_ldN ?hc) ?hi ?_); (case hi => (repeat (first | exact Imp.refl | exact Imp.nil | (apply Imp.pick; (focus ((repeat constructor); done))) | refine Imp.drop ?_))); (case hc => (repeat (first | exact Nth.here | apply Nth.there)))))
  refine e_opN v_streq Imp.nil ?_
  (first | refine e_ret (()) rfl ?_ | refine e_retT (()) ?_)
  (repeat (first | exact Imp.refl | exact Imp.nil | (apply Imp.pick; (focus ((repeat constructor); done))) | refine Imp.drop ?_))
end Go.Proofs.YtcmpkkkigmheoaaGreatDoor.FD
/-! Tags that are strongly alike are weakly alike: the law, walked. The library's own error can be read ('Gl'). -/
namespace Go.Proofs.YtcmpkkkigmheoaaGreatDoor.FD
open Go Go.Proofs Go.RowKit Go.Proofs.YtcmpkkkigmheoaaGreatDoor.Sh Go.Proofs.YtcmpkkkigmheoaaGreatDoor.Sl Go.Proofs.YtcmpkkkigmheoaaGreatDoor.T
theorem v_bne {W : World} {ox oy : Operand} {a b : Bool} : RunV Tryz.prog W [] (sEq .neq 4 ox oy (.bool a) (.bool b)) (.bool (decide (a ≠ b))) := fun w _ => by
  have h : (Op.equal 4 (.bool a) (.bool b)).run Tryz.prog w = .ok (a == b) w := by
    unfold Op.equal Op.maxDepth Op.equalIn
    simp only [Sem.run_bind, run_underlying Tryz.underlying4, Result.andThen_ok]
    rfl
  simp [sEq, sv, eqGuard, binOp, h, Result.andThen]
  cases a <;> cases b <;> rfl
theorem v_beq {W : World} {ox oy : Operand} {a b : Bool} : RunV Tryz.prog W [] (sEq .eql 4 ox oy (.bool a) (.bool b)) (.bool (decide (a = b))) := v_beqlG Tryz.underlying4
theorem strF_comm (x y : Bool × List UInt8) : strF x y = strF y x := by
  unfold strF
  by_cases h : x.1 = y.1 ∧ x.2 = y.2
  · rw [decide_eq_true h, decide_eq_true ⟨h.1.symm, h.2.symm⟩, h.1]
  · rw [decide_eq_false h, decide_eq_false (fun c => h ⟨c.1.symm, c.2.symm⟩)]; rfl
theorem strF_self (x : Bool × List UInt8) : strF x x = !x.1 := by simp [strF]
theorem strF_weak {x y : Bool × List UInt8} (h : strF x y = true) : x.2 = y.2 := by
  unfold strF at h
  simp at h; exact h.1.2
end Go.Proofs.YtcmpkkkigmheoaaGreatDoor.FD
/-! The document's lists. Printed by a program of mine (d23.py). A text of at most 2097152 bytes. -/
namespace Go.Proofs.YtcmpkkkigmheoaaGreatDoor.FD
open Go Go.Proofs Go.RowKit Go.Proofs.YtcmpkkkigmheoaaGreatDoor.Sh Go.Proofs.YtcmpkkkigmheoaaGreatDoor.Sl Go.Proofs.YtcmpkkkigmheoaaGreatDoor.T
theorem badT_r (c : UInt8) : badT c = (decide ((c.toNat : Int) < 33) || decide (c = 34) || decide (c = 127)) := by
  rw [badT_i]
  have e : decide ((c.toNat : Int) ≤ 32) = decide ((c.toNat : Int) < 33) := by rw [decide_eq_decide]; omega
  rw [e]
theorem rparseTag {W : World} {l : List UInt8} (hl : l.length ≤ 4611686018427387904) : Cn Tryz.prog 23 [txt l] W [] (fun _ : Unit => .tuple #[vTag (tagF l).1, .int .i64 (if (tagF l).2 then 0 else 42)]) (fun _ => []) := by
  have hvl := tagV_len l
  have bad : tagOk (tagV l) = false → tagF l = ((false, []), false) := fun h => by unfold tagF; rw [h]; rfl
  have e0 : (Value.string ⟨#[]⟩) = txt [] := rfl
  (refine S.ref10_ParseTag_cn fun F => ?_; unfold S.ref10_ParseTag; simp only [List.cons_append, List.nil_append])
  refine e_newA fun b2 => ?_
  refine e_opN v_rv Imp.nil ?_
  refine e_newA fun b4 => ?_
  (((with_reducible refine' e_stAgg ?hp ?hn ?hv ?h1 ?_); (case hp => (repeat constructor)); (case hn => rfl); (case hv => rfl); (case h1 => simp [Value.oneCell'])))
  refine e_cut1 (fun z => pu (z = txt (tagV l)) :: pt b4 (.cells #[.bool (weakF l), .string ⟨#[]⟩] 24 (0, 0)) :: pt b2 (.cells #[.bool false, .string ⟨#[]⟩] 24 (0, 0)) :: F) ?_ ?_
  rotate_left
  · refine e_opN v_lent Imp.nil ?_
    refine e_ask v_geq Imp.nil (fun h => ?_) (fun h => ?_)
    · have h2 : 2 ≤ l.length := by omega
      ((with_reducible refine e_gdT ?_)); ((with_reducible refine e_gdT ?_))
      refine e_opN (v_ssh 2 rfl h2) Imp.nil ?_
      ((with_reducible refine e_gdT ?_))
      refine e_opN (v_streq (m := [87, 47])) Imp.nil ?_
      refine e_opN v_pickT Imp.nil ?_
      have e : decide (l.take 2 = [87, 47]) = weakF l := by
        unfold weakF
        rw [Bool.eq_iff_iff]; simp
      rw [e]
      cases hw : weakF l with
      | true =>
        refine e_condT ?_
        (((with_reducible refine e_opN v_fa0 Imp.nil ?_))); (((with_reducible refine' e_stN ?hp ?ho ?_); (case hp => (repeat constructor)); (case ho => (repeat (first | exact Put.here | apply Put.there)))))
        refine e_opN (v_ssl 2 rfl h2) Imp.nil ?_
        refine e_sat (.pu (by unfold tagV; rw [hw]; rfl) ?_)
        exact .refl
      | false =>
        refine e_condF ?_
        refine e_sat (.pu (by unfold tagV; rw [hw]; rfl) ?_)
        exact .refl
    · have hw : weakF l = false := by
        unfold weakF
        cases hx : (l.take 2 == [87, 47]) with
        | false => rfl
        | true =>
          have := congrArg List.length (by simpa using hx : l.take 2 = [87, 47])
          simp at this; omega
      ((with_reducible refine e_gdF2 ?_)); ((with_reducible refine e_gdF2 ?_)); ((with_reducible refine e_gdF2 ?_)); (((with_reducible refine e_opN v_pickF Imp.nil ?_))); ((with_reducible refine e_condF ?_))
      rw [hw]
      refine e_sat (.pu (by unfold tagV; rw [hw]; rfl) ?_)
      exact .refl
  intro ds z
  refine e_pu .here fun hz => ?_
  subst hz
  obtain ⟨v, hv⟩ : ∃ v, v = tagV l := ⟨_, rfl⟩
  rw [← hv] at hvl bad ⊢
  refine e_opN v_lent Imp.nil ?_
  refine e_opN v_lss Imp.nil ?_
  by_cases h2 : v.length < 2
  · have hno : tagOk v = false := by
      unfold tagOk
      rw [decide_eq_false (fun c => by omega)]; rfl
    rw [bad hno, decide_eq_true (by omega)]
    ((with_reducible refine e_gdF1 ?_)); ((with_reducible refine e_gdF1 ?_)); ((with_reducible refine e_gdF1 ?_)); (((with_reducible refine e_opN v_pickT Imp.nil ?_))); ((with_reducible refine e_gdF1 ?_)); ((with_reducible refine e_gdF1 ?_)); ((with_reducible refine e_gdF1 ?_)); ((with_reducible refine e_gdF1 ?_)); ((with_reducible refine e_gdF1 ?_)); ((with_reducible refine e_gdF1 ?_)); (((with_reducible refine e_opN v_pickT Imp.nil ?_))); ((with_reducible refine e_condT ?_)); (((with_reducible refine e_opN v_rv Imp.nil ?_))); (((with_reducible refine' e_stAgg ?hp ?hn ?hv ?h1 ?_); (case hp => (repeat constructor)); (case hn => rfl); (case hv => rfl); (case h1 => simp [Value.oneCell']))); (((with_reducible refine' e_stS (v_resA ?hn) ?hi ?_); (case hi => (repeat (first | exact Imp.refl | exact Imp.nil | (apply Imp.pick; (focus ((repeat constructor); done))) | refine Imp.drop ?_))); (case hn => rfl)))
    (first | refine e_ret (()) rfl ?_ | refine e_retT (()) ?_)
    (repeat (first | exact Imp.refl | exact Imp.nil | (apply Imp.pick; (focus ((repeat constructor); done))) | refine Imp.drop ?_))
  rw [decide_eq_false (by omega)]
  refine e_or2 (fun _ => v_ixS (l := v) 0 rfl (by omega)) (fun _ => B_ne 34 rfl) ?_
  rw [Bool.false_or]
  by_cases h3 : v[0]'(by omega) = 34
  rotate_left
  · have hno : tagOk v = false := by
      unfold tagOk
      rw [decide_eq_false (fun c => h3 (by have := c.2.1; rw [List.getElem?_eq_getElem (by omega)] at this; exact Option.some.inj this))]; rfl
    rw [bad hno, decide_eq_true h3]
    ((with_reducible refine e_gdF1 ?_)); ((with_reducible refine e_gdF1 ?_)); ((with_reducible refine e_gdF1 ?_)); ((with_reducible refine e_gdF1 ?_)); ((with_reducible refine e_gdF1 ?_)); ((with_reducible refine e_gdF1 ?_)); (((with_reducible refine e_opN v_pickT Imp.nil ?_))); ((with_reducible refine e_condT ?_)); (((with_reducible refine e_opN v_rv Imp.nil ?_))); (((with_reducible refine' e_stAgg ?hp ?hn ?hv ?h1 ?_); (case hp => (repeat constructor)); (case hn => rfl); (case hv => rfl); (case h1 => simp [Value.oneCell']))); (((with_reducible refine' e_stS (v_resA ?hn) ?hi ?_); (case hi => (repeat (first | exact Imp.refl | exact Imp.nil | (apply Imp.pick; (focus ((repeat constructor); done))) | refine Imp.drop ?_))); (case hn => rfl)))
    (first | refine e_ret (()) rfl ?_ | refine e_retT (()) ?_)
    (repeat (first | exact Imp.refl | exact Imp.nil | (apply Imp.pick; (focus ((repeat constructor); done))) | refine Imp.drop ?_))
  rw [decide_eq_false (fun c => c h3)]
  ((with_reducible refine e_gdT ?_)); ((with_reducible refine e_gdT ?_)); ((with_reducible refine e_gdT ?_))
  refine e_opN v_lent Imp.nil ?_
  ((with_reducible refine e_gdT ?_)); (((with_reducible refine e_opN (v_sub ?h1 ?h2) Imp.nil ?_); (case h1 => omega); (case h2 => omega))); ((with_reducible refine e_gdT ?_))
  refine e_opN (v_ixS (v.length - 1) (by omega) (by omega)) Imp.nil ?_
  ((with_reducible refine e_gdT ?_))
  refine e_opN (B_ne 34 rfl) Imp.nil ?_
  (((with_reducible refine e_opN v_pickF Imp.nil ?_)))
  by_cases h4 : v[v.length - 1]'(by omega) = 34
  rotate_left
  · have hno : tagOk v = false := by
      unfold tagOk
      rw [decide_eq_false (fun c => h4 (by have := c.2.2; rw [List.getElem?_eq_getElem (by omega)] at this; exact Option.some.inj this))]; rfl
    rw [bad hno, decide_eq_true h4]
    ((with_reducible refine e_condT ?_)); (((with_reducible refine e_opN v_rv Imp.nil ?_))); (((with_reducible refine' e_stAgg ?hp ?hn ?hv ?h1 ?_); (case hp => (repeat constructor)); (case hn => rfl); (case hv => rfl); (case h1 => simp [Value.oneCell']))); (((with_reducible refine' e_stS (v_resA ?hn) ?hi ?_); (case hi => (repeat (first | exact Imp.refl | exact Imp.nil | (apply Imp.pick; (focus ((repeat constructor); done))) | refine Imp.drop ?_))); (case hn => rfl)))
    (first | refine e_ret (()) rfl ?_ | refine e_retT (()) ?_)
    (repeat (first | exact Imp.refl | exact Imp.nil | (apply Imp.pick; (focus ((repeat constructor); done))) | refine Imp.drop ?_))
  rw [decide_eq_false (fun c => c h4)]
  have hok : tagOk v = !(mid v).any badT := by
    unfold tagOk
    rw [decide_eq_true ⟨by omega, by rw [List.getElem?_eq_getElem (by omega), h3], by rw [List.getElem?_eq_getElem (by omega), h4]⟩, Bool.true_and]
  refine e_condF ?_
  refine e_opN v_lent Imp.nil ?_
  refine e_opN (v_sub (by omega) (by omega)) Imp.nil ?_
  refine e_opN (v_sslh 1 (v.length - 1) rfl (by omega) (by omega) (by omega)) Imp.nil ?_
  rw [show sub v 1 (v.length - 1) = mid v from rfl]
  have hml : (mid v).length ≤ v.length := by simp [mid, sub]; omega
  refine e_opN v_fa0 Imp.nil ?_
  refine e_stN (by (repeat constructor)) (.there .here) ?_
  refine e_loop1 (fun m y => [ex fun i : Nat => all [pu (m + i = (mid v).length ∧ y = .int .i64 (i : Int) ∧ (mid v).any badT = ((mid v).drop i).any badT), pt b4 (.cells #[.bool (weakF l), txt (mid v)] 24 (0, 0)), pt b2 (.cells #[.bool false, .string ⟨#[]⟩] 24 (0, 0))]] ++ F) (mid v).length ?_ ?_
  · refine Imp.ex 0 (.all ?_)
    (try simp only [List.cons_append, List.nil_append, -eq_self])
    exact .pu ⟨by omega, rfl, rfl⟩ .refl
  intro m ds y
  (try simp only [List.cons_append, List.nil_append, -eq_self])
  refine e_ex Pick.here fun i => e_all Pick.here ?_
  (try simp only [List.cons_append, List.nil_append, -eq_self])
  refine e_pu Pick.here fun hi => ?_
  obtain ⟨hmi, rfl, hany⟩ := hi
  refine e_opN v_fa0 Imp.nil ?_
  refine e_opN (v_ldN (.there .here)) (.pick (by (repeat constructor)) .nil) ?_
  refine e_opN v_lent Imp.nil ?_
  refine e_ask v_lss Imp.nil (fun h => ?_) (fun h => ?_)
  · have hil : i < (mid v).length := by omega
    rw [dr hil, List.any_cons] at hany
    refine e_condT ?_
    refine e_opN v_fa0 Imp.nil ?_
    refine e_opN (v_ldN (.there .here)) (.pick (by (repeat constructor)) .nil) ?_
    refine e_opN (v_ixS i rfl hil) Imp.nil ?_
    refine e_opN (v_lss (q := .u8) (a := ((mid v)[i].toNat : Int)) (b := 33)) Imp.nil ?_
    refine e_or1 (fun _ => B_eq 34 rfl) ?_
    refine e_or1 (fun _ => B_eq 127 rfl) ?_
    rw [← badT_r]
    cases hb : badT (mid v)[i] with
    | true =>
      rw [hb, Bool.true_or] at hany
      rw [hany] at hok
      rw [bad hok]
      ((with_reducible refine e_condT ?_)); (((with_reducible refine e_opN v_rv Imp.nil ?_))); (((with_reducible refine' e_stAgg ?hp ?hn ?hv ?h1 ?_); (case hp => (repeat constructor)); (case hn => rfl); (case hv => rfl); (case h1 => simp [Value.oneCell']))); (((with_reducible refine' e_stS (v_resA ?hn) ?hi ?_); (case hi => (repeat (first | exact Imp.refl | exact Imp.nil | (apply Imp.pick; (focus ((repeat constructor); done))) | refine Imp.drop ?_))); (case hn => rfl)))
      (first | refine e_ret (()) rfl ?_ | refine e_retT (()) ?_)
      (repeat (first | exact Imp.refl | exact Imp.nil | (apply Imp.pick; (focus ((repeat constructor); done))) | refine Imp.drop ?_))
    | false =>
      rw [hb, Bool.false_or] at hany
      ((with_reducible refine e_condF ?_)); (((with_reducible refine e_opN (v_add ?h1 ?h2) Imp.nil ?_); (case h1 => omega); (case h2 => omega)))
      refine e_next1 (m - 1) (by omega) (.ex (i + 1) (.all ?_))
      (try simp only [List.cons_append, List.nil_append, -eq_self])
      exact .pu ⟨by omega, rfl, hany⟩ .refl
  · rw [List.drop_of_length_le (by omega), List.any_nil] at hany
    rw [hany] at hok
    have e : tagF l = ((weakF l, mid v), true) := by
      unfold tagF
      rw [← hv, hok]; rfl
    rw [e]
    ((with_reducible refine e_condF ?_)); (((with_reducible refine' e_opN (v_ldAgg ?hn) ?hi ?_); (case hi => (repeat (first | exact Imp.refl | exact Imp.nil | (apply Imp.pick; (focus ((repeat constructor); done))) | refine Imp.drop ?_))); (case hn => rfl))); (((with_reducible refine' e_stAgg ?hp ?hn ?hv ?h1 ?_); (case hp => (repeat constructor)); (case hn => rfl); (case hv => rfl); (case h1 => (intro u hu; simp at hu; rcases hu with rfl | rfl <;> rfl)))); (((with_reducible refine' e_stS (v_resA ?hn) ?hi ?_); (case hi => (repeat (first | exact Imp.refl | exact Imp.nil | (apply Imp.pick; (focus ((repeat constructor); done))) | refine Imp.drop ?_))); (case hn => rfl)))
    (first | refine e_ret (()) rfl ?_ | refine e_retT (()) ?_)
    (repeat (first | exact Imp.refl | exact Imp.nil | (apply Imp.pick; (focus ((repeat constructor); done))) | refine Imp.drop ?_))
theorem rstrong {W : World} {x y : Bool × List UInt8} : Cn Tryz.prog 24 [vTag x, vTag y] W [] (fun _ : Unit => .bool (strF x y)) (fun _ => []) := by
  have e : strF x y = ((!x.1 && !y.1) && decide (x.2 = y.2)) := by
    unfold strF
    cases x.1 <;> cases y.1 <;> by_cases h : x.2 = y.2 <;> simp [h]
  rw [e]
  (refine S.ref10_Strong_cn fun F => ?_; unfold S.ref10_Strong; simp only [List.cons_append, List.nil_append])
  unfold vTag
  refine e_boxA fun b2 => ?_
  refine e_boxA fun b3 => ?_
  cases h1 : x.1 with
  | true =>
    (((with_reducible refine e_opN v_fa0 Imp.nil ?_))); (((with_reducible refine' e_opN (v_ldN ?hc) ?hi ?_); (case hi => (repeat (first | exact Imp.refl | exact Imp.nil | (apply Imp.pick; (focus ((repeat constructor); done))) | refine Imp.drop ?_))); (case hc => (repeat (first | exact Nth.here | apply Nth.there))))); (((with_reducible refine e_opN v_notT Imp.nil ?_))); ((with_reducible refine e_gdF2 ?_)); ((with_reducible refine e_gdF2 ?_)); ((with_reducible refine e_gdF2 ?_)); (((with_reducible refine e_opN v_pickF Imp.nil ?_))); ((with_reducible refine e_gdF2 ?_)); ((with_reducible refine e_gdF2 ?_)); ((with_reducible refine e_gdF2 ?_)); ((with_reducible refine e_gdF2 ?_)); ((with_reducible refine e_gdF2 ?_)); (((with_reducible refine e_opN v_pickF Imp.nil ?_)))
    (first | refine e_ret (()) rfl ?_ | refine e_retT (()) ?_)
    (repeat (first | exact Imp.refl | exact Imp.nil | (apply Imp.pick; (focus ((repeat constructor); done))) | refine Imp.drop ?_))
  | false =>
    cases h2 : y.1 with
    | true =>
      (((with_reducible refine e_opN v_fa0 Imp.nil ?_))); (((with_reducible refine' e_opN (v_ldN ?hc) ?hi ?_); (case hi => (repeat (first | exact Imp.refl | exact Imp.nil | (apply Imp.pick; (focus ((repeat constructor); done))) | refine Imp.drop ?_))); (case hc => (repeat (first | exact Nth.here | apply Nth.there))))); (((with_reducible refine e_opN v_notF Imp.nil ?_))); ((with_reducible refine e_gdT ?_)); (((with_reducible refine e_opN v_fa0 Imp.nil ?_))); ((with_reducible refine e_gdT ?_)); (((with_reducible refine' e_opN (v_ldN ?hc) ?hi ?_); (case hi => (repeat (first | exact Imp.refl | exact Imp.nil | (apply Imp.pick; (focus ((repeat constructor); done))) | refine Imp.drop ?_))); (case hc => (repeat (first | exact Nth.here | apply Nth.there))))); ((with_reducible refine e_gdT ?_)); (((with_reducible refine e_opN v_notT Imp.nil ?_))); (((with_reducible refine e_opN v_pickT Imp.nil ?_))); ((with_reducible refine e_gdF2 ?_)); ((with_reducible refine e_gdF2 ?_)); ((with_reducible refine e_gdF2 ?_)); ((with_reducible refine e_gdF2 ?_)); ((with_reducible refine e_gdF2 ?_)); (((with_reducible refine e_opN v_pickF Imp.nil ?_)))
      (first | refine e_ret (()) rfl ?_ | refine e_retT (()) ?_)
      (repeat (first | exact Imp.refl | exact Imp.nil | (apply Imp.pick; (focus ((repeat constructor); done))) | refine Imp.drop ?_))
    | false =>
      (((with_reducible refine e_opN v_fa0 Imp.nil ?_))); (((with_reducible refine' e_opN (v_ldN ?hc) ?hi ?_); (case hi => (repeat (first | exact Imp.refl | exact Imp.nil | (apply Imp.pick; (focus ((repeat constructor); done))) | refine Imp.drop ?_))); (case hc => (repeat (first | exact Nth.here | apply Nth.there))))); (((with_reducible refine e_opN v_notF Imp.nil ?_))); ((with_reducible refine e_gdT ?_)); (((with_reducible refine e_opN v_fa0 Imp.nil ?_))); ((with_reducible refine e_gdT ?_)); (((with_reducible refine' e_opN (v_ldN ?hc) ?hi ?_); (case hi => (repeat (first | exact Imp.refl | exact Imp.nil | (apply Imp.pick; (focus ((repeat constructor); done))) | refine Imp.drop ?_))); (case hc => (repeat (first | exact Nth.here | apply Nth.there))))); ((with_reducible refine e_gdT ?_)); (((with_reducible refine e_opN v_notF Imp.nil ?_))); (((with_reducible refine e_opN v_pickT Imp.nil ?_))); ((with_reducible refine e_gdT ?_)); (((with_reducible refine e_opN v_fa0 Imp.nil ?_))); ((with_reducible refine e_gdT ?_)); (((with_reducible refine' e_opN (v_ldN ?hc) ?hi ?_); (case hi => (repeat (first | exact Imp.refl | exact Imp.nil | (apply Imp.pick; (focus ((repeat constructor); done))) | refine Imp.drop ?_))); (case hc => (repeat (first | exact Nth.here | apply Nth.there))))); ((with_reducible refine e_gdT ?_)); (((with_reducible refine e_opN v_fa0 Imp.nil ?_))); ((with_reducible refine e_gdT ?_)); (((with_reducible refine' e_opN (v_ldN ?hc) ?hi ?_); (case hi => (repeat (first | exact Imp.refl | exact Imp.nil | (apply Imp.pick; (focus ((repeat constructor); done))) | refine Imp.drop ?_))); (case hc => (repeat (first | exact Nth.here | apply Nth.there))))); ((with_reducible refine e_gdT ?_))
      refine e_opN v_streq Imp.nil ?_
      (((with_reducible refine e_opN v_pickT Imp.nil ?_)))
      (first | refine e_ret (()) rfl ?_ | refine e_retT (()) ?_)
      (repeat (first | exact Imp.refl | exact Imp.nil | (apply Imp.pick; (focus ((repeat constructor); done))) | refine Imp.drop ?_))
theorem rweak {W : World} {x y : Bool × List UInt8} : Cn Tryz.prog 33 [vTag x, vTag y] W [] (fun _ : Unit => .bool (decide (x.2 = y.2))) (fun _ => []) := by
  (refine S.ref10_Weak_cn fun F => ?_; unfold S.ref10_Weak; simp only [List.cons_append, List.nil_append])
  refine e_boxA fun b2 => ?_
  refine e_boxA fun b3 => ?_
  (((with_reducible refine e_opN v_fa0 Imp.nil ?_))); (((with_reducible refine' e_opN (v_ldN ?hc) ?hi ?_); (case hi => (repeat (first | exact Imp.refl | exact Imp.nil | (apply Imp.pick; (focus ((repeat constructor); done))) | refine Imp.drop ?_))); (case hc => (repeat (first | exact Nth.here | apply Nth.there))))); (((with_reducible refine e_opN v_fa0 Imp.nil ?_))); (((with_reducible refine' e_opN (v_ldN ?hc) ?hi ?_); (case hi => (repeat (first | exact Imp.refl | exact Imp.nil | (apply Imp.pick; (focus ((repeat constructor); done))) | refine Imp.drop ?_))); (case hc => (repeat (first | exact Nth.here | apply Nth.there)))))
  refine e_opN v_streq Imp.nil ?_
  (first | refine e_ret (()) rfl ?_ | refine e_retT (()) ?_)
  (repeat (first | exact Imp.refl | exact Imp.nil | (apply Imp.pick; (focus ((repeat constructor); done))) | refine Imp.drop ?_))
theorem tags {W : World} {l : List UInt8} (hl : l.length ≤ 2097152) : Cn Tryz.prog 29 [txt l] W [] (fun r : Option Addr × Nat => .tuple #[.slice r.1 (tagsF l).1.length r.2, .bool (tagsF l).2.1, .int .i64 (tagsF l).2.2])
    (fun r => [Sl 2 28 r.1 r.2 (tagsF l).1.length ((tagsF l).1.flatMap pTag)]) := by
  have hX : (lsF (tagLF l)).1.length ≤ l.length + 1 := by
    have := elems_num (q := true) (e := false) (l := l)
    unfold tagLF listF
    split
    · simp [lsF]; omega
    · simp [lsF]
  (refine S.fields_Tags_cn fun F => ?_; unfold S.fields_Tags; simp only [List.cons_append, List.nil_append])
  refine e_call (trim (l := l) (by omega)) .nil fun _ => ?_
  (try simp only [List.cons_append, List.nil_append, -eq_self])
  refine e_ask (v_streq (m := [42])) Imp.nil (fun h => ?_) (fun h => ?_)
  · have : tagsF l = ([], true, 0) := by unfold tagsF; rw [if_pos h]
    rw [this]
    refine e_condT ?_
    refine e_ret (none, 0) rfl ?_
    exact imp_nil .refl
  · refine e_condF ?_
    refine e_opN v_rv Imp.nil ?_
    refine e_call (list_Tag (q := true) (e := false) (one := tagF) hl fun w hw => tag (by omega)) .nil fun r => ?_
    rw [show listF tagF (elemsF true false l) = tagLF l from rfl]
    (try simp only [List.cons_append, List.nil_append, -eq_self])
    refine e_opN (v_extN (vs := [_, _]) .here) Imp.nil ?_
    refine e_opN (v_extN (vs := [_, _]) (.there .here)) Imp.nil ?_
    have ht : tagsF l = match tagLF l with
      | none => ([], false, 42)
      | some l => if l = [] then ([], false, 42) else (l, false, 0) := by unfold tagsF; rw [if_neg h]; rfl
    cases hx : tagLF l with
    | none =>
      rw [hx] at ht
      rw [ht]
      simp only [lsF]
      refine e_opN v_eql Imp.nil ?_
      rw [decide_eq_false (by decide)]
      ((with_reducible refine e_gdF2 ?_)); ((with_reducible refine e_gdF2 ?_)); ((with_reducible refine e_gdF2 ?_)); (((with_reducible refine e_opN v_pickF Imp.nil ?_))); ((with_reducible refine e_condF ?_))
      (first | refine e_ret (r) rfl ?_ | refine e_retT (r) ?_)
      exact .refl
    | some xs =>
      rw [hx] at ht hX
      simp only [lsF] at ht hX ⊢
      refine e_opN v_eql Imp.nil ?_
      rw [decide_eq_true rfl]
      ((with_reducible refine e_gdT ?_)); ((with_reducible refine e_gdT ?_)); (((with_reducible refine e_opN v_len Imp.nil ?_))); ((with_reducible refine e_gdT ?_))
      refine e_opN v_eql Imp.nil ?_
      by_cases h0 : xs = []
      · rw [ht, if_pos h0, h0]
        rw [show decide ((([] : List (Bool × List UInt8)).length : Int) = 0) = true from rfl]
        (((with_reducible refine e_opN v_pickT Imp.nil ?_))); ((with_reducible refine e_condT ?_))
        (first | refine e_ret (r) rfl ?_ | refine e_retT (r) ?_)
        exact .refl
      · rw [ht, if_neg h0]
        rw [decide_eq_false (fun c => h0 (List.eq_nil_of_length_eq_zero (by omega)))]
        (((with_reducible refine e_opN v_pickT Imp.nil ?_))); ((with_reducible refine e_condF ?_))
        (first | refine e_ret (r) rfl ?_ | refine e_retT (r) ?_)
        exact .refl
theorem rtags {W : World} {l : List UInt8} (hl : l.length ≤ 2097152) : Cn Tryz.prog 32 [txt l] W [] (fun r : Option Addr × Nat => .tuple #[.slice r.1 (tagsF l).1.length r.2, .bool (tagsF l).2.1, .int .i64 (tagsF l).2.2])
    (fun r => [Sl 2 24 r.1 r.2 (tagsF l).1.length ((tagsF l).1.flatMap pTag)]) := by
  have fin : tagsF l = ([], false, 42) → ∀ F : List HP, Ent W F (fun w => ∃ r : Option Addr × Nat, (.tuple #[.slice none 0 0, .bool false, .int .i64 42] : Value) = .tuple #[.slice r.1 (tagsF l).1.length r.2, .bool (tagsF l).2.1, .int .i64 (tagsF l).2.2] ∧ sat W ([Sl 2 24 r.1 r.2 (tagsF l).1.length ((tagsF l).1.flatMap pTag)] ++ F) w) := by
    intro h F
    rw [h]
    refine e_ret (none, 0) rfl ?_
    exact imp_nil .refl
  (refine S.ref10_Tags_cn fun F => ?_; unfold S.ref10_Tags; simp only [List.cons_append, List.nil_append])
  refine e_call (rtrim (l := l) (by omega)) .nil fun _ => ?_
  (try simp only [List.cons_append, List.nil_append, -eq_self])
  refine e_opN (v_streq (m := [42])) Imp.nil ?_
  by_cases hstar : trimB l = [42]
  · have : tagsF l = ([], true, 0) := by unfold tagsF; rw [if_pos hstar]
    rw [this, decide_eq_true hstar]
    refine e_condT ?_
    refine e_ret (none, 0) rfl ?_
    exact imp_nil .refl
  rw [decide_eq_false hstar]
  refine e_condF ?_
  have hts : tagsF l = match tagLF l with
    | none => ([], false, 42)
    | some l => if l = [] then ([], false, 42) else (l, false, 0) := by unfold tagsF; rw [if_neg hstar]; rfl
  have hs : tagLF l = listF tagF (elemsF true false l) := rfl
  have hnum := elems_num (q := true) (e := false) (l := l)
  refine e_call (relements (l := l) (q := true) (e := false) (by omega)) .nil fun r => ?_
  obtain ⟨ea, ec⟩ := r
  (try simp only [List.cons_append, List.nil_append, -eq_self])
  obtain ⟨E, hE⟩ : ∃ E, E = elemsF true false l := ⟨_, rfl⟩
  have hEl : ∀ w ∈ E, w.length ≤ 2097152 := fun w hw => by
    rw [hE] at hw
    have := elems_len hw
    omega
  rw [← hE] at hnum hs ⊢
  refine e_loop2 (fun m y5 y6 => [ex fun st : Nat × Option Addr × Nat => all [pu (m + st.1 = E.length ∧ y5 = .slice st.2.1 st.1 st.2.2 ∧ y6 = .int .i64 (st.1 : Int) ∧ (E.take st.1).all (fun w => (tagF w).2) = true), Sl 2 24 st.2.1 st.2.2 st.1 ((E.take st.1).flatMap fun w => pTag (tagF w).1), Sl 1 9 ea ec E.length (E.map txt)]] ++ F) E.length ?_ ?_
  · refine Imp.ex (0, none, 0) (.all ?_)
    (try simp only [List.cons_append, List.nil_append, -eq_self])
    refine .pu ⟨rfl, rfl, rfl, rfl⟩ ?_
    exact imp_nil .refl
  intro m ds y5 y6
  (try simp only [List.cons_append, List.nil_append, -eq_self])
  refine e_ex Pick.here fun st => e_all Pick.here ?_
  obtain ⟨i, sa, sc⟩ := st
  (try simp only [List.cons_append, List.nil_append, -eq_self])
  refine e_pu Pick.here fun hi => ?_
  (try dsimp only at hi)
  obtain ⟨hmi, rfl, rfl, hok⟩ := hi
  refine e_opN v_len Imp.nil ?_
  refine e_ask v_lss Imp.nil (fun h => ?_) (fun h => ?_)
  · have hil : i < E.length := by omega
    have hwl := hEl _ (List.getElem_mem hil)
    have htk : E.take (i + 1) = E.take i ++ [E[i]] := List.take_succ_eq_append_getElem hil
    refine e_condT ?_
    refine e_slsome (a := ea) (.there .here) (Nat.zero_lt_of_lt hil) fun g hg => ?_
    subst hg
    have ld : RunV Tryz.prog W [Sl 1 9 (some ⟨g, 0, none⟩) ec E.length (E.map txt)] (sLoad 9 (.pointer (some ⟨g, 0 + i, none⟩))) (txt E[i]) := v_ldSl (by rw [Nat.zero_add, List.getElem?_map, List.getElem?_eq_getElem hil]; rfl)
    refine e_opN (v_ia1 i rfl hil) Imp.nil ?_
    refine e_opN ld (.pick (by (repeat constructor)) .nil) ?_
    refine e_call (rparseTag (l := E[i]) (by omega)) .nil fun _ => ?_
    (try simp only [List.cons_append, List.nil_append, -eq_self])
    refine e_opN (v_extN (vs := [_, _]) .here) Imp.nil ?_
    refine e_opN (v_extN (vs := [_, _]) (.there .here)) Imp.nil ?_
    unfold vTag
    refine e_newA fun b8 => ?_
    refine e_stAgg .here (by rfl) (by rfl) (by intro u hu; simp at hu; rcases hu with rfl | rfl <;> rfl) ?_
    refine e_opN v_neq Imp.nil ?_
    cases hk : (tagF E[i]).2 with
    | false =>
      rw [show decide ((if (false : Bool) = true then (0 : Int) else 42) ≠ 0) = true from rfl]
      refine e_condT ?_
      refine e_imp (M := F) (by (repeat (first | exact Imp.refl | exact Imp.nil | (apply Imp.pick; (focus ((repeat constructor); done))) | refine Imp.drop ?_))) ?_
      refine fin ?_ F
      rw [hts, hs]
      unfold listF
      rw [if_neg]
      intro hall
      have := List.all_eq_true.1 hall _ (List.getElem_mem hil)
      rw [hk] at this; cases this
    | true =>
      rw [show decide ((if (true : Bool) = true then (0 : Int) else 42) ≠ 0) = false from rfl]
      refine e_condF ?_
      refine e_opN (v_ldAgg (cs := #[.bool (tagF E[i]).1.1, txt (tagF E[i]).1.2]) rfl) (.pick (by (repeat constructor)) .nil) ?_
      refine e_bslS (n := 1) (vs := [vTag (tagF E[i]).1]) rfl (by omega) rfl (by intro v hv; rw [List.mem_singleton.1 hv]; rfl) (by omega) fun gb => ?_
      refine e_app (m := 1) (news := pTag (tagF E[i]).1) (by (repeat constructor)) (src_pt (s := 2) (e' := 24) (by kernel_rfl) .here (by rfl) (by intro u hu; simp [pTag] at hu; rcases hu with rfl | rfl <;> rfl)) (by omega) (by omega) fun a' c' => ?_
      refine e_opN (v_add (by omega) (by omega)) Imp.nil ?_
      refine e_next2 (m - 1) (by omega) (.ex (i + 1, a', c') (.all ?_))
      (try simp only [List.cons_append, List.nil_append, -eq_self])
      refine .pu ⟨by (try dsimp only); omega, rfl, rfl, ?_⟩ ?_
      · rw [htk, List.all_append, hok]
        simp [hk]
      rw [htk, List.flatMap_append, List.flatMap_singleton]
      refine .pick (by (repeat constructor)) ?_
      (repeat (first | exact Imp.refl | exact Imp.nil | (apply Imp.pick; (focus ((repeat constructor); done))) | refine Imp.drop ?_))
  · have hie : i = E.length := by omega
    subst hie
    rw [List.take_length] at hok ⊢
    have hss : tagLF l = some (E.map fun w => (tagF w).1) := by
      rw [hs]
      unfold listF
      rw [if_pos hok]
    rw [hss] at hts
    simp only [List.map_eq_nil_iff] at hts
    refine e_condF ?_
    refine e_opN v_len Imp.nil ?_
    refine e_ask v_eql Imp.nil (fun h0 => ?_) (fun h0 => ?_)
    · refine e_condT ?_
      refine e_imp (M := F) (by (repeat (first | exact Imp.refl | exact Imp.nil | (apply Imp.pick; (focus ((repeat constructor); done))) | refine Imp.drop ?_))) ?_
      have : E = [] := List.eq_nil_of_length_eq_zero (by omega)
      exact fin (by rw [hts, if_pos this]) F
    · refine e_condF ?_
      have hne : ¬ E = [] := fun c => h0 (by rw [c]; rfl)
      rw [hts, if_neg hne]
      refine e_ret (sa, sc) (by simp) ?_
      simp only [List.length_map, List.flatMap_map]
      (repeat (first | exact Imp.refl | exact Imp.nil | (apply Imp.pick; (focus ((repeat constructor); done))) | refine Imp.drop ?_))
end Go.Proofs.YtcmpkkkigmheoaaGreatDoor.FD
/-! Days and their dates: what the code computes. No conditions but those that each names. -/
namespace Go.Proofs.YtcmpkkkigmheoaaGreatDoor.D
open Go Go.Proofs Go.RowKit Go.Proofs.YtcmpkkkigmheoaaGreatDoor.Sh Go.Proofs.YtcmpkkkigmheoaaGreatDoor.Sl Go.Proofs.YtcmpkkkigmheoaaGreatDoor.T
def dE (n : Int) : Int := (n + 719468) % 146097
def dY (e : Int) : Int := (e - e / 1460 + e / 36524 - e / 146096) / 365
def dD (e : Int) : Int := e - (365 * dY e + dY e / 4 - dY e / 100)
def dM (e : Int) : Int := (5 * dD e + 2) / 153
def cM (n : Int) : Int := (dM (dE n) + 2) % 12 + 1
def cY (n : Int) : Int := (n + 719468) / 146097 * 400 + dY (dE n) + (if cM n ≤ 2 then 1 else 0)
def cD (n : Int) : Int := dD (dE n) - (153 * dM (dE n) + 2) / 5 + 1
theorem dE_b (n : Int) : 0 ≤ dE n ∧ dE n ≤ 146096 := by unfold dE; omega
theorem dY_b {e : Int} (h : 0 ≤ e ∧ e ≤ 146096) : 0 ≤ dY e ∧ dY e ≤ 399 := by unfold dY; omega
theorem dY_at {c r : Int} (hc : 0 ≤ c ∧ c ≤ 3) (hr : 0 ≤ r ∧ r ≤ 36523) : dY (36524 * c + r) = 100 * c + (r - (24 * c + r) / 1460) / 365 := by
  unfold dY
  have e1 : (36524 * c + r) / 1460 = 25 * c + (24 * c + r) / 1460 := by omega
  have e2 : (36524 * c + r) / 36524 = c := by omega
  have e3 : (36524 * c + r) / 146096 = 0 := by omega
  rw [e1, e2, e3]
  omega
theorem doy_b {c r q y z : Int} (hc : 0 ≤ c ∧ c ≤ 3) (hr : 0 ≤ r ∧ r ≤ 36523) (hq : 1460 * q ≤ 24 * c + r ∧ 24 * c + r < 1460 * q + 1460) (hy : 365 * y ≤ r - q ∧ r - q < 365 * y + 365) (hz : 4 * z ≤ y ∧ y < 4 * z + 4) : 0 ≤ r - 365 * y - z ∧ r - 365 * y - z ≤ 365 ∧ 0 ≤ y ∧ y ≤ 99 := by omega
theorem cent {e : Int} (h : 0 ≤ e ∧ e ≤ 146096) : e = 146096 ∨ ∃ c r : Int, (0 ≤ c ∧ c ≤ 3) ∧ (0 ≤ r ∧ r ≤ 36523) ∧ e = 36524 * c + r := by
  by_cases he : e = 146096
  · exact .inl he
  · exact .inr ⟨e / 36524, e % 36524, by omega, by omega, by omega⟩
theorem dD_at {c r : Int} (hc : 0 ≤ c ∧ c ≤ 3) (hr : 0 ≤ r ∧ r ≤ 36523) : ∃ q y z : Int, (1460 * q ≤ 24 * c + r ∧ 24 * c + r < 1460 * q + 1460) ∧ (365 * y ≤ r - q ∧ r - q < 365 * y + 365) ∧ (4 * z ≤ y ∧ y < 4 * z + 4) ∧ dY (36524 * c + r) = 100 * c + y ∧ dD (36524 * c + r) = r - 365 * y - z := by
  refine ⟨(24 * c + r) / 1460, (r - (24 * c + r) / 1460) / 365, (r - (24 * c + r) / 1460) / 365 / 4, by omega, by omega, by omega, dY_at hc hr, ?_⟩
  have hb := doy_b (q := (24 * c + r) / 1460) (y := (r - (24 * c + r) / 1460) / 365) (z := (r - (24 * c + r) / 1460) / 365 / 4) hc hr (by omega) (by omega) (by omega)
  unfold dD
  rw [dY_at hc hr]
  generalize (r - (24 * c + r) / 1460) / 365 = y at hb ⊢
  have g1 : (100 * c + y) / 4 = 25 * c + y / 4 := by omega
  have g2 : (100 * c + y) / 100 = c := by omega
  rw [g1, g2]
  omega
theorem dD_b {e : Int} (h : 0 ≤ e ∧ e ≤ 146096) : 0 ≤ dD e ∧ dD e ≤ 365 := by
  rcases cent h with rfl | ⟨c, r, hc, hr, rfl⟩
  · decide
  · obtain ⟨q, y, z, h1, h2, h3, _, h5⟩ := dD_at hc hr
    have := doy_b hc hr h1 h2 h3
    rw [h5]; omega
theorem dM_b {e : Int} (h : 0 ≤ e ∧ e ≤ 146096) : 0 ≤ dM e ∧ dM e ≤ 11 := by have := dD_b h; unfold dM; omega
theorem civil {W : World} {n : Int} (h0 : 0 ≤ n) (h1 : n ≤ 3000000) : Cn Tryz.prog 76 [.int .i64 n] W [] (fun _ : Unit => .tuple #[.int .i64 (cY n), .int .i64 (cM n), .int .i64 (cD n)]) (fun _ => []) := by
  (refine S.dates_civil_cn fun F => ?_; unfold S.dates_civil; simp only [List.cons_append, List.nil_append])
  have hb := dE_b n
  have y1 := dY_b hb
  have d1 := dD_b hb
  have m1 := dM_b hb
  refine e_opN (v_add (by omega) (by omega)) Imp.nil ?_
  refine e_opN (v_quo (by omega) (by omega) (by omega)) Imp.nil ?_
  refine e_opN (v_rem (by omega) (by omega)) Imp.nil ?_
  rw [show (n + 719468) % 146097 = dE n from rfl]
  obtain ⟨e, he⟩ : ∃ x, x = dE n := ⟨_, rfl⟩
  rw [← he] at hb y1 d1 m1 ⊢
  refine e_opN (v_quo (by omega) (by omega) (by omega)) Imp.nil ?_
  refine e_opN (v_sub (by omega) (by omega)) Imp.nil ?_
  refine e_opN (v_quo (by omega) (by omega) (by omega)) Imp.nil ?_
  refine e_opN (v_add (by omega) (by omega)) Imp.nil ?_
  refine e_opN (v_quo (by omega) (by omega) (by omega)) Imp.nil ?_
  refine e_opN (v_sub (by omega) (by omega)) Imp.nil ?_
  refine e_opN (v_quo (by omega) (by omega) (by omega)) Imp.nil ?_
  rw [show (e - e / 1460 + e / 36524 - e / 146096) / 365 = dY e from rfl]
  have hd : dD e = e - (365 * dY e + dY e / 4 - dY e / 100) := rfl
  have hm : dM e = (5 * dD e + 2) / 153 := rfl
  have hcM : cM n = (dM e + 2) % 12 + 1 := by unfold cM; rw [he]
  have hcY : cY n = (n + 719468) / 146097 * 400 + dY e + (if cM n ≤ 2 then 1 else 0) := by unfold cY; rw [he]
  have hcD : cD n = dD e - (153 * dM e + 2) / 5 + 1 := by unfold cD; rw [he]
  generalize dY e = y at *
  generalize dD e = d at *
  generalize dM e = mp at *
  refine e_opN (v_mul (by omega) (by omega)) Imp.nil ?_
  refine e_opN (v_quo (by omega) (by omega) (by omega)) Imp.nil ?_
  refine e_opN (v_add (by omega) (by omega)) Imp.nil ?_
  refine e_opN (v_quo (by omega) (by omega) (by omega)) Imp.nil ?_
  refine e_opN (v_sub (by omega) (by omega)) Imp.nil ?_
  refine e_opN (v_sub (by omega) (by omega)) Imp.nil ?_
  rw [← hd]
  refine e_opN (v_mul (by omega) (by omega)) Imp.nil ?_
  refine e_opN (v_add (by omega) (by omega)) Imp.nil ?_
  refine e_opN (v_quo (by omega) (by omega) (by omega)) Imp.nil ?_
  rw [← hm]
  (((with_reducible refine e_opN (v_mul ?h1 ?h2) Imp.nil ?_); (case h1 => omega); (case h2 => omega))); (((with_reducible refine e_opN (v_add ?h1 ?h2) Imp.nil ?_); (case h1 => omega); (case h2 => omega))); (((with_reducible refine e_opN (v_add ?h1 ?h2) Imp.nil ?_); (case h1 => omega); (case h2 => omega))); (((with_reducible refine e_opN (v_rem ?h1 ?h2) Imp.nil ?_); (case h1 => omega); (case h2 => omega))); (((with_reducible refine e_opN (v_add ?h1 ?h2) Imp.nil ?_); (case h1 => omega); (case h2 => omega))); (((with_reducible refine e_opN (v_mul ?h1 ?h2) Imp.nil ?_); (case h1 => omega); (case h2 => omega))); (((with_reducible refine e_opN (v_add ?h1 ?h2) Imp.nil ?_); (case h1 => omega); (case h2 => omega))); (((with_reducible refine e_opN (v_quo ?h1 ?h2 ?h3) Imp.nil ?_); (case h1 => omega); (case h2 => omega); (case h3 => omega))); (((with_reducible refine e_opN (v_sub ?h1 ?h2) Imp.nil ?_); (case h1 => omega); (case h2 => omega))); (((with_reducible refine e_opN (v_add ?h1 ?h2) Imp.nil ?_); (case h1 => omega); (case h2 => omega)))
  rw [← hcM, ← hcD]
  refine e_cut1 (fun z => pu (z = .int .i64 (cY n)) :: F) ?_ ?_
  rotate_left
  · (refine e_ask v_leq Imp.nil (fun h => ?_) (fun h => ?_))
    · ((with_reducible refine e_condT ?_)); (((with_reducible refine e_opN (v_add ?h1 ?h2) Imp.nil ?_); (case h1 => omega); (case h2 => omega)))
      refine e_sat (.pu ?_ .refl)
      rw [hcY, if_pos h]
    · ((with_reducible refine e_condF ?_))
      refine e_sat (.pu ?_ .refl)
      rw [hcY, if_neg h, Int.add_zero]
  intro ds z
  (try simp only [List.cons_append, List.nil_append, -eq_self])
  refine e_pu .here fun h => ?_
  subst h
  (first | refine e_ret (()) rfl ?_ | refine e_retT (()) ?_)
  (repeat (first | exact Imp.refl | exact Imp.nil | (apply Imp.pick; (focus ((repeat constructor); done))) | refine Imp.drop ?_))
def adj (y m : Int) : Int := if m ≤ 2 then y - 1 else y
def dayN (y m d : Int) : Int := adj y m / 400 * 146097 + adj y m % 400 * 365 + adj y m % 400 / 4 - adj y m % 400 / 100 + ((153 * ((m + 9) % 12) + 2) / 5 + d - 1) - 719468
theorem days {W : World} {y m d : Int} (hy : 1970 ≤ y ∧ y ≤ 9999) (hm : 1 ≤ m ∧ m ≤ 12) (hd : 1 ≤ d ∧ d ≤ 31) : Cn Tryz.prog 78 [.int .i64 y, .int .i64 m, .int .i64 d] W [] (fun _ : Unit => .int .i64 (dayN y m d)) (fun _ => []) := by
  (refine S.dates_days_cn fun F => ?_; unfold S.dates_days; simp only [List.cons_append, List.nil_append])
  have ha : 1969 ≤ adj y m ∧ adj y m ≤ 9999 := by unfold adj; split <;> omega
  refine e_cut1 (fun z => pu (z = .int .i64 (adj y m)) :: F) ?_ ?_
  rotate_left
  · (refine e_ask v_leq Imp.nil (fun h => ?_) (fun h => ?_))
    · ((with_reducible refine e_condT ?_)); (((with_reducible refine e_opN (v_sub ?h1 ?h2) Imp.nil ?_); (case h1 => omega); (case h2 => omega)))
      refine e_sat (.pu ?_ .refl)
      unfold adj; rw [if_pos h]
    · ((with_reducible refine e_condF ?_))
      refine e_sat (.pu ?_ .refl)
      unfold adj; rw [if_neg h]
  intro ds z
  (try simp only [List.cons_append, List.nil_append, -eq_self])
  refine e_pu .here fun h => ?_
  subst h
  unfold dayN
  generalize adj y m = a at ha ⊢
  (((with_reducible refine e_opN (v_quo ?h1 ?h2 ?h3) Imp.nil ?_); (case h1 => omega); (case h2 => omega); (case h3 => omega))); (((with_reducible refine e_opN (v_rem ?h1 ?h2) Imp.nil ?_); (case h1 => omega); (case h2 => omega))); (((with_reducible refine e_opN (v_add ?h1 ?h2) Imp.nil ?_); (case h1 => omega); (case h2 => omega))); (((with_reducible refine e_opN (v_rem ?h1 ?h2) Imp.nil ?_); (case h1 => omega); (case h2 => omega))); (((with_reducible refine e_opN (v_mul ?h1 ?h2) Imp.nil ?_); (case h1 => omega); (case h2 => omega))); (((with_reducible refine e_opN (v_add ?h1 ?h2) Imp.nil ?_); (case h1 => omega); (case h2 => omega))); (((with_reducible refine e_opN (v_quo ?h1 ?h2 ?h3) Imp.nil ?_); (case h1 => omega); (case h2 => omega); (case h3 => omega))); (((with_reducible refine e_opN (v_add ?h1 ?h2) Imp.nil ?_); (case h1 => omega); (case h2 => omega))); (((with_reducible refine e_opN (v_sub ?h1 ?h2) Imp.nil ?_); (case h1 => omega); (case h2 => omega))); (((with_reducible refine e_opN (v_mul ?h1 ?h2) Imp.nil ?_); (case h1 => omega); (case h2 => omega))); (((with_reducible refine e_opN (v_mul ?h1 ?h2) Imp.nil ?_); (case h1 => omega); (case h2 => omega))); (((with_reducible refine e_opN (v_add ?h1 ?h2) Imp.nil ?_); (case h1 => omega); (case h2 => omega))); (((with_reducible refine e_opN (v_quo ?h1 ?h2 ?h3) Imp.nil ?_); (case h1 => omega); (case h2 => omega); (case h3 => omega))); (((with_reducible refine e_opN (v_add ?h1 ?h2) Imp.nil ?_); (case h1 => omega); (case h2 => omega))); (((with_reducible refine e_opN (v_quo ?h1 ?h2 ?h3) Imp.nil ?_); (case h1 => omega); (case h2 => omega); (case h3 => omega))); (((with_reducible refine e_opN (v_sub ?h1 ?h2) Imp.nil ?_); (case h1 => omega); (case h2 => omega))); (((with_reducible refine e_opN (v_add ?h1 ?h2) Imp.nil ?_); (case h1 => omega); (case h2 => omega))); (((with_reducible refine e_opN (v_sub ?h1 ?h2) Imp.nil ?_); (case h1 => omega); (case h2 => omega)))
  (first | refine e_ret (()) rfl ?_ | refine e_retT (()) ?_)
  (repeat (first | exact Imp.refl | exact Imp.nil | (apply Imp.pick; (focus ((repeat constructor); done))) | refine Imp.drop ?_))
end Go.Proofs.YtcmpkkkigmheoaaGreatDoor.D
/-! A time's date, and a date's time: what the code computes. No conditions but those that each names. -/
namespace Go.Proofs.YtcmpkkkigmheoaaGreatDoor.D
open Go Go.Proofs Go.RowKit Go.Proofs.YtcmpkkkigmheoaaGreatDoor.Sh Go.Proofs.YtcmpkkkigmheoaaGreatDoor.Sl Go.Proofs.YtcmpkkkigmheoaaGreatDoor.T
structure Dt where
  y : Int
  m : Int
  d : Int
  h : Int
  mi : Int
  s : Int
  w : Int
  deriving DecidableEq
def I (n : Int) : Value := .int .i64 n
def dtA (x : Dt) : Array Value := #[.int .i64 x.y, .int .i64 x.m, .int .i64 x.d, .int .i64 x.h, .int .i64 x.mi, .int .i64 x.s, .int .i64 x.w]
def dt0 : Dt := ⟨0, 0, 0, 0, 0, 0, 0⟩
def okT (n : Int) : Prop := 0 ≤ n ∧ n ≤ 253402300799
instance (n : Int) : Decidable (okT n) := by unfold okT; infer_instance
def spD (n : Int) : Dt := if okT n then ⟨cY (n / 86400), cM (n / 86400), cD (n / 86400), n % 86400 / 3600, n % 3600 / 60, n % 60, (n / 86400 + 4) % 7⟩ else dt0
def spE (n : Int) : Int := if okT n then 0 else 11
theorem split {W : World} {n : Int} : Cn Tryz.prog 58 [.int .i64 n] W [] (fun _ : Unit => .tuple #[.agg (dtA (spD n)), .int .i64 (spE n)]) (fun _ => []) := by
  have bad : ¬ okT n → spD n = dt0 ∧ spE n = 11 := fun h => ⟨if_neg h, if_neg h⟩
  (refine S.dates_Split_cn fun F => ?_; unfold S.dates_Split; simp only [List.cons_append, List.nil_append])
  (((with_reducible refine e_newA fun g => ?_)))
  (refine e_ask v_lss Imp.nil (fun h => ?_) (fun h => ?_))
  · have hb := bad (fun c => by unfold okT at c; omega)
    rw [hb.1, hb.2]
    ((with_reducible refine e_gdF1 ?_)); ((with_reducible refine e_gdF1 ?_)); (((with_reducible refine e_opN v_pickT Imp.nil ?_))); ((with_reducible refine e_condT ?_)); (((with_reducible refine e_opN v_rv Imp.nil ?_))); (((with_reducible refine' e_stAgg ?hp ?hn ?hv ?h1 ?_); (case hp => (repeat constructor)); (case hn => rfl); (case hv => rfl); (case h1 => simp [Value.oneCell']))); (((with_reducible refine' e_stS (v_resA ?hn) ?hi ?_); (case hi => (repeat (first | exact Imp.refl | exact Imp.nil | (apply Imp.pick; (focus ((repeat constructor); done))) | refine Imp.drop ?_))); (case hn => rfl)))
    (first | refine e_ret (()) rfl ?_ | refine e_retT (()) ?_)
    (repeat (first | exact Imp.refl | exact Imp.nil | (apply Imp.pick; (focus ((repeat constructor); done))) | refine Imp.drop ?_))
  · ((with_reducible refine e_gdT ?_)); ((with_reducible refine e_gdT ?_))
    (refine e_ask v_gtr Imp.nil (fun h => ?_) (fun h => ?_))
    · have hb := bad (fun c => by unfold okT at c; omega)
      rw [hb.1, hb.2]
      (((with_reducible refine e_opN v_pickF Imp.nil ?_))); ((with_reducible refine e_condT ?_)); (((with_reducible refine e_opN v_rv Imp.nil ?_))); (((with_reducible refine' e_stAgg ?hp ?hn ?hv ?h1 ?_); (case hp => (repeat constructor)); (case hn => rfl); (case hv => rfl); (case h1 => simp [Value.oneCell']))); (((with_reducible refine' e_stS (v_resA ?hn) ?hi ?_); (case hi => (repeat (first | exact Imp.refl | exact Imp.nil | (apply Imp.pick; (focus ((repeat constructor); done))) | refine Imp.drop ?_))); (case hn => rfl)))
      (first | refine e_ret (()) rfl ?_ | refine e_retT (()) ?_)
      (repeat (first | exact Imp.refl | exact Imp.nil | (apply Imp.pick; (focus ((repeat constructor); done))) | refine Imp.drop ?_))
    · have ok : okT n := ⟨by omega, by omega⟩
      rw [show spD n = ⟨cY (n / 86400), cM (n / 86400), cD (n / 86400), n % 86400 / 3600, n % 3600 / 60, n % 60, (n / 86400 + 4) % 7⟩ from if_pos ok, show spE n = 0 from if_pos ok]
      (((with_reducible refine e_opN v_pickF Imp.nil ?_))); ((with_reducible refine e_condF ?_)); (((with_reducible refine e_opN (v_quo ?h1 ?h2 ?h3) Imp.nil ?_); (case h1 => omega); (case h2 => omega); (case h3 => omega))); (((with_reducible refine e_opN (v_add ?h1 ?h2) Imp.nil ?_); (case h1 => omega); (case h2 => omega))); (((with_reducible refine e_opN (v_rem ?h1 ?h2) Imp.nil ?_); (case h1 => omega); (case h2 => omega))); (((with_reducible refine e_opN (v_rem ?h1 ?h2) Imp.nil ?_); (case h1 => omega); (case h2 => omega))); (((with_reducible refine e_opN (v_quo ?h1 ?h2 ?h3) Imp.nil ?_); (case h1 => omega); (case h2 => omega); (case h3 => omega))); (((with_reducible refine e_opN (v_rem ?h1 ?h2) Imp.nil ?_); (case h1 => omega); (case h2 => omega))); (((with_reducible refine e_opN (v_quo ?h1 ?h2 ?h3) Imp.nil ?_); (case h1 => omega); (case h2 => omega); (case h3 => omega))); (((with_reducible refine e_opN (v_rem ?h1 ?h2) Imp.nil ?_); (case h1 => omega); (case h2 => omega))); (((with_reducible refine e_opN v_rv Imp.nil ?_))); (((with_reducible refine e_newA fun g => ?_))); (((with_reducible refine' e_stAgg ?hp ?hn ?hv ?h1 ?_); (case hp => (repeat constructor)); (case hn => rfl); (case hv => rfl); (case h1 => simp [Value.oneCell']))); (((with_reducible refine e_opN (v_quo ?h1 ?h2 ?h3) Imp.nil ?_); (case h1 => omega); (case h2 => omega); (case h3 => omega)))
      (refine' e_call (civil (n := n / 86400) (by omega) (by omega)) ?hp fun _ => ?_; (case hp => (repeat (first | exact Picks.nil | (apply Picks.cons; (focus (repeat constructor)))))); (try simp only [List.cons_append, List.nil_append, Bool.not_true, Bool.not_false]))
      (((with_reducible refine' e_opN (v_extN ?hc) Imp.nil ?_); (case hc => (repeat (first | exact Nth.here | apply Nth.there))))); (((with_reducible refine' e_opN (v_extN ?hc) Imp.nil ?_); (case hc => (repeat (first | exact Nth.here | apply Nth.there))))); (((with_reducible refine' e_opN (v_extN ?hc) Imp.nil ?_); (case hc => (repeat (first | exact Nth.here | apply Nth.there))))); (((with_reducible refine e_opN v_fa0 Imp.nil ?_))); (((with_reducible refine' e_stN ?hp ?ho ?_); (case hp => (repeat constructor)); (case ho => (repeat (first | exact Put.here | apply Put.there))))); (((with_reducible refine e_opN v_fa0 Imp.nil ?_))); (((with_reducible refine' e_stN ?hp ?ho ?_); (case hp => (repeat constructor)); (case ho => (repeat (first | exact Put.here | apply Put.there))))); (((with_reducible refine e_opN v_fa0 Imp.nil ?_))); (((with_reducible refine' e_stN ?hp ?ho ?_); (case hp => (repeat constructor)); (case ho => (repeat (first | exact Put.here | apply Put.there))))); (((with_reducible refine' e_opN (v_ldAgg ?hn) ?hi ?_); (case hi => (repeat (first | exact Imp.refl | exact Imp.nil | (apply Imp.pick; (focus ((repeat constructor); done))) | refine Imp.drop ?_))); (case hn => rfl))); (((with_reducible refine' e_stAgg ?hp ?hn ?hv ?h1 ?_); (case hp => (repeat constructor)); (case hn => rfl); (case hv => rfl); (case h1 => simp [Value.oneCell']))); (((with_reducible refine' e_stS (v_resA ?hn) ?hi ?_); (case hi => (repeat (first | exact Imp.refl | exact Imp.nil | (apply Imp.pick; (focus ((repeat constructor); done))) | refine Imp.drop ?_))); (case hn => rfl)))
      (first | refine e_ret (()) rfl ?_ | refine e_retT (()) ?_)
      (repeat (first | exact Imp.refl | exact Imp.nil | (apply Imp.pick; (focus ((repeat constructor); done))) | refine Imp.drop ?_))
theorem in_ {W : World} {n a b : Int} : Cn Tryz.prog 77 [.int .i64 n, .int .i64 a, .int .i64 b] W [] (fun _ : Unit => .bool (decide (a ≤ n ∧ n ≤ b))) (fun _ => []) := by
  (refine S.dates_Join_1_cn fun F => ?_; unfold S.dates_Join_1; simp only [List.cons_append, List.nil_append])
  (refine e_ask v_geq Imp.nil (fun h => ?_) (fun h => ?_))
  · ((with_reducible refine e_gdT ?_)); ((with_reducible refine e_gdT ?_)); ((with_reducible refine e_gdT ?_))
    (refine e_ask v_leq Imp.nil (fun h => ?_) (fun h => ?_))
    · (((with_reducible refine e_opN v_pickT Imp.nil ?_)))
      rw [decide_eq_true ⟨by omega, by omega⟩]
      (first | refine e_ret (()) rfl ?_ | refine e_retT (()) ?_)
      (repeat (first | exact Imp.refl | exact Imp.nil | (apply Imp.pick; (focus ((repeat constructor); done))) | refine Imp.drop ?_))
    · (((with_reducible refine e_opN v_pickT Imp.nil ?_)))
      rw [decide_eq_false (fun c => by omega)]
      (first | refine e_ret (()) rfl ?_ | refine e_retT (()) ?_)
      (repeat (first | exact Imp.refl | exact Imp.nil | (apply Imp.pick; (focus ((repeat constructor); done))) | refine Imp.drop ?_))
  · ((with_reducible refine e_gdF2 ?_)); ((with_reducible refine e_gdF2 ?_)); ((with_reducible refine e_gdF2 ?_)); (((with_reducible refine e_opN v_pickF Imp.nil ?_)))
    rw [decide_eq_false (fun c => by omega)]
    (first | refine e_ret (()) rfl ?_ | refine e_retT (()) ?_)
    (repeat (first | exact Imp.refl | exact Imp.nil | (apply Imp.pick; (focus ((repeat constructor); done))) | refine Imp.drop ?_))
theorem dayN_b {y m d : Int} (hy : 1970 ≤ y ∧ y ≤ 9999) (hm : 1 ≤ m ∧ m ≤ 12) (hd : 1 ≤ d ∧ d ≤ 31) : 0 ≤ dayN y m d ∧ dayN y m d ≤ 3000000 := by
  unfold dayN adj
  by_cases c : m ≤ 2
  · rw [if_pos c]
    have e : (m + 9) % 12 = m + 9 := by omega
    rw [e]
    obtain ⟨a, ha⟩ : ∃ a, a = y - 1 := ⟨_, rfl⟩
    rw [← ha]
    have h1 : 4 ≤ a / 400 ∧ a / 400 ≤ 24 := by omega
    have h2 : a / 400 = 4 → 369 ≤ a % 400 := by omega
    have h3 : 0 ≤ a % 400 ∧ a % 400 ≤ 399 := by omega
    generalize a / 400 = q at *
    generalize a % 400 = t at *
    omega
  · rw [if_neg c]
    have e : (m + 9) % 12 = m - 3 := by omega
    rw [e]
    have h1 : 4 ≤ y / 400 ∧ y / 400 ≤ 24 := by omega
    have h2 : y / 400 = 4 → 370 ≤ y % 400 := by omega
    have h3 : 0 ≤ y % 400 ∧ y % 400 ≤ 399 := by omega
    generalize y / 400 = q at *
    generalize y % 400 = t at *
    omega
def okF (x : Dt) : Prop := (1970 ≤ x.y ∧ x.y ≤ 9999) ∧ (1 ≤ x.m ∧ x.m ≤ 12) ∧ (1 ≤ x.d ∧ x.d ≤ 31) ∧ (0 ≤ x.h ∧ x.h ≤ 23) ∧ (0 ≤ x.mi ∧ x.mi ≤ 59) ∧ (0 ≤ x.s ∧ x.s ≤ 59) ∧ cM (dayN x.y x.m x.d) = x.m
instance (x : Dt) : Decidable (okF x) := by unfold okF; infer_instance
def jN (x : Dt) : Int := if okF x then dayN x.y x.m x.d * 86400 + x.h * 3600 + x.mi * 60 + x.s else 0
def jE (x : Dt) : Int := if okF x then 0 else 41
theorem join {W : World} {x : Dt} : Cn Tryz.prog 60 [.agg (dtA x)] W [] (fun _ : Unit => .tuple #[.int .i64 (jN x), .int .i64 (jE x)]) (fun _ => []) := by
  have bad : ¬ okF x → jN x = 0 ∧ jE x = 41 := fun h => ⟨if_neg h, if_neg h⟩
  (refine S.dates_Join_cn fun F => ?_; unfold S.dates_Join; simp only [List.cons_append, List.nil_append])
  unfold dtA
  (((with_reducible refine e_boxA fun g => ?_))); (((with_reducible refine e_opN v_fa0 Imp.nil ?_))); (((with_reducible refine' e_opN (v_ldN ?hc) ?hi ?_); (case hi => (repeat (first | exact Imp.refl | exact Imp.nil | (apply Imp.pick; (focus ((repeat constructor); done))) | refine Imp.drop ?_))); (case hc => (repeat (first | exact Nth.here | apply Nth.there)))))
  (refine' e_call (in_ (n := x.y) (a := 1970) (b := 9999)) ?hp fun _ => ?_; (case hp => (repeat (first | exact Picks.nil | (apply Picks.cons; (focus (repeat constructor)))))); (try simp only [List.cons_append, List.nil_append, Bool.not_true, Bool.not_false]))
  by_cases h0 : 1970 ≤ x.y ∧ x.y ≤ 9999
  rotate_left
  · rw [decide_eq_false h0]
    obtain ⟨b1, b2⟩ := bad (fun c => h0 (by unfold okF at c; exact c.1))
    rw [b1, b2]
    (((with_reducible refine e_opN v_notF Imp.nil ?_))); ((with_reducible refine e_gdF1 ?_)); ((with_reducible refine e_gdF1 ?_)); ((with_reducible refine e_gdF1 ?_)); ((with_reducible refine e_gdF1 ?_)); ((with_reducible refine e_gdF1 ?_)); (((with_reducible refine e_opN v_pickT Imp.nil ?_))); ((with_reducible refine e_gdF1 ?_)); ((with_reducible refine e_gdF1 ?_)); ((with_reducible refine e_gdF1 ?_)); ((with_reducible refine e_gdF1 ?_)); ((with_reducible refine e_gdF1 ?_)); (((with_reducible refine e_opN v_pickT Imp.nil ?_))); ((with_reducible refine e_gdF1 ?_)); ((with_reducible refine e_gdF1 ?_)); ((with_reducible refine e_gdF1 ?_)); ((with_reducible refine e_gdF1 ?_)); ((with_reducible refine e_gdF1 ?_)); (((with_reducible refine e_opN v_pickT Imp.nil ?_))); ((with_reducible refine e_gdF1 ?_)); ((with_reducible refine e_gdF1 ?_)); ((with_reducible refine e_gdF1 ?_)); ((with_reducible refine e_gdF1 ?_)); ((with_reducible refine e_gdF1 ?_)); (((with_reducible refine e_opN v_pickT Imp.nil ?_))); ((with_reducible refine e_gdF1 ?_)); ((with_reducible refine e_gdF1 ?_)); ((with_reducible refine e_gdF1 ?_)); ((with_reducible refine e_gdF1 ?_)); ((with_reducible refine e_gdF1 ?_)); (((with_reducible refine e_opN v_pickT Imp.nil ?_))); ((with_reducible refine e_condT ?_))
    (first | refine e_ret (()) rfl ?_ | refine e_retT (()) ?_)
    (repeat (first | exact Imp.refl | exact Imp.nil | (apply Imp.pick; (focus ((repeat constructor); done))) | refine Imp.drop ?_))
  rw [decide_eq_true h0]
  (((with_reducible refine e_opN v_notT Imp.nil ?_))); ((with_reducible refine e_gdT ?_)); ((with_reducible refine e_gdT ?_)); (((with_reducible refine e_opN v_fa0 Imp.nil ?_))); ((with_reducible refine e_gdT ?_)); (((with_reducible refine' e_opN (v_ldN ?hc) ?hi ?_); (case hi => (repeat (first | exact Imp.refl | exact Imp.nil | (apply Imp.pick; (focus ((repeat constructor); done))) | refine Imp.drop ?_))); (case hc => (repeat (first | exact Nth.here | apply Nth.there))))); ((with_reducible refine e_gdT ?_))
  (refine' e_call (in_ (n := x.m) (a := 1) (b := 12)) ?hp fun _ => ?_; (case hp => (repeat (first | exact Picks.nil | (apply Picks.cons; (focus (repeat constructor)))))); (try simp only [List.cons_append, List.nil_append, Bool.not_true, Bool.not_false]))
  by_cases h1 : 1 ≤ x.m ∧ x.m ≤ 12
  rotate_left
  · rw [decide_eq_false h1]
    obtain ⟨b1, b2⟩ := bad (fun c => h1 (by unfold okF at c; exact c.2.1))
    rw [b1, b2]
    ((with_reducible refine e_gdT ?_)); (((with_reducible refine e_opN v_notF Imp.nil ?_))); (((with_reducible refine e_opN v_pickF Imp.nil ?_))); ((with_reducible refine e_gdF1 ?_)); ((with_reducible refine e_gdF1 ?_)); ((with_reducible refine e_gdF1 ?_)); ((with_reducible refine e_gdF1 ?_)); ((with_reducible refine e_gdF1 ?_)); (((with_reducible refine e_opN v_pickT Imp.nil ?_))); ((with_reducible refine e_gdF1 ?_)); ((with_reducible refine e_gdF1 ?_)); ((with_reducible refine e_gdF1 ?_)); ((with_reducible refine e_gdF1 ?_)); ((with_reducible refine e_gdF1 ?_)); (((with_reducible refine e_opN v_pickT Imp.nil ?_))); ((with_reducible refine e_gdF1 ?_)); ((with_reducible refine e_gdF1 ?_)); ((with_reducible refine e_gdF1 ?_)); ((with_reducible refine e_gdF1 ?_)); ((with_reducible refine e_gdF1 ?_)); (((with_reducible refine e_opN v_pickT Imp.nil ?_))); ((with_reducible refine e_gdF1 ?_)); ((with_reducible refine e_gdF1 ?_)); ((with_reducible refine e_gdF1 ?_)); ((with_reducible refine e_gdF1 ?_)); ((with_reducible refine e_gdF1 ?_)); (((with_reducible refine e_opN v_pickT Imp.nil ?_))); ((with_reducible refine e_condT ?_))
    (first | refine e_ret (()) rfl ?_ | refine e_retT (()) ?_)
    (repeat (first | exact Imp.refl | exact Imp.nil | (apply Imp.pick; (focus ((repeat constructor); done))) | refine Imp.drop ?_))
  rw [decide_eq_true h1]
  ((with_reducible refine e_gdT ?_)); (((with_reducible refine e_opN v_notT Imp.nil ?_))); (((with_reducible refine e_opN v_pickF Imp.nil ?_))); ((with_reducible refine e_gdT ?_)); ((with_reducible refine e_gdT ?_)); (((with_reducible refine e_opN v_fa0 Imp.nil ?_))); ((with_reducible refine e_gdT ?_)); (((with_reducible refine' e_opN (v_ldN ?hc) ?hi ?_); (case hi => (repeat (first | exact Imp.refl | exact Imp.nil | (apply Imp.pick; (focus ((repeat constructor); done))) | refine Imp.drop ?_))); (case hc => (repeat (first | exact Nth.here | apply Nth.there))))); ((with_reducible refine e_gdT ?_))
  (refine' e_call (in_ (n := x.d) (a := 1) (b := 31)) ?hp fun _ => ?_; (case hp => (repeat (first | exact Picks.nil | (apply Picks.cons; (focus (repeat constructor)))))); (try simp only [List.cons_append, List.nil_append, Bool.not_true, Bool.not_false]))
  by_cases h2 : 1 ≤ x.d ∧ x.d ≤ 31
  rotate_left
  · rw [decide_eq_false h2]
    obtain ⟨b1, b2⟩ := bad (fun c => h2 (by unfold okF at c; exact c.2.2.1))
    rw [b1, b2]
    ((with_reducible refine e_gdT ?_)); (((with_reducible refine e_opN v_notF Imp.nil ?_))); (((with_reducible refine e_opN v_pickF Imp.nil ?_))); ((with_reducible refine e_gdF1 ?_)); ((with_reducible refine e_gdF1 ?_)); ((with_reducible refine e_gdF1 ?_)); ((with_reducible refine e_gdF1 ?_)); ((with_reducible refine e_gdF1 ?_)); (((with_reducible refine e_opN v_pickT Imp.nil ?_))); ((with_reducible refine e_gdF1 ?_)); ((with_reducible refine e_gdF1 ?_)); ((with_reducible refine e_gdF1 ?_)); ((with_reducible refine e_gdF1 ?_)); ((with_reducible refine e_gdF1 ?_)); (((with_reducible refine e_opN v_pickT Imp.nil ?_))); ((with_reducible refine e_gdF1 ?_)); ((with_reducible refine e_gdF1 ?_)); ((with_reducible refine e_gdF1 ?_)); ((with_reducible refine e_gdF1 ?_)); ((with_reducible refine e_gdF1 ?_)); (((with_reducible refine e_opN v_pickT Imp.nil ?_))); ((with_reducible refine e_condT ?_))
    (first | refine e_ret (()) rfl ?_ | refine e_retT (()) ?_)
    (repeat (first | exact Imp.refl | exact Imp.nil | (apply Imp.pick; (focus ((repeat constructor); done))) | refine Imp.drop ?_))
  rw [decide_eq_true h2]
  ((with_reducible refine e_gdT ?_)); (((with_reducible refine e_opN v_notT Imp.nil ?_))); (((with_reducible refine e_opN v_pickF Imp.nil ?_))); ((with_reducible refine e_gdT ?_)); ((with_reducible refine e_gdT ?_)); (((with_reducible refine e_opN v_fa0 Imp.nil ?_))); ((with_reducible refine e_gdT ?_)); (((with_reducible refine' e_opN (v_ldN ?hc) ?hi ?_); (case hi => (repeat (first | exact Imp.refl | exact Imp.nil | (apply Imp.pick; (focus ((repeat constructor); done))) | refine Imp.drop ?_))); (case hc => (repeat (first | exact Nth.here | apply Nth.there))))); ((with_reducible refine e_gdT ?_))
  (refine' e_call (in_ (n := x.h) (a := 0) (b := 23)) ?hp fun _ => ?_; (case hp => (repeat (first | exact Picks.nil | (apply Picks.cons; (focus (repeat constructor)))))); (try simp only [List.cons_append, List.nil_append, Bool.not_true, Bool.not_false]))
  by_cases h3 : 0 ≤ x.h ∧ x.h ≤ 23
  rotate_left
  · rw [decide_eq_false h3]
    obtain ⟨b1, b2⟩ := bad (fun c => h3 (by unfold okF at c; exact c.2.2.2.1))
    rw [b1, b2]
    ((with_reducible refine e_gdT ?_)); (((with_reducible refine e_opN v_notF Imp.nil ?_))); (((with_reducible refine e_opN v_pickF Imp.nil ?_))); ((with_reducible refine e_gdF1 ?_)); ((with_reducible refine e_gdF1 ?_)); ((with_reducible refine e_gdF1 ?_)); ((with_reducible refine e_gdF1 ?_)); ((with_reducible refine e_gdF1 ?_)); (((with_reducible refine e_opN v_pickT Imp.nil ?_))); ((with_reducible refine e_gdF1 ?_)); ((with_reducible refine e_gdF1 ?_)); ((with_reducible refine e_gdF1 ?_)); ((with_reducible refine e_gdF1 ?_)); ((with_reducible refine e_gdF1 ?_)); (((with_reducible refine e_opN v_pickT Imp.nil ?_))); ((with_reducible refine e_condT ?_))
    (first | refine e_ret (()) rfl ?_ | refine e_retT (()) ?_)
    (repeat (first | exact Imp.refl | exact Imp.nil | (apply Imp.pick; (focus ((repeat constructor); done))) | refine Imp.drop ?_))
  rw [decide_eq_true h3]
  ((with_reducible refine e_gdT ?_)); (((with_reducible refine e_opN v_notT Imp.nil ?_))); (((with_reducible refine e_opN v_pickF Imp.nil ?_))); ((with_reducible refine e_gdT ?_)); ((with_reducible refine e_gdT ?_)); (((with_reducible refine e_opN v_fa0 Imp.nil ?_))); ((with_reducible refine e_gdT ?_)); (((with_reducible refine' e_opN (v_ldN ?hc) ?hi ?_); (case hi => (repeat (first | exact Imp.refl | exact Imp.nil | (apply Imp.pick; (focus ((repeat constructor); done))) | refine Imp.drop ?_))); (case hc => (repeat (first | exact Nth.here | apply Nth.there))))); ((with_reducible refine e_gdT ?_))
  (refine' e_call (in_ (n := x.mi) (a := 0) (b := 59)) ?hp fun _ => ?_; (case hp => (repeat (first | exact Picks.nil | (apply Picks.cons; (focus (repeat constructor)))))); (try simp only [List.cons_append, List.nil_append, Bool.not_true, Bool.not_false]))
  by_cases h4 : 0 ≤ x.mi ∧ x.mi ≤ 59
  rotate_left
  · rw [decide_eq_false h4]
    obtain ⟨b1, b2⟩ := bad (fun c => h4 (by unfold okF at c; exact c.2.2.2.2.1))
    rw [b1, b2]
    ((with_reducible refine e_gdT ?_)); (((with_reducible refine e_opN v_notF Imp.nil ?_))); (((with_reducible refine e_opN v_pickF Imp.nil ?_))); ((with_reducible refine e_gdF1 ?_)); ((with_reducible refine e_gdF1 ?_)); ((with_reducible refine e_gdF1 ?_)); ((with_reducible refine e_gdF1 ?_)); ((with_reducible refine e_gdF1 ?_)); (((with_reducible refine e_opN v_pickT Imp.nil ?_))); ((with_reducible refine e_condT ?_))
    (first | refine e_ret (()) rfl ?_ | refine e_retT (()) ?_)
    (repeat (first | exact Imp.refl | exact Imp.nil | (apply Imp.pick; (focus ((repeat constructor); done))) | refine Imp.drop ?_))
  rw [decide_eq_true h4]
  ((with_reducible refine e_gdT ?_)); (((with_reducible refine e_opN v_notT Imp.nil ?_))); (((with_reducible refine e_opN v_pickF Imp.nil ?_))); ((with_reducible refine e_gdT ?_)); ((with_reducible refine e_gdT ?_)); (((with_reducible refine e_opN v_fa0 Imp.nil ?_))); ((with_reducible refine e_gdT ?_)); (((with_reducible refine' e_opN (v_ldN ?hc) ?hi ?_); (case hi => (repeat (first | exact Imp.refl | exact Imp.nil | (apply Imp.pick; (focus ((repeat constructor); done))) | refine Imp.drop ?_))); (case hc => (repeat (first | exact Nth.here | apply Nth.there))))); ((with_reducible refine e_gdT ?_))
  (refine' e_call (in_ (n := x.s) (a := 0) (b := 59)) ?hp fun _ => ?_; (case hp => (repeat (first | exact Picks.nil | (apply Picks.cons; (focus (repeat constructor)))))); (try simp only [List.cons_append, List.nil_append, Bool.not_true, Bool.not_false]))
  by_cases h5 : 0 ≤ x.s ∧ x.s ≤ 59
  rotate_left
  · rw [decide_eq_false h5]
    obtain ⟨b1, b2⟩ := bad (fun c => h5 (by unfold okF at c; exact c.2.2.2.2.2.1))
    rw [b1, b2]
    ((with_reducible refine e_gdT ?_)); (((with_reducible refine e_opN v_notF Imp.nil ?_))); (((with_reducible refine e_opN v_pickF Imp.nil ?_))); ((with_reducible refine e_condT ?_))
    (first | refine e_ret (()) rfl ?_ | refine e_retT (()) ?_)
    (repeat (first | exact Imp.refl | exact Imp.nil | (apply Imp.pick; (focus ((repeat constructor); done))) | refine Imp.drop ?_))
  rw [decide_eq_true h5]
  ((with_reducible refine e_gdT ?_)); (((with_reducible refine e_opN v_notT Imp.nil ?_))); (((with_reducible refine e_opN v_pickF Imp.nil ?_))); ((with_reducible refine e_condF ?_)); (((with_reducible refine e_opN v_fa0 Imp.nil ?_))); (((with_reducible refine' e_opN (v_ldN ?hc) ?hi ?_); (case hi => (repeat (first | exact Imp.refl | exact Imp.nil | (apply Imp.pick; (focus ((repeat constructor); done))) | refine Imp.drop ?_))); (case hc => (repeat (first | exact Nth.here | apply Nth.there))))); (((with_reducible refine e_opN v_fa0 Imp.nil ?_))); (((with_reducible refine' e_opN (v_ldN ?hc) ?hi ?_); (case hi => (repeat (first | exact Imp.refl | exact Imp.nil | (apply Imp.pick; (focus ((repeat constructor); done))) | refine Imp.drop ?_))); (case hc => (repeat (first | exact Nth.here | apply Nth.there))))); (((with_reducible refine e_opN v_fa0 Imp.nil ?_))); (((with_reducible refine' e_opN (v_ldN ?hc) ?hi ?_); (case hi => (repeat (first | exact Imp.refl | exact Imp.nil | (apply Imp.pick; (focus ((repeat constructor); done))) | refine Imp.drop ?_))); (case hc => (repeat (first | exact Nth.here | apply Nth.there)))))
  have hb := dayN_b h0 h1 h2
  (refine' e_call (days h0 h1 h2) ?hp fun _ => ?_; (case hp => (repeat (first | exact Picks.nil | (apply Picks.cons; (focus (repeat constructor)))))); (try simp only [List.cons_append, List.nil_append, Bool.not_true, Bool.not_false]))
  (refine' e_call (civil (n := dayN x.y x.m x.d) (by omega) (by omega)) ?hp fun _ => ?_; (case hp => (repeat (first | exact Picks.nil | (apply Picks.cons; (focus (repeat constructor)))))); (try simp only [List.cons_append, List.nil_append, Bool.not_true, Bool.not_false]))
  (((with_reducible refine' e_opN (v_extN ?hc) Imp.nil ?_); (case hc => (repeat (first | exact Nth.here | apply Nth.there))))); (((with_reducible refine' e_opN (v_extN ?hc) Imp.nil ?_); (case hc => (repeat (first | exact Nth.here | apply Nth.there))))); (((with_reducible refine' e_opN (v_extN ?hc) Imp.nil ?_); (case hc => (repeat (first | exact Nth.here | apply Nth.there))))); (((with_reducible refine e_opN v_fa0 Imp.nil ?_))); (((with_reducible refine' e_opN (v_ldN ?hc) ?hi ?_); (case hi => (repeat (first | exact Imp.refl | exact Imp.nil | (apply Imp.pick; (focus ((repeat constructor); done))) | refine Imp.drop ?_))); (case hc => (repeat (first | exact Nth.here | apply Nth.there)))))
  by_cases h6 : cM (dayN x.y x.m x.d) = x.m
  rotate_left
  · refine e_opN v_neq Imp.nil ?_
    rw [decide_eq_true h6]
    obtain ⟨b1, b2⟩ := bad (fun c => h6 (by unfold okF at c; exact c.2.2.2.2.2.2))
    rw [b1, b2]
    ((with_reducible refine e_condT ?_))
    (first | refine e_ret (()) rfl ?_ | refine e_retT (()) ?_)
    (repeat (first | exact Imp.refl | exact Imp.nil | (apply Imp.pick; (focus ((repeat constructor); done))) | refine Imp.drop ?_))
  refine e_opN v_neq Imp.nil ?_
  rw [decide_eq_false (fun c => c h6)]
  have ok : okF x := ⟨h0, h1, h2, h3, h4, h5, h6⟩
  rw [show jN x = dayN x.y x.m x.d * 86400 + x.h * 3600 + x.mi * 60 + x.s from if_pos ok, show jE x = 0 from if_pos ok]
  ((with_reducible refine e_condF ?_)); (((with_reducible refine e_opN (v_mul ?h1 ?h2) Imp.nil ?_); (case h1 => omega); (case h2 => omega))); (((with_reducible refine e_opN v_fa0 Imp.nil ?_))); (((with_reducible refine' e_opN (v_ldN ?hc) ?hi ?_); (case hi => (repeat (first | exact Imp.refl | exact Imp.nil | (apply Imp.pick; (focus ((repeat constructor); done))) | refine Imp.drop ?_))); (case hc => (repeat (first | exact Nth.here | apply Nth.there))))); (((with_reducible refine e_opN (v_mul ?h1 ?h2) Imp.nil ?_); (case h1 => omega); (case h2 => omega))); (((with_reducible refine e_opN (v_add ?h1 ?h2) Imp.nil ?_); (case h1 => omega); (case h2 => omega))); (((with_reducible refine e_opN v_fa0 Imp.nil ?_))); (((with_reducible refine' e_opN (v_ldN ?hc) ?hi ?_); (case hi => (repeat (first | exact Imp.refl | exact Imp.nil | (apply Imp.pick; (focus ((repeat constructor); done))) | refine Imp.drop ?_))); (case hc => (repeat (first | exact Nth.here | apply Nth.there))))); (((with_reducible refine e_opN (v_mul ?h1 ?h2) Imp.nil ?_); (case h1 => omega); (case h2 => omega))); (((with_reducible refine e_opN (v_add ?h1 ?h2) Imp.nil ?_); (case h1 => omega); (case h2 => omega))); (((with_reducible refine e_opN v_fa0 Imp.nil ?_))); (((with_reducible refine' e_opN (v_ldN ?hc) ?hi ?_); (case hi => (repeat (first | exact Imp.refl | exact Imp.nil | (apply Imp.pick; (focus ((repeat constructor); done))) | refine Imp.drop ?_))); (case hc => (repeat (first | exact Nth.here | apply Nth.there))))); (((with_reducible refine e_opN (v_add ?h1 ?h2) Imp.nil ?_); (case h1 => omega); (case h2 => omega)))
  (first | refine e_ret (()) rfl ?_ | refine e_retT (()) ?_)
  (repeat (first | exact Imp.refl | exact Imp.nil | (apply Imp.pick; (focus ((repeat constructor); done))) | refine Imp.drop ?_))
end Go.Proofs.YtcmpkkkigmheoaaGreatDoor.D
/-! Numbers as digits; the names. No conditions but those that each names. -/
namespace Go.Proofs.YtcmpkkkigmheoaaGreatDoor.D
open Go Go.Proofs Go.RowKit Go.Proofs.YtcmpkkkigmheoaaGreatDoor.Sh Go.Proofs.YtcmpkkkigmheoaaGreatDoor.Sl Go.Proofs.YtcmpkkkigmheoaaGreatDoor.T
def gV (f : Nat → UInt8) (n : Nat) : List Value := (List.range n).map fun j => Sl.B (f j)
theorem gV_len (f : Nat → UInt8) (n : Nat) : (gV f n).length = n := by simp [gV]
theorem gV_get {f : Nat → UInt8} {n k : Nat} (h : k < n) : (gV f n)[k]? = some (Sl.B (f k)) := by simp [gV, h]
theorem gV_set {f : Nat → UInt8} {n k : Nat} {c : UInt8} : (gV f n).set k (Sl.B c) = gV (fun q => if q = k then c else f q) n := by
  apply List.ext_getElem?
  intro j
  rw [List.getElem?_set, gV_len]
  by_cases hj : j < n
  · rw [gV_get hj, gV_get hj]
    by_cases c : k = j
    · subst c; rw [if_pos rfl, if_pos hj, if_pos rfl]
    · rw [if_neg c, if_neg (fun e => c e.symm)]
  · rw [List.getElem?_eq_none (by rw [gV_len]; omega), List.getElem?_eq_none (by rw [gV_len]; omega)]
    split
    · split
      · omega
      · rfl
    · rfl
def dgAt (n size : Nat) (fill : UInt8) (j : Nat) : UInt8 := if n / 10 ^ (size - 1 - j) = 0 ∧ j < size - 1 then fill else UInt8.ofNat (48 + n / 10 ^ (size - 1 - j) % 10)
def dg (n size : Nat) (fill : UInt8) : List UInt8 := (List.range size).map (dgAt n size fill)
theorem dg_len (n size : Nat) (fill : UInt8) : (dg n size fill).length = size := by simp [dg]
theorem u8_of (n : Nat) (h : n < 256) : (UInt8.ofNat n).toNat = n := by rw [UInt8.toNat_ofNat']; exact Nat.mod_eq_of_lt h
theorem digits {W : World} {n size : Nat} {fill : UInt8} (hn : n ≤ 9223372036854775807) (hs : 1 ≤ size ∧ size ≤ 16) : Cn Tryz.prog 80 [.int .i64 (n : Int), .int .i64 (size : Int), Sl.B fill] W [] (fun _ : Unit => txt (dg n size fill)) (fun _ => []) := by
  (refine S.dates_digits_cn fun F => ?_; unfold S.dates_digits; simp only [List.cons_append, List.nil_append])
  refine e_mksl size size rfl rfl (by omega) (by omega) (by unfold maxLen; omega) fun g => ?_
  have e0 : List.replicate size (Value.int .u8 0) = gV (fun _ => 0) size := by
    apply List.ext_getElem?
    intro j
    by_cases hj : j < size
    · rw [gV_get hj]; simp [hj, Sl.B]
    · rw [List.getElem?_eq_none (by simp; omega), List.getElem?_eq_none (by rw [gV_len]; omega)]
  rw [e0]
  (((with_reducible refine e_opN (v_sub ?h1 ?h2) Imp.nil ?_); (case h1 => omega); (case h2 => omega)))
  refine e_loop2 (fun m y0 y8 => [ex fun st : Nat × (Nat → UInt8) => all [pu (m + st.1 = size ∧ y0 = .int .i64 ((n / 10 ^ st.1 : Nat) : Int) ∧ y8 = .int .i64 ((size : Int) - 1 - st.1) ∧ ∀ j, j < size → size ≤ j + st.1 → st.2 j = dgAt n size fill j), Sl 1 5 (some ⟨g, 0, none⟩) size size (gV st.2 size)]] ++ F) size ?_ ?_
  · refine .ex (0, fun _ => 0) (.all ?_)
    (try simp only [List.cons_append, List.nil_append, -eq_self])
    refine .pu ⟨by omega, by simp, by simp, fun j h1 h2 => by omega⟩ ?_
    (repeat (first | exact Imp.refl | exact Imp.nil | (apply Imp.pick; (focus ((repeat constructor); done))) | refine Imp.drop ?_))
  intro m ds y0 y8
  (try simp only [List.cons_append, List.nil_append, -eq_self])
  refine e_ex Pick.here fun st => e_all Pick.here ?_
  obtain ⟨k, f⟩ := st
  (try simp only [List.cons_append, List.nil_append, -eq_self])
  refine e_pu Pick.here fun hi => ?_
  (try dsimp only at hi)
  obtain ⟨hmk, rfl, rfl, hf⟩ := hi
  (try dsimp only)
  (refine e_ask v_geq Imp.nil (fun h => ?_) (fun h => ?_))
  · obtain ⟨i, hik⟩ : ∃ i : Nat, i = size - 1 - k := ⟨_, rfl⟩
    have hi : (size : Int) - 1 - (k : Int) = (i : Int) := by omega
    have hdg : dgAt n size fill i = if n / 10 ^ k = 0 ∧ i < size - 1 then fill else UInt8.ofNat (48 + n / 10 ^ k % 10) := by unfold dgAt; rw [show size - 1 - i = k by omega]
    have hq : n / 10 ^ k ≤ n := Nat.div_le_self _ _
    have hsu : n / 10 ^ (k + 1) = n / 10 ^ k / 10 := by rw [Nat.pow_succ, Nat.div_div_eq_div_mul]
    rw [hi]
    generalize n / 10 ^ k = q at hdg hq hsu ⊢
    ((with_reducible refine e_condT ?_)); (((with_reducible refine e_opN (v_rem ?h1 ?h2) Imp.nil ?_); (case h1 => omega); (case h2 => omega))); (((with_reducible refine e_opN (v_add ?h1 ?h2) Imp.nil ?_); (case h1 => omega); (case h2 => omega)))
    rw [show (48 : Int) + (q : Int) % 10 = ((48 + q % 10 : Nat) : Int) by omega]
    refine e_opN v_conv Imp.nil ?_
    rw [show IntKind.u8.wrap ((48 + q % 10 : Nat) : Int) = ((48 + q % 10 : Nat) : Int) by simp only [IntKind.wrap, IntKind.bits, IntKind.signed]; simp; omega, show Value.int .u8 ((48 + q % 10 : Nat) : Int) = Sl.B (UInt8.ofNat (48 + q % 10)) by unfold Sl.B; rw [u8_of _ (by omega)]]
    refine e_opN (v_ia1 i (by rfl) (by omega)) Imp.nil ?_
    refine e_stSl (by (repeat constructor)) (by rw [gV_len]; omega) ?_
    rw [Nat.zero_add, gV_set]
    refine e_cut0 ([Sl 1 5 (some ⟨g, 0, none⟩) size size (gV (fun x => if x = i then dgAt n size fill i else f x) size)] ++ F) ?_ ?_
    rotate_left
    · refine e_ask v_eql Imp.nil (fun hq0 => ?_) (fun hq0 => ?_)
      · ((with_reducible refine e_gdT ?_)); ((with_reducible refine e_gdT ?_)); ((with_reducible refine e_gdT ?_)); (((with_reducible refine e_opN (v_sub ?h1 ?h2) Imp.nil ?_); (case h1 => omega); (case h2 => omega))); ((with_reducible refine e_gdT ?_))
        refine e_ask v_lss Imp.nil (fun hi0 => ?_) (fun hi0 => ?_)
        · (((with_reducible refine e_opN v_pickT Imp.nil ?_))); ((with_reducible refine e_condT ?_))
          refine e_opN (v_ia1 i (by rfl) (by omega)) Imp.nil ?_
          refine e_stSl (by (repeat constructor)) (by rw [gV_len]; omega) ?_
          rw [Nat.zero_add, gV_set]
          have e2 : (fun x => if x = i then fill else (fun y => if y = i then UInt8.ofNat (48 + q % 10) else f y) x) = fun x => if x = i then dgAt n size fill i else f x := funext fun x => by
            have hd1 : dgAt n size fill i = fill := by rw [hdg]; exact if_pos ⟨by omega, by omega⟩
            rw [hd1]
            by_cases c : x = i
            · rw [if_pos c, if_pos c]
            · simp only [if_neg c]
          rw [e2]
          refine e_sat ?_
          (repeat (first | exact Imp.refl | exact Imp.nil | (apply Imp.pick; (focus ((repeat constructor); done))) | refine Imp.drop ?_))
        · (((with_reducible refine e_opN v_pickT Imp.nil ?_))); ((with_reducible refine e_condF ?_))
          have e2 : (fun x => if x = i then UInt8.ofNat (48 + q % 10) else f x) = fun x => if x = i then dgAt n size fill i else f x := funext fun x => by
            have hd1 : dgAt n size fill i = UInt8.ofNat (48 + q % 10) := by rw [hdg]; exact if_neg (fun c => hi0 (by omega))
            rw [hd1]
          rw [e2]
          refine e_sat ?_
          (repeat (first | exact Imp.refl | exact Imp.nil | (apply Imp.pick; (focus ((repeat constructor); done))) | refine Imp.drop ?_))
      · ((with_reducible refine e_gdF2 ?_)); ((with_reducible refine e_gdF2 ?_)); ((with_reducible refine e_gdF2 ?_)); ((with_reducible refine e_gdF2 ?_)); (((with_reducible refine e_opN v_pickF Imp.nil ?_))); ((with_reducible refine e_condF ?_))
        have e2 : (fun x => if x = i then UInt8.ofNat (48 + q % 10) else f x) = fun x => if x = i then dgAt n size fill i else f x := funext fun x => by
          have hd1 : dgAt n size fill i = UInt8.ofNat (48 + q % 10) := by rw [hdg]; exact if_neg (fun c => hq0 (by omega))
          rw [hd1]
        rw [e2]
        refine e_sat ?_
        (repeat (first | exact Imp.refl | exact Imp.nil | (apply Imp.pick; (focus ((repeat constructor); done))) | refine Imp.drop ?_))
    intro ds2
    (try simp only [List.cons_append, List.nil_append, -eq_self])
    (((with_reducible refine e_opN (v_quo ?h1 ?h2 ?h3) Imp.nil ?_); (case h1 => omega); (case h2 => omega); (case h3 => omega))); (((with_reducible refine e_opN (v_sub ?h1 ?h2) Imp.nil ?_); (case h1 => omega); (case h2 => omega)))
    refine e_next2 (m - 1) (by omega) (.ex (k + 1, fun x => if x = i then dgAt n size fill i else f x) (.all ?_))
    (try simp only [List.cons_append, List.nil_append, -eq_self])
    refine .pu ⟨by omega, ?_, ?_, fun j h1 h2 => ?_⟩ ?_
    · rw [hsu]; simp
    · congr 1; push_cast; omega
    · by_cases c : j = i
      · rw [if_pos c, c]
      · simp only [if_neg c]; exact hf j h1 (by omega)
    · (repeat (first | exact Imp.refl | exact Imp.nil | (apply Imp.pick; (focus ((repeat constructor); done))) | refine Imp.drop ?_))
  · refine e_condF ?_
    have hk : k = size := by omega
    have e3 : gV f size = (dg n size fill).map Sl.B := by
      unfold gV dg
      rw [List.map_map]
      refine List.map_congr_left fun j hj => ?_
      have := List.mem_range.1 hj
      show Sl.B (f j) = Sl.B (dgAt n size fill j)
      rw [hf j (by omega) (by omega)]
    rw [e3]
    refine e_opN (v_str (l := dg n size fill) (n := size) (rd_sl (by rw [List.length_map, dg_len]) (fun _ => ⟨g, rfl⟩)) (fun c => by cases c)) (.pick (by (repeat constructor)) .nil) ?_
    (first | refine e_ret (()) rfl ?_ | refine e_retT (()) ?_)
    (repeat (first | exact Imp.refl | exact Imp.nil | (apply Imp.pick; (focus ((repeat constructor); done))) | refine Imp.drop ?_))
end Go.Proofs.YtcmpkkkigmheoaaGreatDoor.D
/-! The names, the clock, the three forms of a date. No conditions but those that each names. -/
namespace Go.Proofs.YtcmpkkkigmheoaaGreatDoor.D
open Go Go.Proofs Go.RowKit Go.Proofs.YtcmpkkkigmheoaaGreatDoor.Sh Go.Proofs.YtcmpkkkigmheoaaGreatDoor.Sl Go.Proofs.YtcmpkkkigmheoaaGreatDoor.T
def wdL : List (List UInt8) := [[83, 117, 110, 100, 97, 121], [77, 111, 110, 100, 97, 121], [84, 117, 101, 115, 100, 97, 121], [87, 101, 100, 110, 101, 115, 100, 97, 121], [84, 104, 117, 114, 115, 100, 97, 121], [70, 114, 105, 100, 97, 121], [83, 97, 116, 117, 114, 100, 97, 121]]
def moL : List (List UInt8) := [[74, 97, 110], [70, 101, 98], [77, 97, 114], [65, 112, 114], [77, 97, 121], [74, 117, 110], [74, 117, 108], [65, 117, 103], [83, 101, 112], [79, 99, 116], [78, 111, 118], [68, 101, 99]]
theorem weekdays {W : World} : Cn Tryz.prog 79 [] W [] (fun _ : Unit => .agg (wdL.map txt).toArray) (fun _ => []) := by
  (refine S.dates_weekdays_cn fun F => ?_; unfold S.dates_weekdays; simp only [List.cons_append, List.nil_append])
  (((with_reducible refine e_newA fun g => ?_))); (((with_reducible refine e_opN v_rv Imp.nil ?_))); (((with_reducible refine' e_stAgg ?hp ?hn ?hv ?h1 ?_); (case hp => (repeat constructor)); (case hn => rfl); (case hv => rfl); (case h1 => simp [Value.oneCell']))); (((with_reducible refine' e_stS (v_resA ?hn) ?hi ?_); (case hi => (repeat (first | exact Imp.refl | exact Imp.nil | (apply Imp.pick; (focus ((repeat constructor); done))) | refine Imp.drop ?_))); (case hn => rfl)))
  (first | refine e_ret (()) rfl ?_ | refine e_retT (()) ?_)
  (repeat (first | exact Imp.refl | exact Imp.nil | (apply Imp.pick; (focus ((repeat constructor); done))) | refine Imp.drop ?_))
theorem months {W : World} : Cn Tryz.prog 74 [] W [] (fun _ : Unit => .agg (moL.map txt).toArray) (fun _ => []) := by
  (refine S.dates_months_cn fun F => ?_; unfold S.dates_months; simp only [List.cons_append, List.nil_append])
  (((with_reducible refine e_newA fun g => ?_))); (((with_reducible refine e_opN v_rv Imp.nil ?_))); (((with_reducible refine' e_stAgg ?hp ?hn ?hv ?h1 ?_); (case hp => (repeat constructor)); (case hn => rfl); (case hv => rfl); (case h1 => simp [Value.oneCell']))); (((with_reducible refine' e_stS (v_resA ?hn) ?hi ?_); (case hi => (repeat (first | exact Imp.refl | exact Imp.nil | (apply Imp.pick; (focus ((repeat constructor); done))) | refine Imp.drop ?_))); (case hn => rfl)))
  (first | refine e_ret (()) rfl ?_ | refine e_retT (()) ?_)
  (repeat (first | exact Imp.refl | exact Imp.nil | (apply Imp.pick; (focus ((repeat constructor); done))) | refine Imp.drop ?_))
theorem dig {W : World} {n z c : Int} {fill : UInt8} (size : Nat) (hn : 0 ≤ n ∧ n ≤ 9223372036854775807) (hz : z = (size : Int)) (hs : 1 ≤ size ∧ size ≤ 16) (hc : c = (fill.toNat : Int)) : Cn Tryz.prog 80 [.int .i64 n, .int .i64 z, .int .u8 c] W [] (fun _ : Unit => txt (dg n.toNat size fill)) (fun _ => []) := by
  obtain ⟨k, rfl⟩ := Int.eq_ofNat_of_zero_le hn.1
  subst hz; subst hc
  exact digits (by omega) hs
def clk (x : Dt) : List UInt8 := dg x.h.toNat 2 48 ++ [58] ++ dg x.mi.toNat 2 48 ++ [58] ++ dg x.s.toNat 2 48
theorem clk_len (x : Dt) : (clk x).length = 8 := by simp [clk, dg_len]
structure okX (x : Dt) : Prop where
  y : 0 ≤ x.y ∧ x.y ≤ 9999
  m : 1 ≤ x.m ∧ x.m ≤ 12
  d : 1 ≤ x.d ∧ x.d ≤ 31
  h : 0 ≤ x.h ∧ x.h ≤ 23
  mi : 0 ≤ x.mi ∧ x.mi ≤ 59
  s : 0 ≤ x.s ∧ x.s ≤ 59
  w : 0 ≤ x.w ∧ x.w ≤ 6
theorem clock {W : World} {x : Dt} (ok : okX x) : Cn Tryz.prog 81 [.agg (dtA x)] W [] (fun _ : Unit => txt (clk x)) (fun _ => []) := by
  obtain ⟨o1, o2, o3, o4, o5, o6, o7⟩ := ok
  (refine S.dates_Date_clock_cn fun F => ?_; unfold S.dates_Date_clock; simp only [List.cons_append, List.nil_append])
  unfold dtA
  (((with_reducible refine e_boxA fun g => ?_))); ((with_reducible refine e_drS ?_)); (((with_reducible refine e_stS v_fa0 Imp.nil ?_))); (((with_reducible refine' e_stS (v_ldN ?hc) ?hi ?_); (case hi => (repeat (first | exact Imp.refl | exact Imp.nil | (apply Imp.pick; (focus ((repeat constructor); done))) | refine Imp.drop ?_))); (case hc => (repeat (first | exact Nth.here | apply Nth.there))))); (((with_reducible refine e_stD v_fa0 Imp.nil ?_))); (((with_reducible refine' e_stD (v_ldN ?hc) ?hi ?_); (case hi => (repeat (first | exact Imp.refl | exact Imp.nil | (apply Imp.pick; (focus ((repeat constructor); done))) | refine Imp.drop ?_))); (case hc => (repeat (first | exact Nth.here | apply Nth.there))))); (((with_reducible refine e_stD v_fa0 Imp.nil ?_))); (((with_reducible refine' e_stD (v_ldN ?hc) ?hi ?_); (case hi => (repeat (first | exact Imp.refl | exact Imp.nil | (apply Imp.pick; (focus ((repeat constructor); done))) | refine Imp.drop ?_))); (case hc => (repeat (first | exact Nth.here | apply Nth.there)))))
  (refine' e_call (dig (n := x.h) (fill := 48) 2 (by omega) (by rfl) (by omega) (by rfl)) ?hp fun _ => ?_; (case hp => (repeat (first | exact Picks.nil | (apply Picks.cons; (focus (repeat constructor)))))); (try simp only [List.cons_append, List.nil_append, Bool.not_true, Bool.not_false]))
  (((with_reducible refine e_obl ?hi ?_); (case hi => (repeat (first | exact Imp.refl | exact Imp.nil | (apply Imp.pick; (focus ((repeat constructor); done))) | refine Imp.drop ?_))))); (((with_reducible refine e_obl ?hi ?_); (case hi => (repeat (first | exact Imp.refl | exact Imp.nil | (apply Imp.pick; (focus ((repeat constructor); done))) | refine Imp.drop ?_))))); (((with_reducible refine e_obl ?hi ?_); (case hi => (repeat (first | exact Imp.refl | exact Imp.nil | (apply Imp.pick; (focus ((repeat constructor); done))) | refine Imp.drop ?_))))); (((with_reducible refine e_obl ?hi ?_); (case hi => (repeat (first | exact Imp.refl | exact Imp.nil | (apply Imp.pick; (focus ((repeat constructor); done))) | refine Imp.drop ?_)))))
  refine e_stD (v_cat (by simp only [List.length_append, List.length_take, dg_len, clk_len, List.length_cons, List.length_nil]; omega)) Imp.nil ?_
  (refine' e_call (dig (n := x.mi) (fill := 48) 2 (by omega) (by rfl) (by omega) (by rfl)) ?hp fun _ => ?_; (case hp => (repeat (first | exact Picks.nil | (apply Picks.cons; (focus (repeat constructor)))))); (try simp only [List.cons_append, List.nil_append, Bool.not_true, Bool.not_false]))
  (((with_reducible refine e_obl ?hi ?_); (case hi => (repeat (first | exact Imp.refl | exact Imp.nil | (apply Imp.pick; (focus ((repeat constructor); done))) | refine Imp.drop ?_))))); (((with_reducible refine e_obl ?hi ?_); (case hi => (repeat (first | exact Imp.refl | exact Imp.nil | (apply Imp.pick; (focus ((repeat constructor); done))) | refine Imp.drop ?_))))); (((with_reducible refine e_obl ?hi ?_); (case hi => (repeat (first | exact Imp.refl | exact Imp.nil | (apply Imp.pick; (focus ((repeat constructor); done))) | refine Imp.drop ?_)))))
  refine e_stD (v_cat (by simp only [List.length_append, List.length_take, dg_len, clk_len, List.length_cons, List.length_nil]; omega)) Imp.nil ?_
  refine e_stD (v_cat (by simp only [List.length_append, List.length_take, dg_len, clk_len, List.length_cons, List.length_nil]; omega)) Imp.nil ?_
  (refine' e_call (dig (n := x.s) (fill := 48) 2 (by omega) (by rfl) (by omega) (by rfl)) ?hp fun _ => ?_; (case hp => (repeat (first | exact Picks.nil | (apply Picks.cons; (focus (repeat constructor)))))); (try simp only [List.cons_append, List.nil_append, Bool.not_true, Bool.not_false]))
  (((with_reducible refine e_obl ?hi ?_); (case hi => (repeat (first | exact Imp.refl | exact Imp.nil | (apply Imp.pick; (focus ((repeat constructor); done))) | refine Imp.drop ?_))))); (((with_reducible refine e_obl ?hi ?_); (case hi => (repeat (first | exact Imp.refl | exact Imp.nil | (apply Imp.pick; (focus ((repeat constructor); done))) | refine Imp.drop ?_))))); (((with_reducible refine e_obl ?hi ?_); (case hi => (repeat (first | exact Imp.refl | exact Imp.nil | (apply Imp.pick; (focus ((repeat constructor); done))) | refine Imp.drop ?_)))))
  refine e_stS (v_cat (by simp only [List.length_append, List.length_take, dg_len, clk_len, List.length_cons, List.length_nil]; omega)) Imp.nil ?_
  (first | refine e_ret (()) rfl ?_ | refine e_retT (()) ?_)
  (repeat (first | exact Imp.refl | exact Imp.nil | (apply Imp.pick; (focus ((repeat constructor); done))) | refine Imp.drop ?_))
def wdN (x : Dt) : List UInt8 := wdL.getD x.w.toNat []
def moN (x : Dt) : List UInt8 := moL.getD (x.m - 1).toNat []
theorem name_get {l : List (List UInt8)} {i : Nat} (h : i < l.length) : (l.map txt).toArray[i]? = some (txt (l.getD i [])) := by
  simp [List.getD_eq_getElem?_getD, h]
def fm (k : Int) (x : Dt) : List UInt8 :=
  if k = 0 then (wdN x).take 3 ++ [44, 32] ++ dg x.d.toNat 2 48 ++ [32] ++ moN x ++ [32] ++ dg x.y.toNat 4 48 ++ [32] ++ clk x ++ [32, 71, 77, 84]
  else if k = 1 then wdN x ++ [44, 32] ++ dg x.d.toNat 2 48 ++ [45] ++ moN x ++ [45] ++ dg (x.y % 100).toNat 2 48 ++ [32] ++ clk x ++ [32, 71, 77, 84]
  else (wdN x).take 3 ++ [32] ++ moN x ++ [32] ++ dg x.d.toNat 2 32 ++ [32] ++ clk x ++ [32] ++ dg x.y.toNat 4 48
theorem nm_len {l : List (List UInt8)} (h : ∀ a ∈ l, 3 ≤ a.length ∧ a.length ≤ 9) {i : Nat} (hi : i < l.length) : 3 ≤ (l.getD i []).length ∧ (l.getD i []).length ≤ 9 := by
  rw [List.getD_eq_getElem?_getD, List.getElem?_eq_getElem hi]
  exact h _ (List.getElem_mem hi)
theorem form {W : World} {x : Dt} {k : Int} (ok : okX x) : Cn Tryz.prog 61 [.agg (dtA x), .int .i64 k] W [] (fun _ : Unit => txt (fm k x)) (fun _ => []) := by
  have okx := ok
  obtain ⟨o1, o2, o3, o4, o5, o6, o7⟩ := ok
  have hwl : 3 ≤ (wdN x).length ∧ (wdN x).length ≤ 9 := nm_len (l := wdL) (by decide) (by show _ < 7; omega)
  have hml : 3 ≤ (moN x).length ∧ (moN x).length ≤ 9 := nm_len (l := moL) (by decide) (by show _ < 12; omega)
  (refine S.dates_Date_form_cn fun F => ?_; unfold S.dates_Date_form; simp only [List.cons_append, List.nil_append])
  rw [show (Value.agg (dtA x)) = .agg #[.int .i64 x.y, .int .i64 x.m, .int .i64 x.d, .int .i64 x.h, .int .i64 x.mi, .int .i64 x.s, .int .i64 x.w] from rfl]
  (((with_reducible refine e_boxA fun g => ?_))); ((with_reducible refine e_drS ?_)); (((with_reducible refine e_stD v_fa0 Imp.nil ?_))); (((with_reducible refine' e_stD (v_ldN ?hc) ?hi ?_); (case hi => (repeat (first | exact Imp.refl | exact Imp.nil | (apply Imp.pick; (focus ((repeat constructor); done))) | refine Imp.drop ?_))); (case hc => (repeat (first | exact Nth.here | apply Nth.there))))); (((with_reducible refine e_stD v_fa0 Imp.nil ?_))); (((with_reducible refine' e_stD (v_ldN ?hc) ?hi ?_); (case hi => (repeat (first | exact Imp.refl | exact Imp.nil | (apply Imp.pick; (focus ((repeat constructor); done))) | refine Imp.drop ?_))); (case hc => (repeat (first | exact Nth.here | apply Nth.there))))); (((with_reducible refine e_stD (v_sub ?h1 ?h2) Imp.nil ?_); (case h1 => omega); (case h2 => omega)))
  (refine' e_call (weekdays) ?hp fun _ => ?_; (case hp => (repeat (first | exact Picks.nil | (apply Picks.cons; (focus (repeat constructor)))))); (try simp only [List.cons_append, List.nil_append, Bool.not_true, Bool.not_false]))
  (((with_reducible refine e_obl ?hi ?_); (case hi => (repeat (first | exact Imp.refl | exact Imp.nil | (apply Imp.pick; (focus ((repeat constructor); done))) | refine Imp.drop ?_))))); (((with_reducible refine e_obl ?hi ?_); (case hi => (repeat (first | exact Imp.refl | exact Imp.nil | (apply Imp.pick; (focus ((repeat constructor); done))) | refine Imp.drop ?_))))); (((with_reducible refine e_obl ?hi ?_); (case hi => (repeat (first | exact Imp.refl | exact Imp.nil | (apply Imp.pick; (focus ((repeat constructor); done))) | refine Imp.drop ?_))))); (((with_reducible refine e_obl ?hi ?_); (case hi => (repeat (first | exact Imp.refl | exact Imp.nil | (apply Imp.pick; (focus ((repeat constructor); done))) | refine Imp.drop ?_))))); (((with_reducible refine e_obl ?hi ?_); (case hi => (repeat (first | exact Imp.refl | exact Imp.nil | (apply Imp.pick; (focus ((repeat constructor); done))) | refine Imp.drop ?_)))))
  refine e_stD (v_ixA (v := txt (wdN x)) x.w.toNat (by omega) (by omega) (name_get (l := wdL) (by show _ < 7; omega))) Imp.nil ?_
  (refine' e_call (months) ?hp fun _ => ?_; (case hp => (repeat (first | exact Picks.nil | (apply Picks.cons; (focus (repeat constructor)))))); (try simp only [List.cons_append, List.nil_append, Bool.not_true, Bool.not_false]))
  (((with_reducible refine e_obl ?hi ?_); (case hi => (repeat (first | exact Imp.refl | exact Imp.nil | (apply Imp.pick; (focus ((repeat constructor); done))) | refine Imp.drop ?_))))); (((with_reducible refine e_obl ?hi ?_); (case hi => (repeat (first | exact Imp.refl | exact Imp.nil | (apply Imp.pick; (focus ((repeat constructor); done))) | refine Imp.drop ?_))))); (((with_reducible refine e_obl ?hi ?_); (case hi => (repeat (first | exact Imp.refl | exact Imp.nil | (apply Imp.pick; (focus ((repeat constructor); done))) | refine Imp.drop ?_))))); (((with_reducible refine e_obl ?hi ?_); (case hi => (repeat (first | exact Imp.refl | exact Imp.nil | (apply Imp.pick; (focus ((repeat constructor); done))) | refine Imp.drop ?_))))); (((with_reducible refine e_obl ?hi ?_); (case hi => (repeat (first | exact Imp.refl | exact Imp.nil | (apply Imp.pick; (focus ((repeat constructor); done))) | refine Imp.drop ?_))))); (((with_reducible refine e_obl ?hi ?_); (case hi => (repeat (first | exact Imp.refl | exact Imp.nil | (apply Imp.pick; (focus ((repeat constructor); done))) | refine Imp.drop ?_)))))
  refine e_stS (v_ixA (v := txt (moN x)) (x.m - 1).toNat (by omega) (by omega) (name_get (l := moL) (by show _ < 12; omega))) Imp.nil ?_
  refine e_ask v_eql Imp.nil (fun hk => ?_) (fun hk => ?_)
  · unfold fm
    rw [if_pos hk]
    generalize wdN x = wn at hwl ⊢
    generalize moN x = mn at hml ⊢
    ((with_reducible refine e_condT ?_)); ((with_reducible refine e_drS ?_))
    refine e_stD (v_ssh 3 (by rfl) (by omega)) Imp.nil ?_
    refine e_stD (v_cat (by simp only [List.length_append, List.length_take, dg_len, clk_len, List.length_cons, List.length_nil]; omega)) Imp.nil ?_
    (((with_reducible refine e_stS v_fa0 Imp.nil ?_))); (((with_reducible refine' e_stS (v_ldN ?hc) ?hi ?_); (case hi => (repeat (first | exact Imp.refl | exact Imp.nil | (apply Imp.pick; (focus ((repeat constructor); done))) | refine Imp.drop ?_))); (case hc => (repeat (first | exact Nth.here | apply Nth.there))))); (((with_reducible refine e_stD v_fa0 Imp.nil ?_))); (((with_reducible refine' e_stD (v_ldN ?hc) ?hi ?_); (case hi => (repeat (first | exact Imp.refl | exact Imp.nil | (apply Imp.pick; (focus ((repeat constructor); done))) | refine Imp.drop ?_))); (case hc => (repeat (first | exact Nth.here | apply Nth.there))))); (((with_reducible refine' e_stD (v_ldAgg ?hn) ?hi ?_); (case hi => (repeat (first | exact Imp.refl | exact Imp.nil | (apply Imp.pick; (focus ((repeat constructor); done))) | refine Imp.drop ?_))); (case hn => rfl)))
    (refine' e_call (dig (n := x.d) (fill := 48) 2 (by omega) (by rfl) (by omega) (by rfl)) ?hp fun _ => ?_; (case hp => (repeat (first | exact Picks.nil | (apply Picks.cons; (focus (repeat constructor)))))); (try simp only [List.cons_append, List.nil_append, Bool.not_true, Bool.not_false]))
    (((with_reducible refine e_obl ?hi ?_); (case hi => (repeat (first | exact Imp.refl | exact Imp.nil | (apply Imp.pick; (focus ((repeat constructor); done))) | refine Imp.drop ?_))))); (((with_reducible refine e_obl ?hi ?_); (case hi => (repeat (first | exact Imp.refl | exact Imp.nil | (apply Imp.pick; (focus ((repeat constructor); done))) | refine Imp.drop ?_))))); (((with_reducible refine e_obl ?hi ?_); (case hi => (repeat (first | exact Imp.refl | exact Imp.nil | (apply Imp.pick; (focus ((repeat constructor); done))) | refine Imp.drop ?_))))); (((with_reducible refine e_obl ?hi ?_); (case hi => (repeat (first | exact Imp.refl | exact Imp.nil | (apply Imp.pick; (focus ((repeat constructor); done))) | refine Imp.drop ?_))))); (((with_reducible refine e_obl ?hi ?_); (case hi => (repeat (first | exact Imp.refl | exact Imp.nil | (apply Imp.pick; (focus ((repeat constructor); done))) | refine Imp.drop ?_)))))
    refine e_stD (v_cat (by simp only [List.length_append, List.length_take, dg_len, clk_len, List.length_cons, List.length_nil]; omega)) Imp.nil ?_
    refine e_stD (v_cat (by simp only [List.length_append, List.length_take, dg_len, clk_len, List.length_cons, List.length_nil]; omega)) Imp.nil ?_
    refine e_stD (v_cat (by simp only [List.length_append, List.length_take, dg_len, clk_len, List.length_cons, List.length_nil]; omega)) Imp.nil ?_
    refine e_stD (v_cat (by simp only [List.length_append, List.length_take, dg_len, clk_len, List.length_cons, List.length_nil]; omega)) Imp.nil ?_
    (refine' e_call (dig (n := x.y) (fill := 48) 4 (by omega) (by rfl) (by omega) (by rfl)) ?hp fun _ => ?_; (case hp => (repeat (first | exact Picks.nil | (apply Picks.cons; (focus (repeat constructor)))))); (try simp only [List.cons_append, List.nil_append, Bool.not_true, Bool.not_false]))
    (((with_reducible refine e_obl ?hi ?_); (case hi => (repeat (first | exact Imp.refl | exact Imp.nil | (apply Imp.pick; (focus ((repeat constructor); done))) | refine Imp.drop ?_))))); (((with_reducible refine e_obl ?hi ?_); (case hi => (repeat (first | exact Imp.refl | exact Imp.nil | (apply Imp.pick; (focus ((repeat constructor); done))) | refine Imp.drop ?_))))); (((with_reducible refine e_obl ?hi ?_); (case hi => (repeat (first | exact Imp.refl | exact Imp.nil | (apply Imp.pick; (focus ((repeat constructor); done))) | refine Imp.drop ?_))))); (((with_reducible refine e_obl ?hi ?_); (case hi => (repeat (first | exact Imp.refl | exact Imp.nil | (apply Imp.pick; (focus ((repeat constructor); done))) | refine Imp.drop ?_))))); (((with_reducible refine e_obl ?hi ?_); (case hi => (repeat (first | exact Imp.refl | exact Imp.nil | (apply Imp.pick; (focus ((repeat constructor); done))) | refine Imp.drop ?_))))); (((with_reducible refine e_obl ?hi ?_); (case hi => (repeat (first | exact Imp.refl | exact Imp.nil | (apply Imp.pick; (focus ((repeat constructor); done))) | refine Imp.drop ?_))))); (((with_reducible refine e_obl ?hi ?_); (case hi => (repeat (first | exact Imp.refl | exact Imp.nil | (apply Imp.pick; (focus ((repeat constructor); done))) | refine Imp.drop ?_)))))
    refine e_stD (v_cat (by simp only [List.length_append, List.length_take, dg_len, clk_len, List.length_cons, List.length_nil]; omega)) Imp.nil ?_
    refine e_stD (v_cat (by simp only [List.length_append, List.length_take, dg_len, clk_len, List.length_cons, List.length_nil]; omega)) Imp.nil ?_
    (refine' e_call (clock okx) ?hp fun _ => ?_; (case hp => (repeat (first | exact Picks.nil | (apply Picks.cons; (focus (repeat constructor)))))); (try simp only [List.cons_append, List.nil_append, Bool.not_true, Bool.not_false]))
    (((with_reducible refine e_obl ?hi ?_); (case hi => (repeat (first | exact Imp.refl | exact Imp.nil | (apply Imp.pick; (focus ((repeat constructor); done))) | refine Imp.drop ?_))))); (((with_reducible refine e_obl ?hi ?_); (case hi => (repeat (first | exact Imp.refl | exact Imp.nil | (apply Imp.pick; (focus ((repeat constructor); done))) | refine Imp.drop ?_))))); (((with_reducible refine e_obl ?hi ?_); (case hi => (repeat (first | exact Imp.refl | exact Imp.nil | (apply Imp.pick; (focus ((repeat constructor); done))) | refine Imp.drop ?_))))); (((with_reducible refine e_obl ?hi ?_); (case hi => (repeat (first | exact Imp.refl | exact Imp.nil | (apply Imp.pick; (focus ((repeat constructor); done))) | refine Imp.drop ?_))))); (((with_reducible refine e_obl ?hi ?_); (case hi => (repeat (first | exact Imp.refl | exact Imp.nil | (apply Imp.pick; (focus ((repeat constructor); done))) | refine Imp.drop ?_))))); (((with_reducible refine e_obl ?hi ?_); (case hi => (repeat (first | exact Imp.refl | exact Imp.nil | (apply Imp.pick; (focus ((repeat constructor); done))) | refine Imp.drop ?_))))); (((with_reducible refine e_obl ?hi ?_); (case hi => (repeat (first | exact Imp.refl | exact Imp.nil | (apply Imp.pick; (focus ((repeat constructor); done))) | refine Imp.drop ?_))))); (((with_reducible refine e_obl ?hi ?_); (case hi => (repeat (first | exact Imp.refl | exact Imp.nil | (apply Imp.pick; (focus ((repeat constructor); done))) | refine Imp.drop ?_)))))
    refine e_stS (v_cat (by simp only [List.length_append, List.length_take, dg_len, clk_len, List.length_cons, List.length_nil]; omega)) Imp.nil ?_
    refine e_stS (v_cat (by simp only [List.length_append, List.length_take, dg_len, clk_len, List.length_cons, List.length_nil]; omega)) Imp.nil ?_
    (first | refine e_ret (()) rfl ?_ | refine e_retT (()) ?_)
    (repeat (first | exact Imp.refl | exact Imp.nil | (apply Imp.pick; (focus ((repeat constructor); done))) | refine Imp.drop ?_))
  ((with_reducible refine e_condF ?_))
  refine e_ask v_eql Imp.nil (fun hk1 => ?_) (fun hk1 => ?_)
  · unfold fm
    rw [if_neg hk, if_pos hk1]
    generalize wdN x = wn at hwl ⊢
    generalize moN x = mn at hml ⊢
    ((with_reducible refine e_condT ?_)); ((with_reducible refine e_drS ?_))
    refine e_stD (v_cat (by simp only [List.length_append, List.length_take, dg_len, clk_len, List.length_cons, List.length_nil]; omega)) Imp.nil ?_
    (((with_reducible refine e_stS v_fa0 Imp.nil ?_))); (((with_reducible refine' e_stS (v_ldN ?hc) ?hi ?_); (case hi => (repeat (first | exact Imp.refl | exact Imp.nil | (apply Imp.pick; (focus ((repeat constructor); done))) | refine Imp.drop ?_))); (case hc => (repeat (first | exact Nth.here | apply Nth.there))))); (((with_reducible refine e_stD v_fa0 Imp.nil ?_))); (((with_reducible refine' e_stD (v_ldN ?hc) ?hi ?_); (case hi => (repeat (first | exact Imp.refl | exact Imp.nil | (apply Imp.pick; (focus ((repeat constructor); done))) | refine Imp.drop ?_))); (case hc => (repeat (first | exact Nth.here | apply Nth.there))))); (((with_reducible refine e_stD (v_rem ?h1 ?h2) Imp.nil ?_); (case h1 => omega); (case h2 => omega))); (((with_reducible refine' e_stD (v_ldAgg ?hn) ?hi ?_); (case hi => (repeat (first | exact Imp.refl | exact Imp.nil | (apply Imp.pick; (focus ((repeat constructor); done))) | refine Imp.drop ?_))); (case hn => rfl)))
    (refine' e_call (dig (n := x.d) (fill := 48) 2 (by omega) (by rfl) (by omega) (by rfl)) ?hp fun _ => ?_; (case hp => (repeat (first | exact Picks.nil | (apply Picks.cons; (focus (repeat constructor)))))); (try simp only [List.cons_append, List.nil_append, Bool.not_true, Bool.not_false]))
    (((with_reducible refine e_obl ?hi ?_); (case hi => (repeat (first | exact Imp.refl | exact Imp.nil | (apply Imp.pick; (focus ((repeat constructor); done))) | refine Imp.drop ?_))))); (((with_reducible refine e_obl ?hi ?_); (case hi => (repeat (first | exact Imp.refl | exact Imp.nil | (apply Imp.pick; (focus ((repeat constructor); done))) | refine Imp.drop ?_))))); (((with_reducible refine e_obl ?hi ?_); (case hi => (repeat (first | exact Imp.refl | exact Imp.nil | (apply Imp.pick; (focus ((repeat constructor); done))) | refine Imp.drop ?_))))); (((with_reducible refine e_obl ?hi ?_); (case hi => (repeat (first | exact Imp.refl | exact Imp.nil | (apply Imp.pick; (focus ((repeat constructor); done))) | refine Imp.drop ?_))))); (((with_reducible refine e_obl ?hi ?_); (case hi => (repeat (first | exact Imp.refl | exact Imp.nil | (apply Imp.pick; (focus ((repeat constructor); done))) | refine Imp.drop ?_)))))
    refine e_stD (v_cat (by simp only [List.length_append, List.length_take, dg_len, clk_len, List.length_cons, List.length_nil]; omega)) Imp.nil ?_
    refine e_stD (v_cat (by simp only [List.length_append, List.length_take, dg_len, clk_len, List.length_cons, List.length_nil]; omega)) Imp.nil ?_
    refine e_stD (v_cat (by simp only [List.length_append, List.length_take, dg_len, clk_len, List.length_cons, List.length_nil]; omega)) Imp.nil ?_
    refine e_stD (v_cat (by simp only [List.length_append, List.length_take, dg_len, clk_len, List.length_cons, List.length_nil]; omega)) Imp.nil ?_
    (refine' e_call (dig (n := x.y % 100) (fill := 48) 2 (by omega) (by rfl) (by omega) (by rfl)) ?hp fun _ => ?_; (case hp => (repeat (first | exact Picks.nil | (apply Picks.cons; (focus (repeat constructor)))))); (try simp only [List.cons_append, List.nil_append, Bool.not_true, Bool.not_false]))
    (((with_reducible refine e_obl ?hi ?_); (case hi => (repeat (first | exact Imp.refl | exact Imp.nil | (apply Imp.pick; (focus ((repeat constructor); done))) | refine Imp.drop ?_))))); (((with_reducible refine e_obl ?hi ?_); (case hi => (repeat (first | exact Imp.refl | exact Imp.nil | (apply Imp.pick; (focus ((repeat constructor); done))) | refine Imp.drop ?_))))); (((with_reducible refine e_obl ?hi ?_); (case hi => (repeat (first | exact Imp.refl | exact Imp.nil | (apply Imp.pick; (focus ((repeat constructor); done))) | refine Imp.drop ?_))))); (((with_reducible refine e_obl ?hi ?_); (case hi => (repeat (first | exact Imp.refl | exact Imp.nil | (apply Imp.pick; (focus ((repeat constructor); done))) | refine Imp.drop ?_))))); (((with_reducible refine e_obl ?hi ?_); (case hi => (repeat (first | exact Imp.refl | exact Imp.nil | (apply Imp.pick; (focus ((repeat constructor); done))) | refine Imp.drop ?_))))); (((with_reducible refine e_obl ?hi ?_); (case hi => (repeat (first | exact Imp.refl | exact Imp.nil | (apply Imp.pick; (focus ((repeat constructor); done))) | refine Imp.drop ?_)))))
    refine e_stD (v_cat (by simp only [List.length_append, List.length_take, dg_len, clk_len, List.length_cons, List.length_nil]; omega)) Imp.nil ?_
    refine e_stD (v_cat (by simp only [List.length_append, List.length_take, dg_len, clk_len, List.length_cons, List.length_nil]; omega)) Imp.nil ?_
    (refine' e_call (clock okx) ?hp fun _ => ?_; (case hp => (repeat (first | exact Picks.nil | (apply Picks.cons; (focus (repeat constructor)))))); (try simp only [List.cons_append, List.nil_append, Bool.not_true, Bool.not_false]))
    (((with_reducible refine e_obl ?hi ?_); (case hi => (repeat (first | exact Imp.refl | exact Imp.nil | (apply Imp.pick; (focus ((repeat constructor); done))) | refine Imp.drop ?_))))); (((with_reducible refine e_obl ?hi ?_); (case hi => (repeat (first | exact Imp.refl | exact Imp.nil | (apply Imp.pick; (focus ((repeat constructor); done))) | refine Imp.drop ?_))))); (((with_reducible refine e_obl ?hi ?_); (case hi => (repeat (first | exact Imp.refl | exact Imp.nil | (apply Imp.pick; (focus ((repeat constructor); done))) | refine Imp.drop ?_))))); (((with_reducible refine e_obl ?hi ?_); (case hi => (repeat (first | exact Imp.refl | exact Imp.nil | (apply Imp.pick; (focus ((repeat constructor); done))) | refine Imp.drop ?_))))); (((with_reducible refine e_obl ?hi ?_); (case hi => (repeat (first | exact Imp.refl | exact Imp.nil | (apply Imp.pick; (focus ((repeat constructor); done))) | refine Imp.drop ?_))))); (((with_reducible refine e_obl ?hi ?_); (case hi => (repeat (first | exact Imp.refl | exact Imp.nil | (apply Imp.pick; (focus ((repeat constructor); done))) | refine Imp.drop ?_))))); (((with_reducible refine e_obl ?hi ?_); (case hi => (repeat (first | exact Imp.refl | exact Imp.nil | (apply Imp.pick; (focus ((repeat constructor); done))) | refine Imp.drop ?_)))))
    refine e_stS (v_cat (by simp only [List.length_append, List.length_take, dg_len, clk_len, List.length_cons, List.length_nil]; omega)) Imp.nil ?_
    refine e_stS (v_cat (by simp only [List.length_append, List.length_take, dg_len, clk_len, List.length_cons, List.length_nil]; omega)) Imp.nil ?_
    (first | refine e_ret (()) rfl ?_ | refine e_retT (()) ?_)
    (repeat (first | exact Imp.refl | exact Imp.nil | (apply Imp.pick; (focus ((repeat constructor); done))) | refine Imp.drop ?_))
  · unfold fm
    rw [if_neg hk, if_neg hk1]
    generalize wdN x = wn at hwl ⊢
    generalize moN x = mn at hml ⊢
    ((with_reducible refine e_condF ?_)); ((with_reducible refine e_drS ?_))
    refine e_stD (v_ssh 3 (by rfl) (by omega)) Imp.nil ?_
    refine e_stD (v_cat (by simp only [List.length_append, List.length_take, dg_len, clk_len, List.length_cons, List.length_nil]; omega)) Imp.nil ?_
    refine e_stD (v_cat (by simp only [List.length_append, List.length_take, dg_len, clk_len, List.length_cons, List.length_nil]; omega)) Imp.nil ?_
    refine e_stD (v_cat (by simp only [List.length_append, List.length_take, dg_len, clk_len, List.length_cons, List.length_nil]; omega)) Imp.nil ?_
    (((with_reducible refine e_stS v_fa0 Imp.nil ?_))); (((with_reducible refine' e_stS (v_ldN ?hc) ?hi ?_); (case hi => (repeat (first | exact Imp.refl | exact Imp.nil | (apply Imp.pick; (focus ((repeat constructor); done))) | refine Imp.drop ?_))); (case hc => (repeat (first | exact Nth.here | apply Nth.there))))); (((with_reducible refine' e_stD (v_ldAgg ?hn) ?hi ?_); (case hi => (repeat (first | exact Imp.refl | exact Imp.nil | (apply Imp.pick; (focus ((repeat constructor); done))) | refine Imp.drop ?_))); (case hn => rfl))); (((with_reducible refine e_stD v_fa0 Imp.nil ?_))); (((with_reducible refine' e_stD (v_ldN ?hc) ?hi ?_); (case hi => (repeat (first | exact Imp.refl | exact Imp.nil | (apply Imp.pick; (focus ((repeat constructor); done))) | refine Imp.drop ?_))); (case hc => (repeat (first | exact Nth.here | apply Nth.there)))))
    (refine' e_call (dig (n := x.d) (fill := 32) 2 (by omega) (by rfl) (by omega) (by rfl)) ?hp fun _ => ?_; (case hp => (repeat (first | exact Picks.nil | (apply Picks.cons; (focus (repeat constructor)))))); (try simp only [List.cons_append, List.nil_append, Bool.not_true, Bool.not_false]))
    (((with_reducible refine e_obl ?hi ?_); (case hi => (repeat (first | exact Imp.refl | exact Imp.nil | (apply Imp.pick; (focus ((repeat constructor); done))) | refine Imp.drop ?_))))); (((with_reducible refine e_obl ?hi ?_); (case hi => (repeat (first | exact Imp.refl | exact Imp.nil | (apply Imp.pick; (focus ((repeat constructor); done))) | refine Imp.drop ?_))))); (((with_reducible refine e_obl ?hi ?_); (case hi => (repeat (first | exact Imp.refl | exact Imp.nil | (apply Imp.pick; (focus ((repeat constructor); done))) | refine Imp.drop ?_))))); (((with_reducible refine e_obl ?hi ?_); (case hi => (repeat (first | exact Imp.refl | exact Imp.nil | (apply Imp.pick; (focus ((repeat constructor); done))) | refine Imp.drop ?_))))); (((with_reducible refine e_obl ?hi ?_); (case hi => (repeat (first | exact Imp.refl | exact Imp.nil | (apply Imp.pick; (focus ((repeat constructor); done))) | refine Imp.drop ?_))))); (((with_reducible refine e_obl ?hi ?_); (case hi => (repeat (first | exact Imp.refl | exact Imp.nil | (apply Imp.pick; (focus ((repeat constructor); done))) | refine Imp.drop ?_))))); (((with_reducible refine e_obl ?hi ?_); (case hi => (repeat (first | exact Imp.refl | exact Imp.nil | (apply Imp.pick; (focus ((repeat constructor); done))) | refine Imp.drop ?_)))))
    refine e_stD (v_cat (by simp only [List.length_append, List.length_take, dg_len, clk_len, List.length_cons, List.length_nil]; omega)) Imp.nil ?_
    refine e_stD (v_cat (by simp only [List.length_append, List.length_take, dg_len, clk_len, List.length_cons, List.length_nil]; omega)) Imp.nil ?_
    (refine' e_call (clock okx) ?hp fun _ => ?_; (case hp => (repeat (first | exact Picks.nil | (apply Picks.cons; (focus (repeat constructor)))))); (try simp only [List.cons_append, List.nil_append, Bool.not_true, Bool.not_false]))
    (((with_reducible refine e_obl ?hi ?_); (case hi => (repeat (first | exact Imp.refl | exact Imp.nil | (apply Imp.pick; (focus ((repeat constructor); done))) | refine Imp.drop ?_))))); (((with_reducible refine e_obl ?hi ?_); (case hi => (repeat (first | exact Imp.refl | exact Imp.nil | (apply Imp.pick; (focus ((repeat constructor); done))) | refine Imp.drop ?_))))); (((with_reducible refine e_obl ?hi ?_); (case hi => (repeat (first | exact Imp.refl | exact Imp.nil | (apply Imp.pick; (focus ((repeat constructor); done))) | refine Imp.drop ?_))))); (((with_reducible refine e_obl ?hi ?_); (case hi => (repeat (first | exact Imp.refl | exact Imp.nil | (apply Imp.pick; (focus ((repeat constructor); done))) | refine Imp.drop ?_))))); (((with_reducible refine e_obl ?hi ?_); (case hi => (repeat (first | exact Imp.refl | exact Imp.nil | (apply Imp.pick; (focus ((repeat constructor); done))) | refine Imp.drop ?_))))); (((with_reducible refine e_obl ?hi ?_); (case hi => (repeat (first | exact Imp.refl | exact Imp.nil | (apply Imp.pick; (focus ((repeat constructor); done))) | refine Imp.drop ?_))))); (((with_reducible refine e_obl ?hi ?_); (case hi => (repeat (first | exact Imp.refl | exact Imp.nil | (apply Imp.pick; (focus ((repeat constructor); done))) | refine Imp.drop ?_))))); (((with_reducible refine e_obl ?hi ?_); (case hi => (repeat (first | exact Imp.refl | exact Imp.nil | (apply Imp.pick; (focus ((repeat constructor); done))) | refine Imp.drop ?_)))))
    refine e_stD (v_cat (by simp only [List.length_append, List.length_take, dg_len, clk_len, List.length_cons, List.length_nil]; omega)) Imp.nil ?_
    refine e_stD (v_cat (by simp only [List.length_append, List.length_take, dg_len, clk_len, List.length_cons, List.length_nil]; omega)) Imp.nil ?_
    (refine' e_call (dig (n := x.y) (fill := 48) 4 (by omega) (by rfl) (by omega) (by rfl)) ?hp fun _ => ?_; (case hp => (repeat (first | exact Picks.nil | (apply Picks.cons; (focus (repeat constructor)))))); (try simp only [List.cons_append, List.nil_append, Bool.not_true, Bool.not_false]))
    (((with_reducible refine e_obl ?hi ?_); (case hi => (repeat (first | exact Imp.refl | exact Imp.nil | (apply Imp.pick; (focus ((repeat constructor); done))) | refine Imp.drop ?_))))); (((with_reducible refine e_obl ?hi ?_); (case hi => (repeat (first | exact Imp.refl | exact Imp.nil | (apply Imp.pick; (focus ((repeat constructor); done))) | refine Imp.drop ?_))))); (((with_reducible refine e_obl ?hi ?_); (case hi => (repeat (first | exact Imp.refl | exact Imp.nil | (apply Imp.pick; (focus ((repeat constructor); done))) | refine Imp.drop ?_))))); (((with_reducible refine e_obl ?hi ?_); (case hi => (repeat (first | exact Imp.refl | exact Imp.nil | (apply Imp.pick; (focus ((repeat constructor); done))) | refine Imp.drop ?_))))); (((with_reducible refine e_obl ?hi ?_); (case hi => (repeat (first | exact Imp.refl | exact Imp.nil | (apply Imp.pick; (focus ((repeat constructor); done))) | refine Imp.drop ?_))))); (((with_reducible refine e_obl ?hi ?_); (case hi => (repeat (first | exact Imp.refl | exact Imp.nil | (apply Imp.pick; (focus ((repeat constructor); done))) | refine Imp.drop ?_))))); (((with_reducible refine e_obl ?hi ?_); (case hi => (repeat (first | exact Imp.refl | exact Imp.nil | (apply Imp.pick; (focus ((repeat constructor); done))) | refine Imp.drop ?_))))); (((with_reducible refine e_obl ?hi ?_); (case hi => (repeat (first | exact Imp.refl | exact Imp.nil | (apply Imp.pick; (focus ((repeat constructor); done))) | refine Imp.drop ?_)))))
    refine e_stS (v_cat (by simp only [List.length_append, List.length_take, dg_len, clk_len, List.length_cons, List.length_nil]; omega)) Imp.nil ?_
    (first | refine e_ret (()) rfl ?_ | refine e_retT (()) ?_)
    (repeat (first | exact Imp.refl | exact Imp.nil | (apply Imp.pick; (focus ((repeat constructor); done))) | refine Imp.drop ?_))
end Go.Proofs.YtcmpkkkigmheoaaGreatDoor.D
/-! A date as text; what reads a text. No conditions but those that each names. -/
namespace Go.Proofs.YtcmpkkkigmheoaaGreatDoor.D
open Go Go.Proofs Go.RowKit Go.Proofs.YtcmpkkkigmheoaaGreatDoor.Sh Go.Proofs.YtcmpkkkigmheoaaGreatDoor.Sl Go.Proofs.YtcmpkkkigmheoaaGreatDoor.T
theorem cM_b (n : Int) : 1 ≤ cM n ∧ cM n ≤ 12 := by unfold cM; omega
theorem cD_b (n : Int) : 1 ≤ cD n ∧ cD n ≤ 31 := by
  have h := dD_b (dE_b n)
  unfold cD dM
  generalize dD (dE n) = d at h ⊢
  omega
theorem cY_b {n : Int} (h : 0 ≤ n ∧ n ≤ 2932896) : 0 ≤ cY n ∧ cY n ≤ 9999 := by
  have he := dE_b n
  have hy := dY_b he
  unfold cY
  have hq : 4 ≤ (n + 719468) / 146097 ∧ (n + 719468) / 146097 ≤ 24 := by omega
  have h24 : (n + 719468) / 146097 = 24 → dE n ≤ 146036 := by unfold dE; omega
  by_cases c : (n + 719468) / 146097 = 24
  · have h5 := h24 c
    by_cases c2 : dY (dE n) = 399
    · have hd : dD (dE n) ≤ 305 := by unfold dD; rw [c2]; omega
      have hd0 := (dD_b he).1
      have hm : ¬ cM n ≤ 2 := by
        unfold cM dM
        generalize dD (dE n) = d at hd hd0 ⊢
        have q1 : (5 * d + 2) / 153 ≤ 9 := by omega
        have q2 : 0 ≤ (5 * d + 2) / 153 := by omega
        rw [Int.emod_eq_of_lt (by omega) (by omega)]
        omega
      rw [if_neg hm]; omega
    · split <;> omega
  · split <;> omega
theorem ok_sp {n : Int} (h : okT n) : okX (spD n) := by
  unfold okT at h
  have hN : 0 ≤ n / 86400 ∧ n / 86400 ≤ 2932896 := by omega
  rw [show spD n = ⟨cY (n / 86400), cM (n / 86400), cD (n / 86400), n % 86400 / 3600, n % 3600 / 60, n % 60, (n / 86400 + 4) % 7⟩ from if_pos h]
  exact ⟨cY_b hN, cM_b _, cD_b _, by simp only; omega, by simp only; omega, by simp only; omega, by simp only; omega⟩
def foS (n : Int) : List UInt8 := if okT n then fm 0 (spD n) else []
abbrev Sm {α : Type} (m : Option α) := { x : α // m = some x }
abbrev Nn {α : Type} (m : Option α) := { _u : Unit // m = none }
def pnD : List PanicEntry := pe (.iface 52 (.int .i64 41))
def IsRd (p : Nat) (l : List UInt8) : HP := pt p (.cells #[txt l] 113)
def tkR (k : Nat) (l : List UInt8) : Option (List UInt8 × List UInt8) := if k ≤ l.length then some (l.take k, l.drop k) else none
theorem take {W : World} {p k : Nat} {l : List UInt8} : CnP Tryz.prog 53 [.pointer (some ⟨p, 0, none⟩), .int .i64 (k : Int)] W [IsRd p l]
    (fun x : Sm (tkR k l) => txt x.1.1) (fun x => [IsRd p x.1.2]) (fun _ : Nn (tkR k l) => pnD) (fun _ => []) := by
  (refine S.dates_reader_take_cnP fun F => ?_; unfold S.dates_reader_take; simp only [List.cons_append, List.nil_append, -eq_self])
  refine e_cut0 (pu (k ≤ l.length) :: IsRd p l :: F) ?_ ?_
  rotate_left
  · unfold IsRd
    (((with_reducible refine e_opN v_nil Imp.nil ?_))); (((with_reducible refine e_opN v_fa0 Imp.nil ?_))); (((with_reducible refine' e_opN (v_ldN ?hc) ?hi ?_); (case hi => (repeat (first | exact Imp.refl | exact Imp.nil | (apply Imp.pick; (focus ((repeat constructor); done))) | refine Imp.drop ?_))); (case hc => (repeat (first | exact Nth.here | apply Nth.there)))))
    refine e_opN v_lent Imp.nil ?_
    (refine e_ask v_gtr Imp.nil (fun h => ?_) (fun h => ?_))
    · ((with_reducible refine e_condT ?_))
      refine e_opN v_mkI Imp.nil ?_
      refine e_panic ?_
      refine e_pan ⟨(), ?_⟩ rfl ?_
      · unfold tkR; rw [if_neg (by omega)]
      · (repeat (first | exact Imp.refl | exact Imp.nil | (apply Imp.pick; (focus ((repeat constructor); done))) | refine Imp.drop ?_))
    · ((with_reducible refine e_condF ?_))
      refine e_sat (.pu (by omega) ?_)
      (repeat (first | exact Imp.refl | exact Imp.nil | (apply Imp.pick; (focus ((repeat constructor); done))) | refine Imp.drop ?_))
  intro ds
  (try simp only [List.cons_append, List.nil_append, -eq_self])
  refine e_pu .here fun hk => ?_
  unfold IsRd
  (((with_reducible refine e_opN v_nil Imp.nil ?_))); (((with_reducible refine e_opN v_fa0 Imp.nil ?_))); (((with_reducible refine' e_opN (v_ldN ?hc) ?hi ?_); (case hi => (repeat (first | exact Imp.refl | exact Imp.nil | (apply Imp.pick; (focus ((repeat constructor); done))) | refine Imp.drop ?_))); (case hc => (repeat (first | exact Nth.here | apply Nth.there)))))
  refine e_opN (v_ssh k (by rfl) hk) Imp.nil ?_
  (((with_reducible refine e_opN v_nil Imp.nil ?_))); (((with_reducible refine e_opN v_fa0 Imp.nil ?_))); (((with_reducible refine' e_opN (v_ldN ?hc) ?hi ?_); (case hi => (repeat (first | exact Imp.refl | exact Imp.nil | (apply Imp.pick; (focus ((repeat constructor); done))) | refine Imp.drop ?_))); (case hc => (repeat (first | exact Nth.here | apply Nth.there)))))
  refine e_opN (v_ssl k (by rfl) hk) Imp.nil ?_
  (((with_reducible refine e_opN v_nil Imp.nil ?_))); (((with_reducible refine e_opN v_fa0 Imp.nil ?_))); (((with_reducible refine' e_stN ?hp ?ho ?_); (case hp => (repeat constructor)); (case ho => (repeat (first | exact Put.here | apply Put.there)))))
  (first | refine e_ret (⟨(l.take k, l.drop k), by unfold tkR; rw [if_pos hk]⟩) rfl ?_ | refine e_retT (⟨(l.take k, l.drop k), by unfold tkR; rw [if_pos hk]⟩) ?_)
  (repeat (first | exact Imp.refl | exact Imp.nil | (apply Imp.pick; (focus ((repeat constructor); done))) | refine Imp.drop ?_))
end Go.Proofs.YtcmpkkkigmheoaaGreatDoor.D
/-! What reads numbers, months, times of day. No conditions but those that each names. -/
namespace Go.Proofs.YtcmpkkkigmheoaaGreatDoor.D
open Go Go.Proofs Go.RowKit Go.Proofs.YtcmpkkkigmheoaaGreatDoor.Sh Go.Proofs.YtcmpkkkigmheoaaGreatDoor.Sl Go.Proofs.YtcmpkkkigmheoaaGreatDoor.T
def fix0 : List UInt8 → List UInt8
  | [] => []
  | c :: r => (if c = 32 then 48 else c) :: r
def numF (acc : Nat) : List UInt8 → Option Nat
  | [] => some acc
  | c :: r => if c.toNat < 48 ∨ 57 < c.toNat then none else numF (10 * acc + (c.toNat - 48)) r
def numV (w : List UInt8) : Option Nat := numF 0 (fix0 w)
def numR (k : Nat) (l : List UInt8) : Option (Nat × List UInt8) := match tkR k l with
  | none => none
  | some x => match numV x.1 with
    | none => none
    | some v => some (v, x.2)
theorem fix0_len (w : List UInt8) : (fix0 w).length = w.length := by cases w <;> rfl
theorem fix0_get (w : List UInt8) (i : Nat) (h : i < w.length) : (fix0 w)[i]'(by rw [fix0_len]; exact h) = if w[i] = 32 ∧ i = 0 then 48 else w[i] := by
  cases w with
  | nil => simp at h
  | cons c r =>
    cases i with
    | zero => simp [fix0]
    | succ i => simp [fix0]
theorem tk_len {k : Nat} {l : List UInt8} {x : List UInt8 × List UInt8} (h : tkR k l = some x) : x.1.length = k := by
  unfold tkR at h
  split at h
  · injection h with h; subst h; simp; omega
  · cases h
theorem number {W : World} {p k : Nat} {l : List UInt8} (hk : k ≤ 8) : CnP Tryz.prog 54 [.pointer (some ⟨p, 0, none⟩), .int .i64 (k : Int)] W [IsRd p l]
    (fun x : Sm (numR k l) => .int .i64 (x.1.1 : Int)) (fun x => [IsRd p x.1.2]) (fun _ : Nn (numR k l) => pnD) (fun _ => []) := by
  (refine S.dates_reader_number_cnP fun F => ?_; unfold S.dates_reader_number; simp only [List.cons_append, List.nil_append, -eq_self])
  (refine' e_callP (take (k := k)) ?hp (fun _ => ?_) (fun _ => ?_); (case hp => (repeat (first | exact Picks.nil | (apply Picks.cons; (focus (repeat constructor)))))); (all_goals (try simp only [List.cons_append, List.nil_append, Bool.not_true, Bool.not_false, -eq_self])))
  rotate_left
  · rename_i y
    refine e_pan ⟨(), by unfold numR; rw [y.2]⟩ rfl ?_
    (repeat (first | exact Imp.refl | exact Imp.nil | (apply Imp.pick; (focus ((repeat constructor); done))) | refine Imp.drop ?_))
  rename_i x
  obtain ⟨⟨w, r⟩, hx⟩ := x
  have hwl : w.length = k := tk_len hx
  (try dsimp only)
  refine e_sbytes (e := 5) (by kernel_rfl) (by kernel_rfl) fun g c rest fz => ?_
  (((with_reducible refine e_opN v_len Imp.nil ?_)))
  refine e_loop2 (fun m y5 y13 => (ex fun st : Nat × Nat => pu (m + st.2 = k ∧ y5 = .int .i64 (st.1 : Int) ∧ y13 = .int .i64 (st.2 : Int) ∧ st.1 < 10 ^ st.2 ∧ numF st.1 ((fix0 w).drop st.2) = numV w)) :: pt g (.cells (w.map Sl.B ++ rest).toArray 5 fz) :: IsRd p r :: F) k ?_ ?_
  · refine .ex (0, 0) (.pu ⟨by omega, rfl, rfl, by simp, by simp [numV]⟩ ?_)
    (repeat (first | exact Imp.refl | exact Imp.nil | (apply Imp.pick; (focus ((repeat constructor); done))) | refine Imp.drop ?_))
  intro m ds y5 y13
  (try simp only [List.cons_append, List.nil_append, -eq_self])
  refine e_ex Pick.here fun st => e_pu Pick.here fun hi => ?_
  obtain ⟨acc, i⟩ := st
  (try dsimp only at hi)
  obtain ⟨hmk, rfl, rfl, hacc, hnum⟩ := hi
  have hp8 : 10 ^ i ≤ 10 ^ 8 := Nat.pow_le_pow_right (by omega) (by omega)
  (refine e_ask v_lss Imp.nil (fun h => ?_) (fun h => ?_))
  · have hil : i < w.length := by omega
    have hil2 : i < (fix0 w).length := by rw [fix0_len]; exact hil
    refine e_condT ?_
    refine e_opN (v_ia1 i (by rfl) (by omega)) Imp.nil ?_
    refine e_opN (v_ldRd (j := i) rd_row (B_get hil)) (.pick (by (repeat constructor)) .nil) ?_
    have hfg := fix0_get w i hil
    refine e_cut1 (fun z => pu (z = Sl.B ((fix0 w)[i])) :: pt g (.cells (w.map Sl.B ++ rest).toArray 5 fz) :: IsRd p r :: F) ?_ ?_
    rotate_left
    · unfold Sl.B
      refine e_ask v_eql Imp.nil (fun h5 => ?_) (fun h5 => ?_)
      · have hc : w[i] = 32 := by
          apply UInt8.toNat_inj.1
          exact Int.ofNat.inj h5
        ((with_reducible refine e_gdT ?_)); ((with_reducible refine e_gdT ?_))
        refine e_ask v_eql Imp.nil (fun h6 => ?_) (fun h6 => ?_)
        · (((with_reducible refine e_opN v_pickT Imp.nil ?_))); ((with_reducible refine e_condT ?_))
          refine e_sat (.pu ?_ ?_)
          · rw [hfg, if_pos ⟨hc, by omega⟩]; rfl
          · (repeat (first | exact Imp.refl | exact Imp.nil | (apply Imp.pick; (focus ((repeat constructor); done))) | refine Imp.drop ?_))
        · (((with_reducible refine e_opN v_pickT Imp.nil ?_))); ((with_reducible refine e_condF ?_))
          refine e_sat (.pu ?_ ?_)
          · rw [hfg, if_neg (fun c => h6 (by omega))]
          · (repeat (first | exact Imp.refl | exact Imp.nil | (apply Imp.pick; (focus ((repeat constructor); done))) | refine Imp.drop ?_))
      · have hc : ¬ w[i] = 32 := fun c => h5 (by rw [c]; rfl)
        ((with_reducible refine e_gdF2 ?_)); ((with_reducible refine e_gdF2 ?_)); (((with_reducible refine e_opN v_pickF Imp.nil ?_))); ((with_reducible refine e_condF ?_))
        refine e_sat (.pu ?_ ?_)
        · rw [hfg, if_neg (fun c => hc c.1)]
        · (repeat (first | exact Imp.refl | exact Imp.nil | (apply Imp.pick; (focus ((repeat constructor); done))) | refine Imp.drop ?_))
    intro ds2 z
    (try simp only [List.cons_append, List.nil_append, -eq_self])
    refine e_pu .here fun h => ?_
    subst h
    rw [List.drop_eq_getElem_cons hil2] at hnum
    generalize (fix0 w)[i] = ch at hnum ⊢
    have hch := ch.toNat_lt
    unfold numF at hnum
    unfold Sl.B
    refine e_cut0 (pu (48 ≤ ch.toNat ∧ ch.toNat ≤ 57) :: pt g (.cells (w.map (fun c => Value.int .u8 (c.toNat : Int)) ++ rest).toArray 5 fz) :: IsRd p r :: F) ?_ ?_
    rotate_left
    · refine e_ask v_lss Imp.nil (fun h5 => ?_) (fun h5 => ?_)
      · ((with_reducible refine e_gdF1 ?_)); ((with_reducible refine e_gdF1 ?_)); (((with_reducible refine e_opN v_pickT Imp.nil ?_))); ((with_reducible refine e_condT ?_))
        refine e_opN v_mkI Imp.nil ?_
        refine e_panic ?_
        refine e_pan ⟨(), ?_⟩ rfl ?_
        · rw [if_pos (.inl (by omega))] at hnum
          unfold numR; rw [hx]; simp only; rw [← hnum]
        · (repeat (first | exact Imp.refl | exact Imp.nil | (apply Imp.pick; (focus ((repeat constructor); done))) | refine Imp.drop ?_))
      · ((with_reducible refine e_gdT ?_)); ((with_reducible refine e_gdT ?_))
        refine e_ask v_gtr Imp.nil (fun h6 => ?_) (fun h6 => ?_)
        · (((with_reducible refine e_opN v_pickF Imp.nil ?_))); ((with_reducible refine e_condT ?_))
          refine e_opN v_mkI Imp.nil ?_
          refine e_panic ?_
          refine e_pan ⟨(), ?_⟩ rfl ?_
          · rw [if_pos (.inr (by omega))] at hnum
            unfold numR; rw [hx]; simp only; rw [← hnum]
          · (repeat (first | exact Imp.refl | exact Imp.nil | (apply Imp.pick; (focus ((repeat constructor); done))) | refine Imp.drop ?_))
        · (((with_reducible refine e_opN v_pickF Imp.nil ?_))); ((with_reducible refine e_condF ?_))
          refine e_sat (.pu (by omega) ?_)
          (repeat (first | exact Imp.refl | exact Imp.nil | (apply Imp.pick; (focus ((repeat constructor); done))) | refine Imp.drop ?_))
    intro ds3
    (try simp only [List.cons_append, List.nil_append, -eq_self])
    refine e_pu .here fun hr => ?_
    rw [if_neg (by omega)] at hnum
    have hacc2 : acc < 100000000 := by omega
    (((with_reducible refine e_opN (v_mul ?h1 ?h2) Imp.nil ?_); (case h1 => omega); (case h2 => omega)))
    refine e_opN v_subw Imp.nil ?_
    rw [show (ch.toNat : Int) - 48 = ((ch.toNat - 48 : Nat) : Int) by omega, show IntKind.u8.wrap ((ch.toNat - 48 : Nat) : Int) = ((ch.toNat - 48 : Nat) : Int) by simp only [IntKind.wrap, IntKind.bits, IntKind.signed]; simp; omega]
    refine e_opN v_conv Imp.nil ?_
    rw [w64 (by omega) (by omega)]
    (((with_reducible refine e_opN (v_add ?h1 ?h2) Imp.nil ?_); (case h1 => omega); (case h2 => omega))); (((with_reducible refine e_opN (v_add ?h1 ?h2) Imp.nil ?_); (case h1 => omega); (case h2 => omega)))
    refine e_next2 (m - 1) (by omega) (.ex (10 * acc + (ch.toNat - 48), i + 1) (.pu ⟨by omega, ?_, ?_, ?_, ?_⟩ ?_))
    · congr 1
    · congr 1
    · simp only [Nat.pow_succ]; omega
    · exact hnum
    · (repeat (first | exact Imp.refl | exact Imp.nil | (apply Imp.pick; (focus ((repeat constructor); done))) | refine Imp.drop ?_))
  · refine e_condF ?_
    have hik : i = k := by omega
    have hv : numV w = some acc := by
      rw [← hnum, List.drop_of_length_le (by rw [fix0_len]; omega)]; rfl
    (first | refine e_ret (⟨(acc, r), by unfold numR; rw [hx]; simp only; rw [hv]⟩) rfl ?_ | refine e_retT (⟨(acc, r), by unfold numR; rw [hx]; simp only; rw [hv]⟩) ?_)
    (repeat (first | exact Imp.refl | exact Imp.nil | (apply Imp.pick; (focus ((repeat constructor); done))) | refine Imp.drop ?_))
def mF (w : List UInt8) (i : Nat) : Nat → Option Int
  | 0 => none
  | m + 1 => if moL.getD i [] = w then some ((i : Int) + 1) else mF w (i + 1) m
def monV (w : List UInt8) : Option Int := mF w 0 12
def monR (l : List UInt8) : Option (Int × List UInt8) := match tkR 3 l with
  | none => none
  | some x => match monV x.1 with
    | none => none
    | some v => some (v, x.2)
theorem month {W : World} {p : Nat} {l : List UInt8} : CnP Tryz.prog 55 [.pointer (some ⟨p, 0, none⟩)] W [IsRd p l]
    (fun x : Sm (monR l) => .int .i64 x.1.1) (fun x => [IsRd p x.1.2]) (fun _ : Nn (monR l) => pnD) (fun _ => []) := by
  (refine S.dates_reader_month_cnP fun F => ?_; unfold S.dates_reader_month; simp only [List.cons_append, List.nil_append, -eq_self])
  (refine' e_callP (take (k := 3)) ?hp (fun _ => ?_) (fun _ => ?_); (case hp => (repeat (first | exact Picks.nil | (apply Picks.cons; (focus (repeat constructor)))))); (all_goals (try simp only [List.cons_append, List.nil_append, Bool.not_true, Bool.not_false, -eq_self])))
  rotate_left
  · rename_i y
    refine e_pan ⟨(), by unfold monR; rw [y.2]⟩ rfl ?_
    (repeat (first | exact Imp.refl | exact Imp.nil | (apply Imp.pick; (focus ((repeat constructor); done))) | refine Imp.drop ?_))
  rename_i x
  obtain ⟨⟨w, r⟩, hx⟩ := x
  (try dsimp only)
  (refine' e_call (months) ?hp fun _ => ?_; (case hp => (repeat (first | exact Picks.nil | (apply Picks.cons; (focus (repeat constructor)))))); (try simp only [List.cons_append, List.nil_append, Bool.not_true, Bool.not_false]))
  refine e_loop2 (fun m y2 y9 => (ex fun i : Nat => pu (m + i = 12 ∧ y2 = .int .i64 0 ∧ y9 = .int .i64 (i : Int) ∧ mF w i m = monV w)) :: IsRd p r :: F) 12 ?_ ?_
  · refine .ex 0 (.pu ⟨by omega, rfl, rfl, rfl⟩ ?_)
    (repeat (first | exact Imp.refl | exact Imp.nil | (apply Imp.pick; (focus ((repeat constructor); done))) | refine Imp.drop ?_))
  intro m ds y2 y9
  (try simp only [List.cons_append, List.nil_append, -eq_self])
  refine e_ex Pick.here fun i => e_pu Pick.here fun hi => ?_
  obtain ⟨hmi, rfl, rfl, hmon⟩ := hi
  (refine e_ask v_lss Imp.nil (fun h => ?_) (fun h => ?_))
  · refine e_condT ?_
    obtain ⟨m', rfl⟩ : ∃ m', m = m' + 1 := ⟨m - 1, by omega⟩
    refine e_opN (v_ixA (v := txt (moL.getD i [])) i (by rfl) (by omega) (name_get (l := moL) (by show _ < 12; omega))) Imp.nil ?_
    unfold mF at hmon
    refine e_ask v_streq Imp.nil (fun hq => ?_) (fun hq => ?_)
    · rw [if_pos hq] at hmon
      ((with_reducible refine e_condT ?_)); (((with_reducible refine e_opN (v_add ?h1 ?h2) Imp.nil ?_); (case h1 => omega); (case h2 => omega)))
      (first | refine e_ret (⟨((i : Int) + 1, r), by unfold monR; rw [hx]; simp only; rw [← hmon]⟩) rfl ?_ | refine e_retT (⟨((i : Int) + 1, r), by unfold monR; rw [hx]; simp only; rw [← hmon]⟩) ?_)
      (repeat (first | exact Imp.refl | exact Imp.nil | (apply Imp.pick; (focus ((repeat constructor); done))) | refine Imp.drop ?_))
    · rw [if_neg hq] at hmon
      ((with_reducible refine e_condF ?_)); (((with_reducible refine e_opN (v_add ?h1 ?h2) Imp.nil ?_); (case h1 => omega); (case h2 => omega)))
      refine e_next2 m' (by omega) (.ex (i + 1) (.pu ⟨by omega, rfl, rfl, hmon⟩ ?_))
      (repeat (first | exact Imp.refl | exact Imp.nil | (apply Imp.pick; (focus ((repeat constructor); done))) | refine Imp.drop ?_))
  · refine e_condF ?_
    have hm0 : m = 0 := by omega
    subst hm0
    refine e_opN v_mkI Imp.nil ?_
    refine e_panic ?_
    refine e_pan ⟨(), ?_⟩ rfl ?_
    · unfold monR; rw [hx]; simp only; rw [← hmon]; rfl
    · (repeat (first | exact Imp.refl | exact Imp.nil | (apply Imp.pick; (focus ((repeat constructor); done))) | refine Imp.drop ?_))
end Go.Proofs.YtcmpkkkigmheoaaGreatDoor.D
/-! What reads a date. No conditions but those that each names. -/
namespace Go.Proofs.YtcmpkkkigmheoaaGreatDoor.D
open Go Go.Proofs Go.RowKit Go.Proofs.YtcmpkkkigmheoaaGreatDoor.Sh Go.Proofs.YtcmpkkkigmheoaaGreatDoor.Sl Go.Proofs.YtcmpkkkigmheoaaGreatDoor.T
theorem firstIdx_eq {l : List UInt8} {c : UInt8} (h : c ∈ l) : firstIdx ⟨l.toArray⟩ c = ((l.findIdx (· == c) : Nat) : Int) := by
  have hlt : l.findIdx (· == c) < l.length := List.findIdx_lt_length_of_exists ⟨c, h, by simp⟩
  have hf : (List.range (⟨l.toArray⟩ : ByteArray).size).find? (fun i => (⟨l.toArray⟩ : ByteArray)[i]! == c) = some (l.findIdx (· == c)) := by
    have e : ∀ i, i < l.length → ((⟨l.toArray⟩ : ByteArray)[i]! == c) = (l.getD i 0 == c) := fun i hi => by
      have h2 : i < (⟨l.toArray⟩ : ByteArray).size := hi
      rw [getElem!_pos _ i h2]
      simp [ByteArray.getElem_eq_getElem_data, List.getD_eq_getElem?_getD, hi]
    rw [List.find?_eq_some_iff_getElem]
    refine ⟨?_, l.findIdx (· == c), by simpa [ByteArray.size] using hlt, by simp, fun j hj => ?_⟩
    · rw [e _ hlt]
      have := List.findIdx_getElem (w := hlt)
      simpa [List.getD_eq_getElem?_getD, hlt] using this
    · have hjl : j < l.length := by omega
      simp only [List.getElem_range]
      rw [e _ hjl]
      have := List.not_of_lt_findIdx hj
      simpa [List.getD_eq_getElem?_getD, hjl] using this
  unfold firstIdx
  rw [hf]
theorem indexByte {W : World} {l : List UInt8} {c : UInt8} (h : c ∈ l) : Cn Tryz.prog 57 [txt l, Sl.B c] W [] (fun _ : Unit => .int .i64 ((l.findIdx (· == c) : Nat) : Int)) (fun _ => []) := by
  have ext : RunV Tryz.prog W [] (sCall (fn 99) [txt l, Sl.B c]) (.int .i64 ((l.findIdx (· == c) : Nat) : Int)) := fun w _ => by
    have hr : (callFunc 99 #[txt l, Sl.B c]).run Tryz.prog w = .ok (.value (.int .i64 ((l.findIdx (· == c) : Nat) : Int))) w := by
      rw [run_callFunc_extern Tryz.func99 (by kernel_rfl) (by kernel_rfl) (by kernel_rfl) (e := Extern.BytealgIndexByte.indexByte) (by kernel_rfl)]
      have := run_indexByte_string (P := Tryz.prog) ⟨l.toArray⟩ (c.toNat : Int) w
      unfold txt Sl.B
      rw [this]
      have hc : ((c.toNat : Int).toNat).toUInt8 = c := by simp
      simp only [Result.andThen_ok]
      rw [show (↑c.toNat : Int).toNat.toUInt8 = c from hc, firstIdx_eq h]
    simp [sCall, Deferred.ofValue, invoke, fn, hr]
  have inner : Cn Tryz.prog 75 [txt l, Sl.B c] W [] (fun _ : Unit => .int .i64 ((l.findIdx (· == c) : Nat) : Int)) (fun _ => []) := by
    (refine S.stringslite_IndexByte_cn fun F => ?_; unfold S.stringslite_IndexByte; simp only [List.cons_append, List.nil_append])
    refine e_opN ext Imp.nil ?_
    (first | refine e_ret (()) rfl ?_ | refine e_retT (()) ?_)
    (repeat (first | exact Imp.refl | exact Imp.nil | (apply Imp.pick; (focus ((repeat constructor); done))) | refine Imp.drop ?_))
  (refine S.strings_IndexByte_cn fun F => ?_; unfold S.strings_IndexByte; simp only [List.cons_append, List.nil_append])
  (refine' e_call (inner) ?hp fun _ => ?_; (case hp => (repeat (first | exact Picks.nil | (apply Picks.cons; (focus (repeat constructor)))))); (try simp only [List.cons_append, List.nil_append, Bool.not_true, Bool.not_false]))
  (first | refine e_ret (()) rfl ?_ | refine e_retT (()) ?_)
  (repeat (first | exact Imp.refl | exact Imp.nil | (apply Imp.pick; (focus ((repeat constructor); done))) | refine Imp.drop ?_))
end Go.Proofs.YtcmpkkkigmheoaaGreatDoor.D
/-! What reads the three forms. No conditions but those that each names. -/
namespace Go.Proofs.YtcmpkkkigmheoaaGreatDoor.D
open Go Go.Proofs Go.RowKit Go.Proofs.YtcmpkkkigmheoaaGreatDoor.Sh Go.Proofs.YtcmpkkkigmheoaaGreatDoor.Sl Go.Proofs.YtcmpkkkigmheoaaGreatDoor.T
theorem numF_lt : ∀ (w : List UInt8) (acc v : Nat), numF acc w = some v → v < (acc + 1) * 10 ^ w.length
  | [], acc, v, h => by
    have := Option.some.inj h
    simp; omega
  | c :: r, acc, v, h => by
    unfold numF at h
    split at h
    · cases h
    · have hc := numF_lt r _ v h
      have h9 : (10 * acc + (c.toNat - 48) + 1) ≤ (acc + 1) * 10 := by omega
      have := Nat.mul_le_mul_right (10 ^ r.length) h9
      rw [List.length_cons, Nat.pow_succ, Nat.mul_comm (10 ^ r.length) 10, ← Nat.mul_assoc]
      omega
theorem num_lt {k : Nat} {l : List UInt8} {x : Nat × List UInt8} (h : numR k l = some x) : x.1 < 10 ^ k := by
  unfold numR at h
  cases ht : tkR k l with
  | none => rw [ht] at h; cases h
  | some y =>
    rw [ht] at h
    simp only at h
    cases hv : numV y.1 with
    | none => rw [hv] at h; cases h
    | some v =>
      rw [hv] at h
      have := Option.some.inj h
      subst this
      have := numF_lt _ _ _ hv
      rw [fix0_len, tk_len ht] at this
      simpa using this
theorem mF_b (w : List UInt8) : ∀ (m i : Nat) (v : Int), mF w i m = some v → (i : Int) + 1 ≤ v ∧ v ≤ i + m
  | 0, i, v, h => by cases h
  | m + 1, i, v, h => by
    unfold mF at h
    split at h
    · have := Option.some.inj h; omega
    · have := mF_b w m (i + 1) v h; omega
theorem mon_b {l : List UInt8} {x : Int × List UInt8} (h : monR l = some x) : 1 ≤ x.1 ∧ x.1 ≤ 12 := by
  unfold monR at h
  cases ht : tkR 3 l with
  | none => rw [ht] at h; cases h
  | some y =>
    rw [ht] at h
    simp only at h
    cases hv : monV y.1 with
    | none => rw [hv] at h; cases h
    | some v =>
      rw [hv] at h
      have := Option.some.inj h
      subst this
      have := mF_b _ _ _ _ hv
      simp only; omega
abbrev Tm := Nat × Nat × Nat
def clkR (l : List UInt8) : Option (Tm × List UInt8) :=
  (numR 2 l).bind fun a => (tkR 1 a.2).bind fun b => (numR 2 b.2).bind fun c => (tkR 1 c.2).bind fun d => (numR 2 d.2).bind fun e => some ((a.1, c.1, e.1), e.2)
theorem rclock {W : World} {p q : Nat} {l : List UInt8} {y m d h mi s w : Value} : CnP Tryz.prog 56 [.pointer (some ⟨p, 0, none⟩), .pointer (some ⟨q, 0, none⟩)] W [IsRd p l, pt q (.cells #[y, m, d, h, mi, s, w] 106)]
    (fun x : Sm (clkR l) => .tuple #[]) (fun x => [IsRd p x.1.2, pt q (.cells #[y, m, d, .int .i64 (x.1.1.1 : Int), .int .i64 (x.1.1.2.1 : Int), .int .i64 (x.1.1.2.2 : Int), w] 106)]) (fun _ : Nn (clkR l) => pnD) (fun _ => []) := by
  (refine S.dates_reader_clock_cnP fun F => ?_; unfold S.dates_reader_clock; simp only [List.cons_append, List.nil_append, -eq_self])
  (refine' e_callP (number (k := 2) (by omega)) ?hp (fun _ => ?_) (fun _ => ?_); (case hp => (repeat (first | exact Picks.nil | (apply Picks.cons; (focus (repeat constructor)))))); (all_goals (try simp only [List.cons_append, List.nil_append, Bool.not_true, Bool.not_false, -eq_self])))
  rotate_left
  · rename_i y
    refine e_pan ⟨(), by simp [clkR, y.2]⟩ rfl ?_
    (repeat (first | exact Imp.refl | exact Imp.nil | (apply Imp.pick; (focus ((repeat constructor); done))) | refine Imp.drop ?_))
  rename_i x1
  obtain ⟨x1, h1⟩ := x1
  (((with_reducible refine e_opN v_nil Imp.nil ?_))); (((with_reducible refine e_opN v_fa0 Imp.nil ?_))); (((with_reducible refine' e_stN ?hp ?ho ?_); (case hp => (repeat constructor)); (case ho => (repeat (first | exact Put.here | apply Put.there)))))
  (refine' e_callP (take (k := 1)) ?hp (fun _ => ?_) (fun _ => ?_); (case hp => (repeat (first | exact Picks.nil | (apply Picks.cons; (focus (repeat constructor)))))); (all_goals (try simp only [List.cons_append, List.nil_append, Bool.not_true, Bool.not_false, -eq_self])))
  rotate_left
  · rename_i y
    refine e_pan ⟨(), by simp [clkR, h1, y.2]⟩ rfl ?_
    (repeat (first | exact Imp.refl | exact Imp.nil | (apply Imp.pick; (focus ((repeat constructor); done))) | refine Imp.drop ?_))
  rename_i x2
  obtain ⟨x2, h2⟩ := x2
  (refine' e_callP (number (k := 2) (by omega)) ?hp (fun _ => ?_) (fun _ => ?_); (case hp => (repeat (first | exact Picks.nil | (apply Picks.cons; (focus (repeat constructor)))))); (all_goals (try simp only [List.cons_append, List.nil_append, Bool.not_true, Bool.not_false, -eq_self])))
  rotate_left
  · rename_i y
    refine e_pan ⟨(), by simp [clkR, h1, h2, y.2]⟩ rfl ?_
    (repeat (first | exact Imp.refl | exact Imp.nil | (apply Imp.pick; (focus ((repeat constructor); done))) | refine Imp.drop ?_))
  rename_i x3
  obtain ⟨x3, h3⟩ := x3
  (((with_reducible refine e_opN v_nil Imp.nil ?_))); (((with_reducible refine e_opN v_fa0 Imp.nil ?_))); (((with_reducible refine' e_stN ?hp ?ho ?_); (case hp => (repeat constructor)); (case ho => (repeat (first | exact Put.here | apply Put.there)))))
  (refine' e_callP (take (k := 1)) ?hp (fun _ => ?_) (fun _ => ?_); (case hp => (repeat (first | exact Picks.nil | (apply Picks.cons; (focus (repeat constructor)))))); (all_goals (try simp only [List.cons_append, List.nil_append, Bool.not_true, Bool.not_false, -eq_self])))
  rotate_left
  · rename_i y
    refine e_pan ⟨(), by simp [clkR, h1, h2, h3, y.2]⟩ rfl ?_
    (repeat (first | exact Imp.refl | exact Imp.nil | (apply Imp.pick; (focus ((repeat constructor); done))) | refine Imp.drop ?_))
  rename_i x4
  obtain ⟨x4, h4⟩ := x4
  (refine' e_callP (number (k := 2) (by omega)) ?hp (fun _ => ?_) (fun _ => ?_); (case hp => (repeat (first | exact Picks.nil | (apply Picks.cons; (focus (repeat constructor)))))); (all_goals (try simp only [List.cons_append, List.nil_append, Bool.not_true, Bool.not_false, -eq_self])))
  rotate_left
  · rename_i y
    refine e_pan ⟨(), by simp [clkR, h1, h2, h3, h4, y.2]⟩ rfl ?_
    (repeat (first | exact Imp.refl | exact Imp.nil | (apply Imp.pick; (focus ((repeat constructor); done))) | refine Imp.drop ?_))
  rename_i x5
  obtain ⟨x5, h5⟩ := x5
  (((with_reducible refine e_opN v_nil Imp.nil ?_))); (((with_reducible refine e_opN v_fa0 Imp.nil ?_))); (((with_reducible refine' e_stN ?hp ?ho ?_); (case hp => (repeat constructor)); (case ho => (repeat (first | exact Put.here | apply Put.there)))))
  (first | refine e_ret (⟨((x1.1, x3.1, x5.1), x5.2), by simp [clkR, h1, h2, h3, h4, h5]⟩) rfl ?_ | refine e_retT (⟨((x1.1, x3.1, x5.1), x5.2), by simp [clkR, h1, h2, h3, h4, h5]⟩) ?_)
  (repeat (first | exact Imp.refl | exact Imp.nil | (apply Imp.pick; (focus ((repeat constructor); done))) | refine Imp.drop ?_))
end Go.Proofs.YtcmpkkkigmheoaaGreatDoor.D
/-! What reads the first form, the third. No conditions but those that each names. -/
namespace Go.Proofs.YtcmpkkkigmheoaaGreatDoor.D
open Go Go.Proofs Go.RowKit Go.Proofs.YtcmpkkkigmheoaaGreatDoor.Sh Go.Proofs.YtcmpkkkigmheoaaGreatDoor.Sl Go.Proofs.YtcmpkkkigmheoaaGreatDoor.T
def firstR (l : List UInt8) : Option Dt := (tkR 5 l).bind fun a => (numR 2 a.2).bind fun b => (tkR 1 b.2).bind fun c => (monR c.2).bind fun d => (tkR 1 d.2).bind fun e => (numR 4 e.2).bind fun f => (tkR 1 f.2).bind fun g => (clkR g.2).bind fun h => some ⟨(f.1 : Int), d.1, (b.1 : Int), (h.1.1 : Int), (h.1.2.1 : Int), (h.1.2.2 : Int), 0⟩
theorem first {W : World} {p : Nat} {l : List UInt8} {now : Int} : CnP Tryz.prog 35 [.pointer (some ⟨p, 0, none⟩), .int .i64 now] W [IsRd p l]
    (fun x : Sm (firstR l) => .agg (dtA x.1)) (fun _ => []) (fun _ : Nn (firstR l) => pnD) (fun _ => []) := by
  (refine S.dates_reader_first_cnP fun F => ?_; unfold S.dates_reader_first; simp only [List.cons_append, List.nil_append, -eq_self])
  (((with_reducible refine e_newA fun g => ?_)))
  (refine' e_callP (take (k := 5)) ?hp (fun _ => ?_) (fun _ => ?_); (case hp => (repeat (first | exact Picks.nil | (apply Picks.cons; (focus (repeat constructor)))))); (all_goals (try simp only [List.cons_append, List.nil_append, Bool.not_true, Bool.not_false, -eq_self])))
  rotate_left
  · rename_i y
    refine e_pan ⟨(), by simp [firstR, y.2]⟩ rfl ?_
    (repeat (first | exact Imp.refl | exact Imp.nil | (apply Imp.pick; (focus ((repeat constructor); done))) | refine Imp.drop ?_))
  rename_i x1
  obtain ⟨x1, h1⟩ := x1
  (refine' e_callP (number (k := 2) (by omega)) ?hp (fun _ => ?_) (fun _ => ?_); (case hp => (repeat (first | exact Picks.nil | (apply Picks.cons; (focus (repeat constructor)))))); (all_goals (try simp only [List.cons_append, List.nil_append, Bool.not_true, Bool.not_false, -eq_self])))
  rotate_left
  · rename_i y
    refine e_pan ⟨(), by simp [firstR, h1, y.2]⟩ rfl ?_
    (repeat (first | exact Imp.refl | exact Imp.nil | (apply Imp.pick; (focus ((repeat constructor); done))) | refine Imp.drop ?_))
  rename_i x2
  obtain ⟨x2, h2⟩ := x2
  (((with_reducible refine e_opN v_fa0 Imp.nil ?_))); (((with_reducible refine' e_stN ?hp ?ho ?_); (case hp => (repeat constructor)); (case ho => (repeat (first | exact Put.here | apply Put.there)))))
  (refine' e_callP (take (k := 1)) ?hp (fun _ => ?_) (fun _ => ?_); (case hp => (repeat (first | exact Picks.nil | (apply Picks.cons; (focus (repeat constructor)))))); (all_goals (try simp only [List.cons_append, List.nil_append, Bool.not_true, Bool.not_false, -eq_self])))
  rotate_left
  · rename_i y
    refine e_pan ⟨(), by simp [firstR, h1, h2, y.2]⟩ rfl ?_
    (repeat (first | exact Imp.refl | exact Imp.nil | (apply Imp.pick; (focus ((repeat constructor); done))) | refine Imp.drop ?_))
  rename_i x3
  obtain ⟨x3, h3⟩ := x3
  (refine' e_callP (month) ?hp (fun _ => ?_) (fun _ => ?_); (case hp => (repeat (first | exact Picks.nil | (apply Picks.cons; (focus (repeat constructor)))))); (all_goals (try simp only [List.cons_append, List.nil_append, Bool.not_true, Bool.not_false, -eq_self])))
  rotate_left
  · rename_i y
    refine e_pan ⟨(), by simp [firstR, h1, h2, h3, y.2]⟩ rfl ?_
    (repeat (first | exact Imp.refl | exact Imp.nil | (apply Imp.pick; (focus ((repeat constructor); done))) | refine Imp.drop ?_))
  rename_i x4
  obtain ⟨x4, h4⟩ := x4
  (((with_reducible refine e_opN v_fa0 Imp.nil ?_))); (((with_reducible refine' e_stN ?hp ?ho ?_); (case hp => (repeat constructor)); (case ho => (repeat (first | exact Put.here | apply Put.there)))))
  (refine' e_callP (take (k := 1)) ?hp (fun _ => ?_) (fun _ => ?_); (case hp => (repeat (first | exact Picks.nil | (apply Picks.cons; (focus (repeat constructor)))))); (all_goals (try simp only [List.cons_append, List.nil_append, Bool.not_true, Bool.not_false, -eq_self])))
  rotate_left
  · rename_i y
    refine e_pan ⟨(), by simp [firstR, h1, h2, h3, h4, y.2]⟩ rfl ?_
    (repeat (first | exact Imp.refl | exact Imp.nil | (apply Imp.pick; (focus ((repeat constructor); done))) | refine Imp.drop ?_))
  rename_i x5
  obtain ⟨x5, h5⟩ := x5
  (refine' e_callP (number (k := 4) (by omega)) ?hp (fun _ => ?_) (fun _ => ?_); (case hp => (repeat (first | exact Picks.nil | (apply Picks.cons; (focus (repeat constructor)))))); (all_goals (try simp only [List.cons_append, List.nil_append, Bool.not_true, Bool.not_false, -eq_self])))
  rotate_left
  · rename_i y
    refine e_pan ⟨(), by simp [firstR, h1, h2, h3, h4, h5, y.2]⟩ rfl ?_
    (repeat (first | exact Imp.refl | exact Imp.nil | (apply Imp.pick; (focus ((repeat constructor); done))) | refine Imp.drop ?_))
  rename_i x6
  obtain ⟨x6, h6⟩ := x6
  (((with_reducible refine e_opN v_fa0 Imp.nil ?_))); (((with_reducible refine' e_stN ?hp ?ho ?_); (case hp => (repeat constructor)); (case ho => (repeat (first | exact Put.here | apply Put.there)))))
  (refine' e_callP (take (k := 1)) ?hp (fun _ => ?_) (fun _ => ?_); (case hp => (repeat (first | exact Picks.nil | (apply Picks.cons; (focus (repeat constructor)))))); (all_goals (try simp only [List.cons_append, List.nil_append, Bool.not_true, Bool.not_false, -eq_self])))
  rotate_left
  · rename_i y
    refine e_pan ⟨(), by simp [firstR, h1, h2, h3, h4, h5, h6, y.2]⟩ rfl ?_
    (repeat (first | exact Imp.refl | exact Imp.nil | (apply Imp.pick; (focus ((repeat constructor); done))) | refine Imp.drop ?_))
  rename_i x7
  obtain ⟨x7, h7⟩ := x7
  (refine' e_callP (rclock) ?hp (fun _ => ?_) (fun _ => ?_); (case hp => (repeat (first | exact Picks.nil | (apply Picks.cons; (focus (repeat constructor)))))); (all_goals (try simp only [List.cons_append, List.nil_append, Bool.not_true, Bool.not_false, -eq_self])))
  rotate_left
  · rename_i y
    refine e_pan ⟨(), by simp [firstR, h1, h2, h3, h4, h5, h6, h7, y.2]⟩ rfl ?_
    (repeat (first | exact Imp.refl | exact Imp.nil | (apply Imp.pick; (focus ((repeat constructor); done))) | refine Imp.drop ?_))
  rename_i x8
  obtain ⟨x8, h8⟩ := x8
  (((with_reducible refine' e_opN (v_ldAgg ?hn) ?hi ?_); (case hi => (repeat (first | exact Imp.refl | exact Imp.nil | (apply Imp.pick; (focus ((repeat constructor); done))) | refine Imp.drop ?_))); (case hn => rfl))); (((with_reducible refine' e_stAgg ?hp ?hn ?hv ?h1 ?_); (case hp => (repeat constructor)); (case hn => rfl); (case hv => rfl); (case h1 => simp [Value.oneCell']))); (((with_reducible refine' e_stS (v_resA ?hn) ?hi ?_); (case hi => (repeat (first | exact Imp.refl | exact Imp.nil | (apply Imp.pick; (focus ((repeat constructor); done))) | refine Imp.drop ?_))); (case hn => rfl)))
  (first | refine e_ret (⟨⟨(x6.1 : Int), x4.1, (x2.1 : Int), (x8.1.1 : Int), (x8.1.2.1 : Int), (x8.1.2.2 : Int), 0⟩, by simp [firstR, h1, h2, h3, h4, h5, h6, h7, h8]⟩) rfl ?_ | refine e_retT (⟨⟨(x6.1 : Int), x4.1, (x2.1 : Int), (x8.1.1 : Int), (x8.1.2.1 : Int), (x8.1.2.2 : Int), 0⟩, by simp [firstR, h1, h2, h3, h4, h5, h6, h7, h8]⟩) ?_)
  (repeat (first | exact Imp.refl | exact Imp.nil | (apply Imp.pick; (focus ((repeat constructor); done))) | refine Imp.drop ?_))
def thirdR (l : List UInt8) : Option Dt := (tkR 4 l).bind fun a => (monR a.2).bind fun b => (tkR 1 b.2).bind fun c => (numR 2 c.2).bind fun d => (tkR 1 d.2).bind fun e => (clkR e.2).bind fun f => (tkR 1 f.2).bind fun g => (numR 4 g.2).bind fun h => some ⟨(h.1 : Int), b.1, (d.1 : Int), (f.1.1 : Int), (f.1.2.1 : Int), (f.1.2.2 : Int), 0⟩
theorem third {W : World} {p : Nat} {l : List UInt8} {now : Int} : CnP Tryz.prog 37 [.pointer (some ⟨p, 0, none⟩), .int .i64 now] W [IsRd p l]
    (fun x : Sm (thirdR l) => .agg (dtA x.1)) (fun _ => []) (fun _ : Nn (thirdR l) => pnD) (fun _ => []) := by
  (refine S.dates_reader_third_cnP fun F => ?_; unfold S.dates_reader_third; simp only [List.cons_append, List.nil_append, -eq_self])
  (((with_reducible refine e_newA fun g => ?_)))
  (refine' e_callP (take (k := 4)) ?hp (fun _ => ?_) (fun _ => ?_); (case hp => (repeat (first | exact Picks.nil | (apply Picks.cons; (focus (repeat constructor)))))); (all_goals (try simp only [List.cons_append, List.nil_append, Bool.not_true, Bool.not_false, -eq_self])))
  rotate_left
  · rename_i y
    refine e_pan ⟨(), by simp [thirdR, y.2]⟩ rfl ?_
    (repeat (first | exact Imp.refl | exact Imp.nil | (apply Imp.pick; (focus ((repeat constructor); done))) | refine Imp.drop ?_))
  rename_i x1
  obtain ⟨x1, h1⟩ := x1
  (refine' e_callP (month) ?hp (fun _ => ?_) (fun _ => ?_); (case hp => (repeat (first | exact Picks.nil | (apply Picks.cons; (focus (repeat constructor)))))); (all_goals (try simp only [List.cons_append, List.nil_append, Bool.not_true, Bool.not_false, -eq_self])))
  rotate_left
  · rename_i y
    refine e_pan ⟨(), by simp [thirdR, h1, y.2]⟩ rfl ?_
    (repeat (first | exact Imp.refl | exact Imp.nil | (apply Imp.pick; (focus ((repeat constructor); done))) | refine Imp.drop ?_))
  rename_i x2
  obtain ⟨x2, h2⟩ := x2
  (((with_reducible refine e_opN v_fa0 Imp.nil ?_))); (((with_reducible refine' e_stN ?hp ?ho ?_); (case hp => (repeat constructor)); (case ho => (repeat (first | exact Put.here | apply Put.there)))))
  (refine' e_callP (take (k := 1)) ?hp (fun _ => ?_) (fun _ => ?_); (case hp => (repeat (first | exact Picks.nil | (apply Picks.cons; (focus (repeat constructor)))))); (all_goals (try simp only [List.cons_append, List.nil_append, Bool.not_true, Bool.not_false, -eq_self])))
  rotate_left
  · rename_i y
    refine e_pan ⟨(), by simp [thirdR, h1, h2, y.2]⟩ rfl ?_
    (repeat (first | exact Imp.refl | exact Imp.nil | (apply Imp.pick; (focus ((repeat constructor); done))) | refine Imp.drop ?_))
  rename_i x3
  obtain ⟨x3, h3⟩ := x3
  (refine' e_callP (number (k := 2) (by omega)) ?hp (fun _ => ?_) (fun _ => ?_); (case hp => (repeat (first | exact Picks.nil | (apply Picks.cons; (focus (repeat constructor)))))); (all_goals (try simp only [List.cons_append, List.nil_append, Bool.not_true, Bool.not_false, -eq_self])))
  rotate_left
  · rename_i y
    refine e_pan ⟨(), by simp [thirdR, h1, h2, h3, y.2]⟩ rfl ?_
    (repeat (first | exact Imp.refl | exact Imp.nil | (apply Imp.pick; (focus ((repeat constructor); done))) | refine Imp.drop ?_))
  rename_i x4
  obtain ⟨x4, h4⟩ := x4
  (((with_reducible refine e_opN v_fa0 Imp.nil ?_))); (((with_reducible refine' e_stN ?hp ?ho ?_); (case hp => (repeat constructor)); (case ho => (repeat (first | exact Put.here | apply Put.there)))))
  (refine' e_callP (take (k := 1)) ?hp (fun _ => ?_) (fun _ => ?_); (case hp => (repeat (first | exact Picks.nil | (apply Picks.cons; (focus (repeat constructor)))))); (all_goals (try simp only [List.cons_append, List.nil_append, Bool.not_true, Bool.not_false, -eq_self])))
  rotate_left
  · rename_i y
    refine e_pan ⟨(), by simp [thirdR, h1, h2, h3, h4, y.2]⟩ rfl ?_
    (repeat (first | exact Imp.refl | exact Imp.nil | (apply Imp.pick; (focus ((repeat constructor); done))) | refine Imp.drop ?_))
  rename_i x5
  obtain ⟨x5, h5⟩ := x5
  (refine' e_callP (rclock) ?hp (fun _ => ?_) (fun _ => ?_); (case hp => (repeat (first | exact Picks.nil | (apply Picks.cons; (focus (repeat constructor)))))); (all_goals (try simp only [List.cons_append, List.nil_append, Bool.not_true, Bool.not_false, -eq_self])))
  rotate_left
  · rename_i y
    refine e_pan ⟨(), by simp [thirdR, h1, h2, h3, h4, h5, y.2]⟩ rfl ?_
    (repeat (first | exact Imp.refl | exact Imp.nil | (apply Imp.pick; (focus ((repeat constructor); done))) | refine Imp.drop ?_))
  rename_i x6
  obtain ⟨x6, h6⟩ := x6
  (refine' e_callP (take (k := 1)) ?hp (fun _ => ?_) (fun _ => ?_); (case hp => (repeat (first | exact Picks.nil | (apply Picks.cons; (focus (repeat constructor)))))); (all_goals (try simp only [List.cons_append, List.nil_append, Bool.not_true, Bool.not_false, -eq_self])))
  rotate_left
  · rename_i y
    refine e_pan ⟨(), by simp [thirdR, h1, h2, h3, h4, h5, h6, y.2]⟩ rfl ?_
    (repeat (first | exact Imp.refl | exact Imp.nil | (apply Imp.pick; (focus ((repeat constructor); done))) | refine Imp.drop ?_))
  rename_i x7
  obtain ⟨x7, h7⟩ := x7
  (refine' e_callP (number (k := 4) (by omega)) ?hp (fun _ => ?_) (fun _ => ?_); (case hp => (repeat (first | exact Picks.nil | (apply Picks.cons; (focus (repeat constructor)))))); (all_goals (try simp only [List.cons_append, List.nil_append, Bool.not_true, Bool.not_false, -eq_self])))
  rotate_left
  · rename_i y
    refine e_pan ⟨(), by simp [thirdR, h1, h2, h3, h4, h5, h6, h7, y.2]⟩ rfl ?_
    (repeat (first | exact Imp.refl | exact Imp.nil | (apply Imp.pick; (focus ((repeat constructor); done))) | refine Imp.drop ?_))
  rename_i x8
  obtain ⟨x8, h8⟩ := x8
  (((with_reducible refine e_opN v_fa0 Imp.nil ?_))); (((with_reducible refine' e_stN ?hp ?ho ?_); (case hp => (repeat constructor)); (case ho => (repeat (first | exact Put.here | apply Put.there))))); (((with_reducible refine' e_opN (v_ldAgg ?hn) ?hi ?_); (case hi => (repeat (first | exact Imp.refl | exact Imp.nil | (apply Imp.pick; (focus ((repeat constructor); done))) | refine Imp.drop ?_))); (case hn => rfl))); (((with_reducible refine' e_stAgg ?hp ?hn ?hv ?h1 ?_); (case hp => (repeat constructor)); (case hn => rfl); (case hv => rfl); (case h1 => simp [Value.oneCell']))); (((with_reducible refine' e_stS (v_resA ?hn) ?hi ?_); (case hi => (repeat (first | exact Imp.refl | exact Imp.nil | (apply Imp.pick; (focus ((repeat constructor); done))) | refine Imp.drop ?_))); (case hn => rfl)))
  (first | refine e_ret (⟨⟨(x8.1 : Int), x2.1, (x4.1 : Int), (x6.1.1 : Int), (x6.1.2.1 : Int), (x6.1.2.2 : Int), 0⟩, by simp [thirdR, h1, h2, h3, h4, h5, h6, h7, h8]⟩) rfl ?_ | refine e_retT (⟨⟨(x8.1 : Int), x2.1, (x4.1 : Int), (x6.1.1 : Int), (x6.1.2.1 : Int), (x6.1.2.2 : Int), 0⟩, by simp [thirdR, h1, h2, h3, h4, h5, h6, h7, h8]⟩) ?_)
  (repeat (first | exact Imp.refl | exact Imp.nil | (apply Imp.pick; (focus ((repeat constructor); done))) | refine Imp.drop ?_))
end Go.Proofs.YtcmpkkkigmheoaaGreatDoor.D
/-! What reads the second form. No conditions but those that each names. -/
namespace Go.Proofs.YtcmpkkkigmheoaaGreatDoor.D
open Go Go.Proofs Go.RowKit Go.Proofs.YtcmpkkkigmheoaaGreatDoor.Sh Go.Proofs.YtcmpkkkigmheoaaGreatDoor.Sl Go.Proofs.YtcmpkkkigmheoaaGreatDoor.T
def cI (l : List UInt8) : Nat := (l ++ [44]).findIdx (· == 44)
theorem cI_le (l : List UInt8) : cI l ≤ l.length := by
  have : (l ++ [44]).findIdx (· == 44) < (l ++ [44]).length := List.findIdx_lt_length_of_exists ⟨44, by simp, by simp⟩
  rw [List.length_append, List.length_singleton] at this
  unfold cI; omega
def yN (now : Int) : Int := if okT now then (spD now).y else 1970
def topY (now : Int) : Int := if 9999 < yN now + 50 then 9999 else yN now + 50
def secY (now : Int) (two : Nat) : Int := topY now - (topY now - (two : Int) + 10000) % 100
theorem yN_b (now : Int) : 0 ≤ yN now ∧ yN now ≤ 9999 := by
  unfold yN
  split
  · rename_i h; exact (ok_sp h).y
  · omega
def secondR (now : Int) (l : List UInt8) : Option Dt := (tkR (cI l + 2) l).bind fun a => (numR 2 a.2).bind fun b => (tkR 1 b.2).bind fun c => (monR c.2).bind fun d => (tkR 1 d.2).bind fun e => (numR 2 e.2).bind fun f => (tkR 1 f.2).bind fun g => (clkR g.2).bind fun h => some ⟨secY now f.1, d.1, (b.1 : Int), (h.1.1 : Int), (h.1.2.1 : Int), (h.1.2.2 : Int), 0⟩
theorem second {W : World} {p : Nat} {l : List UInt8} {now : Int} (hl : l.length ≤ 4611686018427387904) : CnP Tryz.prog 36 [.pointer (some ⟨p, 0, none⟩), .int .i64 now] W [IsRd p l]
    (fun x : Sm (secondR now l) => .agg (dtA x.1)) (fun _ => []) (fun _ : Nn (secondR now l) => pnD) (fun _ => []) := by
  (refine S.dates_reader_second_cnP fun F => ?_; unfold S.dates_reader_second; simp only [List.cons_append, List.nil_append, -eq_self])
  unfold IsRd
  (((with_reducible refine e_newA fun g => ?_))); (((with_reducible refine e_opN v_nil Imp.nil ?_))); (((with_reducible refine e_opN v_fa0 Imp.nil ?_))); (((with_reducible refine' e_opN (v_ldN ?hc) ?hi ?_); (case hi => (repeat (first | exact Imp.refl | exact Imp.nil | (apply Imp.pick; (focus ((repeat constructor); done))) | refine Imp.drop ?_))); (case hc => (repeat (first | exact Nth.here | apply Nth.there)))))
  rename Nat => b4
  refine e_opN (v_cat (b := [44]) (by simp only [List.length_singleton]; omega)) Imp.nil ?_
  (refine' e_call (indexByte (l := l ++ [44]) (c := 44) (by simp)) ?hp fun _ => ?_; (case hp => (repeat (first | exact Picks.nil | (apply Picks.cons; (focus (repeat constructor)))))); (try simp only [List.cons_append, List.nil_append, Bool.not_true, Bool.not_false]))
  have hci := cI_le l
  have eci : List.findIdx (fun x : UInt8 => x == 44) (l ++ [44]) = cI l := rfl
  rw [eci]
  (((with_reducible refine e_opN (v_add ?h1 ?h2) Imp.nil ?_); (case h1 => omega); (case h2 => omega)))
  rw [show ((cI l : Nat) : Int) + 2 = ((cI l + 2 : Nat) : Int) by omega]
  (refine' e_callP (take (k := cI l + 2)) ?hp (fun _ => ?_) (fun _ => ?_); (case hp => (repeat (first | exact Picks.nil | (apply Picks.cons; (focus (repeat constructor)))))); (all_goals (try simp only [List.cons_append, List.nil_append, Bool.not_true, Bool.not_false, -eq_self])))
  rotate_left
  · rename_i y
    refine e_pan ⟨(), by simp [secondR, y.2]⟩ rfl ?_
    (repeat (first | exact Imp.refl | exact Imp.nil | (apply Imp.pick; (focus ((repeat constructor); done))) | refine Imp.drop ?_))
  rename_i x1
  obtain ⟨x1, h1⟩ := x1
  (refine' e_callP (number (k := 2) (by omega)) ?hp (fun _ => ?_) (fun _ => ?_); (case hp => (repeat (first | exact Picks.nil | (apply Picks.cons; (focus (repeat constructor)))))); (all_goals (try simp only [List.cons_append, List.nil_append, Bool.not_true, Bool.not_false, -eq_self])))
  rotate_left
  · rename_i y
    refine e_pan ⟨(), by simp [secondR, h1, y.2]⟩ rfl ?_
    (repeat (first | exact Imp.refl | exact Imp.nil | (apply Imp.pick; (focus ((repeat constructor); done))) | refine Imp.drop ?_))
  rename_i x2
  obtain ⟨x2, h2⟩ := x2
  (((with_reducible refine e_opN v_fa0 Imp.nil ?_))); (((with_reducible refine' e_stN ?hp ?ho ?_); (case hp => (repeat constructor)); (case ho => (repeat (first | exact Put.here | apply Put.there)))))
  (refine' e_callP (take (k := 1)) ?hp (fun _ => ?_) (fun _ => ?_); (case hp => (repeat (first | exact Picks.nil | (apply Picks.cons; (focus (repeat constructor)))))); (all_goals (try simp only [List.cons_append, List.nil_append, Bool.not_true, Bool.not_false, -eq_self])))
  rotate_left
  · rename_i y
    refine e_pan ⟨(), by simp [secondR, h1, h2, y.2]⟩ rfl ?_
    (repeat (first | exact Imp.refl | exact Imp.nil | (apply Imp.pick; (focus ((repeat constructor); done))) | refine Imp.drop ?_))
  rename_i x3
  obtain ⟨x3, h3⟩ := x3
  (refine' e_callP (month) ?hp (fun _ => ?_) (fun _ => ?_); (case hp => (repeat (first | exact Picks.nil | (apply Picks.cons; (focus (repeat constructor)))))); (all_goals (try simp only [List.cons_append, List.nil_append, Bool.not_true, Bool.not_false, -eq_self])))
  rotate_left
  · rename_i y
    refine e_pan ⟨(), by simp [secondR, h1, h2, h3, y.2]⟩ rfl ?_
    (repeat (first | exact Imp.refl | exact Imp.nil | (apply Imp.pick; (focus ((repeat constructor); done))) | refine Imp.drop ?_))
  rename_i x4
  obtain ⟨x4, h4⟩ := x4
  (((with_reducible refine e_opN v_fa0 Imp.nil ?_))); (((with_reducible refine' e_stN ?hp ?ho ?_); (case hp => (repeat constructor)); (case ho => (repeat (first | exact Put.here | apply Put.there)))))
  (refine' e_callP (take (k := 1)) ?hp (fun _ => ?_) (fun _ => ?_); (case hp => (repeat (first | exact Picks.nil | (apply Picks.cons; (focus (repeat constructor)))))); (all_goals (try simp only [List.cons_append, List.nil_append, Bool.not_true, Bool.not_false, -eq_self])))
  rotate_left
  · rename_i y
    refine e_pan ⟨(), by simp [secondR, h1, h2, h3, h4, y.2]⟩ rfl ?_
    (repeat (first | exact Imp.refl | exact Imp.nil | (apply Imp.pick; (focus ((repeat constructor); done))) | refine Imp.drop ?_))
  rename_i x5
  obtain ⟨x5, h5⟩ := x5
  (refine' e_callP (number (k := 2) (by omega)) ?hp (fun _ => ?_) (fun _ => ?_); (case hp => (repeat (first | exact Picks.nil | (apply Picks.cons; (focus (repeat constructor)))))); (all_goals (try simp only [List.cons_append, List.nil_append, Bool.not_true, Bool.not_false, -eq_self])))
  rotate_left
  · rename_i y
    refine e_pan ⟨(), by simp [secondR, h1, h2, h3, h4, h5, y.2]⟩ rfl ?_
    (repeat (first | exact Imp.refl | exact Imp.nil | (apply Imp.pick; (focus ((repeat constructor); done))) | refine Imp.drop ?_))
  rename_i x6
  obtain ⟨x6, h6⟩ := x6
  (refine' e_callP (take (k := 1)) ?hp (fun _ => ?_) (fun _ => ?_); (case hp => (repeat (first | exact Picks.nil | (apply Picks.cons; (focus (repeat constructor)))))); (all_goals (try simp only [List.cons_append, List.nil_append, Bool.not_true, Bool.not_false, -eq_self])))
  rotate_left
  · rename_i y
    refine e_pan ⟨(), by simp [secondR, h1, h2, h3, h4, h5, h6, y.2]⟩ rfl ?_
    (repeat (first | exact Imp.refl | exact Imp.nil | (apply Imp.pick; (focus ((repeat constructor); done))) | refine Imp.drop ?_))
  rename_i x7
  obtain ⟨x7, h7⟩ := x7
  (refine' e_callP (rclock) ?hp (fun _ => ?_) (fun _ => ?_); (case hp => (repeat (first | exact Picks.nil | (apply Picks.cons; (focus (repeat constructor)))))); (all_goals (try simp only [List.cons_append, List.nil_append, Bool.not_true, Bool.not_false, -eq_self])))
  rotate_left
  · rename_i y
    refine e_pan ⟨(), by simp [secondR, h1, h2, h3, h4, h5, h6, h7, y.2]⟩ rfl ?_
    (repeat (first | exact Imp.refl | exact Imp.nil | (apply Imp.pick; (focus ((repeat constructor); done))) | refine Imp.drop ?_))
  rename_i x8
  obtain ⟨x8, h8⟩ := x8
  have hy := yN_b now
  have h2b := num_lt h6
  (try dsimp only)
  refine e_cut1 (fun z => pu (z = .int .i64 (yN now)) :: IsRd p x8.2 :: pt b4 (.cells #[.int .i64 0, .int .i64 x4.1, .int .i64 (x2.1 : Int), .int .i64 (x8.1.1 : Int), .int .i64 (x8.1.2.1 : Int), .int .i64 (x8.1.2.2 : Int), .int .i64 0] 106) :: F) ?_ ?_
  rotate_left
  · (refine' e_call (split (n := now)) ?hp fun _ => ?_; (case hp => (repeat (first | exact Picks.nil | (apply Picks.cons; (focus (repeat constructor)))))); (try simp only [List.cons_append, List.nil_append, Bool.not_true, Bool.not_false]))
    rw [show (Value.agg (dtA (spD now))) = .agg #[.int .i64 (spD now).y, .int .i64 (spD now).m, .int .i64 (spD now).d, .int .i64 (spD now).h, .int .i64 (spD now).mi, .int .i64 (spD now).s, .int .i64 (spD now).w] from rfl]
    (((with_reducible refine' e_opN (v_extN ?hc) Imp.nil ?_); (case hc => (repeat (first | exact Nth.here | apply Nth.there))))); (((with_reducible refine' e_opN (v_extN ?hc) Imp.nil ?_); (case hc => (repeat (first | exact Nth.here | apply Nth.there))))); (((with_reducible refine e_newA fun g => ?_))); (((with_reducible refine' e_stAgg ?hp ?hn ?hv ?h1 ?_); (case hp => (repeat constructor)); (case hn => rfl); (case hv => rfl); (case h1 => simp [Value.oneCell'])))
    refine e_ask v_eql Imp.nil (fun h => ?_) (fun h => ?_)
    · have ok : okT now := Decidable.byContradiction fun c => absurd (show spE now = 11 from if_neg c) (by rw [h]; decide)
      ((with_reducible refine e_condT ?_)); (((with_reducible refine e_opN v_fa0 Imp.nil ?_))); (((with_reducible refine' e_opN (v_ldN ?hc) ?hi ?_); (case hi => (repeat (first | exact Imp.refl | exact Imp.nil | (apply Imp.pick; (focus ((repeat constructor); done))) | refine Imp.drop ?_))); (case hc => (repeat (first | exact Nth.here | apply Nth.there)))))
      refine e_sat (.pu ?_ ?_)
      · unfold yN; rw [if_pos ok]
      · (repeat (first | exact Imp.refl | exact Imp.nil | (apply Imp.pick; (focus ((repeat constructor); done))) | refine Imp.drop ?_))
    · have ok : ¬ okT now := fun c => h (if_pos c)
      ((with_reducible refine e_condF ?_))
      refine e_sat (.pu ?_ ?_)
      · unfold yN; rw [if_neg ok]
      · (repeat (first | exact Imp.refl | exact Imp.nil | (apply Imp.pick; (focus ((repeat constructor); done))) | refine Imp.drop ?_))
  intro ds z
  (try simp only [List.cons_append, List.nil_append, -eq_self])
  refine e_pu .here fun h => ?_
  subst h
  (((with_reducible refine e_opN (v_add ?h1 ?h2) Imp.nil ?_); (case h1 => omega); (case h2 => omega)))
  refine e_opN v_min Imp.nil ?_
  rw [show (if 9999 < yN now + 50 then 9999 else yN now + 50) = topY now from rfl]
  have ht : 0 ≤ topY now ∧ topY now ≤ 9999 := by unfold topY; split <;> omega
  (((with_reducible refine e_opN (v_sub ?h1 ?h2) Imp.nil ?_); (case h1 => omega); (case h2 => omega))); (((with_reducible refine e_opN (v_add ?h1 ?h2) Imp.nil ?_); (case h1 => omega); (case h2 => omega))); (((with_reducible refine e_opN (v_rem ?h1 ?h2) Imp.nil ?_); (case h1 => omega); (case h2 => omega))); (((with_reducible refine e_opN (v_sub ?h1 ?h2) Imp.nil ?_); (case h1 => omega); (case h2 => omega))); (((with_reducible refine e_opN v_fa0 Imp.nil ?_))); (((with_reducible refine' e_stN ?hp ?ho ?_); (case hp => (repeat constructor)); (case ho => (repeat (first | exact Put.here | apply Put.there))))); (((with_reducible refine' e_opN (v_ldAgg ?hn) ?hi ?_); (case hi => (repeat (first | exact Imp.refl | exact Imp.nil | (apply Imp.pick; (focus ((repeat constructor); done))) | refine Imp.drop ?_))); (case hn => rfl))); (((with_reducible refine' e_stAgg ?hp ?hn ?hv ?h1 ?_); (case hp => (repeat constructor)); (case hn => rfl); (case hv => rfl); (case h1 => simp [Value.oneCell']))); (((with_reducible refine' e_stS (v_resA ?hn) ?hi ?_); (case hi => (repeat (first | exact Imp.refl | exact Imp.nil | (apply Imp.pick; (focus ((repeat constructor); done))) | refine Imp.drop ?_))); (case hn => rfl)))
  rw [show topY now - (topY now - (x6.1 : Int) + 10000) % 100 = secY now x6.1 from rfl]
  (first | refine e_ret (⟨⟨secY now x6.1, x4.1, (x2.1 : Int), (x8.1.1 : Int), (x8.1.2.1 : Int), (x8.1.2.2 : Int), 0⟩, by simp [secondR, h1, h2, h3, h4, h5, h6, h7, h8]⟩) rfl ?_ | refine e_retT (⟨⟨secY now x6.1, x4.1, (x2.1 : Int), (x8.1.1 : Int), (x8.1.2.1 : Int), (x8.1.2.2 : Int), 0⟩, by simp [secondR, h1, h2, h3, h4, h5, h6, h7, h8]⟩) ?_)
  (repeat (first | exact Imp.refl | exact Imp.nil | (apply Imp.pick; (focus ((repeat constructor); done))) | refine Imp.drop ?_))
end Go.Proofs.YtcmpkkkigmheoaaGreatDoor.D
/-! One form tried; what is given up is no date. No conditions but those that each names. -/
namespace Go.Proofs.YtcmpkkkigmheoaaGreatDoor.D
open Go Go.Proofs Go.RowKit Go.Proofs.YtcmpkkkigmheoaaGreatDoor.Sh Go.Proofs.YtcmpkkkigmheoaaGreatDoor.Sl Go.Proofs.YtcmpkkkigmheoaaGreatDoor.T
def tryR (k now : Int) (l : List UInt8) (rd : List UInt8 → Option Dt) : Option Int := match rd l with
  | none => none
  | some x => if okF x ∧ fm k (spD (jN x)) = l then some (jN x) else none
def pT (g : Nat) : Value := .pointer (some ⟨g, 0, none⟩)
theorem tryFails {W : World} {F : List HP} {g8 g9 : Nat} {v8 v9 : Value} {K : Value → WP} {Kq : PK}
    (h : Ent W (pt g8 (.cells #[.int .i64 0] 3) :: pt g9 (.cells #[.bool false] 4) :: F) (K (.tuple #[.int .i64 0, .bool false]))) :
    Ent W (pt g8 (.cells #[v8] 3) :: pt g9 (.cells #[v9] 4) :: F)
      (KpD Tryz.prog { target := .fn (.func 59) ([.pointer (some ⟨g8, 0, none⟩), .pointer (some ⟨g9, 0, none⟩)] : List Value).toArray, args := ([] : List Value).toArray } (S.dates_try_ret (.pointer (some ⟨g8, 0, none⟩)) (.pointer (some ⟨g9, 0, none⟩)) K) Kq pnD) := by
  unfold KpD
  refine e_dfS (f := 59) (A := [.pointer (some ⟨g8, 0, none⟩), .pointer (some ⟨g9, 0, none⟩)]) (shape := fun rv => S.dates_try_1 (.pointer (some ⟨g8, 0, none⟩)) (.pointer (some ⟨g9, 0, none⟩)) rv) (fun c => by cases c) ⟨_, _, rfl⟩ (inv_closure (cs := [.pointer (some ⟨g8, 0, none⟩), .pointer (some ⟨g9, 0, none⟩)]) (bs := []) Tryz.call59) (fun h => S.dates_try_1_d h) ?_
  unfold S.dates_try_1 pnD
  rw [rec_pan, lv_pan]
  refine e_stS (v_neIf (by kernel_rfl)) Imp.nil ?_
  refine e_condT ?_
  (((with_reducible refine' e_stN ?hp ?ho ?_); (case hp => (repeat constructor)); (case ho => (repeat (first | exact Put.here | apply Put.there))))); (((with_reducible refine' e_stN ?hp ?ho ?_); (case hp => (repeat constructor)); (case ho => (repeat (first | exact Put.here | apply Put.there)))))
  unfold S.dates_try_ret
  (((with_reducible refine' e_stS (v_res1 ?hc) ?hi ?_); (case hi => (repeat (first | exact Imp.refl | exact Imp.nil | (apply Imp.pick; (focus ((repeat constructor); done))) | refine Imp.drop ?_))); (case hc => (repeat (first | exact Nth.here | apply Nth.there))))); (((with_reducible refine' e_stS (v_res1 ?hc) ?hi ?_); (case hi => (repeat (first | exact Imp.refl | exact Imp.nil | (apply Imp.pick; (focus ((repeat constructor); done))) | refine Imp.drop ?_))); (case hc => (repeat (first | exact Nth.here | apply Nth.there)))))
  exact e_imp (by (repeat (first | exact Imp.refl | exact Imp.nil | (apply Imp.pick; (focus ((repeat constructor); done))) | refine Imp.drop ?_))) h
theorem tryEnds {W : World} {F : List HP} {g8 g9 : Nat} {n : Int} {b : Bool} {K : Value → WP} {Kq : PK}
    (h : Ent W (pt g8 (.cells #[.int .i64 n] 3) :: pt g9 (.cells #[.bool b] 4) :: F) (K (.tuple #[.int .i64 n, .bool b]))) :
    Ent W (pt g8 (.cells #[.int .i64 n] 3) :: pt g9 (.cells #[.bool b] 4) :: F)
      (dfS Tryz.prog { target := .fn (.func 59) ([.pointer (some ⟨g8, 0, none⟩), .pointer (some ⟨g9, 0, none⟩)] : List Value).toArray, args := ([] : List Value).toArray } .returning (S.dates_try_ret (.pointer (some ⟨g8, 0, none⟩)) (.pointer (some ⟨g9, 0, none⟩)) K) Kq) := by
  refine e_dfS (f := 59) (A := [.pointer (some ⟨g8, 0, none⟩), .pointer (some ⟨g9, 0, none⟩)]) (shape := fun rv => S.dates_try_1 (.pointer (some ⟨g8, 0, none⟩)) (.pointer (some ⟨g9, 0, none⟩)) rv) (fun c => by cases c) ⟨_, _, rfl⟩ (inv_closure (cs := [.pointer (some ⟨g8, 0, none⟩), .pointer (some ⟨g9, 0, none⟩)]) (bs := []) Tryz.call59) (fun h => S.dates_try_1_d h) ?_
  unfold S.dates_try_1
  rw [rec_ret, lv_ret]
  refine e_stS (v_neIf0 (by kernel_rfl)) Imp.nil ?_
  refine e_condF ?_
  unfold S.dates_try_ret
  (((with_reducible refine' e_stS (v_res1 ?hc) ?hi ?_); (case hi => (repeat (first | exact Imp.refl | exact Imp.nil | (apply Imp.pick; (focus ((repeat constructor); done))) | refine Imp.drop ?_))); (case hc => (repeat (first | exact Nth.here | apply Nth.there))))); (((with_reducible refine' e_stS (v_res1 ?hc) ?hi ?_); (case hi => (repeat (first | exact Imp.refl | exact Imp.nil | (apply Imp.pick; (focus ((repeat constructor); done))) | refine Imp.drop ?_))); (case hc => (repeat (first | exact Nth.here | apply Nth.there)))))
  exact e_imp (by (repeat (first | exact Imp.refl | exact Imp.nil | (apply Imp.pick; (focus ((repeat constructor); done))) | refine Imp.drop ?_))) h
theorem jN_ok {x : Dt} (h : okF x) : okT (jN x) := by
  have hj : jN x = dayN x.y x.m x.d * 86400 + x.h * 3600 + x.mi * 60 + x.s := if_pos h
  unfold okF at h
  obtain ⟨h1, h2, h3, h4, h5, h6, _⟩ := h
  have hb : 0 ≤ dayN x.y x.m x.d := (dayN_b h1 h2 h3).1
  have ht : dayN x.y x.m x.d ≤ 2932896 := by
    unfold dayN adj
    by_cases c : x.m ≤ 2
    · rw [if_pos c]
      have e : (x.m + 9) % 12 = x.m + 9 := by omega
      rw [e]
      obtain ⟨a, ha⟩ : ∃ a, a = x.y - 1 := ⟨_, rfl⟩
      rw [← ha]
      have h1 : a / 400 ≤ 24 := by omega
      have h2 : a / 400 = 24 → a % 400 ≤ 398 := by omega
      have h3 : 0 ≤ a % 400 ∧ a % 400 ≤ 399 := by omega
      generalize a / 400 = q at *
      generalize a % 400 = t at *
      omega
    · rw [if_neg c]
      have e : (x.m + 9) % 12 = x.m - 3 := by omega
      rw [e]
      have h1 : x.y / 400 ≤ 24 := by omega
      have h3 : 0 ≤ x.y % 400 ∧ x.y % 400 ≤ 399 := by omega
      generalize x.y / 400 = q at *
      generalize x.y % 400 = t at *
      omega
  unfold okT
  rw [hj]
  omega
theorem try_ {W : World} {f : FuncId} {k now : Int} {l : List UInt8} {rd : List UInt8 → Option Dt}
    (hf : ∀ p, CnP Tryz.prog f [.pointer (some ⟨p, 0, none⟩), .int .i64 now] W [IsRd p l] (fun x : Sm (rd l) => .agg (dtA x.1)) (fun _ => []) (fun _ : Nn (rd l) => pnD) (fun _ => [])) :
    Cn Tryz.prog 38 [txt l, .int .i64 k, .int .i64 now, fn f] W [] (fun _ : Unit => .tuple #[.int .i64 ((tryR k now l rd).getD 0), .bool (tryR k now l rd).isSome]) (fun _ => []) := by
  (refine S.dates_try_cn fun F => ?_; unfold S.dates_try; simp only [List.cons_append, List.nil_append])
  refine e_new1 fun g8 => ?_
  refine e_new1 fun g9 => ?_
  refine e_opN v_mkF Imp.nil ?_
  refine e_opDf ?_
  simp only [List.nil_append, Array.append_empty, List.append_toArray]
  refine e_opN v_rv Imp.nil ?_
  refine e_boxA fun gr => ?_
  refine e_imp (M := IsRd gr l :: pt g8 (.cells #[.int .i64 0] 3) :: pt g9 (.cells #[.bool false] 4) :: F) (by unfold IsRd; (repeat (first | exact Imp.refl | exact Imp.nil | (apply Imp.pick; (focus ((repeat constructor); done))) | refine Imp.drop ?_))) ?_
  (refine' e_callP (hf gr) ?hp (fun _ => ?_) (fun _ => ?_); (case hp => (repeat (first | exact Picks.nil | (apply Picks.cons; (focus (repeat constructor)))))); (all_goals (try simp only [List.cons_append, List.nil_append, Bool.not_true, Bool.not_false, -eq_self])))
  rotate_left
  · rename_i y
    refine e_imp (by (repeat (first | exact Imp.refl | exact Imp.nil | (apply Imp.pick; (focus ((repeat constructor); done))) | refine Imp.drop ?_))) (tryFails (F := F) ?_)
    rw [show tryR k now l rd = none by unfold tryR; rw [y.2]]
    (first | refine e_ret (()) rfl ?_ | refine e_retT (()) ?_)
    (repeat (first | exact Imp.refl | exact Imp.nil | (apply Imp.pick; (focus ((repeat constructor); done))) | refine Imp.drop ?_))
  rename_i x
  obtain ⟨x, hx⟩ := x
  (try dsimp only)
  have htr : tryR k now l rd = if okF x ∧ fm k (spD (jN x)) = l then some (jN x) else none := by unfold tryR; rw [hx]
  (refine' e_call (join (x := x)) ?hp fun _ => ?_; (case hp => (repeat (first | exact Picks.nil | (apply Picks.cons; (focus (repeat constructor)))))); (try simp only [List.cons_append, List.nil_append, Bool.not_true, Bool.not_false]))
  (((with_reducible refine' e_opN (v_extN ?hc) Imp.nil ?_); (case hc => (repeat (first | exact Nth.here | apply Nth.there))))); (((with_reducible refine' e_opN (v_extN ?hc) Imp.nil ?_); (case hc => (repeat (first | exact Nth.here | apply Nth.there))))); (((with_reducible refine' e_stN ?hp ?ho ?_); (case hp => (repeat constructor)); (case ho => (repeat (first | exact Put.here | apply Put.there))))); (((with_reducible refine' e_opN (v_ldN ?hc) ?hi ?_); (case hi => (repeat (first | exact Imp.refl | exact Imp.nil | (apply Imp.pick; (focus ((repeat constructor); done))) | refine Imp.drop ?_))); (case hc => (repeat (first | exact Nth.here | apply Nth.there)))))
  (refine' e_call (split (n := jN x)) ?hp fun _ => ?_; (case hp => (repeat (first | exact Picks.nil | (apply Picks.cons; (focus (repeat constructor)))))); (try simp only [List.cons_append, List.nil_append, Bool.not_true, Bool.not_false]))
  rw [show (Value.agg (dtA (spD (jN x)))) = .agg #[.int .i64 (spD (jN x)).y, .int .i64 (spD (jN x)).m, .int .i64 (spD (jN x)).d, .int .i64 (spD (jN x)).h, .int .i64 (spD (jN x)).mi, .int .i64 (spD (jN x)).s, .int .i64 (spD (jN x)).w] from rfl]
  (((with_reducible refine' e_opN (v_extN ?hc) Imp.nil ?_); (case hc => (repeat (first | exact Nth.here | apply Nth.there))))); (((with_reducible refine' e_opN (v_extN ?hc) Imp.nil ?_); (case hc => (repeat (first | exact Nth.here | apply Nth.there))))); (((with_reducible refine e_newA fun g => ?_))); (((with_reducible refine' e_stAgg ?hp ?hn ?hv ?h1 ?_); (case hp => (repeat constructor)); (case hn => rfl); (case hv => rfl); (case h1 => simp [Value.oneCell'])))
  refine e_ask v_neq Imp.nil (fun h => ?_) (fun h => ?_)
  · have nok : ¬ okF x := fun c => h (if_pos c)
    rw [show tryR k now l rd = none by rw [htr]; exact if_neg fun c => nok c.1]
    ((with_reducible refine e_gdF1 ?_)); ((with_reducible refine e_gdF1 ?_)); ((with_reducible refine e_gdF1 ?_)); ((with_reducible refine e_gdF1 ?_)); ((with_reducible refine e_gdF1 ?_)); (((with_reducible refine e_opN v_pickT Imp.nil ?_))); ((with_reducible refine e_condT ?_)); (((with_reducible refine' e_stN ?hp ?ho ?_); (case hp => (repeat constructor)); (case ho => (repeat (first | exact Put.here | apply Put.there))))); (((with_reducible refine' e_stN ?hp ?ho ?_); (case hp => (repeat constructor)); (case ho => (repeat (first | exact Put.here | apply Put.there)))))
    refine e_imp (by (repeat (first | exact Imp.refl | exact Imp.nil | (apply Imp.pick; (focus ((repeat constructor); done))) | refine Imp.drop ?_))) (tryEnds (F := F) ?_)
    (first | refine e_ret (()) rfl ?_ | refine e_retT (()) ?_)
    (repeat (first | exact Imp.refl | exact Imp.nil | (apply Imp.pick; (focus ((repeat constructor); done))) | refine Imp.drop ?_))
  have ok : okF x := Decidable.byContradiction fun c => h (by rw [show jE x = 41 from if_neg c]; decide)
  ((with_reducible refine e_gdT ?_)); (((with_reducible refine' e_opN (v_ldAgg ?hn) ?hi ?_); (case hi => (repeat (first | exact Imp.refl | exact Imp.nil | (apply Imp.pick; (focus ((repeat constructor); done))) | refine Imp.drop ?_))); (case hn => rfl))); ((with_reducible refine e_gdT ?_)); ((with_reducible refine e_gdT ?_))
  (refine' e_call (form (x := spD (jN x)) (k := k) (ok_sp (jN_ok ok))) ?hp fun _ => ?_; (case hp => (repeat (first | exact Picks.nil | (apply Picks.cons; (focus (repeat constructor)))))); (try simp only [List.cons_append, List.nil_append, Bool.not_true, Bool.not_false]))
  ((with_reducible refine e_gdT ?_)); ((with_reducible refine e_gdT ?_))
  refine e_ask v_strne Imp.nil (fun h => ?_) (fun h => ?_)
  · rw [show tryR k now l rd = none by rw [htr]; exact if_neg fun c => h c.2]
    (((with_reducible refine e_opN v_pickF Imp.nil ?_))); ((with_reducible refine e_condT ?_)); (((with_reducible refine' e_stN ?hp ?ho ?_); (case hp => (repeat constructor)); (case ho => (repeat (first | exact Put.here | apply Put.there))))); (((with_reducible refine' e_stN ?hp ?ho ?_); (case hp => (repeat constructor)); (case ho => (repeat (first | exact Put.here | apply Put.there)))))
    refine e_imp (by (repeat (first | exact Imp.refl | exact Imp.nil | (apply Imp.pick; (focus ((repeat constructor); done))) | refine Imp.drop ?_))) (tryEnds (F := F) ?_)
    (first | refine e_ret (()) rfl ?_ | refine e_retT (()) ?_)
    (repeat (first | exact Imp.refl | exact Imp.nil | (apply Imp.pick; (focus ((repeat constructor); done))) | refine Imp.drop ?_))
  · rw [show tryR k now l rd = some (jN x) by rw [htr]; exact if_pos ⟨ok, Decidable.not_not.1 h⟩]
    (((with_reducible refine e_opN v_pickF Imp.nil ?_))); ((with_reducible refine e_condF ?_)); (((with_reducible refine' e_opN (v_ldN ?hc) ?hi ?_); (case hi => (repeat (first | exact Imp.refl | exact Imp.nil | (apply Imp.pick; (focus ((repeat constructor); done))) | refine Imp.drop ?_))); (case hc => (repeat (first | exact Nth.here | apply Nth.there))))); (((with_reducible refine' e_stN ?hp ?ho ?_); (case hp => (repeat constructor)); (case ho => (repeat (first | exact Put.here | apply Put.there))))); (((with_reducible refine' e_stN ?hp ?ho ?_); (case hp => (repeat constructor)); (case ho => (repeat (first | exact Put.here | apply Put.there)))))
    refine e_imp (by (repeat (first | exact Imp.refl | exact Imp.nil | (apply Imp.pick; (focus ((repeat constructor); done))) | refine Imp.drop ?_))) (tryEnds (F := F) ?_)
    (first | refine e_ret (()) rfl ?_ | refine e_retT (()) ?_)
    (repeat (first | exact Imp.refl | exact Imp.nil | (apply Imp.pick; (focus ((repeat constructor); done))) | refine Imp.drop ?_))
end Go.Proofs.YtcmpkkkigmheoaaGreatDoor.D
