/- A row put in order, what is alike left as it was: a part by insertion, all of it by parts. Rows of at most 2^28 items. -/
import Derived.Test.YtehfblkpbadikaaHuffS2
set_option linter.unusedVariables false
set_option linter.unusedSimpArgs false
namespace Go.Proofs.Ytehfblkpbadikaa.HF
open Go Go.Proofs Go.RowKit Go.Proofs.Ytehfblkpbadikaa.Sh Go.Proofs.Ytehfblkpbadikaa.Sl Go.Proofs.Ytehfblkpbadikaa.T
theorem insertionP {W : World} {g cap n c : Nat} {P X R : List It} {i j : Int} (hn : (P ++ X ++ R).length = n) (hm : n ≤ 1073741824) (hi : i = (P.length : Int)) (hj : j = (P.length + X.length : Nat)) :
    Cn Try.prog 80 [.slice (some ⟨g, 0, none⟩) n c, .int .i64 i, .int .i64 j, fn 44] W [ItS g cap n (P ++ X ++ R)] (fun _ : Unit => .tuple #[]) (fun _ => [ItS g cap n (P ++ isort It.n X ++ R)]) := by
  subst hi; subst hj
  have hn2 : P.length + X.length + R.length = n := by rw [← hn]; simp only [List.length_append]
  (refine S.slices_insertionSortCmpFunc_huff_weighed_int_cn fun F => ?_; unfold S.slices_insertionSortCmpFunc_huff_weighed_int; simp only [List.cons_append, List.nil_append])
  refine e_opN (v_add (by omega) (by omega)) Imp.nil ?_
  refine e_loop1 (fun m y => (ex fun t : Nat => all [pu (m + t = X.length + 1 ∧ 1 ≤ t ∧ y = .int .i64 (P.length + t : Nat)), ItS g cap n (P ++ (isort It.n (X.take t) ++ X.drop t) ++ R)]) :: F) X.length ?_ ?_
  · refine .ex 1 (.all ?_)
    (try simp only [List.cons_append, List.nil_append, -eq_self])
    refine .pu ⟨by omega, Nat.le_refl _, by norm_cast⟩ ?_
    have e : isort It.n (X.take 1) ++ X.drop 1 = X := by
      cases X with
      | nil => rfl
      | cons x X => rfl
    rw [e]
    exact .refl
  intro m ds y
  refine e_ex .here fun t => e_all .here ?_
  (try simp only [List.cons_append, List.nil_append, -eq_self])
  refine e_pu .here fun ht => ?_
  obtain ⟨hmt, ht1, rfl⟩ := ht
  refine e_ask v_lss Imp.nil (fun h => ?_) (fun h => ?_)
  · have htX : t < X.length := by omega
    obtain ⟨acc, hacc⟩ : ∃ acc, acc = isort It.n (X.take t) := ⟨_, rfl⟩
    have hal : acc.length = t := by rw [hacc, length_isort, List.length_take]; omega
    have hnext : isort It.n (X.take (t + 1)) = insR It.n acc X[t] := by rw [List.take_succ_eq_append_getElem htX, isort_snoc, hacc]
    rw [← hacc]
    refine e_condT ?_
    refine e_loop1 (fun m y => (ex fun q : Nat => all [pu (m = q ∧ q ≤ t ∧ y = .int .i64 (P.length + q : Nat) ∧ insR It.n acc X[t] = insAt It.n acc X[t] q), ItS g cap n ((P ++ acc.take q) ++ X[t] :: (acc.drop q ++ X.drop (t + 1) ++ R))]) :: F) t ?_ ?_
    · refine .ex t (.all ?_)
      (try simp only [List.cons_append, List.nil_append, -eq_self])
      refine .pu ⟨rfl, Nat.le_refl _, rfl, by unfold insR; rw [hal]⟩ ?_
      have e : P ++ (acc ++ X.drop t) ++ R = (P ++ acc.take t) ++ X[t] :: (acc.drop t ++ X.drop (t + 1) ++ R) := by
        rw [List.take_of_length_le (by omega), List.drop_eq_nil_of_le (show acc.length ≤ t by omega), List.drop_eq_getElem_cons htX]
        simp only [List.append_assoc, List.cons_append, List.nil_append]
      rw [e]
      exact .refl
    intro m2 ds2 y2
    refine e_ex .here fun q => e_all .here ?_
    (try simp only [List.cons_append, List.nil_append, -eq_self])
    refine e_pu .here fun hq => ?_
    obtain ⟨rfl, hqt, rfl, hins⟩ := hq
    have done : insR It.n acc X[t] = acc.take m2 ++ X[t] :: acc.drop m2 → Ent W (ItS g cap n ((P ++ acc.take m2) ++ X[t] :: (acc.drop m2 ++ X.drop (t + 1) ++ R)) :: F) (next1 (fun m y w => sat W ((ex fun t : Nat => all [pu (m + t = X.length + 1 ∧ 1 ≤ t ∧ y = .int .i64 (P.length + t : Nat)), ItS g cap n (P ++ (isort It.n (X.take t) ++ X.drop t) ++ R)]) :: F) w) m (.int .i64 (((P.length + t : Nat) : Int) + 1))) := by
      intro he
      refine e_next1 (m - 1) (by omega) (.ex (t + 1) (.all ?_))
      (try simp only [List.cons_append, List.nil_append, -eq_self])
      refine .pu ⟨by omega, by omega, by norm_cast⟩ ?_
      have e : (P ++ acc.take m2) ++ X[t] :: (acc.drop m2 ++ X.drop (t + 1) ++ R) = P ++ (isort It.n (X.take (t + 1)) ++ X.drop (t + 1)) ++ R := by
        rw [hnext, he]
        simp only [List.append_assoc, List.cons_append]
      rw [e]
      exact .refl
    refine e_drS ?_
    refine e_askS v_gtr Imp.nil (fun h => ?_) (fun h => ?_)
    · obtain ⟨r, rfl⟩ : ∃ r, m2 = r + 1 := ⟨m2 - 1, by omega⟩
      have hra : r < acc.length := by omega
      have hD : (P ++ acc.take (r + 1)) ++ X[t] :: (acc.drop (r + 1) ++ X.drop (t + 1) ++ R) = (P ++ acc.take r) ++ acc[r] :: ([] ++ X[t] :: (acc.drop (r + 1) ++ X.drop (t + 1) ++ R)) := by
        rw [List.take_succ_eq_append_getElem hra]; simp only [List.append_assoc, List.cons_append, List.nil_append]
      have hD2 : (P ++ acc.take r) ++ X[t] :: (acc.drop r ++ X.drop (t + 1) ++ R) = (P ++ acc.take r) ++ X[t] :: ([] ++ acc[r] :: (acc.drop (r + 1) ++ X.drop (t + 1) ++ R)) := by
        rw [List.drop_eq_getElem_cons hra]; simp only [List.cons_append, List.nil_append]
      have hl1 : (P ++ acc.take r).length = P.length + r := by rw [List.length_append, List.length_take]; omega
      rw [hD] at done ⊢
      have hlen : ((P ++ acc.take r) ++ acc[r] :: ([] ++ X[t] :: (acc.drop (r + 1) ++ X.drop (t + 1) ++ R))).length = n := by
        simp only [List.length_append, List.length_take, List.length_drop, List.length_cons, List.length_nil]; omega
      obtain ⟨s1, s2, s3, s4⟩ := swap2 (p := P ++ acc.take r) (m := []) (q := acc.drop (r + 1) ++ X.drop (t + 1) ++ R) (x := acc[r]) (y := X[t]) (i := P.length + r) (j := P.length + r + 1) (by omega) (by rw [hl1]; rfl) (by omega) (by omega)
      obtain ⟨D, hDe⟩ : ∃ D, D = (P ++ acc.take r) ++ acc[r] :: ([] ++ X[t] :: (acc.drop (r + 1) ++ X.drop (t + 1) ++ R)) := ⟨_, rfl⟩
      simp only [← hDe] at s1 s2 s3 s4 hlen done ⊢
      have ld1 := ld_it (W := W) (g := g) (cap := cap) hlen (j := P.length + r + 1) (by omega)
      have ld0 := ld_it (W := W) (g := g) (cap := cap) hlen (j := P.length + r) (by omega)
      rw [s2] at ld1
      rw [s1] at ld0
      refine e_gdT ?_
      refine e_gdT ?_
      refine e_gdT ?_
      refine e_gdT ?_
      refine e_stS (v_ia (P.length + r + 1) (by omega) (by omega)) Imp.nil ?_
      refine e_gdT ?_
      refine e_stS ld1 (.pick .here .nil) ?_
      refine e_gdT ?_
      refine e_gdT ?_
      refine e_gdT ?_
      refine e_stS (v_sub (by omega) (by omega)) Imp.nil ?_
      refine e_gdT ?_
      refine e_stS (v_ia (P.length + r) (by omega) (by omega)) Imp.nil ?_
      refine e_gdT ?_
      refine e_stS ld0 (.pick .here .nil) ?_
      refine e_gdT ?_
      refine e_call cmpIt .nil fun _ => ?_
      (try simp only [List.cons_append, List.nil_append, -eq_self])
      refine e_gdT ?_
      refine e_stS v_lss Imp.nil ?_
      refine e_stS v_pickT Imp.nil ?_
      by_cases h2 : X[t].n < acc[r].n
      · rw [decide_eq_true (cmp_lt.2 h2)]
        refine e_condT ?_
        refine e_drS ?_
        refine e_stD (v_sub (by omega) (by omega)) Imp.nil ?_
        refine e_stS (v_sub (by omega) (by omega)) Imp.nil ?_
        refine e_stS (v_ia (P.length + r) (by omega) (by omega)) Imp.nil ?_
        refine e_stS ld0 (.pick .here .nil) ?_
        refine e_stS (v_ia (P.length + r + 1) (by omega) (by omega)) Imp.nil ?_
        refine e_stS ld1 (.pick .here .nil) ?_
        refine e_stS (v_ia (P.length + r + 1) (by omega) (by omega)) Imp.nil ?_
        refine e_stIt .here (by omega) ?_
        refine e_obl (by (repeat (first | exact Imp.refl | exact Imp.nil | (apply Imp.pick; (focus ((repeat constructor); done))) | refine Imp.drop ?_))) ?_
        refine e_stS (v_ia (P.length + r) (by omega) (by omega)) Imp.nil ?_
        refine e_stIt .here (by rw [List.length_set]; omega) ?_
        rw [s4]
        refine e_opN (v_sub (by omega) (by omega)) Imp.nil ?_
        refine e_next1 r (by omega) (.ex r (.all ?_))
        (try simp only [List.cons_append, List.nil_append, -eq_self])
        refine .pu ⟨rfl, by omega, by congr 1; omega, ?_⟩ ?_
        · rw [hins]
          conv => lhs; unfold insAt
          rw [List.getElem?_eq_getElem hra]
          simp only
          rw [if_pos h2]
        · rw [hD2]
          exact .refl
      · rw [decide_eq_false (fun c => h2 (cmp_lt.1 c))]
        refine e_condF ?_
        refine e_opN (v_add (by omega) (by omega)) Imp.nil ?_
        refine done ?_
        rw [hins]
        conv => lhs; unfold insAt
        rw [List.getElem?_eq_getElem hra]
        simp only
        rw [if_neg h2]
    · have : m2 = 0 := by omega
      subst this
      ((with_reducible refine e_gdF2 ?_)); ((with_reducible refine e_gdF2 ?_)); ((with_reducible refine e_gdF2 ?_)); ((with_reducible refine e_gdF2 ?_)); ((with_reducible refine e_gdF2 ?_)); ((with_reducible refine e_gdF2 ?_)); ((with_reducible refine e_gdF2 ?_)); ((with_reducible refine e_gdF2 ?_)); ((with_reducible refine e_gdF2 ?_)); ((with_reducible refine e_gdF2 ?_)); ((with_reducible refine e_gdF2 ?_)); ((with_reducible refine e_gdF2 ?_)); (((with_reducible refine e_stS v_pickF Imp.nil ?_))); ((with_reducible refine e_condF ?_)); (((with_reducible refine e_opN (v_add ?h1 ?h2) Imp.nil ?_); (case h1 => omega); (case h2 => omega)))
      exact done (by rw [hins]; rfl)
  · have hte : X.length ≤ t := by omega
    rw [List.take_of_length_le hte, List.drop_eq_nil_of_le hte, List.append_nil]
    refine e_condF ?_
    (first | refine e_ret (()) rfl ?_ | refine e_retT (()) ?_)
    exact .refl
theorem stable {W : World} {g cap n c : Nat} {X : List It} (hn : X.length = n) (hm : n ≤ 268435456) :
    Cn Try.prog 63 [.slice (some ⟨g, 0, none⟩) n c, .int .i64 (n : Int), fn 44] W [ItS g cap n X] (fun _ : Unit => .tuple #[]) (fun _ => [ItS g cap n (isort It.n X)]) := by
  have hlen : ∀ s, 0 < s → ∀ xs : List It, (srtF It.n s xs).length = xs.length := fun s hs xs => srtF_len It.n s hs (length_isort It.n) _ xs (Nat.le_refl _)
  (refine S.slices_stableCmpFunc_huff_weighed_int_cn fun F => ?_; unfold S.slices_stableCmpFunc_huff_weighed_int; simp only [List.cons_append, List.nil_append])
  refine e_loop2 (fun m x y => (ex fun q : List It × List It => all [pu (m = q.2.length ∧ x = .int .i64 (q.1.length : Int) ∧ y = .int .i64 (q.1.length + 20 : Nat) ∧ q.1.length + q.2.length = n ∧ srtF It.n 20 X = q.1 ++ srtF It.n 20 q.2), ItS g cap n (q.1 ++ q.2)]) :: F) n ?_ ?_
  · refine .ex ([], X) (.all ?_)
    (try simp only [List.cons_append, List.nil_append, -eq_self])
    refine .pu ⟨hn.symm, rfl, rfl, by simp; omega, rfl⟩ ?_
    exact .refl
  intro m ds x y
  refine e_ex .here fun q => e_all .here ?_
  obtain ⟨G, Y⟩ := q
  (try simp only [List.cons_append, List.nil_append, -eq_self])
  refine e_pu .here fun hq => ?_
  (try dsimp only at hq)
  (try dsimp only)
  obtain ⟨hmq, rfl, rfl, hGY, hS⟩ := hq
  refine e_ask v_leq Imp.nil (fun h => ?_) (fun h => ?_)
  · have h20 : 20 ≤ Y.length := by omega
    refine e_condT ?_
    have e : G ++ Y = G ++ Y.take 20 ++ Y.drop 20 := by rw [List.append_assoc, List.take_append_drop]
    rw [e]
    refine e_call (insertionP (P := G) (X := Y.take 20) (R := Y.drop 20) (by rw [← e, List.length_append]; omega) (by omega) rfl (by rw [List.length_take, Nat.min_eq_left h20])) (.cons .here .nil) fun _ => ?_
    (try simp only [List.cons_append, List.nil_append, -eq_self])
    refine e_opN (v_add (by omega) (by omega)) Imp.nil ?_
    have hl : (isort It.n (Y.take 20)).length = 20 := by rw [length_isort, List.length_take]; omega
    rcases Nat.lt_or_ge 20 Y.length with c | c
    · refine e_next2 (Y.length - 20) (by omega) (.ex (G ++ isort It.n (Y.take 20), Y.drop 20) (.all ?_))
      (try simp only [List.cons_append, List.nil_append, -eq_self])
      refine .pu ⟨by simp, by rw [List.length_append, hl], by (try dsimp only); rw [List.length_append, hl]; norm_cast, by (try dsimp only); rw [List.length_append, hl, List.length_drop]; omega, ?_⟩ ?_
      · rw [hS, srtF_more It.n (by decide) c, List.append_assoc]
      · exact .refl
    · -- the last piece is whole: nothing is left
      have hY : Y.take 20 = Y := List.take_of_length_le c
      have hY2 : Y.drop 20 = [] := List.drop_eq_nil_of_le c
      refine e_next2 0 (by omega) (.ex (G ++ isort It.n (Y.take 20), []) (.all ?_))
      (try simp only [List.cons_append, List.nil_append, -eq_self])
      refine .pu ⟨rfl, by rw [List.length_append, hl], by (try dsimp only); rw [List.length_append, hl]; norm_cast, by (try dsimp only); rw [List.length_append, hl]; simp; omega, ?_⟩ ?_
      · rw [hS, srtF_small It.n c, hY, srtF_small It.n (show ([] : List It).length ≤ 20 by simp), show isort It.n ([] : List It) = [] from rfl, List.append_nil]
      · rw [hY2]
        exact .refl
  refine e_condF ?_
  refine e_call (insertionP (P := G) (X := Y) (R := []) (by rw [List.append_nil, List.length_append]; omega) (by omega) rfl (by omega)) (.cons (by
    rw [show ItS g cap n (G ++ Y ++ []) = ItS g cap n (G ++ Y) by rw [List.append_nil]]
    exact .here) .nil) fun _ => ?_
  (try simp only [List.cons_append, List.nil_append, -eq_self])
  have hS2 : G ++ isort It.n Y ++ [] = srtF It.n 20 X := by rw [hS, srtF_small It.n (by omega), List.append_nil]
  rw [hS2]
  refine e_loop1 (fun m y => (ex fun s : Nat => all [pu (m + s = 2 * n + 20 ∧ 20 ≤ s ∧ y = .int .i64 (s : Int) ∧ s ≤ 2 * n + 20), ItS g cap n (srtF It.n s X)]) :: F) (2 * n) ?_ ?_
  · refine .ex 20 (.all ?_)
    (try simp only [List.cons_append, List.nil_append, -eq_self])
    refine .pu ⟨by omega, by omega, rfl, by omega⟩ ?_
    exact .refl
  intro m2 ds2 y
  refine e_ex .here fun s => e_all .here ?_
  (try simp only [List.cons_append, List.nil_append, -eq_self])
  refine e_pu .here fun hs => ?_
  obtain ⟨hms, hs20, rfl, hsl⟩ := hs
  refine e_ask v_lss Imp.nil (fun h2 => ?_) (fun h2 => ?_)
  · have hsn : s < n := by omega
    refine e_condT ?_
    refine e_opN (v_mul (by omega) (by omega)) Imp.nil ?_
    refine e_loop2 (fun m x y => (ex fun q : List It × List It => all [pu (m = q.2.length ∧ x = .int .i64 (q.1.length : Int) ∧ y = .int .i64 (q.1.length + 2 * s : Nat) ∧ q.1.length + q.2.length = n ∧ srtF It.n (2 * s) X = q.1 ++ srtF It.n (2 * s) q.2), ItS g cap n (q.1 ++ srtF It.n s q.2)]) :: F) n ?_ ?_
    · refine .ex ([], X) (.all ?_)
      (try simp only [List.cons_append, List.nil_append, -eq_self])
      refine .pu ⟨hn.symm, rfl, by simp, by simp; omega, rfl⟩ ?_
      exact .refl
    intro m3 ds3 x3 y3
    refine e_ex .here fun q => e_all .here ?_
    obtain ⟨G, Y⟩ := q
    (try simp only [List.cons_append, List.nil_append, -eq_self])
    refine e_pu .here fun hq => ?_
    (try dsimp only at hq)
    (try dsimp only)
    obtain ⟨hmq, rfl, rfl, hGY, hS⟩ := hq
    have u1 := isort_up It.n _ (Y.take s) rfl
    refine e_ask v_leq Imp.nil (fun h3 => ?_) (fun h3 => ?_)
    · have h2s : 2 * s ≤ Y.length := by omega
      refine e_condT ?_
      refine e_opN (v_add (by omega) (by omega)) Imp.nil ?_
      have l1 : (isort It.n (Y.take s)).length = s := by rw [length_isort, List.length_take]; omega
      have l2 : (isort It.n ((Y.drop s).take s)).length = s := by rw [length_isort, List.length_take, List.length_drop]; omega
      have u2 := isort_up It.n _ ((Y.drop s).take s) rfl
      have hM : mrg It.n (isort It.n (Y.take s)) (isort It.n ((Y.drop s).take s)) = isort It.n (Y.take (2 * s)) := by
        rw [isort_app It.n _ _ _ rfl]
        congr 1
        rw [show 2 * s = s + s by omega, List.take_add]
      obtain ⟨Z, hZ⟩ : ∃ Z, Z = (if 2 * s < Y.length then srtF It.n s (Y.drop (2 * s)) else []) := ⟨_, rfl⟩
      have hsrt : srtF It.n s Y = isort It.n (Y.take s) ++ isort It.n ((Y.drop s).take s) ++ Z := by
        rw [srtF_more It.n (by omega) (by omega), List.append_assoc]
        congr 1
        rw [hZ]
        split
        · rename_i c
          rw [srtF_more It.n (by omega) (by rw [List.length_drop]; omega), List.drop_drop, show s + s = 2 * s by omega]
        · rename_i c
          rw [srtF_small It.n (by rw [List.length_drop]; omega), List.append_nil, List.take_of_length_le (by rw [List.length_drop]; omega)]
      have e : G ++ srtF It.n s Y = G ++ isort It.n (Y.take s) ++ isort It.n ((Y.drop s).take s) ++ Z := by rw [hsrt]; simp only [List.append_assoc]
      have lall : (G ++ isort It.n (Y.take s) ++ isort It.n ((Y.drop s).take s) ++ Z).length = n := by
        rw [← e, List.length_append, hlen s (by omega)]; omega
      rw [e]
      refine e_call (symMerge (by omega) _ (P := G) (U := isort It.n (Y.take s)) (V := isort It.n ((Y.drop s).take s)) (R := Z) (Nat.le_refl _) lall (by omega) (by omega) u1 u2 rfl (by rw [l1]; omega) (by rw [l1, l2]; omega)) (.cons .here .nil) fun _ => ?_
      (try simp only [List.cons_append, List.nil_append, -eq_self])
      rw [hM]
      have l3 : (isort It.n (Y.take (2 * s))).length = 2 * s := by rw [length_isort, List.length_take]; omega
      refine e_opN (v_mul (by omega) (by omega)) Imp.nil ?_
      refine e_opN (v_add (by omega) (by omega)) Imp.nil ?_
      rcases Nat.lt_or_ge (2 * s) Y.length with c | c
      · refine e_next2 (Y.length - 2 * s) (by omega) (.ex (G ++ isort It.n (Y.take (2 * s)), Y.drop (2 * s)) (.all ?_))
        (try simp only [List.cons_append, List.nil_append, -eq_self])
        refine .pu ⟨by simp, by rw [List.length_append, l3], by (try dsimp only); rw [List.length_append, l3]; congr 1 <;> omega, by (try dsimp only); rw [List.length_append, l3, List.length_drop]; omega, ?_⟩ ?_
        · rw [hS, srtF_more It.n (by omega) c, List.append_assoc]
        · rw [hZ, if_pos c]
          exact .refl
      · refine e_next2 0 (by omega) (.ex (G ++ isort It.n (Y.take (2 * s)), []) (.all ?_))
        (try simp only [List.cons_append, List.nil_append, -eq_self])
        have hz0 : srtF It.n s ([] : List It) = [] := by rw [srtF_small It.n (by simp)]; rfl
        have hz1 : srtF It.n (2 * s) ([] : List It) = [] := by rw [srtF_small It.n (by simp)]; rfl
        refine .pu ⟨rfl, by rw [List.length_append, l3], by (try dsimp only); rw [List.length_append, l3]; congr 1 <;> omega, by (try dsimp only); rw [List.length_append, l3]; simp; omega, ?_⟩ ?_
        · rw [hS, srtF_small It.n c, List.take_of_length_le c, hz1, List.append_nil]
        · rw [hZ, if_neg (by omega)]
          (try dsimp only)
          rw [hz0]
          exact .refl
    · refine e_condF ?_
      refine e_opN (v_add (by omega) (by omega)) Imp.nil ?_
      have fin : Ent W (ItS g cap n (G ++ isort It.n Y) :: F) (opN Try.prog (sBin .mul 3 (.int .i64 (s : Int)) (.int .i64 2)) noP fun x62 => next1 (fun m y w => sat W ((ex fun s : Nat => all [pu (m + s = 2 * n + 20 ∧ 20 ≤ s ∧ y = .int .i64 (s : Int) ∧ s ≤ 2 * n + 20), ItS g cap n (srtF It.n s X)]) :: F) w) m2 x62) := by
        refine e_opN (v_mul (by omega) (by omega)) Imp.nil ?_
        refine e_next1 (m2 - s) (by omega) (.ex (2 * s) (.all ?_))
        (try simp only [List.cons_append, List.nil_append, -eq_self])
        refine .pu ⟨by omega, by omega, by congr 1; omega, by omega⟩ ?_
        rw [hS, srtF_small It.n (by omega)]
        exact .refl
      refine e_ask v_lss Imp.nil (fun h4 => ?_) (fun h4 => ?_)
      · have hsY : s < Y.length := by omega
        have l1 : (isort It.n (Y.take s)).length = s := by rw [length_isort, List.length_take]; omega
        have l2 : (isort It.n (Y.drop s)).length = Y.length - s := by rw [length_isort, List.length_drop]
        have u2 := isort_up It.n _ (Y.drop s) rfl
        have hM : mrg It.n (isort It.n (Y.take s)) (isort It.n (Y.drop s)) = isort It.n Y := by
          rw [isort_app It.n _ _ _ rfl, List.take_append_drop]
        have e : G ++ srtF It.n s Y = G ++ isort It.n (Y.take s) ++ isort It.n (Y.drop s) ++ [] := by
          rw [srtF_more It.n (by omega) hsY, srtF_small It.n (by rw [List.length_drop]; omega)]
          simp only [List.append_assoc, List.append_nil]
        have lall : (G ++ isort It.n (Y.take s) ++ isort It.n (Y.drop s) ++ []).length = n := by
          rw [← e, List.length_append, hlen s (by omega)]; omega
        rw [e]
        refine e_condT ?_
        refine e_call (symMerge (by omega) _ (P := G) (U := isort It.n (Y.take s)) (V := isort It.n (Y.drop s)) (R := []) (Nat.le_refl _) lall (by omega) (by omega) u1 u2 rfl (by rw [l1]; omega) (by rw [l1, l2]; omega)) (.cons .here .nil) fun _ => ?_
        (try simp only [List.cons_append, List.nil_append, -eq_self])
        rw [hM, List.append_nil]
        exact fin
      · refine e_condF ?_
        rw [srtF_small It.n (show Y.length ≤ s by omega)]
        exact fin
  · refine e_condF ?_
    rw [srtF_small It.n (by omega)]
    (first | refine e_ret (()) rfl ?_ | refine e_retT (()) ?_)
    exact .refl
theorem sortedA {W : World} {a : Option Addr} {cap c : Nat} {xs : List It} (hx : xs.length ≤ 268435456) :
    Cn Try.prog 43 [.slice a xs.length c, fn 44] W [Sl 2 86 a cap xs.length (xs.flatMap ic)] (fun _ : Unit => .tuple #[]) (fun _ => [Sl 2 86 a cap xs.length ((isort It.n xs).flatMap ic)]) := by
  rcases Nat.lt_or_ge xs.length 20 with h | h
  · exact sorted h
  (refine S.slices_SortStableFunc_huff_weighed_int_huff_weighed_int_cn fun F => ?_; unfold S.slices_SortStableFunc_huff_weighed_int_huff_weighed_int; simp only [List.cons_append, List.nil_append])
  (((with_reducible refine e_opN v_len Imp.nil ?_)))
  refine e_slsome (a := a) .here (by omega) fun g hg => ?_
  subst hg
  refine e_call (stable (g := g) (cap := cap) (X := xs) rfl hx) (.cons .here .nil) fun _ => ?_
  (try simp only [List.cons_append, List.nil_append, -eq_self])
  (first | refine e_ret (()) rfl ?_ | refine e_retT (()) ?_)
  exact .refl
end Go.Proofs.Ytehfblkpbadikaa.HF
