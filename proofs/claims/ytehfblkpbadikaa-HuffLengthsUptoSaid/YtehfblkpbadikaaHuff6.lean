/- Few items sorted, as they come. No conditions but those that each names. -/
import Derived.Test.YtehfblkpbadikaaHuff5
set_option linter.unusedVariables false
set_option linter.unusedSimpArgs false
namespace Go.Proofs.Ytehfblkpbadikaa.HF
open Go Go.Proofs Go.RowKit Go.Proofs.Ytehfblkpbadikaa.Sh Go.Proofs.Ytehfblkpbadikaa.Sl Go.Proofs.Ytehfblkpbadikaa.T Go.Proofs.Ytehfblkpbadikaa.HM
theorem rd_slS {P : Program} {W : World} {s : Nat} {e : TypeId} {a : Option Addr} {cap n : Nat} {cs : List Value} (hl : cs.length = n * s) (ha : 0 < n → ∃ g, a = some ⟨g, 0, none⟩) : RdB W (Sl s e a cap n cs) a (n * s) cs := ⟨hl, fun hn => by
  have hn0 : 0 < n := Nat.pos_of_mul_pos_right hn
  obtain ⟨g, rfl⟩ := ha hn0
  refine ⟨g, 0, rfl, fun w L hw j v hv => ?_⟩
  obtain ⟨rest, r1, r2, r3, r4, hp⟩ := sl_row hw
  rw [Nat.zero_add, hp.cell]
  have hj : j < cs.length := by
    rcases Nat.lt_or_ge j cs.length with c | c
    · exact c
    · rw [List.getElem?_eq_none c] at hv; cases hv
  simpa [List.getElem?_append_left hj] using hv⟩
/-- an item loaded whole -/
theorem v_ldIt {W : World} {A : HP} {g o j : Nat} {ys : List It} (H : RdB W A (some ⟨g, o, none⟩) (ys.length * 2) (ys.flatMap ic)) (hj : j < ys.length) : RunV Try.prog W [A] (sLoad 86 (.pointer (some ⟨g, o + j * 2, none⟩))) (av ys[j]) :=
  v_ldRdA (vs := ic ys[j]) H (by rfl) fun i hi => flat_get ic_len ys j i hj hi
section spec
variable {α : Type} (key : α → Int)
def insAt (acc : List α) (x : α) : Nat → List α
  | 0 => x :: acc
  | j + 1 => match acc[j]? with
    | some y => if key x < key y then insAt acc x j else acc.take (j + 1) ++ x :: acc.drop (j + 1)
    | none => acc ++ [x]
def insR (acc : List α) (x : α) : List α := insAt key acc x acc.length
def isort (xs : List α) : List α := xs.foldl (insR key) []
theorem length_insAt (acc : List α) (x : α) : ∀ j, (insAt key acc x j).length = acc.length + 1
  | 0 => by simp [insAt]
  | j + 1 => by
    unfold insAt
    split
    · split
      · exact length_insAt acc x j
      · simp; omega
    · simp
theorem isort_snoc (xs : List α) (x : α) : isort key (xs ++ [x]) = insR key (isort key xs) x := by simp [isort]
theorem length_isort (xs : List α) : (isort key xs).length = xs.length := by
  have : ∀ n, ∀ xs : List α, xs.length = n → (isort key xs).length = n := by
    intro n
    induction n with
    | zero => intro xs h; rw [List.eq_nil_of_length_eq_zero h]; rfl
    | succ n ih =>
      intro xs h
      have e := List.take_append_drop n xs
      obtain ⟨x, hx⟩ : ∃ x, xs.drop n = [x] := List.length_eq_one_iff.1 (by simp; omega)
      rw [hx] at e
      rw [← e, isort_snoc, insR, length_insAt, ih _ (by simp; omega)]
  exact this _ xs rfl
theorem insAt_map {β : Type} (k2 : β → Int) (f : α → β) (hk : ∀ x, k2 (f x) = key x) (acc : List α) (x : α) : ∀ j, (insAt key acc x j).map f = insAt k2 (acc.map f) (f x) j
  | 0 => by simp [insAt]
  | j + 1 => by
    unfold insAt
    rw [List.getElem?_map]
    cases h : acc[j]? with
    | none => simp
    | some y =>
      simp only [Option.map_some, hk]
      split
      · exact insAt_map k2 f hk acc x j
      · simp [List.map_take, List.map_drop]
theorem isort_map {β : Type} (k2 : β → Int) (f : α → β) (hk : ∀ x, k2 (f x) = key x) (xs : List α) : (isort key xs).map f = isort k2 (xs.map f) := by
  have : ∀ (xs acc : List α), (xs.foldl (insR key) acc).map f = (xs.map f).foldl (insR k2) (acc.map f) := by
    intro xs
    induction xs with
    | nil => intro acc; rfl
    | cons x xs ih =>
      intro acc
      rw [List.foldl_cons, ih, List.map_cons, List.foldl_cons]
      congr 1
      unfold insR
      rw [insAt_map key k2 f hk, List.length_map]
  exact this xs []
theorem mem_insAt (acc : List α) (x y : α) : ∀ j, y ∈ insAt key acc x j → y = x ∨ y ∈ acc
  | 0, h => by simpa [insAt] using h
  | j + 1, h => by
    unfold insAt at h
    split at h
    · split at h
      · exact mem_insAt acc x y j h
      · rcases List.mem_append.1 h with c | c
        · exact .inr (List.mem_of_mem_take c)
        · rcases List.mem_cons.1 c with c | c
          · exact .inl c
          · exact .inr (List.mem_of_mem_drop c)
    · rcases List.mem_append.1 h with c | c
      · exact .inr c
      · exact .inl (by simpa using c)
theorem mem_isort (xs : List α) (y : α) (h : y ∈ isort key xs) : y ∈ xs := by
  have : ∀ (xs acc : List α), y ∈ xs.foldl (insR key) acc → y ∈ xs ∨ y ∈ acc := by
    intro xs
    induction xs with
    | nil => intro acc h; exact .inr h
    | cons x xs ih =>
      intro acc h
      rw [List.foldl_cons] at h
      rcases ih _ h with c | c
      · exact .inl (List.mem_cons_of_mem _ c)
      · rcases mem_insAt key acc x y _ c with d | d
        · exact .inl (by rw [d]; exact List.mem_cons_self)
        · exact .inr d
  rcases this xs [] h with c | c
  · exact c
  · cases c
end spec
theorem swap_lem {α : Type} (p q : List α) (y x : α) : ((p ++ y :: x :: q).set (p.length + 1) y).set p.length x = p ++ x :: y :: q := by
  rw [List.set_append_right _ _ (by omega), List.set_append_right _ _ (by omega), show p.length + 1 - p.length = 1 by omega, Nat.sub_self]; rfl
theorem insertion {W : World} {a : Option Addr} {cap c : Nat} {xs : List It} (hx : xs.length ≤ 1099511627776) :
    Cn Try.prog 80 [.slice a xs.length c, .int .i64 0, .int .i64 (xs.length : Int), fn 44] W [Sl 2 86 a cap xs.length (xs.flatMap ic)] (fun _ : Unit => .tuple #[]) (fun _ => [Sl 2 86 a cap xs.length ((isort It.n xs).flatMap ic)]) := by
  (refine S.slices_insertionSortCmpFunc_huff_weighed_int_cn fun F => ?_; unfold S.slices_insertionSortCmpFunc_huff_weighed_int; simp only [List.cons_append, List.nil_append])
  (((with_reducible refine e_opN (v_add ?h1 ?h2) Imp.nil ?_); (case h1 => omega); (case h2 => omega)))
  refine e_slfacts .here fun f1 f2 f3 f4 => ?_
  refine e_loop1 (fun m y => [ex fun i : Nat => all [pu (m + i = xs.length + 1 ∧ 1 ≤ i ∧ y = .int .i64 (i : Int)), Sl 2 86 a cap xs.length ((isort It.n (xs.take i) ++ xs.drop i).flatMap ic)]] ++ F) xs.length ?_ ?_
  · refine Imp.ex 1 (.all ?_)
    (try simp only [List.cons_append, List.nil_append, -eq_self])
    refine .pu ⟨by omega, by omega, by rfl⟩ ?_
    have e : isort It.n (xs.take 1) ++ xs.drop 1 = xs := by
      cases xs with
      | nil => rfl
      | cons x xs => rfl
    rw [e]
    (repeat (first | exact Imp.refl | exact Imp.nil | (apply Imp.pick; (focus ((repeat constructor); done))) | refine Imp.drop ?_))
  intro m ds y
  (try simp only [List.cons_append, List.nil_append, -eq_self])
  refine e_ex Pick.here fun i => e_all Pick.here ?_
  (try simp only [List.cons_append, List.nil_append, -eq_self])
  refine e_pu Pick.here fun hi => ?_
  obtain ⟨hmi, hi1, rfl⟩ := hi
  (refine e_ask v_lss Imp.nil (fun h => ?_) (fun h => ?_))
  · have hil : i < xs.length := by omega
    obtain ⟨g, rfl⟩ := f4 (by omega)
    obtain ⟨acc, hacc⟩ : ∃ acc, acc = isort It.n (xs.take i) := ⟨_, rfl⟩
    have hal : acc.length = i := by rw [hacc, length_isort, List.length_take]; omega
    have hdrop : xs.drop i = xs[i] :: xs.drop (i + 1) := List.drop_eq_getElem_cons hil
    have hnext : isort It.n (xs.take (i + 1)) = insR It.n acc xs[i] := by rw [List.take_succ_eq_append_getElem hil, isort_snoc, hacc]
    rw [← hacc, hdrop]
    refine e_condT ?_
    refine e_loop1 (fun m y => [ex fun j : Nat => all [pu (m = j ∧ j ≤ i ∧ y = .int .i64 (j : Int) ∧ insR It.n acc xs[i] = insAt It.n acc xs[i] j), Sl 2 86 (some ⟨g, 0, none⟩) cap xs.length ((acc.take j ++ xs[i] :: (acc.drop j ++ xs.drop (i + 1))).flatMap ic)]] ++ F) i ?_ ?_
    · refine Imp.ex i (.all ?_)
      (try simp only [List.cons_append, List.nil_append, -eq_self])
      refine .pu ⟨rfl, by omega, rfl, by unfold insR; rw [hal]⟩ ?_
      rw [List.take_of_length_le (by omega), List.drop_eq_nil_of_le (show acc.length ≤ i by omega), List.nil_append]
      (repeat (first | exact Imp.refl | exact Imp.nil | (apply Imp.pick; (focus ((repeat constructor); done))) | refine Imp.drop ?_))
    intro m2 ds y
    (try simp only [List.cons_append, List.nil_append, -eq_self])
    refine e_ex Pick.here fun j => e_all Pick.here ?_
    (try simp only [List.cons_append, List.nil_append, -eq_self])
    refine e_pu Pick.here fun hj => ?_
    obtain ⟨rfl, hji, rfl, hins⟩ := hj
    have done : insR It.n acc xs[i] = acc.take m2 ++ xs[i] :: acc.drop m2 → Ent W (Sl 2 86 (some ⟨g, 0, none⟩) cap xs.length ((acc.take m2 ++ xs[i] :: (acc.drop m2 ++ xs.drop (i + 1))).flatMap ic) :: F) (next1 (fun m y w => sat W ([ex fun i : Nat => all [pu (m + i = xs.length + 1 ∧ 1 ≤ i ∧ y = .int .i64 (i : Int)), Sl 2 86 (some ⟨g, 0, none⟩) cap xs.length ((isort It.n (xs.take i) ++ xs.drop i).flatMap ic)]] ++ F) w) m (.int .i64 ((i : Int) + 1))) := by
      intro he
      refine e_next1 (m - 1) (by omega) (.ex (i + 1) (.all ?_))
      (try simp only [List.cons_append, List.nil_append, -eq_self])
      refine .pu ⟨by omega, by omega, by norm_cast⟩ ?_
      rw [hnext, he, List.append_assoc, List.cons_append]
      (repeat (first | exact Imp.refl | exact Imp.nil | (apply Imp.pick; (focus ((repeat constructor); done))) | refine Imp.drop ?_))
    ((with_reducible refine e_drS ?_))
    refine e_askS v_gtr Imp.nil (fun h => ?_) (fun h => ?_)
    · obtain ⟨j, rfl⟩ : ∃ j, m2 = j + 1 := ⟨m2 - 1, by omega⟩
      have hja : j < acc.length := by omega
      obtain ⟨p, hp⟩ : ∃ p, p = acc.take j := ⟨_, rfl⟩
      obtain ⟨q, hq⟩ : ∃ q, q = acc.drop (j + 1) ++ xs.drop (i + 1) := ⟨_, rfl⟩
      have hpl : p.length = j := by rw [hp, List.length_take]; omega
      have htk : acc.take (j + 1) = p ++ [acc[j]] := by rw [hp, List.take_succ_eq_append_getElem hja]
      have hys : acc.take (j + 1) ++ xs[i] :: (acc.drop (j + 1) ++ xs.drop (i + 1)) = p ++ acc[j] :: xs[i] :: q := by rw [htk, hq]; simp
      rw [hys] at done
      rw [hys]
      have hyl : (p ++ acc[j] :: xs[i] :: q).length = xs.length := by
        rw [← hys]; simp; omega
      have hrd : RdB W (Sl 2 86 (some ⟨g, 0, none⟩) cap xs.length ((p ++ acc[j] :: xs[i] :: q).flatMap ic)) (some ⟨g, 0, none⟩) ((p ++ acc[j] :: xs[i] :: q).length * 2) ((p ++ acc[j] :: xs[i] :: q).flatMap ic) := by
        rw [hyl]; exact rd_slS (P := Try.prog) (by rw [ics_len, hyl]) (fun _ => ⟨g, rfl⟩)
      have g1 : (p ++ acc[j] :: xs[i] :: q)[j + 1]'(by omega) = xs[i] := by
        rw [List.getElem_append_right (by omega)]; simp [hpl]
      have g0 : (p ++ acc[j] :: xs[i] :: q)[j]'(by omega) = acc[j] := by
        rw [List.getElem_append_right (by omega)]; simp [hpl]
      have ld1 := v_ldIt hrd (j := j + 1) (by omega)
      have ld0 := v_ldIt hrd (j := j) (by omega)
      rw [g1] at ld1
      rw [g0] at ld0
      ((with_reducible refine e_gdT ?_)); ((with_reducible refine e_gdT ?_)); ((with_reducible refine e_gdT ?_)); ((with_reducible refine e_gdT ?_))
      refine e_stS (v_ia (j + 1) (by rfl) (by omega)) Imp.nil ?_
      ((with_reducible refine e_gdT ?_))
      refine e_stS ld1 (.pick .here .nil) ?_
      ((with_reducible refine e_gdT ?_)); ((with_reducible refine e_gdT ?_)); ((with_reducible refine e_gdT ?_)); (((with_reducible refine e_stS (v_sub ?h1 ?h2) Imp.nil ?_); (case h1 => omega); (case h2 => omega))); ((with_reducible refine e_gdT ?_))
      refine e_stS (v_ia j (by omega) (by omega)) Imp.nil ?_
      ((with_reducible refine e_gdT ?_))
      refine e_stS ld0 (.pick .here .nil) ?_
      ((with_reducible refine e_gdT ?_))
      (refine' e_call (cmpIt) ?hp fun _ => ?_; (case hp => (repeat (first | exact Picks.nil | (apply Picks.cons; (focus (repeat constructor)))))); (try simp only [List.cons_append, List.nil_append, Bool.not_true, Bool.not_false]))
      ((with_reducible refine e_gdT ?_))
      refine e_askS v_lss Imp.nil (fun h2 => ?_) (fun h2 => ?_)
      · have hlt : xs[i].n < acc[j].n := by
          by_cases c : xs[i].n < acc[j].n
          · exact c
          · rw [if_neg c] at h2; split at h2 <;> omega
        (((with_reducible refine e_stS v_pickT Imp.nil ?_))); ((with_reducible refine e_condT ?_)); ((with_reducible refine e_drS ?_)); (((with_reducible refine e_stD (v_sub ?h1 ?h2) Imp.nil ?_); (case h1 => omega); (case h2 => omega))); (((with_reducible refine e_stS (v_sub ?h1 ?h2) Imp.nil ?_); (case h1 => omega); (case h2 => omega)))
        refine e_stS (v_ia j (by omega) (by omega)) Imp.nil ?_
        refine e_stS ld0 (.pick .here .nil) ?_
        refine e_stS (v_ia (j + 1) (by rfl) (by omega)) Imp.nil ?_
        refine e_stS ld1 (.pick .here .nil) ?_
        refine e_stS (v_ia (j + 1) (by rfl) (by omega)) Imp.nil ?_
        rw [Nat.zero_add]
        refine e_stSlA .here (by rfl) (by rw [ics_len]; omega) (ic_one acc[j]) ?_
        rw [show ((p ++ acc[j] :: xs[i] :: q).flatMap ic).take ((j + 1) * 2) ++ (#[I acc[j].n, Value.slice (some ⟨acc[j].g, 0, none⟩) acc[j].w.length acc[j].c] : Array Value).toList ++ ((p ++ acc[j] :: xs[i] :: q).flatMap ic).drop ((j + 1) * 2 + 2) = ((p ++ acc[j] :: xs[i] :: q).set (j + 1) acc[j]).flatMap ic from ics_set _ (j + 1) acc[j] (by omega)]
        (((with_reducible refine e_obl ?hi ?_); (case hi => (repeat (first | exact Imp.refl | exact Imp.nil | (apply Imp.pick; (focus ((repeat constructor); done))) | refine Imp.drop ?_)))))
        refine e_stS (v_ia j (by omega) (by omega)) Imp.nil ?_
        rw [Nat.zero_add]
        refine e_stSlA .here (by rfl) (by rw [ics_len, List.length_set]; omega) (ic_one xs[i]) ?_
        rw [show (((p ++ acc[j] :: xs[i] :: q).set (j + 1) acc[j]).flatMap ic).take (j * 2) ++ (#[I xs[i].n, Value.slice (some ⟨xs[i].g, 0, none⟩) xs[i].w.length xs[i].c] : Array Value).toList ++ (((p ++ acc[j] :: xs[i] :: q).set (j + 1) acc[j]).flatMap ic).drop (j * 2 + 2) = (((p ++ acc[j] :: xs[i] :: q).set (j + 1) acc[j]).set j xs[i]).flatMap ic from ics_set _ j xs[i] (by rw [List.length_set]; omega)]
        have hsw := swap_lem p q acc[j] xs[i]
        rw [hpl] at hsw
        rw [hsw]
        (((with_reducible refine e_opN (v_sub ?h1 ?h2) Imp.nil ?_); (case h1 => omega); (case h2 => omega)))
        refine e_next1 j (by omega) (.ex j (.all ?_))
        (try simp only [List.cons_append, List.nil_append, -eq_self])
        refine .pu ⟨rfl, by omega, by congr 1; omega, ?_⟩ ?_
        · rw [hins]
          conv => lhs; unfold insAt
          rw [List.getElem?_eq_getElem hja]
          simp only
          rw [if_pos hlt]
        · rw [show acc.take j ++ xs[i] :: (acc.drop j ++ xs.drop (i + 1)) = p ++ xs[i] :: acc[j] :: q by rw [hp, hq, List.drop_eq_getElem_cons hja]; rfl]
          (repeat (first | exact Imp.refl | exact Imp.nil | (apply Imp.pick; (focus ((repeat constructor); done))) | refine Imp.drop ?_))
      · have hge : ¬ xs[i].n < acc[j].n := fun c => h2 (by rw [if_pos c]; omega)
        (((with_reducible refine e_stS v_pickT Imp.nil ?_))); ((with_reducible refine e_condF ?_)); (((with_reducible refine e_opN (v_add ?h1 ?h2) Imp.nil ?_); (case h1 => omega); (case h2 => omega)))
        refine done ?_
        rw [hins]
        conv => lhs; unfold insAt
        rw [List.getElem?_eq_getElem hja]
        simp only
        rw [if_neg hge]
    · have : m2 = 0 := by omega
      subst this
      ((with_reducible refine e_gdF2 ?_)); ((with_reducible refine e_gdF2 ?_)); ((with_reducible refine e_gdF2 ?_)); ((with_reducible refine e_gdF2 ?_)); ((with_reducible refine e_gdF2 ?_)); ((with_reducible refine e_gdF2 ?_)); ((with_reducible refine e_gdF2 ?_)); ((with_reducible refine e_gdF2 ?_)); ((with_reducible refine e_gdF2 ?_)); ((with_reducible refine e_gdF2 ?_)); ((with_reducible refine e_gdF2 ?_)); ((with_reducible refine e_gdF2 ?_)); (((with_reducible refine e_stS v_pickF Imp.nil ?_))); ((with_reducible refine e_condF ?_)); (((with_reducible refine e_opN (v_add ?h1 ?h2) Imp.nil ?_); (case h1 => omega); (case h2 => omega)))
      exact done (by rw [hins]; rfl)
  · refine e_condF ?_
    rw [List.take_of_length_le (by omega), List.drop_eq_nil_of_le (by omega), List.append_nil]
    (first | refine e_ret (()) rfl ?_ | refine e_retT (()) ?_)
    (repeat (first | exact Imp.refl | exact Imp.nil | (apply Imp.pick; (focus ((repeat constructor); done))) | refine Imp.drop ?_))
theorem sorted {W : World} {a : Option Addr} {cap c : Nat} {xs : List It} (hx : xs.length < 20) :
    Cn Try.prog 43 [.slice a xs.length c, fn 44] W [Sl 2 86 a cap xs.length (xs.flatMap ic)] (fun _ : Unit => .tuple #[]) (fun _ => [Sl 2 86 a cap xs.length ((isort It.n xs).flatMap ic)]) := by
  have inner : Cn Try.prog 63 [.slice a xs.length c, .int .i64 (xs.length : Int), fn 44] W [Sl 2 86 a cap xs.length (xs.flatMap ic)] (fun _ : Unit => .tuple #[]) (fun _ => [Sl 2 86 a cap xs.length ((isort It.n xs).flatMap ic)]) := by
    (refine S.slices_stableCmpFunc_huff_weighed_int_cn fun F => ?_; unfold S.slices_stableCmpFunc_huff_weighed_int; simp only [List.cons_append, List.nil_append])
    refine e_loop2 (fun m x y => [pu (x = .int .i64 0 ∧ y = .int .i64 20), Sl 2 86 a cap xs.length (xs.flatMap ic)] ++ F) 1 ?_ ?_
    · (try simp only [List.cons_append, List.nil_append, -eq_self])
      exact .pu ⟨rfl, rfl⟩ .refl
    intro m ds x y
    (try simp only [List.cons_append, List.nil_append, -eq_self])
    refine e_pu Pick.here fun hxy => ?_
    obtain ⟨rfl, rfl⟩ := hxy
    refine e_opN v_leq Imp.nil ?_
    rw [decide_eq_false (by omega)]
    ((with_reducible refine e_condF ?_))
    (refine' e_call (insertion (by omega)) ?hp fun _ => ?_; (case hp => (repeat (first | exact Picks.nil | (apply Picks.cons; (focus (repeat constructor)))))); (try simp only [List.cons_append, List.nil_append, Bool.not_true, Bool.not_false]))
    refine e_loop1 (fun m y => [pu (y = .int .i64 20), Sl 2 86 a cap xs.length ((isort It.n xs).flatMap ic)] ++ F) 1 ?_ ?_
    · (try simp only [List.cons_append, List.nil_append, -eq_self])
      exact .pu rfl .refl
    intro m ds y
    (try simp only [List.cons_append, List.nil_append, -eq_self])
    refine e_pu Pick.here fun hy => ?_
    subst hy
    refine e_opN v_lss Imp.nil ?_
    rw [decide_eq_false (by omega)]
    ((with_reducible refine e_condF ?_))
    (first | refine e_ret (()) rfl ?_ | refine e_retT (()) ?_)
    (repeat (first | exact Imp.refl | exact Imp.nil | (apply Imp.pick; (focus ((repeat constructor); done))) | refine Imp.drop ?_))
  (refine S.slices_SortStableFunc_huff_weighed_int_huff_weighed_int_cn fun F => ?_; unfold S.slices_SortStableFunc_huff_weighed_int_huff_weighed_int; simp only [List.cons_append, List.nil_append])
  (((with_reducible refine e_opN v_len Imp.nil ?_)))
  (refine' e_call (inner) ?hp fun _ => ?_; (case hp => (repeat (first | exact Picks.nil | (apply Picks.cons; (focus (repeat constructor)))))); (try simp only [List.cons_append, List.nil_append, Bool.not_true, Bool.not_false]))
  (first | refine e_ret (()) rfl ?_ | refine e_retT (()) ?_)
  (repeat (first | exact Imp.refl | exact Imp.nil | (apply Imp.pick; (focus ((repeat constructor); done))) | refine Imp.drop ?_))
end Go.Proofs.Ytehfblkpbadikaa.HF
