/- Items swapped; ranges of them swapped; two parts of a row turned. Rows of at most 2^30 items. -/
import Derived.Test.YtehfblkpbadikaaHuffSo
set_option linter.unusedVariables false
set_option linter.unusedSimpArgs false
namespace Go.Proofs.Ytehfblkpbadikaa.HF
open Go Go.Proofs Go.RowKit Go.Proofs.Ytehfblkpbadikaa.Sh Go.Proofs.Ytehfblkpbadikaa.Sl Go.Proofs.Ytehfblkpbadikaa.T
abbrev ItS (g cap n : Nat) (D : List It) : HP := Sl 2 86 (some ⟨g, 0, none⟩) cap n (D.flatMap ic)
theorem ld_it {W : World} {g cap n j : Nat} {D : List It} (hn : D.length = n) (hj : j < D.length) : RunV Try.prog W [ItS g cap n D] (sLoad 86 (.pointer (some ⟨g, 0 + j * 2, none⟩))) (av D[j]) :=
  v_ldIt (A := ItS g cap n D) (by subst hn; exact rd_slS (P := Try.prog) (by rw [ics_len]) (fun _ => ⟨g, rfl⟩)) hj
theorem e_stIt {W : World} {L L' : List HP} {Kp : PK} {k : Value → WP} {g cap n j : Nat} {D : List It} {x : It} (p : Pick L (ItS g cap n D) L') (hj : j < D.length) (h : Ent W (ItS g cap n (D.set j x) :: L') (k undef)) :
    Ent W L (opN Try.prog (sStore 86 (.pointer (some ⟨g, 0 + j * 2, none⟩)) (av x)) Kp k) := by
  rw [Nat.zero_add]
  refine e_stSlA p (by rfl) (by rw [ics_len]; omega) (ic_one x) ?_
  rw [show (D.flatMap ic).take (j * 2) ++ (#[I x.n, Value.slice (some ⟨x.g, 0, none⟩) x.w.length x.c] : Array Value).toList ++ (D.flatMap ic).drop (j * 2 + 2) = (D.set j x).flatMap ic from ics_set _ j x hj]
  exact h
theorem set_mid {α : Type} (p q : List α) (x y : α) : (p ++ x :: q).set p.length y = p ++ y :: q := by
  rw [List.set_append_right _ _ (Nat.le_refl _), Nat.sub_self]; rfl
theorem get_mid {α : Type} (p q : List α) (x : α) (h : p.length < (p ++ x :: q).length) : (p ++ x :: q)[p.length] = x := by
  rw [List.getElem_append_right (Nat.le_refl _)]; simp
/-- two items swapped -/
theorem swap2 {α : Type} {p m q : List α} {x y : α} {i j : Nat} (hi : i = p.length) (hj : j = p.length + 1 + m.length) (h1 : i < (p ++ x :: (m ++ y :: q)).length) (h2 : j < (p ++ x :: (m ++ y :: q)).length) :
    (p ++ x :: (m ++ y :: q))[i] = x ∧ (p ++ x :: (m ++ y :: q))[j] = y ∧ ((p ++ x :: (m ++ y :: q)).set i y).set j x = p ++ y :: (m ++ x :: q) ∧ ((p ++ x :: (m ++ y :: q)).set j x).set i y = p ++ y :: (m ++ x :: q) := by
  subst hi
  have e : ∀ z : α, p ++ z :: (m ++ y :: q) = (p ++ z :: m) ++ y :: q := fun z => by simp
  have e' : ∀ z : α, p ++ z :: (m ++ x :: q) = (p ++ z :: m) ++ x :: q := fun z => by simp
  have l : ∀ z : α, (p ++ z :: m).length = j := fun z => by rw [List.length_append, List.length_cons, hj]; omega
  refine ⟨get_mid p _ x h1, ?_, ?_, ?_⟩
  · have := get_mid (p ++ x :: m) q y (by rw [← e, l x]; exact h2)
    simp only [l x, ← e] at this
    exact this
  · rw [set_mid, e, ← l y, set_mid, ← e']
  · rw [e, ← l x, set_mid, ← e', set_mid]
theorem swapRange {W : World} {g cap n c : Nat} {P X M Y R : List It} {i j k : Int} (hn : (P ++ X ++ M ++ Y ++ R).length = n) (hm : n ≤ 1073741824) (hXY : X.length = Y.length) (hi : i = (P.length : Int)) (hj : j = (P.length + X.length + M.length : Nat)) (hk : k = (X.length : Int)) :
    Cn Try.prog 106 [.slice (some ⟨g, 0, none⟩) n c, .int .i64 i, .int .i64 j, .int .i64 k, fn 44] W [ItS g cap n (P ++ X ++ M ++ Y ++ R)] (fun _ : Unit => .tuple #[]) (fun _ => [ItS g cap n (P ++ Y ++ M ++ X ++ R)]) := by
  subst hi; subst hj; subst hk
  (refine S.slices_swapRangeCmpFunc_huff_weighed_int_cn fun F => ?_; unfold S.slices_swapRangeCmpFunc_huff_weighed_int; simp only [List.cons_append, List.nil_append])
  refine e_loop1 (fun m y => (ex fun t : Nat => all [pu (m + t = X.length ∧ y = .int .i64 (t : Int)), ItS g cap n ((P ++ Y.take t) ++ X.drop t ++ M ++ (X.take t ++ Y.drop t) ++ R)]) :: F) X.length ?_ ?_
  · refine .ex 0 (.all ?_)
    (try simp only [List.cons_append, List.nil_append, -eq_self])
    refine .pu ⟨rfl, rfl⟩ ?_
    simp only [List.take_zero, List.drop_zero, List.append_nil, List.nil_append]
    exact .refl
  intro m ds y
  refine e_ex .here fun t => e_all .here ?_
  (try simp only [List.cons_append, List.nil_append, -eq_self])
  refine e_pu .here fun ht => ?_
  obtain ⟨hmt, rfl⟩ := ht
  simp only [List.length_append] at hn
  refine e_ask v_lss Imp.nil (fun h => ?_) (fun h => ?_)
  · have htX : t < X.length := by omega
    have htY : t < Y.length := by omega
    have hD : (P ++ Y.take t) ++ X.drop t ++ M ++ (X.take t ++ Y.drop t) ++ R = (P ++ Y.take t) ++ X[t] :: ((X.drop (t + 1) ++ M ++ X.take t) ++ Y[t] :: (Y.drop (t + 1) ++ R)) := by
      rw [List.drop_eq_getElem_cons htX, List.drop_eq_getElem_cons htY]; simp only [List.append_assoc, List.cons_append, List.nil_append]
    have hD2 : (P ++ Y.take (t + 1)) ++ X.drop (t + 1) ++ M ++ (X.take (t + 1) ++ Y.drop (t + 1)) ++ R = (P ++ Y.take t) ++ Y[t] :: ((X.drop (t + 1) ++ M ++ X.take t) ++ X[t] :: (Y.drop (t + 1) ++ R)) := by
      rw [List.take_succ_eq_append_getElem htX, List.take_succ_eq_append_getElem htY]; simp only [List.append_assoc, List.cons_append, List.nil_append]
    have hl1 : (P ++ Y.take t).length = P.length + t := by rw [List.length_append, List.length_take]; omega
    have hl2 : (X.drop (t + 1) ++ M ++ X.take t).length = X.length + M.length - 1 := by simp only [List.length_append, List.length_take, List.length_drop]; omega
    rw [hD]
    have hlen : ((P ++ Y.take t) ++ X[t] :: ((X.drop (t + 1) ++ M ++ X.take t) ++ Y[t] :: (Y.drop (t + 1) ++ R))).length = n := by
      rw [← hD]; simp only [List.length_append, List.length_take, List.length_drop]; omega
    obtain ⟨s1, s2, s3, s4⟩ := swap2 (p := P ++ Y.take t) (m := X.drop (t + 1) ++ M ++ X.take t) (q := Y.drop (t + 1) ++ R) (x := X[t]) (y := Y[t]) (i := P.length + t) (j := P.length + X.length + M.length + t) (by omega) (by rw [hl1, hl2]; omega) (by omega) (by omega)
    obtain ⟨D, hDe⟩ : ∃ D, D = (P ++ Y.take t) ++ X[t] :: ((X.drop (t + 1) ++ M ++ X.take t) ++ Y[t] :: (Y.drop (t + 1) ++ R)) := ⟨_, rfl⟩
    simp only [← hDe] at s1 s2 s3 s4 hlen ⊢
    have ld1 := ld_it (W := W) (g := g) (cap := cap) hlen (j := P.length + X.length + M.length + t) (by omega)
    have ld0 := ld_it (W := W) (g := g) (cap := cap) hlen (j := P.length + t) (by omega)
    rw [s2] at ld1
    rw [s1] at ld0
    refine e_condT ?_
    refine e_drS ?_
    refine e_stS (v_add (by omega) (by omega)) Imp.nil ?_
    refine e_stD (v_add (by omega) (by omega)) Imp.nil ?_
    refine e_stS (v_add (by omega) (by omega)) Imp.nil ?_
    refine e_stS (v_ia (P.length + X.length + M.length + t) (by omega) (by omega)) Imp.nil ?_
    refine e_stS ld1 (.pick .here .nil) ?_
    refine e_stS (v_add (by omega) (by omega)) Imp.nil ?_
    refine e_stS (v_ia (P.length + t) (by omega) (by omega)) Imp.nil ?_
    refine e_stS ld0 (.pick .here .nil) ?_
    refine e_stS (v_ia (P.length + t) (by omega) (by omega)) Imp.nil ?_
    refine e_stIt .here (by omega) ?_
    refine e_obl (by (repeat (first | exact Imp.refl | exact Imp.nil | (apply Imp.pick; (focus ((repeat constructor); done))) | refine Imp.drop ?_))) ?_
    refine e_stS (v_ia (P.length + X.length + M.length + t) (by omega) (by omega)) Imp.nil ?_
    refine e_stIt .here (by rw [List.length_set]; omega) ?_
    rw [s3]
    refine e_opN (v_add (by omega) (by omega)) Imp.nil ?_
    refine e_next1 (m - 1) (by omega) (.ex (t + 1) (.all ?_))
    (try simp only [List.cons_append, List.nil_append, -eq_self])
    refine .pu ⟨by omega, by norm_cast⟩ ?_
    rw [hD2]
    exact .refl
  · have hte : t = X.length := by omega
    subst hte
    rw [List.drop_length, List.take_length, hXY, List.drop_length, List.take_length, List.append_nil, List.append_nil]
    refine e_condF ?_
    (first | refine e_ret (()) rfl ?_ | refine e_retT (()) ?_)
    exact .refl
theorem rotate {W : World} {g cap n c : Nat} {P U V R : List It} {i j k : Int} (hn : (P ++ U ++ V ++ R).length = n) (hm : n ≤ 1073741824) (hU : 0 < U.length) (hV : 0 < V.length) (hi : i = (P.length : Int)) (hj : j = (P.length + U.length : Nat)) (hk : k = (P.length + U.length + V.length : Nat)) :
    Cn Try.prog 99 [.slice (some ⟨g, 0, none⟩) n c, .int .i64 i, .int .i64 j, .int .i64 k, fn 44] W [ItS g cap n (P ++ U ++ V ++ R)] (fun _ : Unit => .tuple #[]) (fun _ => [ItS g cap n (P ++ V ++ U ++ R)]) := by
  subst hi; subst hj; subst hk
  obtain ⟨T, hT⟩ : ∃ T, T = P ++ V ++ U ++ R := ⟨_, rfl⟩
  rw [← hT]
  have hn2 : P.length + U.length + V.length + R.length = n := by rw [← hn]; simp only [List.length_append]
  obtain ⟨md, hmd⟩ : ∃ md, md = P.length + U.length := ⟨_, rfl⟩
  rw [← hmd]
  (refine S.slices_rotateCmpFunc_huff_weighed_int_cn fun F => ?_; unfold S.slices_rotateCmpFunc_huff_weighed_int; simp only [List.cons_append, List.nil_append])
  refine e_opN (v_sub (by omega) (by omega)) Imp.nil ?_
  refine e_opN (v_sub (by omega) (by omega)) Imp.nil ?_
  refine e_loop2 (fun m x y => (ex fun q : (List It × List It) × (List It × List It) => all [pu (m = q.1.2.length + q.2.1.length ∧ x = .int .i64 (q.1.2.length : Int) ∧ y = .int .i64 (q.2.1.length : Int) ∧ (q.1.1 ++ q.1.2 ++ q.2.1 ++ q.2.2).length = n ∧ 0 < q.1.2.length ∧ 0 < q.2.1.length ∧ q.1.1.length + q.1.2.length = md ∧ T = q.1.1 ++ q.2.1 ++ q.1.2 ++ q.2.2), ItS g cap n (q.1.1 ++ q.1.2 ++ q.2.1 ++ q.2.2)]) :: F) (U.length + V.length) ?_ ?_
  · refine .ex ((P, U), (V, R)) (.all ?_)
    (try simp only [List.cons_append, List.nil_append, -eq_self])
    refine .pu ⟨rfl, by congr 1; omega, by congr 1; omega, hn, hU, hV, hmd.symm, hT⟩ ?_
    exact .refl
  intro m ds x y
  refine e_ex .here fun q => e_all .here ?_
  obtain ⟨⟨p, u⟩, ⟨v, s⟩⟩ := q
  (try simp only [List.cons_append, List.nil_append, -eq_self])
  refine e_pu .here fun hq => ?_
  (try dsimp only at hq)
  obtain ⟨hmq, rfl, rfl, hnq, hu, hv, hpu, hTq⟩ := hq
  (try dsimp only)
  have hnq2 : p.length + u.length + v.length + s.length = n := by rw [← hnq]; simp only [List.length_append]
  refine e_ask v_neq Imp.nil (fun h => ?_) (fun h => ?_)
  · refine e_condT ?_
    refine e_ask v_gtr Imp.nil (fun h2 => ?_) (fun h2 => ?_)
    · -- the first |v| of u against v
      have e : p ++ u ++ v ++ s = p ++ u.take v.length ++ u.drop v.length ++ v ++ s := by
        rw [List.append_assoc p (u.take v.length), List.take_append_drop]
      have hl : (u.take v.length).length = v.length := by rw [List.length_take]; omega
      refine e_condT ?_
      refine e_opN (v_sub (by omega) (by omega)) Imp.nil ?_
      rw [e]
      refine e_call (swapRange (P := p) (X := u.take v.length) (M := u.drop v.length) (Y := v) (R := s) (by rw [← e]; exact hnq) hm (by omega) (by omega) (by simp only [List.length_take, List.length_drop]; omega) (by omega)) (.cons .here .nil) fun _ => ?_
      (try simp only [List.cons_append, List.nil_append, -eq_self])
      refine e_opN (v_sub (by omega) (by omega)) Imp.nil ?_
      refine e_next2 (u.length - v.length + v.length) (by omega) (.ex ((p ++ v, u.drop v.length), (u.take v.length, s)) (.all ?_))
      (try simp only [List.cons_append, List.nil_append, -eq_self])
      refine .pu ⟨by simp only [List.length_take, List.length_drop]; omega, by simp only [List.length_drop]; congr 1; omega, by rw [hl], by simp only [List.length_append, List.length_take, List.length_drop]; omega, by simp only [List.length_drop]; omega, by omega, by simp only [List.length_append, List.length_drop]; omega, ?_⟩ ?_
      · (try dsimp only)
        rw [hTq]
        simp only [List.append_assoc]
        rw [← List.append_assoc (u.take v.length), List.take_append_drop]
      · (try dsimp only)
        exact .refl
    · have e : p ++ u ++ v ++ s = p ++ u ++ v.take (v.length - u.length) ++ v.drop (v.length - u.length) ++ s := by
        rw [List.append_assoc (p ++ u) (v.take _), List.take_append_drop]
      have hl : (v.drop (v.length - u.length)).length = u.length := by rw [List.length_drop]; omega
      refine e_condF ?_
      refine e_opN (v_sub (by omega) (by omega)) Imp.nil ?_
      refine e_opN (v_add (by omega) (by omega)) Imp.nil ?_
      refine e_opN (v_sub (by omega) (by omega)) Imp.nil ?_
      rw [e]
      refine e_call (swapRange (P := p) (X := u) (M := v.take (v.length - u.length)) (Y := v.drop (v.length - u.length)) (R := s) (by rw [← e]; exact hnq) hm (by omega) (by omega) (by simp only [List.length_take]; omega) (by omega)) (.cons .here .nil) fun _ => ?_
      (try simp only [List.cons_append, List.nil_append, -eq_self])
      refine e_opN (v_sub (by omega) (by omega)) Imp.nil ?_
      refine e_next2 (u.length + (v.length - u.length)) (by omega) (.ex ((p, v.drop (v.length - u.length)), (v.take (v.length - u.length), u ++ s)) (.all ?_))
      (try simp only [List.cons_append, List.nil_append, -eq_self])
      refine .pu ⟨by simp only [List.length_take, List.length_drop]; omega, by rw [hl], by simp only [List.length_take]; congr 1; omega, by simp only [List.length_append, List.length_take, List.length_drop]; omega, by omega, by simp only [List.length_take]; omega, by omega, ?_⟩ ?_
      · (try dsimp only)
        rw [hTq]
        simp only [List.append_assoc]
        rw [← List.append_assoc (v.take _), List.take_append_drop]
      · (try dsimp only)
        rw [show p ++ v.drop (v.length - u.length) ++ v.take (v.length - u.length) ++ (u ++ s) = p ++ v.drop (v.length - u.length) ++ v.take (v.length - u.length) ++ u ++ s by simp]
        exact .refl
  · have huv : u.length = v.length := by omega
    refine e_condF ?_
    refine e_opN (v_sub (by omega) (by omega)) Imp.nil ?_
    have e : p ++ u ++ v ++ s = p ++ u ++ [] ++ v ++ s := by simp
    rw [e]
    refine e_call (swapRange (P := p) (X := u) (M := []) (Y := v) (R := s) (by rw [← e]; exact hnq) hm huv (by omega) (by simp; omega) (by omega)) (.cons .here .nil) fun _ => ?_
    (try simp only [List.cons_append, List.nil_append, -eq_self])
    rw [List.append_nil, ← hTq]
    (first | refine e_ret (()) rfl ?_ | refine e_retT (()) ?_)
    exact .refl
end Go.Proofs.Ytehfblkpbadikaa.HF
