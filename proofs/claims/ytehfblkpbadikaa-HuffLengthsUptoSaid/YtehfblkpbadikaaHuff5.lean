/- Items of a weight: how they lie, compared, sorted (few of them). No conditions but those that each names. -/
import Derived.Test.YtehfblkpbadikaaHuff3
import Derived.Lib.AppendZeros
set_option linter.unusedVariables false
set_option linter.unusedSimpArgs false
namespace Go.Proofs.Ytehfblkpbadikaa.HF
open Go Go.Proofs Go.RowKit Go.Proofs.Ytehfblkpbadikaa.Sh Go.Proofs.Ytehfblkpbadikaa.Sl Go.Proofs.Ytehfblkpbadikaa.T Go.Proofs.Ytehfblkpbadikaa.HM
section rules
variable {P : Program} {W : World} {L L' : List HP} {Kp : PK} {k : Value → WP} {A : HP}
theorem v_cap {t e ty : TypeId} {s b : Nat} {a : Option Addr} {n cap : Nat} [ht : SlT P t e s b] : RunV P W [] (sCap #[t] ty [.slice a n cap]) (.int .i64 (cap : Int)) := fun w _ => by
  simp [sCap, Builtin.cap_, run_underlying ht.ut, goInt]
theorem v_ldRdA {t : TypeId} {n m g o j : Nat} {cs vs : List Value} [ht : AggT P t n] (H : RdB W A (some ⟨g, o, none⟩) m cs) (hn : vs.length = n) (hc : ∀ i, i < n → cs[j + i]? = vs[i]?) : RunV P W [A] (sLoad t (.pointer (some ⟨g, o + j, none⟩))) (.agg vs.toArray) := fun w hw => by
  have h : (loadCells ⟨g, o + j, none⟩ n).run P w = .ok vs.toArray w := by
    subst hn
    refine run_loadCells_list (P := P) w ⟨g, o + j, none⟩ vs (fun i v hv => ?_)
    have hi : i < vs.length := by
      rcases Nat.lt_or_ge i vs.length with c | c
      · exact c
      · rw [List.getElem?_eq_none c] at hv; cases hv
    have hcv := hc i hi
    rw [hv] at hcv
    have hl := H.len
    have hlt : j + i < cs.length := by
      rcases Nat.lt_or_ge (j + i) cs.length with c | c
      · exact c
      · rw [List.getElem?_eq_none c] at hcv; cases hcv
    obtain ⟨g', o', e, hcell⟩ := H.at_ (by omega)
    injection e with e; injection e with e1 e2; subst e1; subst e2
    rw [addr_add, Nat.add_assoc]
    exact hcell w [] hw (j + i) v hcv
  simp [sLoad, Instr.loadAt, Instr.sureAddr, loadVar, ht.agg, ht.size, h]
theorem put_get {cs rest vs : List Value} {o n j : Nat} (hn : vs.length = n) (ho : o + n ≤ cs.length) : (cs.take o ++ vs ++ cs.drop (o + n) ++ rest)[j]? = if o ≤ j ∧ j < o + n then vs[j - o]? else (cs ++ rest)[j]? := by
  simp only [List.getElem?_append, List.length_append, List.length_take, List.length_drop, hn, Nat.min_eq_left (show o ≤ cs.length by omega), List.getElem?_take, List.getElem?_drop]
  repeat' split
  all_goals first | rfl | omega | (congr 1; omega)
theorem e_stSlA {t e : TypeId} {s n g o cap m : Nat} {cs : List Value} {vs : Array Value} [ht : AggT P t n] (p : Pick L (Sl s e (some ⟨g, 0, none⟩) cap m cs) L') (hv : vs.size = n) (ho : o + n ≤ cs.length) (h1 : ∀ u ∈ vs.toList, u.oneCell' = true)
    (h : Ent W (Sl s e (some ⟨g, 0, none⟩) cap m (cs.take o ++ vs.toList ++ cs.drop (o + n)) :: L') (k undef)) : Ent W L (opN P (sStore t (.pointer (some ⟨g, o, none⟩)) (.agg vs)) Kp k) := fun w hw => by
  obtain ⟨rest, r1, r2, r3, r4, hp⟩ := sl_row (hw.pick p)
  have hst := run_storeCells_cells (P := P) g o vs.toList 0 w (fun j hj => by
    rw [hp.cell, Array.getElem?_eq_getElem (by simp at hj ⊢; omega)]; rfl) (fun j _ => hp.free) h1
  obtain ⟨cs', c1, c2, c3⟩ := setCells_world g (o + 0) vs.toList w _ _ hp
  refine ⟨?_⟩
  have hvl : vs.toList.length = n := by simp [hv]
  have : (sStore t (.pointer (some ⟨g, o, none⟩)) (.agg vs)).run P w = .ok .skip (w.setCells g (o + 0) vs.toList) := by
    simp [sStore, Instr.storeAt, Instr.sureAddr, storeVar, ht.size, Value.cells, hv, hst]
  rw [this]
  refine h _ (sl_back r1 (by simp [hv]; omega) r3 r4 ?_)
  have he : cs' = (cs.take o ++ vs.toList ++ cs.drop (o + n) ++ rest).toArray := by
    apply Array.ext_getElem?
    intro j
    rw [c3]
    simp only [Nat.add_zero, List.size_toArray, List.length_append, List.getElem?_toArray, hvl]
    rw [put_get hvl ho]
    by_cases hj : o ≤ j ∧ j < o + n
    · rw [if_pos hj, if_pos ⟨hj.1, hj.2, by omega⟩]
    · rw [if_neg hj, if_neg (fun c => hj ⟨c.1, c.2.1⟩)]
  rwa [he] at c1
theorem sl_shrink {s : Nat} {e : TypeId} {a : Option Addr} {cap n : Nat} {cs : List Value} (h : Frag) (H : Sl s e a cap n cs W h) : Sl s e a cap 0 [] W h := by
  obtain ⟨h1, h2, h3, h4⟩ := H
  refine ⟨by simp, by omega, h3, ?_⟩
  rcases h4 with h4 | ⟨g, rest, e1, e2, e3⟩
  · exact .inl h4
  · refine .inr ⟨g, cs ++ rest, e1, ?_, by simpa using e3⟩
    rw [List.length_append, h1, e2, Nat.sub_zero, ← Nat.add_mul]; congr 1; omega
theorem e_appZ {t tn ty e : TypeId} {s b n : Nat} [ht : SlT P t e s b] (htn : P.underlying tn = some (.int .i64)) (h0 : 0 < n) (hs : 0 < s) (h1 : n * b ≤ 140737488355328) (h2 : n ≤ 4611686018427387904)
    (h : ∀ g cap, n ≤ cap → Ent W (Sl s e (some ⟨g, 0, none⟩) cap 0 [] :: L) (k (.slice (some ⟨g, 0, none⟩) n cap))) : Ent W L (opN P (sApp #[t, tn] ty [.slice none 0 0, .int .i64 (n : Int)]) Kp k) := fun w hw => by
  obtain ⟨i, z, hi, hz, hs', hb, hzs⟩ := ht.info
  subst hs'; subst hb
  refine ⟨?_⟩
  have hr := Lib.run_append_nil_zeros (P := P) w t tn ty e i z .i64 .i64 ht.ut htn hi hz n h0 hs (by omega) (by omega)
  have : (sApp #[t, tn] ty [.slice none 0 0, .int .i64 (n : Int)]).run P w = .ok (.value (.slice (some ⟨w.heap.size, 0, none⟩) n (grownCap w n 0 e))) (w.drew.alloc (.cells (Builtin.zeroCells z.cells n ++ Builtin.zeroCells z.cells (grownCap w n 0 e - n)) e)) := by simp [sApp, hr]
  rw [this]
  have hge := grownCap_ge w n 0 e
  have hle := grownCap_le_maxLen w n 0 e (by unfold maxLen; omega)
  refine h _ _ hge _ ?_
  have ha := (hw.drew).alloc (.cells (Builtin.zeroCells z.cells n ++ Builtin.zeroCells z.cells (grownCap w n 0 e - n)) e)
  have he : (Builtin.zeroCells z.cells n ++ Builtin.zeroCells z.cells (grownCap w n 0 e - n)) = ([] ++ (Builtin.zeroCells z.cells n ++ Builtin.zeroCells z.cells (grownCap w n 0 e - n)).toList).toArray := by simp
  rw [he] at ha ⊢
  refine sl_back (g := w.heap.size) ?_ (by simp) (by omega) hle ha
  simp only [Array.toList_append, List.length_append, Array.length_toList, size_zeroCells, hzs, Nat.sub_zero]
  rw [← Nat.add_mul]; congr 1; omega
end rules
structure It where
  n : Int
  g : Nat
  c : Nat
  w : List Int
def ic (x : It) : List Value := [I x.n, .slice (some ⟨x.g, 0, none⟩) x.w.length x.c]
theorem ic_len (x : It) : (ic x).length = 2 := rfl
def er (x : It) : Int × List Int := (x.n, x.w)
def av (x : It) : Value := .agg #[I x.n, .slice (some ⟨x.g, 0, none⟩) x.w.length x.c]
theorem ic_one (x : It) : ∀ u ∈ ic x, u.oneCell' = true := by
  intro u hu; simp [ic] at hu; rcases hu with rfl | rfl <;> rfl
theorem ics_one (xs : List It) : ∀ u ∈ xs.flatMap ic, u.oneCell' = true := by
  intro u hu
  obtain ⟨x, _, hx⟩ := List.mem_flatMap.1 hu
  exact ic_one x u hx
theorem ics_len (xs : List It) : (xs.flatMap ic).length = xs.length * 2 := flat_len ic_len xs
theorem ics_set (xs : List It) (j : Nat) (y : It) (h : j < xs.length) : (xs.flatMap ic).take (j * 2) ++ ic y ++ (xs.flatMap ic).drop (j * 2 + 2) = (xs.set j y).flatMap ic := by
  induction xs generalizing j with
  | nil => simp at h
  | cons x xs ih =>
    cases j with
    | zero => simp [ic]
    | succ j =>
      have := ih j (by simpa using h)
      rw [List.set_cons_succ, List.flatMap_cons, List.flatMap_cons, ← this, show (j + 1) * 2 = j * 2 + 1 + 1 by omega, show j * 2 + 1 + 1 + 2 = (j * 2 + 2) + 1 + 1 by omega]
      simp [ic]
theorem cmpInt {W : World} {a b : Int} : Cn Try.prog 45 [.int .i64 a, .int .i64 b] W [] (fun _ : Unit => .int .i64 (if a < b then -1 else if b < a then 1 else 0)) (fun _ => []) := by
  have nan : ∀ x : Int, Cn Try.prog 64 [.int .i64 x] W [] (fun _ : Unit => .bool false) (fun _ => []) := fun x => by
    (refine S.cmp_isNaN_int_cn fun F => ?_; unfold S.cmp_isNaN_int; simp only [List.cons_append, List.nil_append])
    refine e_opN v_neq Imp.nil ?_
    rw [decide_eq_false (by simp)]
    (first | refine e_ret (()) rfl ?_ | refine e_retT (()) ?_)
    exact .refl
  (refine S.cmp_Compare_int_cn fun F => ?_; unfold S.cmp_Compare_int; simp only [List.cons_append, List.nil_append])
  (refine' e_call (nan a) ?hp fun _ => ?_; (case hp => (repeat (first | exact Picks.nil | (apply Picks.cons; (focus (repeat constructor)))))); (try simp only [List.cons_append, List.nil_append, Bool.not_true, Bool.not_false]))
  (refine' e_call (nan b) ?hp fun _ => ?_; (case hp => (repeat (first | exact Picks.nil | (apply Picks.cons; (focus (repeat constructor)))))); (try simp only [List.cons_append, List.nil_append, Bool.not_true, Bool.not_false]))
  ((with_reducible refine e_condF ?_)); ((with_reducible refine e_condF ?_))
  (refine e_ask v_lss Imp.nil (fun h => ?_) (fun h => ?_))
  · rw [if_pos h]
    ((with_reducible refine e_condT ?_))
    (first | refine e_ret (()) rfl ?_ | refine e_retT (()) ?_)
    exact .refl
  rw [if_neg h]
  ((with_reducible refine e_condF ?_))
  (refine e_ask v_gtr Imp.nil (fun h => ?_) (fun h => ?_))
  · rw [if_pos h]
    ((with_reducible refine e_condT ?_))
    (first | refine e_ret (()) rfl ?_ | refine e_retT (()) ?_)
    exact .refl
  · rw [if_neg h]
    ((with_reducible refine e_condF ?_))
    (first | refine e_ret (()) rfl ?_ | refine e_retT (()) ?_)
    exact .refl
theorem cmpIt {W : World} {x y : It} : Cn Try.prog 44 [av x, av y] W [] (fun _ : Unit => .int .i64 (if x.n < y.n then -1 else if y.n < x.n then 1 else 0)) (fun _ => []) := by
  (refine S.huff_Lengths_1_cn fun F => ?_; unfold S.huff_Lengths_1; simp only [List.cons_append, List.nil_append])
  unfold av I
  (((with_reducible refine e_boxA fun g => ?_))); (((with_reducible refine e_boxA fun g => ?_))); (((with_reducible refine e_opN v_fa0 Imp.nil ?_))); (((with_reducible refine' e_opN (v_ldN ?hc) ?hi ?_); (case hi => (repeat (first | exact Imp.refl | exact Imp.nil | (apply Imp.pick; (focus ((repeat constructor); done))) | refine Imp.drop ?_))); (case hc => (repeat (first | exact Nth.here | apply Nth.there))))); (((with_reducible refine e_opN v_fa0 Imp.nil ?_))); (((with_reducible refine' e_opN (v_ldN ?hc) ?hi ?_); (case hi => (repeat (first | exact Imp.refl | exact Imp.nil | (apply Imp.pick; (focus ((repeat constructor); done))) | refine Imp.drop ?_))); (case hc => (repeat (first | exact Nth.here | apply Nth.there)))))
  (refine' e_call (cmpInt) ?hp fun _ => ?_; (case hp => (repeat (first | exact Picks.nil | (apply Picks.cons; (focus (repeat constructor)))))); (try simp only [List.cons_append, List.nil_append, Bool.not_true, Bool.not_false]))
  (first | refine e_ret (()) rfl ?_ | refine e_retT (()) ?_)
  (repeat (first | exact Imp.refl | exact Imp.nil | (apply Imp.pick; (focus ((repeat constructor); done))) | refine Imp.drop ?_))
end Go.Proofs.Ytehfblkpbadikaa.HF
