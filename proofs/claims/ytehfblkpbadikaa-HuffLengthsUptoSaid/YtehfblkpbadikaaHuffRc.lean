/- The document's lengths: coins, rising; coins and pairs. Rows of at most 320 numbers. -/
import Derived.Test.YtehfblkpbadikaaHuffL
import Derived.Test.YtehfblkpbadikaaBig
import Derived.Test.YtehfblkpbadikaaAggs
set_option linter.unusedVariables false
set_option linter.unusedSimpArgs false
namespace Go.Proofs.Ytehfblkpbadikaa.HF
open Go Go.Proofs Go.RowKit Go.Proofs.Ytehfblkpbadikaa.Sh Go.Proofs.Ytehfblkpbadikaa.Sl Go.Proofs.Ytehfblkpbadikaa.T Go.Proofs.Ytehfblkpbadikaa.HM
theorem e_slform {W : World} {L L' : List HP} {S : WP} {s : Nat} {e : TypeId} {a : Option Addr} {cap n : Nat} {cs : List Value} (p : Pick L (Sl s e a cap n cs) L') (h0 : a = none → cap = 0 → Ent W L S) (h1 : ∀ g, a = some ⟨g, 0, none⟩ → Ent W L S) : Ent W L S := fun w hw => by
  obtain ⟨f, ⟨l1, l2, l3, hd⟩, _⟩ := (hw.pick p).fst
  rcases hd with ⟨ha, hc⟩ | ⟨g, rest, hg, _, _⟩
  · exact h0 ha hc w hw
  · exact h1 g hg w hw
theorem flat_take2 (k : Nat) : ∀ xs : List It, (xs.flatMap ic).take (k * 2) = (xs.take k).flatMap ic := by
  induction k with
  | zero => intro xs; simp
  | succ k ih =>
    intro xs
    cases xs with
    | nil => simp
    | cons x xs =>
      have := ih xs
      rw [List.flatMap_cons, List.take_succ_cons, List.flatMap_cons, ← this, show ic x = [I x.n, .slice (some ⟨x.g, 0, none⟩) x.w.length x.c] from rfl, show (k + 1) * 2 = k * 2 + 1 + 1 by omega]
      rfl
theorem flat_drop2 (k : Nat) : ∀ xs : List It, (xs.flatMap ic).drop (k * 2) = (xs.drop k).flatMap ic := by
  induction k with
  | zero => intro xs; simp
  | succ k ih =>
    intro xs
    cases xs with
    | nil => simp
    | cons x xs =>
      have := ih xs
      rw [List.flatMap_cons, List.drop_succ_cons, ← this, show ic x = [I x.n, .slice (some ⟨x.g, 0, none⟩) x.w.length x.c] from rfl, show (k + 1) * 2 = k * 2 + 1 + 1 by omega]
      rfl
theorem coins {W : World} {a : Option Addr} {c : Nat} {freq : List Int} {A : HP} (hA : RdB W A a freq.length (freq.map I)) (hf : ∀ x ∈ freq, ¬ badF x) (hl : freq.length ≤ 320) :
    Cn Try.prog 48 [.slice a freq.length c] W [A] (fun q : (Option Addr × Nat) × { xs : List It // xs.map er = csF freq ∧ xs.length ≤ 320 } => .slice q.1.1 q.2.1.length q.1.2)
    (fun q => [Sl 2 95 q.1.1 q.1.2 q.2.1.length (q.2.1.flatMap ic), Arena q.2.1, A]) := by
  (refine S.ref03_coins_cn fun F => ?_; unfold S.ref03_coins; simp only [List.cons_append, List.nil_append])
  refine e_loop2 (fun m x y => (ex fun st : ((Option Addr × Nat) × Nat) × List It => all [pu (m + st.1.2 = freq.length ∧ x = .slice st.1.1.1 st.2.length st.1.1.2 ∧ y = .int .i64 (st.1.2 : Int) ∧ st.2.map er = isort Prod.fst (coinsF 0 (freq.take st.1.2)) ∧ st.2.length ≤ st.1.2), Sl 2 95 st.1.1.1 st.1.1.2 st.2.length (st.2.flatMap ic), Arena st.2]) :: A :: F) freq.length ?_ ?_
  · refine .ex (((none, 0), 0), []) (.all ?_)
    (try simp only [List.cons_append, List.nil_append, -eq_self])
    refine .pu ⟨rfl, rfl, rfl, rfl, Nat.le_refl _⟩ ?_
    exact imp_nil (imp_ar0 .refl)
  intro m ds x y
  refine e_ex .here fun st => e_all .here ?_
  obtain ⟨⟨⟨sa, sc⟩, i⟩, xs⟩ := st
  (try simp only [List.cons_append, List.nil_append, -eq_self])
  refine e_pu .here fun hi => ?_
  (try dsimp only at hi)
  (try dsimp only)
  obtain ⟨hmi, rfl, rfl, hxs, hxl⟩ := hi
  refine e_opN v_len Imp.nil ?_
  refine e_ask v_lss Imp.nil (fun h => ?_) (fun h => ?_)
  · have hil : i < freq.length := by omega
    have hfi := hf freq[i] (List.getElem_mem hil)
    unfold badF at hfi
    have hsn : coinsF 0 (freq.take (i + 1)) = coinsF 0 (freq.take i) ++ if 0 < freq[i] then [(freq[i], [(i : Int)])] else [] := by
      rw [List.take_succ_eq_append_getElem hil, coinsF_snoc, List.length_take, Nat.min_eq_left (by omega), Int.zero_add]
    obtain ⟨ga, oa, rfl, _⟩ := hA.at_ (by omega)
    have lf : RunV Try.prog W [A] (sLoad 3 (.pointer (some ⟨ga, oa + i, none⟩))) (.int .i64 freq[i]) := v_ldRd hA (I_get hil)
    refine e_condT ?_
    refine e_opN (v_ia1 i rfl hil) Imp.nil ?_
    refine e_opN lf (.pick (by (repeat constructor)) .nil) ?_
    refine e_ask v_eql Imp.nil (fun h0 => ?_) (fun h0 => ?_)
    · refine e_condT ?_
      refine e_opN (v_add (by omega) (by omega)) Imp.nil ?_
      refine e_next2 (m - 1) (by omega) (.ex (((sa, sc), i + 1), xs) (.all ?_))
      (try simp only [List.cons_append, List.nil_append, -eq_self])
      refine .pu ⟨by omega, rfl, rfl, by rw [hsn, if_neg (by omega), List.append_nil, hxs], by (try dsimp only); omega⟩ ?_
      (repeat (first | exact Imp.refl | exact Imp.nil | (apply Imp.pick; (focus ((repeat constructor); done))) | refine Imp.drop ?_))
    · have hpos : 0 < freq[i] := by omega
      have hnext : isort Prod.fst (coinsF 0 (freq.take (i + 1))) = insR Prod.fst (xs.map er) (freq[i], [(i : Int)]) := by
        rw [hsn, if_pos hpos, isort_snoc, hxs]
      refine e_condF ?_
      refine e_opN v_len Imp.nil ?_
      refine e_loop1 (fun m y => (ex fun k : Nat => pu (m = k ∧ k ≤ xs.length ∧ y = .int .i64 (k : Int) ∧ insR Prod.fst (xs.map er) (freq[i], [(i : Int)]) = insAt Prod.fst (xs.map er) (freq[i], [(i : Int)]) k)) :: Sl 2 95 sa sc xs.length (xs.flatMap ic) :: Arena xs :: A :: F) xs.length ?_ ?_
      · refine .ex xs.length (.pu ⟨rfl, Nat.le_refl _, rfl, by unfold insR; rw [List.length_map]⟩ ?_)
        (repeat (first | exact Imp.refl | exact Imp.nil | (apply Imp.pick; (focus ((repeat constructor); done))) | refine Imp.drop ?_))
      intro m2 ds2 y2
      refine e_ex .here fun k => e_pu .here fun hk => ?_
      obtain ⟨rfl, hkl, rfl, hins⟩ := hk
      refine e_slfacts .here fun f1 f2 f3 f4 => ?_
      refine e_drS ?_
      refine e_askS v_gtr Imp.nil (fun h2 => ?_) (fun h2 => ?_)
      · obtain ⟨r, rfl⟩ : ∃ r, m2 = r + 1 := ⟨m2 - 1, by omega⟩
        have hr : r < xs.length := by omega
        obtain ⟨g, rfl⟩ := f4 (by omega)
        have rdx : RdB W (Sl 2 95 (some ⟨g, 0, none⟩) sc xs.length (xs.flatMap ic)) (some ⟨g, 0, none⟩) (xs.length * 2) (xs.flatMap ic) := rd_slG f1 f4
        have ln : RunV Try.prog W [Sl 2 95 (some ⟨g, 0, none⟩) sc xs.length (xs.flatMap ic)] (sLoad 3 (.pointer (some ⟨g, 0 + r * 2 + 0, none⟩))) (.int .i64 xs[r].n) := v_ldRd2 rdx (by rw [flat_get ic_len xs r 0 hr (by omega)]; rfl)
        refine e_gdT ?_
        refine e_gdT ?_
        refine e_gdT ?_
        refine e_stS (v_sub (by omega) (by omega)) Imp.nil ?_
        refine e_gdT ?_
        refine e_stS (v_ia r (by omega) hr) Imp.nil ?_
        refine e_gdT ?_
        refine e_stS v_fa Imp.nil ?_
        refine e_gdT ?_
        refine e_stS ln (.pick .here .nil) ?_
        refine e_gdT ?_
        refine e_gdT ?_
        refine e_gdT ?_
        refine e_stS (v_ia1 i rfl hil) Imp.nil ?_
        refine e_gdT ?_
        refine e_stS lf (.pick (by (repeat constructor)) .nil) ?_
        refine e_gdT ?_
        refine e_stS v_gtr Imp.nil ?_
        refine e_stS v_pickT Imp.nil ?_
        have hget : (xs.map er)[r]? = some (er xs[r]) := by rw [List.getElem?_map, List.getElem?_eq_getElem hr]; rfl
        by_cases h3 : freq[i] < xs[r].n
        · rw [decide_eq_true h3]
          refine e_condT ?_
          refine e_opN (v_sub (by omega) (by omega)) Imp.nil ?_
          refine e_next1 r (by omega) (.ex r (.pu ⟨rfl, by omega, by congr 1; omega, ?_⟩ ?_))
          · rw [hins, insAt, hget]
            simp only
            rw [if_pos (show freq[i] < (er xs[r]).1 from h3)]
          · exact .refl
        · have hat : insR Prod.fst (xs.map er) (freq[i], [(i : Int)]) = (xs.map er).take (r + 1) ++ (freq[i], [(i : Int)]) :: (xs.map er).drop (r + 1) := by
            rw [hins, insAt, hget]
            simp only
            rw [if_neg (show ¬ freq[i] < (er xs[r]).1 from h3)]
          rw [decide_eq_false h3]
          refine e_condF ?_
          refine e_bsl0 (s := 2) (e := 95) fun z => ?_
          refine e_opN (v_sll (r + 1) (by omega) (by omega)) Imp.nil ?_
          refine e_app (m := xs.length - (r + 1)) (news := (xs.flatMap ic).drop ((r + 1) * 2)) .here (src_tail (s := 2) (e' := 95) (by kernel_rfl) (by decide) (.there .here) rdx (by omega) f2 (ics_one xs)) (by omega) (by omega) fun ra rc => ?_
          rw [Nat.zero_add, List.nil_append]
          refine e_drS ?_
          refine e_stD (v_slh0 (r + 1) (by omega) (by omega)) Imp.nil ?_
          refine e_stD (v_ia1 i rfl hil) Imp.nil ?_
          refine e_stD lf (.pick (by (repeat constructor)) .nil) ?_
          refine e_bsl1 fun gw => ?_
          refine e_obl (by (repeat (first | exact Imp.refl | exact Imp.nil | (apply Imp.pick; (focus ((repeat constructor); done))) | refine Imp.drop ?_))) ?_
          refine e_obl (by (repeat (first | exact Imp.refl | exact Imp.nil | (apply Imp.pick; (focus ((repeat constructor); done))) | refine Imp.drop ?_))) ?_
          refine e_obl (by (repeat (first | exact Imp.refl | exact Imp.nil | (apply Imp.pick; (focus ((repeat constructor); done))) | refine Imp.drop ?_))) ?_
          refine e_stS v_rv Imp.nil ?_
          refine e_own (s := 1) (n := 1) (cs := [.int .i64 (i : Int)]) .here (by rfl) (by unfold maxLen; omega) ?_
          refine e_ar (xs := xs) (x := ⟨freq[i], gw, 1, [(i : Int)]⟩) rfl .here (.there (.there .here)) ?_
          refine e_bslS (s := 2) (vs := [av ⟨freq[i], gw, 1, [(i : Int)]⟩]) rfl (by omega) rfl (by intro z hz; simp at hz; subst hz; rfl) (by omega) fun g4 => ?_
          refine e_obl (by (repeat (first | exact Imp.refl | exact Imp.nil | (apply Imp.pick; (focus ((repeat constructor); done))) | refine Imp.drop ?_))) ?_
          refine e_slcut (a := some ⟨g, 0, none⟩) (cap := sc) (n := xs.length) (m := (r + 1)) (cs := xs.flatMap ic) (s := 2) (e := 95) (.there (.there (.there .here))) (by omega) ?_
          refine e_app (m := 1) (news := ic ⟨freq[i], gw, 1, [(i : Int)]⟩) .here (src_pt (s := 2) (e' := 95) (by kernel_rfl) (.there .here) (by rfl) (ic_one _)) (by omega) (by omega) fun a2 c2 => ?_
          refine e_app (m := xs.length - (r + 1)) (news := (xs.flatMap ic).drop ((r + 1) * 2)) .here (src_sl (s := 2) (e' := 95) (e := 95) (by kernel_rfl) (.there (.there (.there .here))) (fun u hu => ics_one xs u (List.mem_of_mem_drop hu))) (by omega) (by omega) fun a3 c3 => ?_
          refine e_opN (v_add (by omega) (by omega)) Imp.nil ?_
          refine e_next2 (m - 1) (by omega) (.ex (((a3, c3), i + 1), xs.take ((r + 1)) ++ ⟨freq[i], gw, 1, [(i : Int)]⟩ :: xs.drop ((r + 1))) (.all ?_))
          (try simp only [List.cons_append, List.nil_append, -eq_self])
          have e1 : (r + 1) + 1 + (xs.length - (r + 1)) = (xs.take ((r + 1)) ++ (⟨freq[i], gw, 1, [(i : Int)]⟩ : It) :: xs.drop ((r + 1))).length := by simp only [List.length_append, List.length_take, List.length_cons, List.length_drop]; omega
          have e2 : (xs.flatMap ic).take ((r + 1) * 2) ++ ic ⟨freq[i], gw, 1, [(i : Int)]⟩ ++ (xs.flatMap ic).drop ((r + 1) * 2) = (xs.take ((r + 1)) ++ (⟨freq[i], gw, 1, [(i : Int)]⟩ : It) :: xs.drop ((r + 1))).flatMap ic := by
            rw [flat_take2, flat_drop2, List.flatMap_append, List.flatMap_cons, List.append_assoc]
          refine .pu ⟨by omega, by rw [e1], rfl, ?_, ?_⟩ ?_
          · (try dsimp only)
            rw [List.map_append, List.map_cons, List.map_take, List.map_drop, hnext, hat]
            rfl
          · (try dsimp only)
            rw [← e1]; omega
          (try dsimp only)
          rw [← e1, ← e2]
          refine .pick .here (.convL (A := Arena (⟨freq[i], gw, 1, [(i : Int)]⟩ :: xs)) (B := Arena (xs.take ((r + 1)) ++ ⟨freq[i], gw, 1, [(i : Int)]⟩ :: xs.drop ((r + 1)))) (by (repeat constructor)) (fun f hf y hy => hf y (by
            rcases List.mem_append.1 hy with c | c
            · exact List.mem_cons_of_mem _ (List.mem_of_mem_take c)
            · rcases List.mem_cons.1 c with c | c
              · rw [c]; exact List.mem_cons_self
              · exact List.mem_cons_of_mem _ (List.mem_of_mem_drop c))) ?_)
          (repeat (first | exact Imp.refl | exact Imp.nil | (apply Imp.pick; (focus ((repeat constructor); done))) | refine Imp.drop ?_))
      · have hm0 : m2 = 0 := by omega
        subst hm0
        have hat : insR Prod.fst (xs.map er) (freq[i], [(i : Int)]) = (xs.map er).take 0 ++ (freq[i], [(i : Int)]) :: (xs.map er).drop 0 := by rw [hins, insAt]; rfl
        ((with_reducible refine e_gdF2 ?_)); ((with_reducible refine e_gdF2 ?_)); ((with_reducible refine e_gdF2 ?_)); ((with_reducible refine e_gdF2 ?_)); ((with_reducible refine e_gdF2 ?_)); ((with_reducible refine e_gdF2 ?_)); ((with_reducible refine e_gdF2 ?_)); ((with_reducible refine e_gdF2 ?_)); ((with_reducible refine e_gdF2 ?_)); ((with_reducible refine e_gdF2 ?_)); ((with_reducible refine e_gdF2 ?_)); (((with_reducible refine e_stS v_pickF Imp.nil ?_))); ((with_reducible refine e_condF ?_))
        refine e_slform .here (fun ha hc => ?_) (fun g hg => ?_)
        · subst ha; subst hc
          have hx0 : xs = [] := by
            rcases Nat.eq_zero_or_pos xs.length with z | z
            · exact List.eq_nil_of_length_eq_zero z
            · obtain ⟨_, e⟩ := f4 z; cases e
          subst hx0
          refine e_bsl0 (s := 2) (e := 95) fun z => ?_
          refine e_opN (v_sll 0 (by omega) (by omega)) Imp.nil ?_
          rw [if_pos rfl]
          refine e_app (m := 0) (news := []) .here (fun w _ => Src.ofNil (e' := 95) w (by kernel_rfl) _) (by omega) (by omega) fun ra rc => ?_
          refine e_drS ?_
          refine e_stD (v_slh 0 (by omega) (by omega)) Imp.nil ?_
          rw [if_pos rfl]
          refine e_stD (v_ia1 i rfl hil) Imp.nil ?_
          refine e_stD lf (.pick (by (repeat constructor)) .nil) ?_
          refine e_bsl1 fun gw => ?_
          refine e_obl (by (repeat (first | exact Imp.refl | exact Imp.nil | (apply Imp.pick; (focus ((repeat constructor); done))) | refine Imp.drop ?_))) ?_
          refine e_obl (by (repeat (first | exact Imp.refl | exact Imp.nil | (apply Imp.pick; (focus ((repeat constructor); done))) | refine Imp.drop ?_))) ?_
          refine e_obl (by (repeat (first | exact Imp.refl | exact Imp.nil | (apply Imp.pick; (focus ((repeat constructor); done))) | refine Imp.drop ?_))) ?_
          refine e_stS v_rv Imp.nil ?_
          refine e_own (s := 1) (n := 1) (cs := [.int .i64 (i : Int)]) .here (by rfl) (by unfold maxLen; omega) ?_
          refine e_ar (xs := []) (x := ⟨freq[i], gw, 1, [(i : Int)]⟩) rfl .here (.there (.there .here)) ?_
          refine e_bslS (s := 2) (vs := [av ⟨freq[i], gw, 1, [(i : Int)]⟩]) rfl (by omega) rfl (by intro z hz; simp at hz; subst hz; rfl) (by omega) fun g4 => ?_
          refine e_obl (by (repeat (first | exact Imp.refl | exact Imp.nil | (apply Imp.pick; (focus ((repeat constructor); done))) | refine Imp.drop ?_))) ?_
          refine e_app (n := 0) (m := 1) (cs := []) (news := ic ⟨freq[i], gw, 1, [(i : Int)]⟩) (.there (.there (.there .here))) (src_pt (s := 2) (e' := 95) (by kernel_rfl) .here (by rfl) (ic_one _)) (by omega) (by omega) fun a2 c2 => ?_
          refine e_app (m := 0) (news := []) .here (src_sl (s := 2) (e' := 95) (e := 95) (by kernel_rfl) (.there (.there (.there .here))) (by simp)) (by omega) (by omega) fun a3 c3 => ?_
          refine e_opN (v_add (by omega) (by omega)) Imp.nil ?_
          refine e_next2 (m - 1) (by omega) (.ex (((a3, c3), i + 1), [⟨freq[i], gw, 1, [(i : Int)]⟩]) (.all ?_))
          (try simp only [List.cons_append, List.nil_append, -eq_self])
          refine .pu ⟨by omega, rfl, rfl, ?_, by simp⟩ ?_
          · (try dsimp only)
            rw [hnext]
            rfl
          (try dsimp only)
          (repeat (first | exact Imp.refl | exact Imp.nil | (apply Imp.pick; (focus ((repeat constructor); done))) | refine Imp.drop ?_))
        · subst hg
          have rdx : RdB W (Sl 2 95 (some ⟨g, 0, none⟩) sc xs.length (xs.flatMap ic)) (some ⟨g, 0, none⟩) (xs.length * 2) (xs.flatMap ic) := rd_slG f1 (fun _ => ⟨g, rfl⟩)
          refine e_bsl0 (s := 2) (e := 95) fun z => ?_
          refine e_opN (v_sll 0 (by omega) (by omega)) Imp.nil ?_
          refine e_app (m := xs.length - 0) (news := (xs.flatMap ic).drop (0 * 2)) .here (src_tail (s := 2) (e' := 95) (by kernel_rfl) (by decide) (.there .here) rdx (by omega) f2 (ics_one xs)) (by omega) (by omega) fun ra rc => ?_
          rw [Nat.zero_add, List.nil_append]
          refine e_drS ?_
          refine e_stD (v_slh0 0 (by omega) (by omega)) Imp.nil ?_
          refine e_stD (v_ia1 i rfl hil) Imp.nil ?_
          refine e_stD lf (.pick (by (repeat constructor)) .nil) ?_
          refine e_bsl1 fun gw => ?_
          refine e_obl (by (repeat (first | exact Imp.refl | exact Imp.nil | (apply Imp.pick; (focus ((repeat constructor); done))) | refine Imp.drop ?_))) ?_
          refine e_obl (by (repeat (first | exact Imp.refl | exact Imp.nil | (apply Imp.pick; (focus ((repeat constructor); done))) | refine Imp.drop ?_))) ?_
          refine e_obl (by (repeat (first | exact Imp.refl | exact Imp.nil | (apply Imp.pick; (focus ((repeat constructor); done))) | refine Imp.drop ?_))) ?_
          refine e_stS v_rv Imp.nil ?_
          refine e_own (s := 1) (n := 1) (cs := [.int .i64 (i : Int)]) .here (by rfl) (by unfold maxLen; omega) ?_
          refine e_ar (xs := xs) (x := ⟨freq[i], gw, 1, [(i : Int)]⟩) rfl .here (.there (.there .here)) ?_
          refine e_bslS (s := 2) (vs := [av ⟨freq[i], gw, 1, [(i : Int)]⟩]) rfl (by omega) rfl (by intro z hz; simp at hz; subst hz; rfl) (by omega) fun g4 => ?_
          refine e_obl (by (repeat (first | exact Imp.refl | exact Imp.nil | (apply Imp.pick; (focus ((repeat constructor); done))) | refine Imp.drop ?_))) ?_
          refine e_slcut (a := some ⟨g, 0, none⟩) (cap := sc) (n := xs.length) (m := 0) (cs := xs.flatMap ic) (s := 2) (e := 95) (.there (.there (.there .here))) (by omega) ?_
          refine e_app (m := 1) (news := ic ⟨freq[i], gw, 1, [(i : Int)]⟩) .here (src_pt (s := 2) (e' := 95) (by kernel_rfl) (.there .here) (by rfl) (ic_one _)) (by omega) (by omega) fun a2 c2 => ?_
          refine e_app (m := xs.length - 0) (news := (xs.flatMap ic).drop (0 * 2)) .here (src_sl (s := 2) (e' := 95) (e := 95) (by kernel_rfl) (.there (.there (.there .here))) (fun u hu => ics_one xs u (List.mem_of_mem_drop hu))) (by omega) (by omega) fun a3 c3 => ?_
          refine e_opN (v_add (by omega) (by omega)) Imp.nil ?_
          refine e_next2 (m - 1) (by omega) (.ex (((a3, c3), i + 1), xs.take (0) ++ ⟨freq[i], gw, 1, [(i : Int)]⟩ :: xs.drop (0)) (.all ?_))
          (try simp only [List.cons_append, List.nil_append, -eq_self])
          have e1 : 0 + 1 + (xs.length - 0) = (xs.take (0) ++ (⟨freq[i], gw, 1, [(i : Int)]⟩ : It) :: xs.drop (0)).length := by simp only [List.length_append, List.length_take, List.length_cons, List.length_drop]; omega
          have e2 : (xs.flatMap ic).take (0 * 2) ++ ic ⟨freq[i], gw, 1, [(i : Int)]⟩ ++ (xs.flatMap ic).drop (0 * 2) = (xs.take (0) ++ (⟨freq[i], gw, 1, [(i : Int)]⟩ : It) :: xs.drop (0)).flatMap ic := by
            rw [flat_take2, flat_drop2, List.flatMap_append, List.flatMap_cons, List.append_assoc]
          refine .pu ⟨by omega, by rw [e1], rfl, ?_, ?_⟩ ?_
          · (try dsimp only)
            rw [List.map_append, List.map_cons, List.map_take, List.map_drop, hnext, hat]
            rfl
          · (try dsimp only)
            rw [← e1]; omega
          (try dsimp only)
          rw [← e1, ← e2]
          refine .pick .here (.convL (A := Arena (⟨freq[i], gw, 1, [(i : Int)]⟩ :: xs)) (B := Arena (xs.take (0) ++ ⟨freq[i], gw, 1, [(i : Int)]⟩ :: xs.drop (0))) (by (repeat constructor)) (fun f hf y hy => hf y (by
            rcases List.mem_append.1 hy with c | c
            · exact List.mem_cons_of_mem _ (List.mem_of_mem_take c)
            · rcases List.mem_cons.1 c with c | c
              · rw [c]; exact List.mem_cons_self
              · exact List.mem_cons_of_mem _ (List.mem_of_mem_drop c))) ?_)
          (repeat (first | exact Imp.refl | exact Imp.nil | (apply Imp.pick; (focus ((repeat constructor); done))) | refine Imp.drop ?_))
  · have hie : i = freq.length := by omega
    subst hie
    rw [List.take_length] at hxs
    refine e_condF ?_
    (first | refine e_ret (((sa, sc), (⟨xs, hxs, by omega⟩ : { xs : List It // xs.map er = csF freq ∧ xs.length ≤ 320 }))) rfl ?_ | refine e_retT (((sa, sc), (⟨xs, hxs, by omega⟩ : { xs : List It // xs.map er = csF freq ∧ xs.length ≤ 320 }))) ?_)
    (repeat (first | exact Imp.refl | exact Imp.nil | (apply Imp.pick; (focus ((repeat constructor); done))) | refine Imp.drop ?_))
end Go.Proofs.Ytehfblkpbadikaa.HF
