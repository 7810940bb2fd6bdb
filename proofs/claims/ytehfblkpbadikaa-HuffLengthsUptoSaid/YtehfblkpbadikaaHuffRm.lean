/- The document's merge of coins and pairs. Rows of at most 2^28 items. -/
import Derived.Test.YtehfblkpbadikaaHuffRc
set_option linter.unusedVariables false
set_option linter.unusedSimpArgs false
namespace Go.Proofs.Ytehfblkpbadikaa.HF
open Go Go.Proofs Go.RowKit Go.Proofs.Ytehfblkpbadikaa.Sh Go.Proofs.Ytehfblkpbadikaa.Sl Go.Proofs.Ytehfblkpbadikaa.T Go.Proofs.Ytehfblkpbadikaa.HM
theorem ld_itR {W : World} {A : HP} {g o j : Nat} {ys : List It} (H : RdL W A (some ⟨g, o, none⟩) ys) (hj : j < ys.length) : RunV Try.prog W [A] (sLoad 95 (.pointer (some ⟨g, o + j * 2, none⟩))) (av ys[j]) :=
  v_ldRdA (vs := ic ys[j]) H (by rfl) fun i hi => flat_get ic_len ys j i hj hi
theorem rdl_drop {W : World} {A : HP} {a : Option Addr} {ys : List It} {k c : Nat} (h : RdL W A a ys) (hk : k ≤ ys.length) (hc : ys.length ≤ c) : RdL W A (if c = k then a else a.map (·.add (k * 2))) (ys.drop k) := by
  refine ⟨ics_len _, fun hn => ?_⟩
  rw [List.length_drop] at hn
  obtain ⟨g, o, rfl, hcell⟩ := h.at_ (by omega)
  rw [if_neg (by omega)]
  refine ⟨g, o + k * 2, by simp [addr_add], fun w L hw j v hv => ?_⟩
  rw [Nat.add_assoc]
  refine hcell w L hw (k * 2 + j) v ?_
  rw [← flat_drop2, List.getElem?_drop] at hv
  exact hv
theorem rmerged {W : World} {A B : HP} {xs ys : List It} {va vb : Option Addr} {ca cb : Nat} (ha : RdL W A va xs) (hb : RdL W B vb ys) (hca : xs.length ≤ ca) (hcb : ys.length ≤ cb) (n1 : xs.length ≤ 268435456) (n2 : ys.length ≤ 268435456) :
    Cn Try.prog 49 [.slice va xs.length ca, .slice vb ys.length cb] W [A, B] (fun q : Option Addr × Nat => .slice q.1 (xs.length + ys.length) q.2) (fun q => [Sl 2 95 q.1 q.2 (xs.length + ys.length) ((mrg It.n xs ys).flatMap ic), A, B]) := by
  (refine S.ref03_merged_cn fun F => ?_; unfold S.ref03_merged; simp only [List.cons_append, List.nil_append])
  refine e_loop3 (fun m x y z => (ex fun st : ((Option Addr × Nat) × (Nat × Nat)) × List It => all [pu (m + st.1.2.1 = xs.length ∧ x = .slice st.1.1.1 st.2.length st.1.1.2 ∧ y = .int .i64 (st.1.2.2 : Int) ∧ z = .int .i64 (st.1.2.1 : Int) ∧ st.1.2.2 ≤ ys.length ∧ st.2.length = st.1.2.1 + st.1.2.2 ∧ mrg It.n xs ys = st.2 ++ mrg It.n (xs.drop st.1.2.1) (ys.drop st.1.2.2)), Sl 2 95 st.1.1.1 st.1.1.2 st.2.length (st.2.flatMap ic)]) :: A :: B :: F) xs.length ?_ ?_
  · refine .ex (((none, 0), (0, 0)), []) (.all ?_)
    (try simp only [List.cons_append, List.nil_append, -eq_self])
    refine .pu ⟨rfl, rfl, rfl, rfl, Nat.zero_le _, rfl, rfl⟩ ?_
    exact imp_nil .refl
  intro m ds x y z
  refine e_ex .here fun st => e_all .here ?_
  obtain ⟨⟨⟨sa, sc⟩, ⟨i, k⟩⟩, O⟩ := st
  (try simp only [List.cons_append, List.nil_append, -eq_self])
  refine e_pu .here fun hi => ?_
  (try dsimp only at hi)
  (try dsimp only)
  obtain ⟨hmi, rfl, rfl, rfl, hk, hO, hM⟩ := hi
  refine e_opN v_len Imp.nil ?_
  refine e_ask v_lss Imp.nil (fun h => ?_) (fun h => ?_)
  · have hix : i < xs.length := by omega
    obtain ⟨g, o, rfl, _⟩ := ha.at_ (by omega)
    have na := v_itN ha hix
    have la := ld_itR ha hix
    rw [List.drop_eq_getElem_cons hix] at hM
    obtain ⟨a, haE⟩ : ∃ a, a = xs[i] := ⟨_, rfl⟩
    rw [← haE] at na la hM
    refine e_condT ?_
    refine e_loop2 (fun m2 x y => (ex fun st : ((Option Addr × Nat) × Nat) × List It => all [pu (m2 + st.1.2 = ys.length ∧ x = .slice st.1.1.1 st.2.length st.1.1.2 ∧ y = .int .i64 (st.1.2 : Int) ∧ st.2.length = i + st.1.2 ∧ mrg It.n xs ys = st.2 ++ mrg It.n (a :: xs.drop (i + 1)) (ys.drop st.1.2)), Sl 2 95 st.1.1.1 st.1.1.2 st.2.length (st.2.flatMap ic)]) :: A :: B :: F) (ys.length - k) ?_ ?_
    · refine .ex (((sa, sc), k), O) (.all ?_)
      (try simp only [List.cons_append, List.nil_append, -eq_self])
      refine .pu ⟨by omega, rfl, rfl, hO, hM⟩ ?_
      exact .refl
    intro m2 ds2 x y
    refine e_ex .here fun st => e_all .here ?_
    obtain ⟨⟨⟨ta, tc⟩, k⟩, Q⟩ := st
    (try simp only [List.cons_append, List.nil_append, -eq_self])
    refine e_pu .here fun hi => ?_
    (try dsimp only at hi)
    (try dsimp only)
    obtain ⟨hmk, rfl, rfl, hQ, hM⟩ := hi
    have done : ¬ (∃ h : k < ys.length, ys[k].n < a.n) → Ent W (Sl 2 95 ta tc Q.length (Q.flatMap ic) :: A :: B :: F) (opN Try.prog (sIA 92 (.slice (some ⟨g, o, none⟩) xs.length ca) (.int .i64 (i : Int))) noP fun x43 =>
       opN Try.prog (sLoad 95 x43) noP fun x44 =>
       opN Try.prog (sBuildSl 92 1 [(0, x44)]) noP fun x45 =>
       opN Try.prog (sApp #[92, 92] 92 [.slice ta Q.length tc, x45]) noP fun x46 =>
       opN Try.prog (sBin .add 3 (.int .i64 (i : Int)) (.int .i64 1)) noP fun x13 =>
       next3 (fun m x y z w => sat W ((ex fun st : ((Option Addr × Nat) × (Nat × Nat)) × List It => all [pu (m + st.1.2.1 = xs.length ∧ x = .slice st.1.1.1 st.2.length st.1.1.2 ∧ y = .int .i64 (st.1.2.2 : Int) ∧ z = .int .i64 (st.1.2.1 : Int) ∧ st.1.2.2 ≤ ys.length ∧ st.2.length = st.1.2.1 + st.1.2.2 ∧ mrg It.n xs ys = st.2 ++ mrg It.n (xs.drop st.1.2.1) (ys.drop st.1.2.2)), Sl 2 95 st.1.1.1 st.1.1.2 st.2.length (st.2.flatMap ic)]) :: A :: B :: F) w) m x46 (.int .i64 (k : Int)) x13) := by
      intro hno
      have hM2 : mrg It.n (a :: xs.drop (i + 1)) (ys.drop k) = a :: mrg It.n (xs.drop (i + 1)) (ys.drop k) := by
        by_cases c : k < ys.length
        · rw [List.drop_eq_getElem_cons c]
          exact mrg_ge It.n fun d => hno ⟨c, d⟩
        · rw [List.drop_eq_nil_of_le (show ys.length ≤ k by omega)]
          exact mrg_a It.n
      refine e_opN (v_ia i rfl hix) Imp.nil ?_
      refine e_opN la (.pick (by (repeat constructor)) .nil) ?_
      refine e_bslS (s := 2) (vs := [av a]) rfl (by omega) rfl (by intro z hz; simp at hz; subst hz; rfl) (by omega) fun g4 => ?_
      refine e_app (m := 1) (news := ic a) (.there .here) (src_pt (s := 2) (e' := 95) (by kernel_rfl) .here (by rfl) (ic_one _)) (by omega) (by omega) fun a' c' => ?_
      refine e_opN (v_add (by omega) (by omega)) Imp.nil ?_
      have e1 : Q.length + 1 = (Q ++ [a]).length := by simp
      have e2 : Q.flatMap ic ++ ic a = (Q ++ [a]).flatMap ic := by simp
      rw [e1, e2]
      refine e_next3 (m - 1) (by omega) (.ex (((a', c'), (i + 1, k)), Q ++ [a]) (.all ?_))
      (try simp only [List.cons_append, List.nil_append, -eq_self])
      refine .pu ⟨by (try dsimp only); omega, rfl, rfl, rfl, by (try dsimp only); omega, by (try dsimp only); rw [List.length_append, hQ]; simp; omega, ?_⟩ ?_
      · (try dsimp only)
        rw [hM, hM2, List.append_assoc]; rfl
      · (try dsimp only)
        refine .pick .here ?_
        (repeat (first | exact Imp.refl | exact Imp.nil | (apply Imp.pick; (focus ((repeat constructor); done))) | refine Imp.drop ?_))
    refine e_drS ?_
    refine e_stS v_len Imp.nil ?_
    refine e_askS v_lss Imp.nil (fun h2 => ?_) (fun h2 => ?_)
    · have hky : k < ys.length := by omega
      obtain ⟨g', o', rfl, _⟩ := hb.at_ (by omega)
      have nb := v_itN hb hky
      have lb := ld_itR hb hky
      refine e_gdT ?_
      refine e_gdT ?_
      refine e_gdT ?_
      refine e_stS (v_ia k rfl hky) Imp.nil ?_
      refine e_gdT ?_
      refine e_stS v_fa Imp.nil ?_
      refine e_gdT ?_
      refine e_stS nb (.pick (by (repeat constructor)) .nil) ?_
      refine e_gdT ?_
      refine e_gdT ?_
      refine e_gdT ?_
      refine e_stS (v_ia i rfl hix) Imp.nil ?_
      refine e_gdT ?_
      refine e_stS v_fa Imp.nil ?_
      refine e_gdT ?_
      refine e_stS na (.pick (by (repeat constructor)) .nil) ?_
      refine e_gdT ?_
      refine e_stS v_lss Imp.nil ?_
      refine e_stS v_pickT Imp.nil ?_
      by_cases h3 : ys[k].n < a.n
      · have hM2 : mrg It.n (a :: xs.drop (i + 1)) (ys.drop k) = ys[k] :: mrg It.n (a :: xs.drop (i + 1)) (ys.drop (k + 1)) := by
          rw [List.drop_eq_getElem_cons hky]
          exact mrg_lt It.n h3
        rw [decide_eq_true h3]
        refine e_condT ?_
        refine e_opN (v_ia k rfl hky) Imp.nil ?_
        refine e_opN lb (.pick (by (repeat constructor)) .nil) ?_
        refine e_bslS (s := 2) (vs := [av ys[k]]) rfl (by omega) rfl (by intro z hz; simp at hz; subst hz; rfl) (by omega) fun g4 => ?_
        refine e_app (m := 1) (news := ic ys[k]) (.there .here) (src_pt (s := 2) (e' := 95) (by kernel_rfl) .here (by rfl) (ic_one _)) (by omega) (by omega) fun a' c' => ?_
        refine e_opN (v_add (by omega) (by omega)) Imp.nil ?_
        have e1 : Q.length + 1 = (Q ++ [ys[k]]).length := by simp
        have e2 : Q.flatMap ic ++ ic ys[k] = (Q ++ [ys[k]]).flatMap ic := by simp
        rw [e1, e2]
        refine e_next2 (m2 - 1) (by omega) (.ex (((a', c'), k + 1), Q ++ [ys[k]]) (.all ?_))
        (try simp only [List.cons_append, List.nil_append, -eq_self])
        refine .pu ⟨by (try dsimp only); omega, rfl, rfl, by (try dsimp only); rw [List.length_append, hQ]; simp; omega, ?_⟩ ?_
        · (try dsimp only)
          rw [hM, hM2, List.append_assoc]; rfl
        · (try dsimp only)
          refine .pick .here ?_
          (repeat (first | exact Imp.refl | exact Imp.nil | (apply Imp.pick; (focus ((repeat constructor); done))) | refine Imp.drop ?_))
      · rw [decide_eq_false h3]
        refine e_condF ?_
        exact done fun c => h3 c.2
    · ((with_reducible refine e_gdF2 ?_)); ((with_reducible refine e_gdF2 ?_)); ((with_reducible refine e_gdF2 ?_)); ((with_reducible refine e_gdF2 ?_)); ((with_reducible refine e_gdF2 ?_)); ((with_reducible refine e_gdF2 ?_)); ((with_reducible refine e_gdF2 ?_)); ((with_reducible refine e_gdF2 ?_)); ((with_reducible refine e_gdF2 ?_)); ((with_reducible refine e_gdF2 ?_)); ((with_reducible refine e_gdF2 ?_)); (((with_reducible refine e_stS v_pickF Imp.nil ?_))); ((with_reducible refine e_condF ?_))
      exact done fun c => h2 (by have := c.1; omega)
  · have hie : i = xs.length := by omega
    subst hie
    rw [List.drop_length, show mrg It.n [] (ys.drop k) = ys.drop k from rfl] at hM
    refine e_condF ?_
    refine e_opN (v_sll k rfl hk) Imp.nil ?_
    have rd := rdl_drop hb hk hcb
    unfold RdL at rd
    rw [List.length_drop] at rd
    refine e_app (m := ys.length - k) (news := (ys.drop k).flatMap ic) .here (src_rdS (s := 2) (e' := 95) (by kernel_rfl) (by decide) (.there (.there .here)) rd (ics_one _)) (by omega) (by omega) fun a' c' => ?_
    have e1 : O.length + (ys.length - k) = xs.length + ys.length := by omega
    rw [← List.flatMap_append, ← hM, e1]
    (first | refine e_ret ((a', c')) rfl ?_ | refine e_retT ((a', c')) ?_)
    (repeat (first | exact Imp.refl | exact Imp.nil | (apply Imp.pick; (focus ((repeat constructor); done))) | refine Imp.drop ?_))
end Go.Proofs.Ytehfblkpbadikaa.HF
