/- The document's spans. A text of at most 2097152 bytes. -/
import Derived.Test.YtcigoifhcfbcdaaDoorFldR2
import Derived.Test.YtcigoifhcfbcdaaDoorFld9
set_option linter.unusedVariables false
set_option linter.unusedSimpArgs false
namespace Go.Proofs.YtcigoifhcfbcdaaDoor.FD
open Go Go.Proofs Go.RowKit Go.Proofs.YtcigoifhcfbcdaaDoor.Sh Go.Proofs.YtcigoifhcfbcdaaDoor.Sl Go.Proofs.YtcigoifhcfbcdaaDoor.T
def scn (c : UInt8) (l : List UInt8) (i : Nat) : Prop := cutA c l = l.take i ++ cutA c (l.drop i) ∧ cutB c l = cutB c (l.drop i) ∧ cutS c l = cutS c (l.drop i)
theorem scn0 {c : UInt8} {l : List UInt8} : scn c l 0 := by simp [scn]
theorem scn_next {c : UInt8} {l : List UInt8} {i : Nat} (h : scn c l i) (hi : i < l.length) (hc : gt l i ≠ c) : scn c l (i + 1) := by
  obtain ⟨h1, h2, h3⟩ := h
  rw [gt_at hi] at hc
  rw [dr hi] at h1 h2 h3
  refine ⟨?_, ?_, ?_⟩
  · rw [h1, cutA, if_neg hc, List.take_succ_eq_append_getElem hi, List.append_assoc]; rfl
  · rw [h2, cutB, if_neg hc]
  · rw [h3, cutS, if_neg hc]
theorem scn_end {c : UInt8} {l : List UInt8} {i : Nat} (h : scn c l i) (hi : l.length ≤ i) : cutA c l = l ∧ cutB c l = [] ∧ cutS c l = false := by
  obtain ⟨h1, h2, h3⟩ := h
  rw [List.drop_of_length_le hi] at h1 h2 h3
  rw [List.take_of_length_le hi] at h1
  refine ⟨by rw [h1]; simp [cutA], h2, h3⟩
theorem scn_hit {c : UInt8} {l : List UInt8} {i : Nat} (h : scn c l i) (hi : i < l.length) (hc : gt l i = c) : cutA c l = l.take i ∧ cutB c l = l.drop (i + 1) ∧ cutS c l = true := by
  obtain ⟨h1, h2, h3⟩ := h
  rw [gt_at hi] at hc
  rw [dr hi] at h1 h2 h3
  refine ⟨?_, ?_, ?_⟩
  · rw [h1, cutA, if_pos hc]; simp
  · rw [h2, cutB, if_pos hc]
  · rw [h3, cutS, if_pos hc]
theorem rspan {W : World} {l : List UInt8} (hl : l.length ≤ 4194304) : Cn Tryd.prog 40 [txt l] W [] (fun _ : Unit => .tuple #[vSpan (spanR l).1, .bool (spanR l).2]) (fun _ => []) := by
  (refine S.ref10_span_cn fun F => ?_; unfold S.ref10_span; simp only [List.cons_append, List.nil_append])
  refine e_newA fun b2 => ?_
  refine e_loop1 (fun m y => [ex fun i : Nat => all [pu (m + i = l.length ∧ y = .int .i64 (i : Int) ∧ scn 45 l i), pt b2 (.cells #[.int .i64 0, .int .i64 0] 32 (0, 0))]] ++ F) l.length ?_ ?_
  · refine Imp.ex 0 (.all ?_)
    (try simp only [List.cons_append, List.nil_append, -eq_self])
    exact .pu ⟨by omega, rfl, scn0⟩ .refl
  intro m ds y
  (try simp only [List.cons_append, List.nil_append, -eq_self])
  refine e_ex Pick.here fun i => e_all Pick.here ?_
  (try simp only [List.cons_append, List.nil_append, -eq_self])
  refine e_pu Pick.here fun hi => ?_
  obtain ⟨hmi, rfl, hsc⟩ := hi
  refine e_opN v_lent Imp.nil ?_
  refine e_opN v_lss Imp.nil ?_
  refine e_and12 (v := B (gt l i)) (b := decide (gt l i ≠ 45)) (fun h => v_gt (by simp at h; omega)) (fun _ => B_ne 45 rfl) ?_
  refine e_cond (φ := i < l.length ∧ gt l i ≠ 45) (by
    have e3 : decide ((i : Int) < (l.length : Int)) = decide (i < l.length) := by rw [decide_eq_decide]; omega
    rw [e3, ← Bool.decide_and]) (fun h => ?_) (fun h => ?_)
  · refine e_opN (v_add (by omega) (by omega)) Imp.nil ?_
    refine e_next1 (m - 1) (by omega) (.ex (i + 1) (.all ?_))
    (try simp only [List.cons_append, List.nil_append, -eq_self])
    exact .pu ⟨by omega, rfl, scn_next hsc h.1 h.2⟩ .refl
  · refine e_opN v_lent Imp.nil ?_
    refine e_opN v_eql Imp.nil ?_
    refine e_or2 (fun _ => v_lent) (fun _ => v_eql) ?_
    refine e_cond (φ := i = l.length ∨ l.length = 1) (by rw [← Bool.decide_or, decide_eq_decide]; omega) (fun h1 => ?_) (fun h1 => ?_)
    · have e : spanR l = ((0, 0), false) := by
        unfold spanR
        rw [if_pos]
        rcases h1 with h1 | h1
        · exact .inl (scn_end hsc (by omega)).2.2
        · exact .inr h1
      rw [e]
      (((with_reducible refine e_opN v_rv Imp.nil ?_))); (((with_reducible refine' e_stAgg ?hp ?hn ?hv ?h1 ?_); (case hp => (repeat constructor)); (case hn => rfl); (case hv => rfl); (case h1 => simp [Value.oneCell']))); (((with_reducible refine' e_stS (v_resA ?hn) ?hi ?_); (case hi => (repeat (first | exact Imp.refl | exact Imp.nil | (apply Imp.pick; (focus ((repeat constructor); done))) | refine Imp.drop ?_))); (case hn => rfl)))
      (first | refine e_ret (()) rfl ?_ | refine e_retT (()) ?_)
      (repeat (first | exact Imp.refl | exact Imp.nil | (apply Imp.pick; (focus ((repeat constructor); done))) | refine Imp.drop ?_))
    · have hil : i < l.length := by omega
      have hg : gt l i = 45 := Decidable.byContradiction fun c => h ⟨hil, c⟩
      obtain ⟨ea, eb, es⟩ := scn_hit hsc hil hg
      have hsp : spanR l = if endOk (l.take i) = false then ((-1, -1), false) else if endOk (l.drop (i + 1)) = false then ((endF (l.take i), -1), false)
          else ((endF (l.take i), endF (l.drop (i + 1))), decide (endF (l.take i) < 0 ∨ endF (l.drop (i + 1)) < 0 ∨ endF (l.take i) ≤ endF (l.drop (i + 1)))) := by
        unfold spanR
        rw [if_neg (by rw [es]; rintro (c | c); cases c; exact h1 (.inr c)), ea, eb]
      rw [hsp]
      refine e_opN v_rv Imp.nil ?_
      refine e_newA fun b5 => ?_
      (((with_reducible refine' e_stAgg ?hp ?hn ?hv ?h1 ?_); (case hp => (repeat constructor)); (case hn => rfl); (case hv => rfl); (case h1 => simp [Value.oneCell'])))
      refine e_cut0 (pu (endOk (l.take i) = true) :: pt b5 (.cells #[.int .i64 (endF (l.take i)), .int .i64 (-1)] 32 (0, 0)) :: pt b2 (.cells #[.int .i64 0, .int .i64 0] 32 (0, 0)) :: F) ?_ ?_
      · intro ds2
        refine e_pu .here fun hoa => ?_
        rw [if_neg (by rw [hoa]; simp)]
        refine e_cut0 (pu (endOk (l.drop (i + 1)) = true) :: pt b5 (.cells #[.int .i64 (endF (l.take i)), .int .i64 (endF (l.drop (i + 1)))] 32 (0, 0)) :: pt b2 (.cells #[.int .i64 0, .int .i64 0] 32 (0, 0)) :: F) ?_ ?_
        · intro ds3
          refine e_pu .here fun hob => ?_
          rw [if_neg (by rw [hob]; simp)]
          generalize endF (l.take i) = x
          generalize endF (l.drop (i + 1)) = y
          refine e_drS ?_
          refine e_stS (v_ldAgg (cs := #[.int .i64 x, .int .i64 y]) rfl) (.pick (by (repeat constructor)) .nil) ?_
          refine e_stS v_fa0 Imp.nil ?_
          refine e_stS (v_ldN .here) (.pick (by (repeat constructor)) .nil) ?_
          refine e_askS v_lss Imp.nil (fun h1 => ?_) (fun h1 => ?_)
          · rw [decide_eq_true (.inl h1)]
            ((with_reducible refine e_gdF1 ?_)); ((with_reducible refine e_gdF1 ?_)); ((with_reducible refine e_gdF1 ?_)); (((with_reducible refine e_stS v_pickT Imp.nil ?_))); ((with_reducible refine e_gdDF1 ?_)); ((with_reducible refine e_gdDF1 ?_)); ((with_reducible refine e_gdDF1 ?_)); ((with_reducible refine e_gdDF1 ?_)); ((with_reducible refine e_gdDF1 ?_)); (((with_reducible refine e_stD v_pickT Imp.nil ?_))); (((with_reducible refine' e_stAgg ?hp ?hn ?hv ?h1 ?_); (case hp => (repeat constructor)); (case hn => rfl); (case hv => rfl); (case h1 => simp [Value.oneCell']))); (((with_reducible refine e_obl ?hi ?_); (case hi => (repeat (first | exact Imp.refl | exact Imp.nil | (apply Imp.pick; (focus ((repeat constructor); done))) | refine Imp.drop ?_))))); ((with_reducible refine e_oblT ?_)); ((with_reducible refine e_oblT ?_)); ((with_reducible refine e_oblT ?_)); ((with_reducible refine e_oblT ?_)); ((with_reducible refine e_oblT ?_)); (((with_reducible refine' e_stS (v_resA ?hn) ?hi ?_); (case hi => (repeat (first | exact Imp.refl | exact Imp.nil | (apply Imp.pick; (focus ((repeat constructor); done))) | refine Imp.drop ?_))); (case hn => rfl)))
            (first | refine e_ret (()) rfl ?_ | refine e_retT (()) ?_)
            (repeat (first | exact Imp.refl | exact Imp.nil | (apply Imp.pick; (focus ((repeat constructor); done))) | refine Imp.drop ?_))
          · refine e_gdT ?_
            refine e_stS v_fa0 Imp.nil ?_
            refine e_gdT ?_
            refine e_stS (v_ldN (.there .here)) (.pick (by (repeat constructor)) .nil) ?_
            refine e_gdT ?_
            refine e_askS v_lss Imp.nil (fun h2 => ?_) (fun h2 => ?_)
            · rw [decide_eq_true (.inr (.inl h2))]
              (((with_reducible refine e_stS v_pickF Imp.nil ?_))); ((with_reducible refine e_gdDF1 ?_)); ((with_reducible refine e_gdDF1 ?_)); ((with_reducible refine e_gdDF1 ?_)); ((with_reducible refine e_gdDF1 ?_)); ((with_reducible refine e_gdDF1 ?_)); (((with_reducible refine e_stD v_pickT Imp.nil ?_))); (((with_reducible refine' e_stAgg ?hp ?hn ?hv ?h1 ?_); (case hp => (repeat constructor)); (case hn => rfl); (case hv => rfl); (case h1 => simp [Value.oneCell']))); (((with_reducible refine e_obl ?hi ?_); (case hi => (repeat (first | exact Imp.refl | exact Imp.nil | (apply Imp.pick; (focus ((repeat constructor); done))) | refine Imp.drop ?_))))); ((with_reducible refine e_oblT ?_)); ((with_reducible refine e_oblT ?_)); ((with_reducible refine e_oblT ?_)); ((with_reducible refine e_oblT ?_)); ((with_reducible refine e_oblT ?_)); (((with_reducible refine' e_stS (v_resA ?hn) ?hi ?_); (case hi => (repeat (first | exact Imp.refl | exact Imp.nil | (apply Imp.pick; (focus ((repeat constructor); done))) | refine Imp.drop ?_))); (case hn => rfl)))
              (first | refine e_ret (()) rfl ?_ | refine e_retT (()) ?_)
              (repeat (first | exact Imp.refl | exact Imp.nil | (apply Imp.pick; (focus ((repeat constructor); done))) | refine Imp.drop ?_))
            · refine e_stS v_pickF Imp.nil ?_
              refine e_gdDT ?_
              refine e_stD v_fa0 Imp.nil ?_
              refine e_gdDT ?_
              refine e_stD (v_ldN .here) (.pick (by (repeat constructor)) .nil) ?_
              refine e_gdDT ?_
              refine e_stD v_fa0 Imp.nil ?_
              refine e_gdDT ?_
              refine e_stD (v_ldN (.there .here)) (.pick (by (repeat constructor)) .nil) ?_
              refine e_gdDT ?_
              refine e_askD v_leq Imp.nil (fun h3 => ?_) (fun h3 => ?_)
              · rw [decide_eq_true (.inr (.inr h3))]
                (((with_reducible refine e_stD v_pickF Imp.nil ?_))); (((with_reducible refine' e_stAgg ?hp ?hn ?hv ?h1 ?_); (case hp => (repeat constructor)); (case hn => rfl); (case hv => rfl); (case h1 => simp [Value.oneCell']))); (((with_reducible refine e_obl ?hi ?_); (case hi => (repeat (first | exact Imp.refl | exact Imp.nil | (apply Imp.pick; (focus ((repeat constructor); done))) | refine Imp.drop ?_))))); (((with_reducible refine e_obl ?hi ?_); (case hi => (repeat (first | exact Imp.refl | exact Imp.nil | (apply Imp.pick; (focus ((repeat constructor); done))) | refine Imp.drop ?_))))); (((with_reducible refine e_obl ?hi ?_); (case hi => (repeat (first | exact Imp.refl | exact Imp.nil | (apply Imp.pick; (focus ((repeat constructor); done))) | refine Imp.drop ?_))))); (((with_reducible refine e_obl ?hi ?_); (case hi => (repeat (first | exact Imp.refl | exact Imp.nil | (apply Imp.pick; (focus ((repeat constructor); done))) | refine Imp.drop ?_))))); (((with_reducible refine e_obl ?hi ?_); (case hi => (repeat (first | exact Imp.refl | exact Imp.nil | (apply Imp.pick; (focus ((repeat constructor); done))) | refine Imp.drop ?_))))); (((with_reducible refine e_obl ?hi ?_); (case hi => (repeat (first | exact Imp.refl | exact Imp.nil | (apply Imp.pick; (focus ((repeat constructor); done))) | refine Imp.drop ?_))))); (((with_reducible refine' e_stS (v_resA ?hn) ?hi ?_); (case hi => (repeat (first | exact Imp.refl | exact Imp.nil | (apply Imp.pick; (focus ((repeat constructor); done))) | refine Imp.drop ?_))); (case hn => rfl)))
                (first | refine e_ret (()) rfl ?_ | refine e_retT (()) ?_)
                (repeat (first | exact Imp.refl | exact Imp.nil | (apply Imp.pick; (focus ((repeat constructor); done))) | refine Imp.drop ?_))
              · rw [decide_eq_false (by omega)]
                (((with_reducible refine e_stD v_pickF Imp.nil ?_))); (((with_reducible refine' e_stAgg ?hp ?hn ?hv ?h1 ?_); (case hp => (repeat constructor)); (case hn => rfl); (case hv => rfl); (case h1 => simp [Value.oneCell']))); (((with_reducible refine e_obl ?hi ?_); (case hi => (repeat (first | exact Imp.refl | exact Imp.nil | (apply Imp.pick; (focus ((repeat constructor); done))) | refine Imp.drop ?_))))); (((with_reducible refine e_obl ?hi ?_); (case hi => (repeat (first | exact Imp.refl | exact Imp.nil | (apply Imp.pick; (focus ((repeat constructor); done))) | refine Imp.drop ?_))))); (((with_reducible refine e_obl ?hi ?_); (case hi => (repeat (first | exact Imp.refl | exact Imp.nil | (apply Imp.pick; (focus ((repeat constructor); done))) | refine Imp.drop ?_))))); (((with_reducible refine e_obl ?hi ?_); (case hi => (repeat (first | exact Imp.refl | exact Imp.nil | (apply Imp.pick; (focus ((repeat constructor); done))) | refine Imp.drop ?_))))); (((with_reducible refine e_obl ?hi ?_); (case hi => (repeat (first | exact Imp.refl | exact Imp.nil | (apply Imp.pick; (focus ((repeat constructor); done))) | refine Imp.drop ?_))))); (((with_reducible refine e_obl ?hi ?_); (case hi => (repeat (first | exact Imp.refl | exact Imp.nil | (apply Imp.pick; (focus ((repeat constructor); done))) | refine Imp.drop ?_))))); (((with_reducible refine' e_stS (v_resA ?hn) ?hi ?_); (case hi => (repeat (first | exact Imp.refl | exact Imp.nil | (apply Imp.pick; (focus ((repeat constructor); done))) | refine Imp.drop ?_))); (case hn => rfl)))
                (first | refine e_ret (()) rfl ?_ | refine e_retT (()) ?_)
                (repeat (first | exact Imp.refl | exact Imp.nil | (apply Imp.pick; (focus ((repeat constructor); done))) | refine Imp.drop ?_))
        · refine e_opN (v_add (by omega) (by omega)) Imp.nil ?_
          refine e_opN v_lent Imp.nil ?_
          refine e_ask v_lss Imp.nil (fun h2 => ?_) (fun h2 => ?_)
          · refine e_condT ?_
            have hne : l.drop (i + 1) ≠ [] := fun c => by
              have := congrArg List.length c
              rw [List.length_drop, List.length_nil] at this; omega
            refine e_opN (v_add (by omega) (by omega)) Imp.nil ?_
            refine e_opN (v_ssl (i + 1) rfl (by omega)) Imp.nil ?_
            refine e_call (rdecimal (l := l.drop (i + 1)) (by rw [List.length_drop]; omega)) .nil fun _ => ?_
            (try simp only [List.cons_append, List.nil_append, -eq_self])
            refine e_opN (v_extN (vs := [_, _]) .here) Imp.nil ?_
            refine e_opN (v_extN (vs := [_, _]) (.there .here)) Imp.nil ?_
            have eo := endOk_n hne
            refine e_ask v_neq Imp.nil (fun h3 => ?_) (fun h3 => ?_)
            · rw [decide_eq_false h3] at eo
              rw [if_pos eo]
              ((with_reducible refine e_condT ?_)); (((with_reducible refine' e_opN (v_ldAgg ?hn) ?hi ?_); (case hi => (repeat (first | exact Imp.refl | exact Imp.nil | (apply Imp.pick; (focus ((repeat constructor); done))) | refine Imp.drop ?_))); (case hn => rfl))); (((with_reducible refine' e_stAgg ?hp ?hn ?hv ?h1 ?_); (case hp => (repeat constructor)); (case hn => rfl); (case hv => rfl); (case h1 => simp [Value.oneCell']))); (((with_reducible refine' e_stS (v_resA ?hn) ?hi ?_); (case hi => (repeat (first | exact Imp.refl | exact Imp.nil | (apply Imp.pick; (focus ((repeat constructor); done))) | refine Imp.drop ?_))); (case hn => rfl)))
              (first | refine e_ret (()) rfl ?_ | refine e_retT (()) ?_)
              (repeat (first | exact Imp.refl | exact Imp.nil | (apply Imp.pick; (focus ((repeat constructor); done))) | refine Imp.drop ?_))
            · have h3 := Decidable.not_not.1 h3
              rw [decide_eq_true h3] at eo
              rw [endF_n hne]
              ((with_reducible refine e_condF ?_)); (((with_reducible refine e_opN v_fa0 Imp.nil ?_))); (((with_reducible refine' e_stN ?hp ?ho ?_); (case hp => (repeat constructor)); (case ho => (repeat (first | exact Put.here | apply Put.there)))))
              refine e_sat (.pu eo ?_)
              exact .refl
          · refine e_condF ?_
            have he : l.drop (i + 1) = [] := List.drop_of_length_le (by omega)
            rw [he]
            refine e_sat (.pu rfl ?_)
            exact .refl
      · refine e_ask v_gtr Imp.nil (fun h2 => ?_) (fun h2 => ?_)
        · refine e_condT ?_
          have hne : l.take i ≠ [] := fun c => by
            have := congrArg List.length c
            rw [List.length_take, List.length_nil] at this; omega
          refine e_opN (v_ssh i rfl (by omega)) Imp.nil ?_
          refine e_call (rdecimal (l := l.take i) (by rw [List.length_take]; omega)) .nil fun _ => ?_
          (try simp only [List.cons_append, List.nil_append, -eq_self])
          refine e_opN (v_extN (vs := [_, _]) .here) Imp.nil ?_
          refine e_opN (v_extN (vs := [_, _]) (.there .here)) Imp.nil ?_
          have eo := endOk_n hne
          refine e_ask v_neq Imp.nil (fun h3 => ?_) (fun h3 => ?_)
          · rw [decide_eq_false h3] at eo
            rw [if_pos eo]
            ((with_reducible refine e_condT ?_)); (((with_reducible refine' e_opN (v_ldAgg ?hn) ?hi ?_); (case hi => (repeat (first | exact Imp.refl | exact Imp.nil | (apply Imp.pick; (focus ((repeat constructor); done))) | refine Imp.drop ?_))); (case hn => rfl))); (((with_reducible refine' e_stAgg ?hp ?hn ?hv ?h1 ?_); (case hp => (repeat constructor)); (case hn => rfl); (case hv => rfl); (case h1 => simp [Value.oneCell']))); (((with_reducible refine' e_stS (v_resA ?hn) ?hi ?_); (case hi => (repeat (first | exact Imp.refl | exact Imp.nil | (apply Imp.pick; (focus ((repeat constructor); done))) | refine Imp.drop ?_))); (case hn => rfl)))
            (first | refine e_ret (()) rfl ?_ | refine e_retT (()) ?_)
            (repeat (first | exact Imp.refl | exact Imp.nil | (apply Imp.pick; (focus ((repeat constructor); done))) | refine Imp.drop ?_))
          · have h3 := Decidable.not_not.1 h3
            rw [decide_eq_true h3] at eo
            rw [endF_n hne]
            ((with_reducible refine e_condF ?_)); (((with_reducible refine e_opN v_fa0 Imp.nil ?_))); (((with_reducible refine' e_stN ?hp ?ho ?_); (case hp => (repeat constructor)); (case ho => (repeat (first | exact Put.here | apply Put.there)))))
            refine e_sat (.pu eo ?_)
            exact .refl
        · refine e_condF ?_
          have h0 : i = 0 := by omega
          subst h0
          rw [List.take_zero]
          refine e_sat (.pu rfl ?_)
          exact .refl
theorem rspans {W : World} {l : List UInt8} (hl : l.length ≤ 2097152) : Cn Tryd.prog 10 [txt l] W [] (fun r : Option Addr × Nat => .tuple #[.slice r.1 (spansF l).1.length r.2, .int .i64 (spansF l).2])
    (fun r => [Sl 2 32 r.1 r.2 (spansF l).1.length ((spansF l).1.flatMap pSpan)]) := by
  have bad : (l.length < 6 ∨ lowF (l.take 6) ≠ [98, 121, 116, 101, 115, 61]) → spansF l = ([], 42) := fun h => by
    unfold spansF spanLF; rw [if_pos h]
  have fin : ∀ n : Int, spansF l = ([], n) → ∀ F : List HP, Ent W F (fun w => ∃ r : Option Addr × Nat, (.tuple #[.slice none 0 0, .int .i64 n] : Value) = .tuple #[.slice r.1 (spansF l).1.length r.2, .int .i64 (spansF l).2] ∧ sat W ([Sl 2 32 r.1 r.2 (spansF l).1.length ((spansF l).1.flatMap pSpan)] ++ F) w) := by
    intro n h F
    rw [h]
    refine e_ret (none, 0) rfl ?_
    exact imp_nil .refl
  (refine S.ref10_Spans_cn fun F => ?_; unfold S.ref10_Spans; simp only [List.cons_append, List.nil_append])
  refine e_opN v_lent Imp.nil ?_
  refine e_ask v_lss Imp.nil (fun h => ?_) (fun h => ?_)
  · ((with_reducible refine e_gdF1 ?_)); ((with_reducible refine e_gdF1 ?_)); ((with_reducible refine e_gdF1 ?_)); ((with_reducible refine e_gdF1 ?_)); (((with_reducible refine e_opN v_pickT Imp.nil ?_))); ((with_reducible refine e_condT ?_))
    exact fin _ (bad (.inl (by omega))) _
  have h6 : 6 ≤ l.length := by omega
  ((with_reducible refine e_gdT ?_)); ((with_reducible refine e_gdT ?_))
  refine e_opN (v_ssh 6 rfl h6) Imp.nil ?_
  ((with_reducible refine e_gdT ?_))
  refine e_call (rlower (l := l.take 6) (by simp; omega)) .nil fun _ => ?_
  (try simp only [List.cons_append, List.nil_append, -eq_self])
  ((with_reducible refine e_gdT ?_))
  refine e_opN (v_strne (m := [98, 121, 116, 101, 115, 61])) Imp.nil ?_
  refine e_opN v_pickF Imp.nil ?_
  by_cases hq : lowF (l.take 6) = [98, 121, 116, 101, 115, 61]
  rotate_left
  · rw [decide_eq_true hq]
    refine e_condT ?_
    exact fin _ (bad (.inr hq)) _
  rw [decide_eq_false (fun c => c hq)]
  refine e_condF ?_
  have hs : spanLF l = listF spanR (elemsF false false (l.drop 6)) := by
    unfold spanLF; rw [if_neg (by rintro (h3 | h3); omega; exact h3 hq)]
    exact listF_eq (fun w => (span_eq w).1) (fun w => (span_eq w).2) _
  have hnum := elems_num (q := false) (e := false) (l := l.drop 6)
  rw [List.length_drop] at hnum
  refine e_opN (v_ssl 6 rfl h6) Imp.nil ?_
  refine e_call (relements (l := l.drop 6) (q := false) (e := false) (by rw [List.length_drop]; omega)) .nil fun r => ?_
  obtain ⟨ea, ec⟩ := r
  (try simp only [List.cons_append, List.nil_append, -eq_self])
  obtain ⟨E, hE⟩ : ∃ E, E = elemsF false false (l.drop 6) := ⟨_, rfl⟩
  have hEl : ∀ w ∈ E, w.length ≤ 2097152 := fun w hw => by
    rw [hE] at hw
    have := elems_len hw
    rw [List.length_drop] at this; omega
  rw [← hE] at hnum hs ⊢
  refine e_loop2 (fun m y5 y6 => [ex fun st : Nat × Option Addr × Nat => all [pu (m + st.1 = E.length ∧ y5 = .slice st.2.1 st.1 st.2.2 ∧ y6 = .int .i64 (st.1 : Int) ∧ (E.take st.1).all (fun w => (spanR w).2) = true), Sl 2 32 st.2.1 st.2.2 st.1 ((E.take st.1).flatMap fun w => pSpan (spanR w).1), Sl 1 9 ea ec E.length (E.map txt)]] ++ F) E.length ?_ ?_
  · refine Imp.ex (0, none, 0) (.all ?_)
    (try simp only [List.cons_append, List.nil_append, -eq_self])
    refine .pu ⟨rfl, rfl, rfl, rfl⟩ ?_
    exact imp_nil .refl
  intro m ds y5 y6
  (try simp only [List.cons_append, List.nil_append, -eq_self])
  refine e_ex Pick.here fun st => e_all Pick.here ?_
  obtain ⟨i, sa, sc⟩ := st
  (try simp only [List.cons_append, List.nil_append, -eq_self])
  refine e_pu Pick.here fun hi => ?_
  (try dsimp only at hi)
  obtain ⟨hmi, rfl, rfl, hok⟩ := hi
  refine e_opN v_len Imp.nil ?_
  refine e_ask v_lss Imp.nil (fun h => ?_) (fun h => ?_)
  · have hil : i < E.length := by omega
    have htk : E.take (i + 1) = E.take i ++ [E[i]] := List.take_succ_eq_append_getElem hil
    refine e_condT ?_
    refine e_slsome (a := ea) (.there .here) (Nat.zero_lt_of_lt hil) fun g hg => ?_
    subst hg
    refine e_opN (v_ia1 i rfl hil) Imp.nil ?_
    refine e_opN (v_ldSl (v := txt E[i]) (by rw [Nat.zero_add, List.getElem?_map, List.getElem?_eq_getElem hil]; rfl)) (.pick (by (repeat constructor)) .nil) ?_
    refine e_call (rspan (l := E[i]) (by have := hEl _ (List.getElem_mem hil); omega)) .nil fun _ => ?_
    (try simp only [List.cons_append, List.nil_append, -eq_self])
    refine e_opN (v_extN (vs := [_, _]) .here) Imp.nil ?_
    refine e_opN (v_extN (vs := [_, _]) (.there .here)) Imp.nil ?_
    unfold vSpan
    refine e_newA fun b8 => ?_
    refine e_stAgg .here (by rfl) (by rfl) (by intro u hu; simp at hu; rcases hu with rfl | rfl <;> rfl) ?_
    refine e_opN v_not Imp.nil ?_
    cases hk : (spanR E[i]).2 with
    | false =>
      refine e_condT ?_
      refine e_imp (M := F) (by (repeat (first | exact Imp.refl | exact Imp.nil | (apply Imp.pick; (focus ((repeat constructor); done))) | refine Imp.drop ?_))) ?_
      refine fin _ ?_ F
      unfold spansF
      rw [hs]
      unfold listF
      rw [if_neg]
      intro hall
      have := List.all_eq_true.1 hall _ (List.getElem_mem hil)
      rw [hk] at this; cases this
    | true =>
      refine e_condF ?_
      refine e_opN (v_ldAgg (cs := #[.int .i64 (spanR E[i]).1.1, .int .i64 (spanR E[i]).1.2]) rfl) (.pick (by (repeat constructor)) .nil) ?_
      refine e_bslS (n := 1) (vs := [vSpan (spanR E[i]).1]) rfl (by omega) rfl (by intro v hv; rw [List.mem_singleton.1 hv]; rfl) (by omega) fun gb => ?_
      refine e_app (m := 1) (news := pSpan (spanR E[i]).1) (by (repeat constructor)) (src_pt (s := 2) (e' := 32) (by kernel_rfl) .here (by rfl) (by intro u hu; simp [pSpan] at hu; rcases hu with rfl | rfl <;> rfl)) (by omega) (by omega) fun a' c' => ?_
      refine e_opN (v_add (by omega) (by omega)) Imp.nil ?_
      refine e_next2 (m - 1) (by omega) (.ex (i + 1, a', c') (.all ?_))
      (try simp only [List.cons_append, List.nil_append, -eq_self])
      refine .pu ⟨by (try dsimp only); omega, rfl, rfl, ?_⟩ ?_
      · rw [htk, List.all_append, hok]
        simp [hk]
      rw [htk, List.flatMap_append, List.flatMap_singleton]
      refine .pick (by (repeat constructor)) ?_
      (repeat (first | exact Imp.refl | exact Imp.nil | (apply Imp.pick; (focus ((repeat constructor); done))) | refine Imp.drop ?_))
  · have hie : i = E.length := by omega
    subst hie
    rw [List.take_length] at hok ⊢
    have hss : spansF l = (let xs := E.map fun w => (spanR w).1; if xs = [] then ([], 42) else if 16 < xs.length then ([], 6) else (xs, 0)) := by
      unfold spansF
      rw [hs]
      unfold listF
      rw [if_pos hok]
    simp only [List.map_eq_nil_iff, List.length_map] at hss
    refine e_condF ?_
    refine e_opN v_len Imp.nil ?_
    refine e_ask v_eql Imp.nil (fun h0 => ?_) (fun h0 => ?_)
    · refine e_condT ?_
      refine e_imp (M := F) (by (repeat (first | exact Imp.refl | exact Imp.nil | (apply Imp.pick; (focus ((repeat constructor); done))) | refine Imp.drop ?_))) ?_
      have : E = [] := List.eq_nil_of_length_eq_zero (by omega)
      exact fin _ (by rw [hss, if_pos this]) F
    · refine e_condF ?_
      have hne : ¬ E = [] := fun c => h0 (by rw [c]; rfl)
      rw [if_neg hne] at hss
      refine e_opN v_len Imp.nil ?_
      refine e_ask v_gtr Imp.nil (fun h1 => ?_) (fun h1 => ?_)
      · refine e_condT ?_
        refine e_imp (M := F) (by (repeat (first | exact Imp.refl | exact Imp.nil | (apply Imp.pick; (focus ((repeat constructor); done))) | refine Imp.drop ?_))) ?_
        exact fin _ (by rw [hss, if_pos (by omega)]) F
      · refine e_condF ?_
        rw [hss, if_neg (by omega)]
        refine e_ret (sa, sc) (by simp) ?_
        simp only [List.length_map, List.flatMap_map]
        (repeat (first | exact Imp.refl | exact Imp.nil | (apply Imp.pick; (focus ((repeat constructor); done))) | refine Imp.drop ?_))
end Go.Proofs.YtcigoifhcfbcdaaDoor.FD
