/- The document's years, months and dates: what they compute. No conditions but those that each names. -/
import Derived.Test.YtcmpkkkigmheoaaDateR
set_option linter.unusedVariables false
set_option linter.unusedSimpArgs false
namespace Go.Proofs.Ytcmpkkkigmheoaa.D
open Go Go.Proofs Go.RowKit Go.Proofs.Ytcmpkkkigmheoaa.Sh Go.Proofs.Ytcmpkkkigmheoaa.Sl Go.Proofs.Ytcmpkkkigmheoaa.T
theorem leap {W : World} {y : Int} (h : 0 ≤ y) : Cn Try.prog 39 [.int .i64 y] W [] (fun _ : Unit => .bool (decide (leapP y))) (fun _ => []) := by
  (refine S.ref09_leap_cn fun F => ?_; unfold S.ref09_leap; simp only [List.cons_append, List.nil_append])
  (((with_reducible refine e_opN (v_rem ?h1 ?h2) Imp.nil ?_); (case h1 => omega); (case h2 => omega)))
  refine e_ask v_eql Imp.nil (fun h4 => ?_) (fun h4 => ?_)
  · ((with_reducible refine e_gdT ?_)); ((with_reducible refine e_gdT ?_)); (((with_reducible refine e_opN (v_rem ?h1 ?h2) Imp.nil ?_); (case h1 => omega); (case h2 => omega))); ((with_reducible refine e_gdT ?_))
    refine e_ask v_neq Imp.nil (fun h1 => ?_) (fun h1 => ?_)
    · (((with_reducible refine e_opN v_pickT Imp.nil ?_))); ((with_reducible refine e_gdF1 ?_)); ((with_reducible refine e_gdF1 ?_)); ((with_reducible refine e_gdF1 ?_)); (((with_reducible refine e_opN v_pickT Imp.nil ?_)))
      rw [decide_eq_true (show leapP y from .inl ⟨h4, h1⟩)]
      (first | refine e_ret (()) rfl ?_ | refine e_retT (()) ?_)
      (repeat (first | exact Imp.refl | exact Imp.nil | (apply Imp.pick; (focus ((repeat constructor); done))) | refine Imp.drop ?_))
    · (((with_reducible refine e_opN v_pickT Imp.nil ?_))); ((with_reducible refine e_gdT ?_)); ((with_reducible refine e_gdT ?_)); (((with_reducible refine e_opN (v_rem ?h1 ?h2) Imp.nil ?_); (case h1 => omega); (case h2 => omega))); ((with_reducible refine e_gdT ?_))
      refine e_ask v_eql Imp.nil (fun h5 => ?_) (fun h5 => ?_)
      · (((with_reducible refine e_opN v_pickF Imp.nil ?_)))
        rw [decide_eq_true (show leapP y from .inr h5)]
        (first | refine e_ret (()) rfl ?_ | refine e_retT (()) ?_)
        (repeat (first | exact Imp.refl | exact Imp.nil | (apply Imp.pick; (focus ((repeat constructor); done))) | refine Imp.drop ?_))
      · (((with_reducible refine e_opN v_pickF Imp.nil ?_)))
        rw [decide_eq_false (show ¬ leapP y from fun c => by rcases c with c | c; exact h1 c.2; exact h5 c)]
        (first | refine e_ret (()) rfl ?_ | refine e_retT (()) ?_)
        (repeat (first | exact Imp.refl | exact Imp.nil | (apply Imp.pick; (focus ((repeat constructor); done))) | refine Imp.drop ?_))
  · ((with_reducible refine e_gdF2 ?_)); ((with_reducible refine e_gdF2 ?_)); ((with_reducible refine e_gdF2 ?_)); (((with_reducible refine e_opN v_pickF Imp.nil ?_))); ((with_reducible refine e_gdT ?_)); ((with_reducible refine e_gdT ?_)); (((with_reducible refine e_opN (v_rem ?h1 ?h2) Imp.nil ?_); (case h1 => omega); (case h2 => omega))); ((with_reducible refine e_gdT ?_))
    refine e_ask v_eql Imp.nil (fun h5 => ?_) (fun h5 => ?_)
    · (((with_reducible refine e_opN v_pickF Imp.nil ?_)))
      rw [decide_eq_true (show leapP y from .inr h5)]
      (first | refine e_ret (()) rfl ?_ | refine e_retT (()) ?_)
      (repeat (first | exact Imp.refl | exact Imp.nil | (apply Imp.pick; (focus ((repeat constructor); done))) | refine Imp.drop ?_))
    · (((with_reducible refine e_opN v_pickF Imp.nil ?_)))
      rw [decide_eq_false (show ¬ leapP y from fun c => by rcases c with c | c; exact h4 c.1; exact h5 c)]
      (first | refine e_ret (()) rfl ?_ | refine e_retT (()) ?_)
      (repeat (first | exact Imp.refl | exact Imp.nil | (apply Imp.pick; (focus ((repeat constructor); done))) | refine Imp.drop ?_))
theorem year {W : World} {y : Int} (h : 0 ≤ y) : Cn Try.prog 23 [.int .i64 y] W [] (fun _ : Unit => .int .i64 (yrN y)) (fun _ => []) := by
  (refine S.ref09_year_cn fun F => ?_; unfold S.ref09_year; simp only [List.cons_append, List.nil_append])
  (refine' e_call (leap h) ?hp fun _ => ?_; (case hp => (repeat (first | exact Picks.nil | (apply Picks.cons; (focus (repeat constructor)))))); (try simp only [List.cons_append, List.nil_append, Bool.not_true, Bool.not_false]))
  unfold yrN
  by_cases hl : leapP y
  · rw [decide_eq_true hl, if_pos hl]
    ((with_reducible refine e_condT ?_))
    (first | refine e_ret (()) rfl ?_ | refine e_retT (()) ?_)
    (repeat (first | exact Imp.refl | exact Imp.nil | (apply Imp.pick; (focus ((repeat constructor); done))) | refine Imp.drop ?_))
  · rw [decide_eq_false hl, if_neg hl]
    ((with_reducible refine e_condF ?_))
    (first | refine e_ret (()) rfl ?_ | refine e_retT (()) ?_)
    (repeat (first | exact Imp.refl | exact Imp.nil | (apply Imp.pick; (focus ((repeat constructor); done))) | refine Imp.drop ?_))
theorem rdays {W : World} {y m : Int} (h : 0 ≤ y) : Cn Try.prog 24 [.int .i64 y, .int .i64 m] W [] (fun _ : Unit => .int .i64 (mlN y m)) (fun _ => []) := by
  (refine S.ref09_days_cn fun F => ?_; unfold S.ref09_days; simp only [List.cons_append, List.nil_append])
  refine e_ask v_eql Imp.nil (fun h2 => ?_) (fun h2 => ?_)
  · ((with_reducible refine e_condT ?_))
    (refine' e_call (leap h) ?hp fun _ => ?_; (case hp => (repeat (first | exact Picks.nil | (apply Picks.cons; (focus (repeat constructor)))))); (try simp only [List.cons_append, List.nil_append, Bool.not_true, Bool.not_false]))
    unfold mlN
    rw [if_pos h2]
    by_cases hl : leapP y
    · rw [decide_eq_true hl, if_pos hl]
      ((with_reducible refine e_condT ?_))
      (first | refine e_ret (()) rfl ?_ | refine e_retT (()) ?_)
      (repeat (first | exact Imp.refl | exact Imp.nil | (apply Imp.pick; (focus ((repeat constructor); done))) | refine Imp.drop ?_))
    · rw [decide_eq_false hl, if_neg hl]
      ((with_reducible refine e_condF ?_))
      (first | refine e_ret (()) rfl ?_ | refine e_retT (()) ?_)
      (repeat (first | exact Imp.refl | exact Imp.nil | (apply Imp.pick; (focus ((repeat constructor); done))) | refine Imp.drop ?_))
  ((with_reducible refine e_condF ?_))
  have hm : mlN y m = if m = 4 ∨ m = 6 ∨ m = 9 ∨ m = 11 then 30 else 31 := if_neg h2
  rw [hm]
  refine e_ask v_eql Imp.nil (fun h4 => ?_) (fun h4 => ?_)
  · rw [if_pos (.inl h4)]
    ((with_reducible refine e_condT ?_)); ((with_reducible refine e_condT ?_))
    (first | refine e_ret (()) rfl ?_ | refine e_retT (()) ?_)
    (repeat (first | exact Imp.refl | exact Imp.nil | (apply Imp.pick; (focus ((repeat constructor); done))) | refine Imp.drop ?_))
  ((with_reducible refine e_condF ?_))
  refine e_ask v_eql Imp.nil (fun h6 => ?_) (fun h6 => ?_)
  · rw [if_pos (.inr (.inl h6))]
    ((with_reducible refine e_condT ?_)); ((with_reducible refine e_condT ?_))
    (first | refine e_ret (()) rfl ?_ | refine e_retT (()) ?_)
    (repeat (first | exact Imp.refl | exact Imp.nil | (apply Imp.pick; (focus ((repeat constructor); done))) | refine Imp.drop ?_))
  ((with_reducible refine e_condF ?_))
  refine e_ask v_eql Imp.nil (fun h9 => ?_) (fun h9 => ?_)
  · rw [if_pos (.inr (.inr (.inl h9)))]
    ((with_reducible refine e_condT ?_)); ((with_reducible refine e_condT ?_))
    (first | refine e_ret (()) rfl ?_ | refine e_retT (()) ?_)
    (repeat (first | exact Imp.refl | exact Imp.nil | (apply Imp.pick; (focus ((repeat constructor); done))) | refine Imp.drop ?_))
  ((with_reducible refine e_condF ?_))
  refine e_ask v_eql Imp.nil (fun h11 => ?_) (fun h11 => ?_)
  · rw [if_pos (.inr (.inr (.inr h11)))]
    ((with_reducible refine e_condT ?_))
    (first | refine e_ret (()) rfl ?_ | refine e_retT (()) ?_)
    (repeat (first | exact Imp.refl | exact Imp.nil | (apply Imp.pick; (focus ((repeat constructor); done))) | refine Imp.drop ?_))
  · rw [if_neg (fun c => by rcases c with c | c | c | c; exact h4 c; exact h6 c; exact h9 c; exact h11 c)]
    ((with_reducible refine e_condF ?_))
    (first | refine e_ret (()) rfl ?_ | refine e_retT (()) ?_)
    (repeat (first | exact Imp.refl | exact Imp.nil | (apply Imp.pick; (focus ((repeat constructor); done))) | refine Imp.drop ?_))
end Go.Proofs.Ytcmpkkkigmheoaa.D
