/- Tags that are strongly alike are weakly alike: the law, walked. The library's own error can be read ('Gl'). -/
import Derived.Test.YtcigoifhcfbcdaaDoorFld9
set_option linter.unusedVariables false
set_option linter.unusedSimpArgs false
namespace Go.Proofs.YtcigoifhcfbcdaaDoor.FD
open Go Go.Proofs Go.RowKit Go.Proofs.YtcigoifhcfbcdaaDoor.Sh Go.Proofs.YtcigoifhcfbcdaaDoor.Sl Go.Proofs.YtcigoifhcfbcdaaDoor.T
theorem v_bne {W : World} {ox oy : Operand} {a b : Bool} : RunV Tryd.prog W [] (sEq .neq 4 ox oy (.bool a) (.bool b)) (.bool (decide (a ≠ b))) := fun w _ => by
  have h : (Op.equal 4 (.bool a) (.bool b)).run Tryd.prog w = .ok (a == b) w := by
    unfold Op.equal Op.maxDepth Op.equalIn
    simp only [Sem.run_bind, run_underlying Tryd.underlying4, Result.andThen_ok]
    rfl
  simp [sEq, sv, eqGuard, binOp, h, Result.andThen]
  cases a <;> cases b <;> rfl
theorem v_beq {W : World} {ox oy : Operand} {a b : Bool} : RunV Tryd.prog W [] (sEq .eql 4 ox oy (.bool a) (.bool b)) (.bool (decide (a = b))) := v_beqlG Tryd.underlying4
theorem strF_comm (x y : Bool × List UInt8) : strF x y = strF y x := by
  unfold strF
  by_cases h : x.1 = y.1 ∧ x.2 = y.2
  · rw [decide_eq_true h, decide_eq_true ⟨h.1.symm, h.2.symm⟩, h.1]
  · rw [decide_eq_false h, decide_eq_false (fun c => h ⟨c.1.symm, c.2.symm⟩)]; rfl
theorem strF_self (x : Bool × List UInt8) : strF x x = !x.1 := by simp [strF]
theorem strF_weak {x y : Bool × List UInt8} (h : strF x y = true) : x.2 = y.2 := by
  unfold strF at h
  simp at h; exact h.1.2
theorem fieldsAlike {W : World} [hG : Gl W] {x y : Bool × List UInt8} : Cn Tryd.prog 4 [vTag x, vTag y] W [] (fun _ : Unit => .bool true) (fun _ => []) := by
  (refine S.law10_FieldsAlike_cn fun F => ?_; unfold S.law10_FieldsAlike; simp only [List.cons_append, List.nil_append])
  refine e_boxA fun b2 => ?_
  refine e_boxA fun b3 => ?_
  (((with_reducible refine e_opN v_fa0 Imp.nil ?_))); (((with_reducible refine' e_opN (v_ldN ?hc) ?hi ?_); (case hi => (repeat (first | exact Imp.refl | exact Imp.nil | (apply Imp.pick; (focus ((repeat constructor); done))) | refine Imp.drop ?_))); (case hc => (repeat (first | exact Nth.here | apply Nth.there))))); (((with_reducible refine e_opN v_fa0 Imp.nil ?_))); (((with_reducible refine' e_opN (v_ldN ?hc) ?hi ?_); (case hi => (repeat (first | exact Imp.refl | exact Imp.nil | (apply Imp.pick; (focus ((repeat constructor); done))) | refine Imp.drop ?_))); (case hc => (repeat (first | exact Nth.here | apply Nth.there))))); (((with_reducible refine e_opN v_rv Imp.nil ?_))); (((with_reducible refine e_newA fun g => ?_))); (((with_reducible refine' e_stAgg ?hp ?hn ?hv ?h1 ?_); (case hp => (repeat constructor)); (case hn => rfl); (case hv => rfl); (case h1 => (intro u hu; simp at hu; rcases hu with rfl | rfl <;> rfl)))); (((with_reducible refine e_opN v_fa0 Imp.nil ?_))); (((with_reducible refine' e_opN (v_ldN ?hc) ?hi ?_); (case hi => (repeat (first | exact Imp.refl | exact Imp.nil | (apply Imp.pick; (focus ((repeat constructor); done))) | refine Imp.drop ?_))); (case hc => (repeat (first | exact Nth.here | apply Nth.there))))); (((with_reducible refine e_opN v_fa0 Imp.nil ?_))); (((with_reducible refine' e_opN (v_ldN ?hc) ?hi ?_); (case hi => (repeat (first | exact Imp.refl | exact Imp.nil | (apply Imp.pick; (focus ((repeat constructor); done))) | refine Imp.drop ?_))); (case hc => (repeat (first | exact Nth.here | apply Nth.there))))); (((with_reducible refine e_opN v_rv Imp.nil ?_))); (((with_reducible refine e_newA fun g => ?_))); (((with_reducible refine' e_stAgg ?hp ?hn ?hv ?h1 ?_); (case hp => (repeat constructor)); (case hn => rfl); (case hv => rfl); (case h1 => (intro u hu; simp at hu; rcases hu with rfl | rfl <;> rfl)))); ((with_reducible refine e_drS ?_)); (((with_reducible refine' e_stS (v_ldAgg ?hn) ?hi ?_); (case hi => (repeat (first | exact Imp.refl | exact Imp.nil | (apply Imp.pick; (focus ((repeat constructor); done))) | refine Imp.drop ?_))); (case hn => rfl))); (((with_reducible refine' e_stS (v_ldAgg ?hn) ?hi ?_); (case hi => (repeat (first | exact Imp.refl | exact Imp.nil | (apply Imp.pick; (focus ((repeat constructor); done))) | refine Imp.drop ?_))); (case hn => rfl))); (((with_reducible refine' e_stD (v_ldAgg ?hn) ?hi ?_); (case hi => (repeat (first | exact Imp.refl | exact Imp.nil | (apply Imp.pick; (focus ((repeat constructor); done))) | refine Imp.drop ?_))); (case hn => rfl))); (((with_reducible refine' e_stD (v_ldAgg ?hn) ?hi ?_); (case hi => (repeat (first | exact Imp.refl | exact Imp.nil | (apply Imp.pick; (focus ((repeat constructor); done))) | refine Imp.drop ?_))); (case hn => rfl)))
  refine e_call (strong (x := x) (y := y)) .nil fun _ => ?_
  (try simp only [List.cons_append, List.nil_append, -eq_self])
  refine e_obl (by (repeat (first | exact Imp.refl | exact Imp.nil | (apply Imp.pick; (focus ((repeat constructor); done))) | refine Imp.drop ?_))) ?_
  refine e_obl (by (repeat (first | exact Imp.refl | exact Imp.nil | (apply Imp.pick; (focus ((repeat constructor); done))) | refine Imp.drop ?_))) ?_
  refine e_call (strong (x := y) (y := x)) .nil fun _ => ?_
  (try simp only [List.cons_append, List.nil_append, -eq_self])
  refine e_stS v_bne Imp.nil ?_
  rw [decide_eq_false (fun c => c (strF_comm x y))]
  ((with_reducible refine e_gdT ?_)); (((with_reducible refine' e_stS (v_ldAgg ?hn) ?hi ?_); (case hi => (repeat (first | exact Imp.refl | exact Imp.nil | (apply Imp.pick; (focus ((repeat constructor); done))) | refine Imp.drop ?_))); (case hn => rfl))); ((with_reducible refine e_gdT ?_)); (((with_reducible refine' e_stS (v_ldAgg ?hn) ?hi ?_); (case hi => (repeat (first | exact Imp.refl | exact Imp.nil | (apply Imp.pick; (focus ((repeat constructor); done))) | refine Imp.drop ?_))); (case hn => rfl))); ((with_reducible refine e_gdDT ?_)); (((with_reducible refine' e_stD (v_ldAgg ?hn) ?hi ?_); (case hi => (repeat (first | exact Imp.refl | exact Imp.nil | (apply Imp.pick; (focus ((repeat constructor); done))) | refine Imp.drop ?_))); (case hn => rfl))); ((with_reducible refine e_gdDT ?_)); (((with_reducible refine' e_stD (v_ldAgg ?hn) ?hi ?_); (case hi => (repeat (first | exact Imp.refl | exact Imp.nil | (apply Imp.pick; (focus ((repeat constructor); done))) | refine Imp.drop ?_))); (case hn => rfl))); ((with_reducible refine e_gdT ?_))
  refine e_call (weak (x := x) (y := y)) .nil fun _ => ?_
  (try simp only [List.cons_append, List.nil_append, -eq_self])
  refine e_obl (by (repeat (first | exact Imp.refl | exact Imp.nil | (apply Imp.pick; (focus ((repeat constructor); done))) | refine Imp.drop ?_))) ?_
  refine e_obl (by (repeat (first | exact Imp.refl | exact Imp.nil | (apply Imp.pick; (focus ((repeat constructor); done))) | refine Imp.drop ?_))) ?_
  ((with_reducible refine e_gdT ?_))
  refine e_call (weak (x := y) (y := x)) .nil fun _ => ?_
  (try simp only [List.cons_append, List.nil_append, -eq_self])
  ((with_reducible refine e_gdT ?_))
  refine e_stS v_bne Imp.nil ?_
  rw [decide_eq_false (fun c => c (by rw [decide_eq_decide]; exact ⟨Eq.symm, Eq.symm⟩))]
  (((with_reducible refine e_stS v_pickF Imp.nil ?_))); ((with_reducible refine e_gdT ?_)); (((with_reducible refine' e_stS (v_ldAgg ?hn) ?hi ?_); (case hi => (repeat (first | exact Imp.refl | exact Imp.nil | (apply Imp.pick; (focus ((repeat constructor); done))) | refine Imp.drop ?_))); (case hn => rfl))); ((with_reducible refine e_gdT ?_)); (((with_reducible refine' e_stS (v_ldAgg ?hn) ?hi ?_); (case hi => (repeat (first | exact Imp.refl | exact Imp.nil | (apply Imp.pick; (focus ((repeat constructor); done))) | refine Imp.drop ?_))); (case hn => rfl))); ((with_reducible refine e_gdT ?_))
  refine e_call (strong (x := x) (y := y)) .nil fun _ => ?_
  (try simp only [List.cons_append, List.nil_append, -eq_self])
  cases hs : strF x y with
  | true =>
    ((with_reducible refine e_gdT ?_)); ((with_reducible refine e_gdT ?_)); (((with_reducible refine' e_stS (v_ldAgg ?hn) ?hi ?_); (case hi => (repeat (first | exact Imp.refl | exact Imp.nil | (apply Imp.pick; (focus ((repeat constructor); done))) | refine Imp.drop ?_))); (case hn => rfl))); ((with_reducible refine e_gdT ?_)); (((with_reducible refine' e_stS (v_ldAgg ?hn) ?hi ?_); (case hi => (repeat (first | exact Imp.refl | exact Imp.nil | (apply Imp.pick; (focus ((repeat constructor); done))) | refine Imp.drop ?_))); (case hn => rfl))); ((with_reducible refine e_gdT ?_))
    refine e_call (weak (x := x) (y := y)) .nil fun _ => ?_
    (try simp only [List.cons_append, List.nil_append, -eq_self])
    rw [decide_eq_true (strF_weak hs)]
    ((with_reducible refine e_gdT ?_)); (((with_reducible refine e_stS v_notT Imp.nil ?_))); ((with_reducible refine e_gdT ?_)); (((with_reducible refine e_stS v_pickT Imp.nil ?_))); (((with_reducible refine e_stS v_pickF Imp.nil ?_))); ((with_reducible refine e_condF ?_)); ((with_reducible refine e_drS ?_)); (((with_reducible refine' e_stS (v_ldAgg ?hn) ?hi ?_); (case hi => (repeat (first | exact Imp.refl | exact Imp.nil | (apply Imp.pick; (focus ((repeat constructor); done))) | refine Imp.drop ?_))); (case hn => rfl))); (((with_reducible refine' e_stS (v_ldAgg ?hn) ?hi ?_); (case hi => (repeat (first | exact Imp.refl | exact Imp.nil | (apply Imp.pick; (focus ((repeat constructor); done))) | refine Imp.drop ?_))); (case hn => rfl))); (((with_reducible refine e_stD v_fa0 Imp.nil ?_))); (((with_reducible refine' e_stD (v_ldN ?hc) ?hi ?_); (case hi => (repeat (first | exact Imp.refl | exact Imp.nil | (apply Imp.pick; (focus ((repeat constructor); done))) | refine Imp.drop ?_))); (case hc => (repeat (first | exact Nth.here | apply Nth.there))))); (((with_reducible refine e_stD v_not Imp.nil ?_)))
    refine e_call (strong (x := x) (y := x)) .nil fun _ => ?_
    (try simp only [List.cons_append, List.nil_append, -eq_self])
    refine e_obl (by (repeat (first | exact Imp.refl | exact Imp.nil | (apply Imp.pick; (focus ((repeat constructor); done))) | refine Imp.drop ?_))) ?_
    refine e_obl (by (repeat (first | exact Imp.refl | exact Imp.nil | (apply Imp.pick; (focus ((repeat constructor); done))) | refine Imp.drop ?_))) ?_
    refine e_obl (by (repeat (first | exact Imp.refl | exact Imp.nil | (apply Imp.pick; (focus ((repeat constructor); done))) | refine Imp.drop ?_))) ?_
    refine e_stS v_beq Imp.nil ?_
    rw [decide_eq_true (strF_self x)]
    ((with_reducible refine e_gdT ?_)); (((with_reducible refine' e_stS (v_ldAgg ?hn) ?hi ?_); (case hi => (repeat (first | exact Imp.refl | exact Imp.nil | (apply Imp.pick; (focus ((repeat constructor); done))) | refine Imp.drop ?_))); (case hn => rfl))); ((with_reducible refine e_gdT ?_)); (((with_reducible refine' e_stS (v_ldAgg ?hn) ?hi ?_); (case hi => (repeat (first | exact Imp.refl | exact Imp.nil | (apply Imp.pick; (focus ((repeat constructor); done))) | refine Imp.drop ?_))); (case hn => rfl))); ((with_reducible refine e_gdT ?_))
    refine e_call (weak (x := x) (y := x)) .nil fun _ => ?_
    (try simp only [List.cons_append, List.nil_append, -eq_self])
    rw [decide_eq_true rfl]
    (((with_reducible refine e_stS v_pickT Imp.nil ?_))); ((with_reducible refine e_gdT ?_))
    refine e_call knows .nil fun _ => ?_
    (try simp only [List.cons_append, List.nil_append, -eq_self])
    (((with_reducible refine e_stS v_pickT Imp.nil ?_)))
    (first | refine e_ret (()) rfl ?_ | refine e_retT (()) ?_)
    (repeat (first | exact Imp.refl | exact Imp.nil | (apply Imp.pick; (focus ((repeat constructor); done))) | refine Imp.drop ?_))
  | false =>
    ((with_reducible refine e_gdT ?_)); ((with_reducible refine e_gdF2 ?_)); ((with_reducible refine e_gdF2 ?_)); ((with_reducible refine e_gdF2 ?_)); ((with_reducible refine e_gdF2 ?_)); ((with_reducible refine e_gdT ?_)); (((with_reducible refine e_stS v_pickF Imp.nil ?_))); (((with_reducible refine e_stS v_pickF Imp.nil ?_))); ((with_reducible refine e_condF ?_)); ((with_reducible refine e_drS ?_)); (((with_reducible refine' e_stS (v_ldAgg ?hn) ?hi ?_); (case hi => (repeat (first | exact Imp.refl | exact Imp.nil | (apply Imp.pick; (focus ((repeat constructor); done))) | refine Imp.drop ?_))); (case hn => rfl))); (((with_reducible refine' e_stS (v_ldAgg ?hn) ?hi ?_); (case hi => (repeat (first | exact Imp.refl | exact Imp.nil | (apply Imp.pick; (focus ((repeat constructor); done))) | refine Imp.drop ?_))); (case hn => rfl))); (((with_reducible refine e_stD v_fa0 Imp.nil ?_))); (((with_reducible refine' e_stD (v_ldN ?hc) ?hi ?_); (case hi => (repeat (first | exact Imp.refl | exact Imp.nil | (apply Imp.pick; (focus ((repeat constructor); done))) | refine Imp.drop ?_))); (case hc => (repeat (first | exact Nth.here | apply Nth.there))))); (((with_reducible refine e_stD v_not Imp.nil ?_)))
    refine e_call (strong (x := x) (y := x)) .nil fun _ => ?_
    (try simp only [List.cons_append, List.nil_append, -eq_self])
    refine e_obl (by (repeat (first | exact Imp.refl | exact Imp.nil | (apply Imp.pick; (focus ((repeat constructor); done))) | refine Imp.drop ?_))) ?_
    refine e_obl (by (repeat (first | exact Imp.refl | exact Imp.nil | (apply Imp.pick; (focus ((repeat constructor); done))) | refine Imp.drop ?_))) ?_
    refine e_obl (by (repeat (first | exact Imp.refl | exact Imp.nil | (apply Imp.pick; (focus ((repeat constructor); done))) | refine Imp.drop ?_))) ?_
    refine e_stS v_beq Imp.nil ?_
    rw [decide_eq_true (strF_self x)]
    ((with_reducible refine e_gdT ?_)); (((with_reducible refine' e_stS (v_ldAgg ?hn) ?hi ?_); (case hi => (repeat (first | exact Imp.refl | exact Imp.nil | (apply Imp.pick; (focus ((repeat constructor); done))) | refine Imp.drop ?_))); (case hn => rfl))); ((with_reducible refine e_gdT ?_)); (((with_reducible refine' e_stS (v_ldAgg ?hn) ?hi ?_); (case hi => (repeat (first | exact Imp.refl | exact Imp.nil | (apply Imp.pick; (focus ((repeat constructor); done))) | refine Imp.drop ?_))); (case hn => rfl))); ((with_reducible refine e_gdT ?_))
    refine e_call (weak (x := x) (y := x)) .nil fun _ => ?_
    (try simp only [List.cons_append, List.nil_append, -eq_self])
    rw [decide_eq_true rfl]
    (((with_reducible refine e_stS v_pickT Imp.nil ?_))); ((with_reducible refine e_gdT ?_))
    refine e_call knows .nil fun _ => ?_
    (try simp only [List.cons_append, List.nil_append, -eq_self])
    (((with_reducible refine e_stS v_pickT Imp.nil ?_)))
    (first | refine e_ret (()) rfl ?_ | refine e_retT (()) ?_)
    (repeat (first | exact Imp.refl | exact Imp.nil | (apply Imp.pick; (focus ((repeat constructor); done))) | refine Imp.drop ?_))
end Go.Proofs.YtcigoifhcfbcdaaDoor.FD
