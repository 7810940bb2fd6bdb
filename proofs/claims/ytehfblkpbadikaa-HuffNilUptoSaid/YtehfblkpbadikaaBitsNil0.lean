/- Calls on a Writer or a Reader that is none. No conditions but those that each names. -/
import Derived.Test.YtehfblkpbadikaaBitsKn
set_option linter.unusedVariables false
set_option linter.unusedSimpArgs false
namespace Go.Proofs.Ytehfblkpbadikaa.B
open Go Go.Proofs Go.Proofs.Ytehfblkpbadikaa.Sh Go.Proofs.Ytehfblkpbadikaa.Sl Go.Proofs.Ytehfblkpbadikaa.T Go.Proofs.Ytehfblkpbadikaa.M
def NoW (W : World) (v : Value) (A : HP) : Prop := Cn Try.prog 58 [v] W [A] (fun _ : Unit => .bool true) (fun _ => [A])
def NoR (W : World) (v : Value) (A : HP) : Prop := Cn Try.prog 61 [v] W [A] (fun _ : Unit => .bool true) (fun _ => [A])
section
variable {W : World} {v : Value} {A : HP}
theorem nwBytes (h : NoW W v A) : Cn Try.prog 33 [v] W [A] (fun _ : Unit => .slice none 0 0) (fun _ => [A]) := by
  (refine S.bits_Writer_Bytes_cn fun F => ?_; unfold S.bits_Writer_Bytes; simp only [List.cons_append, List.nil_append])
  (refine' e_call (h) ?hp fun _ => ?_; (case hp => (repeat (first | exact Picks.nil | (apply Picks.cons; (focus (repeat constructor)))))); (try simp only [List.cons_append, List.nil_append, Bool.not_true, Bool.not_false]))
  ((with_reducible refine e_condT ?_))
  (first | refine e_ret (()) rfl ?_ | refine e_retT (()) ?_)
  (repeat (first | exact Imp.refl | exact Imp.nil | (apply Imp.pick; (focus ((repeat constructor); done))) | refine Imp.drop ?_))
theorem nwPut (h : NoW W v A) {n k : Value} : Cn Try.prog 54 [v, n, k] W [A] (fun _ : Unit => .int .i64 1) (fun _ => [A]) := by
  (refine S.bits_Writer_Put_cn fun F => ?_; unfold S.bits_Writer_Put; simp only [List.cons_append, List.nil_append])
  refine e_cut1 (fun z => A :: pu (z = .bool true) :: F) ?_ ?_
  · intro ds z
    refine e_pu (.there .here) fun hz => ?_
    subst hz
    ((with_reducible refine e_condT ?_))
    (first | refine e_ret (()) rfl ?_ | refine e_retT (()) ?_)
    (repeat (first | exact Imp.refl | exact Imp.nil | (apply Imp.pick; (focus ((repeat constructor); done))) | refine Imp.drop ?_))
  · (refine' e_call (h) ?hp fun _ => ?_; (case hp => (repeat (first | exact Picks.nil | (apply Picks.cons; (focus (repeat constructor)))))); (try simp only [List.cons_append, List.nil_append, Bool.not_true, Bool.not_false]))
    ((with_reducible refine e_condT ?_))
    exact e_sat (.pick .here (.pu trivial .refl))
theorem nrAlign (h : NoR W v A) : Cn Try.prog 82 [v] W [A] (fun _ : Unit => .tuple #[]) (fun _ => [A]) := by
  (refine S.bits_Reader_Align_cn fun F => ?_; unfold S.bits_Reader_Align; simp only [List.cons_append, List.nil_append])
  (refine' e_call (h) ?hp fun _ => ?_; (case hp => (repeat (first | exact Picks.nil | (apply Picks.cons; (focus (repeat constructor)))))); (try simp only [List.cons_append, List.nil_append, Bool.not_true, Bool.not_false]))
  (((with_reducible refine e_opN v_notT Imp.nil ?_))); ((with_reducible refine e_condF ?_))
  (first | refine e_ret (()) rfl ?_ | refine e_retT (()) ?_)
  (repeat (first | exact Imp.refl | exact Imp.nil | (apply Imp.pick; (focus ((repeat constructor); done))) | refine Imp.drop ?_))
theorem nrLeft (h : NoR W v A) : Cn Try.prog 41 [v] W [A] (fun _ : Unit => .int .i64 0) (fun _ => [A]) := by
  (refine S.bits_Reader_Left_cn fun F => ?_; unfold S.bits_Reader_Left; simp only [List.cons_append, List.nil_append])
  (refine' e_call (h) ?hp fun _ => ?_; (case hp => (repeat (first | exact Picks.nil | (apply Picks.cons; (focus (repeat constructor)))))); (try simp only [List.cons_append, List.nil_append, Bool.not_true, Bool.not_false]))
  ((with_reducible refine e_condT ?_))
  (first | refine e_ret (()) rfl ?_ | refine e_retT (()) ?_)
  (repeat (first | exact Imp.refl | exact Imp.nil | (apply Imp.pick; (focus ((repeat constructor); done))) | refine Imp.drop ?_))
theorem nrRaw (h : NoR W v A) {n : Value} : Cn Try.prog 85 [v, n] W [A] (fun _ : Unit => .tuple #[.slice none 0 0, .int .i64 1]) (fun _ => [A]) := by
  (refine S.bits_Reader_Raw_cn fun F => ?_; unfold S.bits_Reader_Raw; simp only [List.cons_append, List.nil_append])
  (refine' e_call (h) ?hp fun _ => ?_; (case hp => (repeat (first | exact Picks.nil | (apply Picks.cons; (focus (repeat constructor)))))); (try simp only [List.cons_append, List.nil_append, Bool.not_true, Bool.not_false]))
  ((with_reducible refine e_gdF1 ?_)); ((with_reducible refine e_gdF1 ?_)); (((with_reducible refine e_opN v_pickT Imp.nil ?_))); ((with_reducible refine e_condT ?_))
  (first | refine e_ret (()) rfl ?_ | refine e_retT (()) ?_)
  (repeat (first | exact Imp.refl | exact Imp.nil | (apply Imp.pick; (focus ((repeat constructor); done))) | refine Imp.drop ?_))
theorem nrTake (h : NoR W v A) {k : Value} : Cn Try.prog 59 [v, k] W [A] (fun _ : Unit => .tuple #[.int .i64 0, .int .i64 1]) (fun _ => [A]) := by
  (refine S.bits_Reader_Take_cn fun F => ?_; unfold S.bits_Reader_Take; simp only [List.cons_append, List.nil_append])
  refine e_cut1 (fun z => A :: pu (z = .bool true) :: F) ?_ ?_
  · intro ds z
    refine e_pu (.there .here) fun hz => ?_
    subst hz
    ((with_reducible refine e_condT ?_))
    (first | refine e_ret (()) rfl ?_ | refine e_retT (()) ?_)
    (repeat (first | exact Imp.refl | exact Imp.nil | (apply Imp.pick; (focus ((repeat constructor); done))) | refine Imp.drop ?_))
  · (refine' e_call (h) ?hp fun _ => ?_; (case hp => (repeat (first | exact Picks.nil | (apply Picks.cons; (focus (repeat constructor)))))); (try simp only [List.cons_append, List.nil_append, Bool.not_true, Bool.not_false]))
    ((with_reducible refine e_condT ?_))
    exact e_sat (.pick .here (.pu trivial .refl))
end
theorem nw_nil {W : World} : NoW W (.pointer none) (pu True) := by
  unfold NoW
  (refine S.bits_Writer_none_cn fun F => ?_; unfold S.bits_Writer_none; simp only [List.cons_append, List.nil_append])
  (((with_reducible refine e_opN v_eqNil0 Imp.nil ?_))); ((with_reducible refine e_gdF1 ?_)); ((with_reducible refine e_gdF1 ?_)); ((with_reducible refine e_gdF1 ?_)); ((with_reducible refine e_gdF1 ?_)); ((with_reducible refine e_gdF1 ?_)); (((with_reducible refine e_opN v_pickT Imp.nil ?_)))
  (refine e_ret Unit.unit (by rfl) ?_; (repeat (first | exact Imp.refl | exact Imp.nil | (apply Imp.pick; (focus ((repeat constructor); done))) | refine Imp.drop ?_)))
theorem nw_zero {W : World} {p : Nat} {a b : Value} : NoW W (.pointer (some ⟨p, 0, none⟩)) (pt p (.cells #[a, b, .bool false] 106)) := by
  unfold NoW
  (refine S.bits_Writer_none_cn fun F => ?_; unfold S.bits_Writer_none; simp only [List.cons_append, List.nil_append])
  (((with_reducible refine e_opN v_eqNil1 Imp.nil ?_))); ((with_reducible refine e_gdT ?_)); ((with_reducible refine e_gdT ?_)); (((with_reducible refine e_opN v_nil Imp.nil ?_))); ((with_reducible refine e_gdT ?_)); (((with_reducible refine e_opN v_fa0 Imp.nil ?_))); ((with_reducible refine e_gdT ?_)); (((with_reducible refine' e_opN (v_ldN ?hc) ?hi ?_); (case hi => (repeat (first | exact Imp.refl | exact Imp.nil | (apply Imp.pick; (focus ((repeat constructor); done))) | refine Imp.drop ?_))); (case hc => (repeat (first | exact Nth.here | apply Nth.there))))); ((with_reducible refine e_gdT ?_)); (((with_reducible refine e_opN v_notF Imp.nil ?_))); (((with_reducible refine e_opN v_pickF Imp.nil ?_)))
  (refine e_ret Unit.unit (by rfl) ?_; (repeat (first | exact Imp.refl | exact Imp.nil | (apply Imp.pick; (focus ((repeat constructor); done))) | refine Imp.drop ?_)))
theorem nr_nil {W : World} : NoR W (.pointer none) (pu True) := by
  unfold NoR
  (refine S.bits_Reader_none_cn fun F => ?_; unfold S.bits_Reader_none; simp only [List.cons_append, List.nil_append])
  (((with_reducible refine e_opN v_eqNil0 Imp.nil ?_))); ((with_reducible refine e_gdF1 ?_)); ((with_reducible refine e_gdF1 ?_)); ((with_reducible refine e_gdF1 ?_)); ((with_reducible refine e_gdF1 ?_)); ((with_reducible refine e_gdF1 ?_)); (((with_reducible refine e_opN v_pickT Imp.nil ?_)))
  (refine e_ret Unit.unit (by rfl) ?_; (repeat (first | exact Imp.refl | exact Imp.nil | (apply Imp.pick; (focus ((repeat constructor); done))) | refine Imp.drop ?_)))
theorem nr_zero {W : World} {p : Nat} {a b : Value} : NoR W (.pointer (some ⟨p, 0, none⟩)) (pt p (.cells #[a, b, .bool false] 115)) := by
  unfold NoR
  (refine S.bits_Reader_none_cn fun F => ?_; unfold S.bits_Reader_none; simp only [List.cons_append, List.nil_append])
  (((with_reducible refine e_opN v_eqNil1 Imp.nil ?_))); ((with_reducible refine e_gdT ?_)); ((with_reducible refine e_gdT ?_)); (((with_reducible refine e_opN v_nil Imp.nil ?_))); ((with_reducible refine e_gdT ?_)); (((with_reducible refine e_opN v_fa0 Imp.nil ?_))); ((with_reducible refine e_gdT ?_)); (((with_reducible refine' e_opN (v_ldN ?hc) ?hi ?_); (case hi => (repeat (first | exact Imp.refl | exact Imp.nil | (apply Imp.pick; (focus ((repeat constructor); done))) | refine Imp.drop ?_))); (case hc => (repeat (first | exact Nth.here | apply Nth.there))))); ((with_reducible refine e_gdT ?_)); (((with_reducible refine e_opN v_notF Imp.nil ?_))); (((with_reducible refine e_opN v_pickF Imp.nil ?_)))
  (refine e_ret Unit.unit (by rfl) ?_; (repeat (first | exact Imp.refl | exact Imp.nil | (apply Imp.pick; (focus ((repeat constructor); done))) | refine Imp.drop ?_)))
end Go.Proofs.Ytehfblkpbadikaa.B
