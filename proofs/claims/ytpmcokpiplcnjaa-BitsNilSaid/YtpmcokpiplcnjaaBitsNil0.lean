/- Calls on a Writer or a Reader that is none. No conditions but those that each names. -/
import Derived.Test.YtpmcokpiplcnjaaBits3
set_option linter.unusedVariables false
set_option linter.unusedSimpArgs false
namespace Go.Proofs.Ytpmcokpiplcnjaa.B
open Go Go.Proofs Go.Proofs.Ytpmcokpiplcnjaa.Sh Go.Proofs.Ytpmcokpiplcnjaa.Sl Go.Proofs.Ytpmcokpiplcnjaa.T Go.Proofs.Ytpmcokpiplcnjaa.M
def NoW (W : World) (v : Value) (A : HP) : Prop := Cn Try.prog 53 [v] W [A] (fun _ : Unit => .bool true) (fun _ => [A])
def NoR (W : World) (v : Value) (A : HP) : Prop := Cn Try.prog 54 [v] W [A] (fun _ : Unit => .bool true) (fun _ => [A])
section
variable {W : World} {v : Value} {A : HP}
theorem nwAlign (h : NoW W v A) : Cn Try.prog 36 [v] W [A] (fun _ : Unit => .tuple #[]) (fun _ => [A]) := by
  (refine S.bits_Writer_Align_cn fun F => ?_; unfold S.bits_Writer_Align; simp only [List.cons_append, List.nil_append])
  (refine' e_call (h) ?hp fun _ => ?_; (case hp => (repeat (first | exact Picks.nil | (apply Picks.cons; (focus (repeat constructor)))))); (try simp only [List.cons_append, List.nil_append, Bool.not_true, Bool.not_false]))
  (((with_reducible refine e_opN v_notT Imp.nil ?_))); ((with_reducible refine e_condF ?_))
  (first | refine e_ret (()) rfl ?_ | refine e_retT (()) ?_)
  (repeat (first | exact Imp.refl | exact Imp.nil | (apply Imp.pick; (focus ((repeat constructor); done))) | refine Imp.drop ?_))
theorem nwBits (h : NoW W v A) : Cn Try.prog 39 [v] W [A] (fun _ : Unit => .int .i64 0) (fun _ => [A]) := by
  (refine S.bits_Writer_Bits_cn fun F => ?_; unfold S.bits_Writer_Bits; simp only [List.cons_append, List.nil_append])
  (refine' e_call (h) ?hp fun _ => ?_; (case hp => (repeat (first | exact Picks.nil | (apply Picks.cons; (focus (repeat constructor)))))); (try simp only [List.cons_append, List.nil_append, Bool.not_true, Bool.not_false]))
  ((with_reducible refine e_condT ?_))
  (first | refine e_ret (()) rfl ?_ | refine e_retT (()) ?_)
  (repeat (first | exact Imp.refl | exact Imp.nil | (apply Imp.pick; (focus ((repeat constructor); done))) | refine Imp.drop ?_))
theorem nwBytes (h : NoW W v A) : Cn Try.prog 21 [v] W [A] (fun _ : Unit => .slice none 0 0) (fun _ => [A]) := by
  (refine S.bits_Writer_Bytes_cn fun F => ?_; unfold S.bits_Writer_Bytes; simp only [List.cons_append, List.nil_append])
  (refine' e_call (h) ?hp fun _ => ?_; (case hp => (repeat (first | exact Picks.nil | (apply Picks.cons; (focus (repeat constructor)))))); (try simp only [List.cons_append, List.nil_append, Bool.not_true, Bool.not_false]))
  ((with_reducible refine e_condT ?_))
  (first | refine e_ret (()) rfl ?_ | refine e_retT (()) ?_)
  (repeat (first | exact Imp.refl | exact Imp.nil | (apply Imp.pick; (focus ((repeat constructor); done))) | refine Imp.drop ?_))
theorem nwRaw (h : NoW W v A) {b : Value} : Cn Try.prog 38 [v, b] W [A] (fun _ : Unit => .int .i64 1) (fun _ => [A]) := by
  (refine S.bits_Writer_Raw_cn fun F => ?_; unfold S.bits_Writer_Raw; simp only [List.cons_append, List.nil_append])
  (refine' e_call (h) ?hp fun _ => ?_; (case hp => (repeat (first | exact Picks.nil | (apply Picks.cons; (focus (repeat constructor)))))); (try simp only [List.cons_append, List.nil_append, Bool.not_true, Bool.not_false]))
  ((with_reducible refine e_condT ?_))
  (first | refine e_ret (()) rfl ?_ | refine e_retT (()) ?_)
  (repeat (first | exact Imp.refl | exact Imp.nil | (apply Imp.pick; (focus ((repeat constructor); done))) | refine Imp.drop ?_))
theorem nwPut (h : NoW W v A) {n k : Value} : Cn Try.prog 37 [v, n, k] W [A] (fun _ : Unit => .int .i64 1) (fun _ => [A]) := by
  (refine S.bits_Writer_Put_cn fun F => ?_; unfold S.bits_Writer_Put; simp only [List.cons_append, List.nil_append])
  refine e_cut1 (fun z => A :: pu (z = .bool true) :: F) ?_ ?_
  · intro ds z
    refine e_pu (.there .here) fun hz => ?_
    subst hz
    ((with_reducible refine e_condT ?_))
    (first | refine e_ret (()) rfl ?_ | refine e_retT (()) ?_)
    (repeat (first | exact Imp.refl | exact Imp.nil | (apply Imp.pick; (focus ((repeat constructor); done))) | refine Imp.drop ?_))
  · (refine' e_call (h) ?hp fun _ => ?_; (case hp => (repeat (first | exact Picks.nil | (apply Picks.cons; (focus (repeat constructor)))))); (try simp only [List.cons_append, List.nil_append, Bool.not_true, Bool.not_false]))
    ((with_reducible refine e_condT ?_))
    exact e_sat (.pick .here (.pu trivial .refl))
theorem nrAlign (h : NoR W v A) : Cn Try.prog 30 [v] W [A] (fun _ : Unit => .tuple #[]) (fun _ => [A]) := by
  (refine S.bits_Reader_Align_cn fun F => ?_; unfold S.bits_Reader_Align; simp only [List.cons_append, List.nil_append])
  (refine' e_call (h) ?hp fun _ => ?_; (case hp => (repeat (first | exact Picks.nil | (apply Picks.cons; (focus (repeat constructor)))))); (try simp only [List.cons_append, List.nil_append, Bool.not_true, Bool.not_false]))
  (((with_reducible refine e_opN v_notT Imp.nil ?_))); ((with_reducible refine e_condF ?_))
  (first | refine e_ret (()) rfl ?_ | refine e_retT (()) ?_)
  (repeat (first | exact Imp.refl | exact Imp.nil | (apply Imp.pick; (focus ((repeat constructor); done))) | refine Imp.drop ?_))
theorem nrLeft (h : NoR W v A) : Cn Try.prog 34 [v] W [A] (fun _ : Unit => .int .i64 0) (fun _ => [A]) := by
  (refine S.bits_Reader_Left_cn fun F => ?_; unfold S.bits_Reader_Left; simp only [List.cons_append, List.nil_append])
  (refine' e_call (h) ?hp fun _ => ?_; (case hp => (repeat (first | exact Picks.nil | (apply Picks.cons; (focus (repeat constructor)))))); (try simp only [List.cons_append, List.nil_append, Bool.not_true, Bool.not_false]))
  ((with_reducible refine e_condT ?_))
  (first | refine e_ret (()) rfl ?_ | refine e_retT (()) ?_)
  (repeat (first | exact Imp.refl | exact Imp.nil | (apply Imp.pick; (focus ((repeat constructor); done))) | refine Imp.drop ?_))
theorem nrRaw (h : NoR W v A) {n : Value} : Cn Try.prog 32 [v, n] W [A] (fun _ : Unit => .tuple #[.slice none 0 0, .int .i64 1]) (fun _ => [A]) := by
  (refine S.bits_Reader_Raw_cn fun F => ?_; unfold S.bits_Reader_Raw; simp only [List.cons_append, List.nil_append])
  (refine' e_call (h) ?hp fun _ => ?_; (case hp => (repeat (first | exact Picks.nil | (apply Picks.cons; (focus (repeat constructor)))))); (try simp only [List.cons_append, List.nil_append, Bool.not_true, Bool.not_false]))
  ((with_reducible refine e_gdF1 ?_)); ((with_reducible refine e_gdF1 ?_)); (((with_reducible refine e_opN v_pickT Imp.nil ?_))); ((with_reducible refine e_condT ?_))
  (first | refine e_ret (()) rfl ?_ | refine e_retT (()) ?_)
  (repeat (first | exact Imp.refl | exact Imp.nil | (apply Imp.pick; (focus ((repeat constructor); done))) | refine Imp.drop ?_))
theorem nrTake (h : NoR W v A) {k : Value} : Cn Try.prog 27 [v, k] W [A] (fun _ : Unit => .tuple #[.int .i64 0, .int .i64 1]) (fun _ => [A]) := by
  (refine S.bits_Reader_Take_cn fun F => ?_; unfold S.bits_Reader_Take; simp only [List.cons_append, List.nil_append])
  refine e_cut1 (fun z => A :: pu (z = .bool true) :: F) ?_ ?_
  · intro ds z
    refine e_pu (.there .here) fun hz => ?_
    subst hz
    ((with_reducible refine e_condT ?_))
    (first | refine e_ret (()) rfl ?_ | refine e_retT (()) ?_)
    (repeat (first | exact Imp.refl | exact Imp.nil | (apply Imp.pick; (focus ((repeat constructor); done))) | refine Imp.drop ?_))
  · (refine' e_call (h) ?hp fun _ => ?_; (case hp => (repeat (first | exact Picks.nil | (apply Picks.cons; (focus (repeat constructor)))))); (try simp only [List.cons_append, List.nil_append, Bool.not_true, Bool.not_false]))
    ((with_reducible refine e_condT ?_))
    exact e_sat (.pick .here (.pu trivial .refl))
end
theorem nw_nil {W : World} : NoW W (.pointer none) (pu True) := by
  unfold NoW
  (refine S.bits_Writer_none_cn fun F => ?_; unfold S.bits_Writer_none; simp only [List.cons_append, List.nil_append])
  (((with_reducible refine e_opN v_eqNil0 Imp.nil ?_))); ((with_reducible refine e_gdF1 ?_)); ((with_reducible refine e_gdF1 ?_)); ((with_reducible refine e_gdF1 ?_)); ((with_reducible refine e_gdF1 ?_)); ((with_reducible refine e_gdF1 ?_)); (((with_reducible refine e_opN v_pickT Imp.nil ?_)))
  (refine e_ret Unit.unit (by rfl) ?_; (repeat (first | exact Imp.refl | exact Imp.nil | (apply Imp.pick; (focus ((repeat constructor); done))) | refine Imp.drop ?_)))
theorem nw_zero {W : World} {p : Nat} {a b : Value} : NoW W (.pointer (some ⟨p, 0, none⟩)) (pt p (.cells #[a, b, .bool false] 76)) := by
  unfold NoW
  (refine S.bits_Writer_none_cn fun F => ?_; unfold S.bits_Writer_none; simp only [List.cons_append, List.nil_append])
  (((with_reducible refine e_opN v_eqNil1 Imp.nil ?_))); ((with_reducible refine e_gdT ?_)); ((with_reducible refine e_gdT ?_)); (((with_reducible refine e_opN v_nil Imp.nil ?_))); ((with_reducible refine e_gdT ?_)); (((with_reducible refine e_opN v_fa0 Imp.nil ?_))); ((with_reducible refine e_gdT ?_)); (((with_reducible refine' e_opN (v_ldN ?hc) ?hi ?_); (case hi => (repeat (first | exact Imp.refl | exact Imp.nil | (apply Imp.pick; (focus ((repeat constructor); done))) | refine Imp.drop ?_))); (case hc => (repeat (first | exact Nth.here | apply Nth.there))))); ((with_reducible refine e_gdT ?_)); (((with_reducible refine e_opN v_notF Imp.nil ?_))); (((with_reducible refine e_opN v_pickF Imp.nil ?_)))
  (refine e_ret Unit.unit (by rfl) ?_; (repeat (first | exact Imp.refl | exact Imp.nil | (apply Imp.pick; (focus ((repeat constructor); done))) | refine Imp.drop ?_)))
theorem nr_nil {W : World} : NoR W (.pointer none) (pu True) := by
  unfold NoR
  (refine S.bits_Reader_none_cn fun F => ?_; unfold S.bits_Reader_none; simp only [List.cons_append, List.nil_append])
  (((with_reducible refine e_opN v_eqNil0 Imp.nil ?_))); ((with_reducible refine e_gdF1 ?_)); ((with_reducible refine e_gdF1 ?_)); ((with_reducible refine e_gdF1 ?_)); ((with_reducible refine e_gdF1 ?_)); ((with_reducible refine e_gdF1 ?_)); (((with_reducible refine e_opN v_pickT Imp.nil ?_)))
  (refine e_ret Unit.unit (by rfl) ?_; (repeat (first | exact Imp.refl | exact Imp.nil | (apply Imp.pick; (focus ((repeat constructor); done))) | refine Imp.drop ?_)))
theorem nr_zero {W : World} {p : Nat} {a b : Value} : NoR W (.pointer (some ⟨p, 0, none⟩)) (pt p (.cells #[a, b, .bool false] 80)) := by
  unfold NoR
  (refine S.bits_Reader_none_cn fun F => ?_; unfold S.bits_Reader_none; simp only [List.cons_append, List.nil_append])
  (((with_reducible refine e_opN v_eqNil1 Imp.nil ?_))); ((with_reducible refine e_gdT ?_)); ((with_reducible refine e_gdT ?_)); (((with_reducible refine e_opN v_nil Imp.nil ?_))); ((with_reducible refine e_gdT ?_)); (((with_reducible refine e_opN v_fa0 Imp.nil ?_))); ((with_reducible refine e_gdT ?_)); (((with_reducible refine' e_opN (v_ldN ?hc) ?hi ?_); (case hi => (repeat (first | exact Imp.refl | exact Imp.nil | (apply Imp.pick; (focus ((repeat constructor); done))) | refine Imp.drop ?_))); (case hc => (repeat (first | exact Nth.here | apply Nth.there))))); ((with_reducible refine e_gdT ?_)); (((with_reducible refine e_opN v_notF Imp.nil ?_))); (((with_reducible refine e_opN v_pickF Imp.nil ?_)))
  (refine e_ret Unit.unit (by rfl) ?_; (repeat (first | exact Imp.refl | exact Imp.nil | (apply Imp.pick; (focus ((repeat constructor); done))) | refine Imp.drop ?_)))
theorem bitsNil {W : World} {n k : Int} {b : Value} : Cn Try.prog 7 [.int .i64 n, .int .i64 k, b] W [] (fun _ : Unit => .bool true) (fun _ => []) := by
  (refine S.law02_BitsNil_cn fun F => ?_; unfold S.law02_BitsNil; simp only [List.cons_append, List.nil_append])
  refine e_loop3 (fun m x y z => [ex fun i : Nat => ex fun q : HP × HP => all [pu (m + i = 2 ∧ z = .int .i64 (i : Int) ∧ NoW W x q.1 ∧ NoR W y q.2), q.1, q.2]] ++ F) 2 ?_ ?_
  · refine Imp.ex 0 (.ex (pu True, pu True) (.all ?_))
    (try simp only [List.cons_append, List.nil_append])
    refine .pu ⟨by first | trivial | omega, by first | trivial | rfl, nw_nil, nr_nil⟩ ?_
    exact .pu trivial (.pu trivial .refl)
  · intro m ds x y z
    (try simp only [List.cons_append, List.nil_append])
    refine e_ex Pick.here fun i => e_ex Pick.here fun q => e_all Pick.here ?_
    (try simp only [List.cons_append, List.nil_append])
    obtain ⟨Q, R⟩ := q
    refine e_pu Pick.here fun hi => ?_
    obtain ⟨hm, rfl, hx, hy⟩ := hi
    (refine e_ask v_lss Imp.nil (fun h => ?_) (fun h => ?_))
    · ((with_reducible refine e_condT ?_))
      (refine' e_call (nwAlign hx) ?hp fun _ => ?_; (case hp => (repeat (first | exact Picks.nil | (apply Picks.cons; (focus (repeat constructor)))))); (try simp only [List.cons_append, List.nil_append, Bool.not_true, Bool.not_false]))
      (refine' e_call (nrAlign hy) ?hp fun _ => ?_; (case hp => (repeat (first | exact Picks.nil | (apply Picks.cons; (focus (repeat constructor)))))); (try simp only [List.cons_append, List.nil_append, Bool.not_true, Bool.not_false]))
      (refine' e_call (nrTake hy) ?hp fun _ => ?_; (case hp => (repeat (first | exact Picks.nil | (apply Picks.cons; (focus (repeat constructor)))))); (try simp only [List.cons_append, List.nil_append, Bool.not_true, Bool.not_false]))
      (((with_reducible refine' e_opN (v_ext ?h1) Imp.nil ?_); (case h1 => rfl))); (((with_reducible refine' e_opN (v_ext ?h1) Imp.nil ?_); (case h1 => rfl)))
      (refine' e_call (nrRaw hy) ?hp fun _ => ?_; (case hp => (repeat (first | exact Picks.nil | (apply Picks.cons; (focus (repeat constructor)))))); (try simp only [List.cons_append, List.nil_append, Bool.not_true, Bool.not_false]))
      (((with_reducible refine' e_opN (v_ext ?h1) Imp.nil ?_); (case h1 => rfl))); (((with_reducible refine' e_opN (v_ext ?h1) Imp.nil ?_); (case h1 => rfl)))
      (refine' e_call (nwPut hx) ?hp fun _ => ?_; (case hp => (repeat (first | exact Picks.nil | (apply Picks.cons; (focus (repeat constructor)))))); (try simp only [List.cons_append, List.nil_append, Bool.not_true, Bool.not_false]))
      (refine' e_call (num) ?hp fun _ => ?_; (case hp => (repeat (first | exact Picks.nil | (apply Picks.cons; (focus (repeat constructor)))))); (try simp only [List.cons_append, List.nil_append, Bool.not_true, Bool.not_false]))
      refine e_opN v_neq Imp.nil ?_
      rw [decide_eq_false (by decide)]
      ((with_reducible refine e_gdT ?_)); ((with_reducible refine e_gdT ?_)); ((with_reducible refine e_gdT ?_))
      (refine' e_call (nwRaw hx) ?hp fun _ => ?_; (case hp => (repeat (first | exact Picks.nil | (apply Picks.cons; (focus (repeat constructor)))))); (try simp only [List.cons_append, List.nil_append, Bool.not_true, Bool.not_false]))
      ((with_reducible refine e_gdT ?_))
      (refine' e_call (num) ?hp fun _ => ?_; (case hp => (repeat (first | exact Picks.nil | (apply Picks.cons; (focus (repeat constructor)))))); (try simp only [List.cons_append, List.nil_append, Bool.not_true, Bool.not_false]))
      ((with_reducible refine e_gdT ?_))
      refine e_opN v_neq Imp.nil ?_
      rw [decide_eq_false (by decide)]
      (((with_reducible refine e_opN v_pickF Imp.nil ?_))); ((with_reducible refine e_gdT ?_)); ((with_reducible refine e_gdT ?_))
      (refine' e_call (nwBits hx) ?hp fun _ => ?_; (case hp => (repeat (first | exact Picks.nil | (apply Picks.cons; (focus (repeat constructor)))))); (try simp only [List.cons_append, List.nil_append, Bool.not_true, Bool.not_false]))
      ((with_reducible refine e_gdT ?_))
      refine e_opN v_neq Imp.nil ?_
      rw [decide_eq_false (by decide)]
      (((with_reducible refine e_opN v_pickF Imp.nil ?_))); ((with_reducible refine e_gdT ?_)); ((with_reducible refine e_gdT ?_))
      (refine' e_call (nwBytes hx) ?hp fun _ => ?_; (case hp => (repeat (first | exact Picks.nil | (apply Picks.cons; (focus (repeat constructor)))))); (try simp only [List.cons_append, List.nil_append, Bool.not_true, Bool.not_false]))
      ((with_reducible refine e_gdT ?_)); (((with_reducible refine e_opN v_len Imp.nil ?_))); ((with_reducible refine e_gdT ?_))
      refine e_opN v_neq Imp.nil ?_
      rw [decide_eq_false (by decide)]
      (((with_reducible refine e_opN v_pickF Imp.nil ?_))); ((with_reducible refine e_gdT ?_)); ((with_reducible refine e_gdT ?_))
      refine e_opN v_neq Imp.nil ?_
      rw [decide_eq_false (by decide)]
      (((with_reducible refine e_opN v_pickF Imp.nil ?_))); ((with_reducible refine e_gdT ?_)); ((with_reducible refine e_gdT ?_))
      (refine' e_call (num) ?hp fun _ => ?_; (case hp => (repeat (first | exact Picks.nil | (apply Picks.cons; (focus (repeat constructor)))))); (try simp only [List.cons_append, List.nil_append, Bool.not_true, Bool.not_false]))
      ((with_reducible refine e_gdT ?_))
      refine e_opN v_neq Imp.nil ?_
      rw [decide_eq_false (by decide)]
      (((with_reducible refine e_opN v_pickF Imp.nil ?_))); ((with_reducible refine e_gdT ?_)); ((with_reducible refine e_gdT ?_)); (((with_reducible refine e_opN v_len Imp.nil ?_))); ((with_reducible refine e_gdT ?_))
      refine e_opN v_neq Imp.nil ?_
      rw [decide_eq_false (by decide)]
      (((with_reducible refine e_opN v_pickF Imp.nil ?_))); ((with_reducible refine e_gdT ?_)); ((with_reducible refine e_gdT ?_))
      (refine' e_call (num) ?hp fun _ => ?_; (case hp => (repeat (first | exact Picks.nil | (apply Picks.cons; (focus (repeat constructor)))))); (try simp only [List.cons_append, List.nil_append, Bool.not_true, Bool.not_false]))
      ((with_reducible refine e_gdT ?_))
      refine e_opN v_neq Imp.nil ?_
      rw [decide_eq_false (by decide)]
      (((with_reducible refine e_opN v_pickF Imp.nil ?_))); ((with_reducible refine e_gdT ?_)); ((with_reducible refine e_gdT ?_))
      (refine' e_call (nrLeft hy) ?hp fun _ => ?_; (case hp => (repeat (first | exact Picks.nil | (apply Picks.cons; (focus (repeat constructor)))))); (try simp only [List.cons_append, List.nil_append, Bool.not_true, Bool.not_false]))
      ((with_reducible refine e_gdT ?_))
      refine e_opN v_neq Imp.nil ?_
      rw [decide_eq_false (by decide)]
      (((with_reducible refine e_opN v_pickF Imp.nil ?_))); ((with_reducible refine e_condF ?_)); (((with_reducible refine e_opN v_rv Imp.nil ?_))); (((with_reducible refine e_boxA fun g => ?_))); (((with_reducible refine e_opN v_rv Imp.nil ?_))); (((with_reducible refine e_boxA fun g => ?_))); (((with_reducible refine e_opN (v_add ?h1 ?h2) Imp.nil ?_); (case h1 => omega); (case h2 => omega)))
      rename_i gw
      refine e_next3 (m - 1) (by omega) (.ex (i + 1) (.ex (pt gw (.cells #[.slice none 0 0, .int .i64 0, .bool false] 76), pt g (.cells #[.slice none 0 0, .int .i64 0, .bool false] 80)) (.all ?_)))
      (try simp only [List.cons_append, List.nil_append])
      refine .pu ⟨by omega, by norm_cast, nw_zero, nr_zero⟩ ?_
      (repeat (first | exact Imp.refl | exact Imp.nil | (apply Imp.pick; (focus ((repeat constructor); done))) | refine Imp.drop ?_))
    · ((with_reducible refine e_condF ?_))
      (refine' e_call (knows) ?hp fun _ => ?_; (case hp => (repeat (first | exact Picks.nil | (apply Picks.cons; (focus (repeat constructor)))))); (try simp only [List.cons_append, List.nil_append, Bool.not_true, Bool.not_false]))
      (first | refine e_ret (()) rfl ?_ | refine e_retT (()) ?_)
      (repeat (first | exact Imp.refl | exact Imp.nil | (apply Imp.pick; (focus ((repeat constructor); done))) | refine Imp.drop ?_))
end Go.Proofs.Ytpmcokpiplcnjaa.B
