/- The law DatesBack: what it does. No conditions but those that each names. -/
import Derived.Test.YtcmpkkkigmheoaaDateQ
import Derived.Test.YtcmpkkkigmheoaaDatesDays0
set_option linter.unusedVariables false
set_option linter.unusedSimpArgs false
namespace Go.Proofs.Ytcmpkkkigmheoaa.D
open Go Go.Proofs Go.RowKit Go.Proofs.Ytcmpkkkigmheoaa.Sh Go.Proofs.Ytcmpkkkigmheoaa.Sl Go.Proofs.Ytcmpkkkigmheoaa.T
theorem datesBack {W : World} {n now : Int} : Cn Try.prog 6 [.int .i64 n, .int .i64 now] W [] (fun _ : Unit => .bool true) (fun _ => []) := by
  (refine S.law09_DatesBack_cn fun F => ?_; unfold S.law09_DatesBack; simp only [List.cons_append, List.nil_append])
  (refine' e_call (time9) ?hp fun _ => ?_; (case hp => (repeat (first | exact Picks.nil | (apply Picks.cons; (focus (repeat constructor)))))); (try simp only [List.cons_append, List.nil_append, Bool.not_true, Bool.not_false]))
  have ht := tmN_b n
  generalize tmN n = T at ht ⊢
  have ok : okT T := ht
  obtain ⟨j1, j2⟩ := sp_back ok
  have hp := par_first (now := now) ok
  have hl := fm0_len (ok_sp ok)
  (refine' e_call (format (n := T)) ?hp fun _ => ?_; (case hp => (repeat (first | exact Picks.nil | (apply Picks.cons; (focus (repeat constructor)))))); (try simp only [List.cons_append, List.nil_append, Bool.not_true, Bool.not_false]))
  rw [show foS T = fm 0 (spD T) from if_pos ok, show spE T = 0 from if_pos ok]
  generalize fm 0 (spD T) = l at hp hl ⊢
  (((with_reducible refine' e_opN (v_extN ?hc) Imp.nil ?_); (case hc => (repeat (first | exact Nth.here | apply Nth.there))))); (((with_reducible refine' e_opN (v_extN ?hc) Imp.nil ?_); (case hc => (repeat (first | exact Nth.here | apply Nth.there)))))
  (refine' e_call (parse (now := now) (l := l) (by omega)) ?hp fun _ => ?_; (case hp => (repeat (first | exact Picks.nil | (apply Picks.cons; (focus (repeat constructor)))))); (try simp only [List.cons_append, List.nil_append, Bool.not_true, Bool.not_false]))
  rw [show paN now l = T by unfold paN; rw [hp]; rfl, show paE now l = 0 by unfold paE; rw [hp]; rfl]
  (((with_reducible refine' e_opN (v_extN ?hc) Imp.nil ?_); (case hc => (repeat (first | exact Nth.here | apply Nth.there))))); (((with_reducible refine' e_opN (v_extN ?hc) Imp.nil ?_); (case hc => (repeat (first | exact Nth.here | apply Nth.there)))))
  (refine' e_call (split (n := T)) ?hp fun _ => ?_; (case hp => (repeat (first | exact Picks.nil | (apply Picks.cons; (focus (repeat constructor)))))); (try simp only [List.cons_append, List.nil_append, Bool.not_true, Bool.not_false]))
  rw [show spE T = 0 from if_pos ok]
  rw [show (Value.agg (dtA (spD T))) = .agg #[.int .i64 (spD T).y, .int .i64 (spD T).m, .int .i64 (spD T).d, .int .i64 (spD T).h, .int .i64 (spD T).mi, .int .i64 (spD T).s, .int .i64 (spD T).w] from rfl]
  (((with_reducible refine' e_opN (v_extN ?hc) Imp.nil ?_); (case hc => (repeat (first | exact Nth.here | apply Nth.there))))); (((with_reducible refine' e_opN (v_extN ?hc) Imp.nil ?_); (case hc => (repeat (first | exact Nth.here | apply Nth.there))))); (((with_reducible refine e_newA fun g => ?_))); (((with_reducible refine' e_stAgg ?hp ?hn ?hv ?h1 ?_); (case hp => (repeat constructor)); (case hn => rfl); (case hv => rfl); (case h1 => simp [Value.oneCell']))); (((with_reducible refine' e_opN (v_ldAgg ?hn) ?hi ?_); (case hi => (repeat (first | exact Imp.refl | exact Imp.nil | (apply Imp.pick; (focus ((repeat constructor); done))) | refine Imp.drop ?_))); (case hn => rfl)))
  (refine' e_call (join (x := spD T)) ?hp fun _ => ?_; (case hp => (repeat (first | exact Picks.nil | (apply Picks.cons; (focus (repeat constructor)))))); (try simp only [List.cons_append, List.nil_append, Bool.not_true, Bool.not_false]))
  rw [j2, show jE (spD T) = 0 from if_pos j1]
  (((with_reducible refine' e_opN (v_extN ?hc) Imp.nil ?_); (case hc => (repeat (first | exact Nth.here | apply Nth.there))))); (((with_reducible refine' e_opN (v_extN ?hc) Imp.nil ?_); (case hc => (repeat (first | exact Nth.here | apply Nth.there)))))
  (refine' e_call (num9) ?hp fun _ => ?_; (case hp => (repeat (first | exact Picks.nil | (apply Picks.cons; (focus (repeat constructor)))))); (try simp only [List.cons_append, List.nil_append, Bool.not_true, Bool.not_false]))
  (refine' e_call (num9) ?hp fun _ => ?_; (case hp => (repeat (first | exact Picks.nil | (apply Picks.cons; (focus (repeat constructor)))))); (try simp only [List.cons_append, List.nil_append, Bool.not_true, Bool.not_false]))
  (((with_reducible refine e_opN (v_add ?h1 ?h2) Imp.nil ?_); (case h1 => omega); (case h2 => omega)))
  (refine' e_call (num9) ?hp fun _ => ?_; (case hp => (repeat (first | exact Picks.nil | (apply Picks.cons; (focus (repeat constructor)))))); (try simp only [List.cons_append, List.nil_append, Bool.not_true, Bool.not_false]))
  (((with_reducible refine e_opN (v_add ?h1 ?h2) Imp.nil ?_); (case h1 => omega); (case h2 => omega)))
  (refine' e_call (num9) ?hp fun _ => ?_; (case hp => (repeat (first | exact Picks.nil | (apply Picks.cons; (focus (repeat constructor)))))); (try simp only [List.cons_append, List.nil_append, Bool.not_true, Bool.not_false]))
  (((with_reducible refine e_opN (v_add ?h1 ?h2) Imp.nil ?_); (case h1 => omega); (case h2 => omega)))
  refine e_opN v_eql Imp.nil ?_
  rw [decide_eq_true (by decide)]
  ((with_reducible refine e_gdT ?_)); ((with_reducible refine e_gdT ?_)); ((with_reducible refine e_gdT ?_))
  refine e_opN v_eql Imp.nil ?_
  rw [decide_eq_true rfl]
  (((with_reducible refine e_opN v_pickT Imp.nil ?_))); ((with_reducible refine e_gdT ?_)); ((with_reducible refine e_gdT ?_)); ((with_reducible refine e_gdT ?_))
  refine e_opN v_eql Imp.nil ?_
  rw [decide_eq_true rfl]
  (((with_reducible refine e_opN v_pickT Imp.nil ?_))); ((with_reducible refine e_gdT ?_)); ((with_reducible refine e_gdT ?_))
  refine e_opN v_lent Imp.nil ?_
  rw [hl]
  ((with_reducible refine e_gdT ?_))
  refine e_opN v_eql Imp.nil ?_
  rw [decide_eq_true (by decide)]
  (((with_reducible refine e_opN v_pickT Imp.nil ?_))); ((with_reducible refine e_gdT ?_))
  (refine' e_call (knows9) ?hp fun _ => ?_; (case hp => (repeat (first | exact Picks.nil | (apply Picks.cons; (focus (repeat constructor)))))); (try simp only [List.cons_append, List.nil_append, Bool.not_true, Bool.not_false]))
  (((with_reducible refine e_opN v_pickT Imp.nil ?_)))
  (first | refine e_ret (()) rfl ?_ | refine e_retT (()) ?_)
  (repeat (first | exact Imp.refl | exact Imp.nil | (apply Imp.pick; (focus ((repeat constructor); done))) | refine Imp.drop ?_))
end Go.Proofs.Ytcmpkkkigmheoaa.D
