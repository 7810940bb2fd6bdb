/- The law DatesForms: what it does. No conditions but those that each names. -/
import Derived.Test.YtcmpkkkigmheoaaDateQ2
import Derived.Test.YtcmpkkkigmheoaaDateF2
import Derived.Test.YtcmpkkkigmheoaaDatesDays0
set_option linter.unusedVariables false
set_option linter.unusedSimpArgs false
namespace Go.Proofs.Ytcmpkkkigmheoaa.D
open Go Go.Proofs Go.RowKit Go.Proofs.Ytcmpkkkigmheoaa.Sh Go.Proofs.Ytcmpkkkigmheoaa.Sl Go.Proofs.Ytcmpkkkigmheoaa.T
theorem datesForms {W : World} {n away : Int} : Cn Try.prog 8 [.int .i64 n, .int .i64 away] W [] (fun _ : Unit => .bool true) (fun _ => []) := by
  (refine S.law09_DatesForms_cn fun F => ?_; unfold S.law09_DatesForms; simp only [List.cons_append, List.nil_append])
  (refine' e_call (time9) ?hp fun _ => ?_; (case hp => (repeat (first | exact Picks.nil | (apply Picks.cons; (focus (repeat constructor)))))); (try simp only [List.cons_append, List.nil_append, Bool.not_true, Bool.not_false]))
  have ht := tmN_b n
  generalize tmN n = T at ht ⊢
  have ok : okT T := ht
  refine e_opN (v_remt (by decide)) Imp.nil ?_
  have t1 : -1545264000 < away.tmod 1545264000 ∧ away.tmod 1545264000 < 1545264000 := ⟨Int.lt_tmod_of_pos away (by decide), Int.tmod_lt_of_pos away (by decide)⟩
  generalize away.tmod 1545264000 = r at t1 ⊢
  (((with_reducible refine e_opN (v_add ?h1 ?h2) Imp.nil ?_); (case h1 => omega); (case h2 => omega)))
  refine e_opN v_min Imp.nil ?_
  refine e_opN v_max Imp.nil ?_
  obtain ⟨now, hnow⟩ : ∃ z, z = (if 0 < (if 253402300799 < T + r then 253402300799 else T + r) then (if 253402300799 < T + r then 253402300799 else T + r) else 0) := ⟨_, rfl⟩
  rw [← hnow]
  have hn : (0 ≤ now ∧ now ≤ 253402300799) ∧ now - T < 1545264000 ∧ T - now < 1545264000 := by
    rw [hnow]
    split <;> split <;> omega
  clear hnow t1
  have okn : okT now := hn.1
  have hyn : yN now = cY (now / 86400) := by unfold yN; rw [if_pos okn, sp_eq okn]
  have hyT : (spD T).y = cY (T / 86400) := by rw [sp_eq ok]
  have n1 := near (a := now / 86400) (b := T / 86400) (by omega) (by omega) (by omega)
  have n2 := near (a := T / 86400) (b := now / 86400) (by omega) (by omega) (by omega)
  have hs := secY_ok (now := now) (y := (spD T).y) (ok_sp ok).y (by rw [hyn, hyT]; omega)
  have p0 := par_first (now := now) ok
  have p1 := par_second ok hs
  have p2 := par_third (now := now) ok
  have l0 := fm0_len (ok_sp ok)
  have l1 := fm1_le (ok_sp ok)
  have l2 := fm2_len (ok_sp ok)
  (refine' e_call (rsplit (n := T)) ?hp fun _ => ?_; (case hp => (repeat (first | exact Picks.nil | (apply Picks.cons; (focus (repeat constructor)))))); (try simp only [List.cons_append, List.nil_append, Bool.not_true, Bool.not_false]))
  rw [show spE T = 0 from if_pos ok]
  rw [show (Value.agg (dtA (spD T))) = .agg #[.int .i64 (spD T).y, .int .i64 (spD T).m, .int .i64 (spD T).d, .int .i64 (spD T).h, .int .i64 (spD T).mi, .int .i64 (spD T).s, .int .i64 (spD T).w] from rfl]
  (((with_reducible refine' e_opN (v_extN ?hc) Imp.nil ?_); (case hc => (repeat (first | exact Nth.here | apply Nth.there))))); (((with_reducible refine' e_opN (v_extN ?hc) Imp.nil ?_); (case hc => (repeat (first | exact Nth.here | apply Nth.there))))); (((with_reducible refine e_newA fun g => ?_))); (((with_reducible refine' e_stAgg ?hp ?hn ?hv ?h1 ?_); (case hp => (repeat constructor)); (case hn => rfl); (case hv => rfl); (case h1 => simp [Value.oneCell']))); (((with_reducible refine' e_opN (v_ldAgg ?hn) ?hi ?_); (case hi => (repeat (first | exact Imp.refl | exact Imp.nil | (apply Imp.pick; (focus ((repeat constructor); done))) | refine Imp.drop ?_))); (case hn => rfl)))
  (refine' e_call (forms (x := spD T) (ok_sp ok)) ?hp fun _ => ?_; (case hp => (repeat (first | exact Picks.nil | (apply Picks.cons; (focus (repeat constructor)))))); (try simp only [List.cons_append, List.nil_append, Bool.not_true, Bool.not_false]))
  generalize fm 0 (spD T) = f0 at p0 l0 ⊢
  generalize fm 1 (spD T) = f1 at p1 l1 ⊢
  generalize fm 2 (spD T) = f2 at p2 l2 ⊢
  (((with_reducible refine' e_opN (v_extN ?hc) Imp.nil ?_); (case hc => (repeat (first | exact Nth.here | apply Nth.there))))); (((with_reducible refine' e_opN (v_extN ?hc) Imp.nil ?_); (case hc => (repeat (first | exact Nth.here | apply Nth.there))))); (((with_reducible refine' e_opN (v_extN ?hc) Imp.nil ?_); (case hc => (repeat (first | exact Nth.here | apply Nth.there)))))
  (refine' e_call (parse (now := now) (l := f0) (by omega)) ?hp fun _ => ?_; (case hp => (repeat (first | exact Picks.nil | (apply Picks.cons; (focus (repeat constructor)))))); (try simp only [List.cons_append, List.nil_append, Bool.not_true, Bool.not_false]))
  rw [show paN now f0 = T by unfold paN; rw [p0]; rfl, show paE now f0 = 0 by unfold paE; rw [p0]; rfl]
  (((with_reducible refine' e_opN (v_extN ?hc) Imp.nil ?_); (case hc => (repeat (first | exact Nth.here | apply Nth.there))))); (((with_reducible refine' e_opN (v_extN ?hc) Imp.nil ?_); (case hc => (repeat (first | exact Nth.here | apply Nth.there)))))
  (refine' e_call (parse (now := now) (l := f1) (by omega)) ?hp fun _ => ?_; (case hp => (repeat (first | exact Picks.nil | (apply Picks.cons; (focus (repeat constructor)))))); (try simp only [List.cons_append, List.nil_append, Bool.not_true, Bool.not_false]))
  rw [show paN now f1 = T by unfold paN; rw [p1]; rfl, show paE now f1 = 0 by unfold paE; rw [p1]; rfl]
  (((with_reducible refine' e_opN (v_extN ?hc) Imp.nil ?_); (case hc => (repeat (first | exact Nth.here | apply Nth.there))))); (((with_reducible refine' e_opN (v_extN ?hc) Imp.nil ?_); (case hc => (repeat (first | exact Nth.here | apply Nth.there)))))
  (refine' e_call (parse (now := now) (l := f2) (by omega)) ?hp fun _ => ?_; (case hp => (repeat (first | exact Picks.nil | (apply Picks.cons; (focus (repeat constructor)))))); (try simp only [List.cons_append, List.nil_append, Bool.not_true, Bool.not_false]))
  rw [show paN now f2 = T by unfold paN; rw [p2]; rfl, show paE now f2 = 0 by unfold paE; rw [p2]; rfl]
  (((with_reducible refine' e_opN (v_extN ?hc) Imp.nil ?_); (case hc => (repeat (first | exact Nth.here | apply Nth.there))))); (((with_reducible refine' e_opN (v_extN ?hc) Imp.nil ?_); (case hc => (repeat (first | exact Nth.here | apply Nth.there)))))
  refine e_opN v_eql Imp.nil ?_
  rw [decide_eq_true rfl]
  ((with_reducible refine e_gdT ?_)); ((with_reducible refine e_gdT ?_))
  (refine' e_call (num9) ?hp fun _ => ?_; (case hp => (repeat (first | exact Picks.nil | (apply Picks.cons; (focus (repeat constructor)))))); (try simp only [List.cons_append, List.nil_append, Bool.not_true, Bool.not_false]))
  ((with_reducible refine e_gdT ?_)); ((with_reducible refine e_gdT ?_))
  (refine' e_call (num9) ?hp fun _ => ?_; (case hp => (repeat (first | exact Picks.nil | (apply Picks.cons; (focus (repeat constructor)))))); (try simp only [List.cons_append, List.nil_append, Bool.not_true, Bool.not_false]))
  ((with_reducible refine e_gdT ?_)); (((with_reducible refine e_opN (v_add ?h1 ?h2) Imp.nil ?_); (case h1 => omega); (case h2 => omega))); ((with_reducible refine e_gdT ?_)); ((with_reducible refine e_gdT ?_))
  (refine' e_call (num9) ?hp fun _ => ?_; (case hp => (repeat (first | exact Picks.nil | (apply Picks.cons; (focus (repeat constructor)))))); (try simp only [List.cons_append, List.nil_append, Bool.not_true, Bool.not_false]))
  ((with_reducible refine e_gdT ?_)); (((with_reducible refine e_opN (v_add ?h1 ?h2) Imp.nil ?_); (case h1 => omega); (case h2 => omega))); ((with_reducible refine e_gdT ?_))
  refine e_opN v_eql Imp.nil ?_
  rw [decide_eq_true (by decide)]
  (((with_reducible refine e_opN v_pickT Imp.nil ?_))); ((with_reducible refine e_gdT ?_)); ((with_reducible refine e_gdT ?_)); ((with_reducible refine e_gdT ?_))
  refine e_opN v_eql Imp.nil ?_
  rw [decide_eq_true rfl]
  (((with_reducible refine e_opN v_pickT Imp.nil ?_))); ((with_reducible refine e_gdT ?_)); ((with_reducible refine e_gdT ?_)); ((with_reducible refine e_gdT ?_))
  refine e_opN v_eql Imp.nil ?_
  rw [decide_eq_true rfl]
  (((with_reducible refine e_opN v_pickT Imp.nil ?_))); ((with_reducible refine e_gdT ?_)); ((with_reducible refine e_gdT ?_)); ((with_reducible refine e_gdT ?_))
  refine e_opN v_eql Imp.nil ?_
  rw [decide_eq_true rfl]
  (((with_reducible refine e_opN v_pickT Imp.nil ?_))); ((with_reducible refine e_gdT ?_))
  (refine' e_call (knows9) ?hp fun _ => ?_; (case hp => (repeat (first | exact Picks.nil | (apply Picks.cons; (focus (repeat constructor)))))); (try simp only [List.cons_append, List.nil_append, Bool.not_true, Bool.not_false]))
  (((with_reducible refine e_opN v_pickT Imp.nil ?_)))
  (first | refine e_ret (()) rfl ?_ | refine e_retT (()) ?_)
  (repeat (first | exact Imp.refl | exact Imp.nil | (apply Imp.pick; (focus ((repeat constructor); done))) | refine Imp.drop ?_))
end Go.Proofs.Ytcmpkkkigmheoaa.D
