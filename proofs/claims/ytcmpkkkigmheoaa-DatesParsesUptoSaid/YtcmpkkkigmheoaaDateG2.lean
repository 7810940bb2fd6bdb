/- The document's century, what it reads, what it holds for the same. No conditions but those that each names. -/
import Derived.Test.YtcmpkkkigmheoaaDateG1
import Derived.Test.YtcmpkkkigmheoaaDateF2
import Derived.Test.YtcmpkkkigmheoaaDateR3
set_option linter.unusedVariables false
set_option linter.unusedSimpArgs false
namespace Go.Proofs.Ytcmpkkkigmheoaa.D
open Go Go.Proofs Go.RowKit Go.Proofs.Ytcmpkkkigmheoaa.Sh Go.Proofs.Ytcmpkkkigmheoaa.Sl Go.Proofs.Ytcmpkkkigmheoaa.T
def ceN (two t : Int) : Nat → Int
  | 0 => -1
  | m + 1 => if t % 100 = two then t else ceN two (t - 1) m
def cyR (two now : Int) : Int := ceN two (topY now) (topY now - 1969).toNat
theorem topY_b (now : Int) : 0 ≤ topY now ∧ topY now ≤ 9999 := by
  have := yN_b now
  unfold topY
  split <;> omega
theorem yN_low (now : Int) : 1970 ≤ yN now := by
  unfold yN
  by_cases h : okT now
  · rw [if_pos h, sp_eq h]
    unfold okT at h
    exact cY_low (by omega)
  · rw [if_neg h]; decide
theorem rcentury {W : World} {two now : Int} : Cn Try.prog 35 [.int .i64 two, .int .i64 now] W [] (fun _ : Unit => .int .i64 (cyR two now)) (fun _ => []) := by
  have hy := yN_b now
  have hy2 := yN_low now
  (refine S.ref09_century_cn fun F => ?_; unfold S.ref09_century; simp only [List.cons_append, List.nil_append])
  (refine' e_call (rsplit (n := now)) ?hp fun _ => ?_; (case hp => (repeat (first | exact Picks.nil | (apply Picks.cons; (focus (repeat constructor)))))); (try simp only [List.cons_append, List.nil_append, Bool.not_true, Bool.not_false]))
  rw [show (Value.agg (dtA (spD now))) = .agg #[.int .i64 (spD now).y, .int .i64 (spD now).m, .int .i64 (spD now).d, .int .i64 (spD now).h, .int .i64 (spD now).mi, .int .i64 (spD now).s, .int .i64 (spD now).w] from rfl]
  (((with_reducible refine' e_opN (v_extN ?hc) Imp.nil ?_); (case hc => (repeat (first | exact Nth.here | apply Nth.there))))); (((with_reducible refine' e_opN (v_extN ?hc) Imp.nil ?_); (case hc => (repeat (first | exact Nth.here | apply Nth.there))))); (((with_reducible refine e_newA fun g => ?_))); (((with_reducible refine' e_stAgg ?hp ?hn ?hv ?h1 ?_); (case hp => (repeat constructor)); (case hn => rfl); (case hv => rfl); (case h1 => simp [Value.oneCell'])))
  refine e_cut1 (fun z => pu (z = .int .i64 (yN now)) :: F) ?_ ?_
  rotate_left
  · refine e_ask v_eql Imp.nil (fun h => ?_) (fun h => ?_)
    · have ok : okT now := Decidable.byContradiction fun c => absurd (show spE now = 11 from if_neg c) (by rw [h]; decide)
      ((with_reducible refine e_condT ?_)); (((with_reducible refine e_opN v_fa0 Imp.nil ?_))); (((with_reducible refine' e_opN (v_ldN ?hc) ?hi ?_); (case hi => (repeat (first | exact Imp.refl | exact Imp.nil | (apply Imp.pick; (focus ((repeat constructor); done))) | refine Imp.drop ?_))); (case hc => (repeat (first | exact Nth.here | apply Nth.there)))))
      refine e_sat (.pu ?_ ?_)
      · unfold yN; rw [if_pos ok]
      · (repeat (first | exact Imp.refl | exact Imp.nil | (apply Imp.pick; (focus ((repeat constructor); done))) | refine Imp.drop ?_))
    · have ok : ¬ okT now := fun c => h (if_pos c)
      ((with_reducible refine e_condF ?_))
      refine e_sat (.pu ?_ ?_)
      · unfold yN; rw [if_neg ok]
      · (repeat (first | exact Imp.refl | exact Imp.nil | (apply Imp.pick; (focus ((repeat constructor); done))) | refine Imp.drop ?_))
  intro ds z
  (try simp only [List.cons_append, List.nil_append, -eq_self])
  refine e_pu .here fun h => ?_
  subst h
  (((with_reducible refine e_opN (v_add ?h1 ?h2) Imp.nil ?_); (case h1 => omega); (case h2 => omega)))
  refine e_opN v_min Imp.nil ?_
  rw [show (if 9999 < yN now + 50 then 9999 else yN now + 50) = topY now from rfl]
  have ht : 1970 ≤ topY now ∧ topY now ≤ 9999 := by unfold topY; split <;> omega
  have hR : cyR two now = ceN two (topY now) (topY now - 1969).toNat := rfl
  generalize cyR two now = R at hR ⊢
  generalize topY now = t0 at ht hR ⊢
  refine e_loop1 (fun m y8 => (ex fun t : Int => pu (y8 = .int .i64 t ∧ (m : Int) = t - 1969 ∧ t ≤ 9999 ∧ R = ceN two t m)) :: F) (t0 - 1969).toNat ?_ ?_
  · refine .ex t0 (.pu ⟨rfl, by omega, by omega, hR⟩ ?_)
    (repeat (first | exact Imp.refl | exact Imp.nil | (apply Imp.pick; (focus ((repeat constructor); done))) | refine Imp.drop ?_))
  intro m ds2 y8
  (try simp only [List.cons_append, List.nil_append, -eq_self])
  refine e_ex Pick.here fun t => e_pu Pick.here fun hi => ?_
  obtain ⟨rfl, hmt, ht9, hRt⟩ := hi
  refine e_ask v_geq Imp.nil (fun h => ?_) (fun h => ?_)
  · obtain ⟨m', rfl⟩ : ∃ m', m = m' + 1 := ⟨m - 1, by omega⟩
    unfold ceN at hRt
    ((with_reducible refine e_condT ?_)); (((with_reducible refine e_opN (v_rem ?h1 ?h2) Imp.nil ?_); (case h1 => omega); (case h2 => omega)))
    refine e_ask v_eql Imp.nil (fun h2 => ?_) (fun h2 => ?_)
    · rw [if_pos h2] at hRt
      ((with_reducible refine e_condT ?_))
      rw [hRt]
      (first | refine e_ret (()) rfl ?_ | refine e_retT (()) ?_)
      (repeat (first | exact Imp.refl | exact Imp.nil | (apply Imp.pick; (focus ((repeat constructor); done))) | refine Imp.drop ?_))
    · rw [if_neg h2] at hRt
      ((with_reducible refine e_condF ?_)); (((with_reducible refine e_opN (v_sub ?h1 ?h2) Imp.nil ?_); (case h1 => omega); (case h2 => omega)))
      refine e_next1 m' (by omega) (.ex (t - 1) (.pu ⟨rfl, by omega, by omega, hRt⟩ ?_))
      (repeat (first | exact Imp.refl | exact Imp.nil | (apply Imp.pick; (focus ((repeat constructor); done))) | refine Imp.drop ?_))
  · have hm0 : m = 0 := by omega
    subst hm0
    rw [show R = -1 from hRt]
    ((with_reducible refine e_condF ?_))
    (first | refine e_ret (()) rfl ?_ | refine e_retT (()) ?_)
    (repeat (first | exact Imp.refl | exact Imp.nil | (apply Imp.pick; (focus ((repeat constructor); done))) | refine Imp.drop ?_))
def rdR (l : List UInt8) (day : Int) (mon : Nat) (at_ year : Int) : Dt := ⟨year, moR l mon, dgR l day 2, dgR l at_ 2, dgR l (at_ + 3) 2, dgR l (at_ + 6) 2, 0⟩
theorem rread {W : World} {l : List UInt8} {day at_ year mo : Int} (mon : Nat) (hmo : mo = (mon : Int)) (hm : mon ≤ 4611686018427380000) (hd : 0 ≤ day ∧ day ≤ 4611686018427380000) (ha : 0 ≤ at_ ∧ at_ ≤ 4611686018427380000) : Cn Try.prog 33 [txt l, .int .i64 day, .int .i64 mo, .int .i64 at_, .int .i64 year] W [] (fun _ : Unit => .agg (dtA (rdR l day mon at_ year))) (fun _ => []) := by
  subst hmo
  (refine S.ref09_read_cn fun F => ?_; unfold S.ref09_read; simp only [List.cons_append, List.nil_append])
  (((with_reducible refine e_newA fun g => ?_)))
  (refine' e_call (rmonth (a := mon) (by omega)) ?hp fun _ => ?_; (case hp => (repeat (first | exact Picks.nil | (apply Picks.cons; (focus (repeat constructor)))))); (try simp only [List.cons_append, List.nil_append, Bool.not_true, Bool.not_false]))
  (refine' e_call (rdigits (a := day) 2 (by rfl) (by omega) (by omega)) ?hp fun _ => ?_; (case hp => (repeat (first | exact Picks.nil | (apply Picks.cons; (focus (repeat constructor)))))); (try simp only [List.cons_append, List.nil_append, Bool.not_true, Bool.not_false]))
  (refine' e_call (rdigits (a := at_) 2 (by rfl) (by omega) (by omega)) ?hp fun _ => ?_; (case hp => (repeat (first | exact Picks.nil | (apply Picks.cons; (focus (repeat constructor)))))); (try simp only [List.cons_append, List.nil_append, Bool.not_true, Bool.not_false]))
  (((with_reducible refine e_opN (v_add ?h1 ?h2) Imp.nil ?_); (case h1 => omega); (case h2 => omega)))
  (refine' e_call (rdigits (a := at_ + 3) 2 (by rfl) (by omega) (by omega)) ?hp fun _ => ?_; (case hp => (repeat (first | exact Picks.nil | (apply Picks.cons; (focus (repeat constructor)))))); (try simp only [List.cons_append, List.nil_append, Bool.not_true, Bool.not_false]))
  (((with_reducible refine e_opN (v_add ?h1 ?h2) Imp.nil ?_); (case h1 => omega); (case h2 => omega)))
  (refine' e_call (rdigits (a := at_ + 6) 2 (by rfl) (by omega) (by omega)) ?hp fun _ => ?_; (case hp => (repeat (first | exact Picks.nil | (apply Picks.cons; (focus (repeat constructor)))))); (try simp only [List.cons_append, List.nil_append, Bool.not_true, Bool.not_false]))
  (((with_reducible refine e_opN v_rv Imp.nil ?_))); (((with_reducible refine' e_stAgg ?hp ?hn ?hv ?h1 ?_); (case hp => (repeat constructor)); (case hn => rfl); (case hv => rfl); (case h1 => simp [Value.oneCell']))); (((with_reducible refine' e_stS (v_resA ?hn) ?hi ?_); (case hi => (repeat (first | exact Imp.refl | exact Imp.nil | (apply Imp.pick; (focus ((repeat constructor); done))) | refine Imp.drop ?_))); (case hn => rfl)))
  (first | refine e_ret (()) rfl ?_ | refine e_retT (()) ?_)
  (repeat (first | exact Imp.refl | exact Imp.nil | (apply Imp.pick; (focus ((repeat constructor); done))) | refine Imp.drop ?_))
end Go.Proofs.Ytcmpkkkigmheoaa.D
