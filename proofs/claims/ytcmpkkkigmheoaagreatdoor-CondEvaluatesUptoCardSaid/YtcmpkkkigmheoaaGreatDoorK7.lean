/- The document's century, what it reads, what it holds for the same. No conditions but those that each names. (8 texts made one; each says below what it is.) -/
import Derived.Test.YtcmpkkkigmheoaaGreatDoorK6
import Derived.Test.YtcmpkkkigmheoaaGreatDoorK4
set_option linter.unusedVariables false
set_option linter.unusedSimpArgs false
set_option linter.unusedSectionVars false
/-! The document's century, what it reads, what it holds for the same. No conditions but those that each names. -/
namespace Go.Proofs.YtcmpkkkigmheoaaGreatDoor.D
open Go Go.Proofs Go.RowKit Go.Proofs.YtcmpkkkigmheoaaGreatDoor.Sh Go.Proofs.YtcmpkkkigmheoaaGreatDoor.Sl Go.Proofs.YtcmpkkkigmheoaaGreatDoor.T
def ceN (two t : Int) : Nat → Int
  | 0 => -1
  | m + 1 => if t % 100 = two then t else ceN two (t - 1) m
def cyR (two now : Int) : Int := ceN two (topY now) (topY now - 1969).toNat
theorem topY_b (now : Int) : 0 ≤ topY now ∧ topY now ≤ 9999 := by
  have := yN_b now
  unfold topY
  split <;> omega
theorem yN_low (now : Int) : 1970 ≤ yN now := by
  unfold yN
  by_cases h : okT now
  · rw [if_pos h, sp_eq h]
    unfold okT at h
    exact cY_low (by omega)
  · rw [if_neg h]; decide
theorem rcentury {W : World} {two now : Int} : Cn Tryz.prog 42 [.int .i64 two, .int .i64 now] W [] (fun _ : Unit => .int .i64 (cyR two now)) (fun _ => []) := by
  have hy := yN_b now
  have hy2 := yN_low now
  (refine S.ref09_century_cn fun F => ?_; unfold S.ref09_century; simp only [List.cons_append, List.nil_append])
  (refine' e_call (rsplit (n := now)) ?hp fun _ => ?_; (case hp => (repeat (first | exact Picks.nil | (apply Picks.cons; (focus (repeat constructor)))))); (try simp only [List.cons_append, List.nil_append, Bool.not_true, Bool.not_false]))
  rw [show (Value.agg (dtA (spD now))) = .agg #[.int .i64 (spD now).y, .int .i64 (spD now).m, .int .i64 (spD now).d, .int .i64 (spD now).h, .int .i64 (spD now).mi, .int .i64 (spD now).s, .int .i64 (spD now).w] from rfl]
  (((with_reducible refine' e_opN (v_extN ?hc) Imp.nil ?_); (case hc => (repeat (first | exact Nth.here | apply Nth.there))))); (((with_reducible refine' e_opN (v_extN ?hc) Imp.nil ?_); (case hc => (repeat (first | exact Nth.here | apply Nth.there))))); (((with_reducible refine e_newA fun g => ?_))); (((with_reducible refine' e_stAgg ?hp ?hn ?hv ?h1 ?_); (case hp => (repeat constructor)); (case hn => rfl); (case hv => rfl); (case h1 => simp [Value.oneCell'])))
  refine e_cut1 (fun z => pu (z = .int .i64 (yN now)) :: F) ?_ ?_
  rotate_left
  · refine e_ask v_eql Imp.nil (fun h => ?_) (fun h => ?_)
    · have ok : okT now := Decidable.byContradiction fun c => absurd (show spE now = 11 from if_neg c) (by rw [h]; decide)
      ((with_reducible refine e_condT ?_)); (((with_reducible refine e_opN v_fa0 Imp.nil ?_))); (((with_reducible refine' e_opN (v_ldN ?hc) ?hi ?_); (case hi => (repeat (first | exact Imp.refl | exact Imp.nil | (apply Imp.pick; (focus ((repeat constructor); done))) | refine Imp.drop ?_))); (case hc => (repeat (first | exact Nth.here | apply Nth.there)))))
      refine e_sat (.pu ?_ ?_)
      · unfold yN; rw [if_pos ok]
      · (repeat (first | exact Imp.refl | exact Imp.nil | (apply Imp.pick; (focus ((repeat constructor); done))) | refine Imp.drop ?_))
    · have ok : ¬ okT now := fun c => h (if_pos c)
      ((with_reducible refine e_condF ?_))
      refine e_sat (.pu ?_ ?_)
      · unfold yN; rw [if_neg ok]
      · (repeat (first | exact Imp.refl | exact Imp.nil | (apply Imp.pick; (focus ((repeat constructor); done))) | refine Imp.drop ?_))
  intro ds z
  (try simp only [List.cons_append, List.nil_append, -eq_self])
  refine e_pu .here fun h => ?_
  subst h
  (((with_reducible refine e_opN (v_add ?h1 ?h2) Imp.nil ?_); (case h1 => omega); (case h2 => omega)))
  refine e_opN v_min Imp.nil ?_
  rw [show (if 9999 < yN now + 50 then 9999 else yN now + 50) = topY now from rfl]
  have ht : 1970 ≤ topY now ∧ topY now ≤ 9999 := by unfold topY; split <;> omega
  have hR : cyR two now = ceN two (topY now) (topY now - 1969).toNat := rfl
  generalize cyR two now = R at hR ⊢
  generalize topY now = t0 at ht hR ⊢
  refine e_loop1 (fun m y8 => (ex fun t : Int => pu (y8 = .int .i64 t ∧ (m : Int) = t - 1969 ∧ t ≤ 9999 ∧ R = ceN two t m)) :: F) (t0 - 1969).toNat ?_ ?_
  · refine .ex t0 (.pu ⟨rfl, by omega, by omega, hR⟩ ?_)
    (repeat (first | exact Imp.refl | exact Imp.nil | (apply Imp.pick; (focus ((repeat constructor); done))) | refine Imp.drop ?_))
  intro m ds2 y8
  (try simp only [List.cons_append, List.nil_append, -eq_self])
  refine e_ex Pick.here fun t => e_pu Pick.here fun hi => ?_
  obtain ⟨rfl, hmt, ht9, hRt⟩ := hi
  refine e_ask v_geq Imp.nil (fun h => ?_) (fun h => ?_)
  · obtain ⟨m', rfl⟩ : ∃ m', m = m' + 1 := ⟨m - 1, by omega⟩
    unfold ceN at hRt
    ((with_reducible refine e_condT ?_)); (((with_reducible refine e_opN (v_rem ?h1 ?h2) Imp.nil ?_); (case h1 => omega); (case h2 => omega)))
    refine e_ask v_eql Imp.nil (fun h2 => ?_) (fun h2 => ?_)
    · rw [if_pos h2] at hRt
      ((with_reducible refine e_condT ?_))
      rw [hRt]
      (first | refine e_ret (()) rfl ?_ | refine e_retT (()) ?_)
      (repeat (first | exact Imp.refl | exact Imp.nil | (apply Imp.pick; (focus ((repeat constructor); done))) | refine Imp.drop ?_))
    · rw [if_neg h2] at hRt
      ((with_reducible refine e_condF ?_)); (((with_reducible refine e_opN (v_sub ?h1 ?h2) Imp.nil ?_); (case h1 => omega); (case h2 => omega)))
      refine e_next1 m' (by omega) (.ex (t - 1) (.pu ⟨rfl, by omega, by omega, hRt⟩ ?_))
      (repeat (first | exact Imp.refl | exact Imp.nil | (apply Imp.pick; (focus ((repeat constructor); done))) | refine Imp.drop ?_))
  · have hm0 : m = 0 := by omega
    subst hm0
    rw [show R = -1 from hRt]
    ((with_reducible refine e_condF ?_))
    (first | refine e_ret (()) rfl ?_ | refine e_retT (()) ?_)
    (repeat (first | exact Imp.refl | exact Imp.nil | (apply Imp.pick; (focus ((repeat constructor); done))) | refine Imp.drop ?_))
def rdR (l : List UInt8) (day : Int) (mon : Nat) (at_ year : Int) : Dt := ⟨year, moR l mon, dgR l day 2, dgR l at_ 2, dgR l (at_ + 3) 2, dgR l (at_ + 6) 2, 0⟩
theorem rread {W : World} {l : List UInt8} {day at_ year mo : Int} (mon : Nat) (hmo : mo = (mon : Int)) (hm : mon ≤ 4611686018427380000) (hd : 0 ≤ day ∧ day ≤ 4611686018427380000) (ha : 0 ≤ at_ ∧ at_ ≤ 4611686018427380000) : Cn Tryz.prog 40 [txt l, .int .i64 day, .int .i64 mo, .int .i64 at_, .int .i64 year] W [] (fun _ : Unit => .agg (dtA (rdR l day mon at_ year))) (fun _ => []) := by
  subst hmo
  (refine S.ref09_read_cn fun F => ?_; unfold S.ref09_read; simp only [List.cons_append, List.nil_append])
  (((with_reducible refine e_newA fun g => ?_)))
  (refine' e_call (rmonth (a := mon) (by omega)) ?hp fun _ => ?_; (case hp => (repeat (first | exact Picks.nil | (apply Picks.cons; (focus (repeat constructor)))))); (try simp only [List.cons_append, List.nil_append, Bool.not_true, Bool.not_false]))
  (refine' e_call (rdigits (a := day) 2 (by rfl) (by omega) (by omega)) ?hp fun _ => ?_; (case hp => (repeat (first | exact Picks.nil | (apply Picks.cons; (focus (repeat constructor)))))); (try simp only [List.cons_append, List.nil_append, Bool.not_true, Bool.not_false]))
  (refine' e_call (rdigits (a := at_) 2 (by rfl) (by omega) (by omega)) ?hp fun _ => ?_; (case hp => (repeat (first | exact Picks.nil | (apply Picks.cons; (focus (repeat constructor)))))); (try simp only [List.cons_append, List.nil_append, Bool.not_true, Bool.not_false]))
  (((with_reducible refine e_opN (v_add ?h1 ?h2) Imp.nil ?_); (case h1 => omega); (case h2 => omega)))
  (refine' e_call (rdigits (a := at_ + 3) 2 (by rfl) (by omega) (by omega)) ?hp fun _ => ?_; (case hp => (repeat (first | exact Picks.nil | (apply Picks.cons; (focus (repeat constructor)))))); (try simp only [List.cons_append, List.nil_append, Bool.not_true, Bool.not_false]))
  (((with_reducible refine e_opN (v_add ?h1 ?h2) Imp.nil ?_); (case h1 => omega); (case h2 => omega)))
  (refine' e_call (rdigits (a := at_ + 6) 2 (by rfl) (by omega) (by omega)) ?hp fun _ => ?_; (case hp => (repeat (first | exact Picks.nil | (apply Picks.cons; (focus (repeat constructor)))))); (try simp only [List.cons_append, List.nil_append, Bool.not_true, Bool.not_false]))
  (((with_reducible refine e_opN v_rv Imp.nil ?_))); (((with_reducible refine' e_stAgg ?hp ?hn ?hv ?h1 ?_); (case hp => (repeat constructor)); (case hn => rfl); (case hv => rfl); (case h1 => simp [Value.oneCell']))); (((with_reducible refine' e_stS (v_resA ?hn) ?hi ?_); (case hi => (repeat (first | exact Imp.refl | exact Imp.nil | (apply Imp.pick; (focus ((repeat constructor); done))) | refine Imp.drop ?_))); (case hn => rfl)))
  (first | refine e_ret (()) rfl ?_ | refine e_retT (()) ?_)
  (repeat (first | exact Imp.refl | exact Imp.nil | (apply Imp.pick; (focus ((repeat constructor); done))) | refine Imp.drop ?_))
end Go.Proofs.YtcmpkkkigmheoaaGreatDoor.D
/-! What the document holds for the same. No conditions but those that each names. -/
namespace Go.Proofs.YtcmpkkkigmheoaaGreatDoor.D
open Go Go.Proofs Go.RowKit Go.Proofs.YtcmpkkkigmheoaaGreatDoor.Sh Go.Proofs.YtcmpkkkigmheoaaGreatDoor.Sl Go.Proofs.YtcmpkkkigmheoaaGreatDoor.T
def smR (f : Int) (l : List UInt8) (x : Dt) : Option Int := if okF x ∧ fm (f - 1) (spD (jN x)) = l then some (jN x) else none
def oE (o : Option Int) : Int := if o.isSome then 0 else 41
theorem rsame {W : World} {l : List UInt8} {x : Dt} {f : Int} (hf : f = 1 ∨ f = 2 ∨ f = 3) : Cn Tryz.prog 39 [txt l, .agg (dtA x), .int .i64 f] W [] (fun _ : Unit => .tuple #[.int .i64 ((smR f l x).getD 0), .int .i64 (oE (smR f l x))]) (fun _ => []) := by
  have hsm : smR f l x = if okF x ∧ fm (f - 1) (spD (jN x)) = l then some (jN x) else none := rfl
  (refine S.ref09_same_cn fun F => ?_; unfold S.ref09_same; simp only [List.cons_append, List.nil_append])
  rw [show (Value.agg (dtA x)) = .agg #[.int .i64 x.y, .int .i64 x.m, .int .i64 x.d, .int .i64 x.h, .int .i64 x.mi, .int .i64 x.s, .int .i64 x.w] from rfl]
  (((with_reducible refine e_boxA fun g => ?_))); (((with_reducible refine' e_opN (v_ldAgg ?hn) ?hi ?_); (case hi => (repeat (first | exact Imp.refl | exact Imp.nil | (apply Imp.pick; (focus ((repeat constructor); done))) | refine Imp.drop ?_))); (case hn => rfl)))
  (refine' e_call (rjoin (x := x)) ?hp fun _ => ?_; (case hp => (repeat (first | exact Picks.nil | (apply Picks.cons; (focus (repeat constructor)))))); (try simp only [List.cons_append, List.nil_append, Bool.not_true, Bool.not_false]))
  (((with_reducible refine' e_opN (v_extN ?hc) Imp.nil ?_); (case hc => (repeat (first | exact Nth.here | apply Nth.there))))); (((with_reducible refine' e_opN (v_extN ?hc) Imp.nil ?_); (case hc => (repeat (first | exact Nth.here | apply Nth.there)))))
  refine e_ask v_neq Imp.nil (fun h => ?_) (fun h => ?_)
  · have nok : ¬ okF x := fun c => h (if_pos c)
    rw [show smR f l x = none by rw [hsm]; exact if_neg fun c => nok c.1]
    ((with_reducible refine e_condT ?_))
    (first | refine e_ret (()) rfl ?_ | refine e_retT (()) ?_)
    (repeat (first | exact Imp.refl | exact Imp.nil | (apply Imp.pick; (focus ((repeat constructor); done))) | refine Imp.drop ?_))
  have ok : okF x := Decidable.byContradiction fun c => h (by rw [show jE x = 41 from if_neg c]; decide)
  ((with_reducible refine e_condF ?_))
  (refine' e_call (rsplit (n := jN x)) ?hp fun _ => ?_; (case hp => (repeat (first | exact Picks.nil | (apply Picks.cons; (focus (repeat constructor)))))); (try simp only [List.cons_append, List.nil_append, Bool.not_true, Bool.not_false]))
  rw [show (Value.agg (dtA (spD (jN x)))) = .agg #[.int .i64 (spD (jN x)).y, .int .i64 (spD (jN x)).m, .int .i64 (spD (jN x)).d, .int .i64 (spD (jN x)).h, .int .i64 (spD (jN x)).mi, .int .i64 (spD (jN x)).s, .int .i64 (spD (jN x)).w] from rfl]
  (((with_reducible refine' e_opN (v_extN ?hc) Imp.nil ?_); (case hc => (repeat (first | exact Nth.here | apply Nth.there))))); (((with_reducible refine' e_opN (v_extN ?hc) Imp.nil ?_); (case hc => (repeat (first | exact Nth.here | apply Nth.there))))); (((with_reducible refine' e_stAgg ?hp ?hn ?hv ?h1 ?_); (case hp => (repeat constructor)); (case hn => rfl); (case hv => rfl); (case h1 => simp [Value.oneCell']))); (((with_reducible refine' e_opN (v_ldAgg ?hn) ?hi ?_); (case hi => (repeat (first | exact Imp.refl | exact Imp.nil | (apply Imp.pick; (focus ((repeat constructor); done))) | refine Imp.drop ?_))); (case hn => rfl)))
  (refine' e_call (forms (x := spD (jN x)) (ok_sp (jN_ok ok))) ?hp fun _ => ?_; (case hp => (repeat (first | exact Picks.nil | (apply Picks.cons; (focus (repeat constructor)))))); (try simp only [List.cons_append, List.nil_append, Bool.not_true, Bool.not_false]))
  (((with_reducible refine' e_opN (v_extN ?hc) Imp.nil ?_); (case hc => (repeat (first | exact Nth.here | apply Nth.there))))); (((with_reducible refine' e_opN (v_extN ?hc) Imp.nil ?_); (case hc => (repeat (first | exact Nth.here | apply Nth.there))))); (((with_reducible refine' e_opN (v_extN ?hc) Imp.nil ?_); (case hc => (repeat (first | exact Nth.here | apply Nth.there)))))
  rcases hf with rfl | rfl | rfl
  · refine e_opN v_eql Imp.nil ?_
    rw [decide_eq_true (by decide)]
    ((with_reducible refine e_gdT ?_)); ((with_reducible refine e_gdT ?_)); ((with_reducible refine e_gdT ?_))
    refine e_ask v_strne Imp.nil (fun h5 => ?_) (fun h5 => ?_)
    · rw [show smR 1 l x = none by rw [hsm]; exact if_neg fun c => h5 (by rw [← c.2]; rfl)]
      (((with_reducible refine e_opN v_pickT Imp.nil ?_))); ((with_reducible refine e_gdF1 ?_)); ((with_reducible refine e_gdF1 ?_)); ((with_reducible refine e_gdF1 ?_)); ((with_reducible refine e_gdU ?_)); ((with_reducible refine e_gdU ?_)); ((with_reducible refine e_gdU ?_)); ((with_reducible refine e_gdF1 ?_)); (((with_reducible refine e_opN v_pickT Imp.nil ?_))); ((with_reducible refine e_gdF1 ?_)); ((with_reducible refine e_gdF1 ?_)); ((with_reducible refine e_gdF1 ?_)); ((with_reducible refine e_gdU ?_)); ((with_reducible refine e_gdU ?_)); ((with_reducible refine e_gdU ?_)); ((with_reducible refine e_gdF1 ?_)); (((with_reducible refine e_opN v_pickT Imp.nil ?_))); ((with_reducible refine e_condT ?_))
      (first | refine e_ret (()) rfl ?_ | refine e_retT (()) ?_)
      (repeat (first | exact Imp.refl | exact Imp.nil | (apply Imp.pick; (focus ((repeat constructor); done))) | refine Imp.drop ?_))
    rw [show smR 1 l x = some (jN x) by rw [hsm]; exact if_pos ⟨ok, (Decidable.not_not.1 h5).symm⟩]
    (((with_reducible refine e_opN v_pickT Imp.nil ?_))); ((with_reducible refine e_gdT ?_)); ((with_reducible refine e_gdT ?_))
    refine e_opN v_eql Imp.nil ?_
    rw [decide_eq_false (by decide)]
    ((with_reducible refine e_gdT ?_)); ((with_reducible refine e_gdF2 ?_)); ((with_reducible refine e_gdF2 ?_)); ((with_reducible refine e_gdF2 ?_)); ((with_reducible refine e_gdT ?_)); (((with_reducible refine e_opN v_pickF Imp.nil ?_))); (((with_reducible refine e_opN v_pickF Imp.nil ?_))); ((with_reducible refine e_gdT ?_)); ((with_reducible refine e_gdT ?_))
    refine e_opN v_eql Imp.nil ?_
    rw [decide_eq_false (by decide)]
    ((with_reducible refine e_gdT ?_)); ((with_reducible refine e_gdF2 ?_)); ((with_reducible refine e_gdF2 ?_)); ((with_reducible refine e_gdF2 ?_)); ((with_reducible refine e_gdT ?_)); (((with_reducible refine e_opN v_pickF Imp.nil ?_))); (((with_reducible refine e_opN v_pickF Imp.nil ?_))); ((with_reducible refine e_condF ?_))
    (first | refine e_ret (()) rfl ?_ | refine e_retT (()) ?_)
    (repeat (first | exact Imp.refl | exact Imp.nil | (apply Imp.pick; (focus ((repeat constructor); done))) | refine Imp.drop ?_))
  · refine e_opN v_eql Imp.nil ?_
    rw [decide_eq_false (by decide)]
    ((with_reducible refine e_gdF2 ?_)); ((with_reducible refine e_gdF2 ?_)); ((with_reducible refine e_gdF2 ?_)); (((with_reducible refine e_opN v_pickF Imp.nil ?_))); ((with_reducible refine e_gdT ?_)); ((with_reducible refine e_gdT ?_))
    refine e_opN v_eql Imp.nil ?_
    rw [decide_eq_true (by decide)]
    ((with_reducible refine e_gdT ?_)); ((with_reducible refine e_gdT ?_)); ((with_reducible refine e_gdT ?_)); ((with_reducible refine e_gdT ?_))
    refine e_ask v_strne Imp.nil (fun h5 => ?_) (fun h5 => ?_)
    · rw [show smR 2 l x = none by rw [hsm]; exact if_neg fun c => h5 (by rw [← c.2]; rfl)]
      ((with_reducible refine e_gdT ?_)); (((with_reducible refine e_opN v_pickT Imp.nil ?_))); (((with_reducible refine e_opN v_pickF Imp.nil ?_))); ((with_reducible refine e_gdF1 ?_)); ((with_reducible refine e_gdF1 ?_)); ((with_reducible refine e_gdF1 ?_)); ((with_reducible refine e_gdU ?_)); ((with_reducible refine e_gdU ?_)); ((with_reducible refine e_gdU ?_)); ((with_reducible refine e_gdF1 ?_)); (((with_reducible refine e_opN v_pickT Imp.nil ?_))); ((with_reducible refine e_condT ?_))
      (first | refine e_ret (()) rfl ?_ | refine e_retT (()) ?_)
      (repeat (first | exact Imp.refl | exact Imp.nil | (apply Imp.pick; (focus ((repeat constructor); done))) | refine Imp.drop ?_))
    rw [show smR 2 l x = some (jN x) by rw [hsm]; exact if_pos ⟨ok, (Decidable.not_not.1 h5).symm⟩]
    ((with_reducible refine e_gdT ?_)); (((with_reducible refine e_opN v_pickT Imp.nil ?_))); (((with_reducible refine e_opN v_pickF Imp.nil ?_))); ((with_reducible refine e_gdT ?_)); ((with_reducible refine e_gdT ?_))
    refine e_opN v_eql Imp.nil ?_
    rw [decide_eq_false (by decide)]
    ((with_reducible refine e_gdT ?_)); ((with_reducible refine e_gdF2 ?_)); ((with_reducible refine e_gdF2 ?_)); ((with_reducible refine e_gdF2 ?_)); ((with_reducible refine e_gdT ?_)); (((with_reducible refine e_opN v_pickF Imp.nil ?_))); (((with_reducible refine e_opN v_pickF Imp.nil ?_))); ((with_reducible refine e_condF ?_))
    (first | refine e_ret (()) rfl ?_ | refine e_retT (()) ?_)
    (repeat (first | exact Imp.refl | exact Imp.nil | (apply Imp.pick; (focus ((repeat constructor); done))) | refine Imp.drop ?_))
  · refine e_opN v_eql Imp.nil ?_
    rw [decide_eq_false (by decide)]
    ((with_reducible refine e_gdF2 ?_)); ((with_reducible refine e_gdF2 ?_)); ((with_reducible refine e_gdF2 ?_)); (((with_reducible refine e_opN v_pickF Imp.nil ?_))); ((with_reducible refine e_gdT ?_)); ((with_reducible refine e_gdT ?_))
    refine e_opN v_eql Imp.nil ?_
    rw [decide_eq_false (by decide)]
    ((with_reducible refine e_gdT ?_)); ((with_reducible refine e_gdF2 ?_)); ((with_reducible refine e_gdF2 ?_)); ((with_reducible refine e_gdF2 ?_)); ((with_reducible refine e_gdT ?_)); (((with_reducible refine e_opN v_pickF Imp.nil ?_))); (((with_reducible refine e_opN v_pickF Imp.nil ?_))); ((with_reducible refine e_gdT ?_)); ((with_reducible refine e_gdT ?_))
    refine e_opN v_eql Imp.nil ?_
    rw [decide_eq_true (by decide)]
    ((with_reducible refine e_gdT ?_)); ((with_reducible refine e_gdT ?_)); ((with_reducible refine e_gdT ?_)); ((with_reducible refine e_gdT ?_))
    refine e_ask v_strne Imp.nil (fun h5 => ?_) (fun h5 => ?_)
    · rw [show smR 3 l x = none by rw [hsm]; exact if_neg fun c => h5 (by rw [← c.2]; rfl)]
      ((with_reducible refine e_gdT ?_)); (((with_reducible refine e_opN v_pickT Imp.nil ?_))); (((with_reducible refine e_opN v_pickF Imp.nil ?_))); ((with_reducible refine e_condT ?_))
      (first | refine e_ret (()) rfl ?_ | refine e_retT (()) ?_)
      (repeat (first | exact Imp.refl | exact Imp.nil | (apply Imp.pick; (focus ((repeat constructor); done))) | refine Imp.drop ?_))
    rw [show smR 3 l x = some (jN x) by rw [hsm]; exact if_pos ⟨ok, (Decidable.not_not.1 h5).symm⟩]
    ((with_reducible refine e_gdT ?_)); (((with_reducible refine e_opN v_pickT Imp.nil ?_))); (((with_reducible refine e_opN v_pickF Imp.nil ?_))); ((with_reducible refine e_condF ?_))
    (first | refine e_ret (()) rfl ?_ | refine e_retT (()) ?_)
    (repeat (first | exact Imp.refl | exact Imp.nil | (apply Imp.pick; (focus ((repeat constructor); done))) | refine Imp.drop ?_))
end Go.Proofs.YtcmpkkkigmheoaaGreatDoor.D
/-! The document's time of a text. No conditions but those that each names. -/
namespace Go.Proofs.YtcmpkkkigmheoaaGreatDoor.D
open Go Go.Proofs Go.RowKit Go.Proofs.YtcmpkkkigmheoaaGreatDoor.Sh Go.Proofs.YtcmpkkkigmheoaaGreatDoor.Sl Go.Proofs.YtcmpkkkigmheoaaGreatDoor.T
theorem cI_ne {l : List UInt8} {i : Nat} (h : i < cI l) : ∃ hi : i < l.length, l[i] ≠ 44 := by
  have hl := cI_le l
  refine ⟨by omega, fun c => ?_⟩
  have := List.not_of_lt_findIdx (p := fun x : UInt8 => x == 44) (xs := l ++ [44]) h
  rw [List.getElem_append_left (by omega), c] at this
  simp at this
theorem cI_at {l : List UInt8} (h : cI l < l.length) : l[cI l] = 44 := by
  have hlt : (l ++ [44]).findIdx (fun x : UInt8 => x == 44) < (l ++ [44]).length := by
    rw [List.length_append]
    show cI l < _
    omega
  have := List.findIdx_getElem (p := fun x : UInt8 => x == 44) (xs := l ++ [44]) (w := hlt)
  have e : (l ++ [44])[(l ++ [44]).findIdx (fun x : UInt8 => x == 44)] = l[cI l] := List.getElem_append_left h
  rw [e] at this
  simpa using this
def x1R (l : List UInt8) : Dt := rdR l 5 8 17 (dgR l 12 4)
def x2R (l : List UInt8) (now : Int) : Dt := rdR l ((cI l : Int) + 2) (cI l + 5) ((cI l : Int) + 12) (cyR (dgR l ((cI l : Int) + 9) 2) now)
def x3R (l : List UInt8) : Dt := if 9 < l.length ∧ l.getD 8 0 = 32 then { rdR l 8 4 11 (dgR l 20 4) with d := dgR l 9 1 } else rdR l 8 4 11 (dgR l 20 4)
def s2R (l : List UInt8) (now : Int) : Option Int := if 0 ≤ dgR l ((cI l : Int) + 9) 2 then smR 2 l (x2R l now) else none
def rpR (now : Int) (l : List UInt8) : Option Int := match smR 1 l (x1R l) with
  | some n => some n
  | none => match s2R l now with
    | some n => some n
    | none => smR 3 l (x3R l)
theorem rparse {W : World} {l : List UInt8} {now : Int} (hl : l.length ≤ 4611686018427300000) : Cn Tryz.prog 25 [txt l, .int .i64 now] W [] (fun _ : Unit => .tuple #[.int .i64 ((rpR now l).getD 0), .int .i64 (oE (rpR now l))]) (fun _ => []) := by
  have hc := cI_le l
  (refine S.ref09_Parse_cn fun F => ?_; unfold S.ref09_Parse; simp only [List.cons_append, List.nil_append])
  (refine' e_call (rdigits (l := l) (a := 12) 4 (by rfl) (by omega) (by omega)) ?hp fun _ => ?_; (case hp => (repeat (first | exact Picks.nil | (apply Picks.cons; (focus (repeat constructor)))))); (try simp only [List.cons_append, List.nil_append, Bool.not_true, Bool.not_false]))
  (refine' e_call (rread (l := l) (day := 5) (at_ := 17) (year := dgR l 12 4) 8 (by rfl) (by omega) (by omega) (by omega)) ?hp fun _ => ?_; (case hp => (repeat (first | exact Picks.nil | (apply Picks.cons; (focus (repeat constructor)))))); (try simp only [List.cons_append, List.nil_append, Bool.not_true, Bool.not_false]))
  rw [show rdR l 5 8 17 (dgR l 12 4) = x1R l from rfl]
  (refine' e_call (rsame (l := l) (x := x1R l) (f := 1) (.inl rfl)) ?hp fun _ => ?_; (case hp => (repeat (first | exact Picks.nil | (apply Picks.cons; (focus (repeat constructor)))))); (try simp only [List.cons_append, List.nil_append, Bool.not_true, Bool.not_false]))
  (((with_reducible refine' e_opN (v_extN ?hc) Imp.nil ?_); (case hc => (repeat (first | exact Nth.here | apply Nth.there))))); (((with_reducible refine' e_opN (v_extN ?hc) Imp.nil ?_); (case hc => (repeat (first | exact Nth.here | apply Nth.there)))))
  cases hs1 : smR 1 l (x1R l) with
  | some n =>
    have hr : rpR now l = some n := by unfold rpR; rw [hs1]
    rw [hr]
    refine e_opN v_eql Imp.nil ?_
    rw [show decide (oE (some n) = 0) = true from rfl]
    ((with_reducible refine e_condT ?_))
    (first | refine e_ret (()) rfl ?_ | refine e_retT (()) ?_)
    (repeat (first | exact Imp.refl | exact Imp.nil | (apply Imp.pick; (focus ((repeat constructor); done))) | refine Imp.drop ?_))
  | none =>
  refine e_opN v_eql Imp.nil ?_
  rw [show decide (oE (none : Option Int) = 0) = false from rfl]
  ((with_reducible refine e_condF ?_))
  refine e_loop1 (fun m y8 => (ex fun i : Nat => pu (m + i = cI l ∧ y8 = .int .i64 (i : Int))) :: F) (cI l) ?_ ?_
  · refine .ex 0 (.pu ⟨by omega, rfl⟩ ?_)
    (repeat (first | exact Imp.refl | exact Imp.nil | (apply Imp.pick; (focus ((repeat constructor); done))) | refine Imp.drop ?_))
  intro m ds y8
  (try simp only [List.cons_append, List.nil_append, -eq_self])
  refine e_ex Pick.here fun i => e_pu Pick.here fun hi => ?_
  obtain ⟨hmi, rfl⟩ := hi
  refine e_opN v_lent Imp.nil ?_
  by_cases hic : i < cI l
  · obtain ⟨hil, hne⟩ := cI_ne hic
    refine e_opN v_lss Imp.nil ?_
    rw [decide_eq_true (by omega)]
    ((with_reducible refine e_gdT ?_)); ((with_reducible refine e_gdT ?_)); ((with_reducible refine e_gdT ?_))
    refine e_opN (v_ixS i (by rfl) hil) Imp.nil ?_
    ((with_reducible refine e_gdT ?_))
    unfold Sl.B
    refine e_opN v_neq Imp.nil ?_
    have hne2 : ((l[i].toNat : Nat) : Int) ≠ 44 := fun c => hne (UInt8.toNat_inj.1 (Int.ofNat.inj c))
    rw [decide_eq_true hne2]
    (((with_reducible refine e_opN v_pickT Imp.nil ?_))); ((with_reducible refine e_condT ?_)); (((with_reducible refine e_opN (v_add ?h1 ?h2) Imp.nil ?_); (case h1 => omega); (case h2 => omega)))
    refine e_next1 (m - 1) (by omega) (.ex (i + 1) (.pu ⟨by omega, rfl⟩ ?_))
    (repeat (first | exact Imp.refl | exact Imp.nil | (apply Imp.pick; (focus ((repeat constructor); done))) | refine Imp.drop ?_))
  have hie : i = cI l := by omega
  subst hie
  by_cases hlt : cI l < l.length
  · have hat := cI_at hlt
    refine e_opN v_lss Imp.nil ?_
    rw [decide_eq_true (by omega)]
    ((with_reducible refine e_gdT ?_)); ((with_reducible refine e_gdT ?_)); ((with_reducible refine e_gdT ?_))
    refine e_opN (v_ixS (cI l) (by rfl) hlt) Imp.nil ?_
    ((with_reducible refine e_gdT ?_))
    unfold Sl.B
    refine e_opN v_neq Imp.nil ?_
    rw [decide_eq_false (p := ((l[cI l].toNat : Nat) : Int) ≠ 44) (fun c => c (by rw [hat]; rfl))]
    (((with_reducible refine e_opN v_pickT Imp.nil ?_))); ((with_reducible refine e_condF ?_)); (((with_reducible refine e_opN (v_add ?h1 ?h2) Imp.nil ?_); (case h1 => omega); (case h2 => omega)))
    (refine' e_call (rdigits (l := l) (a := (cI l : Int) + 9) 2 (by rfl) (by omega) (by omega)) ?hp fun _ => ?_; (case hp => (repeat (first | exact Picks.nil | (apply Picks.cons; (focus (repeat constructor)))))); (try simp only [List.cons_append, List.nil_append, Bool.not_true, Bool.not_false]))
    refine e_cut0 (pu (s2R l now = none) :: F) ?_ ?_
    rotate_left
    · refine e_ask v_geq Imp.nil (fun hg => ?_) (fun hg => ?_)
      · have hs2 : s2R l now = smR 2 l (x2R l now) := if_pos hg
        ((with_reducible refine e_condT ?_)); (((with_reducible refine e_opN (v_add ?h1 ?h2) Imp.nil ?_); (case h1 => omega); (case h2 => omega))); (((with_reducible refine e_opN (v_add ?h1 ?h2) Imp.nil ?_); (case h1 => omega); (case h2 => omega))); (((with_reducible refine e_opN (v_add ?h1 ?h2) Imp.nil ?_); (case h1 => omega); (case h2 => omega)))
        (refine' e_call (rcentury (two := dgR l ((cI l : Int) + 9) 2) (now := now)) ?hp fun _ => ?_; (case hp => (repeat (first | exact Picks.nil | (apply Picks.cons; (focus (repeat constructor)))))); (try simp only [List.cons_append, List.nil_append, Bool.not_true, Bool.not_false]))
        (refine' e_call (rread (l := l) (day := (cI l : Int) + 2) (at_ := (cI l : Int) + 12) (year := cyR (dgR l ((cI l : Int) + 9) 2) now) (cI l + 5) (by omega) (by omega) (by omega) (by omega)) ?hp fun _ => ?_; (case hp => (repeat (first | exact Picks.nil | (apply Picks.cons; (focus (repeat constructor)))))); (try simp only [List.cons_append, List.nil_append, Bool.not_true, Bool.not_false]))
        rw [show rdR l ((cI l : Int) + 2) (cI l + 5) ((cI l : Int) + 12) (cyR (dgR l ((cI l : Int) + 9) 2) now) = x2R l now from rfl]
        (refine' e_call (rsame (l := l) (x := x2R l now) (f := 2) (.inr (.inl rfl))) ?hp fun _ => ?_; (case hp => (repeat (first | exact Picks.nil | (apply Picks.cons; (focus (repeat constructor)))))); (try simp only [List.cons_append, List.nil_append, Bool.not_true, Bool.not_false]))
        (((with_reducible refine' e_opN (v_extN ?hc) Imp.nil ?_); (case hc => (repeat (first | exact Nth.here | apply Nth.there))))); (((with_reducible refine' e_opN (v_extN ?hc) Imp.nil ?_); (case hc => (repeat (first | exact Nth.here | apply Nth.there)))))
        cases hs : smR 2 l (x2R l now) with
        | some n =>
          have hr : rpR now l = some n := by unfold rpR; rw [hs1, hs2, hs]
          rw [hr]
          refine e_opN v_eql Imp.nil ?_
          rw [show decide (oE (some n) = 0) = true from rfl]
          ((with_reducible refine e_condT ?_))
          (first | refine e_ret (()) rfl ?_ | refine e_retT (()) ?_)
          (repeat (first | exact Imp.refl | exact Imp.nil | (apply Imp.pick; (focus ((repeat constructor); done))) | refine Imp.drop ?_))
        | none =>
          refine e_opN v_eql Imp.nil ?_
          rw [show decide (oE (none : Option Int) = 0) = false from rfl]
          ((with_reducible refine e_condF ?_))
          refine e_sat (.pu (by rw [hs2, hs]) ?_)
          (repeat (first | exact Imp.refl | exact Imp.nil | (apply Imp.pick; (focus ((repeat constructor); done))) | refine Imp.drop ?_))
      · ((with_reducible refine e_condF ?_))
        refine e_sat (.pu (if_neg hg) ?_)
        (repeat (first | exact Imp.refl | exact Imp.nil | (apply Imp.pick; (focus ((repeat constructor); done))) | refine Imp.drop ?_))
    intro ds2
    (try simp only [List.cons_append, List.nil_append, -eq_self])
    refine e_pu .here fun hs2 => ?_
    have hr : rpR now l = smR 3 l (x3R l) := by unfold rpR; rw [hs1, hs2]
    rw [hr]
    (refine' e_call (rdigits (l := l) (a := 20) 4 (by rfl) (by omega) (by omega)) ?hp fun _ => ?_; (case hp => (repeat (first | exact Picks.nil | (apply Picks.cons; (focus (repeat constructor)))))); (try simp only [List.cons_append, List.nil_append, Bool.not_true, Bool.not_false]))
    (refine' e_call (rread (l := l) (day := 8) (at_ := 11) (year := dgR l 20 4) 4 (by rfl) (by omega) (by omega) (by omega)) ?hp fun _ => ?_; (case hp => (repeat (first | exact Picks.nil | (apply Picks.cons; (focus (repeat constructor)))))); (try simp only [List.cons_append, List.nil_append, Bool.not_true, Bool.not_false]))
    have hx3 : x3R l = if 9 < l.length ∧ l.getD 8 0 = 32 then { rdR l 8 4 11 (dgR l 20 4) with d := dgR l 9 1 } else rdR l 8 4 11 (dgR l 20 4) := rfl
    generalize rdR l 8 4 11 (dgR l 20 4) = y3 at hx3 ⊢
    rw [show (Value.agg (dtA y3)) = .agg #[.int .i64 y3.y, .int .i64 y3.m, .int .i64 y3.d, .int .i64 y3.h, .int .i64 y3.mi, .int .i64 y3.s, .int .i64 y3.w] from rfl]
    (((with_reducible refine e_newA fun g => ?_))); (((with_reducible refine' e_stAgg ?hp ?hn ?hv ?h1 ?_); (case hp => (repeat constructor)); (case hn => rfl); (case hv => rfl); (case h1 => simp [Value.oneCell'])))
    rename Nat => b10
    refine e_cut0 (pt b10 (.cells (dtA (x3R l)) 84) :: F) ?_ ?_
    rotate_left
    · refine e_opN v_lent Imp.nil ?_
      refine e_ask v_gtr Imp.nil (fun h9 => ?_) (fun h9 => ?_)
      · have h8 : 8 < l.length := by omega
        have hg8 : l.getD 8 0 = l[8] := by simp [List.getD_eq_getElem?_getD, h8]
        ((with_reducible refine e_gdT ?_)); ((with_reducible refine e_gdT ?_))
        refine e_opN (v_ixS 8 (by rfl) h8) Imp.nil ?_
        unfold Sl.B
        ((with_reducible refine e_gdT ?_))
        refine e_ask v_eql Imp.nil (fun h5 => ?_) (fun h5 => ?_)
        · have hc8 : l[8] = 32 := UInt8.toNat_inj.1 (Int.ofNat.inj h5)
          rw [show x3R l = { y3 with d := dgR l 9 1 } by rw [hx3]; exact if_pos ⟨by omega, by rw [hg8, hc8]⟩]
          (((with_reducible refine e_opN v_pickT Imp.nil ?_))); ((with_reducible refine e_condT ?_))
          (refine' e_call (rdigits (l := l) (a := 9) 1 (by rfl) (by omega) (by omega)) ?hp fun _ => ?_; (case hp => (repeat (first | exact Picks.nil | (apply Picks.cons; (focus (repeat constructor)))))); (try simp only [List.cons_append, List.nil_append, Bool.not_true, Bool.not_false]))
          (((with_reducible refine e_opN v_fa0 Imp.nil ?_))); (((with_reducible refine' e_stN ?hp ?ho ?_); (case hp => (repeat constructor)); (case ho => (repeat (first | exact Put.here | apply Put.there)))))
          refine e_sat ?_
          unfold dtA
          (repeat (first | exact Imp.refl | exact Imp.nil | (apply Imp.pick; (focus ((repeat constructor); done))) | refine Imp.drop ?_))
        · rw [show x3R l = y3 by rw [hx3]; exact if_neg fun c => h5 (by rw [hg8] at c; rw [c.2]; rfl)]
          (((with_reducible refine e_opN v_pickT Imp.nil ?_))); ((with_reducible refine e_condF ?_))
          refine e_sat ?_
          unfold dtA
          (repeat (first | exact Imp.refl | exact Imp.nil | (apply Imp.pick; (focus ((repeat constructor); done))) | refine Imp.drop ?_))
      · rw [show x3R l = y3 by rw [hx3]; exact if_neg fun c => h9 (by omega)]
        ((with_reducible refine e_gdF2 ?_)); ((with_reducible refine e_gdF2 ?_)); ((with_reducible refine e_gdF2 ?_)); (((with_reducible refine e_opN v_pickF Imp.nil ?_))); ((with_reducible refine e_condF ?_))
        refine e_sat ?_
        unfold dtA
        (repeat (first | exact Imp.refl | exact Imp.nil | (apply Imp.pick; (focus ((repeat constructor); done))) | refine Imp.drop ?_))
    intro ds3
    (try simp only [List.cons_append, List.nil_append, -eq_self])
    rw [show dtA (x3R l) = #[.int .i64 (x3R l).y, .int .i64 (x3R l).m, .int .i64 (x3R l).d, .int .i64 (x3R l).h, .int .i64 (x3R l).mi, .int .i64 (x3R l).s, .int .i64 (x3R l).w] from rfl]
    (((with_reducible refine' e_opN (v_ldAgg ?hn) ?hi ?_); (case hi => (repeat (first | exact Imp.refl | exact Imp.nil | (apply Imp.pick; (focus ((repeat constructor); done))) | refine Imp.drop ?_))); (case hn => rfl)))
    (refine' e_call (rsame (l := l) (x := x3R l) (f := 3) (.inr (.inr rfl))) ?hp fun _ => ?_; (case hp => (repeat (first | exact Picks.nil | (apply Picks.cons; (focus (repeat constructor)))))); (try simp only [List.cons_append, List.nil_append, Bool.not_true, Bool.not_false]))
    (((with_reducible refine' e_opN (v_extN ?hc) Imp.nil ?_); (case hc => (repeat (first | exact Nth.here | apply Nth.there))))); (((with_reducible refine' e_opN (v_extN ?hc) Imp.nil ?_); (case hc => (repeat (first | exact Nth.here | apply Nth.there)))))
    (first | refine e_ret (()) rfl ?_ | refine e_retT (()) ?_)
    (repeat (first | exact Imp.refl | exact Imp.nil | (apply Imp.pick; (focus ((repeat constructor); done))) | refine Imp.drop ?_))
  · refine e_opN v_lss Imp.nil ?_
    rw [decide_eq_false (by omega)]
    ((with_reducible refine e_gdF2 ?_)); ((with_reducible refine e_gdF2 ?_)); ((with_reducible refine e_gdF2 ?_)); ((with_reducible refine e_gdF2 ?_)); (((with_reducible refine e_opN v_pickF Imp.nil ?_))); ((with_reducible refine e_condF ?_)); (((with_reducible refine e_opN (v_add ?h1 ?h2) Imp.nil ?_); (case h1 => omega); (case h2 => omega)))
    (refine' e_call (rdigits (l := l) (a := (cI l : Int) + 9) 2 (by rfl) (by omega) (by omega)) ?hp fun _ => ?_; (case hp => (repeat (first | exact Picks.nil | (apply Picks.cons; (focus (repeat constructor)))))); (try simp only [List.cons_append, List.nil_append, Bool.not_true, Bool.not_false]))
    refine e_cut0 (pu (s2R l now = none) :: F) ?_ ?_
    rotate_left
    · refine e_ask v_geq Imp.nil (fun hg => ?_) (fun hg => ?_)
      · have hs2 : s2R l now = smR 2 l (x2R l now) := if_pos hg
        ((with_reducible refine e_condT ?_)); (((with_reducible refine e_opN (v_add ?h1 ?h2) Imp.nil ?_); (case h1 => omega); (case h2 => omega))); (((with_reducible refine e_opN (v_add ?h1 ?h2) Imp.nil ?_); (case h1 => omega); (case h2 => omega))); (((with_reducible refine e_opN (v_add ?h1 ?h2) Imp.nil ?_); (case h1 => omega); (case h2 => omega)))
        (refine' e_call (rcentury (two := dgR l ((cI l : Int) + 9) 2) (now := now)) ?hp fun _ => ?_; (case hp => (repeat (first | exact Picks.nil | (apply Picks.cons; (focus (repeat constructor)))))); (try simp only [List.cons_append, List.nil_append, Bool.not_true, Bool.not_false]))
        (refine' e_call (rread (l := l) (day := (cI l : Int) + 2) (at_ := (cI l : Int) + 12) (year := cyR (dgR l ((cI l : Int) + 9) 2) now) (cI l + 5) (by omega) (by omega) (by omega) (by omega)) ?hp fun _ => ?_; (case hp => (repeat (first | exact Picks.nil | (apply Picks.cons; (focus (repeat constructor)))))); (try simp only [List.cons_append, List.nil_append, Bool.not_true, Bool.not_false]))
        rw [show rdR l ((cI l : Int) + 2) (cI l + 5) ((cI l : Int) + 12) (cyR (dgR l ((cI l : Int) + 9) 2) now) = x2R l now from rfl]
        (refine' e_call (rsame (l := l) (x := x2R l now) (f := 2) (.inr (.inl rfl))) ?hp fun _ => ?_; (case hp => (repeat (first | exact Picks.nil | (apply Picks.cons; (focus (repeat constructor)))))); (try simp only [List.cons_append, List.nil_append, Bool.not_true, Bool.not_false]))
        (((with_reducible refine' e_opN (v_extN ?hc) Imp.nil ?_); (case hc => (repeat (first | exact Nth.here | apply Nth.there))))); (((with_reducible refine' e_opN (v_extN ?hc) Imp.nil ?_); (case hc => (repeat (first | exact Nth.here | apply Nth.there)))))
        cases hs : smR 2 l (x2R l now) with
        | some n =>
          have hr : rpR now l = some n := by unfold rpR; rw [hs1, hs2, hs]
          rw [hr]
          refine e_opN v_eql Imp.nil ?_
          rw [show decide (oE (some n) = 0) = true from rfl]
          ((with_reducible refine e_condT ?_))
          (first | refine e_ret (()) rfl ?_ | refine e_retT (()) ?_)
          (repeat (first | exact Imp.refl | exact Imp.nil | (apply Imp.pick; (focus ((repeat constructor); done))) | refine Imp.drop ?_))
        | none =>
          refine e_opN v_eql Imp.nil ?_
          rw [show decide (oE (none : Option Int) = 0) = false from rfl]
          ((with_reducible refine e_condF ?_))
          refine e_sat (.pu (by rw [hs2, hs]) ?_)
          (repeat (first | exact Imp.refl | exact Imp.nil | (apply Imp.pick; (focus ((repeat constructor); done))) | refine Imp.drop ?_))
      · ((with_reducible refine e_condF ?_))
        refine e_sat (.pu (if_neg hg) ?_)
        (repeat (first | exact Imp.refl | exact Imp.nil | (apply Imp.pick; (focus ((repeat constructor); done))) | refine Imp.drop ?_))
    intro ds2
    (try simp only [List.cons_append, List.nil_append, -eq_self])
    refine e_pu .here fun hs2 => ?_
    have hr : rpR now l = smR 3 l (x3R l) := by unfold rpR; rw [hs1, hs2]
    rw [hr]
    (refine' e_call (rdigits (l := l) (a := 20) 4 (by rfl) (by omega) (by omega)) ?hp fun _ => ?_; (case hp => (repeat (first | exact Picks.nil | (apply Picks.cons; (focus (repeat constructor)))))); (try simp only [List.cons_append, List.nil_append, Bool.not_true, Bool.not_false]))
    (refine' e_call (rread (l := l) (day := 8) (at_ := 11) (year := dgR l 20 4) 4 (by rfl) (by omega) (by omega) (by omega)) ?hp fun _ => ?_; (case hp => (repeat (first | exact Picks.nil | (apply Picks.cons; (focus (repeat constructor)))))); (try simp only [List.cons_append, List.nil_append, Bool.not_true, Bool.not_false]))
    have hx3 : x3R l = if 9 < l.length ∧ l.getD 8 0 = 32 then { rdR l 8 4 11 (dgR l 20 4) with d := dgR l 9 1 } else rdR l 8 4 11 (dgR l 20 4) := rfl
    generalize rdR l 8 4 11 (dgR l 20 4) = y3 at hx3 ⊢
    rw [show (Value.agg (dtA y3)) = .agg #[.int .i64 y3.y, .int .i64 y3.m, .int .i64 y3.d, .int .i64 y3.h, .int .i64 y3.mi, .int .i64 y3.s, .int .i64 y3.w] from rfl]
    (((with_reducible refine e_newA fun g => ?_))); (((with_reducible refine' e_stAgg ?hp ?hn ?hv ?h1 ?_); (case hp => (repeat constructor)); (case hn => rfl); (case hv => rfl); (case h1 => simp [Value.oneCell'])))
    rename Nat => b10
    refine e_cut0 (pt b10 (.cells (dtA (x3R l)) 84) :: F) ?_ ?_
    rotate_left
    · refine e_opN v_lent Imp.nil ?_
      refine e_ask v_gtr Imp.nil (fun h9 => ?_) (fun h9 => ?_)
      · have h8 : 8 < l.length := by omega
        have hg8 : l.getD 8 0 = l[8] := by simp [List.getD_eq_getElem?_getD, h8]
        ((with_reducible refine e_gdT ?_)); ((with_reducible refine e_gdT ?_))
        refine e_opN (v_ixS 8 (by rfl) h8) Imp.nil ?_
        unfold Sl.B
        ((with_reducible refine e_gdT ?_))
        refine e_ask v_eql Imp.nil (fun h5 => ?_) (fun h5 => ?_)
        · have hc8 : l[8] = 32 := UInt8.toNat_inj.1 (Int.ofNat.inj h5)
          rw [show x3R l = { y3 with d := dgR l 9 1 } by rw [hx3]; exact if_pos ⟨by omega, by rw [hg8, hc8]⟩]
          (((with_reducible refine e_opN v_pickT Imp.nil ?_))); ((with_reducible refine e_condT ?_))
          (refine' e_call (rdigits (l := l) (a := 9) 1 (by rfl) (by omega) (by omega)) ?hp fun _ => ?_; (case hp => (repeat (first | exact Picks.nil | (apply Picks.cons; (focus (repeat constructor)))))); (try simp only [List.cons_append, List.nil_append, Bool.not_true, Bool.not_false]))
          (((with_reducible refine e_opN v_fa0 Imp.nil ?_))); (((with_reducible refine' e_stN ?hp ?ho ?_); (case hp => (repeat constructor)); (case ho => (repeat (first | exact Put.here | apply Put.there)))))
          refine e_sat ?_
          unfold dtA
          (repeat (first | exact Imp.refl | exact Imp.nil | (apply Imp.pick; (focus ((repeat constructor); done))) | refine Imp.drop ?_))
        · rw [show x3R l = y3 by rw [hx3]; exact if_neg fun c => h5 (by rw [hg8] at c; rw [c.2]; rfl)]
          (((with_reducible refine e_opN v_pickT Imp.nil ?_))); ((with_reducible refine e_condF ?_))
          refine e_sat ?_
          unfold dtA
          (repeat (first | exact Imp.refl | exact Imp.nil | (apply Imp.pick; (focus ((repeat constructor); done))) | refine Imp.drop ?_))
      · rw [show x3R l = y3 by rw [hx3]; exact if_neg fun c => h9 (by omega)]
        ((with_reducible refine e_gdF2 ?_)); ((with_reducible refine e_gdF2 ?_)); ((with_reducible refine e_gdF2 ?_)); (((with_reducible refine e_opN v_pickF Imp.nil ?_))); ((with_reducible refine e_condF ?_))
        refine e_sat ?_
        unfold dtA
        (repeat (first | exact Imp.refl | exact Imp.nil | (apply Imp.pick; (focus ((repeat constructor); done))) | refine Imp.drop ?_))
    intro ds3
    (try simp only [List.cons_append, List.nil_append, -eq_self])
    rw [show dtA (x3R l) = #[.int .i64 (x3R l).y, .int .i64 (x3R l).m, .int .i64 (x3R l).d, .int .i64 (x3R l).h, .int .i64 (x3R l).mi, .int .i64 (x3R l).s, .int .i64 (x3R l).w] from rfl]
    (((with_reducible refine' e_opN (v_ldAgg ?hn) ?hi ?_); (case hi => (repeat (first | exact Imp.refl | exact Imp.nil | (apply Imp.pick; (focus ((repeat constructor); done))) | refine Imp.drop ?_))); (case hn => rfl)))
    (refine' e_call (rsame (l := l) (x := x3R l) (f := 3) (.inr (.inr rfl))) ?hp fun _ => ?_; (case hp => (repeat (first | exact Picks.nil | (apply Picks.cons; (focus (repeat constructor)))))); (try simp only [List.cons_append, List.nil_append, Bool.not_true, Bool.not_false]))
    (((with_reducible refine' e_opN (v_extN ?hc) Imp.nil ?_); (case hc => (repeat (first | exact Nth.here | apply Nth.there))))); (((with_reducible refine' e_opN (v_extN ?hc) Imp.nil ?_); (case hc => (repeat (first | exact Nth.here | apply Nth.there)))))
    (first | refine e_ret (()) rfl ?_ | refine e_retT (()) ?_)
    (repeat (first | exact Imp.refl | exact Imp.nil | (apply Imp.pick; (focus ((repeat constructor); done))) | refine Imp.drop ?_))
end Go.Proofs.YtcmpkkkigmheoaaGreatDoor.D
/-! Both sides answer just what a text says, plain. No program in sight. No conditions but those that each names. -/
namespace Go.Proofs.YtcmpkkkigmheoaaGreatDoor.D
open Go Go.Proofs Go.RowKit Go.Proofs.YtcmpkkkigmheoaaGreatDoor.Sh Go.Proofs.YtcmpkkkigmheoaaGreatDoor.Sl Go.Proofs.YtcmpkkkigmheoaaGreatDoor.T
theorem back_x {x : Dt} (h : okF x) : spD (jN x) = ⟨x.y, x.m, x.d, x.h, x.mi, x.s, (jN x / 86400 + 4) % 7⟩ := by
  have ok := jN_ok h
  have hr := (rOk_iff x).1 h
  have hj : jN x = dayN x.y x.m x.d * 86400 + x.h * 3600 + x.mi * 60 + x.s := if_pos h
  unfold rOk at hr
  obtain ⟨h1, h2, h3, h4, h5, h6⟩ := hr
  have hml := ml_b x.y x.m
  have hb := dayN_b (y := x.y) (m := x.m) (d := x.d) h1 h2 (by omega)
  have hN : jN x / 86400 = dayN x.y x.m x.d := by rw [hj]; omega
  have hd := day1 x.y x.m x.d
  obtain ⟨e1, e2⟩ := uniq (n := dayN x.y x.m x.d) (y := x.y) (m := x.m) hb.1 h2 (by omega) (by omega)
  obtain ⟨_, _, e3, _, _⟩ := day_in hb.1
  rw [e1, e2] at e3
  have e4 : cD (dayN x.y x.m x.d) = x.d := by omega
  rw [sp_eq ok, hN, e1, e2, e4]
  rw [show jN x % 86400 / 3600 = x.h by rw [hj]; omega, show jN x % 3600 / 60 = x.mi by rw [hj]; omega, show jN x % 60 = x.s by rw [hj]; omega]
theorem try_some {k now n : Int} {l : List UInt8} {rd : List UInt8 → Option Dt} (h : tryR k now l rd = some n) : okT n ∧ fm k (spD n) = l ∧ ∃ x, rd l = some x ∧ okF x ∧ n = jN x := by
  unfold tryR at h
  cases hr : rd l with
  | none => rw [hr] at h; cases h
  | some x =>
    rw [hr] at h
    simp only at h
    split at h
    · rename_i hc
      have := Option.some.inj h
      subst this
      exact ⟨jN_ok hc.1, hc.2, x, rfl, hc.1, rfl⟩
    · cases h
theorem second_y {now : Int} {l : List UInt8} {x : Dt} (h : secondR now l = some x) : ∃ two : Nat, two < 100 ∧ x.y = secY now two := by
  unfold secondR at h
  simp only [Option.bind_eq_some_iff] at h
  obtain ⟨a, _, b, _, c, _, d, _, e, _, f, hf, g, _, i, _, hx⟩ := h
  have := Option.some.inj hx
  subst this
  exact ⟨f.1, num_lt hf, rfl⟩
theorem secY_self {now : Int} {two : Nat} (h : two < 100) (hy : 0 ≤ secY now two) : secY now (secY now two % 100).toNat = secY now two := by
  have ht := yN_b now
  have htop : 0 ≤ topY now ∧ topY now ≤ 9999 := by unfold topY; split <;> omega
  have e : secY now two % 100 = (two : Int) := by
    unfold secY
    generalize topY now = t at htop ⊢
    omega
  rw [e, Int.toNat_natCast]
/-- the second form, taken: its year is the one that is picked -/
theorem try1_some {now n : Int} {l : List UInt8} (h : tryR 1 now l (secondR now) = some n) : okT n ∧ fm 1 (spD n) = l ∧ secY now ((spD n).y % 100).toNat = (spD n).y := by
  obtain ⟨h1, h2, x, h3, h4, rfl⟩ := try_some h
  refine ⟨h1, h2, ?_⟩
  obtain ⟨two, ht, hy⟩ := second_y h3
  have hsy : (spD (jN x)).y = x.y := by rw [back_x h4]
  have h0 := (ok_sp h1).y
  rw [hsy] at h0 ⊢
  rw [hy] at h0 ⊢
  exact secY_self ht h0.1
/-- the text says the time n -/
def PT (now : Int) (l : List UInt8) (n : Int) : Prop := okT n ∧ (fm 0 (spD n) = l ∨ (fm 1 (spD n) = l ∧ secY now ((spD n).y % 100).toNat = (spD n).y) ∨ fm 2 (spD n) = l)
theorem pt_par {now n : Int} {l : List UInt8} (h : PT now l n) : paR now l = some n := by
  obtain ⟨ok, h | ⟨h, hs⟩ | h⟩ := h
  · rw [← h]; exact par_first ok
  · rw [← h]; exact par_second ok hs
  · rw [← h]; exact par_third ok
theorem par_pt {now n : Int} {l : List UInt8} (h : paR now l = some n) : PT now l n := by
  unfold paR paF at h
  cases h0 : tryR ((0 : Nat) : Int) now l (rdK now 0) with
  | some m =>
    rw [h0] at h
    have := Option.some.inj h
    subst this
    obtain ⟨a, b, _⟩ := try_some h0
    exact ⟨a, .inl b⟩
  | none =>
    rw [h0] at h
    simp only at h
    unfold paF at h
    cases h1 : tryR ((0 + 1 : Nat) : Int) now l (rdK now (0 + 1)) with
    | some m =>
      rw [h1] at h
      have := Option.some.inj h
      subst this
      obtain ⟨a, b, c⟩ := try1_some (show tryR 1 now l (secondR now) = some m from h1)
      exact ⟨a, .inr (.inl ⟨b, c⟩)⟩
    | none =>
      rw [h1] at h
      simp only at h
      unfold paF at h
      cases h2 : tryR ((0 + 1 + 1 : Nat) : Int) now l (rdK now (0 + 1 + 1)) with
      | some m =>
        rw [h2] at h
        have := Option.some.inj h
        subst this
        obtain ⟨a, b, _⟩ := try_some h2
        exact ⟨a, .inr (.inr b)⟩
      | none =>
        rw [h2] at h
        simp only at h
        unfold paF at h
        cases h
theorem sm_some {f n : Int} {l : List UInt8} {x : Dt} (h : smR f l x = some n) : okF x ∧ n = jN x ∧ okT n ∧ fm (f - 1) (spD n) = l := by
  unfold smR at h
  split at h
  · rename_i hc
    have := Option.some.inj h
    subst this
    exact ⟨hc.1, rfl, jN_ok hc.1, hc.2⟩
  · cases h
theorem ceN_spec {two : Int} : ∀ (m : Nat) (t y : Int), ceN two t m = y → 0 ≤ y → y ≤ t ∧ t - y < 100 ∧ y % 100 = two
  | 0, t, y, h, h0 => by
    have : (-1 : Int) = y := h
    omega
  | m + 1, t, y, h, h0 => by
    unfold ceN at h
    by_cases c : t % 100 = two
    · rw [if_pos c] at h; subst h; omega
    · rw [if_neg c] at h
      have := ceN_spec m (t - 1) y h h0
      omega
theorem cy_year {now two y : Int} (h : cyR two now = y) (hy : 1970 ≤ y) : secY now (y % 100).toNat = y := by
  obtain ⟨a, b, c⟩ := ceN_spec _ _ _ (show ceN two (topY now) (topY now - 1969).toNat = y from h) (by omega)
  unfold secY
  rw [Int.toNat_of_nonneg (by omega)]
  generalize topY now = t at a b ⊢
  omega
theorem rp_pt {now n : Int} {l : List UInt8} (h : rpR now l = some n) : PT now l n := by
  unfold rpR at h
  cases h1 : smR 1 l (x1R l) with
  | some m =>
    rw [h1] at h
    have := Option.some.inj h
    subst this
    obtain ⟨_, _, a, b⟩ := sm_some h1
    exact ⟨a, .inl b⟩
  | none =>
    rw [h1] at h
    simp only at h
    cases h2 : s2R l now with
    | some m =>
      rw [h2] at h
      have := Option.some.inj h
      subst this
      unfold s2R at h2
      split at h2
      · obtain ⟨c, d, a, b⟩ := sm_some h2
        have hy : cyR (dgR l ((cI l : Int) + 9) 2) now = (x2R l now).y := rfl
        have hsy : (spD m).y = (x2R l now).y := by rw [d, back_x c]
        have h70 : 1970 ≤ (x2R l now).y := by unfold okF at c; exact c.1.1
        exact ⟨a, .inr (.inl ⟨b, by rw [hsy]; exact cy_year hy h70⟩)⟩
      · cases h2
    | none =>
      rw [h2] at h
      simp only at h
      obtain ⟨_, _, a, b⟩ := sm_some h
      exact ⟨a, .inr (.inr b)⟩
theorem n20 : ∀ n : Fin 100, numF 0 (dg n.1 2 48) = some n.1 := by decide
theorem n40 {n : Nat} (h : n < 10000) : numF 0 (dg n 4 48) = some n := by
  rw [dg4]
  have b : ∀ q : Nat, (UInt8.ofNat (48 + q % 10)).toNat = 48 + q % 10 := fun q => u8_of _ (by omega)
  rw [numF_c, b, if_neg (by omega), numF_c, b, if_neg (by omega), numF_c, b, if_neg (by omega), numF_c, b, if_neg (by omega)]
  unfold numF
  congr 1
  omega
theorem at_dg {l a b : List UInt8} {n k : Nat} {p : Int} (e : l = a ++ (dg n k 48 ++ b)) (hp : p = (a.length : Int)) (h : numF 0 (dg n k 48) = some n) : dgR l p k = (n : Int) := by
  subst hp; subst e
  unfold dgR
  rw [if_neg (by simp only [List.length_append, dg_len]; omega), Int.toNat_natCast, List.drop_left' rfl, List.take_left' (dg_len _ _ _), h]
theorem at_mo {l a b : List UInt8} {x : Dt} {p : Nat} (e : l = a ++ (moN x ++ b)) (hp : p = a.length) (hm : 1 ≤ x.m ∧ x.m ≤ 12) : moR l p = x.m := by
  subst hp; subst e
  unfold moR
  have hv := mv ⟨(x.m - 1).toNat, by omega⟩
  have e2 : monV (moN x) = some x.m := by
    unfold moN
    rw [hv]
    congr 1
    simp only
    omega
  rw [if_pos (by simp only [List.length_append, mo_len hm]; omega), List.drop_left' rfl, List.take_left' (mo_len hm), e2]
theorem sm_app {k n : Int} (h : okT n) : smR (k + 1) (fm k (spD n)) (noW (spD n)) = some n := by
  obtain ⟨h1, h2⟩ := sp_back h
  unfold smR
  rw [(noW_f _).2, h2, show k + 1 - 1 = k by omega, if_pos ⟨(noW_f _).1.2 h1, rfl⟩]
theorem x1_app {x : Dt} (h : okX x) : x1R (fm 0 x) = noW x := by
  have ok := h
  obtain ⟨o1, o2, o3, o4, o5, o6, o7⟩ := h
  obtain ⟨w3, _, _⟩ := wd_len o7
  have hm := mo_len o2
  have e : fm 0 x = (wdN x).take 3 ++ [44, 32] ++ dg x.d.toNat 2 48 ++ [32] ++ moN x ++ [32] ++ dg x.y.toNat 4 48 ++ [32] ++ (dg x.h.toNat 2 48 ++ [58] ++ dg x.mi.toNat 2 48 ++ [58] ++ dg x.s.toNat 2 48) ++ [32, 71, 77, 84] := if_pos rfl
  have l3 : ((wdN x).take 3).length = 3 := w3
  have a1 : dgR (fm 0 x) 5 2 = (x.d.toNat : Int) := at_dg (a := (wdN x).take 3 ++ [44, 32]) (by rw [e]; simp only [List.append_assoc]; rfl) (by simp only [List.length_append, l3, List.length_cons, List.length_nil]; rfl) (n20 ⟨x.d.toNat, by omega⟩)
  have a2 : moR (fm 0 x) 8 = x.m := at_mo (a := (wdN x).take 3 ++ [44, 32] ++ dg x.d.toNat 2 48 ++ [32]) (by rw [e]; simp only [List.append_assoc]; rfl) (by simp only [List.length_append, l3, dg_len, List.length_cons, List.length_nil]) o2
  have a3 : dgR (fm 0 x) 12 4 = (x.y.toNat : Int) := at_dg (a := (wdN x).take 3 ++ [44, 32] ++ dg x.d.toNat 2 48 ++ [32] ++ moN x ++ [32]) (by rw [e]; simp only [List.append_assoc]; rfl) (by simp only [List.length_append, l3, hm, dg_len, List.length_cons, List.length_nil]; rfl) (n40 (by omega))
  have a4 : dgR (fm 0 x) 17 2 = (x.h.toNat : Int) := at_dg (a := (wdN x).take 3 ++ [44, 32] ++ dg x.d.toNat 2 48 ++ [32] ++ moN x ++ [32] ++ dg x.y.toNat 4 48 ++ [32]) (by rw [e]; simp only [List.append_assoc]; rfl) (by simp only [List.length_append, l3, hm, dg_len, List.length_cons, List.length_nil]; rfl) (n20 ⟨x.h.toNat, by omega⟩)
  have a5 : dgR (fm 0 x) (17 + 3) 2 = (x.mi.toNat : Int) := at_dg (a := (wdN x).take 3 ++ [44, 32] ++ dg x.d.toNat 2 48 ++ [32] ++ moN x ++ [32] ++ dg x.y.toNat 4 48 ++ [32] ++ (dg x.h.toNat 2 48 ++ [58])) (by rw [e]; simp only [List.append_assoc]; rfl) (by simp only [List.length_append, l3, hm, dg_len, List.length_cons, List.length_nil]; rfl) (n20 ⟨x.mi.toNat, by omega⟩)
  have a6 : dgR (fm 0 x) (17 + 6) 2 = (x.s.toNat : Int) := at_dg (a := (wdN x).take 3 ++ [44, 32] ++ dg x.d.toNat 2 48 ++ [32] ++ moN x ++ [32] ++ dg x.y.toNat 4 48 ++ [32] ++ (dg x.h.toNat 2 48 ++ [58] ++ dg x.mi.toNat 2 48 ++ [58])) (by rw [e]; simp only [List.append_assoc]; rfl) (by simp only [List.length_append, l3, hm, dg_len, List.length_cons, List.length_nil]; rfl) (n20 ⟨x.s.toNat, by omega⟩)
  unfold x1R rdR
  rw [a1, a2, a3, a4, a5, a6]
  exact noW_eq ok
theorem cI_fm1 {x : Dt} (h : okX x) : cI (fm 1 x) = (wdN x).length := by
  have e : fm 1 x = wdN x ++ 44 :: (32 :: (dg x.d.toNat 2 48 ++ ([45] ++ (moN x ++ ([45] ++ (dg (x.y % 100).toNat 2 48 ++ ([32] ++ (clk x ++ [32, 71, 77, 84])))))))) := by
    unfold fm
    rw [if_neg (by decide), if_pos rfl]
    simp only [List.append_assoc, List.cons_append, List.nil_append]
  unfold cI
  rw [e, List.append_assoc, List.cons_append]
  exact fi_app (wdN x) _ (wd_no h.w)
theorem ce_find {two : Int} : ∀ (m : Nat) (t y : Int), y ≤ t → t - y < 100 → y % 100 = two → t - y < m → ceN two t m = y
  | 0, t, y, h1, h2, h3, h4 => by omega
  | m + 1, t, y, h1, h2, h3, h4 => by
    unfold ceN
    by_cases c : t % 100 = two
    · rw [if_pos c]; omega
    · rw [if_neg c]
      have : y ≠ t := fun e => c (by rw [← e]; exact h3)
      exact ce_find m (t - 1) y (by omega) (by omega) h3 (by omega)
theorem cy_find {now y : Int} (hy : 1970 ≤ y) (hs : secY now (y % 100).toNat = y) : cyR ((y % 100).toNat : Int) now = y := by
  have hb : y ≤ topY now ∧ topY now - y < 100 := by
    unfold secY at hs
    rw [Int.toNat_of_nonneg (by omega)] at hs
    generalize topY now = t at hs ⊢
    omega
  unfold cyR
  exact ce_find _ _ _ hb.1 hb.2 (by omega) (by omega)
theorem x2_app {x : Dt} {now : Int} (h : okX x) (hy : 1970 ≤ x.y) (hs : secY now (x.y % 100).toNat = x.y) : x2R (fm 1 x) now = noW x ∧ 0 ≤ dgR (fm 1 x) ((cI (fm 1 x) : Int) + 9) 2 := by
  have ok := h
  have hc := cI_fm1 h
  obtain ⟨o1, o2, o3, o4, o5, o6, o7⟩ := h
  have hm := mo_len o2
  have l3 : (wdN x).length = (wdN x).length := rfl
  have e : fm 1 x = wdN x ++ [44, 32] ++ dg x.d.toNat 2 48 ++ [45] ++ moN x ++ [45] ++ dg (x.y % 100).toNat 2 48 ++ [32] ++ (dg x.h.toNat 2 48 ++ [58] ++ dg x.mi.toNat 2 48 ++ [58] ++ dg x.s.toNat 2 48) ++ [32, 71, 77, 84] := by
    unfold fm
    rw [if_neg (by decide), if_pos rfl]
    rfl
  have a1 : dgR (fm 1 x) (((wdN x).length : Int) + 2) 2 = (x.d.toNat : Int) := at_dg (a := wdN x ++ [44, 32]) (by rw [e]; simp only [List.append_assoc] <;> rfl) (by simp only [List.length_append, hm, dg_len, List.length_cons, List.length_nil] <;> omega) (n20 ⟨x.d.toNat, by omega⟩)
  have a2 : moR (fm 1 x) ((wdN x).length + 5) = x.m := at_mo (a := wdN x ++ [44, 32] ++ dg x.d.toNat 2 48 ++ [45]) (by rw [e]; simp only [List.append_assoc] <;> rfl) (by simp only [List.length_append, hm, dg_len, List.length_cons, List.length_nil] <;> omega) o2
  have a3 : dgR (fm 1 x) (((wdN x).length : Int) + 9) 2 = ((x.y % 100).toNat : Int) := at_dg (a := wdN x ++ [44, 32] ++ dg x.d.toNat 2 48 ++ [45] ++ moN x ++ [45]) (by rw [e]; simp only [List.append_assoc] <;> rfl) (by simp only [List.length_append, hm, dg_len, List.length_cons, List.length_nil] <;> omega) (n20 ⟨(x.y % 100).toNat, by omega⟩)
  have a4 : dgR (fm 1 x) (((wdN x).length : Int) + 12) 2 = (x.h.toNat : Int) := at_dg (a := wdN x ++ [44, 32] ++ dg x.d.toNat 2 48 ++ [45] ++ moN x ++ [45] ++ dg (x.y % 100).toNat 2 48 ++ [32]) (by rw [e]; simp only [List.append_assoc] <;> rfl) (by simp only [List.length_append, hm, dg_len, List.length_cons, List.length_nil] <;> omega) (n20 ⟨x.h.toNat, by omega⟩)
  have a5 : dgR (fm 1 x) (((wdN x).length : Int) + 12 + 3) 2 = (x.mi.toNat : Int) := at_dg (a := wdN x ++ [44, 32] ++ dg x.d.toNat 2 48 ++ [45] ++ moN x ++ [45] ++ dg (x.y % 100).toNat 2 48 ++ [32] ++ (dg x.h.toNat 2 48 ++ [58])) (by rw [e]; simp only [List.append_assoc] <;> rfl) (by simp only [List.length_append, hm, dg_len, List.length_cons, List.length_nil] <;> omega) (n20 ⟨x.mi.toNat, by omega⟩)
  have a6 : dgR (fm 1 x) (((wdN x).length : Int) + 12 + 6) 2 = (x.s.toNat : Int) := at_dg (a := wdN x ++ [44, 32] ++ dg x.d.toNat 2 48 ++ [45] ++ moN x ++ [45] ++ dg (x.y % 100).toNat 2 48 ++ [32] ++ (dg x.h.toNat 2 48 ++ [58] ++ dg x.mi.toNat 2 48 ++ [58])) (by rw [e]; simp only [List.append_assoc] <;> rfl) (by simp only [List.length_append, hm, dg_len, List.length_cons, List.length_nil] <;> omega) (n20 ⟨x.s.toNat, by omega⟩)
  unfold x2R rdR
  rw [hc, a1, a2, a3, a4, a5, a6, cy_find hy hs]
  refine ⟨?_, by omega⟩
  unfold noW
  rw [Int.toNat_of_nonneg (by omega : 0 ≤ x.d), Int.toNat_of_nonneg o4.1, Int.toNat_of_nonneg o5.1, Int.toNat_of_nonneg o6.1]
theorem n2s : ∀ n : Fin 100, (if n.1 < 10 then (dg n.1 2 32).getD 0 0 = 32 ∧ (dg n.1 2 32).drop 1 = dg n.1 1 48 ∧ numF 0 (dg n.1 1 48) = some n.1 else (dg n.1 2 32).getD 0 0 ≠ 32 ∧ dg n.1 2 32 = dg n.1 2 48) := by decide
theorem x3_app {x : Dt} (h : okX x) : x3R (fm 2 x) = noW x := by
  have ok := h
  obtain ⟨o1, o2, o3, o4, o5, o6, o7⟩ := h
  obtain ⟨l3, _, _⟩ := wd_len o7
  have hm := mo_len o2
  have hlen := fm2_len ok
  have e : fm 2 x = (wdN x).take 3 ++ [32] ++ moN x ++ [32] ++ dg x.d.toNat 2 32 ++ [32] ++ (dg x.h.toNat 2 48 ++ [58] ++ dg x.mi.toNat 2 48 ++ [58] ++ dg x.s.toNat 2 48) ++ [32] ++ (dg x.y.toNat 4 48 ++ []) := by
    unfold fm
    rw [if_neg (by decide), if_neg (by decide), List.append_nil]
    rfl
  have a2 : moR (fm 2 x) 4 = x.m := at_mo (a := (wdN x).take 3 ++ [32]) (by rw [e]; simp only [List.append_assoc] <;> rfl) (by simp only [List.length_append, l3, hm, dg_len, List.length_cons, List.length_nil] <;> rfl) o2
  have a4 : dgR (fm 2 x) 11 2 = (x.h.toNat : Int) := at_dg (a := (wdN x).take 3 ++ [32] ++ moN x ++ [32] ++ dg x.d.toNat 2 32 ++ [32]) (by rw [e]; simp only [List.append_assoc] <;> rfl) (by simp only [List.length_append, l3, hm, dg_len, List.length_cons, List.length_nil] <;> rfl) (n20 ⟨x.h.toNat, by omega⟩)
  have a5 : dgR (fm 2 x) (11 + 3) 2 = (x.mi.toNat : Int) := at_dg (a := (wdN x).take 3 ++ [32] ++ moN x ++ [32] ++ dg x.d.toNat 2 32 ++ [32] ++ (dg x.h.toNat 2 48 ++ [58])) (by rw [e]; simp only [List.append_assoc] <;> rfl) (by simp only [List.length_append, l3, hm, dg_len, List.length_cons, List.length_nil] <;> rfl) (n20 ⟨x.mi.toNat, by omega⟩)
  have a6 : dgR (fm 2 x) (11 + 6) 2 = (x.s.toNat : Int) := at_dg (a := (wdN x).take 3 ++ [32] ++ moN x ++ [32] ++ dg x.d.toNat 2 32 ++ [32] ++ (dg x.h.toNat 2 48 ++ [58] ++ dg x.mi.toNat 2 48 ++ [58])) (by rw [e]; simp only [List.append_assoc] <;> rfl) (by simp only [List.length_append, l3, hm, dg_len, List.length_cons, List.length_nil] <;> rfl) (n20 ⟨x.s.toNat, by omega⟩)
  have a3 : dgR (fm 2 x) 20 4 = (x.y.toNat : Int) := at_dg (a := (wdN x).take 3 ++ [32] ++ moN x ++ [32] ++ dg x.d.toNat 2 32 ++ [32] ++ (dg x.h.toNat 2 48 ++ [58] ++ dg x.mi.toNat 2 48 ++ [58] ++ dg x.s.toNat 2 48) ++ [32]) (by rw [e]) (by simp only [List.length_append, l3, hm, dg_len, List.length_cons, List.length_nil] <;> rfl) (n40 (by omega))
  have hn := n2s ⟨x.d.toNat, by omega⟩
  (try dsimp only at hn)
  have hlB : ((wdN x).take 3 ++ [32] ++ moN x ++ [32]).length = 8 := by simp only [List.length_append, l3, hm, List.length_cons, List.length_nil]
  have g8 : (fm 2 x).getD 8 0 = (dg x.d.toNat 2 32).getD 0 0 := by
    rw [e, show (wdN x).take 3 ++ [32] ++ moN x ++ [32] ++ dg x.d.toNat 2 32 ++ [32] ++ (dg x.h.toNat 2 48 ++ [58] ++ dg x.mi.toNat 2 48 ++ [58] ++ dg x.s.toNat 2 48) ++ [32] ++ (dg x.y.toNat 4 48 ++ []) = ((wdN x).take 3 ++ [32] ++ moN x ++ [32]) ++ (dg x.d.toNat 2 32 ++ ([32] ++ ((dg x.h.toNat 2 48 ++ [58] ++ dg x.mi.toNat 2 48 ++ [58] ++ dg x.s.toNat 2 48) ++ ([32] ++ (dg x.y.toNat 4 48 ++ []))))) by simp only [List.append_assoc]]
    rw [List.getD_eq_getElem?_getD, List.getElem?_append_right (by omega), hlB, Nat.sub_self, List.getElem?_append_left (by rw [dg_len]; omega), ← List.getD_eq_getElem?_getD]
  unfold x3R rdR
  rw [a2, a3, a4, a5, a6, g8]
  by_cases c : x.d.toNat < 10
  · rw [if_pos c] at hn
    obtain ⟨q1, q2, q3⟩ := hn
    rw [if_pos ⟨by omega, q1⟩]
    have e2 : dg x.d.toNat 2 32 = [32] ++ dg x.d.toNat 1 48 := by
      have hl2 := dg_len x.d.toNat 2 32
      match hdd : dg x.d.toNat 2 32, hl2 with
      | [u, v], _ =>
        rw [hdd] at q1 q2
        have q1' : u = 32 := q1
        have q2' : [v] = dg x.d.toNat 1 48 := q2
        rw [q1', ← q2']; rfl
    have a1 : dgR (fm 2 x) 9 1 = (x.d.toNat : Int) := at_dg (a := (wdN x).take 3 ++ [32] ++ moN x ++ [32] ++ [32]) (by rw [e, e2]; simp only [List.append_assoc] <;> rfl) (by simp only [List.length_append, l3, hm, dg_len, List.length_cons, List.length_nil] <;> rfl) q3
    rw [a1]
    exact noW_eq ok
  · rw [if_neg c] at hn
    rw [if_neg (fun q => hn.1 q.2)]
    have a1 : dgR (fm 2 x) 8 2 = (x.d.toNat : Int) := at_dg (a := (wdN x).take 3 ++ [32] ++ moN x ++ [32]) (by rw [e, hn.2]; simp only [List.append_assoc] <;> rfl) (by simp only [List.length_append, l3, hm, dg_len, List.length_cons, List.length_nil] <;> rfl) (n20 ⟨x.d.toNat, by omega⟩)
    rw [a1]
    exact noW_eq ok
theorem sm_none {f : Int} {l : List UInt8} {y : Dt} (h : ∀ x, okX x → (fm (f - 1) x).length ≠ l.length) : smR f l y = none := by
  unfold smR
  refine if_neg fun c => ?_
  exact h _ (ok_sp (jN_ok c.1)) (by rw [c.2])
theorem pt_rp {now n : Int} {l : List UInt8} (h : PT now l n) : rpR now l = some n := by
  obtain ⟨ok, h | ⟨h, hs⟩ | h⟩ := h
  · subst h
    have s1 : smR 1 (fm 0 (spD n)) (x1R (fm 0 (spD n))) = some n := by rw [x1_app (ok_sp ok)]; exact sm_app (k := 0) ok
    unfold rpR
    rw [s1]
  · subst h
    have hl := fm1_len (ok_sp ok)
    have s1 : smR 1 (fm 1 (spD n)) (x1R (fm 1 (spD n))) = none := sm_none fun x hx => by
      have := fm0_len hx
      show (fm 0 x).length ≠ _
      omega
    have h70 : 1970 ≤ (spD n).y := by
      have := (sp_back ok).1
      unfold okF at this
      exact this.1.1
    obtain ⟨e2, e3⟩ := x2_app (ok_sp ok) h70 hs
    have s2 : s2R (fm 1 (spD n)) now = some n := by
      unfold s2R
      rw [if_pos e3, e2]
      exact sm_app (k := 1) ok
    unfold rpR
    rw [s1, s2]
  · subst h
    have hl := fm2_len (ok_sp ok)
    have s1 : smR 1 (fm 2 (spD n)) (x1R (fm 2 (spD n))) = none := sm_none fun x hx => by
      have := fm0_len hx
      show (fm 0 x).length ≠ _
      omega
    have s2 : s2R (fm 2 (spD n)) now = none := by
      unfold s2R
      split
      · exact sm_none fun x hx => by
          have := fm1_len hx
          show (fm 1 x).length ≠ _
          omega
      · rfl
    unfold rpR
    rw [s1, s2, x3_app (ok_sp ok)]
    exact sm_app (k := 2) ok
theorem par_rp (now : Int) (l : List UInt8) : paR now l = rpR now l := by
  cases h : paR now l with
  | some n => exact (pt_rp (par_pt h)).symm
  | none =>
    cases h2 : rpR now l with
    | none => rfl
    | some n => rw [pt_par (rp_pt h2)] at h; cases h
end Go.Proofs.YtcmpkkkigmheoaaGreatDoor.D
/-! The document's conditions: tags, dates. Fields of together at most 2097152 bytes. -/
namespace Go.Proofs.YtcmpkkkigmheoaaGreatDoor.FD
open Go Go.Proofs Go.RowKit Go.Proofs.YtcmpkkkigmheoaaGreatDoor.Sh Go.Proofs.YtcmpkkkigmheoaaGreatDoor.Sl Go.Proofs.YtcmpkkkigmheoaaGreatDoor.T
theorem tgs_low {alike : Tg → Bool} {l : List Fd} {n m : List UInt8} {has : Bool} (h : lowF n = lowF m) : tgsF alike l n has = tgsF alike l m has := by unfold tgsF; rw [vals_low h]
theorem da_low {l : List Fd} {n m : List UInt8} {now : Int} (h : lowF n = lowF m) : daF l n now = daF l m now := by unfold daF; rw [first_low h]
theorem join_snoc {sep : List UInt8} {V : List (List UInt8)} {i : Nat} (h0 : 0 < i) (h : i < V.length) : joinF sep (V.take (i + 1)) = joinF sep (V.take i) ++ sep ++ V[i] := by
  rw [List.take_succ_eq_append_getElem h]
  obtain ⟨v, r, hv⟩ : ∃ v r, V.take i = v :: r := by
    cases hx : V.take i with
    | nil => have := congrArg List.length hx; rw [List.length_take, List.length_nil] at this; omega
    | cons v r => exact ⟨v, r, rfl⟩
  rw [hv]
  simp only [List.cons_append, joinF, List.flatMap_append]
  simp
theorem rfirst {W : World} {l : List Fd} {n : List UInt8} {a : Option Addr} {c : Nat} {A : HP} (hA : RdF W A a l) (hl : hOK l) (hn : n.length ≤ 4194304) : Cn Tryz.prog 22 [.slice a l.length c, txt n] W [A] (fun _ : Unit => .tuple #[txt (firstF l n).1, .bool (firstF l n).2])
    (fun r => [A]) := by
  (refine S.ref11_First_cn fun F => ?_; unfold S.ref11_First; simp only [List.cons_append, List.nil_append])
  refine e_call (rvalues hA hl hn) (.cons .here .nil) fun r => ?_
  obtain ⟨sa, sc⟩ := r
  (try simp only [List.cons_append, List.nil_append, -eq_self])
  unfold firstF
  generalize valsF l n = V
  refine e_opN v_len Imp.nil ?_
  cases V with
  | nil =>
    refine e_opN v_eql Imp.nil ?_
    rw [decide_eq_true (by rfl)]
    refine e_condT ?_
    (first | refine e_ret (()) rfl ?_ | refine e_retT (()) ?_)
    (repeat (first | exact Imp.refl | exact Imp.nil | (apply Imp.pick; (focus ((repeat constructor); done))) | refine Imp.drop ?_))
  | cons v r =>
    refine e_opN v_eql Imp.nil ?_
    rw [decide_eq_false (by simp; omega)]
    refine e_condF ?_
    refine e_slsome (a := sa) (.there .here) (by simp) fun g hg => ?_
    subst hg
    have ld : RunV Tryz.prog W [Sl 1 9 (some ⟨g, 0, none⟩) sc (v :: r).length ((v :: r).map txt)] (sLoad 9 (.pointer (some ⟨g, 0 + 0, none⟩))) (txt v) := v_ldSl rfl
    refine e_opN (v_ia1 0 rfl (by simp)) Imp.nil ?_
    refine e_opN ld (.pick (by (repeat constructor)) .nil) ?_
    (first | refine e_ret (()) rfl ?_ | refine e_retT (()) ?_)
    (repeat (first | exact Imp.refl | exact Imp.nil | (apply Imp.pick; (focus ((repeat constructor); done))) | refine Imp.drop ?_))
theorem rdate {W : World} {l : List Fd} {n : List UInt8} {a : Option Addr} {c : Nat} {now : Int} {A : HP} (hA : RdF W A a l) (hl : szF l ≤ 2097152) (hn : n.length ≤ 4194304) :
    Cn Tryz.prog 18 [.slice a l.length c, txt n, .int .i64 now] W [A] (fun _ : Unit => .tuple #[.int .i64 (daF l n now).1, .bool (daF l n now).2]) (fun _ => [A]) := by
  have hok := sz_ok hl
  have hfl := first_len (l := l) (n := n)
  (refine S.ref16_date_cn fun F => ?_; unfold S.ref16_date; simp only [List.cons_append, List.nil_append])
  refine e_call (rfirst hA hok hn) (.cons .here .nil) fun _ => ?_
  (try simp only [List.cons_append, List.nil_append, -eq_self])
  refine e_opN (v_extN (vs := [_, _]) .here) Imp.nil ?_
  refine e_opN (v_extN (vs := [_, _]) (.there .here)) Imp.nil ?_
  refine e_call (D.rparse (l := (firstF l n).1) (now := now) (by omega)) .nil fun _ => ?_
  (try simp only [List.cons_append, List.nil_append, -eq_self])
  rw [← D.par_rp]
  refine e_opN (v_extN (vs := [_, _]) .here) Imp.nil ?_
  refine e_opN (v_extN (vs := [_, _]) (.there .here)) Imp.nil ?_
  unfold daF
  cases hf : (firstF l n).2 with
  | true =>
    refine e_gdT ?_
    refine e_gdT ?_
    refine e_opN v_eql Imp.nil ?_
    refine e_opN v_pickT Imp.nil ?_
    (first | refine e_ret (()) rfl ?_ | refine e_retT (()) ?_)
    (repeat (first | exact Imp.refl | exact Imp.nil | (apply Imp.pick; (focus ((repeat constructor); done))) | refine Imp.drop ?_))
  | false =>
    ((with_reducible refine e_gdF2 ?_)); ((with_reducible refine e_gdF2 ?_)); (((with_reducible refine e_opN v_pickF Imp.nil ?_)))
    (first | refine e_ret (()) rfl ?_ | refine e_retT (()) ?_)
    (repeat (first | exact Imp.refl | exact Imp.nil | (apply Imp.pick; (focus ((repeat constructor); done))) | refine Imp.drop ?_))
def alk (strong : Bool) (e : En) (t : Tg) : Bool := if strong then strF t e.tag else decide (t.2 = e.tag.2)
theorem ld_tagR {W : World} {xs : List Tg} {i n g c : Nat} (h : i < xs.length) (hn : n = xs.length) : RunV Tryz.prog W [Sl 2 24 (some ⟨g, 0, none⟩) c n (xs.flatMap pTag)] (sLoad 24 (.pointer (some ⟨g, 0 + i * 2, none⟩))) (vTag xs[i]) := by
  subst hn
  exact v_ldRdG (vs := pTag xs[i]) (rd_slG (flat_len (f := pTag) (s := 2) (fun _ => rfl) xs) (fun _ => ⟨g, rfl⟩)) rfl (fun j hj => flat_get (f := pTag) (s := 2) (fun _ => rfl) xs i j h hj)
theorem ld_entR {W : World} {b : Nat} {e : En} {T : TypeId} : RunV Tryz.prog W [pt b (.cells (cEn e) T (0, 0))] (sLoad 24 (.pointer (some ⟨b, 0, none⟩))) (vTag e.tag) :=
  v_ldRdG (o := 0) (j := 0) (vs := pTag e.tag) (rd_pt (cs := [.bool e.tag.1, txt e.tag.2, .int .i64 e.mt, .bool e.has]) rfl) rfl (fun i hi => by
    match i, hi with
    | 0, _ => rfl
    | 1, _ => rfl)
theorem ratags {W : World} {strong : Bool} {l : List Fd} {n : List UInt8} {a : Option Addr} {c : Nat} {e : En} {A : HP} (hA : RdF W A a l) (hl : szF l ≤ 2097152) (hn : n.length ≤ 4194304) :
    Cn Tryz.prog 17 [.slice a l.length c, txt n, vEn e, .bool strong] W [A] (fun _ : Unit => .tuple #[.bool (tgsF (alk strong e) l n e.has).1, .bool (tgsF (alk strong e) l n e.has).2]) (fun _ => [A]) := by
  have hok := sz_ok hl
  have hj := sz_join (l := l) (n := n)
  have hsv := sum_vals l n
  have hvn := vals_len l n
  have hln := sz_len l
  (refine S.ref16_tags_cn fun F => ?_; unfold S.ref16_tags; simp only [List.cons_append, List.nil_append])
  unfold vEn
  refine e_boxA fun b6 => ?_
  refine e_call (rvalues hA hok hn) (.cons (.there .here) .nil) fun r => ?_
  obtain ⟨va, vc⟩ := r
  (try simp only [List.cons_append, List.nil_append, -eq_self])
  refine e_opN v_len Imp.nil ?_
  unfold tgsF
  generalize hV : valsF l n = V at hj hvn hsv ⊢
  refine e_ask v_eql Imp.nil (fun h => ?_) (fun h => ?_)
  · have hVn : V = [] := List.eq_nil_of_length_eq_zero (by omega)
    rw [if_pos hVn]
    refine e_condT ?_
    (first | refine e_ret (()) rfl ?_ | refine e_retT (()) ?_)
    (repeat (first | exact Imp.refl | exact Imp.nil | (apply Imp.pick; (focus ((repeat constructor); done))) | refine Imp.drop ?_))
  · have hVn : ¬ V = [] := fun c => h (by rw [c]; rfl)
    have hVl : 0 < V.length := by omega
    rw [if_neg hVn]
    refine e_condF ?_
    refine e_slsome (a := va) (.there .here) hVl fun g hg => ?_
    subst hg
    have ldv : ∀ i (h : i < V.length), RunV Tryz.prog W [Sl 1 9 (some ⟨g, 0, none⟩) vc V.length (V.map txt)] (sLoad 9 (.pointer (some ⟨g, 0 + i, none⟩))) (txt V[i]) := fun i h => v_ldSl (by rw [Nat.zero_add, List.getElem?_map, List.getElem?_eq_getElem h]; rfl)
    refine e_opN (v_ia1 0 rfl hVl) Imp.nil ?_
    refine e_opN (ldv 0 hVl) (.pick (by (repeat constructor)) .nil) ?_
    refine e_loop2 (fun m x y => (ex fun i : Nat => pu (m + i = V.length ∧ 1 ≤ i ∧ x = txt (joinF [44] (V.take i)) ∧ y = .int .i64 (i : Int))) :: A :: Sl 1 9 (some ⟨g, 0, none⟩) vc V.length (V.map txt) :: pt b6 (.cells #[.bool e.tag.1, txt e.tag.2, .int .i64 e.mt, .bool e.has] 26 (0, 0)) :: F) (V.length - 1) ?_ ?_
    · refine .ex 1 (.pu ⟨by omega, by omega, ?_, rfl⟩ ?_)
      · rw [List.take_succ_eq_append_getElem hVl]; simp [joinF]
      · (repeat (first | exact Imp.refl | exact Imp.nil | (apply Imp.pick; (focus ((repeat constructor); done))) | refine Imp.drop ?_))
    intro m ds x y
    refine e_ex .here fun i => e_pu .here fun hi => ?_
    obtain ⟨hmi, hi1, rfl, rfl⟩ := hi
    have hjt := join_len [44] (V.take i)
    have hst := sum_take_le V i
    have htl : (V.take i).length ≤ V.length := by rw [List.length_take]; omega
    refine e_opN v_len Imp.nil ?_
    refine e_ask v_lss Imp.nil (fun h2 => ?_) (fun h2 => ?_)
    · have hil : i < V.length := by omega
      have hs2 := sum_take hil
      have hs3 := sum_take_le V (i + 1)
      simp only [List.length_cons, List.length_nil, Nat.zero_add, Nat.one_mul] at hjt
      refine e_condT ?_
      refine e_opN (v_cat (b := [44]) (by simp; omega)) Imp.nil ?_
      refine e_opN (v_ia1 i rfl hil) Imp.nil ?_
      refine e_opN (ldv i hil) (.pick (by (repeat constructor)) .nil) ?_
      refine e_opN (v_cat (by rw [List.length_append]; simp; omega)) Imp.nil ?_
      refine e_opN (v_add (by omega) (by omega)) Imp.nil ?_
      refine e_next2 (m - 1) (by omega) (.ex (i + 1) (.pu ⟨by omega, by omega, by rw [join_snoc hi1 hil], rfl⟩ ?_))
      (repeat (first | exact Imp.refl | exact Imp.nil | (apply Imp.pick; (focus ((repeat constructor); done))) | refine Imp.drop ?_))
    · have hie : V.take i = V := List.take_of_length_le (by omega)
      rw [hie]
      refine e_condF ?_
      have hnum := tags_num (joinF [44] V)
      refine e_call (rtags (l := joinF [44] V) (by omega)) .nil fun r => ?_
      obtain ⟨ta, tc⟩ := r
      (try simp only [List.cons_append, List.nil_append, -eq_self])
      refine e_opN (v_extN (vs := [_, _, _]) .here) Imp.nil ?_
      refine e_opN (v_extN (vs := [_, _, _]) (.there .here)) Imp.nil ?_
      refine e_opN (v_extN (vs := [_, _, _]) (.there (.there .here))) Imp.nil ?_
      generalize (tagsF (joinF [44] V)).2.2 = er
      generalize (tagsF (joinF [44] V)).2.1 = any
      generalize (tagsF (joinF [44] V)).1 = X at hnum ⊢
      refine e_opN v_neq Imp.nil ?_
      by_cases her : er = 0
      · subst her
        rw [decide_eq_false (fun c => c rfl)]
        refine e_gdT ?_
        refine e_opN v_fa0 Imp.nil ?_
        refine e_gdT ?_
        refine e_opN (v_ld (v := .bool e.has) rfl) (.pick (by (repeat constructor)) .nil) ?_
        refine e_gdT ?_
        refine e_opN v_not Imp.nil ?_
        refine e_opN v_pickF Imp.nil ?_
        cases hh : e.has with
        | false =>
          rw [if_pos (.inr rfl)]
          refine e_condT ?_
          (first | refine e_ret (()) rfl ?_ | refine e_retT (()) ?_)
          (repeat (first | exact Imp.refl | exact Imp.nil | (apply Imp.pick; (focus ((repeat constructor); done))) | refine Imp.drop ?_))
        | true =>
          rw [if_neg (by simp)]
          refine e_condF ?_
          refine e_loop1 (fun m y => (ex fun i : Nat => pu (m + i = X.length ∧ (X.take i).any (alk strong e) = false ∧ y = .int .i64 (i : Int))) :: Sl 2 24 ta tc X.length (X.flatMap pTag) :: pt b6 (.cells (cEn e) 26 (0, 0)) :: A :: F) X.length ?_ ?_
          · refine .ex 0 (.pu ⟨rfl, by simp, rfl⟩ ?_)
            unfold cEn
            rw [hh]
            refine .pick (by (repeat constructor)) (.pick (by (repeat constructor)) (.pick (by (repeat constructor)) ?_))
            (repeat (first | exact Imp.refl | exact Imp.nil | (apply Imp.pick; (focus ((repeat constructor); done))) | refine Imp.drop ?_))
          intro m ds y
          refine e_ex .here fun i => e_pu .here fun hi => ?_
          obtain ⟨hmi, hany, rfl⟩ := hi
          refine e_opN v_len Imp.nil ?_
          refine e_ask v_lss Imp.nil (fun h => ?_) (fun h => ?_)
          · have hil : i < X.length := by omega
            have hstep : (X.take (i + 1)).any (alk strong e) = alk strong e X[i] := by
              rw [List.take_succ_eq_append_getElem hil, List.any_append, hany]
              simp
            have hfull : alk strong e X[i] = true → X.any (alk strong e) = true := fun hb => List.any_eq_true.2 ⟨X[i], List.getElem_mem hil, hb⟩
            have hld : RunV Tryz.prog W [pt b6 (.cells (cEn e) 26 (0, 0))] (sLoad 24 (.pointer (some ⟨b6, 0, none⟩))) (vTag e.tag) := ld_entR
            refine e_condT ?_
            refine e_slsome (a := ta) .here (Nat.zero_lt_of_lt hil) fun g' hg' => ?_
            subst hg'
            have ldx := ld_tagR (W := W) (c := tc) (g := g') hil rfl
            generalize X[i] = t at hstep hfull ldx ⊢
            refine e_drS ?_
            cases strong with
            | true =>
              rw [show alk true e t = strF t e.tag from rfl] at hstep hfull
              refine e_gdT ?_
              refine e_gdT ?_
              refine e_gdT ?_
              refine e_stS (v_ia i rfl hil) Imp.nil ?_
              refine e_gdT ?_
              refine e_stS ldx (.pick (by (repeat constructor)) .nil) ?_
              refine e_gdT ?_
              refine e_stS v_fa0 Imp.nil ?_
              refine e_gdT ?_
              refine e_stS hld (.pick (by (repeat constructor)) .nil) ?_
              refine e_gdT ?_
              refine e_call (rstrong (x := t) (y := e.tag)) .nil fun _ => ?_
              (try simp only [List.cons_append, List.nil_append, -eq_self])
              refine e_stS v_pickT Imp.nil ?_
              cases hs : strF t e.tag with
              | true =>
                rw [hs] at hfull
                ((with_reducible refine e_gdF1 ?_)); ((with_reducible refine e_gdF1 ?_)); ((with_reducible refine e_gdF1 ?_)); ((with_reducible refine e_gdU ?_)); ((with_reducible refine e_gdU ?_)); ((with_reducible refine e_gdU ?_)); ((with_reducible refine e_gdU ?_)); ((with_reducible refine e_gdU ?_)); ((with_reducible refine e_gdU ?_)); ((with_reducible refine e_gdU ?_)); ((with_reducible refine e_gdF1 ?_)); (((with_reducible refine e_stS v_pickT Imp.nil ?_))); ((with_reducible refine e_condT ?_))
                refine e_ret () (by rw [hfull rfl]; simp) ?_
                (repeat (first | exact Imp.refl | exact Imp.nil | (apply Imp.pick; (focus ((repeat constructor); done))) | refine Imp.drop ?_))
              | false =>
                rw [hs] at hstep
                ((with_reducible refine e_gdT ?_)); ((with_reducible refine e_gdT ?_)); (((with_reducible refine e_stS v_notT Imp.nil ?_))); ((with_reducible refine e_gdT ?_)); ((with_reducible refine e_gdF2 ?_)); ((with_reducible refine e_gdF2 ?_)); ((with_reducible refine e_gdF2 ?_)); ((with_reducible refine e_gdF2 ?_)); ((with_reducible refine e_gdF2 ?_)); ((with_reducible refine e_gdF2 ?_)); ((with_reducible refine e_gdF2 ?_)); ((with_reducible refine e_gdT ?_)); (((with_reducible refine e_stS v_pickF Imp.nil ?_))); (((with_reducible refine e_stS v_pickF Imp.nil ?_))); ((with_reducible refine e_condF ?_)); (((with_reducible refine e_opN (v_add ?h1 ?h2) Imp.nil ?_); (case h1 => omega); (case h2 => omega)))
                refine e_next1 (m - 1) (by omega) (.ex (i + 1) (.pu ⟨by omega, hstep, rfl⟩ ?_))
                (repeat (first | exact Imp.refl | exact Imp.nil | (apply Imp.pick; (focus ((repeat constructor); done))) | refine Imp.drop ?_))
            | false =>
              rw [show alk false e t = decide (t.2 = e.tag.2) from rfl] at hstep hfull
              ((with_reducible refine e_gdF2 ?_)); ((with_reducible refine e_gdF2 ?_)); ((with_reducible refine e_gdF2 ?_)); ((with_reducible refine e_gdF2 ?_)); ((with_reducible refine e_gdF2 ?_)); ((with_reducible refine e_gdF2 ?_)); ((with_reducible refine e_gdF2 ?_)); (((with_reducible refine e_stS v_pickF Imp.nil ?_))); ((with_reducible refine e_gdT ?_)); ((with_reducible refine e_gdT ?_)); (((with_reducible refine e_stS v_notF Imp.nil ?_))); ((with_reducible refine e_gdT ?_)); ((with_reducible refine e_gdT ?_)); ((with_reducible refine e_gdT ?_)); ((with_reducible refine e_gdT ?_))
              refine e_stS (v_ia i rfl hil) Imp.nil ?_
              refine e_gdT ?_
              refine e_stS ldx (.pick (by (repeat constructor)) .nil) ?_
              refine e_gdT ?_
              refine e_stS v_fa0 Imp.nil ?_
              refine e_gdT ?_
              refine e_stS hld (.pick (by (repeat constructor)) .nil) ?_
              refine e_gdT ?_
              refine e_call (rweak (x := t) (y := e.tag)) .nil fun _ => ?_
              (try simp only [List.cons_append, List.nil_append, -eq_self])
              generalize decide (t.2 = e.tag.2) = b at hstep hfull ⊢
              cases b with
              | true =>
                ((with_reducible refine e_gdT ?_)); (((with_reducible refine e_stS v_pickT Imp.nil ?_))); (((with_reducible refine e_stS v_pickF Imp.nil ?_))); ((with_reducible refine e_condT ?_))
                refine e_ret () (by rw [hfull rfl]; simp) ?_
                (repeat (first | exact Imp.refl | exact Imp.nil | (apply Imp.pick; (focus ((repeat constructor); done))) | refine Imp.drop ?_))
              | false =>
                ((with_reducible refine e_gdT ?_)); (((with_reducible refine e_stS v_pickT Imp.nil ?_))); (((with_reducible refine e_stS v_pickF Imp.nil ?_))); ((with_reducible refine e_condF ?_)); (((with_reducible refine e_opN (v_add ?h1 ?h2) Imp.nil ?_); (case h1 => omega); (case h2 => omega)))
                refine e_next1 (m - 1) (by omega) (.ex (i + 1) (.pu ⟨by omega, hstep, rfl⟩ ?_))
                (repeat (first | exact Imp.refl | exact Imp.nil | (apply Imp.pick; (focus ((repeat constructor); done))) | refine Imp.drop ?_))
          · have hie : i = X.length := by omega
            subst hie
            rw [List.take_length] at hany
            refine e_condF ?_
            refine e_ret () (by rw [hany]; simp) ?_
            (repeat (first | exact Imp.refl | exact Imp.nil | (apply Imp.pick; (focus ((repeat constructor); done))) | refine Imp.drop ?_))
      · rw [decide_eq_true her, if_pos (.inl her)]
        ((with_reducible refine e_gdF1 ?_)); ((with_reducible refine e_gdF1 ?_)); ((with_reducible refine e_gdF1 ?_)); (((with_reducible refine e_opN v_pickT Imp.nil ?_))); ((with_reducible refine e_condT ?_))
        (first | refine e_ret (()) rfl ?_ | refine e_retT (()) ?_)
        (repeat (first | exact Imp.refl | exact Imp.nil | (apply Imp.pick; (focus ((repeat constructor); done))) | refine Imp.drop ?_))
end Go.Proofs.YtcmpkkkigmheoaaGreatDoor.FD
/-! The document's answer to a request under conditions; whether a range may be met; fields compared. Fields of together at most 2097152 bytes. -/
namespace Go.Proofs.YtcmpkkkigmheoaaGreatDoor.FD
open Go Go.Proofs Go.RowKit Go.Proofs.YtcmpkkkigmheoaaGreatDoor.Sh Go.Proofs.YtcmpkkkigmheoaaGreatDoor.Sl Go.Proofs.YtcmpkkkigmheoaaGreatDoor.T
def lIMr : List UInt8 := [105, 102, 45, 109, 97, 116, 99, 104]
def lINMr : List UInt8 := [105, 102, 45, 110, 111, 110, 101, 45, 109, 97, 116, 99, 104]
def lIMSr : List UInt8 := [105, 102, 45, 109, 111, 100, 105, 102, 105, 101, 100, 45, 115, 105, 110, 99, 101]
def lIUSr : List UInt8 := [105, 102, 45, 117, 110, 109, 111, 100, 105, 102, 105, 101, 100, 45, 115, 105, 110, 99, 101]
def lIRr : List UInt8 := [105, 102, 45, 114, 97, 110, 103, 101]
theorem revaluate {W : World} {m : List UInt8} {l : List Fd} {a : Option Addr} {c : Nat} {e : En} {now : Int} {A : HP} (hA : RdF W A a l) (hl : szF l ≤ 2097152) : Cn Tryz.prog 6 [txt m, .slice a l.length c, vEn e, .int .i64 now] W
    [A] (fun _ : Unit => .int .i64 (evF m l e now)) (fun _ => [A]) := by
  have g1 : tgsF (alk true e) l lIMr e.has = t1F l e := tgs_low (m := nIM) rfl
  have g2 : tgsF (alk false e) l lINMr e.has = t2F l e := tgs_low (m := nINM) rfl
  have g3 : daF l lIUSr now = daF l nIUS now := da_low rfl
  have g4 : daF l lIMSr now = daF l nIMS now := da_low rfl
  (refine S.ref16_Evaluate_cn fun F => ?_; unfold S.ref16_Evaluate; simp only [List.cons_append, List.nil_append])
  unfold vEn
  refine e_boxA fun g6 => ?_
  refine e_opN (v_streq (m := mGET)) Imp.nil ?_
  refine e_or1 (fun _ => v_streq (m := mHEAD)) ?_
  rw [show (decide (m = mGET) || decide (m = mHEAD)) = lkF m from rfl]
  refine e_opN (v_ldAgg (cs := cEn e) rfl) (.pick (by (repeat constructor)) .nil) ?_
  refine e_call (ratags (strong := true) (n := lIMr) (e := e) hA hl (by decide)) (.cons (.there .here) .nil) fun _ => ?_
  (try simp only [List.cons_append, List.nil_append, -eq_self])
  rw [g1]
  refine e_opN (v_extN (vs := [_, _]) .here) Imp.nil ?_
  refine e_opN (v_extN (vs := [_, _]) (.there .here)) Imp.nil ?_
  refine e_call (rdate (n := lIUSr) (now := now) hA hl (by decide)) (.cons .here .nil) fun _ => ?_
  (try simp only [List.cons_append, List.nil_append, -eq_self])
  rw [g3]
  refine e_opN (v_extN (vs := [_, _]) .here) Imp.nil ?_
  refine e_opN (v_extN (vs := [_, _]) (.there .here)) Imp.nil ?_
  generalize hS : opN Tryz.prog (sLoad 26 (.pointer (some ⟨g6, 0, none⟩))) noP _ = S
  have hT : st1F l e now = 0 → Ent W (A :: pt g6 (.cells #[.bool e.tag.1, txt e.tag.2, .int .i64 e.mt, .bool e.has] 26 (0, 0)) :: F) S := by
    intro h1
    have hev : evF m l e now = if (t2F l e).1 && !lkF m then 412 else if (t2F l e).1 then 304
      else if ((((!(t2F l e).2 && lkF m) && (daF l nIMS now).2) && decide ((daF l nIMS now).1 ≤ now)) && e.has) && decide (e.mt ≤ (daF l nIMS now).1) then 304 else 200 := by
      unfold evF
      rw [h1, if_neg (by decide)]
      unfold st2F
      split
      · rfl
      · split
        · rfl
        · split <;> rfl
    rw [← hS, hev]
    clear hev hS
    refine e_opN (v_ldAgg (cs := cEn e) rfl) (.pick (by (repeat constructor)) .nil) ?_
    refine e_call (ratags (strong := false) (n := lINMr) (e := e) hA hl (by decide)) (.cons .here .nil) fun _ => ?_
    (try simp only [List.cons_append, List.nil_append, -eq_self])
    rw [g2]
    refine e_opN (v_extN (vs := [_, _]) .here) Imp.nil ?_
    refine e_opN (v_extN (vs := [_, _]) (.there .here)) Imp.nil ?_
    refine e_call (rdate (n := lIMSr) (now := now) hA hl (by decide)) (.cons .here .nil) fun _ => ?_
    (try simp only [List.cons_append, List.nil_append, -eq_self])
    rw [g4]
    refine e_opN (v_extN (vs := [_, _]) .here) Imp.nil ?_
    refine e_opN (v_extN (vs := [_, _]) (.there .here)) Imp.nil ?_
    generalize (t2F l e).1 = ok
    generalize (t2F l e).2 = comes
    generalize (daF l nIMS now).1 = n
    generalize (daF l nIMS now).2 = is
    generalize lkF m = lk
    cases ok with
    | true =>
      cases lk with
      | true =>
        ((with_reducible refine e_gdT ?_)); (((with_reducible refine e_opN v_pickT Imp.nil ?_))); ((with_reducible refine e_condT ?_))
        (first | refine e_ret (()) rfl ?_ | refine e_retT (()) ?_)
        (repeat (first | exact Imp.refl | exact Imp.nil | (apply Imp.pick; (focus ((repeat constructor); done))) | refine Imp.drop ?_))
      | false =>
        ((with_reducible refine e_gdT ?_)); (((with_reducible refine e_opN v_pickT Imp.nil ?_))); ((with_reducible refine e_condF ?_)); ((with_reducible refine e_condT ?_))
        (first | refine e_ret (()) rfl ?_ | refine e_retT (()) ?_)
        (repeat (first | exact Imp.refl | exact Imp.nil | (apply Imp.pick; (focus ((repeat constructor); done))) | refine Imp.drop ?_))
    | false =>
      cases comes with
      | true =>
        ((with_reducible refine e_gdF2 ?_)); (((with_reducible refine e_opN v_pickF Imp.nil ?_))); ((with_reducible refine e_condF ?_)); ((with_reducible refine e_condF ?_)); (((with_reducible refine e_opN v_notT Imp.nil ?_))); ((with_reducible refine e_gdF2 ?_)); (((with_reducible refine e_opN v_pickF Imp.nil ?_))); ((with_reducible refine e_gdF2 ?_)); (((with_reducible refine e_opN v_pickF Imp.nil ?_))); ((with_reducible refine e_gdF2 ?_)); ((with_reducible refine e_gdF2 ?_)); ((with_reducible refine e_gdF2 ?_)); (((with_reducible refine e_opN v_pickF Imp.nil ?_))); ((with_reducible refine e_gdF2 ?_)); ((with_reducible refine e_gdF2 ?_)); (((with_reducible refine e_opN v_pickF Imp.nil ?_))); ((with_reducible refine e_gdF2 ?_)); ((with_reducible refine e_gdF2 ?_)); ((with_reducible refine e_gdF2 ?_)); ((with_reducible refine e_gdF2 ?_)); (((with_reducible refine e_opN v_pickF Imp.nil ?_))); ((with_reducible refine e_condF ?_))
        (first | refine e_ret (()) rfl ?_ | refine e_retT (()) ?_)
        (repeat (first | exact Imp.refl | exact Imp.nil | (apply Imp.pick; (focus ((repeat constructor); done))) | refine Imp.drop ?_))
      | false =>
        cases lk with
        | false =>
          ((with_reducible refine e_gdF2 ?_)); (((with_reducible refine e_opN v_pickF Imp.nil ?_))); ((with_reducible refine e_condF ?_)); ((with_reducible refine e_condF ?_)); (((with_reducible refine e_opN v_notF Imp.nil ?_))); ((with_reducible refine e_gdT ?_)); (((with_reducible refine e_opN v_pickT Imp.nil ?_))); ((with_reducible refine e_gdF2 ?_)); (((with_reducible refine e_opN v_pickF Imp.nil ?_))); ((with_reducible refine e_gdF2 ?_)); ((with_reducible refine e_gdF2 ?_)); ((with_reducible refine e_gdF2 ?_)); (((with_reducible refine e_opN v_pickF Imp.nil ?_))); ((with_reducible refine e_gdF2 ?_)); ((with_reducible refine e_gdF2 ?_)); (((with_reducible refine e_opN v_pickF Imp.nil ?_))); ((with_reducible refine e_gdF2 ?_)); ((with_reducible refine e_gdF2 ?_)); ((with_reducible refine e_gdF2 ?_)); ((with_reducible refine e_gdF2 ?_)); (((with_reducible refine e_opN v_pickF Imp.nil ?_))); ((with_reducible refine e_condF ?_))
          (first | refine e_ret (()) rfl ?_ | refine e_retT (()) ?_)
          (repeat (first | exact Imp.refl | exact Imp.nil | (apply Imp.pick; (focus ((repeat constructor); done))) | refine Imp.drop ?_))
        | true =>
          cases is with
          | false =>
            ((with_reducible refine e_gdF2 ?_)); (((with_reducible refine e_opN v_pickF Imp.nil ?_))); ((with_reducible refine e_condF ?_)); ((with_reducible refine e_condF ?_)); (((with_reducible refine e_opN v_notF Imp.nil ?_))); ((with_reducible refine e_gdT ?_)); (((with_reducible refine e_opN v_pickT Imp.nil ?_))); ((with_reducible refine e_gdT ?_)); (((with_reducible refine e_opN v_pickT Imp.nil ?_))); ((with_reducible refine e_gdF2 ?_)); ((with_reducible refine e_gdF2 ?_)); ((with_reducible refine e_gdF2 ?_)); (((with_reducible refine e_opN v_pickF Imp.nil ?_))); ((with_reducible refine e_gdF2 ?_)); ((with_reducible refine e_gdF2 ?_)); (((with_reducible refine e_opN v_pickF Imp.nil ?_))); ((with_reducible refine e_gdF2 ?_)); ((with_reducible refine e_gdF2 ?_)); ((with_reducible refine e_gdF2 ?_)); ((with_reducible refine e_gdF2 ?_)); (((with_reducible refine e_opN v_pickF Imp.nil ?_))); ((with_reducible refine e_condF ?_))
            (first | refine e_ret (()) rfl ?_ | refine e_retT (()) ?_)
            (repeat (first | exact Imp.refl | exact Imp.nil | (apply Imp.pick; (focus ((repeat constructor); done))) | refine Imp.drop ?_))
          | true =>
            ((with_reducible refine e_gdF2 ?_)); (((with_reducible refine e_opN v_pickF Imp.nil ?_))); ((with_reducible refine e_condF ?_)); ((with_reducible refine e_condF ?_)); (((with_reducible refine e_opN v_notF Imp.nil ?_))); ((with_reducible refine e_gdT ?_)); (((with_reducible refine e_opN v_pickT Imp.nil ?_))); ((with_reducible refine e_gdT ?_)); (((with_reducible refine e_opN v_pickT Imp.nil ?_))); ((with_reducible refine e_gdT ?_)); ((with_reducible refine e_gdT ?_)); ((with_reducible refine e_gdT ?_))
            refine e_opN v_leq Imp.nil ?_
            by_cases h : n ≤ now
            · rw [decide_eq_true h]
              (((with_reducible refine e_opN v_pickT Imp.nil ?_))); ((with_reducible refine e_gdT ?_)); (((with_reducible refine e_opN v_fa0 Imp.nil ?_))); ((with_reducible refine e_gdT ?_)); (((with_reducible refine' e_opN (v_ldN ?hc) ?hi ?_); (case hi => (repeat (first | exact Imp.refl | exact Imp.nil | (apply Imp.pick; (focus ((repeat constructor); done))) | refine Imp.drop ?_))); (case hc => (repeat (first | exact Nth.here | apply Nth.there))))); (((with_reducible refine e_opN v_pickT Imp.nil ?_)))
              cases hh : e.has with
              | false =>
                ((with_reducible refine e_gdF2 ?_)); ((with_reducible refine e_gdF2 ?_)); ((with_reducible refine e_gdF2 ?_)); ((with_reducible refine e_gdF2 ?_)); (((with_reducible refine e_opN v_pickF Imp.nil ?_))); ((with_reducible refine e_condF ?_))
                (first | refine e_ret (()) rfl ?_ | refine e_retT (()) ?_)
                (repeat (first | exact Imp.refl | exact Imp.nil | (apply Imp.pick; (focus ((repeat constructor); done))) | refine Imp.drop ?_))
              | true =>
                ((with_reducible refine e_gdT ?_)); (((with_reducible refine e_opN v_fa0 Imp.nil ?_))); ((with_reducible refine e_gdT ?_)); (((with_reducible refine' e_opN (v_ldN ?hc) ?hi ?_); (case hi => (repeat (first | exact Imp.refl | exact Imp.nil | (apply Imp.pick; (focus ((repeat constructor); done))) | refine Imp.drop ?_))); (case hc => (repeat (first | exact Nth.here | apply Nth.there))))); ((with_reducible refine e_gdT ?_)); ((with_reducible refine e_gdT ?_))
                refine e_opN v_leq Imp.nil ?_
                (((with_reducible refine e_opN v_pickT Imp.nil ?_)))
                refine e_cond (φ := e.mt ≤ n) rfl (fun h => ?_) (fun h => ?_)
                · rw [decide_eq_true h]
                  (first | refine e_ret (()) rfl ?_ | refine e_retT (()) ?_)
                  (repeat (first | exact Imp.refl | exact Imp.nil | (apply Imp.pick; (focus ((repeat constructor); done))) | refine Imp.drop ?_))
                · rw [decide_eq_false h]
                  (first | refine e_ret (()) rfl ?_ | refine e_retT (()) ?_)
                  (repeat (first | exact Imp.refl | exact Imp.nil | (apply Imp.pick; (focus ((repeat constructor); done))) | refine Imp.drop ?_))
            · rw [decide_eq_false h]
              (((with_reducible refine e_opN v_pickT Imp.nil ?_))); ((with_reducible refine e_gdF2 ?_)); ((with_reducible refine e_gdF2 ?_)); (((with_reducible refine e_opN v_pickF Imp.nil ?_))); ((with_reducible refine e_gdF2 ?_)); ((with_reducible refine e_gdF2 ?_)); ((with_reducible refine e_gdF2 ?_)); ((with_reducible refine e_gdF2 ?_)); (((with_reducible refine e_opN v_pickF Imp.nil ?_))); ((with_reducible refine e_condF ?_))
              (first | refine e_ret (()) rfl ?_ | refine e_retT (()) ?_)
              (repeat (first | exact Imp.refl | exact Imp.nil | (apply Imp.pick; (focus ((repeat constructor); done))) | refine Imp.drop ?_))
  have hev : st1F l e now ≠ 0 → evF m l e now = 412 := fun h => by
    unfold evF
    rcases (show st1F l e now = 412 ∨ st1F l e now = 0 by unfold st1F; split; exact .inl rfl; exact .inr rfl) with c | c
    · rw [c]; rfl
    · exact absurd c h
  have hst : st1F l e now = if ((t1F l e).2 && !(t1F l e).1) || (!(t1F l e).2 && ((daF l nIUS now).2 && (!e.has || decide ((daF l nIUS now).1 < e.mt)))) then 412 else 0 := rfl
  rw [hst] at hev hT
  generalize evF m l e now = R at hev ⊢
  clear hS g1 g2 g3 g4 hst
  generalize (t1F l e).1 = ok at hev hT ⊢
  generalize (t1F l e).2 = comes at hev hT ⊢
  generalize (daF l nIUS now).1 = n at hev hT ⊢
  generalize (daF l nIUS now).2 = is at hev hT ⊢
  cases comes with
  | true =>
    cases ok with
    | true =>
      ((with_reducible refine e_gdT ?_)); ((with_reducible refine e_gdT ?_)); (((with_reducible refine e_opN v_notT Imp.nil ?_))); (((with_reducible refine e_opN v_pickT Imp.nil ?_))); ((with_reducible refine e_gdT ?_)); ((with_reducible refine e_gdT ?_)); (((with_reducible refine e_opN v_notT Imp.nil ?_))); ((with_reducible refine e_gdT ?_)); ((with_reducible refine e_gdF2 ?_)); ((with_reducible refine e_gdT ?_)); (((with_reducible refine e_opN v_pickF Imp.nil ?_))); ((with_reducible refine e_gdT ?_)); ((with_reducible refine e_gdF2 ?_)); ((with_reducible refine e_gdF2 ?_)); ((with_reducible refine e_gdF2 ?_)); ((with_reducible refine e_gdF2 ?_)); ((with_reducible refine e_gdU ?_)); ((with_reducible refine e_gdU ?_)); ((with_reducible refine e_gdU ?_)); ((with_reducible refine e_gdU ?_)); ((with_reducible refine e_gdF2 ?_)); ((with_reducible refine e_gdT ?_)); (((with_reducible refine e_opN v_pickF Imp.nil ?_))); (((with_reducible refine e_opN v_pickF Imp.nil ?_))); ((with_reducible refine e_condF ?_))
      exact hT rfl
    | false =>
      rw [hev (by simp)]
      ((with_reducible refine e_gdT ?_)); ((with_reducible refine e_gdT ?_)); (((with_reducible refine e_opN v_notF Imp.nil ?_))); (((with_reducible refine e_opN v_pickT Imp.nil ?_))); ((with_reducible refine e_gdF1 ?_)); ((with_reducible refine e_gdF1 ?_)); ((with_reducible refine e_gdF1 ?_)); ((with_reducible refine e_gdU ?_)); ((with_reducible refine e_gdF1 ?_)); ((with_reducible refine e_gdF1 ?_)); ((with_reducible refine e_gdU ?_)); ((with_reducible refine e_gdU ?_)); ((with_reducible refine e_gdU ?_)); ((with_reducible refine e_gdU ?_)); ((with_reducible refine e_gdU ?_)); ((with_reducible refine e_gdU ?_)); ((with_reducible refine e_gdU ?_)); ((with_reducible refine e_gdU ?_)); ((with_reducible refine e_gdU ?_)); ((with_reducible refine e_gdF1 ?_)); (((with_reducible refine e_opN v_pickT Imp.nil ?_))); ((with_reducible refine e_condT ?_))
      (first | refine e_ret (()) rfl ?_ | refine e_retT (()) ?_)
      (repeat (first | exact Imp.refl | exact Imp.nil | (apply Imp.pick; (focus ((repeat constructor); done))) | refine Imp.drop ?_))
  | false =>
    cases is with
    | false =>
      ((with_reducible refine e_gdF2 ?_)); ((with_reducible refine e_gdF2 ?_)); (((with_reducible refine e_opN v_pickF Imp.nil ?_))); ((with_reducible refine e_gdT ?_)); ((with_reducible refine e_gdT ?_)); (((with_reducible refine e_opN v_notF Imp.nil ?_))); ((with_reducible refine e_gdT ?_)); ((with_reducible refine e_gdT ?_)); ((with_reducible refine e_gdT ?_)); (((with_reducible refine e_opN v_pickT Imp.nil ?_))); ((with_reducible refine e_gdT ?_)); ((with_reducible refine e_gdF2 ?_)); ((with_reducible refine e_gdF2 ?_)); ((with_reducible refine e_gdF2 ?_)); ((with_reducible refine e_gdF2 ?_)); ((with_reducible refine e_gdU ?_)); ((with_reducible refine e_gdU ?_)); ((with_reducible refine e_gdU ?_)); ((with_reducible refine e_gdU ?_)); ((with_reducible refine e_gdF2 ?_)); ((with_reducible refine e_gdT ?_)); (((with_reducible refine e_opN v_pickF Imp.nil ?_))); (((with_reducible refine e_opN v_pickF Imp.nil ?_))); ((with_reducible refine e_condF ?_))
      exact hT rfl
    | true =>
      ((with_reducible refine e_gdF2 ?_)); ((with_reducible refine e_gdF2 ?_)); (((with_reducible refine e_opN v_pickF Imp.nil ?_))); ((with_reducible refine e_gdT ?_)); ((with_reducible refine e_gdT ?_)); (((with_reducible refine e_opN v_notF Imp.nil ?_))); ((with_reducible refine e_gdT ?_)); ((with_reducible refine e_gdT ?_)); ((with_reducible refine e_gdT ?_)); (((with_reducible refine e_opN v_pickT Imp.nil ?_))); ((with_reducible refine e_gdT ?_)); ((with_reducible refine e_gdT ?_)); (((with_reducible refine e_opN v_fa0 Imp.nil ?_))); ((with_reducible refine e_gdT ?_)); (((with_reducible refine' e_opN (v_ldN ?hc) ?hi ?_); (case hi => (repeat (first | exact Imp.refl | exact Imp.nil | (apply Imp.pick; (focus ((repeat constructor); done))) | refine Imp.drop ?_))); (case hc => (repeat (first | exact Nth.here | apply Nth.there))))); ((with_reducible refine e_gdT ?_)); (((with_reducible refine e_opN v_not Imp.nil ?_))); ((with_reducible refine e_gdT ?_))
      cases hh : e.has with
      | false =>
        rw [hh] at hev
        rw [hev (by simp), show (!false) = true from rfl]
        ((with_reducible refine e_gdF1 ?_)); ((with_reducible refine e_gdF1 ?_)); ((with_reducible refine e_gdF1 ?_)); ((with_reducible refine e_gdF1 ?_)); ((with_reducible refine e_gdT ?_)); (((with_reducible refine e_opN v_pickT Imp.nil ?_))); ((with_reducible refine e_gdT ?_)); (((with_reducible refine e_opN v_pickT Imp.nil ?_))); (((with_reducible refine e_opN v_pickF Imp.nil ?_))); ((with_reducible refine e_condT ?_))
        (first | refine e_ret (()) rfl ?_ | refine e_retT (()) ?_)
        (repeat (first | exact Imp.refl | exact Imp.nil | (apply Imp.pick; (focus ((repeat constructor); done))) | refine Imp.drop ?_))
      | true =>
        rw [hh] at hev hT
        rw [show (!true) = false from rfl]
        ((with_reducible refine e_gdT ?_)); (((with_reducible refine e_opN v_fa0 Imp.nil ?_))); ((with_reducible refine e_gdT ?_)); (((with_reducible refine' e_opN (v_ldN ?hc) ?hi ?_); (case hi => (repeat (first | exact Imp.refl | exact Imp.nil | (apply Imp.pick; (focus ((repeat constructor); done))) | refine Imp.drop ?_))); (case hc => (repeat (first | exact Nth.here | apply Nth.there))))); ((with_reducible refine e_gdT ?_)); ((with_reducible refine e_gdT ?_))
        refine e_opN v_gtr Imp.nil ?_
        ((with_reducible refine e_gdT ?_)); (((with_reducible refine e_opN v_pickF Imp.nil ?_))); ((with_reducible refine e_gdT ?_)); (((with_reducible refine e_opN v_pickT Imp.nil ?_))); (((with_reducible refine e_opN v_pickF Imp.nil ?_)))
        refine e_cond (φ := n < e.mt) rfl (fun h => ?_) (fun h => ?_)
        · rw [decide_eq_true h] at hev
          rw [hev (by simp)]
          (first | refine e_ret (()) rfl ?_ | refine e_retT (()) ?_)
          (repeat (first | exact Imp.refl | exact Imp.nil | (apply Imp.pick; (focus ((repeat constructor); done))) | refine Imp.drop ?_))
        · rw [decide_eq_false h] at hT
          exact hT rfl
theorem rinRange {W : World} {m : List UInt8} {l : List Fd} {a : Option Addr} {c : Nat} {e : En} {now : Int} {A : HP} (hA : RdF W A a l) (hl : szF l ≤ 2097152) : Cn Tryz.prog 8 [txt m, .slice a l.length c, vEn e, .int .i64 now] W
    [A] (fun _ : Unit => .bool (inF m l e now)) (fun _ => [A]) := by
  have hok := sz_ok hl
  have hfl := first_len (l := l) (n := lIRr)
  (refine S.ref16_InRange_cn fun F => ?_; unfold S.ref16_InRange; simp only [List.cons_append, List.nil_append])
  unfold vEn
  refine e_boxA fun g6 => ?_
  refine e_opN (v_strne (m := mGET)) Imp.nil ?_
  unfold inF
  rw [← first_low (l := l) (show lowF lIRr = lowF nIR from rfl)]
  by_cases hm : m = mGET
  rotate_left
  · rw [decide_eq_true hm, if_pos (.inl hm)]
    ((with_reducible refine e_gdF1 ?_)); ((with_reducible refine e_gdF1 ?_)); ((with_reducible refine e_gdF1 ?_)); (((with_reducible refine e_opN v_pickT Imp.nil ?_))); ((with_reducible refine e_condT ?_))
    (first | refine e_ret (()) rfl ?_ | refine e_retT (()) ?_)
    (repeat (first | exact Imp.refl | exact Imp.nil | (apply Imp.pick; (focus ((repeat constructor); done))) | refine Imp.drop ?_))
  rw [decide_eq_false (fun c => c hm)]
  refine e_gdT ?_
  refine e_opN v_fa0 Imp.nil ?_
  refine e_gdT ?_
  refine e_opN (v_ld (v := .bool e.has) rfl) (.pick (by (repeat constructor)) .nil) ?_
  refine e_gdT ?_
  refine e_opN v_not Imp.nil ?_
  refine e_opN v_pickF Imp.nil ?_
  cases hh : e.has with
  | false =>
    rw [if_pos (.inr rfl)]
    refine e_condT ?_
    (first | refine e_ret (()) rfl ?_ | refine e_retT (()) ?_)
    (repeat (first | exact Imp.refl | exact Imp.nil | (apply Imp.pick; (focus ((repeat constructor); done))) | refine Imp.drop ?_))
  | true =>
    rw [if_neg (by rintro (c | c); exact c hm; cases c)]
    refine e_condF ?_
    refine e_call (rfirst (n := lIRr) hA hok (by decide)) (.cons (.there .here) .nil) fun _ => ?_
    (try simp only [List.cons_append, List.nil_append, -eq_self])
    refine e_opN (v_extN (vs := [_, _]) .here) Imp.nil ?_
    refine e_opN (v_extN (vs := [_, _]) (.there .here)) Imp.nil ?_
    generalize (firstF l lIRr).2 = comes
    generalize (firstF l lIRr).1 = s at hfl ⊢
    cases comes with
    | false =>
      rw [if_pos rfl]
      (((with_reducible refine e_opN v_notF Imp.nil ?_))); ((with_reducible refine e_condT ?_))
      (first | refine e_ret (()) rfl ?_ | refine e_retT (()) ?_)
      (repeat (first | exact Imp.refl | exact Imp.nil | (apply Imp.pick; (focus ((repeat constructor); done))) | refine Imp.drop ?_))
    | true =>
      rw [if_neg (by decide)]
      refine e_opN v_notT Imp.nil ?_
      refine e_condF ?_
      refine e_call (rparseTag (l := s) (by omega)) .nil fun _ => ?_
      (try simp only [List.cons_append, List.nil_append, -eq_self])
      refine e_opN (v_extN (vs := [_, _]) .here) Imp.nil ?_
      refine e_opN (v_extN (vs := [_, _]) (.there .here)) Imp.nil ?_
      generalize (tagF s).1 = t
      unfold vTag
      refine e_newA fun g12 => ?_
      refine e_stAgg .here (by rfl) (by rfl) (by intro u hu; simp at hu; rcases hu with rfl | rfl <;> rfl) ?_
      refine e_opN v_eql Imp.nil ?_
      have ldt : RunV Tryz.prog W [pt g6 (.cells #[.bool e.tag.1, txt e.tag.2, .int .i64 e.mt, .bool true] 26 (0, 0))] (sLoad 24 (.pointer (some ⟨g6, 0, none⟩))) (vTag e.tag) :=
        v_ldRdG (o := 0) (j := 0) (vs := pTag e.tag) (rd_pt (cs := [.bool e.tag.1, txt e.tag.2, .int .i64 e.mt, .bool true]) rfl) rfl (fun i hi => by
          match i, hi with
          | 0, _ => rfl
          | 1, _ => rfl)
      cases ht : (tagF s).2 with
      | true =>
        rw [if_pos rfl, if_pos rfl, decide_eq_true rfl]
        refine e_condT ?_
        refine e_opN (v_ldAgg (cs := #[.bool t.1, txt t.2]) rfl) (.pick .here .nil) ?_
        refine e_opN v_fa0 Imp.nil ?_
        refine e_opN ldt (.pick (by (repeat constructor)) .nil) ?_
        refine e_call (rstrong (x := t) (y := e.tag)) .nil fun _ => ?_
        (try simp only [List.cons_append, List.nil_append, -eq_self])
        (first | refine e_ret (()) rfl ?_ | refine e_retT (()) ?_)
        (repeat (first | exact Imp.refl | exact Imp.nil | (apply Imp.pick; (focus ((repeat constructor); done))) | refine Imp.drop ?_))
      | false =>
        rw [if_neg (by decide), if_neg (by decide), decide_eq_false (by decide)]
        refine e_condF ?_
        refine e_call (D.rparse (l := s) (now := now) (by omega)) .nil fun _ => ?_
        (try simp only [List.cons_append, List.nil_append, -eq_self])
        rw [← D.par_rp]
        refine e_opN (v_extN (vs := [_, _]) .here) Imp.nil ?_
        refine e_opN (v_extN (vs := [_, _]) (.there .here)) Imp.nil ?_
        rw [show D.oE (D.paR now s) = D.paE now s from rfl, show (D.paR now s).getD 0 = D.paN now s from rfl]
        refine e_opN v_eql Imp.nil ?_
        generalize D.paN now s = n
        by_cases h1 : D.paE now s = 0
        · rw [decide_eq_true h1, Bool.true_and]
          ((with_reducible refine e_gdT ?_)); ((with_reducible refine e_gdT ?_)); (((with_reducible refine e_opN v_fa0 Imp.nil ?_))); ((with_reducible refine e_gdT ?_)); (((with_reducible refine' e_opN (v_ldN ?hc) ?hi ?_); (case hi => (repeat (first | exact Imp.refl | exact Imp.nil | (apply Imp.pick; (focus ((repeat constructor); done))) | refine Imp.drop ?_))); (case hc => (repeat (first | exact Nth.here | apply Nth.there))))); ((with_reducible refine e_gdT ?_))
          refine e_opN v_eql Imp.nil ?_
          by_cases h2 : n = e.mt
          · rw [decide_eq_true h2, Bool.true_and]
            (((with_reducible refine e_opN v_pickT Imp.nil ?_))); ((with_reducible refine e_gdT ?_)); ((with_reducible refine e_gdT ?_))
            refine e_opN v_addw Imp.nil ?_
            ((with_reducible refine e_gdT ?_)); ((with_reducible refine e_gdT ?_))
            refine e_opN v_leq Imp.nil ?_
            (((with_reducible refine e_opN v_pickT Imp.nil ?_)))
            (first | refine e_ret (()) rfl ?_ | refine e_retT (()) ?_)
            (repeat (first | exact Imp.refl | exact Imp.nil | (apply Imp.pick; (focus ((repeat constructor); done))) | refine Imp.drop ?_))
          · rw [decide_eq_false h2, Bool.false_and]
            (((with_reducible refine e_opN v_pickT Imp.nil ?_))); ((with_reducible refine e_gdF2 ?_)); ((with_reducible refine e_gdF2 ?_)); ((with_reducible refine e_gdF2 ?_)); ((with_reducible refine e_gdF2 ?_)); (((with_reducible refine e_opN v_pickF Imp.nil ?_)))
            (first | refine e_ret (()) rfl ?_ | refine e_retT (()) ?_)
            (repeat (first | exact Imp.refl | exact Imp.nil | (apply Imp.pick; (focus ((repeat constructor); done))) | refine Imp.drop ?_))
        · rw [decide_eq_false h1]
          ((with_reducible refine e_gdF2 ?_)); ((with_reducible refine e_gdF2 ?_)); ((with_reducible refine e_gdF2 ?_)); ((with_reducible refine e_gdF2 ?_)); (((with_reducible refine e_opN v_pickF Imp.nil ?_))); ((with_reducible refine e_gdF2 ?_)); ((with_reducible refine e_gdF2 ?_)); ((with_reducible refine e_gdF2 ?_)); ((with_reducible refine e_gdF2 ?_)); (((with_reducible refine e_opN v_pickF Imp.nil ?_)))
          (first | refine e_ret (()) rfl ?_ | refine e_retT (()) ?_)
          (repeat (first | exact Imp.refl | exact Imp.nil | (apply Imp.pick; (focus ((repeat constructor); done))) | refine Imp.drop ?_))
theorem eqFd (x y : Fd) : ∀ w, (Op.eqFields 9999 (pFd x).toArray (pFd y).toArray (Tryz.prog.fieldsOf 63).toList).run Tryz.prog w = .ok (decide (x.1 = y.1) && (decide (x.2 = y.2) && (true))) w := fun w => by
  have hf : (Tryz.prog.fieldsOf 63).toList = (#[⟨"Name", 9, 0, false, "", "", 0⟩, ⟨"Value", 9, 1, false, "", "", 16⟩] : Array Field).toList := by kernel_rfl
  rw [hf]
  exact eqS x.1 y.1 (by decide) (by rfl) (by rfl) (by rfl) (eqS x.2 y.2 (by decide) (by rfl) (by rfl) (by rfl) (eqEnd))
theorem v_fdNe {W : World} {ox oy : Operand} (x y : Fd) : RunV Tryz.prog W [] (sEq .neq 63 ox oy (vFd x) (vFd y)) (.bool (!decide (x.1 = y.1 ∧ x.2 = y.2))) := by
  have h := v_agNe (W := W) (t := 63) (ox := ox) (oy := oy) (by kernel_rfl) (by kernel_rfl) (by kernel_rfl) (eqFd x y)
  have e : decide (x.1 = y.1 ∧ x.2 = y.2) = (decide (x.1 = y.1) && (decide (x.2 = y.2) && (true))) := by simp [Bool.decide_and]
  rw [e]
  exact h
theorem sameFields {W : World} {l : List Fd} {a b : Option Addr} {c d : Nat} {A B : HP} (hA : RdF W A a l) (hB : RdF W B b l) (hl : l.length ≤ 4194304) : Cn Tryz.prog 9 [.slice a l.length c, .slice b l.length d] W [A, B] (fun _ : Unit => .bool true) (fun _ => [A, B]) := by
  (refine S.law11_Fields_cn fun F => ?_; unfold S.law11_Fields; simp only [List.cons_append, List.nil_append])
  refine e_opN v_len Imp.nil ?_
  refine e_opN v_len Imp.nil ?_
  refine e_opN v_neq Imp.nil ?_
  rw [decide_eq_false (by simp)]
  refine e_condF ?_
  refine e_loop1 (fun m y => (ex fun i : Nat => pu (m + i = l.length ∧ y = .int .i64 (i : Int))) :: A :: B :: F) l.length ?_ ?_
  · exact .ex 0 (.pu ⟨rfl, rfl⟩ .refl)
  intro m ds y
  refine e_ex .here fun i => e_pu .here fun hi => ?_
  obtain ⟨hmi, rfl⟩ := hi
  refine e_opN v_len Imp.nil ?_
  refine e_ask v_lss Imp.nil (fun h => ?_) (fun h => ?_)
  · have hil : i < l.length := by omega
    refine e_condT ?_
    obtain ⟨g, o, rfl⟩ := rdF_at hA (Nat.zero_lt_of_lt hil)
    obtain ⟨g', o', rfl⟩ := rdF_at hB (Nat.zero_lt_of_lt hil)
    refine e_drS ?_
    refine e_stS (v_ia i rfl hil) Imp.nil ?_
    refine e_stS (ld_fdA hA hil) (.pick .here .nil) ?_
    refine e_stS (v_ia i rfl hil) Imp.nil ?_
    refine e_stS (ld_fdA hB hil) (.pick (.there .here) .nil) ?_
    refine e_stS (v_fdNe l[i] l[i]) Imp.nil ?_
    rw [show (!decide (l[i].1 = l[i].1 ∧ l[i].2 = l[i].2)) = false by simp]
    refine e_condF ?_
    refine e_opN (v_add (by omega) (by omega)) Imp.nil ?_
    exact e_next1 (m - 1) (by omega) (.ex (i + 1) (.pu ⟨by omega, rfl⟩ .refl))
  · refine e_condF ?_
    (first | refine e_ret (()) rfl ?_ | refine e_retT (()) ?_)
    (repeat (first | exact Imp.refl | exact Imp.nil | (apply Imp.pick; (focus ((repeat constructor); done))) | refine Imp.drop ?_))
end Go.Proofs.YtcmpkkkigmheoaaGreatDoor.FD
/-! Any request under any conditions: the law, walked. Fields of together at most 2097152 bytes. -/
namespace Go.Proofs.YtcmpkkkigmheoaaGreatDoor.FD
open Go Go.Proofs Go.RowKit Go.Proofs.YtcmpkkkigmheoaaGreatDoor.Sh Go.Proofs.YtcmpkkkigmheoaaGreatDoor.Sl Go.Proofs.YtcmpkkkigmheoaaGreatDoor.T
theorem condEvaluates {W : World} {m : List UInt8} {l : List Fd} {a : Option Addr} {c : Nat} {e : En} {now : Int} {A : HP} (hA : RdF W A a l) (hl : szF l ≤ 2097152) : Cn Tryz.prog 3 [txt m, .slice a l.length c, vEn e, .int .i64 now] W
    [A] (fun _ : Unit => .bool true) (fun _ => [A]) := by
  have hok := sz_ok hl
  have hll := hok.1
  have hone : ∀ u ∈ l.flatMap pFd, u.oneCell' = true := by
    intro u hu
    obtain ⟨x, _, hx⟩ := List.mem_flatMap.1 hu
    simp [pFd] at hx
    rcases hx with rfl | rfl <;> rfl
  (refine S.law16_CondEvaluates_cn fun F => ?_; unfold S.law16_CondEvaluates; simp only [List.cons_append, List.nil_append])
  unfold vEn
  refine e_boxA fun g6 => ?_
  refine e_bsl0 (s := 2) (e := 63) fun z => ?_
  refine e_app (m := l.length) (news := l.flatMap pFd) .here (src_rdG (s := 2) (e' := 63) (by kernel_rfl) (by decide) (.there (.there .here)) hA (fun hn => by
    rcases Nat.eq_zero_or_pos l.length with h | h
    · exact h
    · obtain ⟨g, o, h2⟩ := rdF_at hA h
      rw [hn] at h2; cases h2) hone) (by omega) (by omega) fun a' c' => ?_
  rw [Nat.zero_add, List.nil_append]
  refine e_slfacts .here fun f1 f2 f3 f4 => ?_
  have hR : RdF W (Sl 2 63 a' c' l.length (l.flatMap pFd)) a' l := rd_slG f1 f4
  refine e_drS ?_
  refine e_stS (v_ldAgg (cs := cEn e) rfl) (.pick (by (repeat constructor)) .nil) ?_
  refine e_stD (v_ldAgg (cs := cEn e) rfl) (.pick (by (repeat constructor)) .nil) ?_
  refine e_call (own (e := e)) .nil fun _ => ?_
  (try simp only [List.cons_append, List.nil_append, -eq_self])
  refine e_obl (by (repeat (first | exact Imp.refl | exact Imp.nil | (apply Imp.pick; (focus ((repeat constructor); done))) | refine Imp.drop ?_))) ?_
  refine e_call (evaluate (m := m) (e := e) (now := now) hR hl) (.cons .here .nil) fun _ => ?_
  (try simp only [List.cons_append, List.nil_append, -eq_self])
  refine e_obl (by (repeat (first | exact Imp.refl | exact Imp.nil | (apply Imp.pick; (focus ((repeat constructor); done))) | refine Imp.drop ?_))) ?_
  refine e_call (revaluate (m := m) (e := e) (now := now) hA hl) (.cons (.there (.there .here)) .nil) fun _ => ?_
  (try simp only [List.cons_append, List.nil_append, -eq_self])
  refine e_stS v_eql Imp.nil ?_
  rw [decide_eq_true rfl]
  refine e_gdT ?_
  refine e_gdT ?_
  refine e_gdT ?_
  refine e_stS (v_ldAgg (cs := cEn e) rfl) (.pick (by (repeat constructor)) .nil) ?_
  refine e_gdT ?_
  refine e_gdT ?_
  refine e_gdT ?_
  refine e_gdDT ?_
  refine e_stD (v_ldAgg (cs := cEn e) rfl) (.pick (by (repeat constructor)) .nil) ?_
  refine e_gdT ?_
  refine e_gdT ?_
  refine e_call (own (e := e)) .nil fun _ => ?_
  (try simp only [List.cons_append, List.nil_append, -eq_self])
  refine e_obl (by (repeat (first | exact Imp.refl | exact Imp.nil | (apply Imp.pick; (focus ((repeat constructor); done))) | refine Imp.drop ?_))) ?_
  refine e_gdT ?_
  refine e_call (inRange (m := m) (e := e) (now := now) hR hl) (.cons (.there .here) .nil) fun _ => ?_
  (try simp only [List.cons_append, List.nil_append, -eq_self])
  refine e_obl (by (repeat (first | exact Imp.refl | exact Imp.nil | (apply Imp.pick; (focus ((repeat constructor); done))) | refine Imp.drop ?_))) ?_
  refine e_gdT ?_
  refine e_call (rinRange (m := m) (e := e) (now := now) hA hl) (.cons (.there .here) .nil) fun _ => ?_
  (try simp only [List.cons_append, List.nil_append, -eq_self])
  refine e_gdT ?_
  refine e_stS v_beq Imp.nil ?_
  rw [decide_eq_true (p := (inF m l e now = inF m l e now)) rfl]
  refine e_stS v_pickT Imp.nil ?_
  refine e_gdT ?_
  refine e_gdT ?_
  refine e_gdT ?_
  refine e_call (sameFields hR hA hll) (.cons (.there .here) (.cons .here .nil)) fun _ => ?_
  (try simp only [List.cons_append, List.nil_append, -eq_self])
  refine e_stS v_pickT Imp.nil ?_
  refine e_gdT ?_
  refine e_call knows16 .nil fun _ => ?_
  (try simp only [List.cons_append, List.nil_append, -eq_self])
  refine e_stS v_pickT Imp.nil ?_
  (first | refine e_ret (()) rfl ?_ | refine e_retT (()) ?_)
  (repeat (first | exact Imp.refl | exact Imp.nil | (apply Imp.pick; (focus ((repeat constructor); done))) | refine Imp.drop ?_))
end Go.Proofs.YtcmpkkkigmheoaaGreatDoor.FD
/-! Just GET and HEAD come to 304; nothing else than 200, 304, 412 comes: the law, walked. Fields of together at most 2097152 bytes. -/
namespace Go.Proofs.YtcmpkkkigmheoaaGreatDoor.FD
open Go Go.Proofs Go.RowKit Go.Proofs.YtcmpkkkigmheoaaGreatDoor.Sh Go.Proofs.YtcmpkkkigmheoaaGreatDoor.Sl Go.Proofs.YtcmpkkkigmheoaaGreatDoor.T
theorem st1_cases (l : List Fd) (e : En) (now : Int) : st1F l e now = 412 ∨ st1F l e now = 0 := by
  unfold st1F
  split
  · exact .inl rfl
  · exact .inr rfl
theorem st2_cases (lk : Bool) (l : List Fd) (e : En) (now : Int) : st2F lk l e now = 412 ∨ (st2F lk l e now = 304 ∧ lk = true ∧ e.has = true) ∨ st2F lk l e now = 0 := by
  have hh : (t2F l e).1 = true → e.has = true := by
    unfold t2F tgsF
    split
    · intro h; cases h
    · split
      · intro h; cases h
      · rename_i h
        intro _
        cases hx : e.has with
        | true => rfl
        | false => exact absurd (.inr hx) h
  unfold st2F
  split
  · exact .inl rfl
  · rename_i h1
    split
    · rename_i h2
      refine .inr (.inl ⟨rfl, ?_, hh h2⟩)
      cases lk with
      | true => rfl
      | false => exact absurd (by rw [h2]; rfl) h1
    · split
      · rename_i h3
        simp only [Bool.and_eq_true] at h3
        exact .inr (.inl ⟨rfl, h3.1.1.1.1.2, h3.1.2⟩)
      · exact .inr (.inr rfl)
theorem ev_cases (m : List UInt8) (l : List Fd) (e : En) (now : Int) : evF m l e now = 200 ∨ (evF m l e now = 304 ∧ lkF m = true ∧ e.has = true) ∨ evF m l e now = 412 := by
  unfold evF
  rcases st1_cases l e now with h | h
  · rw [h]; exact .inr (.inr rfl)
  · rw [h, if_neg (by decide)]
    rcases st2_cases (lkF m) l e now with h2 | ⟨h2, h3, h4⟩ | h2
    · rw [h2]; exact .inr (.inr rfl)
    · rw [h2]; exact .inr (.inl ⟨rfl, h3, h4⟩)
    · rw [h2]; exact .inl rfl
theorem cn_pre {P : Program} {f : FuncId} {args : List Value} {W : World} {α : Type} {r : α → Value} (h : Cn P f args W [pu True] r (fun _ => [pu True])) : Cn P f args W [] r (fun _ => []) :=
  ⟨h.call, fun F w hw => (h.run F w ((Imp.pu (L := F) trivial .refl).sat hw)).mono fun e w' ⟨x, he, hs⟩ => ⟨x, he, hs.drop⟩⟩
end Go.Proofs.YtcmpkkkigmheoaaGreatDoor.FD
