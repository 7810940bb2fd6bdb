/- The document's date of a time: year by year, month by month. No conditions but those that each names. -/
import Derived.Test.YtcmpkkkigmheoaaDateR1
import Derived.Test.YtcmpkkkigmheoaaDateQ
set_option linter.unusedVariables false
set_option linter.unusedSimpArgs false
namespace Go.Proofs.Ytcmpkkkigmheoaa.D
open Go Go.Proofs Go.RowKit Go.Proofs.Ytcmpkkkigmheoaa.Sh Go.Proofs.Ytcmpkkkigmheoaa.Sl Go.Proofs.Ytcmpkkkigmheoaa.T
theorem rsplit {W : World} {n : Int} : Cn Try.prog 10 [.int .i64 n] W [] (fun _ : Unit => .tuple #[.agg (dtA (spD n)), .int .i64 (spE n)]) (fun _ => []) := by
  have bad : ¬ okT n → spD n = dt0 ∧ spE n = 11 := fun h => ⟨if_neg h, if_neg h⟩
  (refine S.ref09_Split_cn fun F => ?_; unfold S.ref09_Split; simp only [List.cons_append, List.nil_append])
  refine e_newA fun b2 => ?_
  (refine e_ask v_lss Imp.nil (fun h => ?_) (fun h => ?_))
  · have hb := bad (fun c => by unfold okT at c; omega)
    rw [hb.1, hb.2]
    ((with_reducible refine e_gdF1 ?_)); ((with_reducible refine e_gdF1 ?_)); (((with_reducible refine e_opN v_pickT Imp.nil ?_))); ((with_reducible refine e_condT ?_)); (((with_reducible refine e_opN v_rv Imp.nil ?_))); (((with_reducible refine' e_stAgg ?hp ?hn ?hv ?h1 ?_); (case hp => (repeat constructor)); (case hn => rfl); (case hv => rfl); (case h1 => simp [Value.oneCell']))); (((with_reducible refine' e_stS (v_resA ?hn) ?hi ?_); (case hi => (repeat (first | exact Imp.refl | exact Imp.nil | (apply Imp.pick; (focus ((repeat constructor); done))) | refine Imp.drop ?_))); (case hn => rfl)))
    (first | refine e_ret (()) rfl ?_ | refine e_retT (()) ?_)
    (repeat (first | exact Imp.refl | exact Imp.nil | (apply Imp.pick; (focus ((repeat constructor); done))) | refine Imp.drop ?_))
  ((with_reducible refine e_gdT ?_)); ((with_reducible refine e_gdT ?_))
  refine e_ask v_gtr Imp.nil (fun h2 => ?_) (fun h2 => ?_)
  · have hb := bad (fun c => by unfold okT at c; omega)
    rw [hb.1, hb.2]
    (((with_reducible refine e_opN v_pickF Imp.nil ?_))); ((with_reducible refine e_condT ?_)); (((with_reducible refine e_opN v_rv Imp.nil ?_))); (((with_reducible refine' e_stAgg ?hp ?hn ?hv ?h1 ?_); (case hp => (repeat constructor)); (case hn => rfl); (case hv => rfl); (case h1 => simp [Value.oneCell']))); (((with_reducible refine' e_stS (v_resA ?hn) ?hi ?_); (case hi => (repeat (first | exact Imp.refl | exact Imp.nil | (apply Imp.pick; (focus ((repeat constructor); done))) | refine Imp.drop ?_))); (case hn => rfl)))
    (first | refine e_ret (()) rfl ?_ | refine e_retT (()) ?_)
    (repeat (first | exact Imp.refl | exact Imp.nil | (apply Imp.pick; (focus ((repeat constructor); done))) | refine Imp.drop ?_))
  have ok : okT n := ⟨by omega, by omega⟩
  have hT := ok
  unfold okT at hT
  rw [show spE n = 0 from if_pos ok]
  have hN : 0 ≤ n / 86400 ∧ n / 86400 ≤ 2932896 := by omega
  have hsp : spD n = ⟨cY (n / 86400), cM (n / 86400), cD (n / 86400), n / 3600 % 24, n / 60 % 60, n % 60, (n / 86400 + 4) % 7⟩ := by
    rw [sp_eq ok]
    rw [show n % 86400 / 3600 = n / 3600 % 24 by omega, show n % 3600 / 60 = n / 60 % 60 by omega]
  rw [hsp]
  obtain ⟨d1, d2, d3, d4, d5⟩ := day_in (n := n / 86400) hN.1
  have hY0 := cY_low (n := n / 86400) hN.1
  have hY1 := (cY_b (n := n / 86400) hN).2
  have hM := cM_b (n / 86400)
  (((with_reducible refine e_opN v_pickF Imp.nil ?_))); ((with_reducible refine e_condF ?_)); (((with_reducible refine e_opN (v_quo ?h1 ?h2 ?h3) Imp.nil ?_); (case h1 => omega); (case h2 => omega); (case h3 => omega))); (((with_reducible refine e_opN (v_rem ?h1 ?h2) Imp.nil ?_); (case h1 => omega); (case h2 => omega))); (((with_reducible refine e_opN (v_quo ?h1 ?h2 ?h3) Imp.nil ?_); (case h1 => omega); (case h2 => omega); (case h3 => omega))); (((with_reducible refine e_opN (v_rem ?h1 ?h2) Imp.nil ?_); (case h1 => omega); (case h2 => omega))); (((with_reducible refine e_opN (v_rem ?h1 ?h2) Imp.nil ?_); (case h1 => omega); (case h2 => omega))); (((with_reducible refine e_opN v_rv Imp.nil ?_))); (((with_reducible refine e_newA fun g => ?_))); (((with_reducible refine' e_stAgg ?hp ?hn ?hv ?h1 ?_); (case hp => (repeat constructor)); (case hn => rfl); (case hv => rfl); (case h1 => simp [Value.oneCell']))); (((with_reducible refine e_opN (v_quo ?h1 ?h2 ?h3) Imp.nil ?_); (case h1 => omega); (case h2 => omega); (case h3 => omega))); (((with_reducible refine e_opN (v_add ?h1 ?h2) Imp.nil ?_); (case h1 => omega); (case h2 => omega))); (((with_reducible refine e_opN (v_rem ?h1 ?h2) Imp.nil ?_); (case h1 => omega); (case h2 => omega))); (((with_reducible refine e_opN v_fa0 Imp.nil ?_))); (((with_reducible refine' e_stN ?hp ?ho ?_); (case hp => (repeat constructor)); (case ho => (repeat (first | exact Put.here | apply Put.there)))))
  rename Nat => b4
  generalize n / 3600 % 24 = hh
  generalize n / 60 % 60 = mi
  generalize n % 60 = ss
  generalize (n / 86400 + 4) % 7 = ww
  generalize n / 86400 = N at *
  generalize cD N = D at *
  generalize cM N = M at *
  generalize cY N = Y at *
  have j70 : dayN 1970 1 1 = 0 := by decide
  refine e_loop1 (fun m y5 => (ex fun y : Int => all [pu (y5 = .int .i64 (N - dayN y 1 1) ∧ 1970 ≤ y ∧ (m : Int) + y = Y), pt b4 (.cells #[.int .i64 y, .int .i64 1, .int .i64 0, .int .i64 hh, .int .i64 mi, .int .i64 ss, .int .i64 ww] 23)]) :: pt b2 (.cells #[.int .i64 0, .int .i64 0, .int .i64 0, .int .i64 0, .int .i64 0, .int .i64 0, .int .i64 0] 23) :: F) (Y - 1970).toNat ?_ ?_
  · refine .ex 1970 (.all ?_)
    (try simp only [List.cons_append, List.nil_append, -eq_self])
    refine .pu ⟨by rw [j70, Int.sub_zero], by omega, by omega⟩ ?_
    (repeat (first | exact Imp.refl | exact Imp.nil | (apply Imp.pick; (focus ((repeat constructor); done))) | refine Imp.drop ?_))
  intro m ds y5
  (try simp only [List.cons_append, List.nil_append, -eq_self])
  refine e_ex Pick.here fun y => e_all Pick.here ?_
  (try simp only [List.cons_append, List.nil_append, -eq_self])
  refine e_pu Pick.here fun hi => ?_
  obtain ⟨rfl, hy0, hmy⟩ := hi
  have hjs := jan_step y
  have hjy := jan_mono (a := y) (b := Y) (by omega)
  have hj0 := jan_mono (a := 1970) (b := y) (by omega)
  rw [j70] at hj0
  have hyr : 365 ≤ yrN y ∧ yrN y ≤ 366 := by unfold yrN; split <;> omega
  (((with_reducible refine e_opN v_fa0 Imp.nil ?_))); (((with_reducible refine' e_opN (v_ldN ?hc) ?hi ?_); (case hi => (repeat (first | exact Imp.refl | exact Imp.nil | (apply Imp.pick; (focus ((repeat constructor); done))) | refine Imp.drop ?_))); (case hc => (repeat (first | exact Nth.here | apply Nth.there)))))
  (refine' e_call (year (y := y) (by omega)) ?hp fun _ => ?_; (case hp => (repeat (first | exact Picks.nil | (apply Picks.cons; (focus (repeat constructor)))))); (try simp only [List.cons_append, List.nil_append, Bool.not_true, Bool.not_false]))
  refine e_ask v_geq Imp.nil (fun hg => ?_) (fun hg => ?_)
  · have hlt : y < Y := by
      rcases Int.lt_or_le y Y with c | c
      · exact c
      · have : y = Y := by omega
        subst this; omega
    ((with_reducible refine e_condT ?_)); (((with_reducible refine e_opN v_fa0 Imp.nil ?_))); (((with_reducible refine' e_opN (v_ldN ?hc) ?hi ?_); (case hi => (repeat (first | exact Imp.refl | exact Imp.nil | (apply Imp.pick; (focus ((repeat constructor); done))) | refine Imp.drop ?_))); (case hc => (repeat (first | exact Nth.here | apply Nth.there)))))
    (refine' e_call (year (y := y) (by omega)) ?hp fun _ => ?_; (case hp => (repeat (first | exact Picks.nil | (apply Picks.cons; (focus (repeat constructor)))))); (try simp only [List.cons_append, List.nil_append, Bool.not_true, Bool.not_false]))
    (((with_reducible refine e_opN (v_sub ?h1 ?h2) Imp.nil ?_); (case h1 => omega); (case h2 => omega))); (((with_reducible refine e_opN v_fa0 Imp.nil ?_))); (((with_reducible refine' e_opN (v_ldN ?hc) ?hi ?_); (case hi => (repeat (first | exact Imp.refl | exact Imp.nil | (apply Imp.pick; (focus ((repeat constructor); done))) | refine Imp.drop ?_))); (case hc => (repeat (first | exact Nth.here | apply Nth.there))))); (((with_reducible refine e_opN (v_add ?h1 ?h2) Imp.nil ?_); (case h1 => omega); (case h2 => omega))); (((with_reducible refine e_opN v_fa0 Imp.nil ?_))); (((with_reducible refine' e_stN ?hp ?ho ?_); (case hp => (repeat constructor)); (case ho => (repeat (first | exact Put.here | apply Put.there)))))
    refine e_next1 (m - 1) (by omega) (.ex (y + 1) (.all ?_))
    (try simp only [List.cons_append, List.nil_append, -eq_self])
    refine .pu ⟨by congr 1; omega, by omega, by omega⟩ ?_
    (repeat (first | exact Imp.refl | exact Imp.nil | (apply Imp.pick; (focus ((repeat constructor); done))) | refine Imp.drop ?_))
  have hyY : y = Y := by
    rcases Int.lt_or_le y Y with c | c
    · have := jan_mono (a := y + 1) (b := Y) (by omega)
      omega
    · omega
  subst hyY
  clear hmy hjs hyr hg
  ((with_reducible refine e_condF ?_))
  refine e_loop1 (fun m y5 => (ex fun mo : Int => all [pu (y5 = .int .i64 (N - dayN y mo 1) ∧ 1 ≤ mo ∧ (m : Int) + mo = M), pt b4 (.cells #[.int .i64 y, .int .i64 mo, .int .i64 0, .int .i64 hh, .int .i64 mi, .int .i64 ss, .int .i64 ww] 23)]) :: pt b2 (.cells #[.int .i64 0, .int .i64 0, .int .i64 0, .int .i64 0, .int .i64 0, .int .i64 0, .int .i64 0] 23) :: F) (M - 1).toNat ?_ ?_
  · refine .ex 1 (.all ?_)
    (try simp only [List.cons_append, List.nil_append, -eq_self])
    refine .pu ⟨rfl, by omega, by omega⟩ ?_
    (repeat (first | exact Imp.refl | exact Imp.nil | (apply Imp.pick; (focus ((repeat constructor); done))) | refine Imp.drop ?_))
  clear m
  intro m ds2 y5
  (try simp only [List.cons_append, List.nil_append, -eq_self])
  refine e_ex Pick.here fun mo => e_all Pick.here ?_
  (try simp only [List.cons_append, List.nil_append, -eq_self])
  refine e_pu Pick.here fun hi => ?_
  obtain ⟨rfl, hm0, hmm⟩ := hi
  have hmb := ml_b y mo
  have hmy2 := mon_le (y := y) (m := mo) (M := M) hm0 (by omega) hM.2
  have hm1 := mon_le (y := y) (m := 1) (M := mo) (by omega) hm0 (by omega)
  (((with_reducible refine e_opN v_fa0 Imp.nil ?_))); (((with_reducible refine' e_opN (v_ldN ?hc) ?hi ?_); (case hi => (repeat (first | exact Imp.refl | exact Imp.nil | (apply Imp.pick; (focus ((repeat constructor); done))) | refine Imp.drop ?_))); (case hc => (repeat (first | exact Nth.here | apply Nth.there))))); (((with_reducible refine e_opN v_fa0 Imp.nil ?_))); (((with_reducible refine' e_opN (v_ldN ?hc) ?hi ?_); (case hi => (repeat (first | exact Imp.refl | exact Imp.nil | (apply Imp.pick; (focus ((repeat constructor); done))) | refine Imp.drop ?_))); (case hc => (repeat (first | exact Nth.here | apply Nth.there)))))
  (refine' e_call (rdays (y := y) (m := mo) (by omega)) ?hp fun _ => ?_; (case hp => (repeat (first | exact Picks.nil | (apply Picks.cons; (focus (repeat constructor)))))); (try simp only [List.cons_append, List.nil_append, Bool.not_true, Bool.not_false]))
  refine e_ask v_geq Imp.nil (fun hg => ?_) (fun hg => ?_)
  · have hlt : mo < M := by
      rcases Int.lt_or_le mo M with c | c
      · exact c
      · have : mo = M := by omega
        subst this; omega
    have hms := ml_step (y := y) (m := mo) (by omega)
    ((with_reducible refine e_condT ?_)); (((with_reducible refine e_opN v_fa0 Imp.nil ?_))); (((with_reducible refine' e_opN (v_ldN ?hc) ?hi ?_); (case hi => (repeat (first | exact Imp.refl | exact Imp.nil | (apply Imp.pick; (focus ((repeat constructor); done))) | refine Imp.drop ?_))); (case hc => (repeat (first | exact Nth.here | apply Nth.there))))); (((with_reducible refine e_opN v_fa0 Imp.nil ?_))); (((with_reducible refine' e_opN (v_ldN ?hc) ?hi ?_); (case hi => (repeat (first | exact Imp.refl | exact Imp.nil | (apply Imp.pick; (focus ((repeat constructor); done))) | refine Imp.drop ?_))); (case hc => (repeat (first | exact Nth.here | apply Nth.there)))))
    (refine' e_call (rdays (y := y) (m := mo) (by omega)) ?hp fun _ => ?_; (case hp => (repeat (first | exact Picks.nil | (apply Picks.cons; (focus (repeat constructor)))))); (try simp only [List.cons_append, List.nil_append, Bool.not_true, Bool.not_false]))
    (((with_reducible refine e_opN (v_sub ?h1 ?h2) Imp.nil ?_); (case h1 => omega); (case h2 => omega))); (((with_reducible refine e_opN v_fa0 Imp.nil ?_))); (((with_reducible refine' e_opN (v_ldN ?hc) ?hi ?_); (case hi => (repeat (first | exact Imp.refl | exact Imp.nil | (apply Imp.pick; (focus ((repeat constructor); done))) | refine Imp.drop ?_))); (case hc => (repeat (first | exact Nth.here | apply Nth.there))))); (((with_reducible refine e_opN (v_add ?h1 ?h2) Imp.nil ?_); (case h1 => omega); (case h2 => omega))); (((with_reducible refine e_opN v_fa0 Imp.nil ?_))); (((with_reducible refine' e_stN ?hp ?ho ?_); (case hp => (repeat constructor)); (case ho => (repeat (first | exact Put.here | apply Put.there)))))
    refine e_next1 (m - 1) (by omega) (.ex (mo + 1) (.all ?_))
    (try simp only [List.cons_append, List.nil_append, -eq_self])
    refine .pu ⟨by congr 1; omega, by omega, by omega⟩ ?_
    (repeat (first | exact Imp.refl | exact Imp.nil | (apply Imp.pick; (focus ((repeat constructor); done))) | refine Imp.drop ?_))
  have hmM : mo = M := by
    rcases Int.lt_or_le mo M with c | c
    · have h1 := ml_step (y := y) (m := mo) (by omega)
      have h2 := mon_le (y := y) (m := mo + 1) (M := M) (by omega) (by omega) hM.2
      omega
    · omega
  subst hmM
  ((with_reducible refine e_condF ?_)); (((with_reducible refine e_opN (v_add ?h1 ?h2) Imp.nil ?_); (case h1 => omega); (case h2 => omega))); (((with_reducible refine e_opN v_fa0 Imp.nil ?_))); (((with_reducible refine' e_stN ?hp ?ho ?_); (case hp => (repeat constructor)); (case ho => (repeat (first | exact Put.here | apply Put.there))))); (((with_reducible refine' e_opN (v_ldAgg ?hn) ?hi ?_); (case hi => (repeat (first | exact Imp.refl | exact Imp.nil | (apply Imp.pick; (focus ((repeat constructor); done))) | refine Imp.drop ?_))); (case hn => rfl))); (((with_reducible refine' e_stAgg ?hp ?hn ?hv ?h1 ?_); (case hp => (repeat constructor)); (case hn => rfl); (case hv => rfl); (case h1 => simp [Value.oneCell']))); (((with_reducible refine' e_stS (v_resA ?hn) ?hi ?_); (case hi => (repeat (first | exact Imp.refl | exact Imp.nil | (apply Imp.pick; (focus ((repeat constructor); done))) | refine Imp.drop ?_))); (case hn => rfl)))
  rw [show N - dayN y mo 1 + 1 = D by omega]
  (first | refine e_ret (()) rfl ?_ | refine e_retT (()) ?_)
  (repeat (first | exact Imp.refl | exact Imp.nil | (apply Imp.pick; (focus ((repeat constructor); done))) | refine Imp.drop ?_))
end Go.Proofs.Ytcmpkkkigmheoaa.D
