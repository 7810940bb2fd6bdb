/- Days and their dates: what the code computes. No conditions but those that each names. -/
import Derived.Test.YtcmpkkkigmheoaaStr
import Derived.Test.YtcmpkkkigmheoaaInts
import Derived.Test.YtcmpkkkigmheoaaShapes
set_option linter.unusedVariables false
set_option linter.unusedSimpArgs false
namespace Go.Proofs.Ytcmpkkkigmheoaa.D
open Go Go.Proofs Go.RowKit Go.Proofs.Ytcmpkkkigmheoaa.Sh Go.Proofs.Ytcmpkkkigmheoaa.Sl Go.Proofs.Ytcmpkkkigmheoaa.T
def dE (n : Int) : Int := (n + 719468) % 146097
def dY (e : Int) : Int := (e - e / 1460 + e / 36524 - e / 146096) / 365
def dD (e : Int) : Int := e - (365 * dY e + dY e / 4 - dY e / 100)
def dM (e : Int) : Int := (5 * dD e + 2) / 153
def cM (n : Int) : Int := (dM (dE n) + 2) % 12 + 1
def cY (n : Int) : Int := (n + 719468) / 146097 * 400 + dY (dE n) + (if cM n ≤ 2 then 1 else 0)
def cD (n : Int) : Int := dD (dE n) - (153 * dM (dE n) + 2) / 5 + 1
theorem dE_b (n : Int) : 0 ≤ dE n ∧ dE n ≤ 146096 := by unfold dE; omega
theorem dY_b {e : Int} (h : 0 ≤ e ∧ e ≤ 146096) : 0 ≤ dY e ∧ dY e ≤ 399 := by unfold dY; omega
theorem dY_at {c r : Int} (hc : 0 ≤ c ∧ c ≤ 3) (hr : 0 ≤ r ∧ r ≤ 36523) : dY (36524 * c + r) = 100 * c + (r - (24 * c + r) / 1460) / 365 := by
  unfold dY
  have e1 : (36524 * c + r) / 1460 = 25 * c + (24 * c + r) / 1460 := by omega
  have e2 : (36524 * c + r) / 36524 = c := by omega
  have e3 : (36524 * c + r) / 146096 = 0 := by omega
  rw [e1, e2, e3]
  omega
theorem doy_b {c r q y z : Int} (hc : 0 ≤ c ∧ c ≤ 3) (hr : 0 ≤ r ∧ r ≤ 36523) (hq : 1460 * q ≤ 24 * c + r ∧ 24 * c + r < 1460 * q + 1460) (hy : 365 * y ≤ r - q ∧ r - q < 365 * y + 365) (hz : 4 * z ≤ y ∧ y < 4 * z + 4) : 0 ≤ r - 365 * y - z ∧ r - 365 * y - z ≤ 365 ∧ 0 ≤ y ∧ y ≤ 99 := by omega
theorem cent {e : Int} (h : 0 ≤ e ∧ e ≤ 146096) : e = 146096 ∨ ∃ c r : Int, (0 ≤ c ∧ c ≤ 3) ∧ (0 ≤ r ∧ r ≤ 36523) ∧ e = 36524 * c + r := by
  by_cases he : e = 146096
  · exact .inl he
  · exact .inr ⟨e / 36524, e % 36524, by omega, by omega, by omega⟩
theorem dD_at {c r : Int} (hc : 0 ≤ c ∧ c ≤ 3) (hr : 0 ≤ r ∧ r ≤ 36523) : ∃ q y z : Int, (1460 * q ≤ 24 * c + r ∧ 24 * c + r < 1460 * q + 1460) ∧ (365 * y ≤ r - q ∧ r - q < 365 * y + 365) ∧ (4 * z ≤ y ∧ y < 4 * z + 4) ∧ dY (36524 * c + r) = 100 * c + y ∧ dD (36524 * c + r) = r - 365 * y - z := by
  refine ⟨(24 * c + r) / 1460, (r - (24 * c + r) / 1460) / 365, (r - (24 * c + r) / 1460) / 365 / 4, by omega, by omega, by omega, dY_at hc hr, ?_⟩
  have hb := doy_b (q := (24 * c + r) / 1460) (y := (r - (24 * c + r) / 1460) / 365) (z := (r - (24 * c + r) / 1460) / 365 / 4) hc hr (by omega) (by omega) (by omega)
  unfold dD
  rw [dY_at hc hr]
  generalize (r - (24 * c + r) / 1460) / 365 = y at hb ⊢
  have g1 : (100 * c + y) / 4 = 25 * c + y / 4 := by omega
  have g2 : (100 * c + y) / 100 = c := by omega
  rw [g1, g2]
  omega
theorem dD_b {e : Int} (h : 0 ≤ e ∧ e ≤ 146096) : 0 ≤ dD e ∧ dD e ≤ 365 := by
  rcases cent h with rfl | ⟨c, r, hc, hr, rfl⟩
  · decide
  · obtain ⟨q, y, z, h1, h2, h3, _, h5⟩ := dD_at hc hr
    have := doy_b hc hr h1 h2 h3
    rw [h5]; omega
theorem dM_b {e : Int} (h : 0 ≤ e ∧ e ≤ 146096) : 0 ≤ dM e ∧ dM e ≤ 11 := by have := dD_b h; unfold dM; omega
theorem civil {W : World} {n : Int} (h0 : 0 ≤ n) (h1 : n ≤ 3000000) : Cn Try.prog 22 [.int .i64 n] W [] (fun _ : Unit => .tuple #[.int .i64 (cY n), .int .i64 (cM n), .int .i64 (cD n)]) (fun _ => []) := by
  (refine S.dates_civil_cn fun F => ?_; unfold S.dates_civil; simp only [List.cons_append, List.nil_append])
  have hb := dE_b n
  have y1 := dY_b hb
  have d1 := dD_b hb
  have m1 := dM_b hb
  refine e_opN (v_add (by omega) (by omega)) Imp.nil ?_
  refine e_opN (v_quo (by omega) (by omega) (by omega)) Imp.nil ?_
  refine e_opN (v_rem (by omega) (by omega)) Imp.nil ?_
  rw [show (n + 719468) % 146097 = dE n from rfl]
  obtain ⟨e, he⟩ : ∃ x, x = dE n := ⟨_, rfl⟩
  rw [← he] at hb y1 d1 m1 ⊢
  refine e_opN (v_quo (by omega) (by omega) (by omega)) Imp.nil ?_
  refine e_opN (v_sub (by omega) (by omega)) Imp.nil ?_
  refine e_opN (v_quo (by omega) (by omega) (by omega)) Imp.nil ?_
  refine e_opN (v_add (by omega) (by omega)) Imp.nil ?_
  refine e_opN (v_quo (by omega) (by omega) (by omega)) Imp.nil ?_
  refine e_opN (v_sub (by omega) (by omega)) Imp.nil ?_
  refine e_opN (v_quo (by omega) (by omega) (by omega)) Imp.nil ?_
  rw [show (e - e / 1460 + e / 36524 - e / 146096) / 365 = dY e from rfl]
  have hd : dD e = e - (365 * dY e + dY e / 4 - dY e / 100) := rfl
  have hm : dM e = (5 * dD e + 2) / 153 := rfl
  have hcM : cM n = (dM e + 2) % 12 + 1 := by unfold cM; rw [he]
  have hcY : cY n = (n + 719468) / 146097 * 400 + dY e + (if cM n ≤ 2 then 1 else 0) := by unfold cY; rw [he]
  have hcD : cD n = dD e - (153 * dM e + 2) / 5 + 1 := by unfold cD; rw [he]
  generalize dY e = y at *
  generalize dD e = d at *
  generalize dM e = mp at *
  refine e_opN (v_mul (by omega) (by omega)) Imp.nil ?_
  refine e_opN (v_quo (by omega) (by omega) (by omega)) Imp.nil ?_
  refine e_opN (v_add (by omega) (by omega)) Imp.nil ?_
  refine e_opN (v_quo (by omega) (by omega) (by omega)) Imp.nil ?_
  refine e_opN (v_sub (by omega) (by omega)) Imp.nil ?_
  refine e_opN (v_sub (by omega) (by omega)) Imp.nil ?_
  rw [← hd]
  refine e_opN (v_mul (by omega) (by omega)) Imp.nil ?_
  refine e_opN (v_add (by omega) (by omega)) Imp.nil ?_
  refine e_opN (v_quo (by omega) (by omega) (by omega)) Imp.nil ?_
  rw [← hm]
  (((with_reducible refine e_opN (v_mul ?h1 ?h2) Imp.nil ?_); (case h1 => omega); (case h2 => omega))); (((with_reducible refine e_opN (v_add ?h1 ?h2) Imp.nil ?_); (case h1 => omega); (case h2 => omega))); (((with_reducible refine e_opN (v_add ?h1 ?h2) Imp.nil ?_); (case h1 => omega); (case h2 => omega))); (((with_reducible refine e_opN (v_rem ?h1 ?h2) Imp.nil ?_); (case h1 => omega); (case h2 => omega))); (((with_reducible refine e_opN (v_add ?h1 ?h2) Imp.nil ?_); (case h1 => omega); (case h2 => omega))); (((with_reducible refine e_opN (v_mul ?h1 ?h2) Imp.nil ?_); (case h1 => omega); (case h2 => omega))); (((with_reducible refine e_opN (v_add ?h1 ?h2) Imp.nil ?_); (case h1 => omega); (case h2 => omega))); (((with_reducible refine e_opN (v_quo ?h1 ?h2 ?h3) Imp.nil ?_); (case h1 => omega); (case h2 => omega); (case h3 => omega))); (((with_reducible refine e_opN (v_sub ?h1 ?h2) Imp.nil ?_); (case h1 => omega); (case h2 => omega))); (((with_reducible refine e_opN (v_add ?h1 ?h2) Imp.nil ?_); (case h1 => omega); (case h2 => omega)))
  rw [← hcM, ← hcD]
  refine e_cut1 (fun z => pu (z = .int .i64 (cY n)) :: F) ?_ ?_
  rotate_left
  · (refine e_ask v_leq Imp.nil (fun h => ?_) (fun h => ?_))
    · ((with_reducible refine e_condT ?_)); (((with_reducible refine e_opN (v_add ?h1 ?h2) Imp.nil ?_); (case h1 => omega); (case h2 => omega)))
      refine e_sat (.pu ?_ .refl)
      rw [hcY, if_pos h]
    · ((with_reducible refine e_condF ?_))
      refine e_sat (.pu ?_ .refl)
      rw [hcY, if_neg h, Int.add_zero]
  intro ds z
  (try simp only [List.cons_append, List.nil_append, -eq_self])
  refine e_pu .here fun h => ?_
  subst h
  (first | refine e_ret (()) rfl ?_ | refine e_retT (()) ?_)
  (repeat (first | exact Imp.refl | exact Imp.nil | (apply Imp.pick; (focus ((repeat constructor); done))) | refine Imp.drop ?_))
def adj (y m : Int) : Int := if m ≤ 2 then y - 1 else y
def dayN (y m d : Int) : Int := adj y m / 400 * 146097 + adj y m % 400 * 365 + adj y m % 400 / 4 - adj y m % 400 / 100 + ((153 * ((m + 9) % 12) + 2) / 5 + d - 1) - 719468
theorem days {W : World} {y m d : Int} (hy : 1970 ≤ y ∧ y ≤ 9999) (hm : 1 ≤ m ∧ m ≤ 12) (hd : 1 ≤ d ∧ d ≤ 31) : Cn Try.prog 26 [.int .i64 y, .int .i64 m, .int .i64 d] W [] (fun _ : Unit => .int .i64 (dayN y m d)) (fun _ => []) := by
  (refine S.dates_days_cn fun F => ?_; unfold S.dates_days; simp only [List.cons_append, List.nil_append])
  have ha : 1969 ≤ adj y m ∧ adj y m ≤ 9999 := by unfold adj; split <;> omega
  refine e_cut1 (fun z => pu (z = .int .i64 (adj y m)) :: F) ?_ ?_
  rotate_left
  · (refine e_ask v_leq Imp.nil (fun h => ?_) (fun h => ?_))
    · ((with_reducible refine e_condT ?_)); (((with_reducible refine e_opN (v_sub ?h1 ?h2) Imp.nil ?_); (case h1 => omega); (case h2 => omega)))
      refine e_sat (.pu ?_ .refl)
      unfold adj; rw [if_pos h]
    · ((with_reducible refine e_condF ?_))
      refine e_sat (.pu ?_ .refl)
      unfold adj; rw [if_neg h]
  intro ds z
  (try simp only [List.cons_append, List.nil_append, -eq_self])
  refine e_pu .here fun h => ?_
  subst h
  unfold dayN
  generalize adj y m = a at ha ⊢
  (((with_reducible refine e_opN (v_quo ?h1 ?h2 ?h3) Imp.nil ?_); (case h1 => omega); (case h2 => omega); (case h3 => omega))); (((with_reducible refine e_opN (v_rem ?h1 ?h2) Imp.nil ?_); (case h1 => omega); (case h2 => omega))); (((with_reducible refine e_opN (v_add ?h1 ?h2) Imp.nil ?_); (case h1 => omega); (case h2 => omega))); (((with_reducible refine e_opN (v_rem ?h1 ?h2) Imp.nil ?_); (case h1 => omega); (case h2 => omega))); (((with_reducible refine e_opN (v_mul ?h1 ?h2) Imp.nil ?_); (case h1 => omega); (case h2 => omega))); (((with_reducible refine e_opN (v_add ?h1 ?h2) Imp.nil ?_); (case h1 => omega); (case h2 => omega))); (((with_reducible refine e_opN (v_quo ?h1 ?h2 ?h3) Imp.nil ?_); (case h1 => omega); (case h2 => omega); (case h3 => omega))); (((with_reducible refine e_opN (v_add ?h1 ?h2) Imp.nil ?_); (case h1 => omega); (case h2 => omega))); (((with_reducible refine e_opN (v_sub ?h1 ?h2) Imp.nil ?_); (case h1 => omega); (case h2 => omega))); (((with_reducible refine e_opN (v_mul ?h1 ?h2) Imp.nil ?_); (case h1 => omega); (case h2 => omega))); (((with_reducible refine e_opN (v_mul ?h1 ?h2) Imp.nil ?_); (case h1 => omega); (case h2 => omega))); (((with_reducible refine e_opN (v_add ?h1 ?h2) Imp.nil ?_); (case h1 => omega); (case h2 => omega))); (((with_reducible refine e_opN (v_quo ?h1 ?h2 ?h3) Imp.nil ?_); (case h1 => omega); (case h2 => omega); (case h3 => omega))); (((with_reducible refine e_opN (v_add ?h1 ?h2) Imp.nil ?_); (case h1 => omega); (case h2 => omega))); (((with_reducible refine e_opN (v_quo ?h1 ?h2 ?h3) Imp.nil ?_); (case h1 => omega); (case h2 => omega); (case h3 => omega))); (((with_reducible refine e_opN (v_sub ?h1 ?h2) Imp.nil ?_); (case h1 => omega); (case h2 => omega))); (((with_reducible refine e_opN (v_add ?h1 ?h2) Imp.nil ?_); (case h1 => omega); (case h2 => omega))); (((with_reducible refine e_opN (v_sub ?h1 ?h2) Imp.nil ?_); (case h1 => omega); (case h2 => omega)))
  (first | refine e_ret (()) rfl ?_ | refine e_retT (()) ?_)
  (repeat (first | exact Imp.refl | exact Imp.nil | (apply Imp.pick; (focus ((repeat constructor); done))) | refine Imp.drop ?_))
end Go.Proofs.Ytcmpkkkigmheoaa.D
