/- The calendar, plain: a day's date is written back, and the next day. No program in sight. No conditions but those that each names. -/
import Derived.Test.YtcmpkkkigmheoaaDate12
set_option linter.unusedVariables false
set_option linter.unusedSimpArgs false
namespace Go.Proofs.Ytcmpkkkigmheoaa.D
open Go Go.Proofs Go.RowKit Go.Proofs.Ytcmpkkkigmheoaa.Sh Go.Proofs.Ytcmpkkkigmheoaa.Sl Go.Proofs.Ytcmpkkkigmheoaa.T
/-- days of an era before a year of it -/
def sY (y : Int) : Int := 365 * y + y / 4 - y / 100
theorem dD_s (e : Int) : e = sY (dY e) + dD e := by unfold dD sY; omega
theorem last_in {c r q y z : Int} (hc : 0 ≤ c ∧ c ≤ 3) (hr : 0 ≤ r ∧ r ≤ 36523) (hq : 1460 * q ≤ 24 * c + r ∧ 24 * c + r < 1460 * q + 1460) (hy : 365 * y ≤ r - q ∧ r - q < 365 * y + 365) (hz : 4 * z ≤ y ∧ y < 4 * z + 4) (hy2 : y ≤ 98) : r < 365 * (y + 1) + (y + 1) / 4 := by
  by_cases h3 : y = 4 * z + 3
  · have : (y + 1) / 4 = z + 1 := by omega
    rw [this]; omega
  · have : (y + 1) / 4 = z := by omega
    rw [this]; omega
/-- a day lies before the next year -/
theorem e_lt {e : Int} (h : 0 ≤ e ∧ e ≤ 146096) : dY e ≤ 398 → e < sY (dY e + 1) := by
  intro hy
  rcases cent h with rfl | ⟨c, r, hc, hr, rfl⟩
  · exact absurd hy (by decide)
  · obtain ⟨q, y, z, h1, h2, h3, h4, h5⟩ := dD_at hc hr
    have hb := doy_b hc hr h1 h2 h3
    rw [h4] at hy ⊢
    by_cases c98 : y ≤ 98
    · have := last_in hc hr h1 h2 h3 c98
      unfold sY
      have g1 : (100 * c + y + 1) / 4 = 25 * c + (y + 1) / 4 := by omega
      have g2 : (100 * c + y + 1) / 100 = c := by omega
      rw [g1, g2]; omega
    · have hy99 : y = 99 := by omega
      subst hy99
      unfold sY
      have g1 : (100 * c + 99 + 1) / 4 = 25 * c + 25 := by omega
      have g2 : (100 * c + 99 + 1) / 100 = c + 1 := by omega
      rw [g1, g2]; omega
theorem sY_mono {a b : Int} (h : a ≤ b) : sY a ≤ sY b := by unfold sY; omega
/-- only one year fits -/
theorem dY_eq {e y : Int} (he : 0 ≤ e ∧ e ≤ 146096) (hy : 0 ≤ y ∧ y ≤ 399) (h1 : sY y ≤ e) (h2 : y ≤ 398 → e < sY (y + 1)) : dY e = y ∧ dD e = e - sY y := by
  have hb := dY_b he
  have hs := dD_s e
  have hd := dD_b he
  have hl := e_lt he
  have hyy : dY e = y := by
    rcases Int.lt_trichotomy (dY e) y with c | c | c
    · have := hl (by omega)
      have := sY_mono (show dY e + 1 ≤ y by omega)
      omega
    · exact c
    · have := h2 (by omega)
      have := sY_mono (show y + 1 ≤ dY e by omega)
      omega
  refine ⟨hyy, ?_⟩
  rw [hyy] at hs; omega
theorem dM_day {d : Int} (h : 0 ≤ d ∧ d ≤ 365) : 0 ≤ (5 * d + 2) / 153 ∧ (5 * d + 2) / 153 ≤ 11 := by omega
/-- back -/
theorem dayN_back {n : Int} (h : 0 ≤ n) : dayN (cY n) (cM n) (cD n) = n := by
  have he := dE_b n
  have hy := dY_b he
  have hd := dD_b he
  have hs := dD_s (dE n)
  have hm := dM_b he
  have ha : adj (cY n) (cM n) = (n + 719468) / 146097 * 400 + dY (dE n) := by
    unfold adj cY
    by_cases c : cM n ≤ 2
    · rw [if_pos c, if_pos c]; omega
    · rw [if_neg c, if_neg c]; omega
  have hN : n + 719468 = (n + 719468) / 146097 * 146097 + dE n := by unfold dE; omega
  have hmp : (cM n + 9) % 12 = dM (dE n) := by unfold cM; omega
  unfold dayN
  rw [ha, hmp]
  have hD : cD n = dD (dE n) - (153 * dM (dE n) + 2) / 5 + 1 := rfl
  rw [hD]
  unfold sY at hs
  generalize (n + 719468) / 146097 = q at *
  generalize dY (dE n) = y at *
  generalize dD (dE n) = d at *
  generalize dM (dE n) = mp at *
  generalize dE n = e at *
  have g1 : (q * 400 + y) / 400 = q := by omega
  have g2 : (q * 400 + y) % 400 = y := by omega
  rw [g1, g2]
  omega
theorem cY_low {n : Int} (h : 0 ≤ n) : 1970 ≤ cY n := by
  have he := dE_b n
  have hy := dY_b he
  have hd := dD_b he
  have hs := dD_s (dE n)
  have hl := e_lt he
  have hN : n + 719468 = (n + 719468) / 146097 * 146097 + dE n := by unfold dE; omega
  unfold cY
  by_cases c5 : 5 ≤ (n + 719468) / 146097
  · split <;> omega
  · have h4 : (n + 719468) / 146097 = 4 := by omega
    rw [h4] at hN ⊢
    have hy3 : 369 ≤ dY (dE n) := by
      by_cases c : 369 ≤ dY (dE n)
      · exact c
      · have h1 := hl (by omega)
        have h2 := sY_mono (show dY (dE n) + 1 ≤ 369 by omega)
        have h3 : sY 369 = 134774 := by decide
        omega
    by_cases c : dY (dE n) = 369
    · have hd3 : 306 ≤ dD (dE n) := by
        rw [c] at hs
        have h3 : sY 369 = 134774 := by decide
        omega
      have hm : cM n ≤ 2 := by
        unfold cM dM
        have h10 : (5 * dD (dE n) + 2) / 153 = 10 ∨ (5 * dD (dE n) + 2) / 153 = 11 := by omega
        rcases h10 with h | h <;> rw [h] <;> decide
      rw [if_pos hm]; omega
    · split <;> omega
def nextOk (n : Int) : Prop := (cD (n + 1) = cD n + 1 ∧ cM (n + 1) = cM n ∧ cY (n + 1) = cY n) ∨ (cD (n + 1) = 1 ∧ 28 ≤ cD n ∧ cM (n + 1) = cM n % 12 + 1 ∧ ((cM n < 12 ∧ cY (n + 1) = cY n) ∨ (cM n = 12 ∧ cY (n + 1) = cY n + 1)))
/-- within a year -/
theorem next_in {d : Int} (h : 0 ≤ d ∧ d ≤ 364) : ((5 * (d + 1) + 2) / 153 = (5 * d + 2) / 153) ∨ ((5 * (d + 1) + 2) / 153 = (5 * d + 2) / 153 + 1 ∧ (5 * d + 2) / 153 ≤ 10 ∧ d + 1 = (153 * ((5 * d + 2) / 153 + 1) + 2) / 5 ∧ 28 ≤ d - (153 * ((5 * d + 2) / 153) + 2) / 5 + 1) := by
  obtain ⟨m, hm⟩ : ∃ m, m = (5 * d + 2) / 153 := ⟨_, rfl⟩
  rw [← hm]
  have h1 : 0 ≤ m ∧ m ≤ 11 := by omega
  have h2 : 153 * m ≤ 5 * d + 2 ∧ 5 * d + 2 < 153 * m + 153 := by omega
  clear hm
  have : m = 0 ∨ m = 1 ∨ m = 2 ∨ m = 3 ∨ m = 4 ∨ m = 5 ∨ m = 6 ∨ m = 7 ∨ m = 8 ∨ m = 9 ∨ m = 10 ∨ m = 11 := by omega
  rcases this with rfl | rfl | rfl | rfl | rfl | rfl | rfl | rfl | rfl | rfl | rfl | rfl <;> omega
theorem cM_of {n mp : Int} (h : dM (dE n) = mp) : cM n = (mp + 2) % 12 + 1 := by unfold cM; rw [h]
theorem mp12 {m : Int} (h : 0 ≤ m ∧ m ≤ 10) : (m + 1 + 2) % 12 + 1 = ((m + 2) % 12 + 1) % 12 + 1 ∧ (((m + 2) % 12 + 1 < 12 ∧ ((m + 2) % 12 + 1 ≤ 2 ↔ (m + 1 + 2) % 12 + 1 ≤ 2)) ∨ ((m + 2) % 12 + 1 = 12 ∧ (m + 1 + 2) % 12 + 1 ≤ 2)) := by
  have : m = 0 ∨ m = 1 ∨ m = 2 ∨ m = 3 ∨ m = 4 ∨ m = 5 ∨ m = 6 ∨ m = 7 ∨ m = 8 ∨ m = 9 ∨ m = 10 := by omega
  rcases this with rfl | rfl | rfl | rfl | rfl | rfl | rfl | rfl | rfl | rfl | rfl <;> decide
theorem next_day {n : Int} (h : 0 ≤ n ∧ n ≤ 2932895) : nextOk n := by
  have he := dE_b n
  have hy := dY_b he
  have hd := dD_b he
  have hs := dD_s (dE n)
  have hl := e_lt he
  unfold nextOk
  by_cases c0 : dE n = 146096
  · have hE : dE (n + 1) = 0 ∧ (n + 1 + 719468) / 146097 = (n + 719468) / 146097 + 1 := by unfold dE at c0 ⊢; omega
    have m1 : cM n = 2 := by unfold cM; rw [c0]; decide
    have m2 : cM (n + 1) = 3 := by unfold cM; rw [hE.1]; decide
    refine .inr ⟨by unfold cD; rw [hE.1]; decide, by unfold cD; rw [c0]; decide, by rw [m1, m2]; decide, .inl ⟨by rw [m1]; decide, ?_⟩⟩
    unfold cY
    rw [m1, m2, hE.1, hE.2, c0, if_neg (by decide), if_pos (by decide), show dY 146096 = 399 by decide, show dY 0 = 0 by decide]
    omega
  have hE : dE (n + 1) = dE n + 1 ∧ (n + 1 + 719468) / 146097 = (n + 719468) / 146097 := by unfold dE at c0 ⊢; omega
  by_cases c1 : dY (dE n) ≤ 398 ∧ dE n + 1 = sY (dY (dE n) + 1)
  · obtain ⟨a1, a2⟩ := dY_eq (e := dE n + 1) (y := dY (dE n) + 1) (by omega) (by omega) (by omega) (fun _ => by rw [c1.2]; unfold sY; omega)
    have hd2 : dD (dE n) = 364 ∨ dD (dE n) = 365 := by
      have : sY (dY (dE n) + 1) - sY (dY (dE n)) = 365 ∨ sY (dY (dE n) + 1) - sY (dY (dE n)) = 366 := by unfold sY; omega
      omega
    have e0 : dD (dE n + 1) = 0 := by rw [a2]; omega
    have m1 : cM n = 2 := by
      unfold cM dM
      rcases hd2 with x | x <;> rw [x] <;> decide
    have m2 : cM (n + 1) = 3 := by unfold cM dM; rw [hE.1, e0]; decide
    refine .inr ⟨by unfold cD dM; rw [hE.1, e0]; decide, ?_, by rw [m1, m2]; decide, .inl ⟨by rw [m1]; decide, ?_⟩⟩
    · unfold cD dM
      rcases hd2 with x | x <;> rw [x] <;> decide
    · unfold cY
      rw [m1, m2, hE.1, hE.2, a1, if_neg (by decide), if_pos (by decide)]
      omega
  · obtain ⟨a1, a2⟩ := dY_eq (e := dE n + 1) (y := dY (dE n)) (by omega) hy (by omega) (fun c => by have := hl c; omega)
    have a3 : dD (dE n + 1) = dD (dE n) + 1 := by rw [a2]; omega
    have hd3 := dD_b (e := dE n + 1) (by omega)
    rw [a3] at hd3
    have hM : dM (dE n) = (5 * dD (dE n) + 2) / 153 := rfl
    have hM1 : dM (dE n + 1) = (5 * (dD (dE n) + 1) + 2) / 153 := by unfold dM; rw [a3]
    have hm0 := dM_b he
    have hY : ∀ k, cY k = (k + 719468) / 146097 * 400 + dY (dE k) + (if cM k ≤ 2 then 1 else 0) := fun _ => rfl
    rcases next_in (d := dD (dE n)) (by omega) with x | ⟨x1, x2, x3, x4⟩
    · have mm : dM (dE (n + 1)) = dM (dE n) := by rw [hE.1, hM1, x, hM]
      have hcm : cM (n + 1) = cM n := by unfold cM; rw [mm]
      refine .inl ⟨?_, hcm, ?_⟩
      · unfold cD; rw [mm, hE.1, a3]; omega
      · rw [hY, hY, hcm, hE.1, hE.2, a1]
    · rw [← hM] at x1 x2 x3 x4
      have mm : dM (dE (n + 1)) = dM (dE n) + 1 := by rw [hE.1, hM1, x1]
      obtain ⟨k1, k2⟩ := mp12 (m := dM (dE n)) ⟨hm0.1, x2⟩
      have c1' : cM (n + 1) = (dM (dE n) + 1 + 2) % 12 + 1 := cM_of mm
      have c2' : cM n = (dM (dE n) + 2) % 12 + 1 := cM_of rfl
      rw [← c1', ← c2'] at k1 k2
      refine .inr ⟨?_, x4, k1, ?_⟩
      · unfold cD; rw [mm, hE.1, a3]; omega
      · rcases k2 with ⟨g1, g2⟩ | ⟨g1, g2⟩
        · refine .inl ⟨g1, ?_⟩
          rw [hY, hY, hE.1, hE.2, a1]
          by_cases c : cM n ≤ 2
          · rw [if_pos c, if_pos (g2.1 c)]
          · rw [if_neg c, if_neg (fun x => c (g2.2 x))]
        · refine .inr ⟨g1, ?_⟩
          rw [hY, hY, hE.1, hE.2, a1, if_pos g2, if_neg (by omega)]
          omega
end Go.Proofs.Ytcmpkkkigmheoaa.D
