/- Years and months one by one, plain: the same calendar. No program in sight. No conditions but those that each names. -/
import Derived.Test.YtcmpkkkigmheoaaDateP
set_option linter.unusedVariables false
set_option linter.unusedSimpArgs false
namespace Go.Proofs.Ytcmpkkkigmheoaa.D
open Go Go.Proofs Go.RowKit Go.Proofs.Ytcmpkkkigmheoaa.Sh Go.Proofs.Ytcmpkkkigmheoaa.Sl Go.Proofs.Ytcmpkkkigmheoaa.T
def leapP (y : Int) : Prop := (y % 4 = 0 ∧ ¬ y % 100 = 0) ∨ y % 400 = 0
instance (y : Int) : Decidable (leapP y) := by unfold leapP; infer_instance
def yrN (y : Int) : Int := if leapP y then 366 else 365
def mlN (y m : Int) : Int := if m = 2 then (if leapP y then 29 else 28) else if m = 4 ∨ m = 6 ∨ m = 9 ∨ m = 11 then 30 else 31
def gN (a : Int) : Int := 365 * a + a / 4 - a / 100 + a / 400
theorem dayN_g (y m d : Int) : dayN y m d = gN (adj y m) + ((153 * ((m + 9) % 12) + 2) / 5 + d - 1) - 719468 := by
  unfold dayN gN
  generalize adj y m = a
  have h1 : a / 4 = 100 * (a / 400) + a % 400 / 4 := by omega
  have h2 : a / 100 = 4 * (a / 400) + a % 400 / 100 := by omega
  have h3 : a = 400 * (a / 400) + a % 400 := by omega
  omega
theorem g_step (y : Int) : gN y = gN (y - 1) + yrN y := by
  by_cases hl : leapP y
  · rw [show yrN y = 366 from if_pos hl]
    unfold leapP at hl
    unfold gN
    omega
  · rw [show yrN y = 365 from if_neg hl]
    unfold leapP at hl
    unfold gN
    omega
theorem adj1 (y : Int) : adj y 1 = y - 1 ∧ adj y 2 = y - 1 := ⟨rfl, rfl⟩
theorem adj3 {y m : Int} (h : 3 ≤ m) : adj y m = y := by unfold adj; rw [if_neg (by omega)]
theorem jan_step (y : Int) : dayN (y + 1) 1 1 = dayN y 1 1 + yrN y := by
  rw [dayN_g, dayN_g, (adj1 _).1, (adj1 _).1]
  have := g_step y
  rw [show y + 1 - 1 = y by omega]
  omega
theorem ml_step {y m : Int} (h : 1 ≤ m ∧ m ≤ 11) : dayN y (m + 1) 1 = dayN y m 1 + mlN y m := by
  rw [dayN_g, dayN_g]
  have hg := g_step y
  by_cases h2 : m = 2
  · subst h2
    rw [(adj1 y).2, adj3 (by decide)]
    unfold mlN
    unfold yrN at hg
    rw [if_pos rfl]
    by_cases hl : leapP y
    · rw [if_pos hl] at hg ⊢; omega
    · rw [if_neg hl] at hg ⊢; omega
  have hm : mlN y m = if m = 4 ∨ m = 6 ∨ m = 9 ∨ m = 11 then 30 else 31 := if_neg h2
  rw [hm]
  by_cases h1 : m = 1
  · subst h1
    rw [(adj1 y).1, show (1 : Int) + 1 = 2 from rfl, (adj1 y).2, if_neg (by decide)]
    omega
  · rw [adj3 (by omega), adj3 (by omega)]
    have : m = 3 ∨ m = 4 ∨ m = 5 ∨ m = 6 ∨ m = 7 ∨ m = 8 ∨ m = 9 ∨ m = 10 ∨ m = 11 := by omega
    rcases this with rfl | rfl | rfl | rfl | rfl | rfl | rfl | rfl | rfl <;> simp <;> omega
theorem dec_step (y : Int) : dayN (y + 1) 1 1 = dayN y 12 1 + mlN y 12 := by
  rw [dayN_g, dayN_g, (adj1 _).1, adj3 (by decide), show mlN y 12 = 31 from rfl, show y + 1 - 1 = y by omega]
  omega
theorem jan_mono {a b : Int} (h : a ≤ b) : dayN a 1 1 ≤ dayN b 1 1 := by
  rw [dayN_g, dayN_g, (adj1 _).1, (adj1 _).1]
  unfold gN
  omega
theorem ml_b (y m : Int) : 28 ≤ mlN y m ∧ mlN y m ≤ 31 := by
  unfold mlN
  split
  · split <;> omega
  · split <;> omega
theorem mon_mono {y m : Int} (h : 1 ≤ m) : ∀ k : Nat, m + k ≤ 12 → dayN y m 1 ≤ dayN y (m + k) 1
  | 0, _ => by simp
  | k + 1, hk => by
    have h1 := mon_mono h (y := y) k (by omega)
    have h2 := ml_step (y := y) (m := m + k) (by omega)
    have h3 := ml_b y (m + k)
    rw [show m + ((k + 1 : Nat) : Int) = m + k + 1 by omega]
    omega
theorem mon_le {y m M : Int} (h : 1 ≤ m) (h1 : m ≤ M) (h2 : M ≤ 12) : dayN y m 1 ≤ dayN y M 1 := by
  have := mon_mono h (y := y) (M - m).toNat (by omega)
  rwa [show m + ((M - m).toNat : Int) = M by omega] at this
/-- a month ends before the next year -/
theorem mon_year {y m : Int} (h : 1 ≤ m ∧ m ≤ 12) : dayN y m 1 + mlN y m ≤ dayN (y + 1) 1 1 := by
  have hd := dec_step y
  by_cases c : m = 12
  · subst c; omega
  · have h1 := ml_step (y := y) (m := m) (by omega)
    have h2 := mon_le (y := y) (m := m + 1) (M := 12) (by omega) (by omega) (by omega)
    have h3 := ml_b y 12
    omega
theorem day1 (y m d : Int) : dayN y m d = dayN y m 1 + (d - 1) := by unfold dayN; omega
theorem cD_ml {n : Int} : cD n ≤ mlN (cY n) (cM n) := by
  have he := dE_b n
  have hy := dY_b he
  have hd := dD_b he
  have hs := dD_s (dE n)
  have hl := e_lt he
  have hm0 := dM_b he
  have hM : 153 * dM (dE n) ≤ 5 * dD (dE n) + 2 ∧ 5 * dD (dE n) + 2 < 153 * dM (dE n) + 153 := by unfold dM; omega
  have hD : cD n = dD (dE n) - (153 * dM (dE n) + 2) / 5 + 1 := rfl
  have hMM : cM n = (dM (dE n) + 2) % 12 + 1 := rfl
  have hY : cY n = (n + 719468) / 146097 * 400 + dY (dE n) + (if cM n ≤ 2 then 1 else 0) := rfl
  by_cases c : dM (dE n) = 11
  · rw [c] at hMM hD
    have h2 : cM n = 2 := by rw [hMM]; decide
    rw [h2, if_pos (by decide)] at hY
    rw [h2, hD]
    unfold mlN
    rw [if_pos rfl]
    by_cases hlp : leapP (cY n)
    · rw [if_pos hlp]; omega
    · rw [if_neg hlp]
      have hq : dY (dE n) ≤ 398 := by
        by_cases c3 : dY (dE n) ≤ 398
        · exact c3
        · exact absurd (show leapP (cY n) by rw [hY]; unfold leapP; omega) hlp
      have h4 := hl hq
      have h5 : sY (dY (dE n) + 1) - sY (dY (dE n)) ≤ 365 := by
        rw [hY] at hlp
        unfold leapP at hlp
        unfold sY
        generalize dY (dE n) = y at *
        generalize (n + 719468) / 146097 = q at *
        have g1 : (q * 400 + y + 1) % 4 = (y + 1) % 4 := by omega
        have g2 : (q * 400 + y + 1) % 100 = (y + 1) % 100 := by omega
        rw [g1, g2] at hlp
        omega
      omega
  · have hnd : ∀ Y : Int, ∀ mp : Int, 0 ≤ mp ∧ mp ≤ 10 → ∀ d : Int, 153 * mp ≤ 5 * d + 2 ∧ 5 * d + 2 < 153 * mp + 153 → d - (153 * mp + 2) / 5 + 1 ≤ mlN Y ((mp + 2) % 12 + 1) := by
      intro Y mp hmp d hd
      have : mp = 0 ∨ mp = 1 ∨ mp = 2 ∨ mp = 3 ∨ mp = 4 ∨ mp = 5 ∨ mp = 6 ∨ mp = 7 ∨ mp = 8 ∨ mp = 9 ∨ mp = 10 := by omega
      rcases this with rfl | rfl | rfl | rfl | rfl | rfl | rfl | rfl | rfl | rfl | rfl <;> unfold mlN <;> simp <;> omega
    rw [hMM, hD]
    exact hnd _ _ (by omega) _ hM
/-- where a day's year begins, where it ends; its month -/
theorem day_in {n : Int} (h : 0 ≤ n) : dayN (cY n) 1 1 ≤ n ∧ n < dayN (cY n + 1) 1 1 ∧ dayN (cY n) (cM n) 1 + (cD n - 1) = n ∧ dayN (cY n) (cM n) 1 ≤ n ∧ n < dayN (cY n) (cM n) 1 + mlN (cY n) (cM n) := by
  have hb := dayN_back h
  rw [day1] at hb
  have hm := cM_b n
  have hd := cD_b n
  have hml := cD_ml (n := n)
  have h1 := mon_le (y := cY n) (m := 1) (M := cM n) (by omega) hm.1 hm.2
  have h2 := mon_year (y := cY n) hm
  omega
end Go.Proofs.Ytcmpkkkigmheoaa.D
