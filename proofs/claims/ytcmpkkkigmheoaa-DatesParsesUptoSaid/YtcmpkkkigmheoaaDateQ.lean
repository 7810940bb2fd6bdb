/- A time that is written is read as it was, plain. No program in sight. No conditions but those that each names. -/
import Derived.Test.YtcmpkkkigmheoaaDateP
set_option linter.unusedVariables false
set_option linter.unusedSimpArgs false
namespace Go.Proofs.Ytcmpkkkigmheoaa.D
open Go Go.Proofs Go.RowKit Go.Proofs.Ytcmpkkkigmheoaa.Sh Go.Proofs.Ytcmpkkkigmheoaa.Sl Go.Proofs.Ytcmpkkkigmheoaa.T
theorem sp_eq {n : Int} (h : okT n) : spD n = ⟨cY (n / 86400), cM (n / 86400), cD (n / 86400), n % 86400 / 3600, n % 3600 / 60, n % 60, (n / 86400 + 4) % 7⟩ := if_pos h
theorem sp_back {n : Int} (h : okT n) : okF (spD n) ∧ jN (spD n) = n := by
  have hT := h
  unfold okT at hT
  have hb := dayN_back (n := n / 86400) (by omega)
  have ok : okF (spD n) := by
    rw [sp_eq h]
    unfold okF
    refine ⟨⟨cY_low (by omega), (cY_b (by omega)).2⟩, cM_b _, cD_b _, by simp only; omega, by simp only; omega, by simp only; omega, ?_⟩
    simp only
    rw [hb]
  refine ⟨ok, ?_⟩
  rw [show jN (spD n) = dayN (spD n).y (spD n).m (spD n).d * 86400 + (spD n).h * 3600 + (spD n).mi * 60 + (spD n).s from if_pos ok, sp_eq h]
  simp only
  rw [hb]
  omega
def noW (x : Dt) : Dt := ⟨x.y, x.m, x.d, x.h, x.mi, x.s, 0⟩
theorem noW_f (x : Dt) : (okF (noW x) ↔ okF x) ∧ jN (noW x) = jN x := ⟨Iff.rfl, rfl⟩
theorem tk_app {a b : List UInt8} {k : Nat} (h : a.length = k) : tkR k (a ++ b) = some (a, b) := by
  unfold tkR
  subst h
  rw [if_pos (by rw [List.length_append]; omega), List.take_left' rfl, List.drop_left' rfl]
theorem nv2 : ∀ n : Fin 100, numV (dg n.1 2 48) = some n.1 := by decide
theorem nv2b : ∀ n : Fin 100, numV (dg n.1 2 32) = some n.1 := by decide
theorem mv : ∀ i : Fin 12, monV (moL.getD i.1 []) = some ((i.1 : Int) + 1) := by decide
theorem d48 (q : Nat) : (if q = 0 ∧ True then (48 : UInt8) else UInt8.ofNat (48 + q % 10)) = UInt8.ofNat (48 + q % 10) := by
  split
  · rename_i h; rw [h.1]; rfl
  · rfl
theorem dg4 (n : Nat) : dg n 4 48 = [UInt8.ofNat (48 + n / 1000 % 10), UInt8.ofNat (48 + n / 100 % 10), UInt8.ofNat (48 + n / 10 % 10), UInt8.ofNat (48 + n % 10)] := by
  have e : dg n 4 48 = [dgAt n 4 48 0, dgAt n 4 48 1, dgAt n 4 48 2, dgAt n 4 48 3] := rfl
  have z : ∀ (q : Nat) (p : Prop) [Decidable p], (if q = 0 ∧ p then (48 : UInt8) else UInt8.ofNat (48 + q % 10)) = UInt8.ofNat (48 + q % 10) := fun q p _ => by
    split
    · rename_i h; rw [h.1]; rfl
    · rfl
  rw [e]
  unfold dgAt
  rw [z, z, z, z]
  simp
theorem fix0_c (c : UInt8) (r : List UInt8) : fix0 (c :: r) = (if c = 32 then 48 else c) :: r := rfl
theorem numF_c (acc : Nat) (c : UInt8) (r : List UInt8) : numF acc (c :: r) = if c.toNat < 48 ∨ 57 < c.toNat then none else numF (10 * acc + (c.toNat - 48)) r := rfl
theorem nv4 {n : Nat} (h : n < 10000) : numV (dg n 4 48) = some n := by
  rw [dg4]
  have b : ∀ q : Nat, (UInt8.ofNat (48 + q % 10)).toNat = 48 + q % 10 := fun q => u8_of _ (by omega)
  have f : ∀ q : Nat, ¬ UInt8.ofNat (48 + q % 10) = 32 := fun q c => by
    have := congrArg UInt8.toNat c
    rw [b] at this
    have e : (32 : UInt8).toNat = 32 := rfl
    omega
  unfold numV
  rw [fix0_c, if_neg (f _), numF_c, b, if_neg (by omega), numF_c, b, if_neg (by omega), numF_c, b, if_neg (by omega), numF_c, b, if_neg (by omega)]
  unfold numF
  congr 1
  omega
theorem num_app {n k : Nat} {fill : UInt8} {b : List UInt8} (h : numV (dg n k fill) = some n) : numR k (dg n k fill ++ b) = some (n, b) := by
  unfold numR
  rw [tk_app (dg_len _ _ _)]
  simp only [h]
theorem mo_len {x : Dt} (h : 1 ≤ x.m ∧ x.m ≤ 12) : (moN x).length = 3 := by
  have : ∀ i : Fin 12, (moL.getD i.1 []).length = 3 := by decide
  exact this ⟨(x.m - 1).toNat, by omega⟩
theorem wd_len {x : Dt} (h : 0 ≤ x.w ∧ x.w ≤ 6) : ((wdN x).take 3).length = 3 ∧ (wdN x).length ≤ 9 ∧ 3 ≤ (wdN x).length := by
  have : ∀ i : Fin 7, ((wdL.getD i.1 []).take 3).length = 3 ∧ (wdL.getD i.1 []).length ≤ 9 ∧ 3 ≤ (wdL.getD i.1 []).length := by decide
  exact this ⟨x.w.toNat, by omega⟩
theorem mon_app {x : Dt} {b : List UInt8} (h : 1 ≤ x.m ∧ x.m ≤ 12) : monR (moN x ++ b) = some (x.m, b) := by
  unfold monR
  rw [tk_app (mo_len h)]
  have := mv ⟨(x.m - 1).toNat, by omega⟩
  have e : monV (moN x) = some x.m := by
    unfold moN
    rw [this]
    congr 1
    simp only
    omega
  simp only [e]
theorem clk_app {x : Dt} {b : List UInt8} (h : okX x) : clkR (clk x ++ b) = some ((x.h.toNat, x.mi.toNat, x.s.toNat), b) := by
  obtain ⟨o1, o2, o3, o4, o5, o6, o7⟩ := h
  have e : clk x ++ b = dg x.h.toNat 2 48 ++ ([58] ++ (dg x.mi.toNat 2 48 ++ ([58] ++ (dg x.s.toNat 2 48 ++ b)))) := by simp [clk]
  rw [e]
  unfold clkR
  rw [num_app (nv2 ⟨x.h.toNat, by omega⟩)]
  simp only [Option.bind_some]
  rw [tk_app (a := [58]) (k := 1) rfl]
  simp only [Option.bind_some]
  rw [num_app (nv2 ⟨x.mi.toNat, by omega⟩)]
  simp only [Option.bind_some]
  rw [tk_app (a := [58]) (k := 1) rfl]
  simp only [Option.bind_some]
  rw [num_app (nv2 ⟨x.s.toNat, by omega⟩)]
  simp only [Option.bind_some]
theorem noW_eq {x : Dt} (h : okX x) : (⟨(x.y.toNat : Int), x.m, (x.d.toNat : Int), (x.h.toNat : Int), (x.mi.toNat : Int), (x.s.toNat : Int), 0⟩ : Dt) = noW x := by
  obtain ⟨o1, o2, o3, o4, o5, o6, o7⟩ := h
  unfold noW
  rw [Int.toNat_of_nonneg o1.1, Int.toNat_of_nonneg (by omega : 0 ≤ x.d), Int.toNat_of_nonneg o4.1, Int.toNat_of_nonneg o5.1, Int.toNat_of_nonneg o6.1]
theorem first_app {x : Dt} (h : okX x) : firstR (fm 0 x) = some (noW x) := by
  have ok := h
  obtain ⟨o1, o2, o3, o4, o5, o6, o7⟩ := h
  have e : fm 0 x = ((wdN x).take 3 ++ [44, 32]) ++ (dg x.d.toNat 2 48 ++ ([32] ++ (moN x ++ ([32] ++ (dg x.y.toNat 4 48 ++ ([32] ++ (clk x ++ [32, 71, 77, 84]))))))) := by
    unfold fm
    rw [if_pos rfl]
    simp only [List.append_assoc]
  rw [e]
  unfold firstR
  rw [tk_app (by rw [List.length_append, (wd_len o7).1]; rfl)]
  simp only [Option.bind_some]
  rw [num_app (nv2 ⟨x.d.toNat, by omega⟩)]
  simp only [Option.bind_some]
  rw [tk_app (a := [32]) (k := 1) rfl]
  simp only [Option.bind_some]
  rw [mon_app o2]
  simp only [Option.bind_some]
  rw [tk_app (a := [32]) (k := 1) rfl]
  simp only [Option.bind_some]
  rw [num_app (nv4 (by omega))]
  simp only [Option.bind_some]
  rw [tk_app (a := [32]) (k := 1) rfl]
  simp only [Option.bind_some]
  rw [clk_app ok]
  simp only [Option.bind_some]
  rw [noW_eq ok]
theorem fm0_len {x : Dt} (h : okX x) : (fm 0 x).length = 29 := by
  unfold fm
  rw [if_pos rfl]
  simp only [List.length_append, dg_len, clk_len, (wd_len h.w).1, mo_len h.m, List.length_cons, List.length_nil]
/-- what a form says is what is tried -/
theorem try_app {n k now : Int} {rd : List UInt8 → Option Dt} (h : okT n) (hr : rd (fm k (spD n)) = some (noW (spD n))) : tryR k now (fm k (spD n)) rd = some n := by
  obtain ⟨h1, h2⟩ := sp_back h
  unfold tryR
  rw [hr]
  simp only
  rw [(noW_f _).2, h2, if_pos ⟨(noW_f _).1.2 h1, rfl⟩]
theorem par_first {n now : Int} (h : okT n) : paR now (fm 0 (spD n)) = some n := by
  unfold paR paF
  have : tryR ((0 : Nat) : Int) now (fm 0 (spD n)) (rdK now 0) = some n := try_app h (first_app (ok_sp h))
  rw [this]
end Go.Proofs.Ytcmpkkkigmheoaa.D
