/- The second form and the third are read as they were written, plain. No program in sight. No conditions but those that each names. -/
import Derived.Test.YtcmpkkkigmheoaaDateR
import Derived.Test.YtcmpkkkigmheoaaDateQ
set_option linter.unusedVariables false
set_option linter.unusedSimpArgs false
namespace Go.Proofs.Ytcmpkkkigmheoaa.D
open Go Go.Proofs Go.RowKit Go.Proofs.Ytcmpkkkigmheoaa.Sh Go.Proofs.Ytcmpkkkigmheoaa.Sl Go.Proofs.Ytcmpkkkigmheoaa.T
theorem fi_app (a r : List UInt8) (h : ∀ c ∈ a, (c == 44) = false) : (a ++ 44 :: r).findIdx (fun c : UInt8 => c == 44) = a.length := by
  induction a with
  | nil => simp [List.findIdx_cons]
  | cons c a ih =>
    rw [List.cons_append, List.findIdx_cons, h c (by simp), ih (fun d hd => h d (by simp [hd]))]
    rfl
theorem wd_no {x : Dt} (h : 0 ≤ x.w ∧ x.w ≤ 6) : ∀ c ∈ wdN x, (c == 44) = false := by
  have : ∀ i : Fin 7, ∀ c ∈ wdL.getD i.1 [], (c == 44) = false := by decide
  exact this ⟨x.w.toNat, by omega⟩
theorem second_app {x : Dt} {now : Int} (h : okX x) (hs : secY now (x.y % 100).toNat = x.y) : secondR now (fm 1 x) = some (noW x) := by
  have ok := h
  obtain ⟨o1, o2, o3, o4, o5, o6, o7⟩ := h
  have e : fm 1 x = (wdN x ++ [44, 32]) ++ (dg x.d.toNat 2 48 ++ ([45] ++ (moN x ++ ([45] ++ (dg (x.y % 100).toNat 2 48 ++ ([32] ++ (clk x ++ [32, 71, 77, 84]))))))) := by
    unfold fm
    rw [if_neg (by decide), if_pos rfl]
    simp only [List.append_assoc]
  have hc : cI (fm 1 x) = (wdN x).length := by
    unfold cI
    rw [e]
    have := fi_app (wdN x) (32 :: (dg x.d.toNat 2 48 ++ ([45] ++ (moN x ++ ([45] ++ (dg (x.y % 100).toNat 2 48 ++ ([32] ++ (clk x ++ [32, 71, 77, 84]))))))) ++ [44]) (wd_no o7)
    rw [← this]
    simp only [List.append_assoc, List.cons_append, List.nil_append]
  unfold secondR
  rw [hc, e]
  rw [tk_app (k := (wdN x).length + 2) (by rw [List.length_append]; rfl)]
  simp only [Option.bind_some]
  rw [num_app (nv2 ⟨x.d.toNat, by omega⟩)]
  simp only [Option.bind_some]
  rw [tk_app (a := [45]) (k := 1) rfl]
  simp only [Option.bind_some]
  rw [mon_app o2]
  simp only [Option.bind_some]
  rw [tk_app (a := [45]) (k := 1) rfl]
  simp only [Option.bind_some]
  rw [num_app (nv2 ⟨(x.y % 100).toNat, by omega⟩)]
  simp only [Option.bind_some]
  rw [tk_app (a := [32]) (k := 1) rfl]
  simp only [Option.bind_some]
  rw [clk_app ok]
  simp only [Option.bind_some]
  rw [hs]
  unfold noW
  rw [Int.toNat_of_nonneg (by omega : 0 ≤ x.d), Int.toNat_of_nonneg o4.1, Int.toNat_of_nonneg o5.1, Int.toNat_of_nonneg o6.1]
theorem third_app {x : Dt} (h : okX x) : thirdR (fm 2 x) = some (noW x) := by
  have ok := h
  obtain ⟨o1, o2, o3, o4, o5, o6, o7⟩ := h
  have e : fm 2 x = ((wdN x).take 3 ++ [32]) ++ (moN x ++ ([32] ++ (dg x.d.toNat 2 32 ++ ([32] ++ (clk x ++ ([32] ++ (dg x.y.toNat 4 48 ++ []))))))) := by
    unfold fm
    rw [if_neg (by decide), if_neg (by decide)]
    simp only [List.append_assoc, List.append_nil]
  rw [e]
  unfold thirdR
  rw [tk_app (k := 4) (by rw [List.length_append, (wd_len o7).1]; rfl)]
  simp only [Option.bind_some]
  rw [mon_app o2]
  simp only [Option.bind_some]
  rw [tk_app (a := [32]) (k := 1) rfl]
  simp only [Option.bind_some]
  rw [num_app (nv2b ⟨x.d.toNat, by omega⟩)]
  simp only [Option.bind_some]
  rw [tk_app (a := [32]) (k := 1) rfl]
  simp only [Option.bind_some]
  rw [clk_app ok]
  simp only [Option.bind_some]
  rw [tk_app (a := [32]) (k := 1) rfl]
  simp only [Option.bind_some]
  rw [num_app (nv4 (by omega))]
  simp only [Option.bind_some]
  rw [noW_eq ok]
theorem fm1_len {x : Dt} (h : okX x) : 30 ≤ (fm 1 x).length := by
  unfold fm
  rw [if_neg (by decide), if_pos rfl]
  have hw : ∀ i : Fin 7, 6 ≤ (wdL.getD i.1 []).length := by decide
  have hw2 : 6 ≤ (wdN x).length := hw ⟨x.w.toNat, by have := h.w; omega⟩
  simp only [List.length_append, dg_len, clk_len, mo_len h.m, List.length_cons, List.length_nil]
  omega
theorem fm1_le {x : Dt} (h : okX x) : (fm 1 x).length ≤ 40 := by
  unfold fm
  rw [if_neg (by decide), if_pos rfl]
  have := (wd_len h.w).2.1
  simp only [List.length_append, dg_len, clk_len, mo_len h.m, List.length_cons, List.length_nil]
  omega
theorem fm2_len {x : Dt} (h : okX x) : (fm 2 x).length = 24 := by
  unfold fm
  rw [if_neg (by decide), if_neg (by decide)]
  simp only [List.length_append, dg_len, clk_len, (wd_len h.w).1, mo_len h.m, List.length_cons, List.length_nil]
theorem try_none {k now : Int} {l : List UInt8} {rd : List UInt8 → Option Dt} (h : ∀ x, okX x → (fm k x).length ≠ l.length) : tryR k now l rd = none := by
  unfold tryR
  cases rd l with
  | none => rfl
  | some x =>
    simp only
    refine if_neg fun c => ?_
    exact h _ (ok_sp (jN_ok c.1)) (by rw [c.2])
theorem par_second {n now : Int} (h : okT n) (hs : secY now ((spD n).y % 100).toNat = (spD n).y) : paR now (fm 1 (spD n)) = some n := by
  have hl := fm1_len (ok_sp h)
  have t0 : tryR ((0 : Nat) : Int) now (fm 1 (spD n)) (rdK now 0) = none := try_none fun x hx => by
    have := fm0_len hx
    show (fm 0 x).length ≠ _
    omega
  have t1 : tryR ((0 + 1 : Nat) : Int) now (fm 1 (spD n)) (rdK now (0 + 1)) = some n := try_app (k := 1) h (second_app (ok_sp h) hs)
  unfold paR paF
  rw [t0]
  simp only
  unfold paF
  rw [t1]
theorem par_third {n now : Int} (h : okT n) : paR now (fm 2 (spD n)) = some n := by
  have hl := fm2_len (ok_sp h)
  have t0 : tryR ((0 : Nat) : Int) now (fm 2 (spD n)) (rdK now 0) = none := try_none fun x hx => by
    have := fm0_len hx
    show (fm 0 x).length ≠ _
    omega
  have t1 : tryR ((0 + 1 : Nat) : Int) now (fm 2 (spD n)) (rdK now (0 + 1)) = none := try_none fun x hx => by
    have := fm1_len hx
    show (fm 1 x).length ≠ _
    omega
  have t2 : tryR ((0 + 1 + 1 : Nat) : Int) now (fm 2 (spD n)) (rdK now (0 + 1 + 1)) = some n := try_app (k := 2) h (third_app (ok_sp h))
  unfold paR paF
  rw [t0]
  simp only
  unfold paF
  rw [t1]
  simp only
  unfold paF
  rw [t2]
theorem secY_ok {now y : Int} (hy : 0 ≤ y ∧ y ≤ 9999) (h : yN now ≤ y + 49 ∧ y ≤ yN now + 49) : secY now (y % 100).toNat = y := by
  have hn := yN_b now
  unfold secY
  rw [Int.toNat_of_nonneg (by omega)]
  have ht : y ≤ topY now ∧ topY now ≤ y + 99 := by unfold topY; split <;> omega
  generalize topY now = t at ht ⊢
  omega
theorem jan_far (y : Int) : dayN y 1 1 + 17885 ≤ dayN (y + 49) 1 1 := by
  rw [dayN_g, dayN_g, (adj1 _).1, (adj1 _).1]
  unfold gN
  omega
theorem near {a b : Int} (ha : 0 ≤ a) (hb : 0 ≤ b) (h : b - a ≤ 17885) : cY b ≤ cY a + 49 := by
  obtain ⟨_, a2, _⟩ := day_in ha
  obtain ⟨b1, _⟩ := day_in hb
  rcases Int.lt_or_le (cY a + 49) (cY b) with c | c
  · have h1 := jan_mono (a := cY a + 1 + 49) (b := cY b) (by omega)
    have h2 := jan_far (cY a + 1)
    omega
  · exact c
end Go.Proofs.Ytcmpkkkigmheoaa.D
