/- Both sides answer just what a text says, plain. No program in sight. No conditions but those that each names. -/
import Derived.Test.YtcmpkkkigmheoaaDateQ2
import Derived.Test.YtcmpkkkigmheoaaDateR3
import Derived.Test.YtcmpkkkigmheoaaDateG4
set_option linter.unusedVariables false
set_option linter.unusedSimpArgs false
namespace Go.Proofs.Ytcmpkkkigmheoaa.D
open Go Go.Proofs Go.RowKit Go.Proofs.Ytcmpkkkigmheoaa.Sh Go.Proofs.Ytcmpkkkigmheoaa.Sl Go.Proofs.Ytcmpkkkigmheoaa.T
theorem back_x {x : Dt} (h : okF x) : spD (jN x) = ⟨x.y, x.m, x.d, x.h, x.mi, x.s, (jN x / 86400 + 4) % 7⟩ := by
  have ok := jN_ok h
  have hr := (rOk_iff x).1 h
  have hj : jN x = dayN x.y x.m x.d * 86400 + x.h * 3600 + x.mi * 60 + x.s := if_pos h
  unfold rOk at hr
  obtain ⟨h1, h2, h3, h4, h5, h6⟩ := hr
  have hml := ml_b x.y x.m
  have hb := dayN_b (y := x.y) (m := x.m) (d := x.d) h1 h2 (by omega)
  have hN : jN x / 86400 = dayN x.y x.m x.d := by rw [hj]; omega
  have hd := day1 x.y x.m x.d
  obtain ⟨e1, e2⟩ := uniq (n := dayN x.y x.m x.d) (y := x.y) (m := x.m) hb.1 h2 (by omega) (by omega)
  obtain ⟨_, _, e3, _, _⟩ := day_in hb.1
  rw [e1, e2] at e3
  have e4 : cD (dayN x.y x.m x.d) = x.d := by omega
  rw [sp_eq ok, hN, e1, e2, e4]
  rw [show jN x % 86400 / 3600 = x.h by rw [hj]; omega, show jN x % 3600 / 60 = x.mi by rw [hj]; omega, show jN x % 60 = x.s by rw [hj]; omega]
theorem try_some {k now n : Int} {l : List UInt8} {rd : List UInt8 → Option Dt} (h : tryR k now l rd = some n) : okT n ∧ fm k (spD n) = l ∧ ∃ x, rd l = some x ∧ okF x ∧ n = jN x := by
  unfold tryR at h
  cases hr : rd l with
  | none => rw [hr] at h; cases h
  | some x =>
    rw [hr] at h
    simp only at h
    split at h
    · rename_i hc
      have := Option.some.inj h
      subst this
      exact ⟨jN_ok hc.1, hc.2, x, rfl, hc.1, rfl⟩
    · cases h
theorem second_y {now : Int} {l : List UInt8} {x : Dt} (h : secondR now l = some x) : ∃ two : Nat, two < 100 ∧ x.y = secY now two := by
  unfold secondR at h
  simp only [Option.bind_eq_some_iff] at h
  obtain ⟨a, _, b, _, c, _, d, _, e, _, f, hf, g, _, i, _, hx⟩ := h
  have := Option.some.inj hx
  subst this
  exact ⟨f.1, num_lt hf, rfl⟩
theorem secY_self {now : Int} {two : Nat} (h : two < 100) (hy : 0 ≤ secY now two) : secY now (secY now two % 100).toNat = secY now two := by
  have ht := yN_b now
  have htop : 0 ≤ topY now ∧ topY now ≤ 9999 := by unfold topY; split <;> omega
  have e : secY now two % 100 = (two : Int) := by
    unfold secY
    generalize topY now = t at htop ⊢
    omega
  rw [e, Int.toNat_natCast]
/-- the second form, taken: its year is the one that is picked -/
theorem try1_some {now n : Int} {l : List UInt8} (h : tryR 1 now l (secondR now) = some n) : okT n ∧ fm 1 (spD n) = l ∧ secY now ((spD n).y % 100).toNat = (spD n).y := by
  obtain ⟨h1, h2, x, h3, h4, rfl⟩ := try_some h
  refine ⟨h1, h2, ?_⟩
  obtain ⟨two, ht, hy⟩ := second_y h3
  have hsy : (spD (jN x)).y = x.y := by rw [back_x h4]
  have h0 := (ok_sp h1).y
  rw [hsy] at h0 ⊢
  rw [hy] at h0 ⊢
  exact secY_self ht h0.1
/-- the text says the time n -/
def PT (now : Int) (l : List UInt8) (n : Int) : Prop := okT n ∧ (fm 0 (spD n) = l ∨ (fm 1 (spD n) = l ∧ secY now ((spD n).y % 100).toNat = (spD n).y) ∨ fm 2 (spD n) = l)
theorem pt_par {now n : Int} {l : List UInt8} (h : PT now l n) : paR now l = some n := by
  obtain ⟨ok, h | ⟨h, hs⟩ | h⟩ := h
  · rw [← h]; exact par_first ok
  · rw [← h]; exact par_second ok hs
  · rw [← h]; exact par_third ok
theorem par_pt {now n : Int} {l : List UInt8} (h : paR now l = some n) : PT now l n := by
  unfold paR paF at h
  cases h0 : tryR ((0 : Nat) : Int) now l (rdK now 0) with
  | some m =>
    rw [h0] at h
    have := Option.some.inj h
    subst this
    obtain ⟨a, b, _⟩ := try_some h0
    exact ⟨a, .inl b⟩
  | none =>
    rw [h0] at h
    simp only at h
    unfold paF at h
    cases h1 : tryR ((0 + 1 : Nat) : Int) now l (rdK now (0 + 1)) with
    | some m =>
      rw [h1] at h
      have := Option.some.inj h
      subst this
      obtain ⟨a, b, c⟩ := try1_some (show tryR 1 now l (secondR now) = some m from h1)
      exact ⟨a, .inr (.inl ⟨b, c⟩)⟩
    | none =>
      rw [h1] at h
      simp only at h
      unfold paF at h
      cases h2 : tryR ((0 + 1 + 1 : Nat) : Int) now l (rdK now (0 + 1 + 1)) with
      | some m =>
        rw [h2] at h
        have := Option.some.inj h
        subst this
        obtain ⟨a, b, _⟩ := try_some h2
        exact ⟨a, .inr (.inr b)⟩
      | none =>
        rw [h2] at h
        simp only at h
        unfold paF at h
        cases h
theorem sm_some {f n : Int} {l : List UInt8} {x : Dt} (h : smR f l x = some n) : okF x ∧ n = jN x ∧ okT n ∧ fm (f - 1) (spD n) = l := by
  unfold smR at h
  split at h
  · rename_i hc
    have := Option.some.inj h
    subst this
    exact ⟨hc.1, rfl, jN_ok hc.1, hc.2⟩
  · cases h
theorem ceN_spec {two : Int} : ∀ (m : Nat) (t y : Int), ceN two t m = y → 0 ≤ y → y ≤ t ∧ t - y < 100 ∧ y % 100 = two
  | 0, t, y, h, h0 => by
    have : (-1 : Int) = y := h
    omega
  | m + 1, t, y, h, h0 => by
    unfold ceN at h
    by_cases c : t % 100 = two
    · rw [if_pos c] at h; subst h; omega
    · rw [if_neg c] at h
      have := ceN_spec m (t - 1) y h h0
      omega
theorem cy_year {now two y : Int} (h : cyR two now = y) (hy : 1970 ≤ y) : secY now (y % 100).toNat = y := by
  obtain ⟨a, b, c⟩ := ceN_spec _ _ _ (show ceN two (topY now) (topY now - 1969).toNat = y from h) (by omega)
  unfold secY
  rw [Int.toNat_of_nonneg (by omega)]
  generalize topY now = t at a b ⊢
  omega
theorem rp_pt {now n : Int} {l : List UInt8} (h : rpR now l = some n) : PT now l n := by
  unfold rpR at h
  cases h1 : smR 1 l (x1R l) with
  | some m =>
    rw [h1] at h
    have := Option.some.inj h
    subst this
    obtain ⟨_, _, a, b⟩ := sm_some h1
    exact ⟨a, .inl b⟩
  | none =>
    rw [h1] at h
    simp only at h
    cases h2 : s2R l now with
    | some m =>
      rw [h2] at h
      have := Option.some.inj h
      subst this
      unfold s2R at h2
      split at h2
      · obtain ⟨c, d, a, b⟩ := sm_some h2
        have hy : cyR (dgR l ((cI l : Int) + 9) 2) now = (x2R l now).y := rfl
        have hsy : (spD m).y = (x2R l now).y := by rw [d, back_x c]
        have h70 : 1970 ≤ (x2R l now).y := by unfold okF at c; exact c.1.1
        exact ⟨a, .inr (.inl ⟨b, by rw [hsy]; exact cy_year hy h70⟩)⟩
      · cases h2
    | none =>
      rw [h2] at h
      simp only at h
      obtain ⟨_, _, a, b⟩ := sm_some h
      exact ⟨a, .inr (.inr b)⟩
theorem n20 : ∀ n : Fin 100, numF 0 (dg n.1 2 48) = some n.1 := by decide
theorem n40 {n : Nat} (h : n < 10000) : numF 0 (dg n 4 48) = some n := by
  rw [dg4]
  have b : ∀ q : Nat, (UInt8.ofNat (48 + q % 10)).toNat = 48 + q % 10 := fun q => u8_of _ (by omega)
  rw [numF_c, b, if_neg (by omega), numF_c, b, if_neg (by omega), numF_c, b, if_neg (by omega), numF_c, b, if_neg (by omega)]
  unfold numF
  congr 1
  omega
theorem at_dg {l a b : List UInt8} {n k : Nat} {p : Int} (e : l = a ++ (dg n k 48 ++ b)) (hp : p = (a.length : Int)) (h : numF 0 (dg n k 48) = some n) : dgR l p k = (n : Int) := by
  subst hp; subst e
  unfold dgR
  rw [if_neg (by simp only [List.length_append, dg_len]; omega), Int.toNat_natCast, List.drop_left' rfl, List.take_left' (dg_len _ _ _), h]
theorem at_mo {l a b : List UInt8} {x : Dt} {p : Nat} (e : l = a ++ (moN x ++ b)) (hp : p = a.length) (hm : 1 ≤ x.m ∧ x.m ≤ 12) : moR l p = x.m := by
  subst hp; subst e
  unfold moR
  have hv := mv ⟨(x.m - 1).toNat, by omega⟩
  have e2 : monV (moN x) = some x.m := by
    unfold moN
    rw [hv]
    congr 1
    simp only
    omega
  rw [if_pos (by simp only [List.length_append, mo_len hm]; omega), List.drop_left' rfl, List.take_left' (mo_len hm), e2]
theorem sm_app {k n : Int} (h : okT n) : smR (k + 1) (fm k (spD n)) (noW (spD n)) = some n := by
  obtain ⟨h1, h2⟩ := sp_back h
  unfold smR
  rw [(noW_f _).2, h2, show k + 1 - 1 = k by omega, if_pos ⟨(noW_f _).1.2 h1, rfl⟩]
theorem x1_app {x : Dt} (h : okX x) : x1R (fm 0 x) = noW x := by
  have ok := h
  obtain ⟨o1, o2, o3, o4, o5, o6, o7⟩ := h
  obtain ⟨w3, _, _⟩ := wd_len o7
  have hm := mo_len o2
  have e : fm 0 x = (wdN x).take 3 ++ [44, 32] ++ dg x.d.toNat 2 48 ++ [32] ++ moN x ++ [32] ++ dg x.y.toNat 4 48 ++ [32] ++ (dg x.h.toNat 2 48 ++ [58] ++ dg x.mi.toNat 2 48 ++ [58] ++ dg x.s.toNat 2 48) ++ [32, 71, 77, 84] := if_pos rfl
  have l3 : ((wdN x).take 3).length = 3 := w3
  have a1 : dgR (fm 0 x) 5 2 = (x.d.toNat : Int) := at_dg (a := (wdN x).take 3 ++ [44, 32]) (by rw [e]; simp only [List.append_assoc]; rfl) (by simp only [List.length_append, l3, List.length_cons, List.length_nil]; rfl) (n20 ⟨x.d.toNat, by omega⟩)
  have a2 : moR (fm 0 x) 8 = x.m := at_mo (a := (wdN x).take 3 ++ [44, 32] ++ dg x.d.toNat 2 48 ++ [32]) (by rw [e]; simp only [List.append_assoc]; rfl) (by simp only [List.length_append, l3, dg_len, List.length_cons, List.length_nil]) o2
  have a3 : dgR (fm 0 x) 12 4 = (x.y.toNat : Int) := at_dg (a := (wdN x).take 3 ++ [44, 32] ++ dg x.d.toNat 2 48 ++ [32] ++ moN x ++ [32]) (by rw [e]; simp only [List.append_assoc]; rfl) (by simp only [List.length_append, l3, hm, dg_len, List.length_cons, List.length_nil]; rfl) (n40 (by omega))
  have a4 : dgR (fm 0 x) 17 2 = (x.h.toNat : Int) := at_dg (a := (wdN x).take 3 ++ [44, 32] ++ dg x.d.toNat 2 48 ++ [32] ++ moN x ++ [32] ++ dg x.y.toNat 4 48 ++ [32]) (by rw [e]; simp only [List.append_assoc]; rfl) (by simp only [List.length_append, l3, hm, dg_len, List.length_cons, List.length_nil]; rfl) (n20 ⟨x.h.toNat, by omega⟩)
  have a5 : dgR (fm 0 x) (17 + 3) 2 = (x.mi.toNat : Int) := at_dg (a := (wdN x).take 3 ++ [44, 32] ++ dg x.d.toNat 2 48 ++ [32] ++ moN x ++ [32] ++ dg x.y.toNat 4 48 ++ [32] ++ (dg x.h.toNat 2 48 ++ [58])) (by rw [e]; simp only [List.append_assoc]; rfl) (by simp only [List.length_append, l3, hm, dg_len, List.length_cons, List.length_nil]; rfl) (n20 ⟨x.mi.toNat, by omega⟩)
  have a6 : dgR (fm 0 x) (17 + 6) 2 = (x.s.toNat : Int) := at_dg (a := (wdN x).take 3 ++ [44, 32] ++ dg x.d.toNat 2 48 ++ [32] ++ moN x ++ [32] ++ dg x.y.toNat 4 48 ++ [32] ++ (dg x.h.toNat 2 48 ++ [58] ++ dg x.mi.toNat 2 48 ++ [58])) (by rw [e]; simp only [List.append_assoc]; rfl) (by simp only [List.length_append, l3, hm, dg_len, List.length_cons, List.length_nil]; rfl) (n20 ⟨x.s.toNat, by omega⟩)
  unfold x1R rdR
  rw [a1, a2, a3, a4, a5, a6]
  exact noW_eq ok
theorem cI_fm1 {x : Dt} (h : okX x) : cI (fm 1 x) = (wdN x).length := by
  have e : fm 1 x = wdN x ++ 44 :: (32 :: (dg x.d.toNat 2 48 ++ ([45] ++ (moN x ++ ([45] ++ (dg (x.y % 100).toNat 2 48 ++ ([32] ++ (clk x ++ [32, 71, 77, 84])))))))) := by
    unfold fm
    rw [if_neg (by decide), if_pos rfl]
    simp only [List.append_assoc, List.cons_append, List.nil_append]
  unfold cI
  rw [e, List.append_assoc, List.cons_append]
  exact fi_app (wdN x) _ (wd_no h.w)
theorem ce_find {two : Int} : ∀ (m : Nat) (t y : Int), y ≤ t → t - y < 100 → y % 100 = two → t - y < m → ceN two t m = y
  | 0, t, y, h1, h2, h3, h4 => by omega
  | m + 1, t, y, h1, h2, h3, h4 => by
    unfold ceN
    by_cases c : t % 100 = two
    · rw [if_pos c]; omega
    · rw [if_neg c]
      have : y ≠ t := fun e => c (by rw [← e]; exact h3)
      exact ce_find m (t - 1) y (by omega) (by omega) h3 (by omega)
theorem cy_find {now y : Int} (hy : 1970 ≤ y) (hs : secY now (y % 100).toNat = y) : cyR ((y % 100).toNat : Int) now = y := by
  have hb : y ≤ topY now ∧ topY now - y < 100 := by
    unfold secY at hs
    rw [Int.toNat_of_nonneg (by omega)] at hs
    generalize topY now = t at hs ⊢
    omega
  unfold cyR
  exact ce_find _ _ _ hb.1 hb.2 (by omega) (by omega)
theorem x2_app {x : Dt} {now : Int} (h : okX x) (hy : 1970 ≤ x.y) (hs : secY now (x.y % 100).toNat = x.y) : x2R (fm 1 x) now = noW x ∧ 0 ≤ dgR (fm 1 x) ((cI (fm 1 x) : Int) + 9) 2 := by
  have ok := h
  have hc := cI_fm1 h
  obtain ⟨o1, o2, o3, o4, o5, o6, o7⟩ := h
  have hm := mo_len o2
  have l3 : (wdN x).length = (wdN x).length := rfl
  have e : fm 1 x = wdN x ++ [44, 32] ++ dg x.d.toNat 2 48 ++ [45] ++ moN x ++ [45] ++ dg (x.y % 100).toNat 2 48 ++ [32] ++ (dg x.h.toNat 2 48 ++ [58] ++ dg x.mi.toNat 2 48 ++ [58] ++ dg x.s.toNat 2 48) ++ [32, 71, 77, 84] := by
    unfold fm
    rw [if_neg (by decide), if_pos rfl]
    rfl
  have a1 : dgR (fm 1 x) (((wdN x).length : Int) + 2) 2 = (x.d.toNat : Int) := at_dg (a := wdN x ++ [44, 32]) (by rw [e]; simp only [List.append_assoc] <;> rfl) (by simp only [List.length_append, hm, dg_len, List.length_cons, List.length_nil] <;> omega) (n20 ⟨x.d.toNat, by omega⟩)
  have a2 : moR (fm 1 x) ((wdN x).length + 5) = x.m := at_mo (a := wdN x ++ [44, 32] ++ dg x.d.toNat 2 48 ++ [45]) (by rw [e]; simp only [List.append_assoc] <;> rfl) (by simp only [List.length_append, hm, dg_len, List.length_cons, List.length_nil] <;> omega) o2
  have a3 : dgR (fm 1 x) (((wdN x).length : Int) + 9) 2 = ((x.y % 100).toNat : Int) := at_dg (a := wdN x ++ [44, 32] ++ dg x.d.toNat 2 48 ++ [45] ++ moN x ++ [45]) (by rw [e]; simp only [List.append_assoc] <;> rfl) (by simp only [List.length_append, hm, dg_len, List.length_cons, List.length_nil] <;> omega) (n20 ⟨(x.y % 100).toNat, by omega⟩)
  have a4 : dgR (fm 1 x) (((wdN x).length : Int) + 12) 2 = (x.h.toNat : Int) := at_dg (a := wdN x ++ [44, 32] ++ dg x.d.toNat 2 48 ++ [45] ++ moN x ++ [45] ++ dg (x.y % 100).toNat 2 48 ++ [32]) (by rw [e]; simp only [List.append_assoc] <;> rfl) (by simp only [List.length_append, hm, dg_len, List.length_cons, List.length_nil] <;> omega) (n20 ⟨x.h.toNat, by omega⟩)
  have a5 : dgR (fm 1 x) (((wdN x).length : Int) + 12 + 3) 2 = (x.mi.toNat : Int) := at_dg (a := wdN x ++ [44, 32] ++ dg x.d.toNat 2 48 ++ [45] ++ moN x ++ [45] ++ dg (x.y % 100).toNat 2 48 ++ [32] ++ (dg x.h.toNat 2 48 ++ [58])) (by rw [e]; simp only [List.append_assoc] <;> rfl) (by simp only [List.length_append, hm, dg_len, List.length_cons, List.length_nil] <;> omega) (n20 ⟨x.mi.toNat, by omega⟩)
  have a6 : dgR (fm 1 x) (((wdN x).length : Int) + 12 + 6) 2 = (x.s.toNat : Int) := at_dg (a := wdN x ++ [44, 32] ++ dg x.d.toNat 2 48 ++ [45] ++ moN x ++ [45] ++ dg (x.y % 100).toNat 2 48 ++ [32] ++ (dg x.h.toNat 2 48 ++ [58] ++ dg x.mi.toNat 2 48 ++ [58])) (by rw [e]; simp only [List.append_assoc] <;> rfl) (by simp only [List.length_append, hm, dg_len, List.length_cons, List.length_nil] <;> omega) (n20 ⟨x.s.toNat, by omega⟩)
  unfold x2R rdR
  rw [hc, a1, a2, a3, a4, a5, a6, cy_find hy hs]
  refine ⟨?_, by omega⟩
  unfold noW
  rw [Int.toNat_of_nonneg (by omega : 0 ≤ x.d), Int.toNat_of_nonneg o4.1, Int.toNat_of_nonneg o5.1, Int.toNat_of_nonneg o6.1]
theorem n2s : ∀ n : Fin 100, (if n.1 < 10 then (dg n.1 2 32).getD 0 0 = 32 ∧ (dg n.1 2 32).drop 1 = dg n.1 1 48 ∧ numF 0 (dg n.1 1 48) = some n.1 else (dg n.1 2 32).getD 0 0 ≠ 32 ∧ dg n.1 2 32 = dg n.1 2 48) := by decide
theorem x3_app {x : Dt} (h : okX x) : x3R (fm 2 x) = noW x := by
  have ok := h
  obtain ⟨o1, o2, o3, o4, o5, o6, o7⟩ := h
  obtain ⟨l3, _, _⟩ := wd_len o7
  have hm := mo_len o2
  have hlen := fm2_len ok
  have e : fm 2 x = (wdN x).take 3 ++ [32] ++ moN x ++ [32] ++ dg x.d.toNat 2 32 ++ [32] ++ (dg x.h.toNat 2 48 ++ [58] ++ dg x.mi.toNat 2 48 ++ [58] ++ dg x.s.toNat 2 48) ++ [32] ++ (dg x.y.toNat 4 48 ++ []) := by
    unfold fm
    rw [if_neg (by decide), if_neg (by decide), List.append_nil]
    rfl
  have a2 : moR (fm 2 x) 4 = x.m := at_mo (a := (wdN x).take 3 ++ [32]) (by rw [e]; simp only [List.append_assoc] <;> rfl) (by simp only [List.length_append, l3, hm, dg_len, List.length_cons, List.length_nil] <;> rfl) o2
  have a4 : dgR (fm 2 x) 11 2 = (x.h.toNat : Int) := at_dg (a := (wdN x).take 3 ++ [32] ++ moN x ++ [32] ++ dg x.d.toNat 2 32 ++ [32]) (by rw [e]; simp only [List.append_assoc] <;> rfl) (by simp only [List.length_append, l3, hm, dg_len, List.length_cons, List.length_nil] <;> rfl) (n20 ⟨x.h.toNat, by omega⟩)
  have a5 : dgR (fm 2 x) (11 + 3) 2 = (x.mi.toNat : Int) := at_dg (a := (wdN x).take 3 ++ [32] ++ moN x ++ [32] ++ dg x.d.toNat 2 32 ++ [32] ++ (dg x.h.toNat 2 48 ++ [58])) (by rw [e]; simp only [List.append_assoc] <;> rfl) (by simp only [List.length_append, l3, hm, dg_len, List.length_cons, List.length_nil] <;> rfl) (n20 ⟨x.mi.toNat, by omega⟩)
  have a6 : dgR (fm 2 x) (11 + 6) 2 = (x.s.toNat : Int) := at_dg (a := (wdN x).take 3 ++ [32] ++ moN x ++ [32] ++ dg x.d.toNat 2 32 ++ [32] ++ (dg x.h.toNat 2 48 ++ [58] ++ dg x.mi.toNat 2 48 ++ [58])) (by rw [e]; simp only [List.append_assoc] <;> rfl) (by simp only [List.length_append, l3, hm, dg_len, List.length_cons, List.length_nil] <;> rfl) (n20 ⟨x.s.toNat, by omega⟩)
  have a3 : dgR (fm 2 x) 20 4 = (x.y.toNat : Int) := at_dg (a := (wdN x).take 3 ++ [32] ++ moN x ++ [32] ++ dg x.d.toNat 2 32 ++ [32] ++ (dg x.h.toNat 2 48 ++ [58] ++ dg x.mi.toNat 2 48 ++ [58] ++ dg x.s.toNat 2 48) ++ [32]) (by rw [e]) (by simp only [List.length_append, l3, hm, dg_len, List.length_cons, List.length_nil] <;> rfl) (n40 (by omega))
  have hn := n2s ⟨x.d.toNat, by omega⟩
  (try dsimp only at hn)
  have hlB : ((wdN x).take 3 ++ [32] ++ moN x ++ [32]).length = 8 := by simp only [List.length_append, l3, hm, List.length_cons, List.length_nil]
  have g8 : (fm 2 x).getD 8 0 = (dg x.d.toNat 2 32).getD 0 0 := by
    rw [e, show (wdN x).take 3 ++ [32] ++ moN x ++ [32] ++ dg x.d.toNat 2 32 ++ [32] ++ (dg x.h.toNat 2 48 ++ [58] ++ dg x.mi.toNat 2 48 ++ [58] ++ dg x.s.toNat 2 48) ++ [32] ++ (dg x.y.toNat 4 48 ++ []) = ((wdN x).take 3 ++ [32] ++ moN x ++ [32]) ++ (dg x.d.toNat 2 32 ++ ([32] ++ ((dg x.h.toNat 2 48 ++ [58] ++ dg x.mi.toNat 2 48 ++ [58] ++ dg x.s.toNat 2 48) ++ ([32] ++ (dg x.y.toNat 4 48 ++ []))))) by simp only [List.append_assoc]]
    rw [List.getD_eq_getElem?_getD, List.getElem?_append_right (by omega), hlB, Nat.sub_self, List.getElem?_append_left (by rw [dg_len]; omega), ← List.getD_eq_getElem?_getD]
  unfold x3R rdR
  rw [a2, a3, a4, a5, a6, g8]
  by_cases c : x.d.toNat < 10
  · rw [if_pos c] at hn
    obtain ⟨q1, q2, q3⟩ := hn
    rw [if_pos ⟨by omega, q1⟩]
    have e2 : dg x.d.toNat 2 32 = [32] ++ dg x.d.toNat 1 48 := by
      have hl2 := dg_len x.d.toNat 2 32
      match hdd : dg x.d.toNat 2 32, hl2 with
      | [u, v], _ =>
        rw [hdd] at q1 q2
        have q1' : u = 32 := q1
        have q2' : [v] = dg x.d.toNat 1 48 := q2
        rw [q1', ← q2']; rfl
    have a1 : dgR (fm 2 x) 9 1 = (x.d.toNat : Int) := at_dg (a := (wdN x).take 3 ++ [32] ++ moN x ++ [32] ++ [32]) (by rw [e, e2]; simp only [List.append_assoc] <;> rfl) (by simp only [List.length_append, l3, hm, dg_len, List.length_cons, List.length_nil] <;> rfl) q3
    rw [a1]
    exact noW_eq ok
  · rw [if_neg c] at hn
    rw [if_neg (fun q => hn.1 q.2)]
    have a1 : dgR (fm 2 x) 8 2 = (x.d.toNat : Int) := at_dg (a := (wdN x).take 3 ++ [32] ++ moN x ++ [32]) (by rw [e, hn.2]; simp only [List.append_assoc] <;> rfl) (by simp only [List.length_append, l3, hm, dg_len, List.length_cons, List.length_nil] <;> rfl) (n20 ⟨x.d.toNat, by omega⟩)
    rw [a1]
    exact noW_eq ok
theorem sm_none {f : Int} {l : List UInt8} {y : Dt} (h : ∀ x, okX x → (fm (f - 1) x).length ≠ l.length) : smR f l y = none := by
  unfold smR
  refine if_neg fun c => ?_
  exact h _ (ok_sp (jN_ok c.1)) (by rw [c.2])
theorem pt_rp {now n : Int} {l : List UInt8} (h : PT now l n) : rpR now l = some n := by
  obtain ⟨ok, h | ⟨h, hs⟩ | h⟩ := h
  · subst h
    have s1 : smR 1 (fm 0 (spD n)) (x1R (fm 0 (spD n))) = some n := by rw [x1_app (ok_sp ok)]; exact sm_app (k := 0) ok
    unfold rpR
    rw [s1]
  · subst h
    have hl := fm1_len (ok_sp ok)
    have s1 : smR 1 (fm 1 (spD n)) (x1R (fm 1 (spD n))) = none := sm_none fun x hx => by
      have := fm0_len hx
      show (fm 0 x).length ≠ _
      omega
    have h70 : 1970 ≤ (spD n).y := by
      have := (sp_back ok).1
      unfold okF at this
      exact this.1.1
    obtain ⟨e2, e3⟩ := x2_app (ok_sp ok) h70 hs
    have s2 : s2R (fm 1 (spD n)) now = some n := by
      unfold s2R
      rw [if_pos e3, e2]
      exact sm_app (k := 1) ok
    unfold rpR
    rw [s1, s2]
  · subst h
    have hl := fm2_len (ok_sp ok)
    have s1 : smR 1 (fm 2 (spD n)) (x1R (fm 2 (spD n))) = none := sm_none fun x hx => by
      have := fm0_len hx
      show (fm 0 x).length ≠ _
      omega
    have s2 : s2R (fm 2 (spD n)) now = none := by
      unfold s2R
      split
      · exact sm_none fun x hx => by
          have := fm1_len hx
          show (fm 1 x).length ≠ _
          omega
      · rfl
    unfold rpR
    rw [s1, s2, x3_app (ok_sp ok)]
    exact sm_app (k := 2) ok
theorem par_rp (now : Int) (l : List UInt8) : paR now l = rpR now l := by
  cases h : paR now l with
  | some n => exact (pt_rp (par_pt h)).symm
  | none =>
    cases h2 : rpR now l with
    | none => rfl
    | some n => rw [pt_par (rp_pt h2)] at h; cases h
end Go.Proofs.Ytcmpkkkigmheoaa.D
