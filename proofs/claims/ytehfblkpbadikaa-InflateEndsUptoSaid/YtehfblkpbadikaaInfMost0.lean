/- Less room: the same, or too much. Plain; no program in sight. No conditions but those that each names. -/
import Derived.Test.YtehfblkpbadikaaInf10
set_option linter.unusedVariables false
set_option linter.unusedSimpArgs false
namespace Go.Proofs.Ytehfblkpbadikaa.IF
open Go Go.Proofs Go.RowKit Go.Proofs.Ytehfblkpbadikaa.Sh Go.Proofs.Ytehfblkpbadikaa.Sl Go.Proofs.Ytehfblkpbadikaa.T Go.Proofs.Ytehfblkpbadikaa.HM Go.Proofs.Ytehfblkpbadikaa.HF Go.Proofs.Ytehfblkpbadikaa.B Go.Proofs.Ytehfblkpbadikaa.M
/-- with less room: the same, or the error of size -/
def Lm {α : Type} (len : α → Nat) (x y : Except Int α) (out : Nat) (most : Int) : Prop := ∀ v, x = .ok v → out ≤ len v ∧ ((len v : Int) ≤ most → y = .ok v) ∧ (most < len v → y = .error 6)
theorem mStored_lm {b : List UInt8} {M most : Int} {at_ : Nat} {out : List UInt8} (hM : most ≤ M) (h0 : (out.length : Int) ≤ most) : Lm (fun x => x.2.length) (mStored b M at_ out) (mStored b most at_ out) out.length most := by
  rintro ⟨a, o⟩ h
  unfold mStored at h
  obtain ⟨c1, h⟩ := ite_err h
  obtain ⟨c2, h⟩ := ite_err h
  obtain ⟨c3, h⟩ := ite_err h
  obtain ⟨c4, h⟩ := ite_err h
  obtain ⟨c5, h⟩ := ite_err h
  have e1 := (Prod.mk.inj (Except.ok.inj h)).1
  have e2 := (Prod.mk.inj (Except.ok.inj h)).2
  subst e1
  subst e2
  obtain ⟨n, hn⟩ : ∃ n, n = takN b ((at_ + 7) / 8 * 8) 16 := ⟨_, rfl⟩
  obtain ⟨a3, ha3⟩ : ∃ a3, a3 = takAt b (takAt b ((at_ + 7) / 8 * 8) 16) 16 := ⟨_, rfl⟩
  have hlen : (rrB b a3 (n : Int)).length = n := by
    rw [← ha3, ← hn] at c5
    have c5 := Decidable.not_not.1 c5
    unfold rrB
    rw [if_pos c5]
    unfold rrR at c5
    split at c5
    · cases c5
    · split at c5
      · cases c5
      · rw [List.length_take, List.length_drop]; omega
  rw [← ha3, ← hn]
  rw [← ha3, ← hn] at c5
  rw [← hn] at c4
  refine ⟨by simp only [List.length_append]; omega, fun hle => ?_, fun hlt => ?_⟩
  · simp only [List.length_append, hlen] at hle
    unfold mStored
    rw [if_neg c1, if_neg c2, if_neg c3, ← ha3, ← hn, if_neg (by omega), if_neg c5]
  · simp only [List.length_append, hlen] at hlt
    unfold mStored
    rw [if_neg c1, if_neg c2, if_neg c3, ← hn, if_pos (by omega)]
theorem mRound_lm {la lb : List Int} {b : List UInt8} {M most : Int} {at_ : Nat} {out : List UInt8} (hM : most ≤ M) (h0 : (out.length : Int) ≤ most) : Lm (fun x => x.2.2.length) (mRound la lb b M at_ out) (mRound la lb b most at_ out) out.length most := by
  rintro ⟨t, a, o⟩ h
  have ho : ∀ {t' : Bool} {a' : Nat} {o' : List UInt8}, (Except.ok (t', a', o') : Except Int (Bool × Nat × List UInt8)) = .ok (t, a, o) → t' = t ∧ a' = a ∧ o' = o := fun e => ⟨(Prod.mk.inj (Except.ok.inj e)).1, (Prod.mk.inj (Prod.mk.inj (Except.ok.inj e)).2).1, (Prod.mk.inj (Prod.mk.inj (Except.ok.inj e)).2).2⟩
  unfold mRound at h ⊢
  simp only at h ⊢
  obtain ⟨d0, h⟩ := ite_err h
  rw [if_neg d0]
  by_cases c1 : (nxt la b at_).1 = 256
  · rw [if_pos c1] at h ⊢
    obtain ⟨rfl, rfl, rfl⟩ := ho h
    exact ⟨Nat.le_refl _, fun _ => rfl, fun hlt => absurd h0 (by omega)⟩
  rw [if_neg c1] at h ⊢
  by_cases c2 : (nxt la b at_).1 < 256
  · rw [if_pos c2] at h ⊢
    obtain ⟨d1, h⟩ := ite_err h
    obtain ⟨rfl, rfl, rfl⟩ := ho h
    rw [List.length_append, List.length_singleton]
    refine ⟨by omega, fun hle => by rw [if_neg (by omega)], fun hlt => by rw [if_pos (by omega)]⟩
  rw [if_neg c2] at h ⊢
  obtain ⟨d1, h⟩ := ite_err h
  obtain ⟨d2, h⟩ := ite_err h
  obtain ⟨d3, h⟩ := ite_err h
  obtain ⟨d4, h⟩ := ite_err h
  obtain ⟨d5, h⟩ := ite_err h
  obtain ⟨d6, h⟩ := ite_err h
  obtain ⟨d7, h⟩ := ite_err h
  obtain ⟨rfl, rfl, rfl⟩ := ho h
  rw [if_neg d1, if_neg d2, if_neg d3, if_neg d4, if_neg d5, if_neg d6, copyL_len]
  generalize (takN b (nxt la b at_).2.2 (bL (nxt la b at_).1).2) = E at d7 ⊢
  generalize (bL (nxt la b at_).1).1 = G at d1 d7 ⊢
  refine ⟨by omega, fun hle => by rw [if_neg (by omega)], fun hlt => by rw [if_pos (by omega)]⟩
theorem mSyms_lm {la lb : List Int} {b : List UInt8} {M : Int} : ∀ (f : Nat) {most : Int} {at_ : Nat} {out : List UInt8}, most ≤ M → (out.length : Int) ≤ most → Lm (fun x => x.2.length) (mSyms la lb b M f at_ out) (mSyms la lb b most f at_ out) out.length most
  | 0, _, _, _, _, _ => fun v h => by cases h
  | f + 1, most, at_, out, hM, h0 => by
    intro v h
    rw [mSyms] at h
    rw [mSyms]
    cases hr : mRound la lb b M at_ out with
    | error e => rw [hr] at h; cases h
    | ok q =>
      obtain ⟨t, a, o⟩ := q
      obtain ⟨l1, l2, l3⟩ := mRound_lm hM h0 _ hr
      simp only at l1 l2 l3
      have hoM := mRound_ok hr (by omega)
      rw [hr] at h
      cases t with
      | true =>
        simp only at h
        cases h
        exact ⟨l1, fun hle => by rw [l2 hle], fun hlt => by rw [l3 hlt]⟩
      | false =>
        simp only at h
        have up := (mSyms_lm f (Int.le_refl M) hoM v h).1
        by_cases hc : (o.length : Int) ≤ most
        · rw [l2 hc]
          obtain ⟨k1, k2, k3⟩ := mSyms_lm f hM hc v h
          exact ⟨by omega, k2, k3⟩
        · rw [l3 (by omega)]
          exact ⟨by omega, fun hle => absurd hle (by omega), fun _ => rfl⟩
theorem mDyn_lm {b : List UInt8} {M most : Int} {at_ : Nat} {out : List UInt8} (hM : most ≤ M) (h0 : (out.length : Int) ≤ most) : Lm (fun x => x.2.length) (mDyn b M at_ out) (mDyn b most at_ out) out.length most := by
  intro v h
  unfold mDyn at h ⊢
  obtain ⟨d1, h⟩ := ite_err h
  obtain ⟨d2, h⟩ := ite_err h
  obtain ⟨d3, h⟩ := ite_err h
  obtain ⟨d4, h⟩ := ite_err h
  rw [if_neg d1, if_neg d2, if_neg d3, if_neg d4]
  generalize hcl : mCl b _ _ _ = C at h ⊢
  cases C with
  | error e => cases h
  | ok q =>
    obtain ⟨a4, l⟩ := q
    simp only at h ⊢
    obtain ⟨d5, h⟩ := ite_err h
    rw [if_neg d5]
    unfold mBoth at h ⊢
    generalize hrw : mRw l b _ _ = C at h ⊢
    cases C with
    | error e => cases h
    | ok q =>
      obtain ⟨a5, r⟩ := q
      simp only at h ⊢
      obtain ⟨d6, h⟩ := ite_err h
      obtain ⟨d7, h⟩ := ite_err h
      obtain ⟨d8, h⟩ := ite_err h
      rw [if_neg d6, if_neg d7, if_neg d8]
      exact mSyms_lm _ hM h0 v h
theorem mKind_lm {k : Nat} {b : List UInt8} {M most : Int} {at_ : Nat} {out : List UInt8} (hM : most ≤ M) (h0 : (out.length : Int) ≤ most) : Lm (fun x => x.2.length) (mKind k b M at_ out) (mKind k b most at_ out) out.length most := by
  unfold mKind
  split
  · exact mStored_lm hM h0
  split
  · exact mSyms_lm _ hM h0
  split
  · exact mDyn_lm hM h0
  · exact fun v h => by cases h
theorem mLoop_lm {b : List UInt8} {M : Int} : ∀ (f : Nat) {most : Int} {at_ : Nat} {out : List UInt8} {l : List (Int × Int)}, most ≤ M → (out.length : Int) ≤ most → Lm (fun x => x.2.1.length) (mLoop b M f at_ out l) (mLoop b most f at_ out l) out.length most
  | 0, _, _, _, _, _, _ => fun v h => by cases h
  | f + 1, most, at_, out, l, hM, h0 => by
    intro v h
    rw [mLoop] at h
    rw [mLoop]
    obtain ⟨d1, h⟩ := ite_err h
    obtain ⟨d2, h⟩ := ite_err h
    rw [if_neg d1, if_neg d2]
    cases hr : mKind (takN b (takAt b at_ 1) 2) b M (takAt b (takAt b at_ 1) 2) out with
    | error e => rw [hr] at h; cases h
    | ok q =>
      obtain ⟨a, o⟩ := q
      obtain ⟨l1, l2, l3⟩ := mKind_lm hM h0 _ hr
      simp only at l1 l2 l3
      have hoM := mKind_ok hr (by omega)
      rw [hr] at h
      simp only at h
      by_cases c : takN b at_ 1 = 0
      · rw [if_pos c] at h
        have up := (mLoop_lm f (Int.le_refl M) hoM v h).1
        simp only at up
        by_cases hc : (o.length : Int) ≤ most
        · rw [l2 hc]
          simp only [if_pos c]
          obtain ⟨k1, k2, k3⟩ := mLoop_lm f hM hc v h
          simp only at k1 k2 k3
          exact ⟨Nat.le_trans l1 k1, k2, k3⟩
        · rw [l3 (by omega)]
          exact ⟨Nat.le_trans l1 up, fun hle => absurd hle (by simp only; omega), fun _ => rfl⟩
      · rw [if_neg c] at h
        cases h
        exact ⟨l1, fun hle => by rw [l2 hle]; simp only [if_neg c], fun hlt => by rw [l3 hlt]⟩
theorem ite_e {α : Type} {c : Prop} [Decidable c] {x : Int} {y : Except Int α} {e : Int} (h : (if c then .error x else y) = .error e) : (c ∧ x = e) ∨ y = .error e := by
  by_cases hc : c
  · rw [if_pos hc] at h; cases h; exact .inl ⟨hc, rfl⟩
  · rw [if_neg hc] at h; exact .inr h
theorem mStored_e {b : List UInt8} {most : Int} {at_ : Nat} {out : List UInt8} {e : Int} (h : mStored b most at_ out = .error e) : e ≠ 0 := by
  unfold mStored at h
  rcases ite_e h with ⟨c, rfl⟩ | h
  · exact c
  rcases ite_e h with ⟨c, rfl⟩ | h
  · exact c
  rcases ite_e h with ⟨c, rfl⟩ | h
  · decide
  rcases ite_e h with ⟨c, rfl⟩ | h
  · decide
  rcases ite_e h with ⟨c, rfl⟩ | h
  · exact c
  cases h
theorem mRound_e {la lb : List Int} {b : List UInt8} {most : Int} {at_ : Nat} {out : List UInt8} {e : Int} (h : mRound la lb b most at_ out = .error e) : e ≠ 0 := by
  unfold mRound at h
  simp only at h
  rcases ite_e h with ⟨c, rfl⟩ | h
  · exact c
  by_cases c1 : (nxt la b at_).1 = 256
  · rw [if_pos c1] at h; cases h
  rw [if_neg c1] at h
  by_cases c2 : (nxt la b at_).1 < 256
  · rw [if_pos c2] at h
    rcases ite_e h with ⟨c, rfl⟩ | h
    · decide
    · cases h
  rw [if_neg c2] at h
  rcases ite_e h with ⟨c, rfl⟩ | h
  · decide
  rcases ite_e h with ⟨c, rfl⟩ | h
  · exact c
  rcases ite_e h with ⟨c, rfl⟩ | h
  · exact c
  rcases ite_e h with ⟨c, rfl⟩ | h
  · decide
  rcases ite_e h with ⟨c, rfl⟩ | h
  · exact c
  rcases ite_e h with ⟨c, rfl⟩ | h
  · decide
  rcases ite_e h with ⟨c, rfl⟩ | h
  · decide
  cases h
theorem mSyms_e {la lb : List Int} {b : List UInt8} {most : Int} {e : Int} : ∀ (f : Nat) {at_ : Nat} {out : List UInt8}, mSyms la lb b most f at_ out = .error e → e ≠ 0
  | 0, _, _, h => by cases h; decide
  | f + 1, at_, out, h => by
    rw [mSyms] at h
    split at h
    · rename_i hr; cases h; exact mRound_e hr
    · cases h
    · exact mSyms_e f h
theorem mCl_e {b : List UInt8} {e : Int} : ∀ (ks : List Nat) {at_ : Nat} {l : List Int}, mCl b ks at_ l = .error e → e ≠ 0
  | [], _, _, h => by cases h
  | k :: ks, at_, l, h => by
    rw [mCl] at h
    split at h
    · cases h; assumption
    · exact mCl_e ks h
theorem mRun_e {l : List Int} {b : List UInt8} {at_ : Nat} {acc : List Int} {e : Int} (h : mRun l b at_ acc = .error e) : e ≠ 0 := by
  unfold mRun at h
  simp only at h
  split at h
  · cases h; assumption
  split at h
  · split at h
    · cases h; assumption
    split at h
    · cases h; decide
    · cases h
  split at h
  · split at h
    · cases h; assumption
    · cases h
  split at h
  · split at h
    · cases h; assumption
    · cases h
  · cases h
theorem mRow_e {l : List Int} {b : List UInt8} {n : Nat} {e : Int} : ∀ (f : Nat) {at_ : Nat} {acc : List Int}, mRow l b n f at_ acc = .error e → e ≠ 0
  | 0, _, _, h => by cases h; decide
  | f + 1, at_, acc, h => by
    rw [mRow] at h
    split at h
    · split at h
      · rename_i hr; cases h; exact mRun_e hr
      · split at h
        · cases h; decide
        · exact mRow_e f h
    · cases h
theorem mDyn_e {b : List UInt8} {most : Int} {at_ : Nat} {out : List UInt8} {e : Int} (h : mDyn b most at_ out = .error e) : e ≠ 0 := by
  unfold mDyn at h
  split at h
  · cases h; assumption
  split at h
  · cases h; assumption
  split at h
  · cases h; assumption
  split at h
  · cases h; decide
  split at h
  · rename_i hr; cases h; exact mCl_e _ hr
  · split at h
    · cases h; decide
    unfold mBoth at h
    split at h
    · rename_i hr; cases h; exact mRow_e _ hr
    · split at h
      · cases h; decide
      split at h
      · cases h; decide
      split at h
      · cases h; decide
      · exact mSyms_e _ h
theorem mKind_e {k : Nat} {b : List UInt8} {most : Int} {at_ : Nat} {out : List UInt8} {e : Int} (h : mKind k b most at_ out = .error e) : e ≠ 0 := by
  unfold mKind at h
  split at h
  · exact mStored_e h
  split at h
  · exact mSyms_e _ h
  split at h
  · exact mDyn_e h
  · cases h; decide
theorem mLoop_e {b : List UInt8} {most : Int} {e : Int} : ∀ (f : Nat) {at_ : Nat} {out : List UInt8} {l : List (Int × Int)}, mLoop b most f at_ out l = .error e → e ≠ 0
  | 0, _, _, _, h => by cases h; decide
  | f + 1, at_, out, l, h => by
    rw [mLoop] at h
    split at h
    · cases h; assumption
    split at h
    · cases h; assumption
    split at h
    · rename_i hr; cases h; exact mKind_e hr
    · split at h
      · exact mLoop_e f h
      · cases h
theorem mAll_e {b : List UInt8} {most : Int} {e : Int} (h : mAll b most = .error e) : e ≠ 0 := by
  unfold mAll at h
  split at h
  · cases h; decide
  split at h
  · cases h; decide
  · exact mLoop_e _ h
theorem most_law {b : List UInt8} {most : Int} (h1 : 0 ≤ most) (h2 : most ≤ 1048576) (h : aE b 1048576 = 0) : if most < (aO b 1048576).length then aE b most = 6 ∧ aO b most = [] else aE b most = 0 ∧ aO b most = aO b 1048576 := by
  cases hv : mAll b 1048576 with
  | error e =>
    exact absurd (by simpa [aE, hv] using h) (mAll_e hv)
  | ok v =>
    have hO : aO b 1048576 = v.2.1 := by simp [aO, hv]
    rw [hO]
    unfold mAll at hv
    rw [if_neg (by omega)] at hv
    by_cases hb : 1048576 < b.length
    · rw [if_pos hb] at hv; cases hv
    rw [if_neg hb] at hv
    obtain ⟨l1, l2, l3⟩ := mLoop_lm (most := most) _ h2 (by simpa using h1) v hv
    simp only at l1 l2 l3
    have hA : mAll b most = mLoop b most (8 * b.length + 1) 0 [] [] := by unfold mAll; rw [if_neg (by omega), if_neg hb]
    split
    · rename_i hlt
      have := l3 hlt
      simp [aE, aO, hA, this]
    · rename_i hle
      have := l2 (by omega)
      simp [aE, aO, hA, this]
end Go.Proofs.Ytehfblkpbadikaa.IF
