/- Symbols up to the end of a block. No conditions but those that each names. -/
import Derived.Test.YtehfblkpbadikaaInf3
set_option linter.unusedVariables false
set_option linter.unusedSimpArgs false
namespace Go.Proofs.Ytehfblkpbadikaa.IF
open Go Go.Proofs Go.RowKit Go.Proofs.Ytehfblkpbadikaa.Sh Go.Proofs.Ytehfblkpbadikaa.Sl Go.Proofs.Ytehfblkpbadikaa.T Go.Proofs.Ytehfblkpbadikaa.HM Go.Proofs.Ytehfblkpbadikaa.HF Go.Proofs.Ytehfblkpbadikaa.B Go.Proofs.Ytehfblkpbadikaa.M
theorem dec_at (l : List Int) (b : List UInt8) : ∀ f n c at_, at_ ≤ (dec l b f n c at_).2.2 ∧ ((dec l b f n c at_).2.1 = 0 → at_ < (dec l b f n c at_).2.2)
  | 0, n, c, at_ => ⟨Nat.le_refl _, fun h => by simp [dec] at h⟩
  | f + 1, n, c, at_ => by
    have hA : at_ ≤ takAt b at_ 1 := by unfold takAt; split <;> omega
    unfold dec
    by_cases hR : takR b at_ 1 = 0
    · rw [if_pos hR]
      have hA1 : takAt b at_ 1 = at_ + 1 := by unfold takAt; rw [if_pos hR]; rfl
      cases fL l ((n + 1 : Nat) : Int) ((2 * c + takN b at_ 1 : Nat) : Int) l.length with
      | some i => exact ⟨hA, fun _ => by simp only; omega⟩
      | none =>
        have ih := dec_at l b f (n + 1) (2 * c + takN b at_ 1) (takAt b at_ 1)
        simp only
        exact ⟨by omega, fun h => by have := ih.2 h; omega⟩
    · rw [if_neg hR]
      exact ⟨hA, fun h => absurd h hR⟩
theorem nxt_at (l : List Int) (b : List UInt8) (at_ : Nat) : at_ ≤ (nxt l b at_).2.2 ∧ ((nxt l b at_).2.1 = 0 → at_ < (nxt l b at_).2.2) := by
  unfold nxt
  split
  · exact dec_at l b 15 0 0 at_
  · exact ⟨Nat.le_refl _, fun h => by cases h⟩
theorem takAt_le (b : List UInt8) (at_ : Nat) (k : Int) : at_ ≤ takAt b at_ k := by unfold takAt; split <;> omega
/-- the text behind a copy: so many bytes, each from so far back -/
def copyL (out : List UInt8) (far : Nat) : Nat → List UInt8
  | 0 => out
  | k + 1 => copyL out far k ++ [(copyL out far k).getD ((copyL out far k).length - far) 0]
theorem copyL_len (out : List UInt8) (far : Nat) : ∀ k, (copyL out far k).length = out.length + k
  | 0 => rfl
  | k + 1 => by rw [copyL, List.length_append, copyL_len out far k, List.length_singleton]; omega
/-- what a symbol's round does: none: the block ends -/
def mRound (la lb : List Int) (b : List UInt8) (most : Int) (at_ : Nat) (out : List UInt8) : Except Int (Bool × Nat × List UInt8) :=
  let x := nxt la b at_
  if x.2.1 ≠ 0 then .error x.2.1 else
  if x.1 = 256 then .ok (true, x.2.2, out) else
  if x.1 < 256 then (if ¬ (1 : Int) ≤ most - out.length then .error 6 else .ok (false, x.2.2, out ++ [UInt8.ofNat x.1.toNat])) else
  if ¬ 0 < (bL x.1).1 then .error 30 else
  if takR b x.2.2 (bL x.1).2 ≠ 0 then .error (takR b x.2.2 (bL x.1).2) else
  let y := nxt lb b (takAt b x.2.2 (bL x.1).2)
  if y.2.1 ≠ 0 then .error y.2.1 else
  if ¬ 0 < (bD y.1).1 then .error 30 else
  if takR b y.2.2 (bD y.1).2 ≠ 0 then .error (takR b y.2.2 (bD y.1).2) else
  if ¬ (bD y.1).1 + takN b y.2.2 (bD y.1).2 ≤ out.length then .error 31 else
  if ¬ (bL x.1).1 + takN b x.2.2 (bL x.1).2 ≤ most - out.length then .error 6 else
  .ok (false, takAt b y.2.2 (bD y.1).2, copyL out ((bD y.1).1 + takN b y.2.2 (bD y.1).2).toNat ((bL x.1).1 + takN b x.2.2 (bL x.1).2).toNat)
def mSyms (la lb : List Int) (b : List UInt8) (most : Int) : Nat → Nat → List UInt8 → Except Int (Nat × List UInt8)
  | 0, _, _ => .error 20
  | f + 1, at_, out => match mRound la lb b most at_ out with
    | .error e => .error e
    | .ok (true, a, o) => .ok (a, o)
    | .ok (false, a, o) => mSyms la lb b most f a o
theorem dec_val (l : List Int) (b : List UInt8) : ∀ f n c at_, 0 ≤ (dec l b f n c at_).1 ∧ (dec l b f n c at_).1 ≤ l.length
  | 0, n, c, at_ => by simp [dec]
  | f + 1, n, c, at_ => by
    unfold dec
    split
    · cases h : fL l ((n + 1 : Nat) : Int) ((2 * c + takN b at_ 1 : Nat) : Int) l.length with
      | some i => have := (fL_sound h).1; simp only; omega
      | none => exact dec_val l b f _ _ _
    · simp
theorem nxt_val (l : List Int) (b : List UInt8) (at_ : Nat) : 0 ≤ (nxt l b at_).1 ∧ (nxt l b at_).1 ≤ l.length := by
  unfold nxt
  split
  · exact dec_val l b 15 0 0 at_
  · simp
theorem bL_b (s : Int) (h : 0 ≤ s) : 0 ≤ (bL s).1 ∧ (bL s).1 ≤ 1099511627776 ∧ 0 ≤ (bL s).2 := by
  unfold bL
  split
  · simp
  · split
    · simp
    · split
      · simp only; omega
      · rename_i h1 h2 h3
        have e : ((2 ^ ((s - 257) / 4 - 1).toNat : Nat) : Int) ≤ 32768 := by
          have := pow15 (show ((s - 257) / 4 - 1).toNat ≤ 15 by omega)
          omega
        have e0 : (0 : Int) ≤ ((2 ^ ((s - 257) / 4 - 1).toNat : Nat) : Int) := Int.natCast_nonneg _
        obtain ⟨E, hE⟩ : ∃ E : Int, E = ((2 ^ ((s - 257) / 4 - 1).toNat : Nat) : Int) := ⟨_, rfl⟩
        rw [← hE] at e e0 ⊢
        have h6 : (4 + (s - 257) % 4) * E ≤ 8 * 32768 := Int.mul_le_mul (by omega) (by omega) (by omega) (by omega)
        have h7 : 0 ≤ (4 + (s - 257) % 4) * E := Int.mul_nonneg (by omega) (by omega)
        simp only; omega
theorem bD_b (s : Int) (h : 0 ≤ s) : 0 ≤ (bD s).1 ∧ (bD s).1 ≤ 1099511627776 ∧ 0 ≤ (bD s).2 := by
  unfold bD
  split
  · simp
  · split
    · simp only; omega
    · rename_i h1 h2
      have e : ((2 ^ (s / 2 - 1).toNat : Nat) : Int) ≤ 32768 := by
        have := pow15 (show (s / 2 - 1).toNat ≤ 15 by omega)
        omega
      have e0 : (0 : Int) ≤ ((2 ^ (s / 2 - 1).toNat : Nat) : Int) := Int.natCast_nonneg _
      obtain ⟨E, hE⟩ : ∃ E : Int, E = ((2 ^ (s / 2 - 1).toNat : Nat) : Int) := ⟨_, rfl⟩
      rw [← hE] at e e0 ⊢
      have h6 : (2 + s % 2) * E ≤ 8 * 32768 := Int.mul_le_mul (by omega) (by omega) (by omega) (by omega)
      have h7 : 0 ≤ (2 + s % 2) * E := Int.mul_nonneg (by omega) (by omega)
      simp only; omega
theorem takN32 (b : List UInt8) (at_ : Nat) (k : Int) : takN b at_ k < 4294967296 := by
  unfold takN
  split
  · rename_i h
    have hk : k.toNat ≤ 32 := by
      unfold takR at h
      split at h
      · cases h
      · omega
    exact Nat.lt_of_lt_of_le (tak_lt _ _ _) (Nat.le_trans (Nat.pow_le_pow_right (by omega) hk) (by decide))
  · omega
end Go.Proofs.Ytehfblkpbadikaa.IF
