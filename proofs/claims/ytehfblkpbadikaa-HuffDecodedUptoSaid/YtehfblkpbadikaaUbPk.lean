/- The bits of packed bits: they, and noughts. No conditions; no program in sight. -/
import Derived.Test.YtehfblkpbadikaaBitsM
set_option linter.unusedVariables false
set_option linter.unusedSimpArgs false
namespace Go.Proofs.Ytehfblkpbadikaa.B
open Go Go.Proofs.Ytehfblkpbadikaa.Sl Go.Proofs.Ytehfblkpbadikaa.M
theorem testBit_val : ∀ (l : List Bool) (i : Nat), (val l).testBit i = l.getD i false
  | [], i => by simp [val]
  | b :: l, 0 => by
    rw [Nat.testBit_zero]
    cases b <;> simp [val] <;> omega
  | b :: l, i + 1 => by
    have : val (b :: l) / 2 = val l := by cases b <;> simp [val] <;> omega
    rw [Nat.testBit_succ, this, testBit_val l i]; simp
theorem ub_pk (L : List Bool) : ub (pk L) = padTo8 L := by
  have hl : (ub (pk L)).length = (padTo8 L).length := by rw [length_ub, length_pk, length_pad]
  apply List.ext_getElem? 
  intro i
  by_cases h : i / 8 < (pk L).length
  · rw [ub_get h]
    have h2 : (pk L)[i / 8] = UInt8.ofNat (byteAt L (i / 8)) := by simp [pk, pkn]
    rw [h2, UInt8.toNat_ofNat', Nat.mod_eq_of_lt (byteAt_lt _ _)]
    unfold byteAt
    rw [testBit_val]
    have h3 : i < (padTo8 L).length := by rw [length_pad]; rw [length_pk] at h; omega
    rw [List.getD_eq_getElem?_getD, List.getElem?_take, if_pos (by omega), List.getElem?_drop, show 8 * (i / 8) + i % 8 = i by omega]
    rw [length_pad] at h3
    unfold padTo8
    by_cases c : i < L.length
    · rw [List.getElem?_append_left c, List.getElem?_eq_getElem c]; rfl
    · rw [List.getElem?_eq_none (by omega), List.getElem?_append_right (by omega), List.getElem?_replicate, if_pos (by omega)]; rfl
  · have h1 : (ub (pk L)).length ≤ i := by rw [length_ub]; omega
    rw [List.getElem?_eq_none h1, List.getElem?_eq_none (by rw [← hl]; exact h1)]
end Go.Proofs.Ytehfblkpbadikaa.B
