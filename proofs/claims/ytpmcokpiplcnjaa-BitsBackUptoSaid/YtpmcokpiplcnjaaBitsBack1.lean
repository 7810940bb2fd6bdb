/- What was put is taken as it was: the plain law over bits. No conditions but those that each names; no program in sight. -/
import Derived.Test.YtpmcokpiplcnjaaBitsRef2
set_option linter.unusedVariables false
set_option linter.unusedSimpArgs false
namespace Go.Proofs.Ytpmcokpiplcnjaa.B
open Go Go.Proofs.Ytpmcokpiplcnjaa.Sl Go.Proofs.Ytpmcokpiplcnjaa.M
theorem testBit_val : ∀ (l : List Bool) (i : Nat), (val l).testBit i = l.getD i false
  | [], i => by simp [val]
  | b :: l, 0 => by
    rw [Nat.testBit_zero]
    cases b <;> simp [val] <;> omega
  | b :: l, i + 1 => by
    have : val (b :: l) / 2 = val l := by cases b <;> simp [val] <;> omega
    rw [Nat.testBit_succ, this, testBit_val l i]; simp
theorem ub_pk (L : List Bool) : ub (pk L) = padTo8 L := by
  have hl : (ub (pk L)).length = (padTo8 L).length := by rw [length_ub, length_pk, length_pad]
  apply List.ext_getElem? 
  intro i
  by_cases h : i / 8 < (pk L).length
  · rw [ub_get h]
    have h2 : (pk L)[i / 8] = UInt8.ofNat (byteAt L (i / 8)) := by simp [pk, pkn]
    rw [h2, UInt8.toNat_ofNat', Nat.mod_eq_of_lt (byteAt_lt _ _)]
    unfold byteAt
    rw [testBit_val]
    have h3 : i < (padTo8 L).length := by rw [length_pad]; rw [length_pk] at h; omega
    rw [List.getD_eq_getElem?_getD, List.getElem?_take, if_pos (by omega), List.getElem?_drop, show 8 * (i / 8) + i % 8 = i by omega]
    rw [length_pad] at h3
    unfold padTo8
    by_cases c : i < L.length
    · rw [List.getElem?_append_left c, List.getElem?_eq_getElem c]; rfl
    · rw [List.getElem?_eq_none (by omega), List.getElem?_append_right (by omega), List.getElem?_replicate, if_pos (by omega)]; rfl
  · have h1 : (ub (pk L)).length ≤ i := by rw [length_ub]; omega
    rw [List.getElem?_eq_none h1, List.getElem?_eq_none (by rw [← hl]; exact h1)]
def good (l : List Bool) (o : Opn) : Prop := if o.kind = 0 then putR l o.v o.n = 0 else if o.kind = 1 then True else rawR l o.b = 0
def stepO (l : List Bool) (o : Opn) : List Bool := stepL l o.kind o.n o.v o.b
theorem step_ext (l : List Bool) (o : Opn) : ∃ s, stepO l o = l ++ s := by
  unfold stepO stepL putL rawL padTo8
  split
  · split
    · exact ⟨_, rfl⟩
    · exact ⟨[], by simp⟩
  · split
    · exact ⟨_, rfl⟩
    · split
      · exact ⟨_, List.append_assoc _ _ _⟩
      · exact ⟨[], by simp⟩
theorem steps_ext (l : List Bool) (os : List Opn) : ∃ s, stepsL l os = l ++ s := by
  induction os generalizing l with
  | nil => exact ⟨[], by simp [stepsL]⟩
  | cons o os ih =>
    obtain ⟨s, hs⟩ := step_ext l o
    obtain ⟨t, ht⟩ := ih (stepO l o)
    refine ⟨s ++ t, ?_⟩
    rw [← List.append_assoc, ← hs, ← ht]; rfl
theorem steps_pre {os : List Opn} {i : Nat} (h : i < os.length) : ∃ s, ub (pk (stepsL [] os)) = stepO (stepsL [] (os.take i)) os[i] ++ s := by
  obtain ⟨s, hs⟩ := steps_ext (stepsL [] (os.take (i + 1))) (os.drop (i + 1))
  have e : stepsL [] os = stepsL (stepsL [] (os.take (i + 1))) (os.drop (i + 1)) := by
    unfold stepsL
    rw [← List.foldl_append, List.take_append_drop]
  rw [ub_pk, e, hs, stepsL_take h]
  unfold padTo8
  exact ⟨_, List.append_assoc _ _ _⟩
theorem ub_drop (l : List UInt8) (k : Nat) : (ub l).drop (8 * k) = ub (l.drop k) := by
  rcases Nat.lt_or_ge k l.length with h | h
  · have e : ub l = ub (l.take k) ++ ub (l.drop k) := by
      unfold ub; rw [← List.flatMap_append, List.take_append_drop]
    have hl : (ub (l.take k)).length = 8 * k := by rw [length_ub, List.length_take]; omega
    rw [e, ← hl, List.drop_left]
  · rw [List.drop_eq_nil_of_le (by rw [length_ub]; omega), List.drop_eq_nil_of_le h]; rfl
theorem ub_take (l : List UInt8) (k : Nat) : (ub l).take (8 * k) = ub (l.take k) := by
  rcases Nat.lt_or_ge k l.length with h | h
  · have e : ub l = ub (l.take k) ++ ub (l.drop k) := by
      unfold ub; rw [← List.flatMap_append, List.take_append_drop]
    have hl : (ub (l.take k)).length = 8 * k := by rw [length_ub, List.length_take]; omega
    rw [e, ← hl, List.take_left]
  · rw [List.take_of_length_le (by rw [length_ub]; omega), List.take_of_length_le h]
variable {os : List Opn} {i : Nat}
theorem back_put (h : i < os.length) (hg : good (stepsL [] (os.take i)) os[i]) (hk : os[i].kind = 0) :
    takR (pk (stepsL [] os)) (stepsL [] (os.take i)).length os[i].n = 0 ∧ (takN (pk (stepsL [] os)) (stepsL [] (os.take i)).length os[i].n : Int) = os[i].v ∧ takAt (pk (stepsL [] os)) (stepsL [] (os.take i)).length os[i].n = (stepsL [] (os.take (i + 1))).length := by
  obtain ⟨s, hs⟩ := steps_pre h
  rw [stepsL_take h]
  unfold good at hg
  rw [if_pos hk] at hg
  have hst : stepO (stepsL [] (os.take i)) os[i] = stepsL [] (os.take i) ++ bitsOf os[i].v.toNat os[i].n.toNat := by
    unfold stepO stepL
    rw [if_pos hk]; unfold putL; rw [if_pos hg]
  have hst2 : stepL (stepsL [] (os.take i)) os[i].kind os[i].n os[i].v os[i].b = stepsL [] (os.take i) ++ bitsOf os[i].v.toNat os[i].n.toNat := hst
  have hb : ¬ badP os[i].v os[i].n := by
    intro c; unfold putR at hg; rw [if_pos c] at hg; cases hg
  unfold badP at hb
  have hU := length_ub (pk (stepsL [] os))
  rw [hs, hst, List.length_append, List.length_append, length_bitsOf] at hU
  have hR : takR (pk (stepsL [] os)) (stepsL [] (os.take i)).length os[i].n = 0 := by
    unfold takR
    rw [if_neg (by omega), if_neg (by omega)]
  refine ⟨hR, ?_, ?_⟩
  · unfold takN
    rw [if_pos hR, hs, hst, tak, List.append_assoc, List.drop_left, List.take_append_of_le_length (by rw [length_bitsOf]; omega), List.take_of_length_le (by rw [length_bitsOf]; omega), val_bitsOf]
    have h3 : os[i].v.toNat < 2 ^ os[i].n.toNat := by
      have h4 : os[i].v < 2 ^ os[i].n.toNat := by omega
      have h5 : ((os[i].v.toNat : Nat) : Int) < ((2 ^ os[i].n.toNat : Nat) : Int) := by
        rw [Int.toNat_of_nonneg (by omega)]; push_cast; exact h4
      exact Int.ofNat_lt.1 h5
    rw [Nat.mod_eq_of_lt h3]; omega
  · unfold takAt
    rw [if_pos hR, hst2, List.length_append, length_bitsOf]
theorem back_align (h : i < os.length) (hk : os[i].kind = 1) : ((stepsL [] (os.take i)).length + 7) / 8 * 8 = (stepsL [] (os.take (i + 1))).length := by
  rw [stepsL_take h, stepL, if_neg (by omega), if_pos hk, length_pad, Nat.mul_comm]
theorem back_raw (h : i < os.length) (hg : good (stepsL [] (os.take i)) os[i]) (h0 : os[i].kind ≠ 0) (h1 : os[i].kind ≠ 1) :
    rrR (pk (stepsL [] os)) (stepsL [] (os.take i)).length os[i].b.length = 0 ∧ rrB (pk (stepsL [] os)) (stepsL [] (os.take i)).length os[i].b.length = os[i].b ∧ rrAt (pk (stepsL [] os)) (stepsL [] (os.take i)).length os[i].b.length = (stepsL [] (os.take (i + 1))).length := by
  obtain ⟨s, hs⟩ := steps_pre h
  rw [stepsL_take h]
  unfold good at hg
  rw [if_neg h0, if_neg h1] at hg
  have hst : stepO (stepsL [] (os.take i)) os[i] = padTo8 (stepsL [] (os.take i)) ++ ub os[i].b := by
    unfold stepO stepL
    rw [if_neg h0, if_neg h1]; unfold rawL; rw [if_pos hg]
  have hst2 : stepL (stepsL [] (os.take i)) os[i].kind os[i].n os[i].v os[i].b = padTo8 (stepsL [] (os.take i)) ++ ub os[i].b := hst
  have hU := length_ub (pk (stepsL [] os))
  have hp := length_pad (stepsL [] (os.take i))
  rw [hs, hst, List.length_append, List.length_append, length_ub, hp] at hU
  have hR : rrR (pk (stepsL [] os)) (stepsL [] (os.take i)).length os[i].b.length = 0 := by
    unfold rrR
    rw [if_neg (by omega), if_neg (by omega)]
  refine ⟨hR, ?_, ?_⟩
  · unfold rrB
    rw [if_pos hR, Int.toNat_natCast]
    have e : ub (((pk (stepsL [] os)).drop (((stepsL [] (os.take i)).length + 7) / 8)).take os[i].b.length) = ub os[i].b := by
      rw [← ub_take, ← ub_drop, hs, hst, ← hp, List.append_assoc, List.drop_left, ← length_ub, List.take_left]
    have := congrArg pk e
    rwa [pk_ub, pk_ub] at this
  · unfold rrAt
    rw [if_pos hR, hst2, List.length_append, length_ub, hp, Int.toNat_natCast]; omega
end Go.Proofs.Ytpmcokpiplcnjaa.B
