/- What was written by a set of codes is read as the symbols that it was: the plain law. No conditions but those that each names; no program in sight. -/
import Derived.Test.YtehfblkpbadikaaHuffNext
import Derived.Test.YtehfblkpbadikaaHuffPut
import Derived.Test.YtehfblkpbadikaaUbPk
set_option linter.unusedVariables false
set_option linter.unusedSimpArgs false
namespace Go.Proofs.Ytehfblkpbadikaa.HF
open Go Go.Proofs Go.RowKit Go.Proofs.Ytehfblkpbadikaa.Sh Go.Proofs.Ytehfblkpbadikaa.Sl Go.Proofs.Ytehfblkpbadikaa.HM Go.Proofs.Ytehfblkpbadikaa.B Go.Proofs.Ytehfblkpbadikaa.M
theorem bitsOf_val : ∀ x : List Bool, bitsOf (val x) x.length = x := fun x => by
  apply List.ext_getElem?
  intro j
  by_cases h : j < x.length
  · rw [List.getElem?_eq_getElem h]
    unfold bitsOf
    rw [List.getElem?_map, List.getElem?_range h, Option.map_some, testBit_val, List.getD_eq_getElem?_getD, List.getElem?_eq_getElem h]; rfl
  · rw [List.getElem?_eq_none (by rw [length_bitsOf]; omega), List.getElem?_eq_none (by omega)]
theorem bitsOf_rv (c : Int) (n : Nat) : bitsOf (rv c n) n = (bl c n).reverse := by
  have := bitsOf_val (bl c n).reverse
  rw [List.length_reverse, length_bl] at this
  exact this
theorem rv_get {c n k : Nat} (h : k < n) : (bitsOf (rv (c : Int) n) n)[k]? = some (decide (c / 2 ^ (n - 1 - k) % 2 = 1)) := by
  rw [bitsOf_rv, List.getElem?_reverse (by rw [length_bl]; exact h), length_bl]
  unfold bl
  rw [List.getElem?_map, List.getElem?_range (by omega), Option.map_some]
  unfold bitI
  congr 1
  refine decide_eq_decide.2 ?_
  have e : (2 : Int) ^ (n - 1 - k) = ((2 ^ (n - 1 - k) : Nat) : Int) := (Int.natCast_pow 2 _).symm
  rw [e]
  constructor
  · intro h; exact_mod_cast h
  · intro h; exact_mod_cast h
theorem fL_at {l : List Int} (hok : okL l) {N n : Nat} (hN : N < l.length) (hln : l[N] = (n : Int)) (h1 : 1 ≤ n) : fL l (n : Int) (codeAt l N : Int) l.length = some N := by
  cases h : fL l (n : Int) (codeAt l N : Int) l.length with
  | none => exact absurd ⟨by omega, by rw [List.getElem?_eq_getElem hN, hln], rfl⟩ (fL_none h N hN)
  | some j =>
    obtain ⟨h1', h2, h3, h4⟩ := fL_sound h
    rw [List.getElem?_eq_getElem h1'] at h3
    by_cases c : j = N
    · rw [c]
    · have := apart h1' hN c (Option.some.inj h3) hln h1 (Nat.le_refl n)
      rw [Nat.sub_self, Nat.pow_zero, Nat.div_one] at this
      exact absurd (by exact_mod_cast h4.symm) this
theorem fL_before {l : List Int} (hok : okL l) {N n a : Nat} (hN : N < l.length) (hln : l[N] = (n : Int)) (h1 : 1 ≤ a) (ha : a < n) : fL l (a : Int) ((codeAt l N / 2 ^ (n - a) : Nat) : Int) l.length = none := by
  cases h : fL l (a : Int) ((codeAt l N / 2 ^ (n - a) : Nat) : Int) l.length with
  | none => rfl
  | some j =>
    obtain ⟨h1', h2, h3, h4⟩ := fL_sound h
    rw [List.getElem?_eq_getElem h1'] at h3
    have h3 := Option.some.inj h3
    have := apart h1' hN (fun c => by subst c; omega) h3 hln h1 (by omega)
    exact absurd (by exact_mod_cast h4.symm) this
theorem half (c d : Nat) : 2 * (c / 2 ^ (d + 1)) + c / 2 ^ d % 2 = c / 2 ^ d := by
  rw [Nat.pow_succ, ← Nat.div_div_eq_div_mul]; omega
theorem dec_code {l : List Int} {b : List UInt8} {at_ N n : Nat} (hok : okL l) (hN : N < l.length) (hln : l[N] = (n : Int)) (h1 : 1 ≤ n) (h15 : n ≤ 15)
    (hu : ∀ k, k < n → (ub b)[at_ + k]? = some (decide (codeAt l N / 2 ^ (n - 1 - k) % 2 = 1))) : ∀ d k, k + (d + 1) = n → dec l b (15 - k) k (codeAt l N / 2 ^ (d + 1)) (at_ + k) = ((N : Int), 0, at_ + n)
  | d, k, hk => by
    have hb := hu k (by omega)
    rw [show n - 1 - k = d by omega] at hb
    have hlt : at_ + k < 8 * b.length := by
      rw [← length_ub]
      rcases Nat.lt_or_ge (at_ + k) (ub b).length with h | h
      · exact h
      · rw [List.getElem?_eq_none h] at hb; cases hb
    have hR : takR b (at_ + k) 1 = 0 := by unfold takR; rw [if_neg (by omega), if_neg (by omega)]
    have hT : takN b (at_ + k) 1 = (decide (codeAt l N / 2 ^ d % 2 = 1)).toNat := by
      unfold takN
      rw [if_pos hR]
      have := tak_succ (L := ub b) (at_ := at_ + k) (k := 0) (b := decide (codeAt l N / 2 ^ d % 2 = 1)) hb
      rw [tak_zero] at this
      simpa using this
    have hT2 : takN b (at_ + k) 1 = codeAt l N / 2 ^ d % 2 := by
      rw [hT]
      rcases Nat.mod_two_eq_zero_or_one (codeAt l N / 2 ^ d) with e | e <;> simp [e]
    have hA : takAt b (at_ + k) 1 = at_ + k + 1 := by unfold takAt; rw [if_pos hR]; rfl
    rw [show 15 - k = (14 - k) + 1 by omega, dec, if_pos hR, hT2, half, hA]
    match d, hk with
    | 0, hk =>
      have hf := fL_at hok hN hln h1
      rw [Nat.pow_zero, Nat.div_one, show k + 1 = n by omega, hf]
      simp only
      rw [show at_ + k + 1 = at_ + n by omega]
    | d + 1, hk =>
      have hf := fL_before hok hN hln (a := k + 1) (by omega) (by omega)
      rw [show n - (k + 1) = d + 1 by omega] at hf
      rw [hf]
      simp only
      have ih := dec_code hok hN hln h1 h15 hu d (k + 1) (by omega)
      rw [show 14 - k = 15 - (k + 1) by omega, Nat.add_assoc]
      exact ih
/-- a symbol's bits -/
def cw (l : List Int) (s : Int) : List Bool := match sym (codes l) l s with
  | some p => bitsOf (rv p.1 p.2) p.2
  | none => []
theorem nxt_cw {l : List Int} {b : List UInt8} {at_ : Nat} {s : Int} {p : Int × Nat} {rest : List Bool} (hok : okL l) (hs : sym (codes l) l s = some p) (hu : (ub b).drop at_ = cw l s ++ rest) : nxt l b at_ = (s, 0, at_ + (cw l s).length) := by
  have h0 : ¬ s < 0 := fun c => by rw [sym_out (.inl c)] at hs; cases hs
  obtain ⟨N, rfl⟩ := Int.eq_ofNat_of_zero_le (show 0 ≤ s by omega)
  have hN : N < l.length := by
    rcases Nat.lt_or_ge N l.length with c | c
    · exact c
    · rw [sym_out (.inr (.inr (by omega)))] at hs; cases hs
  have hNc : N < (codes l).length := by rw [length_codes]; exact hN
  have hs2 := sym_at hNc hN
  rw [hs2] at hs
  by_cases hc : 1 ≤ l[N] ∧ l[N] ≤ 15 ∧ 0 ≤ (codes l)[N] ∧ (codes l)[N] < 2 ^ l[N].toNat
  · rw [if_pos hc] at hs
    have hp := Option.some.inj hs
    obtain ⟨n, hn⟩ := Int.eq_ofNat_of_zero_le (show 0 ≤ l[N] by omega)
    have hcode : (codes l)[N] = (codeAt l N : Int) := by simp [codes]
    have hcw : cw l N = bitsOf (rv (codeAt l N : Int) n) n := by
      unfold cw
      rw [hs2, if_pos hc, hcode, hn, Int.toNat_natCast]
    have hl : (cw l N).length = n := by rw [hcw, length_bitsOf]
    have hpos : pos l := ⟨l[N], List.getElem_mem hN, by omega⟩
    have hlt : codeAt l N < 2 ^ n := by
      rw [codeAt_pos hN hn (by omega)]
      exact hok.cur_lt' hN hn (by omega) (by omega)
    unfold nxt
    rw [if_pos hpos, hl]
    have := dec_code hok hN hn (by omega) (by omega) (b := b) (at_ := at_) (fun k hk => by
      have e : ((ub b).drop at_)[k]? = some (decide (codeAt l N / 2 ^ (n - 1 - k) % 2 = 1)) := by
        rw [hu, List.getElem?_append_left (by rw [hl]; exact hk), hcw, rv_get hk]
      rwa [List.getElem?_drop] at e) (n - 1) 0 (by omega)
    rw [show n - 1 + 1 = n by omega, Nat.div_eq_of_lt hlt] at this
    exact this
  · rw [if_neg hc] at hs; cases hs
end Go.Proofs.Ytehfblkpbadikaa.HF
