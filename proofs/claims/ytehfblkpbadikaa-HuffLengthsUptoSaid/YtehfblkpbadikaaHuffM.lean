/- Prefix codes by their lengths: plain mathematics. No conditions but those that each names; no program in sight. -/
import Derived.Test.YtehfblkpbadikaaRead
namespace Go.Proofs.Ytehfblkpbadikaa.HM
set_option linter.unusedVariables false
/-- how many have length j -/
def cnt : List Int → Nat → Nat
  | [], _ => 0
  | x :: l, j => (if x = (j : Int) then 1 else 0) + cnt l j
theorem cnt_append (j : Nat) : ∀ l m : List Int, cnt (l ++ m) j = cnt l j + cnt m j
  | [], m => by simp [cnt]
  | x :: l, m => by simp [cnt, cnt_append j l m]; omega
theorem cnt_le (j : Nat) : ∀ l : List Int, cnt l j ≤ l.length
  | [] => by simp [cnt]
  | x :: l => by have := cnt_le j l; simp [cnt]; split <;> omega
theorem cnt_take_succ {l : List Int} {i : Nat} (h : i < l.length) (j : Nat) : cnt (l.take (i + 1)) j = cnt (l.take i) j + if l[i] = (j : Int) then 1 else 0 := by
  rw [List.take_succ_eq_append_getElem h, cnt_append]; simp [cnt]
theorem cnt_take_le {l : List Int} {j : Nat} : ∀ {a b : Nat}, a ≤ b → cnt (l.take a) j ≤ cnt (l.take b) j := fun {a b} h => by
  have e : l.take b = l.take a ++ (l.take b).drop a := by
    have := (List.take_append_drop a (l.take b)).symm
    rwa [List.take_take, Nat.min_eq_left h] at this
  rw [e, cnt_append]; omega
theorem cnt_take_all (l : List Int) (i j : Nat) : cnt (l.take i) j ≤ cnt l j := by
  have e := (List.take_append_drop i l).symm
  have : cnt l j = cnt (l.take i) j + cnt (l.drop i) j := by rw [← cnt_append, ← e]
  omega
def room (l : List Int) : Nat → Int
  | 0 => 1
  | k + 1 => 2 * room l k - cnt l (k + 1)
/-- the first code of a length -/
def nx (l : List Int) : Nat → Nat
  | 0 => 0
  | 1 => 0
  | k + 2 => 2 * (nx l (k + 1) + cnt l (k + 1))
def inL (l : List Int) : Prop := ∀ x ∈ l, 0 ≤ x ∧ x ≤ 15
structure okL (l : List Int) : Prop where
  len : l.length ≤ 320
  ins : inL l
  room : 0 ≤ room l 15
instance (l : List Int) : Decidable (inL l) := by unfold inL; infer_instance
instance (l : List Int) : Decidable (okL l) := decidable_of_iff (l.length ≤ 320 ∧ inL l ∧ 0 ≤ HM.room l 15) ⟨fun ⟨a, b, c⟩ => ⟨a, b, c⟩, fun ⟨a, b, c⟩ => ⟨a, b, c⟩⟩
theorem nx_room (l : List Int) : ∀ k, ((nx l (k + 1) + cnt l (k + 1) : Nat) : Int) = 2 ^ (k + 1) - room l (k + 1)
  | 0 => by simp [nx, room]; omega
  | k + 1 => by
    have ih := nx_room l k
    have e : (2 : Int) ^ (k + 1 + 1) = 2 * 2 ^ (k + 1) := by rw [Int.pow_succ]; omega
    rw [e]
    simp only [nx, room] at *
    push_cast at *
    omega
theorem room_neg {l : List Int} {k : Nat} (h : room l k < 0) : ∀ m, room l (k + m) < 0
  | 0 => h
  | m + 1 => by have := room_neg h m; rw [← Nat.add_assoc]; simp only [room]; omega
theorem room_nonneg {l : List Int} {n k : Nat} (h : 0 ≤ room l n) (hk : k ≤ n) : 0 ≤ room l k := by
  rcases Int.lt_or_le (room l k) 0 with c | c
  · have := room_neg c (n - k)
    rw [show k + (n - k) = n by omega] at this; omega
  · exact c
theorem room_le (l : List Int) : ∀ k, room l k ≤ 2 ^ k
  | 0 => by simp [room]
  | k + 1 => by have := room_le l k; have e : (2 : Int) ^ (k + 1) = 2 * 2 ^ k := by rw [Int.pow_succ]; omega
                simp only [room]; omega
theorem okL.fit {l : List Int} (h : okL l) {k : Nat} (hk : k + 1 ≤ 15) : nx l (k + 1) + cnt l (k + 1) ≤ 2 ^ (k + 1) := by
  have h1 := nx_room l k
  have h2 := room_nonneg h.room hk
  have h3 : ((nx l (k + 1) + cnt l (k + 1) : Nat) : Int) ≤ ((2 ^ (k + 1) : Nat) : Int) := by push_cast at *; omega
  exact Int.ofNat_le.1 h3
theorem nx_step (l : List Int) {n : Nat} (h : 1 ≤ n) : nx l (n + 1) = 2 * (nx l n + cnt l n) := by
  obtain ⟨k, rfl⟩ : ∃ k, n = k + 1 := ⟨n - 1, by omega⟩
  rfl
/-- the code that is given next at a length -/
def cur (l : List Int) (n i : Nat) : Nat := nx l n + cnt (l.take i) n
theorem cur_succ {l : List Int} {n i : Nat} (h : i < l.length) : cur l n (i + 1) = cur l n i + if l[i] = (n : Int) then 1 else 0 := by
  unfold cur; rw [cnt_take_succ h]; omega
theorem cur_next {l : List Int} {n : Nat} (h : 1 ≤ n) : cur l (n + 1) 0 = 2 * cur l n l.length := by
  unfold cur; rw [nx_step l h]; simp [cnt]
theorem okL.cur_lt {l : List Int} (h : okL l) {n i : Nat} (h1 : 1 ≤ n) (h2 : n ≤ 15) : cur l n i ≤ 2 ^ n := by
  obtain ⟨k, rfl⟩ : ∃ k, n = k + 1 := ⟨n - 1, by omega⟩
  have := h.fit h2
  have := cnt_take_all l i (k + 1)
  unfold cur; omega
theorem okL.cur_lt' {l : List Int} (h : okL l) {n i : Nat} (hi : i < l.length) (hn : l[i] = (n : Int)) (h1 : 1 ≤ n) (h2 : n ≤ 15) : cur l n i < 2 ^ n := by
  have := h.cur_lt (i := i + 1) h1 h2
  rw [cur_succ hi, if_pos hn] at this; omega
def codeAt (l : List Int) (i : Nat) : Nat := match l[i]? with
  | some x => if 0 < x then cur l x.toNat i else 0
  | none => 0
def codes (l : List Int) : List Int := (List.range l.length).map fun i => (codeAt l i : Int)
theorem length_codes (l : List Int) : (codes l).length = l.length := by simp [codes]
theorem codeAt_pos {l : List Int} {i n : Nat} (h : i < l.length) (hn : l[i] = (n : Int)) (h1 : 1 ≤ n) : codeAt l i = cur l n i := by
  unfold codeAt
  rw [List.getElem?_eq_getElem h]
  simp only
  rw [if_pos (by omega), hn, Int.toNat_natCast]
theorem codeAt_zero {l : List Int} {i : Nat} (h : i < l.length) (hn : l[i] ≤ 0) : codeAt l i = 0 := by
  unfold codeAt
  rw [List.getElem?_eq_getElem h]
  simp only
  rw [if_neg (by omega)]
/-- what the document weighs -/
def wk : List Int → Nat → Nat
  | [], _ => 0
  | x :: l, k => (if 0 < x ∧ x ≤ k then 2 ^ (k - x.toNat) else 0) + wk l k
theorem wk_succ (k : Nat) : ∀ l : List Int, wk l (k + 1) = 2 * wk l k + cnt l (k + 1)
  | [] => by simp [wk, cnt]
  | x :: l => by
    have ih := wk_succ k l
    simp only [wk, cnt, ih]
    by_cases h : 0 < x ∧ x ≤ k
    · rw [if_pos h, if_pos ⟨h.1, by omega⟩, if_neg (by omega), show k + 1 - x.toNat = (k - x.toNat) + 1 by omega, Nat.pow_succ]; omega
    · rw [if_neg h]
      by_cases h2 : x = ((k + 1 : Nat) : Int)
      · rw [if_pos (by omega), if_pos h2, show k + 1 - x.toNat = 0 by omega]; omega
      · rw [if_neg (by omega), if_neg h2]; omega
theorem wk_zero : ∀ l : List Int, wk l 0 = 0
  | [] => rfl
  | x :: l => by simp only [wk, wk_zero l]; rw [if_neg (by omega)]
theorem room_wk (l : List Int) : ∀ k, room l k = 2 ^ k - wk l k
  | 0 => by simp [room, wk_zero]
  | k + 1 => by
    have ih := room_wk l k
    have e : (2 : Int) ^ (k + 1) = 2 * 2 ^ k := by rw [Int.pow_succ]; omega
    rw [wk_succ, room, ih, e]; push_cast; omega
theorem okL_iff {l : List Int} : okL l ↔ l.length ≤ 320 ∧ inL l ∧ wk l 15 ≤ 32768 := by
  have := room_wk l 15
  have e : (2 : Int) ^ 15 = 32768 := by decide
  rw [e] at this
  exact ⟨fun h => ⟨h.len, h.ins, by have := h.room; omega⟩, fun ⟨a, b, c⟩ => ⟨a, b, by omega⟩⟩
theorem room0_iff {l : List Int} : room l 15 = 0 ↔ wk l 15 = 32768 := by
  have := room_wk l 15
  have e : (2 : Int) ^ 15 = 32768 := by decide
  rw [e] at this
  omega
/-! ### codes are apart -/
theorem nx_up {l : List Int} {a : Nat} (ha : 1 ≤ a) : ∀ d, (nx l a + cnt l a) * 2 ^ (d + 1) ≤ nx l (a + (d + 1))
  | 0 => by rw [nx_step l ha]; omega
  | d + 1 => by
    have ih := nx_up (l := l) ha d
    rw [show a + (d + 1 + 1) = (a + (d + 1)) + 1 by omega, nx_step l (by omega), Nat.pow_succ]
    have : (nx l a + cnt l a) * (2 ^ (d + 1) * 2) = 2 * ((nx l a + cnt l a) * 2 ^ (d + 1)) := by rw [← Nat.mul_assoc, Nat.mul_comm]
    rw [this]; omega
/-- no code is another one's beginning -/
theorem apart {l : List Int} {i k a b : Nat} (hi : i < l.length) (hk : k < l.length) (hne : i ≠ k) (ha : l[i] = (a : Int)) (hb : l[k] = (b : Int)) (h1 : 1 ≤ a) (hab : a ≤ b) : codeAt l k / 2 ^ (b - a) ≠ codeAt l i := by
  rw [codeAt_pos hi ha h1, codeAt_pos hk hb (by omega)]
  have c1 : cur l a i < nx l a + cnt l a := by
    have := cnt_take_all l (i + 1) a
    rw [cnt_take_succ hi, if_pos ha] at this
    unfold cur; omega
  rcases Nat.lt_or_ge a b with h | h
  · obtain ⟨d, rfl⟩ : ∃ d, b = a + (d + 1) := ⟨b - a - 1, by omega⟩
    have := nx_up (l := l) h1 d
    rw [show a + (d + 1) - a = d + 1 by omega]
    have c2 : nx l a + cnt l a ≤ cur l (a + (d + 1)) k / 2 ^ (d + 1) := (Nat.le_div_iff_mul_le (Nat.two_pow_pos _)).2 (Nat.le_trans this (by unfold cur; omega))
    omega
  · obtain rfl : a = b := by omega
    rw [Nat.sub_self, Nat.pow_zero, Nat.div_one]
    unfold cur
    rcases Nat.lt_or_gt_of_ne hne with c | c
    · have := cnt_take_le (l := l) (j := a) (show i + 1 ≤ k by omega)
      rw [cnt_take_succ hi, if_pos ha] at this; omega
    · have := cnt_take_le (l := l) (j := a) (show k + 1 ≤ i by omega)
      rw [cnt_take_succ hk, if_pos hb] at this; omega
end Go.Proofs.Ytehfblkpbadikaa.HM
