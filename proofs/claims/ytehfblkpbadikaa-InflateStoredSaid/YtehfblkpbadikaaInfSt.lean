/- Stored blocks, one behind the other: the model reads back what they hold. Plain; no program in sight. No conditions but those that each names. -/
import Derived.Test.YtehfblkpbadikaaInf10
set_option linter.unusedVariables false
set_option linter.unusedSimpArgs false
namespace Go.Proofs.Ytehfblkpbadikaa.IF
open Go Go.Proofs Go.RowKit Go.Proofs.Ytehfblkpbadikaa.Sh Go.Proofs.Ytehfblkpbadikaa.Sl Go.Proofs.Ytehfblkpbadikaa.T Go.Proofs.Ytehfblkpbadikaa.HM Go.Proofs.Ytehfblkpbadikaa.HF Go.Proofs.Ytehfblkpbadikaa.B Go.Proofs.Ytehfblkpbadikaa.M
def hdr (f : UInt8) (n : Nat) : List UInt8 := [f, UInt8.ofNat (n % 256), UInt8.ofNat (n / 256 % 256), UInt8.ofNat (255 - n % 256), UInt8.ofNat (255 - n / 256)]
def encS (xs : List (List UInt8)) : List UInt8 := xs.flatMap fun x => hdr 0 x.length ++ x
theorem hdr_len (f : UInt8) (n : Nat) : (hdr f n).length = 5 := rfl
theorem tak_off (pre r : List UInt8) (o k : Nat) : tak (ub (pre ++ r)) (8 * pre.length + o) k = tak (ub r) o k := by
  unfold tak
  have e : ub (pre ++ r) = ub pre ++ ub r := by unfold ub; rw [List.flatMap_append]
  have : (8 * pre.length + o) = (ub pre).length + o := by rw [length_ub]
  rw [e, this, List.drop_length_add_append]
theorem tak16 (c d : UInt8) (r : List UInt8) : tak (ub (c :: d :: r)) 0 16 = c.toNat + 256 * d.toNat := by
  unfold tak
  have e : ub (c :: d :: r) = (bits8 c ++ bits8 d) ++ ub r := by unfold ub; simp
  rw [e, List.drop_zero, List.take_left' (by simp [length_bits8]), val_append, val_bits8, val_bits8, length_bits8]
theorem tak_first (c : UInt8) (r : List UInt8) : tak (ub (c :: r)) 0 1 = val ((bits8 c).take 1) ∧ tak (ub (c :: r)) 1 2 = val (((bits8 c).drop 1).take 2) := by
  unfold tak
  have e : ub (c :: r) = bits8 c ++ ub r := by unfold ub; simp
  have h8 := length_bits8 c
  rw [e, List.drop_zero, List.take_append_of_le_length (by omega), List.drop_append_of_le_length (by omega), List.take_append_of_le_length (by simp; omega)]
  exact ⟨rfl, rfl⟩
theorem takR_ok {b : List UInt8} {at_ : Nat} {k : Int} (h : 0 ≤ k ∧ k ≤ 32) (h2 : (at_ : Int) + k ≤ 8 * (b.length : Int)) : takR b at_ k = 0 := by
  unfold takR
  rw [if_neg (by omega), if_neg (by omega)]
theorem u8_of (n : Nat) (h : n < 256) : (UInt8.ofNat n).toNat = n := by rw [UInt8.toNat_ofNat']; exact Nat.mod_eq_of_lt h
/-- a stored block is read -/
theorem stored_ok {pre x post : List UInt8} {f : UInt8} {out : List UInt8} {most : Int} (hx : x.length ≤ 65535) (hm : (out.length : Int) + x.length ≤ most) :
    mStored (pre ++ (hdr f x.length ++ (x ++ post))) most (8 * pre.length + 3) out = .ok (8 * (pre.length + 5 + x.length), out ++ x) := by
  obtain ⟨b, hb⟩ : ∃ b, b = pre ++ (hdr f x.length ++ (x ++ post)) := ⟨_, rfl⟩
  have hl : b.length = pre.length + 5 + x.length + post.length := by rw [hb]; simp [hdr]; omega
  have ha : (8 * pre.length + 3 + 7) / 8 * 8 = 8 * pre.length + 8 := by omega
  have e1 : b = (pre ++ [f]) ++ (UInt8.ofNat (x.length % 256) :: UInt8.ofNat (x.length / 256 % 256) :: (UInt8.ofNat (255 - x.length % 256) :: UInt8.ofNat (255 - x.length / 256) :: (x ++ post))) := by rw [hb]; simp [hdr]
  have e2 : b = (pre ++ [f, UInt8.ofNat (x.length % 256), UInt8.ofNat (x.length / 256 % 256)]) ++ (UInt8.ofNat (255 - x.length % 256) :: UInt8.ofNat (255 - x.length / 256) :: (x ++ post)) := by rw [hb]; simp [hdr]
  have e3 : b = (pre ++ [f, UInt8.ofNat (x.length % 256), UInt8.ofNat (x.length / 256 % 256), UInt8.ofNat (255 - x.length % 256), UInt8.ofNat (255 - x.length / 256)]) ++ (x ++ post) := by rw [hb]; simp [hdr]
  have r1 : takR b (8 * pre.length + 8) 16 = 0 := takR_ok (by omega) (by omega)
  have r2 : takR b (8 * pre.length + 8 + 16) 16 = 0 := takR_ok (by omega) (by omega)
  have a1 : takAt b (8 * pre.length + 8) 16 = 8 * pre.length + 8 + 16 := by unfold takAt; rw [if_pos r1]; rfl
  have a2 : takAt b (8 * pre.length + 8 + 16) 16 = 8 * (pre.length + 5) := by unfold takAt; rw [if_pos r2, show (16 : Int).toNat = 16 from rfl]; omega
  have n1 : takN b (8 * pre.length + 8) 16 = x.length := by
    unfold takN
    rw [if_pos r1, e1, show 8 * pre.length + 8 = 8 * (pre ++ [f]).length + 0 by simp; omega, tak_off, show (16 : Int).toNat = 16 from rfl, tak16, u8_of _ (by omega), u8_of _ (by omega)]
    omega
  have n2 : takN b (8 * pre.length + 8 + 16) 16 = 65535 - x.length := by
    unfold takN
    rw [if_pos r2, e2, show 8 * pre.length + 8 + 16 = 8 * (pre ++ [f, UInt8.ofNat (x.length % 256), UInt8.ofNat (x.length / 256 % 256)]).length + 0 by simp; omega, tak_off, show (16 : Int).toNat = 16 from rfl, tak16, u8_of _ (by omega), u8_of _ (by omega)]
    omega
  have hd : (8 * (pre.length + 5) + 7) / 8 = pre.length + 5 := by omega
  have r3 : rrR b (8 * (pre.length + 5)) (x.length : Int) = 0 := by
    unfold rrR
    rw [if_neg (by omega), hd, if_neg (by omega)]
  have a3 : rrAt b (8 * (pre.length + 5)) (x.length : Int) = 8 * (pre.length + 5 + x.length) := by unfold rrAt; rw [if_pos r3, hd, Int.toNat_natCast]
  have b3 : rrB b (8 * (pre.length + 5)) (x.length : Int) = x := by
    unfold rrB
    rw [if_pos r3, hd, Int.toNat_natCast, e3, List.drop_left' (by simp), List.take_left' rfl]
  rw [← hb]
  unfold mStored
  rw [ha, r1, a1, r2, a2, n1, n2, r3, a3, b3]
  rw [if_neg (by decide), if_neg (by decide), if_neg (by omega), if_neg (by omega), if_neg (by decide)]
theorem first_of {f : UInt8} {r pre : List UInt8} {t : Nat} (ht : val ((bits8 f).take 1) = t) (h0 : val (((bits8 f).drop 1).take 2) = 0) :
    takR (pre ++ f :: r) (8 * pre.length) 1 = 0 ∧ takN (pre ++ f :: r) (8 * pre.length) 1 = t ∧ takAt (pre ++ f :: r) (8 * pre.length) 1 = 8 * pre.length + 1 ∧
    takR (pre ++ f :: r) (8 * pre.length + 1) 2 = 0 ∧ takN (pre ++ f :: r) (8 * pre.length + 1) 2 = 0 ∧ takAt (pre ++ f :: r) (8 * pre.length + 1) 2 = 8 * pre.length + 3 := by
  have hl : (pre ++ f :: r).length = pre.length + 1 + r.length := by simp; omega
  have r1 : takR (pre ++ f :: r) (8 * pre.length) 1 = 0 := takR_ok (by omega) (by omega)
  have r2 : takR (pre ++ f :: r) (8 * pre.length + 1) 2 = 0 := takR_ok (by omega) (by omega)
  refine ⟨r1, ?_, ?_, r2, ?_, ?_⟩
  · unfold takN
    rw [if_pos r1, show 8 * pre.length = 8 * pre.length + 0 from rfl, tak_off]
    exact (tak_first f r).1.trans ht
  · unfold takAt; rw [if_pos r1]; rfl
  · unfold takN
    rw [if_pos r2, tak_off]
    exact (tak_first f r).2.trans h0
  · unfold takAt; rw [if_pos r2]; rfl
theorem loop_st {most : Int} (xs : List (List UInt8)) : ∀ (pre out : List UInt8) (l : List (Int × Int)) (f : Nat), (∀ x ∈ xs, x.length ≤ 65535) → (out.length : Int) + xs.flatten.length ≤ most → xs.length < f →
    ∃ l', mLoop (pre ++ (encS xs ++ hdr 1 0)) most f (8 * pre.length) out l = .ok (8 * (pre ++ (encS xs ++ hdr 1 0)).length, out ++ xs.flatten, l') := by
  induction xs with
  | nil =>
    intro pre out l f _ hm hf
    obtain ⟨f, rfl⟩ : ∃ g, f = g + 1 := ⟨f - 1, by omega⟩
    obtain ⟨q1, q2, q3, q4, q5, q6⟩ := first_of (f := 1) (r := [0, 0, 255, 255]) (pre := pre) (t := 1) (by decide) (by decide)
    have e : pre ++ (encS [] ++ hdr 1 0) = pre ++ 1 :: [0, 0, 255, 255] := rfl
    have hs := stored_ok (pre := pre) (x := []) (post := []) (f := 1) (out := out) (most := most) (by simp) (by simpa using hm)
    have e2 : pre ++ (hdr 1 ([] : List UInt8).length ++ ([] ++ [])) = pre ++ 1 :: [0, 0, 255, 255] := rfl
    rw [e2] at hs
    refine ⟨l ++ [((0 : Int), ((out ++ []).length : Int) - (out.length : Int))], ?_⟩
    rw [e, mLoop, q1, q3, q4, q5, q6, q2, if_neg (by decide), if_neg (by decide)]
    unfold mKind
    rw [if_pos rfl, hs]
    simp only
    rw [if_neg (by decide)]
    have : 8 * (pre ++ 1 :: [0, 0, 255, 255]).length = 8 * (pre.length + 5 + ([] : List UInt8).length) := by simp
    rw [this]
    simp
  | cons x xs ih =>
    intro pre out l f hx hm hf
    obtain ⟨f, rfl⟩ : ∃ g, f = g + 1 := ⟨f - 1, by omega⟩
    have e : pre ++ (encS (x :: xs) ++ hdr 1 0) = pre ++ (hdr 0 x.length ++ (x ++ (encS xs ++ hdr 1 0))) := by simp [encS]
    have e1 : pre ++ (hdr 0 x.length ++ (x ++ (encS xs ++ hdr 1 0))) = pre ++ 0 :: ((hdr 0 x.length).tail ++ (x ++ (encS xs ++ hdr 1 0))) := rfl
    obtain ⟨q1, q2, q3, q4, q5, q6⟩ := first_of (f := 0) (r := (hdr 0 x.length).tail ++ (x ++ (encS xs ++ hdr 1 0))) (pre := pre) (t := 0) (by decide) (by decide)
    rw [← e1] at q1 q2 q3 q4 q5 q6
    have hx0 := hx x (by simp)
    have hm' : (out.length : Int) + x.length + xs.flatten.length ≤ most := by
      rw [List.flatten_cons, List.length_append] at hm; omega
    have hs := stored_ok (pre := pre) (x := x) (post := encS xs ++ hdr 1 0) (f := 0) (out := out) (most := most) hx0 (by omega)
    obtain ⟨l', ih⟩ := ih (pre ++ (hdr 0 x.length ++ x)) (out ++ x) (l ++ [((0 : Int), (((out ++ x).length : Nat) : Int) - (out.length : Int))]) f (fun y hy => hx y (by simp [hy])) (by rw [List.length_append]; omega) (by simp at hf; omega)
    refine ⟨l', ?_⟩
    have e3 : (pre ++ (hdr 0 x.length ++ x)) ++ (encS xs ++ hdr 1 0) = pre ++ (hdr 0 x.length ++ (x ++ (encS xs ++ hdr 1 0))) := by simp
    have e4 : 8 * (pre ++ (hdr 0 x.length ++ x)).length = 8 * (pre.length + 5 + x.length) := by simp [hdr]; omega
    rw [e3, e4] at ih
    rw [e, mLoop, q1, q3, q4, q5, q6, q2, if_neg (by decide), if_neg (by decide)]
    unfold mKind
    rw [if_pos rfl, hs]
    simp only
    rw [if_pos trivial, show ((0 : Nat) : Int) = 0 from rfl, ih]
    simp
theorem encS_len : ∀ xs : List (List UInt8), (encS xs).length = 5 * xs.length + xs.flatten.length
  | [] => rfl
  | x :: xs => by
    have := encS_len xs
    simp only [encS, List.flatMap_cons, List.length_append, List.flatten_cons, List.length_cons] at this ⊢
    rw [this, hdr_len]; omega
theorem flat_le {xs : List (List UInt8)} {m : Nat} (h : ∀ x ∈ xs, x.length ≤ m) : xs.flatten.length ≤ m * xs.length := by
  induction xs with
  | nil => simp
  | cons x xs ih =>
    have h0 := h x (by simp)
    have := ih fun y hy => h y (by simp [hy])
    rw [List.flatten_cons, List.length_append, List.length_cons, Nat.mul_add]; omega
theorem stored_law {xs : List (List UInt8)} (hx : ∀ x ∈ xs, x.length ≤ 30000) (hn : xs.length ≤ 20) :
    aO (encS xs ++ hdr 1 0) 1048576 = xs.flatten ∧ aU (encS xs ++ hdr 1 0) 1048576 = ((encS xs ++ hdr 1 0).length : Int) ∧ aE (encS xs ++ hdr 1 0) 1048576 = 0 := by
  have hf := flat_le hx
  have hl : (encS xs ++ hdr 1 0).length = 5 * xs.length + xs.flatten.length + 5 := by rw [List.length_append, encS_len, hdr_len]
  obtain ⟨l', h⟩ := loop_st (most := 1048576) xs [] [] [] (8 * (encS xs ++ hdr 1 0).length + 1) (fun x h => by have := hx x h; omega) (by simp only [List.length_nil]; omega) (by omega)
  have ha : mAll (encS xs ++ hdr 1 0) 1048576 = .ok (8 * (encS xs ++ hdr 1 0).length, xs.flatten, l') := by
    unfold mAll
    rw [if_neg (by omega), if_neg (by omega)]
    simpa using h
  refine ⟨by unfold aO; rw [ha], ?_, by unfold aE; rw [ha]⟩
  unfold aU
  rw [ha]
  simp only
  rw [Int.natCast_mul]
  simp
end Go.Proofs.Ytehfblkpbadikaa.IF
