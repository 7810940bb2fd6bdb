/- The first items of the last row of coins and pairs: lengths within the limit, that leave nothing, and no others cost less. Conditions: two coins at least, and no more than the limit has room for. -/
import Derived.Test.YtehfblkpbadikaaHuff9
set_option linter.unusedVariables false
set_option linter.unusedSimpArgs false
set_option maxRecDepth 4000
namespace Go.Proofs.Ytehfblkpbadikaa.PM
open Go Go.Proofs Go.Proofs.Ytehfblkpbadikaa.HM Go.Proofs.Ytehfblkpbadikaa.HF
/-- weights of the first n -/
def W (xs : List E) (n : Nat) : Int := ((xs.take n).map Prod.fst).sum
def Up (xs : List E) : Prop := xs.Pairwise fun a b => a.1 ≤ b.1
theorem W_zero (xs : List E) : W xs 0 = 0 := by simp [W]
theorem W_cons (a : E) (xs : List E) (n : Nat) : W (a :: xs) (n + 1) = a.1 + W xs n := by simp [W]
theorem W_nil (n : Nat) : W [] n = 0 := by simp [W]
/-- one more costs at least the least -/
theorem W_more {c : Int} : ∀ {xs : List E} {n : Nat}, (∀ x ∈ xs, c ≤ x.1) → n < xs.length → W xs n + c ≤ W xs (n + 1)
  | [], _, _, h => by simp at h
  | x :: xs, 0, hc, _ => by
    rw [W_cons, W_zero, W_zero]
    have := hc x (by simp)
    omega
  | x :: xs, n + 1, hc, h => by
    rw [W_cons, W_cons]
    have := W_more (c := c) (xs := xs) (n := n) (fun y hy => hc y (by simp [hy])) (by simpa using h)
    omega
theorem W_mono {xs : List E} (h0 : ∀ x ∈ xs, 0 ≤ x.1) : ∀ {n m : Nat}, n ≤ m → W xs n ≤ W xs m := by
  intro n m h
  induction m with
  | zero => rw [Nat.le_zero.1 h]; exact Int.le_refl _
  | succ m ih =>
    rcases Nat.lt_or_ge n (m + 1) with c | c
    · have := ih (by omega)
      rcases Nat.lt_or_ge m xs.length with d | d
      · have := W_more (c := 0) (n := m) h0 d
        omega
      · have e : W xs (m + 1) = W xs m := by unfold W; rw [List.take_of_length_le (by omega), List.take_of_length_le d]
        omega
    · rw [show n = m + 1 by omega]; exact Int.le_refl _
theorem W_sub {A cs : List E} (h : A.Sublist cs) (hs : Up cs) : W cs A.length ≤ (A.map Prod.fst).sum := by
  induction h with
  | slnil => simp [W]
  | @cons A cs a h ih =>
    obtain ⟨h1, h2⟩ := List.pairwise_cons.1 hs
    have := ih h2
    cases A with
    | nil => simp [W]
    | cons b A =>
      rw [List.length_cons, W_cons]
      have hl := h.length_le
      have := W_more (c := a.1) (xs := cs) (n := A.length) h1 (by rw [List.length_cons] at hl; omega)
      rw [List.length_cons] at *
      omega
  | @cons_cons A cs a h ih =>
    obtain ⟨h1, h2⟩ := List.pairwise_cons.1 hs
    have := ih h2
    rw [List.length_cons, W_cons, List.map_cons, List.sum_cons]
    omega
theorem W_mrg : ∀ (n : Nat) (us bs : List E) (p q : Nat), us.length + bs.length = n → Up us → Up bs → p ≤ us.length → q ≤ bs.length → W (mrg Prod.fst us bs) (p + q) ≤ W us p + W bs q := by
  intro n
  induction n with
  | zero =>
    intro us bs p q h _ _ _ _
    have h1 : us = [] := List.eq_nil_of_length_eq_zero (by omega)
    have h2 : bs = [] := List.eq_nil_of_length_eq_zero (by omega)
    subst h1; subst h2
    simp [mrg, W_nil]
  | succ n ih =>
    intro us bs p q h hu hb hp hq
    cases us with
    | nil =>
      have hp0 : p = 0 := by simpa using hp
      subst hp0
      simp [mrg, W_zero]
    | cons a us =>
      cases bs with
      | nil =>
        have hq0 : q = 0 := by simpa using hq
        subst hq0
        simp [mrg_nil, W_zero]
      | cons b bs =>
        obtain ⟨hu1, hu2⟩ := List.pairwise_cons.1 hu
        obtain ⟨hb1, hb2⟩ := List.pairwise_cons.1 hb
        simp only [List.length_cons] at h hp hq
        by_cases hab : b.1 < a.1
        · rw [mrg_lt Prod.fst hab]
          cases q with
          | succ q =>
            rw [show p + (q + 1) = (p + q) + 1 by omega, W_cons, W_cons]
            have := ih (a :: us) bs p q (by simp; omega) hu hb2 (by simpa using hp) (by omega)
            omega
          | zero =>
            cases p with
            | zero => simp [W_zero]
            | succ p =>
              rw [show p + 1 + 0 = p + 1 by omega, W_cons]
              have := ih (a :: us) bs p 0 (by simp; omega) hu hb2 (by simp; omega) (by omega)
              rw [W_zero] at this ⊢
              have h2 := W_more (c := a.1) (xs := a :: us) (n := p) (by
                intro x hx
                rcases List.mem_cons.1 hx with rfl | hx
                · exact Int.le_refl _
                · exact hu1 x hx) (by simp; omega)
              rw [Nat.add_zero] at this
              omega
        · rw [mrg_ge Prod.fst hab]
          cases p with
          | succ p =>
            rw [show p + 1 + q = (p + q) + 1 by omega, W_cons, W_cons]
            have := ih us (b :: bs) p q (by simp; omega) hu2 hb (by omega) (by simpa using hq)
            omega
          | zero =>
            cases q with
            | zero => simp [W_zero]
            | succ q =>
              rw [show 0 + (q + 1) = q + 1 by omega, W_cons]
              have := ih us (b :: bs) 0 q (by simp; omega) hu2 hb (by omega) (by simp; omega)
              rw [W_zero] at this ⊢
              have h2 := W_more (c := a.1) (xs := b :: bs) (n := q) (by
                intro x hx
                rcases List.mem_cons.1 hx with rfl | hx
                · omega
                · have := hb1 x hx; omega) (by simp; omega)
              rw [Nat.zero_add] at this
              omega
theorem mrg_mem' {y : E} : ∀ us bs : List E, y ∈ mrg Prod.fst us bs → y ∈ us ∨ y ∈ bs
  | [], bs, h => .inr h
  | a :: us, bs, h => by
    simp only [mrg, List.mem_append, List.mem_cons] at h
    rcases h with c | c | c
    · exact .inr ((List.takeWhile_sublist _).mem c)
    · exact .inl (by rw [c]; exact List.mem_cons_self)
    · rcases mrg_mem' us _ c with d | d
      · exact .inl (List.mem_cons_of_mem _ d)
      · exact .inr ((List.dropWhile_sublist _).mem d)
theorem up_mrg : ∀ (n : Nat) (us bs : List E), us.length + bs.length = n → Up us → Up bs → Up (mrg Prod.fst us bs) := by
  intro n
  induction n with
  | zero =>
    intro us bs h _ _
    have h1 : us = [] := List.eq_nil_of_length_eq_zero (by omega)
    have h2 : bs = [] := List.eq_nil_of_length_eq_zero (by omega)
    subst h1; subst h2
    simp [mrg, Up]
  | succ n ih =>
    intro us bs h hu hb
    cases us with
    | nil => simpa [mrg] using hb
    | cons a us =>
      cases bs with
      | nil => simpa [mrg_nil] using hu
      | cons b bs =>
        obtain ⟨hu1, hu2⟩ := List.pairwise_cons.1 hu
        obtain ⟨hb1, hb2⟩ := List.pairwise_cons.1 hb
        simp only [List.length_cons] at h
        by_cases hab : b.1 < a.1
        · rw [mrg_lt Prod.fst hab]
          refine List.pairwise_cons.2 ⟨fun x hx => ?_, ih (a :: us) bs (by simp; omega) hu hb2⟩
          rcases mrg_mem' _ _ hx with c | c
          · rcases List.mem_cons.1 c with rfl | c
            · omega
            · have := hu1 x c; omega
          · exact hb1 x c
        · rw [mrg_ge Prod.fst hab]
          refine List.pairwise_cons.2 ⟨fun x hx => ?_, ih us (b :: bs) (by simp; omega) hu2 hb⟩
          rcases mrg_mem' _ _ hx with c | c
          · exact hu1 x c
          · rcases List.mem_cons.1 c with rfl | c
            · omega
            · have := hb1 x c; omega
theorem pairs_len : ∀ xs : List E, (pairs xs).length = xs.length / 2
  | [] => rfl
  | [_] => by simp [pairs]
  | a :: b :: r => by
    have := pairs_len r
    simp only [pairs, List.length_cons, this]
    omega
theorem W_pairs : ∀ (xs : List E) (q : Nat), 2 * q ≤ xs.length → W (pairs xs) q = W xs (2 * q)
  | _, 0, _ => by simp [W_zero]
  | [], q + 1, h => by simp at h
  | [_], q + 1, h => by simp at h; omega
  | a :: b :: r, q + 1, h => by
    have := W_pairs r q (by simp at h; omega)
    rw [show 2 * (q + 1) = 2 * q + 1 + 1 by omega, W_cons, W_cons, pairs, W_cons, this]
    omega
theorem pairs_ge {c : Int} : ∀ {xs : List E}, (∀ x ∈ xs, c ≤ x.1) → ∀ y ∈ pairs xs, c + c ≤ y.1
  | [], _, y, hy => by simp [pairs] at hy
  | [_], _, y, hy => by simp [pairs] at hy
  | a :: b :: r, h, y, hy => by
    have h1 := h a (by simp)
    have h2 := h b (by simp)
    rcases List.mem_cons.1 hy with rfl | hy
    · show c + c ≤ a.1 + b.1
      omega
    · exact pairs_ge (fun x hx => h x (by simp [hx])) y hy
theorem up_pairs : ∀ {xs : List E}, Up xs → Up (pairs xs)
  | [], _ => by simp [pairs, Up]
  | [_], _ => by simp [pairs, Up]
  | a :: b :: r, h => by
    obtain ⟨h1, h2⟩ := List.pairwise_cons.1 h
    obtain ⟨h3, h4⟩ := List.pairwise_cons.1 h2
    refine List.pairwise_cons.2 ⟨fun y hy => ?_, up_pairs h4⟩
    have hab := h1 b (by simp)
    have := pairs_ge (c := b.1) h3 y hy
    show a.1 + b.1 ≤ y.1
    omega
theorem up_rows {cs : List E} (h : Up cs) : ∀ j, Up (rows cs j)
  | 0 => h
  | j + 1 => up_mrg _ _ _ rfl h (up_pairs (up_rows h j))
theorem pos_rows {cs : List E} (h : ∀ x ∈ cs, 0 < x.1) : ∀ j, ∀ x ∈ rows cs j, 0 < x.1
  | 0, x, hx => h x hx
  | j + 1, x, hx => by
    rcases mrg_mem' _ _ hx with c | c
    · exact h x c
    · have := pairs_ge (c := 1) (fun y hy => by have := pos_rows h j y hy; omega) x c
      omega
theorem rows_len (cs : List E) (j : Nat) : (rows cs (j + 1)).length = cs.length + (rows cs j).length / 2 := by
  rw [rows, mrg_len, pairs_len]
/-- enough items in the last row -/
theorem rows_most (cs : List E) : ∀ j, (rows cs j).length ≤ 2 * cs.length
  | 0 => by simp [rows]; omega
  | j + 1 => by rw [rows_len]; have := rows_most cs j; omega
theorem rows_deficit {cs : List E} (hk : 1 ≤ cs.length) : ∀ j, (rows cs j).length + 1 ≤ 2 * cs.length ∧ (2 * cs.length - (rows cs j).length - 1) * 2 ^ j ≤ cs.length - 1
  | 0 => by simp [rows]; omega
  | j + 1 => by
    obtain ⟨h1, h2⟩ := rows_deficit hk j
    rw [rows_len]
    generalize (rows cs j).length = r at h1 h2 ⊢
    refine ⟨by omega, ?_⟩
    have : (2 * cs.length - (cs.length + r / 2) - 1) * 2 ≤ 2 * cs.length - r - 1 := by omega
    calc (2 * cs.length - (cs.length + r / 2) - 1) * 2 ^ (j + 1) = ((2 * cs.length - (cs.length + r / 2) - 1) * 2) * 2 ^ j := by rw [Nat.pow_succ, Nat.mul_comm (2 ^ j) 2, Nat.mul_assoc]
      _ ≤ (2 * cs.length - r - 1) * 2 ^ j := Nat.mul_le_mul_right _ this
      _ ≤ _ := h2
theorem rows_enough {cs : List E} {j : Nat} (hk : 1 ≤ cs.length) (h : cs.length ≤ 2 ^ (j + 1)) : 2 * cs.length - 2 ≤ (rows cs j).length := by
  obtain ⟨h1, h2⟩ := rows_deficit hk j
  rw [Nat.pow_succ] at h
  have : (2 * cs.length - (rows cs j).length - 1) < 2 := by
    refine Nat.lt_of_mul_lt_mul_right (a := 2 ^ j) ?_
    omega
  omega
/-! ### no other lengths cost less -/
def T (L : Nat) (t : List Nat) (j : Nat) : List Int := t.map fun x => ((x + j + 1 - L : Nat) : Int)
def dot : List E → List Int → Int
  | a :: us, x :: xs => a.1 * x + dot us xs
  | _, _ => 0
/-- those of at least a length -/
def ge (d : Nat) : List E → List Nat → List E
  | a :: us, x :: xs => if d ≤ x then a :: ge d us xs else ge d us xs
  | _, _ => []
theorem ge_sub (d : Nat) : ∀ us xs, (ge d us xs).Sublist us
  | a :: us, x :: xs => by
    unfold ge
    split
    · exact (ge_sub d us xs).cons_cons a
    · exact (ge_sub d us xs).cons a
  | [], _ => by cases ‹List Nat› <;> simp [ge]
  | _ :: _, [] => by simp [ge]
theorem dot_step (L j : Nat) (hj : j + 1 < L) : ∀ (us : List E) (t : List Nat), dot us (T L t (j + 1)) = dot us (T L t j) + ((ge (L - (j + 1)) us t).map Prod.fst).sum
  | a :: us, x :: xs => by
    have ih := dot_step L j hj us xs
    simp only [T, List.map_cons, dot, ge] at ih ⊢
    rw [ih]
    split
    · rename_i h
      rw [List.map_cons, List.sum_cons, show (x + (j + 1) + 1 - L : Nat) = (x + j + 1 - L) + 1 by omega]
      push_cast
      rw [Int.mul_add, Int.mul_one]
      omega
    · rename_i h
      rw [show (x + (j + 1) + 1 - L : Nat) = (x + j + 1 - L) by omega]
      omega
  | [], t => by cases t <;> simp [T, dot, ge]
  | a :: us, [] => by simp [T, dot, ge]
theorem dot_zero (L : Nat) (hL : 1 ≤ L) : ∀ (us : List E) (t : List Nat), (∀ x ∈ t, x ≤ L) → dot us (T L t 0) = ((ge L us t).map Prod.fst).sum
  | a :: us, x :: xs, h => by
    have ih := dot_zero L hL us xs fun y hy => h y (by simp [hy])
    have hx := h x (by simp)
    simp only [T, List.map_cons, dot, ge] at ih ⊢
    rw [ih]
    split
    · rename_i h
      rw [List.map_cons, List.sum_cons, show (x + 0 + 1 - L : Nat) = 1 by omega]
      simp
    · rename_i h
      rw [show (x + 0 + 1 - L : Nat) = 0 by omega]
      simp
  | [], t, _ => by cases t <;> simp [T, dot, ge]
  | a :: us, [], _ => by simp [T, dot, ge]
def msz (L : Nat) (cs : List E) (t : List Nat) : Nat → Nat
  | 0 => (ge L cs t).length
  | j + 1 => (ge (L - (j + 1)) cs t).length + msz L cs t j / 2
theorem lower {L : Nat} {cs : List E} {t : List Nat} (hL : 1 ≤ L) (hu : Up cs) (hp : ∀ x ∈ cs, 0 < x.1) (ht : ∀ x ∈ t, x ≤ L) : ∀ j, j < L → msz L cs t j ≤ (rows cs j).length ∧ W (rows cs j) (msz L cs t j) ≤ dot cs (T L t j)
  | 0, _ => by
    rw [dot_zero L hL cs t ht]
    exact ⟨(ge_sub L cs t).length_le, W_sub (ge_sub L cs t) hu⟩
  | j + 1, hj => by
    obtain ⟨h1, h2⟩ := lower hL hu hp ht j (by omega)
    have hs := ge_sub (L - (j + 1)) cs t
    have hw := W_sub hs hu
    have hl := hs.length_le
    refine ⟨by rw [rows_len, msz]; omega, ?_⟩
    rw [dot_step L j hj, msz]
    have hm := W_mrg _ cs (pairs (rows cs j)) (ge (L - (j + 1)) cs t).length (msz L cs t j / 2) rfl hu (up_pairs (up_rows hu j)) hl (by rw [pairs_len]; omega)
    rw [W_pairs _ _ (by omega)] at hm
    have hmo := W_mono (xs := rows cs j) (fun x hx => Int.le_of_lt (pos_rows hp j x hx)) (show 2 * (msz L cs t j / 2) ≤ msz L cs t j by omega)
    show W (mrg Prod.fst cs (pairs (rows cs j))) _ ≤ _
    omega
/-- how many coins, in the smallest ones -/
def cz (L : Nat) (j x : Nat) : Nat := if L - j ≤ x then 2 ^ (j + 1) - 2 ^ (L - x) else 0
def CZ (L j : Nat) : List Nat → Nat
  | [] => 0
  | x :: t => cz L j x + CZ L j t
theorem cz_step {L j x : Nat} (hj : j + 1 < L) (hx : x ≤ L) : cz L (j + 1) x = cz L j x + if L - (j + 1) ≤ x then 2 ^ (j + 1) else 0 := by
  unfold cz
  have hp : 2 ^ (j + 1 + 1) = 2 ^ (j + 1) + 2 ^ (j + 1) := by rw [Nat.pow_succ]; omega
  by_cases h1 : L - j ≤ x
  · have : 2 ^ (L - x) ≤ 2 ^ j := Nat.pow_le_pow_right (by omega) (by omega)
    have h2 : 2 ^ (j + 1) = 2 ^ j + 2 ^ j := by rw [Nat.pow_succ]; omega
    rw [if_pos (by omega), if_pos h1, if_pos (by omega), hp]
    generalize 2 ^ (j + 1) = A at h2 ⊢
    generalize 2 ^ (L - x) = B at this ⊢
    omega
  · rw [if_neg h1]
    by_cases h2 : L - (j + 1) ≤ x
    · rw [if_pos h2, if_pos h2, show L - x = j + 1 by omega, hp, Nat.zero_add, Nat.add_sub_cancel]
    · rw [if_neg h2, if_neg h2]
theorem CZ_step {L j : Nat} (hj : j + 1 < L) : ∀ (cs : List E) (t : List Nat), cs.length = t.length → (∀ x ∈ t, x ≤ L) → CZ L (j + 1) t = CZ L j t + (ge (L - (j + 1)) cs t).length * 2 ^ (j + 1)
  | [], [], _, _ => by simp [CZ, ge]
  | a :: us, x :: t, h, ht => by
    have ih := CZ_step hj us t (by simpa using h) fun y hy => ht y (by simp [hy])
    simp only [CZ, ge]
    rw [ih, cz_step hj (ht x (by simp))]
    split
    · rw [List.length_cons, Nat.add_mul]; omega
    · omega
  | [], _ :: _, h, _ => by simp at h
  | _ :: _, [], h, _ => by simp at h
theorem CZ_zero {L : Nat} (hL : 1 ≤ L) : ∀ (cs : List E) (t : List Nat), cs.length = t.length → (∀ x ∈ t, x ≤ L) → CZ L 0 t = (ge L cs t).length
  | [], [], _, _ => by simp [CZ, ge]
  | a :: us, x :: t, h, ht => by
    have ih := CZ_zero hL us t (by simpa using h) fun y hy => ht y (by simp [hy])
    have hx := ht x (by simp)
    simp only [CZ, ge, cz]
    rw [ih]
    by_cases c : L ≤ x
    · rw [if_pos (by omega), if_pos c, List.length_cons, show L - x = 0 by omega]; omega
    · rw [if_neg (by omega), if_neg c]; omega
  | [], _ :: _, h, _ => by simp at h
  | _ :: _, [], h, _ => by simp at h
theorem msz_ge {L : Nat} {cs : List E} {t : List Nat} (hL : 1 ≤ L) (hl : cs.length = t.length) (ht : ∀ x ∈ t, x ≤ L) : ∀ j, j < L → CZ L j t < (msz L cs t j + 1) * 2 ^ j
  | 0, _ => by rw [CZ_zero hL cs t hl ht, msz]; omega
  | j + 1, hj => by
    have ih := msz_ge hL hl ht j (by omega)
    rw [CZ_step hj cs t hl ht, msz]
    have h2 : (msz L cs t j + 1) * 2 ^ j ≤ (msz L cs t j / 2 + 1) * 2 ^ (j + 1) := by
      rw [Nat.pow_succ, Nat.mul_comm (2 ^ j) 2, ← Nat.mul_assoc]
      exact Nat.mul_le_mul_right _ (by omega)
    rw [show (ge (L - (j + 1)) cs t).length + msz L cs t j / 2 + 1 = (ge (L - (j + 1)) cs t).length + (msz L cs t j / 2 + 1) by omega, Nat.add_mul (ge (L - (j + 1)) cs t).length]
    omega
/-- Kraft's sum, in 2^-L -/
def kra (L : Nat) : List Nat → Nat
  | [] => 0
  | x :: t => 2 ^ (L - x) + kra L t
theorem CZ_top {L : Nat} (hL : 1 ≤ L) : ∀ (t : List Nat), (∀ x ∈ t, 1 ≤ x ∧ x ≤ L) → CZ L (L - 1) t + kra L t = t.length * 2 ^ L
  | [], _ => by simp [CZ, kra]
  | x :: t, h => by
    have ih := CZ_top hL t fun y hy => h y (by simp [hy])
    have hx := h x (by simp)
    simp only [CZ, kra, cz, List.length_cons]
    rw [if_pos (by omega), show L - 1 + 1 = L by omega, Nat.add_mul, ← ih]
    have : 2 ^ (L - x) ≤ 2 ^ L := Nat.pow_le_pow_right (by omega) (by omega)
    omega
theorem T_top {L : Nat} (hL : 1 ≤ L) (t : List Nat) : T L t (L - 1) = t.map fun x : Nat => (x : Int) := by
  unfold T
  apply List.map_congr_left
  intro x _
  rw [show x + (L - 1) + 1 - L = x by omega]
theorem best {L : Nat} {cs : List E} {t : List Nat} (hL : 1 ≤ L) (hu : Up cs) (hp : ∀ x ∈ cs, 0 < x.1) (hl : cs.length = t.length) (ht : ∀ x ∈ t, 1 ≤ x ∧ x ≤ L) (hk : kra L t ≤ 2 ^ L) :
    W (rows cs (L - 1)) (2 * cs.length - 2) ≤ dot cs (t.map fun x : Nat => (x : Int)) := by
  obtain ⟨h1, h2⟩ := lower (t := t) hL hu hp (fun x hx => (ht x hx).2) (L - 1) (by omega)
  rw [T_top hL] at h2
  have h3 := msz_ge hL hl (fun x hx => (ht x hx).2) (L - 1) (by omega)
  have h4 := CZ_top hL t ht
  have hpw : 2 ^ L = 2 * 2 ^ (L - 1) := by
    conv => lhs; rw [show L = L - 1 + 1 by omega, Nat.pow_succ]
    omega
  have hm : 2 * cs.length - 2 < msz L cs t (L - 1) + 1 := by
    refine Nat.lt_of_mul_lt_mul_right (a := 2 ^ (L - 1)) ?_
    refine Nat.lt_of_le_of_lt ?_ h3
    have : (2 * cs.length - 2) * 2 ^ (L - 1) = (t.length - 1) * 2 ^ L := by
      rw [hpw, ← Nat.mul_assoc, hl]
      congr 1
      omega
    rw [this, Nat.sub_mul, Nat.one_mul]
    omega
  exact Int.le_trans (W_mono (fun x hx => Int.le_of_lt (pos_rows hp _ x hx)) (by omega)) h2

/-! ### what the first items of a row are -/
def sy (xs : List E) : List Int := xs.flatMap fun e => e.2
theorem sy_app (a b : List E) : sy (a ++ b) = sy a ++ sy b := by simp [sy, cnt]
/-- the first n of a merge: so many of the one, so many of the other -/
theorem mrg_take : ∀ (m : Nat) (us bs : List E) (n : Nat), us.length + bs.length = m → Up us → n ≤ m → ∃ p q, p + q = n ∧ p ≤ us.length ∧ q ≤ bs.length ∧ W (mrg Prod.fst us bs) n = W us p + W bs q ∧
    (∀ s, cnt (sy ((mrg Prod.fst us bs).take n)) s = cnt (sy (us.take p)) s + cnt (sy (bs.take q)) s) ∧ (∀ a ∈ us.drop p, ∀ b ∈ bs.take q, b.1 < a.1) ∧ (∀ a ∈ us.take p, a ∈ (mrg Prod.fst us bs).take n) := by
  intro m
  induction m with
  | zero =>
    intro us bs n h _ hn
    have h1 : us = [] := List.eq_nil_of_length_eq_zero (by omega)
    have h2 : bs = [] := List.eq_nil_of_length_eq_zero (by omega)
    subst h1; subst h2
    exact ⟨0, 0, by omega, by simp, by simp, by simp [mrg, W_nil], by simp [mrg, sy, cnt], by simp, by simp⟩
  | succ m ih =>
    intro us bs n h hu hn
    cases n with
    | zero => exact ⟨0, 0, by omega, by omega, by omega, by simp [W_zero], by simp [sy, cnt], by simp, by simp⟩
    | succ n =>
      cases us with
      | nil => exact ⟨0, n + 1, by omega, by simp, by simp at h; omega, by simp [mrg, W_nil], by simp [mrg, sy, cnt], by simp, by simp⟩
      | cons a us =>
        obtain ⟨hu1, hu2⟩ := List.pairwise_cons.1 hu
        cases bs with
        | nil => exact ⟨n + 1, 0, by omega, by simp at h ⊢; omega, by simp, by simp [mrg_nil, W_zero], by simp [mrg_nil, sy, cnt], by simp, by simp [mrg_nil]⟩
        | cons b bs =>
          simp only [List.length_cons] at h
          by_cases hab : b.1 < a.1
          · obtain ⟨p, q, h1, h2, h3, h4, h5, h6, h7⟩ := ih (a :: us) bs n (by simp; omega) hu (by omega)
            rw [mrg_lt Prod.fst hab]
            refine ⟨p, q + 1, by omega, h2, by simp; omega, by rw [W_cons, W_cons, h4]; omega, fun s => ?_, fun x hx y hy => ?_, fun x hx => List.mem_cons_of_mem _ (h7 x hx)⟩
            · have := h5 s
              simp only [List.take_succ_cons, sy, List.flatMap_cons, cnt_append] at this ⊢
              omega
            · rcases List.mem_cons.1 (by simpa using hy) with rfl | hy
              · have hx' := List.mem_of_mem_drop hx
                rcases List.mem_cons.1 hx' with rfl | hx'
                · exact hab
                · have := hu1 x hx'; omega
              · exact h6 x hx y hy
          · obtain ⟨p, q, h1, h2, h3, h4, h5, h6, h7⟩ := ih us (b :: bs) n (by simp; omega) hu2 (by omega)
            rw [mrg_ge Prod.fst hab]
            refine ⟨p + 1, q, by omega, by simp; omega, h3, by rw [W_cons, W_cons, h4]; omega, fun s => ?_, fun x hx y hy => h6 x (by simpa using hx) y hy, fun x hx => ?_⟩
            · have := h5 s
              simp only [List.take_succ_cons, sy, List.flatMap_cons, cnt_append] at this ⊢
              omega
            · rcases List.mem_cons.1 (by simpa using hx) with rfl | hx
              · exact List.mem_cons_self
              · exact List.mem_cons_of_mem _ (h7 x hx)
theorem sy_pairs : ∀ (xs : List E) (q : Nat), 2 * q ≤ xs.length → sy ((pairs xs).take q) = sy (xs.take (2 * q))
  | _, 0, _ => by simp [sy, cnt]
  | [], q + 1, h => by simp at h
  | [_], q + 1, h => by simp at h; omega
  | a :: b :: r, q + 1, h => by
    have := sy_pairs r q (by simp at h; omega)
    rw [show 2 * (q + 1) = 2 * q + 1 + 1 by omega]
    simp only [pairs, List.take_succ_cons, sy, List.flatMap_cons] at this ⊢
    rw [this, List.append_assoc]
/-- each of the first pairs is at least as great as what is in it -/
theorem pair_has : ∀ (xs : List E) (q : Nat), 2 * q ≤ xs.length → (∀ x ∈ xs, 0 < x.1) → ∀ x ∈ xs.take (2 * q), ∃ y ∈ (pairs xs).take q, x.1 < y.1
  | _, 0, _, _, x, hx => by simp at hx
  | [], q + 1, h, _, _, _ => by simp at h
  | [_], q + 1, h, _, _, _ => by simp at h; omega
  | a :: b :: r, q + 1, h, hp, x, hx => by
    rw [show 2 * (q + 1) = 2 * q + 1 + 1 by omega] at hx
    simp only [List.take_succ_cons, List.mem_cons] at hx
    have ha := hp a (by simp)
    have hb := hp b (by simp)
    rcases hx with rfl | rfl | hx
    · exact ⟨_, List.mem_cons_self, by show x.1 < x.1 + b.1; omega⟩
    · exact ⟨_, List.mem_cons_self, by show x.1 < a.1 + x.1; omega⟩
    · obtain ⟨y, hy, h2⟩ := pair_has r q (by simp at h; omega) (fun z hz => hp z (by simp [hz])) x hx
      exact ⟨y, by simp [pairs, hy], h2⟩
def Dec : List Nat → Prop
  | p :: q :: r => q ≤ p ∧ Dec (q :: r)
  | _ => True
def K : List Nat → Nat
  | [] => 0
  | p :: ps => p * 2 ^ ps.length + K ps
def ouF (ps : List Nat) (r : Nat) : Nat := (ps.filter fun p => decide (r < p)).length
def sumF (f : Nat → Int) : Nat → Int
  | 0 => 0
  | n + 1 => sumF f n + f n
/-- the first n items of a row: so many coins of each width, never more of a smaller one -/
theorem prof {cs : List E} (hu : Up cs) (hp : ∀ x ∈ cs, 0 < x.1) : ∀ (j n : Nat), n ≤ (rows cs j).length → ∃ ps : List Nat, ps.length = j + 1 ∧ Dec ps ∧ (∀ p ∈ ps, p ≤ cs.length) ∧ K ps = n * 2 ^ j ∧
    W (rows cs j) n = (ps.map fun p => W cs p).sum ∧ (∀ s, cnt (sy ((rows cs j).take n)) s = (ps.map fun p => cnt (sy (cs.take p)) s).sum) ∧ (∀ p, ps.head? = some p → ∀ x ∈ cs.take p, x ∈ (rows cs j).take n)
  | 0, n, h => ⟨[n], rfl, trivial, by intro p hp; rw [List.mem_singleton.1 hp]; exact h, by simp [K], by simp [rows], by simp [rows], by
      intro p hp x hx
      cases hp
      exact hx⟩
  | j + 1, n, h => by
    obtain ⟨p, q, h1, h2, h3, h4, h5, h6, h7⟩ := mrg_take _ cs (pairs (rows cs j)) n rfl hu (by rw [← mrg_len Prod.fst]; exact h)
    have hq : 2 * q ≤ (rows cs j).length := by rw [pairs_len] at h3; omega
    obtain ⟨ps, g1, g2, g3, g4, g5, g6, g7⟩ := prof hu hp j (2 * q) hq
    cases ps with
    | nil => simp at g1
    | cons p' ps =>
      have hpp : p' ≤ p := by
        rcases Nat.lt_or_ge p p' with c | c
        · exfalso
          have hl : p < cs.length := by have := g3 p' (by simp); omega
          have m1 : cs[p] ∈ cs.take p' := List.mem_take_iff_getElem.2 ⟨p, by omega, rfl⟩
          obtain ⟨y, hy, hlt⟩ := pair_has (rows cs j) q hq (pos_rows hp j) _ (g7 p' rfl _ m1)
          have m2 : cs[p] ∈ cs.drop p := by rw [List.drop_eq_getElem_cons hl]; exact List.mem_cons_self
          have := h6 _ m2 _ hy
          omega
        · exact c
      refine ⟨p :: p' :: ps, by simpa using g1, ⟨hpp, g2⟩, ?_, ?_, ?_, fun s => ?_, ?_⟩
      · intro x hx
        rcases List.mem_cons.1 hx with rfl | hx
        · exact h2
        · exact g3 x hx
      · rw [K, g4, g1, ← h1, Nat.pow_succ, Nat.add_mul, Nat.mul_comm 2 q, Nat.mul_assoc q, Nat.mul_comm 2]
      · show W (mrg Prod.fst cs (pairs (rows cs j))) n = _
        rw [h4, W_pairs _ _ hq, g5]; simp only [List.map_cons, List.sum_cons]
      · show cnt (sy ((mrg Prod.fst cs (pairs (rows cs j))).take n)) s = _
        rw [h5, sy_pairs _ _ hq, g6]; simp only [List.map_cons, List.sum_cons]
      · intro x hx
        cases hx
        exact h7
/-! ### the lengths that come of it -/
def krR (ps : List Nat) : Nat → Nat
  | 0 => 0
  | k + 1 => krR ps k + 2 ^ (ps.length - ouF ps k)
theorem ou_le (ps : List Nat) (r : Nat) : ouF ps r ≤ ps.length := List.length_filter_le _ _
theorem dec_tail {p : Nat} {ps : List Nat} (h : Dec (p :: ps)) : Dec ps := by
  cases ps with
  | nil => trivial
  | cons q r => exact h.2
theorem dec_le {p : Nat} : ∀ {ps : List Nat}, Dec (p :: ps) → ∀ q ∈ ps, q ≤ p
  | [], _, q, hq => by cases hq
  | x :: r, h, q, hq => by
    rcases List.mem_cons.1 hq with rfl | hq
    · exact h.1
    · have := dec_le h.2 q hq
      have := h.1
      omega
theorem ou_none {ps : List Nat} {r : Nat} (h : ∀ q ∈ ps, q ≤ r) : ouF ps r = 0 := by
  unfold ouF
  rw [List.length_eq_zero_iff, List.filter_eq_nil_iff]
  intro q hq c
  have := h q hq
  have := of_decide_eq_true c
  omega
theorem krR_step {p : Nat} {ps : List Nat} (h : Dec (p :: ps)) : ∀ k, krR (p :: ps) k = krR ps k + (k - p) * 2 ^ ps.length
  | 0 => by simp [krR]
  | k + 1 => by
    rw [krR, krR, krR_step h k]
    have hl := ou_le ps k
    by_cases hk : k < p
    · have e : ouF (p :: ps) k = ouF ps k + 1 := by unfold ouF; rw [List.filter_cons, if_pos (by simpa using hk)]; rfl
      rw [e, List.length_cons, show ps.length + 1 - (ouF ps k + 1) = ps.length - ouF ps k by omega, show k - p = 0 by omega, show k + 1 - p = 0 by omega]
      omega
    · have e0 : ouF ps k = 0 := ou_none fun q hq => by have := dec_le h q hq; omega
      have e : ouF (p :: ps) k = 0 := ou_none fun q hq => by
        rcases List.mem_cons.1 hq with rfl | hq
        · omega
        · have := dec_le h q hq; omega
      rw [e, e0, List.length_cons, Nat.sub_zero, Nat.sub_zero, show k + 1 - p = (k - p) + 1 by omega, Nat.pow_succ, Nat.add_mul]
      omega
theorem krR_K : ∀ {ps : List Nat} {k : Nat}, Dec ps → (∀ p ∈ ps, p ≤ k) → krR ps k + K ps = k * 2 ^ ps.length
  | [], k, _, _ => by
    have : ∀ k, krR [] k = k := by
      intro k
      induction k with
      | zero => rfl
      | succ k ih => rw [krR, ih]; simp
    rw [this]; simp [K]
  | p :: ps, k, hd, h => by
    have ih := krR_K (k := k) (dec_tail hd) fun q hq => h q (by simp [hq])
    have hpk := h p (by simp)
    rw [krR_step hd, K, List.length_cons, Nat.pow_succ]
    have : (k - p) * 2 ^ ps.length + p * 2 ^ ps.length = k * 2 ^ ps.length := by rw [← Nat.add_mul]; congr 1; omega
    rw [Nat.mul_comm (2 ^ ps.length) 2, Nat.mul_left_comm]
    omega
theorem krR_pos {ps : List Nat} : ∀ {k r : Nat}, r < k → 2 ^ (ps.length - ouF ps r) + (k - 1) ≤ krR ps k
  | 0, r, h => by omega
  | k + 1, r, h => by
    rw [krR]
    by_cases c : r = k
    · subst c
      have : ∀ k, k ≤ krR ps k := by
        intro k
        induction k with
        | zero => omega
        | succ k ih =>
          rw [krR]
          have := Nat.two_pow_pos (ps.length - ouF ps k)
          omega
      have := this r
      omega
    · have := krR_pos (ps := ps) (show r < k by omega)
      have := Nat.two_pow_pos (ps.length - ouF ps k)
      omega

/-! ### over symbols -/
theorem perm_insAt {α : Type} (key : α → Int) (acc : List α) (x : α) : ∀ j, (insAt key acc x j).Perm (x :: acc)
  | 0 => .refl _
  | j + 1 => by
    unfold insAt
    split
    · split
      · exact perm_insAt key acc x j
      · have := List.perm_middle (a := x) (l₁ := acc.take (j + 1)) (l₂ := acc.drop (j + 1))
        rwa [List.take_append_drop] at this
    · have := List.perm_middle (a := x) (l₁ := acc) (l₂ := [])
      rwa [List.append_nil] at this
theorem perm_isort {α : Type} (key : α → Int) (xs : List α) : (isort key xs).Perm xs := by
  have : ∀ (xs acc : List α), (xs.foldl (insR key) acc).Perm (acc ++ xs) := by
    intro xs
    induction xs with
    | nil => intro acc; simp
    | cons x xs ih =>
      intro acc
      rw [List.foldl_cons]
      refine (ih _).trans ?_
      have h1 := (perm_insAt key acc x acc.length).append_right xs
      exact h1.trans (List.perm_middle (a := x) (l₁ := acc) (l₂ := xs)).symm
  exact this xs []
theorem up_insAt (acc : List E) (x : E) (hu : Up acc) : ∀ j, j ≤ acc.length → (∀ y ∈ acc.drop j, x.1 < y.1) → Up (insAt Prod.fst acc x j)
  | 0, _, h => List.pairwise_cons.2 ⟨fun y hy => Int.le_of_lt (h y (by simpa using hy)), hu⟩
  | j + 1, hj, h => by
    unfold insAt
    rw [List.getElem?_eq_getElem (by omega)]
    simp only
    split
    · rename_i hlt
      refine up_insAt acc x hu j (by omega) fun y hy => ?_
      rw [List.drop_eq_getElem_cons (by omega)] at hy
      rcases List.mem_cons.1 hy with rfl | hy
      · exact hlt
      · exact h y hy
    · rename_i hge
      have e : acc = acc.take (j + 1) ++ acc.drop (j + 1) := (List.take_append_drop _ _).symm
      unfold Up at hu ⊢
      rw [e, List.pairwise_append] at hu
      obtain ⟨h1, h2, h3⟩ := hu
      refine List.pairwise_append.2 ⟨h1, List.pairwise_cons.2 ⟨fun y hy => Int.le_of_lt (h y hy), h2⟩, fun a ha b hb => ?_⟩
      rcases List.mem_cons.1 hb with rfl | hb
      · rw [List.take_succ_eq_append_getElem (by omega)] at ha h1
        have hx : acc[j].1 ≤ b.1 := by omega
        rcases List.mem_append.1 ha with ha | ha
        · have := (List.pairwise_append.1 h1).2.2 a ha acc[j] (by simp)
          omega
        · rw [List.mem_singleton.1 ha]; exact hx
      · exact h3 a ha b hb
theorem up_isort (xs : List E) : Up (isort Prod.fst xs) := by
  have : ∀ (xs acc : List E), Up acc → Up (xs.foldl (insR Prod.fst) acc) := by
    intro xs
    induction xs with
    | nil => intro acc h; exact h
    | cons x xs ih =>
      intro acc h
      rw [List.foldl_cons]
      exact ih _ (up_insAt acc x h _ (Nat.le_refl _) (by simp))
  exact this xs [] (by simp [Up])
/-- sums over coins -/
def cSum (f : E → Int) : List E → Int
  | [] => 0
  | e :: r => f e + cSum f r
theorem cSum_perm (f : E → Int) {a b : List E} (h : a.Perm b) : cSum f a = cSum f b := by
  induction h with
  | nil => rfl
  | cons x _ ih => simp [cSum, ih]
  | swap x y l => simp [cSum]; omega
  | trans _ _ h1 h2 => rw [h1, h2]
theorem cSum_add (f g : E → Int) : ∀ l, cSum (fun e => f e + g e) l = cSum f l + cSum g l
  | [] => rfl
  | e :: r => by simp [cSum, cSum_add f g r]; omega
/-- sums over symbols, those that come -/
def fSum (g : Int → Int → Int) : Int → List Int → Int
  | _, [] => 0
  | s, x :: l => (if 0 < x then g x s else 0) + fSum g (s + 1) l
def one (e : E) : Int := e.2.headD 0
theorem cSum_coins (g : Int → Int → Int) : ∀ (s : Int) (l : List Int), cSum (fun e => g e.1 (one e)) (coinsF s l) = fSum g s l
  | _, [] => rfl
  | s, x :: l => by
    unfold coinsF fSum
    split
    · rw [cSum, cSum_coins g (s + 1) l]; rfl
    · rw [cSum_coins g (s + 1) l]; omega
theorem coins_mem {e : E} : ∀ {s : Int} {l : List Int}, e ∈ coinsF s l → 0 < e.1 ∧ e.2 = [one e] ∧ s ≤ one e ∧ one e < s + l.length
  | _, [], h => by simp [coinsF] at h
  | s, x :: l, h => by
    unfold coinsF at h
    have ih : e ∈ coinsF (s + 1) l → _ := fun h => coins_mem (s := s + 1) (l := l) h
    split at h
    · rename_i hx
      rcases List.mem_cons.1 h with rfl | h
      · refine ⟨hx, rfl, ?_, ?_⟩ <;> simp [one] <;> omega
      · obtain ⟨h1, h2, h3, h4⟩ := ih h
        exact ⟨h1, h2, by omega, by simp; omega⟩
    · obtain ⟨h1, h2, h3, h4⟩ := ih h
      exact ⟨h1, h2, by omega, by simp; omega⟩
theorem coins_nodup : ∀ (s : Int) (l : List Int), ((coinsF s l).map one).Nodup
  | _, [] => by simp [coinsF]
  | s, x :: l => by
    unfold coinsF
    split
    · rw [List.map_cons, List.nodup_cons]
      refine ⟨fun h => ?_, coins_nodup (s + 1) l⟩
      obtain ⟨e, he, h⟩ := List.mem_map.1 h
      have := (coins_mem he).2.2.1
      have : one (x, [s]) = s := rfl
      omega
    · exact coins_nodup (s + 1) l
theorem sy_ones {xs : List E} (h : ∀ e ∈ xs, e.2 = [one e]) : sy xs = xs.map one := by
  induction xs with
  | nil => rfl
  | cons e r ih =>
    have := ih fun y hy => h y (by simp [hy])
    unfold sy at this ⊢
    rw [List.flatMap_cons, this, h e (by simp)]; rfl
theorem cnt_mem {j : Nat} : ∀ {l : List Int}, (j : Int) ∉ l → cnt l j = 0
  | [], _ => rfl
  | x :: l, h => by
    rw [cnt, cnt_mem (l := l) fun c => h (by simp [c]), if_neg fun c => h (by simp [c])]
theorem cnt_nodup {l : List Int} (hn : l.Nodup) {r : Nat} (hr : r < l.length) {j : Nat} (hj : l[r] = (j : Int)) (p : Nat) : cnt (l.take p) j = if r < p then 1 else 0 := by
  induction l generalizing r p with
  | nil => simp at hr
  | cons x l ih =>
    obtain ⟨h1, h2⟩ := List.nodup_cons.1 hn
    cases p with
    | zero => simp [cnt]
    | succ p =>
      rw [List.take_succ_cons, cnt]
      cases r with
      | zero =>
        have hx : x = (j : Int) := hj
        rw [if_pos hx, if_pos (by omega), cnt_mem]
        intro c
        exact h1 (by rw [hx]; exact List.mem_of_mem_take c)
      | succ r =>
        have hr' : r < l.length := by simpa using hr
        have hj' : l[r] = (j : Int) := by simpa using hj
        rw [ih h2 hr' hj' p, if_neg (show ¬ x = (j : Int) from fun c => h1 (by rw [c, ← hj']; exact List.getElem_mem _))]
        by_cases c : r < p
        · rw [if_pos c, if_pos (by omega)]
        · rw [if_neg c, if_neg (by omega)]

theorem cSum_app (f : E → Int) : ∀ a b, cSum f (a ++ b) = cSum f a + cSum f b
  | [], b => by simp [cSum]
  | e :: r, b => by simp [cSum, cSum_app f r b]; omega
theorem cSum_congr {f g : E → Int} : ∀ {l : List E}, (∀ e ∈ l, f e = g e) → cSum f l = cSum g l
  | [], _ => rfl
  | e :: r, h => by rw [cSum, cSum, h e (by simp), cSum_congr fun x hx => h x (by simp [hx])]
theorem cSum_zero : ∀ l, cSum (fun _ => 0) l = 0
  | [] => rfl
  | e :: r => by rw [cSum, cSum_zero r]; rfl
theorem cSum_fst : ∀ l : List E, cSum (fun e => e.1) l = (l.map Prod.fst).sum
  | [] => rfl
  | e :: r => by rw [cSum, cSum_fst r]; rfl
theorem cSum_sum (f : Nat → E → Int) : ∀ (ps : List Nat) (l : List E), cSum (fun e => (ps.map fun p => f p e).sum) l = (ps.map fun p => cSum (f p) l).sum
  | [], l => by simp [cSum_zero]
  | p :: ps, l => by
    have := cSum_sum f ps l
    simp only [List.map_cons, List.sum_cons]
    rw [cSum_add, this]
theorem sum_cast : ∀ l : List Nat, ((l.sum : Nat) : Int) = (l.map fun x : Nat => (x : Int)).sum
  | [] => rfl
  | x :: l => by simp [sum_cast l]
theorem sum_ou (r : Nat) : ∀ ps : List Nat, (ps.map fun p => if r < p then 1 else 0).sum = ouF ps r
  | [] => rfl
  | p :: ps => by
    have := sum_ou r ps
    unfold ouF at this ⊢
    rw [List.map_cons, List.sum_cons, this, List.filter_cons]
    by_cases c : r < p
    · rw [if_pos c, if_pos (by simpa using c), List.length_cons]; omega
    · rw [if_neg c, if_neg (by simpa using c)]; omega
theorem kra_snoc (L : Nat) (x : Nat) : ∀ t : List Nat, kra L (t ++ [x]) = kra L t + 2 ^ (L - x)
  | [] => by simp [kra]
  | y :: t => by simp [kra, kra_snoc L x t]; omega
theorem kra_krR {ps : List Nat} : ∀ (k : Nat) (t : List Nat), t.length = k → (∀ r (h : r < t.length), t[r] = ouF ps r) → kra ps.length t = krR ps k
  | 0, t, h, _ => by rw [List.eq_nil_of_length_eq_zero h]; rfl
  | k + 1, t, h, ht => by
    have hk : k < t.length := by omega
    have e : t = t.take k ++ [t[k]] := by
      rw [← List.take_succ_eq_append_getElem hk, List.take_of_length_le (by omega)]
    rw [e, kra_snoc, krR, ht k hk, kra_krR k (t.take k) (by simp; omega) fun r hr => by
      rw [List.getElem_take]
      exact ht r _]
theorem kra_cSum {L : Nat} (hL : L ≤ 15) (f : E → Nat) : ∀ cs : List E, (∀ e ∈ cs, f e ≤ L) → cSum (fun e => 2 ^ (15 - f e)) cs = ((kra L (cs.map f) * 2 ^ (15 - L) : Nat) : Int)
  | [], _ => by simp [cSum, kra]
  | e :: r, h => by
    have ih := kra_cSum hL f r fun x hx => h x (by simp [hx])
    have := h e (by simp)
    rw [cSum, ih, List.map_cons, kra, Nat.add_mul, ← Nat.pow_add, show L - f e + (15 - L) = 15 - f e by omega]
    push_cast
    rfl
def costF : List Int → List Int → Int
  | c :: cs, x :: xs => c * x + costF cs xs
  | _, _ => 0
def krF : List Int → Int
  | [] => 0
  | x :: xs => (if 0 < x then 2 ^ (15 - x.toNat) else 0) + krF xs
theorem cost_f (T : Int → Int) : ∀ (s : Int) (l t : List Int), l.length = t.length → (∀ x ∈ l, 0 ≤ x) → (∀ (i : Nat) (h : i < t.length), t[i] = T (s + i)) → costF l t = fSum (fun x j => x * T j) s l
  | _, [], [], _, _, _ => rfl
  | s, x :: l, y :: t, h, h0, hT => by
    have ih := cost_f T (s + 1) l t (by simpa using h) (fun z hz => h0 z (by simp [hz])) fun i hi => by
      have := hT (i + 1) (by simp; omega)
      simp only [List.getElem_cons_succ] at this
      rw [this]; congr 1; omega
    have hy := hT 0 (by simp)
    simp only [List.getElem_cons_zero] at hy
    rw [costF, fSum, ih, hy]
    have := h0 x (by simp)
    by_cases c : 0 < x
    · rw [if_pos c]; simp
    · rw [if_neg c, show x = 0 by omega]; simp
  | _, [], _ :: _, h, _, _ => by simp at h
  | _, _ :: _, [], h, _, _ => by simp at h
theorem kr_le (T : Int → Int) : ∀ (s : Int) (l t : List Int), l.length = t.length → (∀ (i : Nat) (h : i < t.length) (h' : i < l.length), 0 < l[i] → 0 < t[i]) → (∀ (i : Nat) (h : i < t.length), t[i] = T (s + i)) → fSum (fun _ j => 2 ^ (15 - (T j).toNat)) s l ≤ krF t
  | _, [], [], _, _, _ => Int.le_refl _
  | s, x :: l, y :: t, h, h0, hT => by
    have ih := kr_le T (s + 1) l t (by simpa using h) (fun i hi hi' hp => h0 (i + 1) (by simp; omega) (by simp; omega) hp) fun i hi => by
      have := hT (i + 1) (by simp; omega)
      simp only [List.getElem_cons_succ] at this
      rw [this]; congr 1; omega
    have hy := hT 0 (by simp)
    simp only [List.getElem_cons_zero] at hy
    have hxy := h0 0 (by simp) (by simp)
    simp only [List.getElem_cons_zero] at hxy
    rw [fSum, krF, hy]
    have e : s + ((0 : Nat) : Int) = s := by simp
    rw [e] at hy ⊢
    by_cases c : 0 < x
    · rw [if_pos c, if_pos (by rw [← hy]; exact hxy c)]; omega
    · rw [if_neg c]
      have hpos : (0 : Int) < 2 ^ (15 - (T s).toNat) := Int.pow_pos (by omega)
      split <;> omega
  | _, [], _ :: _, h, _, _ => by simp at h
  | _, _ :: _, [], h, _, _ => by simp at h
theorem kr_eq (T : Int → Int) : ∀ (s : Int) (l t : List Int), l.length = t.length → (∀ (i : Nat) (h : i < t.length) (h' : i < l.length), 0 < l[i] ↔ 0 < t[i]) → (∀ (i : Nat) (h : i < t.length), t[i] = T (s + i)) → fSum (fun _ j => 2 ^ (15 - (T j).toNat)) s l = krF t
  | _, [], [], _, _, _ => rfl
  | s, x :: l, y :: t, h, h0, hT => by
    have ih := kr_eq T (s + 1) l t (by simpa using h) (fun i hi hi' => h0 (i + 1) (by simp; omega) (by simp; omega)) fun i hi => by
      have := hT (i + 1) (by simp; omega)
      simp only [List.getElem_cons_succ] at this
      rw [this]; congr 1; omega
    have hy := hT 0 (by simp)
    simp only [List.getElem_cons_zero] at hy
    have hxy := h0 0 (by simp) (by simp)
    simp only [List.getElem_cons_zero] at hxy
    rw [fSum, krF, ih]
    have e : s + ((0 : Nat) : Int) = s := by simp
    rw [e] at hy
    by_cases c : 0 < x
    · rw [if_pos c, if_pos (hxy.1 c), hy]
    · rw [if_neg c, if_neg fun d => c (hxy.2 d)]
  | _, [], _ :: _, h, _, _ => by simp at h
  | _, _ :: _, [], h, _, _ => by simp at h
theorem coins_has : ∀ {l : List Int} {s : Int} {i : Nat} (h : i < l.length), 0 < l[i] → (l[i], [s + i]) ∈ coinsF s l
  | x :: l, s, 0, h, hp => by
    simp only [List.getElem_cons_zero] at hp ⊢
    unfold coinsF
    rw [if_pos hp]
    simp
  | x :: l, s, i + 1, h, hp => by
    simp only [List.getElem_cons_succ] at hp ⊢
    have ih := coins_has (l := l) (s := s + 1) (i := i) (by simpa using h) hp
    have e : s + ((i + 1 : Nat) : Int) = s + 1 + i := by push_cast; omega
    rw [e]
    unfold coinsF
    split
    · exact List.mem_cons_of_mem _ ih
    · exact ih
theorem getD_ones {cs : List E} (h : ∀ e ∈ cs, e.2 = [one e]) : sy cs = cs.map one := sy_ones h
/-- the lengths: within the limit, just those that come, they leave nothing, and no others cost less -/
theorem best_said {freq : List Int} {L : Nat} {cs : List E} (h1 : 1 ≤ L) (h15 : L ≤ 15) (hf : ∀ x ∈ freq, 0 ≤ x) (hcs : cs = isort Prod.fst (coinsF 0 freq)) (hk : 2 ≤ cs.length) (hkL : cs.length ≤ 2 ^ L) :
    (∀ s, 0 ≤ hist cs L s ∧ hist cs L s ≤ L) ∧ (∀ (i : Nat) (h : i < freq.length), 0 < freq[i] ↔ 0 < hist cs L i) ∧ krF ((List.range freq.length).map (hist cs L)) = 2 ^ 15 ∧
    ∀ t : List Int, t.length = freq.length → (∀ x ∈ t, 0 ≤ x ∧ x ≤ L) → (∀ (i : Nat) (h : i < freq.length) (h' : i < t.length), 0 < freq[i] → 0 < t[i]) → krF t ≤ 2 ^ 15 → costF freq ((List.range freq.length).map (hist cs L)) ≤ costF freq t := by
  have hu : Up cs := by rw [hcs]; exact up_isort _
  have hperm : cs.Perm (coinsF 0 freq) := by rw [hcs]; exact perm_isort _ _
  have hmem : ∀ e ∈ cs, 0 < e.1 ∧ e.2 = [one e] ∧ 0 ≤ one e ∧ one e < freq.length := fun e he => by
    have := coins_mem (hperm.mem_iff.1 he)
    exact ⟨this.1, this.2.1, this.2.2.1, by omega⟩
  have hnd : (cs.map one).Nodup := (hperm.map one).nodup_iff.2 (coins_nodup 0 freq)
  have hsub : ∀ p, sy (cs.take p) = (cs.map one).take p := fun p => by
    rw [sy_ones fun e he => (hmem e (List.mem_of_mem_take he)).2.1, List.map_take]
  have hen := rows_enough (cs := cs) (j := L - 1) (by omega) (by rw [show L - 1 + 1 = L by omega]; exact hkL)
  obtain ⟨ps, p1, p2, p3, p4, p5, p6, _⟩ := prof hu (fun x hx => (hmem x hx).1) (L - 1) (2 * cs.length - 2) hen
  have pl : ps.length = L := by omega
  have hpw : 2 ^ L = 2 * 2 ^ (L - 1) := by
    conv => lhs; rw [show L = L - 1 + 1 by omega, Nat.pow_succ]
    omega
  have hkr := krR_K p2 p3
  have hK : K ps = (cs.length - 1) * 2 ^ L := by
    rw [p4, hpw, ← Nat.mul_assoc]; congr 1; omega
  have hkr2 : krR ps cs.length = 2 ^ L := by
    rw [hK, pl, Nat.sub_mul, Nat.one_mul] at hkr
    have : 1 * 2 ^ L ≤ cs.length * 2 ^ L := Nat.mul_le_mul_right _ (by omega)
    omega
  -- a coin's length
  have hh : ∀ s, hist cs L s = (((ps.map fun p => cnt (sy (cs.take p)) s).sum : Nat) : Int) := fun s => by
    unfold hist
    rw [show (((rows cs (L - 1)).take (2 * cs.length - 2)).flatMap fun e => e.2) = sy ((rows cs (L - 1)).take (2 * cs.length - 2)) from rfl, p6]
  have hof : ∀ r (hr : r < cs.length), hist cs L (one cs[r]).toNat = ouF ps r := fun r hr => by
    rw [hh, ← sum_ou]
    congr 2
    apply List.map_congr_left
    intro p _
    have hz := (hmem cs[r] (List.getElem_mem hr)).2.2.1
    rw [hsub, cnt_nodup hnd (r := r) (by simpa using hr) (by rw [List.getElem_map]; omega)]
  have hle : ∀ s, 0 ≤ hist cs L s ∧ hist cs L s ≤ L := fun s => by
    rw [hh, ← pl]
    refine ⟨by omega, ?_⟩
    have hone : ∀ p ∈ ps, cnt (sy (cs.take p)) s ≤ 1 := fun p _ => by
      rw [hsub]
      by_cases c : (s : Int) ∈ cs.map one
      · obtain ⟨r, hr, he⟩ := List.getElem_of_mem c
        rw [cnt_nodup hnd hr he]
        split <;> omega
      · rw [cnt_mem fun d => c (List.mem_of_mem_take d)]; omega
    have : ∀ l : List Nat, (∀ p ∈ l, cnt (sy (cs.take p)) s ≤ 1) → (l.map fun p => cnt (sy (cs.take p)) s).sum ≤ l.length := by
      intro l
      induction l with
      | nil => intro _; simp
      | cons x l ih =>
        intro h
        have a := ih fun p hp => h p (by simp [hp])
        have b := h x (by simp)
        simp only [List.map_cons, List.sum_cons, List.length_cons]
        omega
    have := this ps hone
    omega
  have hiff : ∀ (i : Nat) (h : i < freq.length), 0 < freq[i] ↔ 0 < hist cs L i := fun i hi => by
    constructor
    · intro hp
      have hm := hperm.mem_iff.2 (coins_has (l := freq) (s := 0) hi hp)
      obtain ⟨r, hr, he⟩ := List.getElem_of_mem hm
      have h2 := hof r hr
      rw [he] at h2
      have e : (one (freq[i], [0 + (i : Int)])).toNat = i := by simp [one]
      rw [e] at h2
      rw [h2]
      have h3 := krR_pos (ps := ps) hr
      rw [hkr2, pl] at h3
      rcases Nat.eq_zero_or_pos (ouF ps r) with c | c
      · rw [c, Nat.sub_zero] at h3; omega
      · omega
    · intro hp
      rcases Int.lt_or_le 0 freq[i] with c | c
      · exact c
      · exfalso
        have hno : ((i : Nat) : Int) ∉ cs.map one := fun d => by
          obtain ⟨e, he, h2⟩ := List.mem_map.1 d
          have hz := hperm.mem_iff.1 he
          have : ∀ (l : List Int) (s : Int), e ∈ coinsF s l → ∃ (k : Nat) (hk : k < l.length), one e = s + k ∧ 0 < l[k] := by
            intro l
            induction l with
            | nil => intro s h; simp [coinsF] at h
            | cons x l ih =>
              intro s h
              unfold coinsF at h
              have tl : e ∈ coinsF (s + 1) l → ∃ (k : Nat) (hk : k < (x :: l).length), one e = s + k ∧ 0 < (x :: l)[k] := fun h => by
                obtain ⟨k, hk, e1, e2⟩ := ih (s + 1) h
                exact ⟨k + 1, by simp; omega, by rw [e1]; push_cast; omega, by simpa using e2⟩
              split at h
              · rename_i hx
                rcases List.mem_cons.1 h with rfl | h
                · exact ⟨0, by simp, by simp [one], by simpa using hx⟩
                · exact tl h
              · exact tl h
          obtain ⟨k, hk, e1, e2⟩ := this freq 0 hz
          have : k = i := by omega
          subst this
          omega
        rw [hh] at hp
        have : ∀ l : List Nat, (l.map fun p => cnt (sy (cs.take p)) i).sum = 0 := by
          intro l
          induction l with
          | nil => rfl
          | cons x l ih =>
            rw [List.map_cons, List.sum_cons, ih, hsub, cnt_mem fun d => hno (List.mem_of_mem_take d)]
        rw [this] at hp
        omega
  have hlen : ((List.range freq.length).map (hist cs L)).length = freq.length := by simp
  have hget : ∀ (i : Nat) (h : i < ((List.range freq.length).map (hist cs L)).length), ((List.range freq.length).map (hist cs L))[i] = (fun j : Int => hist cs L j.toNat) (0 + (i : Int)) := fun i h => by simp
  refine ⟨hle, hiff, ?_, fun t ht h0 hpos hkt => ?_⟩
  · rw [← kr_eq (fun j : Int => hist cs L j.toNat) 0 freq _ hlen.symm (fun i h h' => by
      rw [hget]; simpa using hiff i h') hget, ← cSum_coins (fun _ j => 2 ^ (15 - (hist cs L j.toNat).toNat)) 0 freq, ← cSum_perm _ hperm]
    rw [kra_cSum (L := L) h15 (fun e => (hist cs L (one e).toNat).toNat) cs fun e he => by have := hle (one e).toNat; omega]
    have hm : kra ps.length (cs.map fun e => (hist cs L (one e).toNat).toNat) = krR ps cs.length := kra_krR cs.length _ (by simp) fun r hr => by
      rw [List.getElem_map, hof r (by simpa using hr)]; simp
    rw [pl] at hm
    rw [hm, hkr2, ← Nat.pow_add, show L + (15 - L) = 15 by omega]
    rfl
  · have c1 : costF freq ((List.range freq.length).map (hist cs L)) = W (rows cs (L - 1)) (2 * cs.length - 2) := by
      rw [cost_f (fun j : Int => hist cs L j.toNat) 0 freq _ hlen.symm hf hget, ← cSum_coins (fun x j => x * hist cs L j.toNat) 0 freq, ← cSum_perm _ hperm, p5]
      have : ∀ e ∈ cs, e.1 * hist cs L (one e).toNat = (ps.map fun p => e.1 * (cnt (sy (cs.take p)) (one e).toNat : Int)).sum := fun e _ => by
        rw [hh, sum_cast, List.map_map]
        have : ∀ l : List Nat, e.1 * (l.map ((fun x : Nat => (x : Int)) ∘ fun p => cnt (sy (cs.take p)) (one e).toNat)).sum = (l.map fun p => e.1 * (cnt (sy (cs.take p)) (one e).toNat : Int)).sum := by
          intro l
          induction l with
          | nil => simp
          | cons x l ih => simp only [List.map_cons, List.sum_cons, Int.mul_add, ih, Function.comp]
        exact this ps
      rw [cSum_congr this, cSum_sum (fun p e => e.1 * (cnt (sy (cs.take p)) (one e).toNat : Int))]
      congr 1
      apply List.map_congr_left
      intro p _
      have hat : ∀ r (hr : r < cs.length), cnt (sy (cs.take p)) (one cs[r]).toNat = if r < p then 1 else 0 := fun r hr => by
        have hz := (hmem cs[r] (List.getElem_mem hr)).2.2.1
        rw [hsub, cnt_nodup hnd (r := r) (by simpa using hr) (by rw [List.getElem_map]; omega)]
      conv => lhs; rw [← List.take_append_drop p cs]
      rw [cSum_app, List.take_append_drop]
      rw [cSum_congr (l := cs.take p) (g := fun e => e.1) fun e he => by
        obtain ⟨r, hr, rfl⟩ := List.getElem_of_mem he
        rw [List.length_take] at hr
        rw [List.getElem_take, hat r (by omega), if_pos (by omega)]; simp]
      rw [cSum_congr (l := cs.drop p) (g := fun _ => 0) fun e he => by
        obtain ⟨r, hr, rfl⟩ := List.getElem_of_mem he
        rw [List.length_drop] at hr
        rw [List.getElem_drop, hat (p + r) (by omega), if_neg (by omega)]; simp]
      rw [cSum_zero, cSum_fst, Int.add_zero]
      rfl
    have tget : ∀ (i : Nat) (h : i < t.length), t[i] = (fun j : Int => t.getD j.toNat 0) (0 + (i : Int)) := fun i h => by simp [h]
    have tb : ∀ e ∈ cs, 1 ≤ (t.getD (one e).toNat 0).toNat ∧ (t.getD (one e).toNat 0).toNat ≤ L ∧ 0 < t.getD (one e).toNat 0 := fun e he => by
      obtain ⟨m1, m2, m3, m4⟩ := hmem e he
      have hi : (one e).toNat < freq.length := by omega
      obtain ⟨r, hr, hre⟩ := List.getElem_of_mem he
      have hp : 0 < freq[(one e).toNat] := by
        refine (hiff _ hi).2 ?_
        have h2 := hof r hr
        rw [hre] at h2
        rw [h2]
        have h3 := krR_pos (ps := ps) hr
        rw [hkr2, pl] at h3
        rcases Nat.eq_zero_or_pos (ouF ps r) with c | c
        · rw [c, Nat.sub_zero] at h3; omega
        · omega
      have h1 := hpos _ hi (by omega) hp
      have h2 := h0 _ (List.getElem_mem (show (one e).toNat < t.length by omega))
      have e1 : t.getD (one e).toNat 0 = t[(one e).toNat]'(by omega) := by rw [List.getD_eq_getElem?_getD, List.getElem?_eq_getElem (by omega)]; rfl
      rw [e1]
      omega
    have c2 : costF freq t = dot cs ((cs.map fun e => (t.getD (one e).toNat 0).toNat).map fun x : Nat => (x : Int)) := by
      rw [cost_f (fun j : Int => t.getD j.toNat 0) 0 freq t ht.symm hf tget, ← cSum_coins (fun x j => x * t.getD j.toNat 0) 0 freq, ← cSum_perm _ hperm]
      have : ∀ l : List E, (∀ e ∈ l, 0 < t.getD (one e).toNat 0) → cSum (fun e => e.1 * t.getD (one e).toNat 0) l = dot l ((l.map fun e => (t.getD (one e).toNat 0).toNat).map fun x : Nat => (x : Int)) := by
        intro l
        induction l with
        | nil => intro _; rfl
        | cons x l ih =>
          intro h
          have hx := h x (by simp)
          rw [cSum, ih fun e he => h e (by simp [he])]
          simp only [List.map_cons, dot]
          rw [show (((t.getD (one x).toNat 0).toNat : Nat) : Int) = t.getD (one x).toNat 0 by omega]
      exact this cs fun e he => (tb e he).2.2
    rw [c1, c2]
    refine best h1 hu (fun x hx => (hmem x hx).1) (by simp) (fun x hx => ?_) ?_
    · obtain ⟨e, he, rfl⟩ := List.mem_map.1 hx
      exact ⟨(tb e he).1, (tb e he).2.1⟩
    · have k1 := kra_cSum (L := L) h15 (fun e => (t.getD (one e).toNat 0).toNat) cs fun e he => (tb e he).2.1
      have k2 := kr_le (fun j : Int => t.getD j.toNat 0) 0 freq t ht.symm (fun i h h' hp => hpos i h' h hp) tget
      rw [← cSum_coins (fun _ j => 2 ^ (15 - (t.getD j.toNat 0).toNat)) 0 freq, ← cSum_perm _ hperm, k1] at k2
      have k3 : kra L (cs.map fun e => (t.getD (one e).toNat 0).toNat) * 2 ^ (15 - L) ≤ 2 ^ 15 := by
        have : (((kra L (cs.map fun e => (t.getD (one e).toNat 0).toNat) * 2 ^ (15 - L) : Nat)) : Int) ≤ ((2 ^ 15 : Nat) : Int) := Int.le_trans k2 (by simpa using hkt)
        exact Int.ofNat_le.1 this
      rw [show (15 : Nat) = L + (15 - L) by omega, Nat.pow_add] at k3
      rw [show L + (15 - L) - L = 15 - L by omega] at k3
      exact Nat.le_of_mul_le_mul_right k3 (Nat.two_pow_pos _)
end Go.Proofs.Ytehfblkpbadikaa.PM
