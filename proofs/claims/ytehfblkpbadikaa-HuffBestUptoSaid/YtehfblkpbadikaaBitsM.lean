/- Plain mathematics of bits in bytes: the lowest bit of a byte first. No conditions but those that each names; no program in sight. -/
import Derived.Test.YtehfblkpbadikaaRead
namespace Go.Proofs.Ytehfblkpbadikaa.M
open Go Go.Proofs.Ytehfblkpbadikaa.Sl
set_option linter.unusedVariables false

def val : List Bool → Nat
  | [] => 0
  | b :: l => b.toNat + 2 * val l

theorem val_lt : ∀ l : List Bool, val l < 2 ^ l.length
  | [] => by simp [val]
  | b :: l => by have := val_lt l; cases b <;> simp [val, Nat.pow_succ] <;> omega

theorem val_append (m : List Bool) : ∀ l : List Bool, val (l ++ m) = val l + 2 ^ l.length * val m
  | [] => by simp [val]
  | b :: l => by
    simp only [List.cons_append, val, val_append m l, List.length_cons, Nat.pow_succ]
    rw [Nat.mul_add, Nat.mul_comm (2 ^ l.length) 2, Nat.mul_assoc]; omega

def byteAt (L : List Bool) (i : Nat) : Nat := val ((L.drop (8 * i)).take 8)

theorem byteAt_lt (L : List Bool) (i : Nat) : byteAt L i < 256 := by
  have h := val_lt ((L.drop (8 * i)).take 8)
  have hl : ((L.drop (8 * i)).take 8).length ≤ 8 := List.length_take_le _ _
  exact Nat.lt_of_lt_of_le h (Nat.pow_le_pow_right (by omega) hl)

def pkn (L : List Bool) (m : Nat) : List UInt8 := (List.range m).map fun i => UInt8.ofNat (byteAt L i)
/-- the bytes of bits -/
def pk (L : List Bool) : List UInt8 := pkn L ((L.length + 7) / 8)
/-- the same, a byte laid for the next bit -/
def pkx (L : List Bool) : List UInt8 := pkn L (L.length / 8 + 1)

theorem length_pk (L : List Bool) : (pk L).length = (L.length + 7) / 8 := by simp [pk, pkn]
theorem length_pkx (L : List Bool) : (pkx L).length = L.length / 8 + 1 := by simp [pkx, pkn]
theorem pkx0 {L : List Bool} (h : L.length % 8 = 0) : pkx L = pk L ++ [0] := by
  unfold pkx pk pkn
  rw [show (L.length + 7) / 8 = L.length / 8 by omega, List.range_succ, List.map_append]
  congr 1
  have : L.drop (8 * (L.length / 8)) = [] := List.drop_eq_nil_of_le (by omega)
  simp [byteAt, this, val]
theorem pkx1 {L : List Bool} (h : ¬ L.length % 8 = 0) : pkx L = pk L := by
  unfold pkx pk
  rw [show (L.length + 7) / 8 = L.length / 8 + 1 by omega]

theorem byteAt_snoc_lt {L : List Bool} {b : Bool} {i : Nat} (h : i < L.length / 8) : byteAt (L ++ [b]) i = byteAt L i := by
  unfold byteAt
  rw [List.drop_append_of_le_length (by omega), List.take_append_of_le_length (by simp; omega)]
theorem byteAt_snoc_eq {L : List Bool} {b : Bool} : byteAt (L ++ [b]) (L.length / 8) = byteAt L (L.length / 8) + 2 ^ (L.length % 8) * b.toNat := by
  unfold byteAt
  rw [List.drop_append_of_le_length (by omega), List.take_of_length_le (by simp; omega), List.take_of_length_le (by simp; omega), val_append]
  have : (L.drop (8 * (L.length / 8))).length = L.length % 8 := by simp; omega
  rw [this]; simp [val]
theorem byteAt_last (L : List Bool) : byteAt L (L.length / 8) < 2 ^ (L.length % 8) := by
  unfold byteAt
  refine Nat.lt_of_lt_of_le (val_lt _) (Nat.pow_le_pow_right (by omega) ?_)
  rw [List.length_take, List.length_drop]; omega

theorem pk_snoc_f (L : List Bool) : pk (L ++ [false]) = pkx L := by
  unfold pk pkx pkn
  simp only [List.length_append, List.length_singleton]
  rw [show (L.length + 1 + 7) / 8 = L.length / 8 + 1 by omega]
  refine List.map_congr_left fun i hi => ?_
  rw [List.mem_range] at hi
  by_cases h : i < L.length / 8
  · rw [byteAt_snoc_lt h]
  · rw [show i = L.length / 8 by omega, byteAt_snoc_eq]; simp
theorem pk_snoc_t (L : List Bool) : pk (L ++ [true]) = (pkx L).set (L.length / 8) (UInt8.ofNat (byteAt L (L.length / 8) + 2 ^ (L.length % 8))) := by
  apply List.ext_getElem?
  intro i
  unfold pk pkx pkn
  simp only [List.length_append, List.length_singleton]
  rw [show (L.length + 1 + 7) / 8 = L.length / 8 + 1 by omega, List.getElem?_set]
  simp only [List.length_map, List.length_range, List.getElem?_map]
  by_cases h : L.length / 8 = i
  · subst h
    simp [byteAt_snoc_eq]
  · rw [if_neg h]
    by_cases h2 : i < L.length / 8
    · rw [List.getElem?_range (by omega)]; simp [byteAt_snoc_lt h2]
    · rw [List.getElem?_eq_none (by simp; omega)]; rfl
theorem pkx_last (L : List Bool) : (pkx L)[L.length / 8]? = some (UInt8.ofNat (byteAt L (L.length / 8))) := by
  simp [pkx, pkn]

/-- a number's lowest bits -/
def bitsOf (n k : Nat) : List Bool := (List.range k).map n.testBit
theorem bitsOf_succ (n k : Nat) : bitsOf n (k + 1) = bitsOf n k ++ [n.testBit k] := by simp [bitsOf, List.range_succ]
theorem length_bitsOf (n k : Nat) : (bitsOf n k).length = k := by simp [bitsOf]

/-! ### the model's words -/
theorem wrap8 {n : Nat} (h : n < 256) : IntKind.u8.wrap (n : Int) = n := by
  simp only [IntKind.wrap, IntKind.bits, IntKind.signed]
  simp; omega
theorem wrapu64 {n : Nat} (h : n < 18446744073709551616) : IntKind.u64.wrap (n : Int) = n := by
  simp only [IntKind.wrap, IntKind.bits, IntKind.signed]
  simp; omega
theorem and1 {a : Nat} (h : a < 9223372036854775808) : bitOp .and .i64 (a : Int) 1 = ((a % 2 : Nat) : Int) := by
  unfold bitOp
  have h1 : (BitVec.ofInt IntKind.i64.bits (a : Int)).toNat = a := by
    rw [BitVec.ofInt_natCast, BitVec.toNat_ofNat]; exact Nat.mod_eq_of_lt (by simp only [IntKind.bits]; omega)
  have h2 : (BitVec.ofInt IntKind.i64.bits 1).toNat = 1 := by decide
  simp only [BitVec.toNat_and, h1, h2, Nat.and_one_is_mod]
  exact w64 (by omega) (by omega)
theorem or8 {a r : Nat} (hr : r < 8) (h : a < 2 ^ r) : bitOp .or .u8 (a : Int) ((2 ^ r : Nat) : Int) = ((a + 2 ^ r : Nat) : Int) := by
  have hp : 2 ^ r ≤ 128 := by
    have : 2 ^ r ≤ 2 ^ 7 := Nat.pow_le_pow_right (by omega) (by omega)
    simpa using this
  unfold bitOp
  have h1 : (BitVec.ofInt IntKind.u8.bits (a : Int)).toNat = a := by
    rw [BitVec.ofInt_natCast, BitVec.toNat_ofNat]; exact Nat.mod_eq_of_lt (by simp only [IntKind.bits]; omega)
  have h2 : (BitVec.ofInt IntKind.u8.bits ((2 ^ r : Nat) : Int)).toNat = 2 ^ r := by
    rw [BitVec.ofInt_natCast, BitVec.toNat_ofNat]; exact Nat.mod_eq_of_lt (by simp only [IntKind.bits]; omega)
  have h3 : a ||| 2 ^ r = a + 2 ^ r := by
    have := Nat.two_pow_add_eq_or_of_lt h 1
    rw [Nat.mul_one] at this
    rw [Nat.or_comm, ← this]; omega
  simp only [BitVec.toNat_or, h1, h2, h3]
  exact wrap8 (by omega)
theorem shr_nat {n k : Nat} (hk : k < 64) : ((n : Int).fdiv (2 ^ (min ((k : Int)).toNat IntKind.i64.bits))) = ((n / 2 ^ k : Nat) : Int) := by
  have : min ((k : Int)).toNat IntKind.i64.bits = k := by simp only [IntKind.bits, Int.toNat_natCast]; omega
  rw [this, Int.fdiv_eq_ediv_of_nonneg _ (Int.le_of_lt (Int.pow_pos (by decide)))]
  norm_cast
theorem testBit_mod (n k : Nat) : n / 2 ^ k % 2 = (n.testBit k).toNat := by
  rw [Nat.testBit_eq_decide_div_mod_eq]
  rcases Nat.mod_two_eq_zero_or_one (n / 2 ^ k) with h | h <;> simp [h]
theorem B_ofNat {x : Nat} (h : x < 256) : B (UInt8.ofNat x) = .int .u8 (x : Int) := by
  unfold B; rw [UInt8.toNat_ofNat']; rw [Nat.mod_eq_of_lt h]
theorem mask_at {r : Nat} (h : r < 8) : (#[.int .u8 1, .int .u8 2, .int .u8 4, .int .u8 8, .int .u8 16, .int .u8 32, .int .u8 64, .int .u8 128] : Array Value)[r]? = some (.int .u8 ((2 ^ r : Nat) : Int)) := by
  have : r = 0 ∨ r = 1 ∨ r = 2 ∨ r = 3 ∨ r = 4 ∨ r = 5 ∨ r = 6 ∨ r = 7 := by omega
  rcases this with rfl | rfl | rfl | rfl | rfl | rfl | rfl | rfl <;> rfl

/-! ### whole bytes -/
def bits8 (c : UInt8) : List Bool := bitsOf c.toNat 8
/-- the bits of bytes -/
def ub (l : List UInt8) : List Bool := l.flatMap bits8
theorem length_bits8 (c : UInt8) : (bits8 c).length = 8 := length_bitsOf _ _
theorem length_ub : ∀ l : List UInt8, (ub l).length = 8 * l.length
  | [] => rfl
  | c :: l => by
    have := length_ub l
    unfold ub at *
    rw [List.flatMap_cons, List.length_append, this, length_bits8, List.length_cons]; omega
theorem val_bitsOf (n : Nat) : ∀ k, val (bitsOf n k) = n % 2 ^ k
  | 0 => by simp [bitsOf, val, Nat.mod_one]
  | k + 1 => by
    rw [bitsOf_succ, val_append, length_bitsOf, val_bitsOf n k, Nat.mod_pow_succ, testBit_mod]
    simp [val]
theorem val_bits8 (c : UInt8) : val (bits8 c) = c.toNat := by
  unfold bits8; rw [val_bitsOf]; exact Nat.mod_eq_of_lt c.toNat_lt
theorem byteAt_ub_lt {l : List UInt8} {i : Nat} (h : i < l.length) (m : List Bool) : byteAt (ub l ++ m) i = l[i].toNat := by
  unfold byteAt
  have e : ub l = ub (l.take i) ++ (bits8 l[i] ++ ub (l.drop (i + 1))) := by
    unfold ub
    rw [← List.flatMap_cons, ← List.flatMap_append, ← List.drop_eq_getElem_cons h, List.take_append_drop]
  have hl : (ub (l.take i)).length = 8 * i := by rw [length_ub, List.length_take]; omega
  rw [e, List.append_assoc, List.append_assoc, ← hl, List.drop_left]
  have h8 := length_bits8 l[i]
  rw [show (8 : Nat) = (bits8 l[i]).length from h8.symm, List.take_left, val_bits8]
theorem pk_ub (l : List UInt8) : pk (ub l) = l := by
  unfold pk pkn
  rw [length_ub, show (8 * l.length + 7) / 8 = l.length by omega]
  apply List.ext_getElem
  · simp
  · intro i h1 h2
    have := byteAt_ub_lt h2 []
    rw [List.append_nil] at this
    simp [this]
/-- to a whole byte -/
def padTo8 (L : List Bool) : List Bool := L ++ List.replicate ((8 - L.length % 8) % 8) false
theorem length_pad (L : List Bool) : (padTo8 L).length = 8 * ((L.length + 7) / 8) := by
  unfold padTo8; simp; omega
theorem val_false : ∀ n, val (List.replicate n false) = 0
  | 0 => rfl
  | n + 1 => by simp [List.replicate_succ, val, val_false n]
theorem byteAt_pad (L : List Bool) (n i : Nat) : byteAt (L ++ List.replicate n false) i = byteAt L i := by
  unfold byteAt
  rw [List.drop_append, List.take_append, val_append, List.drop_replicate, List.take_replicate, val_false]
  simp
theorem pk_pad (L : List Bool) : pk (padTo8 L) = pk L := by
  unfold pk
  rw [length_pad, show (8 * ((L.length + 7) / 8) + 7) / 8 = (L.length + 7) / 8 by omega]
  unfold pkn padTo8
  refine List.map_congr_left fun i _ => ?_
  rw [byteAt_pad]
theorem pk_append {L : List Bool} (h : L.length % 8 = 0) (l : List UInt8) : pk (L ++ ub l) = pk L ++ l := by
  unfold pk pkn
  rw [List.length_append, length_ub]
  rw [show (L.length + 8 * l.length + 7) / 8 = L.length / 8 + l.length by omega, show (L.length + 7) / 8 = L.length / 8 by omega]
  rw [List.range_add, List.map_append]
  congr 1
  · refine List.map_congr_left fun i hi => ?_
    rw [List.mem_range] at hi
    unfold byteAt
    rw [List.drop_append_of_le_length (by omega), List.take_append_of_le_length (by simp; omega)]
  · rw [List.map_map]
    apply List.ext_getElem
    · simp
    · intro i h1 h2
      simp only [List.getElem_map, List.getElem_range, Function.comp_apply]
      have : byteAt (L ++ ub l) (L.length / 8 + i) = byteAt (ub l) i := by
        unfold byteAt
        rw [List.drop_append, List.drop_eq_nil_of_le (by omega), List.nil_append]
        congr 3; omega
      have h3 := byteAt_ub_lt h2 []
      rw [List.append_nil] at h3
      rw [this, h3]; simp

theorem shr8 {n k : Nat} (hk : k < 8) : ((n : Int).fdiv (2 ^ (min ((k : Int)).toNat IntKind.u8.bits))) = ((n / 2 ^ k : Nat) : Int) := by
  have : min ((k : Int)).toNat IntKind.u8.bits = k := by simp only [IntKind.bits, Int.toNat_natCast]; omega
  rw [this, Int.fdiv_eq_ediv_of_nonneg _ (Int.le_of_lt (Int.pow_pos (by decide)))]
  norm_cast
theorem and1_8 {a : Nat} (h : a < 256) : bitOp .and .u8 (a : Int) 1 = ((a % 2 : Nat) : Int) := by
  unfold bitOp
  have h1 : (BitVec.ofInt IntKind.u8.bits (a : Int)).toNat = a := by
    rw [BitVec.ofInt_natCast, BitVec.toNat_ofNat]; exact Nat.mod_eq_of_lt (by simp only [IntKind.bits]; omega)
  have h2 : (BitVec.ofInt IntKind.u8.bits 1).toNat = 1 := by decide
  simp only [BitVec.toNat_and, h1, h2, Nat.and_one_is_mod]
  exact wrap8 (by omega)
theorem ub_get : ∀ {l : List UInt8} {i : Nat} (h : i / 8 < l.length), (ub l)[i]? = some (l[i / 8].toNat.testBit (i % 8))
  | c :: l, i, h => by
    have e : ub (c :: l) = bits8 c ++ ub l := by unfold ub; rw [List.flatMap_cons]
    rw [e]
    by_cases hi : i < 8
    · rw [List.getElem?_append_left (by rw [length_bits8]; exact hi)]
      have h0 : i / 8 = 0 := by omega
      have h1 : i % 8 = i := by omega
      simp only [h0, h1, List.getElem_cons_zero, bits8, bitsOf]
      simp [hi]
    · rw [List.getElem?_append_right (by rw [length_bits8]; omega), length_bits8]
      have h0 : i / 8 = (i - 8) / 8 + 1 := by omega
      have h1 : i % 8 = (i - 8) % 8 := by omega
      rw [ub_get (l := l) (i := i - 8) (by rw [h0] at h; simpa using h)]
      simp only [h0, h1, List.getElem_cons_succ]
/-- the number that k bits from at on are -/
def tak (L : List Bool) (at_ k : Nat) : Nat := val ((L.drop at_).take k)
theorem tak_lt (L : List Bool) (at_ k : Nat) : tak L at_ k < 2 ^ k := by
  refine Nat.lt_of_lt_of_le (val_lt _) (Nat.pow_le_pow_right (by omega) (List.length_take_le _ _))
theorem tak_succ {L : List Bool} {at_ k : Nat} {b : Bool} (h : L[at_ + k]? = some b) : tak L at_ (k + 1) = tak L at_ k + 2 ^ k * b.toNat := by
  have hl : at_ + k < L.length := by
    rcases Nat.lt_or_ge (at_ + k) L.length with c | c
    · exact c
    · rw [List.getElem?_eq_none c] at h; cases h
  unfold tak
  have hd : (L.drop at_)[k]? = some b := by rw [List.getElem?_drop]; exact h
  have hk : k < (L.drop at_).length := by rw [List.length_drop]; omega
  rw [List.take_succ_eq_append_getElem hk, val_append, List.length_take, Nat.min_eq_left (by omega)]
  have : (L.drop at_)[k] = b := by rw [List.getElem?_eq_getElem hk] at hd; exact Option.some.inj hd
  rw [this]; simp [val]
theorem tak_zero (L : List Bool) (at_ : Nat) : tak L at_ 0 = 0 := by simp [tak, val]
theorem or_shl {a k : Nat} {b : Bool} (hk : k < 33) (h : a < 2 ^ k) : bitOp .or .i64 (a : Int) (((b.toNat * 2 ^ k : Nat)) : Int) = ((a + 2 ^ k * b.toNat : Nat) : Int) := by
  have hp : 2 ^ k ≤ 4294967296 := by
    have : 2 ^ k ≤ 2 ^ 32 := Nat.pow_le_pow_right (by omega) (by omega)
    simpa using this
  have hb : b.toNat * 2 ^ k ≤ 4294967296 := by cases b <;> simp <;> omega
  unfold bitOp
  have h1 : (BitVec.ofInt IntKind.i64.bits (a : Int)).toNat = a := by
    rw [BitVec.ofInt_natCast, BitVec.toNat_ofNat]; exact Nat.mod_eq_of_lt (by simp only [IntKind.bits]; omega)
  have h2 : (BitVec.ofInt IntKind.i64.bits ((b.toNat * 2 ^ k : Nat) : Int)).toNat = b.toNat * 2 ^ k := by
    rw [BitVec.ofInt_natCast, BitVec.toNat_ofNat]; exact Nat.mod_eq_of_lt (by simp only [IntKind.bits]; omega)
  have h3 : a ||| b.toNat * 2 ^ k = a + 2 ^ k * b.toNat := by
    have := Nat.two_pow_add_eq_or_of_lt h b.toNat
    rw [Nat.or_comm, Nat.mul_comm b.toNat, ← this]; omega
  simp only [BitVec.toNat_or, h1, h2, h3]
  have : 2 ^ k * b.toNat ≤ 4294967296 := by rw [Nat.mul_comm]; exact hb
  exact w64 (by omega) (by omega)

/-! ### bits in the other order -/
def bitI (n : Int) (i : Nat) : Bool := decide (n / 2 ^ i % 2 = 1)
def bl (n : Int) (i : Nat) : List Bool := (List.range i).map (bitI n)
theorem bl_succ (n : Int) (i : Nat) : bl n (i + 1) = bl n i ++ [bitI n i] := by simp [bl, List.range_succ]
theorem length_bl (n : Int) (i : Nat) : (bl n i).length = i := by simp [bl]
def rv (n : Int) (i : Nat) : Nat := val (bl n i).reverse
theorem rv_succ (n : Int) (i : Nat) : rv n (i + 1) = 2 * rv n i + (bitI n i).toNat := by
  unfold rv; rw [bl_succ, List.reverse_append]; simp [val]; omega
theorem rv_lt (n : Int) (i : Nat) : rv n i < 2 ^ i := by
  have := val_lt (bl n i).reverse
  rwa [List.length_reverse, length_bl] at this
theorem bit_toNat (n : Int) (i : Nat) : ((bitI n i).toNat : Int) = n / 2 ^ i % 2 := by
  unfold bitI
  rcases Int.emod_two_eq (n / 2 ^ i) with h | h <;> simp [h]
theorem and1I (a : Int) : bitOp .and .i64 a 1 = a % 2 := by
  unfold bitOp
  have h2 : (BitVec.ofInt IntKind.i64.bits 1).toNat = 1 := by decide
  simp only [BitVec.toNat_and, h2, Nat.and_one_is_mod, BitVec.toNat_ofInt]
  rw [w64 (by omega) (by omega)]
  simp only [IntKind.bits]
  omega
theorem shrI {n : Int} {k : Nat} (hk : k < 64) : n.fdiv (2 ^ (min ((k : Int)).toNat IntKind.i64.bits)) = n / 2 ^ k := by
  have : min ((k : Int)).toNat IntKind.i64.bits = k := by simp only [IntKind.bits, Int.toNat_natCast]; omega
  rw [this, Int.fdiv_eq_ediv_of_nonneg _ (Int.le_of_lt (Int.pow_pos (by decide)))]
theorem or_two {a : Nat} {b : Bool} (h : a < 4294967296) : bitOp .or .i64 (((a * 2 : Nat)) : Int) (b.toNat : Int) = ((2 * a + b.toNat : Nat) : Int) := by
  have hb : b.toNat ≤ 1 := Bool.toNat_le b
  unfold bitOp
  have h1 : (BitVec.ofInt IntKind.i64.bits ((a * 2 : Nat) : Int)).toNat = a * 2 := by
    rw [BitVec.ofInt_natCast, BitVec.toNat_ofNat]; exact Nat.mod_eq_of_lt (by simp only [IntKind.bits]; omega)
  have h2 : (BitVec.ofInt IntKind.i64.bits (b.toNat : Int)).toNat = b.toNat := by
    rw [BitVec.ofInt_natCast, BitVec.toNat_ofNat]; exact Nat.mod_eq_of_lt (by simp only [IntKind.bits]; omega)
  have h3 : a * 2 ||| b.toNat = 2 * a + b.toNat := by
    have := Nat.two_pow_add_eq_or_of_lt (i := 1) (b := b.toNat) (by omega) a
    rw [Nat.pow_one] at this
    rw [Nat.mul_comm a 2, ← this]
  simp only [BitVec.toNat_or, h1, h2, h3]
  exact w64 (by omega) (by omega)
theorem emod_split (n d : Int) (hd : 0 < d) : n % d + d * (n / d % 2) = n % (d * 2) := by
  have h1 := Int.emod_add_mul_ediv n d
  have h2 := Int.emod_add_mul_ediv (n / d) 2
  have h3 := Int.emod_nonneg n (Int.ne_of_gt hd)
  have h4 := Int.emod_lt_of_pos n hd
  have h6 : d * (n / d) = d * (n / d % 2) + d * 2 * (n / d / 2) := by
    have : d * (n / d) = d * (n / d % 2 + 2 * (n / d / 2)) := by rw [h2]
    rw [this, Int.mul_add, Int.mul_assoc]
  have h5 : n = (n % d + d * (n / d % 2)) + (d * 2) * (n / d / 2) := by omega
  have h7 : 0 ≤ n % d + d * (n / d % 2) ∧ n % d + d * (n / d % 2) < d * 2 := by
    rcases Int.emod_two_eq (n / d) with h | h <;> rw [h] <;> omega
  have h8 : n % (d * 2) = ((n % d + d * (n / d % 2)) + (d * 2) * (n / d / 2)) % (d * 2) := by rw [← h5]
  rw [h8, Int.add_mul_emod_self_left, Int.emod_eq_of_lt h7.1 h7.2]
theorem val_bl (n : Int) : ∀ m, (val (bl n m) : Int) = n % 2 ^ m
  | 0 => by simp [bl, val]
  | m + 1 => by
    rw [bl_succ, val_append, length_bl]
    push_cast
    rw [val_bl n m]
    simp only [val, Nat.mul_zero, Nat.add_zero]
    rw [bit_toNat, Int.pow_succ]
    exact emod_split n (2 ^ m) (Int.pow_pos (by decide))
theorem val_bit : ∀ (l : List Bool) (i : Nat) (h : i < l.length), val l / 2 ^ i % 2 = l[i].toNat
  | b :: l, 0, h => by
    simp only [val, Nat.pow_zero, Nat.div_one, List.getElem_cons_zero]; cases b <;> simp <;> omega
  | b :: l, i + 1, h => by
    simp only [val, Nat.pow_succ, List.getElem_cons_succ]
    rw [Nat.mul_comm (2 ^ i) 2, ← Nat.div_div_eq_div_mul]
    rw [show (b.toNat + 2 * val l) / 2 = val l by cases b <;> simp <;> omega]
    exact val_bit l i (by simpa using h)
theorem bl_val (l : List Bool) : bl (val l : Int) l.length = l := by
  apply List.ext_getElem
  · simp [length_bl]
  · intro i h1 h2
    have h := val_bit l i h2
    simp only [bl, List.getElem_map, List.getElem_range, bitI]
    rw [show ((val l : Int) / 2 ^ i % 2) = ((val l / 2 ^ i % 2 : Nat) : Int) by norm_cast, h]
    cases l[i] <;> simp
theorem rv_rv (n : Int) (m : Nat) : (rv (rv n m : Int) m : Int) = n % 2 ^ m := by
  have h := bl_val (bl n m).reverse
  rw [List.length_reverse, length_bl] at h
  rw [← val_bl]
  unfold rv
  rw [h, List.reverse_reverse]
theorem and_mask (n : Int) {m : Nat} (h : m ≤ 32) : bitOp .and .i64 n (((2 ^ m - 1 : Nat)) : Int) = n % 2 ^ m := by
  have hp : 2 ^ m ≤ 2 ^ 32 := Nat.pow_le_pow_right (by omega) h
  have hp0 : 0 < 2 ^ m := Nat.pow_pos (by omega)
  unfold bitOp
  have h2 : (BitVec.ofInt IntKind.i64.bits ((2 ^ m - 1 : Nat) : Int)).toNat = 2 ^ m - 1 := by
    rw [BitVec.ofInt_natCast, BitVec.toNat_ofNat]; exact Nat.mod_eq_of_lt (by simp only [IntKind.bits]; omega)
  simp only [BitVec.toNat_and, h2, Nat.and_two_pow_sub_one_eq_mod, BitVec.toNat_ofInt]
  have hn : ((n % ((2 ^ IntKind.i64.bits : Nat) : Int)).toNat % 2 ^ m : Nat) < 2 ^ m := Nat.mod_lt _ hp0
  have he : (((n % ((2 ^ IntKind.i64.bits : Nat) : Int)).toNat % 2 ^ m : Nat) : Int) = n % 2 ^ m := by
    rw [Int.natCast_emod, Int.toNat_of_nonneg (Int.emod_nonneg _ (by decide))]
    have hd : ((2 ^ m : Nat) : Int) ∣ ((2 ^ IntKind.i64.bits : Nat) : Int) := by
      rw [Int.natCast_dvd_natCast]; exact Nat.pow_dvd_pow 2 (by simp only [IntKind.bits]; omega)
    rw [Int.emod_emod_of_dvd _ hd]; norm_cast
  rw [← he]
  exact w64 (by omega) (by omega)
end Go.Proofs.Ytehfblkpbadikaa.M
