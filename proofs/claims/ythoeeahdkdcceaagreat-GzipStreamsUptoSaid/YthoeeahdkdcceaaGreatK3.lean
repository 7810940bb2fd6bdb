/- Plain mathematics of bits in bytes: the lowest bit of a byte first. No conditions but those that each names; no program in sight. (40 texts made one; each says below what it is.) -/
import Derived.Test.YthoeeahdkdcceaaGreatK2
import Derived.ChangeArms
import Derived.Test.YthoeeahdkdcceaaGreatRows
import Derived.Laws.StructEq
import Derived.Lib.AppendZeros
set_option linter.unusedVariables false
set_option linter.unusedSimpArgs false
set_option linter.unusedSectionVars false
namespace Go.Proofs.YthoeeahdkdcceaaGreat.M
open Go Sl
def val : List Bool -> Nat
 | [] => 0
 | b :: l => b.toNat + 2 * val l
theorem val_lt : ∀ l : List Bool, val l < 2 ^ l.length
 | [] => by simp [val]
 | b :: l => by have := val_lt l; cases b <;> simp [val, Nat.pow_succ] <;> omega
theorem val_append (m : List Bool) : ∀ l : List Bool, val (l ++ m) = val l + 2 ^ l.length * val m
 | [] => by simp [val]
 | b :: l => by
  simp only [List.cons_append, val, val_append m l, List.length_cons, Nat.pow_succ]
  rw [Nat.mul_add, Nat.mul_comm (2 ^ l.length) 2, Nat.mul_assoc]; omega
def byteAt (L : List Bool) (i : Nat) : Nat := val ((L.drop (8 * i)).take 8)
theorem byteAt_lt (L : List Bool) (i : Nat) : byteAt L i < 256 := by
 have h := val_lt ((L.drop (8 * i)).take 8)
 have hl : ((L.drop (8 * i)).take 8).length <= 8 := List.length_take_le _ _
 exact Nat.lt_of_lt_of_le h (Nat.pow_le_pow_right (by omega) hl)
def pkn (L : List Bool) (m : Nat) : List UInt8 := (List.range m).map fun i => UInt8.ofNat (byteAt L i)
def pk (L : List Bool) : List UInt8 := pkn L ((L.length + 7) / 8)
def pkx (L : List Bool) : List UInt8 := pkn L (L.length / 8 + 1)
theorem length_pk (L : List Bool) : (pk L).length = (L.length + 7) / 8 := by simp [pk, pkn]
theorem length_pkx (L : List Bool) : (pkx L).length = L.length / 8 + 1 := by simp [pkx, pkn]
theorem pkx0 {L : List Bool} (h : L.length % 8 = 0) : pkx L = pk L ++ [0] := by
 unfold pkx pk pkn
 rw [show (L.length + 7) / 8 = L.length / 8 by omega, List.range_succ, List.map_append]
 congr 1
 have : L.drop (8 * (L.length / 8)) = [] := List.drop_eq_nil_of_le (by omega)
 simp [byteAt, this, val]
theorem pkx1 {L : List Bool} (h : ¬ L.length % 8 = 0) : pkx L = pk L := by
 unfold pkx pk
 rw [show (L.length + 7) / 8 = L.length / 8 + 1 by omega]
theorem byteAt_snoc_lt {L : List Bool} {b : Bool} {i : Nat} (h : i < L.length / 8) : byteAt (L ++ [b]) i = byteAt L i := by
 unfold byteAt
 rw [List.drop_append_of_le_length (by omega), List.take_append_of_le_length (by simp; omega)]
theorem byteAt_snoc_eq {L : List Bool} {b : Bool} : byteAt (L ++ [b]) (L.length / 8) = byteAt L (L.length / 8) + 2 ^ (L.length % 8) * b.toNat := by
 unfold byteAt
 rw [List.drop_append_of_le_length (by omega), List.take_of_length_le (by simp; omega), List.take_of_length_le (by simp; omega), val_append]
 have : (L.drop (8 * (L.length / 8))).length = L.length % 8 := by simp; omega
 rw [this]; simp [val]
theorem byteAt_last (L : List Bool) : byteAt L (L.length / 8) < 2 ^ (L.length % 8) := by
 unfold byteAt
 refine Nat.lt_of_lt_of_le (val_lt _) (Nat.pow_le_pow_right (by omega) ?_)
 rw [List.length_take, List.length_drop]; omega
theorem pk_snoc_f (L : List Bool) : pk (L ++ [false]) = pkx L := by
 unfold pk pkx pkn
 simp only [List.length_append, List.length_singleton]
 rw [show (L.length + 1 + 7) / 8 = L.length / 8 + 1 by omega]
 refine List.map_congr_left fun i hi => ?_
 rw [List.mem_range] at hi
 by_cases h : i < L.length / 8
 ·rw [byteAt_snoc_lt h]
 ·rw [show i = L.length / 8 by omega, byteAt_snoc_eq]; simp
theorem pk_snoc_t (L : List Bool) : pk (L ++ [true]) = (pkx L).set (L.length / 8) (UInt8.ofNat (byteAt L (L.length / 8) + 2 ^ (L.length % 8))) := by
 apply List.ext_getElem?
 intro i
 unfold pk pkx pkn
 simp only [List.length_append, List.length_singleton]
 rw [show (L.length + 1 + 7) / 8 = L.length / 8 + 1 by omega, List.getElem?_set]
 simp only [List.length_map, List.length_range, List.getElem?_map]
 by_cases h : L.length / 8 = i
 ·subst h
  simp [byteAt_snoc_eq]
 ·rw [if_neg h]
  by_cases h2 : i < L.length / 8
  ·rw [List.getElem?_range (by omega)]; simp [byteAt_snoc_lt h2]
  ·rw [List.getElem?_eq_none (by simp; omega)]; rfl
theorem pkx_last (L : List Bool) : (pkx L)[L.length / 8]? = some (UInt8.ofNat (byteAt L (L.length / 8))) := by
 simp [pkx, pkn]
def bitsOf (n k : Nat) : List Bool := (List.range k).map n.testBit
theorem bitsOf_succ (n k : Nat) : bitsOf n (k + 1) = bitsOf n k ++ [n.testBit k] := by simp [bitsOf, List.range_succ]
theorem length_bitsOf (n k : Nat) : (bitsOf n k).length = k := by simp [bitsOf]

theorem wrap8 {n : Nat} (h : n < 256) : IntKind.u8.wrap (n : Int) = n := by
 simp only [IntKind.wrap, IntKind.bits, IntKind.signed]
 simp; omega
theorem wrapu64 {n : Nat} (h : n < 18446744073709551616) : IntKind.u64.wrap (n : Int) = n := by
 simp only [IntKind.wrap, IntKind.bits, IntKind.signed]
 simp; omega
theorem and1 {a : Nat} (h : a < 9223372036854775808) : bitOp .and .i64 (a : Int) 1 = ((a % 2 : Nat) : Int) := by
 unfold bitOp
 have h1 : (BitVec.ofInt IntKind.i64.bits (a : Int)).toNat = a := by
  rw [BitVec.ofInt_natCast, BitVec.toNat_ofNat]; exact Nat.mod_eq_of_lt (by simp only [IntKind.bits]; omega)
 have h2 : (BitVec.ofInt IntKind.i64.bits 1).toNat = 1 := by decide
 simp only [BitVec.toNat_and, h1, h2, Nat.and_one_is_mod]
 exact w64 (by omega) (by omega)
theorem or8 {a r : Nat} (hr : r < 8) (h : a < 2 ^ r) : bitOp .or .u8 (a : Int) ((2 ^ r : Nat) : Int) = ((a + 2 ^ r : Nat) : Int) := by
 have hp : 2 ^ r <= 128 := by
  have : 2 ^ r <= 2 ^ 7 := Nat.pow_le_pow_right (by omega) (by omega)
  simpa using this
 unfold bitOp
 have h1 : (BitVec.ofInt IntKind.u8.bits (a : Int)).toNat = a := by
  rw [BitVec.ofInt_natCast, BitVec.toNat_ofNat]; exact Nat.mod_eq_of_lt (by simp only [IntKind.bits]; omega)
 have h2 : (BitVec.ofInt IntKind.u8.bits ((2 ^ r : Nat) : Int)).toNat = 2 ^ r := by
  rw [BitVec.ofInt_natCast, BitVec.toNat_ofNat]; exact Nat.mod_eq_of_lt (by simp only [IntKind.bits]; omega)
 have h3 : a ||| 2 ^ r = a + 2 ^ r := by
  have := Nat.two_pow_add_eq_or_of_lt h 1
  rw [Nat.mul_one] at this
  rw [Nat.or_comm, <- this]; omega
 simp only [BitVec.toNat_or, h1, h2, h3]
 exact wrap8 (by omega)
theorem shr_nat {n k : Nat} (hk : k < 64) : ((n : Int).fdiv (2 ^ (min ((k : Int)).toNat IntKind.i64.bits))) = ((n / 2 ^ k : Nat) : Int) := by
 have : min ((k : Int)).toNat IntKind.i64.bits = k := by simp only [IntKind.bits, Int.toNat_natCast]; omega
 rw [this, Int.fdiv_eq_ediv_of_nonneg _ (Int.le_of_lt (Int.pow_pos (by decide)))]
 norm_cast
theorem testBit_mod (n k : Nat) : n / 2 ^ k % 2 = (n.testBit k).toNat := by
 rw [Nat.testBit_eq_decide_div_mod_eq]
 rcases Nat.mod_two_eq_zero_or_one (n / 2 ^ k) with h | h <;> simp [h]
theorem B_ofNat {x : Nat} (h : x < 256) : B (UInt8.ofNat x) = .int .u8 (x : Int) := by
 unfold B; rw [UInt8.toNat_ofNat']; rw [Nat.mod_eq_of_lt h]
theorem mask_at {r : Nat} (h : r < 8) : (#[.int .u8 1, .int .u8 2, .int .u8 4, .int .u8 8, .int .u8 16, .int .u8 32, .int .u8 64, .int .u8 128] : Array Value)[r]? = some (.int .u8 ((2 ^ r : Nat) : Int)) := by
 have : r = 0 \/ r = 1 \/ r = 2 \/ r = 3 \/ r = 4 \/ r = 5 \/ r = 6 \/ r = 7 := by omega
 rcases this with rfl | rfl | rfl | rfl | rfl | rfl | rfl | rfl <;> rfl

def bits8 (c : UInt8) : List Bool := bitsOf c.toNat 8
def ub (l : List UInt8) : List Bool := l.flatMap bits8
theorem length_bits8 (c : UInt8) : (bits8 c).length = 8 := length_bitsOf _ _
theorem length_ub : ∀ l : List UInt8, (ub l).length = 8 * l.length
 | [] => rfl
 | c :: l => by
  have := length_ub l
  unfold ub at *
  rw [List.flatMap_cons, List.length_append, this, length_bits8, List.length_cons]; omega
theorem val_bitsOf (n : Nat) : ∀ k, val (bitsOf n k) = n % 2 ^ k
 | 0 => by simp [bitsOf, val, Nat.mod_one]
 | k + 1 => by
  rw [bitsOf_succ, val_append, length_bitsOf, val_bitsOf n k, Nat.mod_pow_succ, testBit_mod]
  simp [val]
theorem val_bits8 (c : UInt8) : val (bits8 c) = c.toNat := by
 unfold bits8; rw [val_bitsOf]; exact Nat.mod_eq_of_lt c.toNat_lt
theorem byteAt_ub_lt {l : List UInt8} {i : Nat} (h : i < l.length) (m : List Bool) : byteAt (ub l ++ m) i = l[i].toNat := by
 unfold byteAt
 have e : ub l = ub (l.take i) ++ (bits8 l[i] ++ ub (l.drop (i + 1))) := by
  unfold ub
  rw [<- List.flatMap_cons, <- List.flatMap_append, <- List.drop_eq_getElem_cons h, List.take_append_drop]
 have hl : (ub (l.take i)).length = 8 * i := by rw [length_ub, List.length_take]; omega
 rw [e, List.append_assoc, List.append_assoc, <- hl, List.drop_left]
 have h8 := length_bits8 l[i]
 rw [show (8 : Nat) = (bits8 l[i]).length from h8.symm, List.take_left, val_bits8]
def padTo8 (L : List Bool) : List Bool := L ++ List.replicate ((8 - L.length % 8) % 8) false
theorem length_pad (L : List Bool) : (padTo8 L).length = 8 * ((L.length + 7) / 8) := by
 unfold padTo8; simp; omega
theorem val_false : ∀ n, val (List.replicate n false) = 0
 | 0 => rfl
 | n + 1 => by simp [List.replicate_succ, val, val_false n]
theorem byteAt_pad (L : List Bool) (n i : Nat) : byteAt (L ++ List.replicate n false) i = byteAt L i := by
 unfold byteAt
 rw [List.drop_append, List.take_append, val_append, List.drop_replicate, List.take_replicate, val_false]
 simp
theorem pk_pad (L : List Bool) : pk (padTo8 L) = pk L := by
 unfold pk
 rw [length_pad, show (8 * ((L.length + 7) / 8) + 7) / 8 = (L.length + 7) / 8 by omega]
 unfold pkn padTo8
 refine List.map_congr_left fun i _ => ?_
 rw [byteAt_pad]
theorem pk_append {L : List Bool} (h : L.length % 8 = 0) (l : List UInt8) : pk (L ++ ub l) = pk L ++ l := by
 unfold pk pkn
 rw [List.length_append, length_ub]
 rw [show (L.length + 8 * l.length + 7) / 8 = L.length / 8 + l.length by omega, show (L.length + 7) / 8 = L.length / 8 by omega]
 rw [List.range_add, List.map_append]
 congr 1
 ·refine List.map_congr_left fun i hi => ?_
  rw [List.mem_range] at hi
  unfold byteAt
  rw [List.drop_append_of_le_length (by omega), List.take_append_of_le_length (by simp; omega)]
 ·rw [List.map_map]
  apply List.ext_getElem
  ·simp
  ·intro i h1 h2
   simp only [List.getElem_map, List.getElem_range, Function.comp_apply]
   have : byteAt (L ++ ub l) (L.length / 8 + i) = byteAt (ub l) i := by
    unfold byteAt
    rw [List.drop_append, List.drop_eq_nil_of_le (by omega), List.nil_append]
    congr 3; omega
   have h3 := byteAt_ub_lt h2 []
   rw [List.append_nil] at h3
   rw [this, h3]; simp

def bitI (n : Int) (i : Nat) : Bool := decide (n / 2 ^ i % 2 = 1)
def bl (n : Int) (i : Nat) : List Bool := (List.range i).map (bitI n)
theorem bl_succ (n : Int) (i : Nat) : bl n (i + 1) = bl n i ++ [bitI n i] := by simp [bl, List.range_succ]
theorem length_bl (n : Int) (i : Nat) : (bl n i).length = i := by simp [bl]
def rv (n : Int) (i : Nat) : Nat := val (bl n i).reverse
theorem rv_succ (n : Int) (i : Nat) : rv n (i + 1) = 2 * rv n i + (bitI n i).toNat := by
 unfold rv; rw [bl_succ, List.reverse_append]; simp [val]; omega
theorem rv_lt (n : Int) (i : Nat) : rv n i < 2 ^ i := by
 have := val_lt (bl n i).reverse
 rwa [List.length_reverse, length_bl] at this
theorem bit_toNat (n : Int) (i : Nat) : ((bitI n i).toNat : Int) = n / 2 ^ i % 2 := by
 unfold bitI
 rcases Int.emod_two_eq (n / 2 ^ i) with h | h <;> simp [h]
theorem and1I (a : Int) : bitOp .and .i64 a 1 = a % 2 := by
 unfold bitOp
 have h2 : (BitVec.ofInt IntKind.i64.bits 1).toNat = 1 := by decide
 simp only [BitVec.toNat_and, h2, Nat.and_one_is_mod, BitVec.toNat_ofInt]
 rw [w64 (by omega) (by omega)]
 simp only [IntKind.bits]
 omega
theorem shrI {n : Int} {k : Nat} (hk : k < 64) : n.fdiv (2 ^ (min ((k : Int)).toNat IntKind.i64.bits)) = n / 2 ^ k := by
 have : min ((k : Int)).toNat IntKind.i64.bits = k := by simp only [IntKind.bits, Int.toNat_natCast]; omega
 rw [this, Int.fdiv_eq_ediv_of_nonneg _ (Int.le_of_lt (Int.pow_pos (by decide)))]
theorem or_two {a : Nat} {b : Bool} (h : a < 4294967296) : bitOp .or .i64 (((a * 2 : Nat)) : Int) (b.toNat : Int) = ((2 * a + b.toNat : Nat) : Int) := by
 have hb : b.toNat <= 1 := Bool.toNat_le b
 unfold bitOp
 have h1 : (BitVec.ofInt IntKind.i64.bits ((a * 2 : Nat) : Int)).toNat = a * 2 := by
  rw [BitVec.ofInt_natCast, BitVec.toNat_ofNat]; exact Nat.mod_eq_of_lt (by simp only [IntKind.bits]; omega)
 have h2 : (BitVec.ofInt IntKind.i64.bits (b.toNat : Int)).toNat = b.toNat := by
  rw [BitVec.ofInt_natCast, BitVec.toNat_ofNat]; exact Nat.mod_eq_of_lt (by simp only [IntKind.bits]; omega)
 have h3 : a * 2 ||| b.toNat = 2 * a + b.toNat := by
  have := Nat.two_pow_add_eq_or_of_lt (i := 1) (b := b.toNat) (by omega) a
  rw [Nat.pow_one] at this
  rw [Nat.mul_comm a 2, <- this]
 simp only [BitVec.toNat_or, h1, h2, h3]
 exact w64 (by omega) (by omega)
end Go.Proofs.YthoeeahdkdcceaaGreat.M
namespace Go.Proofs.YthoeeahdkdcceaaGreat.B
open Go Go.Proofs Sh Sl T M
theorem none_some {W : World} {p : Nat} {a b : Value} {m : Bool} : Cn p_ 70 [.pointer (some ⟨p, 0, none⟩)] W [pt p (.cells #[a, b, .bool m] 104)] (fun _ : Unit => .bool (!m)) (fun _ => [pt p (.cells #[a, b, .bool m] 104)]) := by
 (refine S.bits_Writer_none_s.cn fun F => ?_; unfold S.bits_Writer_none; simp only [ca_, na_])
 refine o_ v_eqNil1 ?_; refine e_gdT (e_gdT (o_ v_nil (e_gdT (o_ v_fa0 (e_gdT (ln_ ?_)))))); refine e_gdT (o_ v_not (o_ v_pickF ?_))
 (refine e_ret Unit.unit (by rfl) ?_; (repeat (first | exact .refl | exact .nil | (apply Imp.pick; (focus ((repeat constructor); done))) | refine .drop ?_)))
def IsW (p : Nat) (l : List Bool) : HP := ex fun q : Option Addr × Nat => all [pt p (.cells #[.slice q.1 (pk l).length q.2, .int .i64 (l.length : Int), .bool true] 104), Sl 1 5 q.1 q.2 (pk l).length ((pk l).map B), pu (l.length <= 8388608)]
def badP (n k : Int) : Prop := k < 0 \/ 32 < k \/ n < 0 \/ 2 ^ k.toNat <= n
instance (n k : Int) : Decidable (badP n k) := by unfold badP; infer_instance
def putR (l : List Bool) (n k : Int) : Int := if badP n k then 1 else if 8388608 - (l.length : Int) < k then 6 else 0
def putL (l : List Bool) (n k : Int) : List Bool := if putR l n k = 0 then l ++ bitsOf n.toNat k.toNat else l
theorem masks {W : World} : Cn p_ 71 [] W [] (fun _ : Unit => .agg #[.int .u8 1, .int .u8 2, .int .u8 4, .int .u8 8, .int .u8 16, .int .u8 32, .int .u8 64, .int .u8 128]) (fun _ => []) := by
 (refine S.bits_masks_s.cn fun F => ?_; unfold S.bits_masks; simp only [ca_, na_])
 refine e_newA fun g => ?_; refine o_ v_rv ?_; refine sg_ ?_; (((refine' e_stS (v_resA ?hn) ?hi ?_); (case hi => exact im_); (case hn => rfl)))
 (refine e_ret Unit.unit (by rfl) ?_; (repeat (first | exact .refl | exact .nil | (apply Imp.pick; (focus ((repeat constructor); done))) | refine .drop ?_)))
def IsWx (p : Nat) (l : List Bool) : HP := ex fun q : Option Addr × Nat => all [pt p (.cells #[.slice q.1 (pkx l).length q.2, .int .i64 (l.length : Int), .bool true] 104), Sl 1 5 q.1 q.2 (pkx l).length ((pkx l).map B)]
theorem put {W : World} {p : Nat} {l : List Bool} {n k : Int} : Cn p_ 51 [.pointer (some ⟨p, 0, none⟩), .int .i64 n, .int .i64 k] W [IsW p l] (fun _ : Unit => .int .i64 (putR l n k)) (fun _ => [IsW p (putL l n k)]) := by
 (refine S.bits_Writer_Put_s.cn fun F => ?_; unfold S.bits_Writer_Put; simp only [ca_, na_])
 refine e_ex Pick.here fun q => ?_
 obtain ⟨qa, qc⟩ := q
 refine e_all Pick.here ?_
 (try simp only [ca_, na_])
 refine e_pu (.there (.there .here)) fun hL => ?_
 refine e_cut1 (fun z => pt p (.cells #[.slice qa (pk l).length qc, .int .i64 (l.length : Int), .bool true] 104) :: Sl 1 5 qa qc (pk l).length ((pk l).map B) :: pu (z = .bool (decide (badP n k))) :: F) ?_ ?_
 ·intro ds z
  refine e_pu (.there (.there .here)) fun hz => ?_
  subst hz
  by_cases hb : badP n k
  ·rw [dT_ hb]
   refine e_condT ?_
   refine e_ret () (by simp [putR, hb]) ?_
   rw [show putL l n k = l by simp [putL, putR, hb]]
   refine Imp.ex (qa, qc) (.all ?_)
   (try simp only [ca_, na_])
   refine .pick .here (.pick .here (.pu hL .refl))
  ·rw [dF_ hb]
   refine e_condF ?_; refine e_opN v_nil .nil ?_; refine e_opN v_fa0 .nil ?_; (((refine' e_opN (v_ldN ?hc) ?hi ?_); (case hi => exact .pick (by repeat constructor) .nil); (case hc => repeat constructor))); (refine e_opN (v_sub (by omega) (by omega)) .nil ?_)
   refine e_ask v_gtr .nil (fun h => ?_) (fun h => ?_)
   ·(refine e_condT ?_)
    refine e_ret () (by simp [putR, hb, h]) ?_
    rw [show putL l n k = l by simp [putL, putR, hb, h]]
    refine Imp.ex (qa, qc) (.all ?_)
    (try simp only [ca_, na_])
    refine .pick .here (.pick .here (.pu hL .refl))
   ·(refine e_condF ?_)
    (refine' e_call (masks) ?hp fun _ => ?_; (case hp => (repeat (first | exact Picks.nil | (apply Picks.cons; (focus repeat constructor))))); (try simp only [ca_, na_, Bool.not_true, Bool.not_false]))
    refine e_newA fun g => ?_; (((refine' e_stAgg ?hp ?hn ?hv ?h1 ?_); (case hp => (repeat constructor)); (case hn => rfl); (case hv => rfl); (case h1 => simp [Value.oneCell'])))
    rename_i g
    have hR : putR l n k = 0 := by simp [putR, hb, h]
    have hb' : 0 <= k /\ k <= 32 /\ 0 <= n /\ n < 2 ^ k.toNat := by unfold badP at hb; omega
    have hPL : putL l n k = l ++ bitsOf n.toNat k.toNat := by simp [putL, hR]
    rw [hR, hPL]
    obtain ⟨h1, h2, h3, h4⟩ := hb'
    obtain ⟨K, rfl⟩ := Int.eq_ofNat_of_zero_le h1
    obtain ⟨N, rfl⟩ := Int.eq_ofNat_of_zero_le h3
    rw [Int.toNat_natCast] at h4
    rw [Int.toNat_natCast, Int.toNat_natCast]
    have hN : N < 4294967296 := by
     have : (2 : Int) ^ K = ((2 ^ K : Nat) : Int) := by norm_cast
     have h32 : 2 ^ K <= 2 ^ 32 := Nat.pow_le_pow_right (by omega) (by omega)
     omega
    clear hR hPL hb h4
    refine e_loop1 (fun m y => [ex fun i : Nat => all [pu (m + i = K /\ y = .int .i64 (i : Int)), pt g (.cells #[.int .u8 1, .int .u8 2, .int .u8 4, .int .u8 8, .int .u8 16, .int .u8 32, .int .u8 64, .int .u8 128] 115), IsW p (l ++ bitsOf N i)]] ++ F) K ?_ ?_
    ·refine Imp.ex 0 (.all ?_)
     (try simp only [ca_, na_])
     refine .pu ⟨by omega, rfl⟩ (.pick .here (.ex (qa, qc) (.all ?_)))
     (try simp only [ca_, na_])
     rw [show l ++ bitsOf N 0 = l by simp [bitsOf]]
     exact .pick .here (.pick .here (.pu hL .refl))
    ·intro m ds y
     (try simp only [ca_, na_])
     refine e_ex Pick.here fun i => e_all Pick.here ?_
     (try simp only [ca_, na_])
     refine e_pu Pick.here fun hi => ?_
     obtain ⟨hm, rfl⟩ := hi
     obtain ⟨L, hLe⟩ : ∃ L, L = l ++ bitsOf N i := ⟨_, rfl⟩
     have hLl : L.length = l.length + i := by rw [hLe, List.length_append, length_bitsOf]
     rw [<- hLe]
     refine e_ask v_lss .nil (fun h => ?_) (fun h => ?_)
     ·have hik : i < K := by omega
      refine e_condT ?_
      refine e_cut0 ([pt g (.cells #[.int .u8 1, .int .u8 2, .int .u8 4, .int .u8 8, .int .u8 16, .int .u8 32, .int .u8 64, .int .u8 128] 115), IsWx p L] ++ F) ?_ ?_
      ·intro ds2
       (try simp only [ca_, na_])
       refine e_ex (.there .here) fun q2 => ?_
       obtain ⟨xa, xc⟩ := q2
       refine e_all Pick.here ?_
       (try simp only [ca_, na_])
       refine e_cut0 ([pt g (.cells #[.int .u8 1, .int .u8 2, .int .u8 4, .int .u8 8, .int .u8 16, .int .u8 32, .int .u8 64, .int .u8 128] 115), pt p (.cells #[.slice xa (pkx L).length xc, .int .i64 (L.length : Int), .bool true] 104), Sl 1 5 xa xc (pkx L).length ((pk (L ++ [N.testBit i])).map B)] ++ F) ?_ ?_
       ·intro ds3
        (try simp only [ca_, na_])
        refine e_opN v_nil .nil ?_; refine e_opN v_fa0 .nil ?_; (((refine' e_opN (v_ldN ?hc) ?hi ?_); (case hi => exact .pick (by repeat constructor) .nil); (case hc => repeat constructor))); (refine e_opN (v_add (by omega) (by omega)) .nil ?_); refine e_opN v_nil .nil ?_; refine e_opN v_fa0 .nil ?_; (((refine' e_stN ?hp ?ho ?_); (case hp => (repeat constructor)); (case ho => repeat constructor))); (refine e_opN (v_add (by omega) (by omega)) .nil ?_)
        refine e_next1 (m - 1) (by omega) (.ex (i + 1) (.all ?_))
        (try simp only [ca_, na_])
        refine .pu ⟨by omega, by norm_cast⟩ (.pick (.there .here) (.ex (xa, xc) (.all ?_)))
        (try simp only [ca_, na_])
        have e1 : l ++ bitsOf N (i + 1) = L ++ [N.testBit i] := by rw [hLe, bitsOf_succ, List.append_assoc]
        have e2 : (pk (L ++ [N.testBit i])).length = (pkx L).length := by rw [length_pk, length_pkx]; simp; omega
        rw [e1, e2]
        have e3 : ((L ++ [N.testBit i]).length : Int) = (L.length : Int) + 1 := by simp
        rw [e3]
        exact .pick .here (.pick (.here) (.pu (by simp; omega) .refl))
       ·refine e_opN v_conv .nil ?_
        rw [wrapu64 (by omega)]
        refine e_opN (v_shr (by omega)) .nil ?_
        rw [shr_nat (by omega)]
        refine e_opN v_and .nil ?_
        have hdiv : N / 2 ^ i <= N := Nat.div_le_self _ _
        rw [and1 (by omega), testBit_mod]
        refine e_ask v_eql .nil (fun h => ?_) (fun h => ?_)
        ·have hbit : N.testBit i = true := by
          cases hh : N.testBit i with
          | true => rfl
          | false => rw [hh] at h; simp at h
         have hpx := length_pkx L
         refine e_slsome (.there .here) (by omega) fun g1 hg1 => ?_
         subst hg1
         refine e_condT ?_; refine e_drS ?_; refine e_stS v_nil .nil ?_; refine e_stS v_fa0 .nil ?_; (((refine' e_stS (v_ldN ?hc) ?hi ?_); (case hi => exact .pick (by repeat constructor) .nil); (case hc => repeat constructor))); refine e_stS v_nil .nil ?_; refine e_stS v_fa0 .nil ?_; (((refine' e_stS (v_ldN ?hc) ?hi ?_); (case hi => exact .pick (by repeat constructor) .nil); (case hc => repeat constructor))); (((refine e_stS (v_quo ?h1 ?h2 ?h3) .nil ?_); (case h1 => omega); (case h2 => omega); (case h3 => omega)))
         refine e_stS (v_ia1 (L.length / 8) (by norm_cast) (by omega)) .nil ?_
         refine e_stS (v_ldSl (v := B (UInt8.ofNat (byteAt L (L.length / 8)))) (by rw [Nat.zero_add, List.getElem?_map, pkx_last]; rfl)) (.pick (.there .here) .nil) ?_
         refine e_stS v_nil .nil ?_; refine e_stS v_fa0 .nil ?_; (((refine' e_stS (v_ldN ?hc) ?hi ?_); (case hi => exact .pick (by repeat constructor) .nil); (case hc => repeat constructor))); (((refine e_stS (v_rem ?h1 ?h2) .nil ?_); (case h1 => omega); (case h2 => omega)))
         refine e_stS (v_iaA (L.length % 8) (by norm_cast) (by omega)) .nil ?_
         refine e_stS (v_ld (by rw [Nat.zero_add, Nat.mul_one]; exact mask_at (by omega))) (.pick (.there (.there .here)) .nil) ?_
         rw [B_ofNat (byteAt_lt _ _)]
         refine e_stS v_or .nil ?_
         rw [or8 (by omega) (byteAt_last L)]
         refine e_stS (v_ia1 (L.length / 8) (by norm_cast) (by omega)) .nil ?_
         refine e_stSl (.there .here) (by simp; omega) ?_
         refine e_sat ?_
         have e4 : byteAt L (L.length / 8) + 2 ^ (L.length % 8) < 256 := by
          have := byteAt_lt (L ++ [true]) (L.length / 8)
          rw [byteAt_snoc_eq] at this; simpa using this
         rw [hbit, pk_snoc_t, Nat.zero_add, List.map_set, B_ofNat e4]
         (try simp only [ca_, na_])
         (repeat (first | exact .refl | exact .nil | (apply Imp.pick; (focus ((repeat constructor); done))) | refine .drop ?_))
        ·have hbit : N.testBit i = false := by
          cases hh : N.testBit i with
          | false => rfl
          | true => rw [hh] at h; simp at h
         refine e_condF ?_
         refine e_sat ?_
         rw [hbit, pk_snoc_f]
         (try simp only [ca_, na_])
         (repeat (first | exact .refl | exact .nil | (apply Imp.pick; (focus ((repeat constructor); done))) | refine .drop ?_))
      ·refine e_ex (.there .here) fun q2 => ?_
       obtain ⟨xa, xc⟩ := q2
       refine e_all Pick.here ?_
       (try simp only [ca_, na_])
       refine e_pu (.there (.there .here)) fun hL2 => ?_
       refine e_opN v_nil .nil ?_; refine e_opN v_fa0 .nil ?_; (((refine' e_opN (v_ldN ?hc) ?hi ?_); (case hi => exact .pick (by repeat constructor) .nil); (case hc => repeat constructor))); (((refine e_opN (v_rem ?h1 ?h2) .nil ?_); (case h1 => omega); (case h2 => omega)))
       have hpk := length_pk L
       refine e_ask v_eql .nil (fun h => ?_) (fun h => ?_)
       ·(refine e_condT ?_); refine e_opN v_nil .nil ?_; refine e_opN v_fa0 .nil ?_; (((refine' e_opN (v_ldN ?hc) ?hi ?_); (case hi => exact .pick (by repeat constructor) .nil); (case hc => repeat constructor))); refine e_bsl1 fun g => ?_
        refine e_app (m := 1) (news := [B 0]) (.there (.there .here)) (src_pt (e' := 5) (by kernel_rfl) .here (by rfl) (B_one (l := [0]))) (by omega) (by omega) fun a' c' => ?_
        refine e_opN v_nil .nil ?_; refine e_opN v_fa0 .nil ?_; (((refine' e_stN ?hp ?ho ?_); (case hp => (repeat constructor)); (case ho => repeat constructor)))
        refine e_sat ?_
        (try simp only [ca_, na_])
        refine .pick (.there (.there (.there .here))) (.ex (a', c') (.all ?_))
        (try simp only [ca_, na_])
        have h8 : L.length % 8 = 0 := by omega
        rw [pkx0 h8]
        simp only [List.length_append, List.length_singleton, List.map_append, List.map_cons, List.map_nil]
        (repeat (first | exact .refl | exact .nil | (apply Imp.pick; (focus ((repeat constructor); done))) | refine .drop ?_))
       ·(refine e_condF ?_)
        refine e_sat ?_
        (try simp only [ca_, na_])
        refine .pick (.there (.there .here)) (.ex (xa, xc) (.all ?_))
        (try simp only [ca_, na_])
        rw [pkx1 (by omega)]
        (repeat (first | exact .refl | exact .nil | (apply Imp.pick; (focus ((repeat constructor); done))) | refine .drop ?_))
     ·have : i = K := by omega
      subst this
      refine e_condF ?_
      refine e_retT () ?_
      rw [<- hLe]
      exact .pick (.there .here) (.drop .refl)
 ·(refine' e_call (none_some) ?hp fun _ => ?_; (case hp => (repeat (first | exact Picks.nil | (apply Picks.cons; (focus repeat constructor))))); (try simp only [ca_, na_, Bool.not_true, Bool.not_false]))
  refine e_condF ?_
  have fin : ∀ z : Value, z = .bool (decide (badP n k)) -> Ent W (pt p (.cells #[.slice qa (pk l).length qc, .int .i64 (l.length : Int), .bool true] 104) :: Sl 1 5 qa qc (pk l).length ((pk l).map B) :: F) (fun w => sat W (pt p (.cells #[.slice qa (pk l).length qc, .int .i64 (l.length : Int), .bool true] 104) :: Sl 1 5 qa qc (pk l).length ((pk l).map B) :: pu (z = .bool (decide (badP n k))) :: F) w) := fun z hz => e_sat (.pick .here (.pick .here (.pu hz .refl)))
  refine e_ask v_lss .nil (fun h => ?_) (fun h => ?_)
  ·(refine e_condT ?_)
   exact fin _ (by rw [dT_ (show badP n k from .inl h)])
  ·(refine e_condF ?_)
   refine e_ask v_gtr .nil (fun h => ?_) (fun h => ?_)
   ·(refine e_condT ?_)
    exact fin _ (by rw [dT_ (show badP n k from .inr (.inl ‹_›))])
   ·(refine e_condF ?_)
    refine e_ask v_lss .nil (fun h => ?_) (fun h => ?_)
    ·(refine e_condT ?_)
     exact fin _ (by rw [dT_ (show badP n k from .inr (.inr (.inl ‹_›)))])
    ·(refine e_condF ?_)
     refine e_opN v_min .nil ?_
     rw [if_neg (by omega)]
     refine e_opN v_max .nil ?_
     rw [show (if (0 : Int) < k then k else 0) = k by split <;> omega]
     obtain ⟨K, rfl⟩ := Int.eq_ofNat_of_zero_le (show 0 <= k by omega)
     refine e_opN v_conv .nil ?_
     rw [wrapu64 (by omega)]
     refine e_opN (v_shl (by omega)) .nil ?_
     have hm : min ((K : Int)).toNat IntKind.i64.bits = K := by simp only [IntKind.bits, Int.toNat_natCast]; omega
     have h32 : 2 ^ K <= 2 ^ 32 := Nat.pow_le_pow_right (by omega) (by omega)
     have hc : (2 : Int) ^ K = ((2 ^ K : Nat) : Int) := by norm_cast
     obtain ⟨E, hE⟩ : ∃ E, E = 2 ^ K := ⟨_, rfl⟩
     rw [<- hE] at hc h32
     rw [hm, Int.one_mul, hc, w64 (by omega) (by omega)]
     refine e_opN v_geq .nil ?_
     refine fin _ ?_
     have : ((E : Int) <= n) ↔ badP n K := by
      unfold badP
      rw [Int.toNat_natCast, hc]
      constructor
      ·exact fun h => .inr (.inr (.inr h))
      ·rintro (h | h | h | h)
       ·omega
       ·omega
       ·omega
       ·exact h
     rw [decide_eq_decide.2 this]
theorem newWriter {W : World} : Cn p_ 48 [] W [] (fun p : Nat => .pointer (some ⟨p, 0, none⟩)) (fun p => [IsW p []]) := by
 (refine S.bits_NewWriter_s.cn fun F => ?_; unfold S.bits_NewWriter; simp only [ca_, na_])
 refine o_ v_rv ?_; refine e_boxA fun g => ?_
 refine e_ret g rfl ?_
 refine .ex (none, 0) (.all ?_)
 refine nr_ ?_
 refine .pick .here ?_
 rw [show (pk []).length = 0 from rfl, show List.map B (pk []) = [] from rfl]
 exact imp_nil (.pu (by simp) .refl)
theorem bits {W : World} {p : Nat} {l : List Bool} : Cn p_ 69 [.pointer (some ⟨p, 0, none⟩)] W [IsW p l] (fun _ : Unit => .int .i64 (l.length : Int)) (fun _ => [IsW p l]) := by
 (refine S.bits_Writer_Bits_s.cn fun F => ?_; unfold S.bits_Writer_Bits; simp only [ca_, na_])
 refine e_ex Pick.here fun q => ?_
 obtain ⟨qa, qc⟩ := q
 refine e_all Pick.here ?_
 refine nr_ ?_
 refine e_pu (.there (.there .here)) fun hL => ?_
 refine c_ none_some fun _ => ?_
 refine e_condF (o_ v_nil (o_ v_fa0 (ln_ ?_)))
 refine e_ret () rfl ?_
 refine .ex (qa, qc) (.all ?_)
 refine nr_ ?_
 exact .pick .here (.pick .here (.pu hL .refl))
theorem align0 {W : World} {p n qc : Nat} {qa : Option Addr} {m : Int} (hn : n <= 4611686018427387904 / 8) : Cn p_ 72 [.pointer (some ⟨p, 0, none⟩)] W [pt p (.cells #[.slice qa n qc, .int .i64 m, .bool true] 104)] (fun _ : Unit => .tuple #[]) (fun _ => [pt p (.cells #[.slice qa n qc, .int .i64 (8 * (n : Int)), .bool true] 104)]) := by
 (refine S.bits_Writer_Align_s.cn fun F => ?_; unfold S.bits_Writer_Align; simp only [ca_, na_])
 refine c_ none_some fun _ => ?_
 refine o_ v_notF (e_condT (o_ v_nil (o_ v_fa0 (ln_ ?_)))); refine o_ v_len ?_; (refine o_ (v_mul (by omega) (by omega)) ?_); refine o_ v_nil (o_ v_fa0 (sn_ ?_))
 refine e_retT () ?_
 exact .pick .here .refl
theorem align {W : World} {p : Nat} {l : List Bool} : Cn p_ 72 [.pointer (some ⟨p, 0, none⟩)] W [IsW p l] (fun _ : Unit => .tuple #[]) (fun _ => [IsW p (padTo8 l)]) := by
 (refine S.bits_Writer_Align_s.cn fun F => ?_; unfold S.bits_Writer_Align; simp only [ca_, na_])
 refine e_ex Pick.here fun q => ?_
 obtain ⟨qa, qc⟩ := q
 refine e_all Pick.here ?_
 refine nr_ ?_
 refine e_pu (.there (.there .here)) fun hL => ?_
 have hpk := length_pk l
 refine c_ none_some fun _ => ?_
 refine o_ v_notF (e_condT (o_ v_nil (o_ v_fa0 (ln_ ?_)))); refine o_ v_len ?_; (refine o_ (v_mul (by omega) (by omega)) ?_); refine o_ v_nil (o_ v_fa0 (sn_ ?_))
 refine e_retT () ?_
 refine .ex (qa, qc) (.all ?_)
 refine nr_ ?_
 rw [pk_pad, show ((padTo8 l).length : Int) = 8 * ((pk l).length : Int) by rw [length_pad, hpk]; norm_cast]
 exact .pick .here (.pick .here (.pu (by rw [length_pad]; omega) .refl))
theorem bytes {W : World} {p : Nat} {l : List Bool} : Cn p_ 53 [.pointer (some ⟨p, 0, none⟩)] W [IsW p l] (fun q : Option Addr × Nat => .slice q.1 (pk l).length q.2) (fun q => [Sl 1 5 q.1 q.2 (pk l).length ((pk l).map B), IsW p l]) := by
 (refine S.bits_Writer_Bytes_s.cn fun F => ?_; unfold S.bits_Writer_Bytes; simp only [ca_, na_])
 refine e_ex Pick.here fun q => ?_
 obtain ⟨qa, qc⟩ := q
 refine e_all Pick.here ?_
 refine nr_ ?_
 refine e_pu (.there (.there .here)) fun hL => ?_
 have hpk := length_pk l
 refine c_ none_some fun _ => ?_
 refine e_condF (o_ v_nil (o_ v_fa0 (ln_ ?_)))
 refine e_nil (s := 1) (e := 5) ?_
 refine e_app (m := (pk l).length) (news := (pk l).map B) .here (src_sl (e' := 5) (by kernel_rfl) (.there (.there .here)) B_one) (by omega) (by omega) fun a' c' => ?_
 rw [Nat.zero_add, List.nil_append]
 refine e_ret (a', c') rfl ?_
 refine .pick .here (.ex (qa, qc) (.all ?_))
 refine nr_ ?_
 exact .pick .here (.pick .here (.pu hL .refl))
def rawR (l : List Bool) (b : List UInt8) : Int := if 1048576 < (pk l).length + b.length then 6 else 0
def rawL (l : List Bool) (b : List UInt8) : List Bool := if rawR l b = 0 then padTo8 l ++ ub b else l
theorem raw {W : World} {p : Nat} {l : List Bool} {a : Option Addr} {cap : Nat} {b : List UInt8} {A : HP} (hr : RdB W A a b.length (b.map B)) (ha : a = none -> b.length = 0) (hb : b.length <= 4611686018427387904) :
  Cn p_ 73 [.pointer (some ⟨p, 0, none⟩), .slice a b.length cap] W [IsW p l, A] (fun _ : Unit => .int .i64 (rawR l b)) (fun _ => [IsW p (rawL l b), A]) := by
 (refine S.bits_Writer_Raw_s.cn fun F => ?_; unfold S.bits_Writer_Raw; simp only [ca_, na_])
 refine e_ex Pick.here fun q => ?_
 obtain ⟨qa, qc⟩ := q
 refine e_all Pick.here ?_
 (try simp only [ca_, na_])
 refine e_pu (.there (.there .here)) fun hL => ?_
 have hpk := length_pk l
 (refine' e_call (none_some) ?hp fun _ => ?_; (case hp => (repeat (first | exact Picks.nil | (apply Picks.cons; (focus repeat constructor))))); (try simp only [ca_, na_, Bool.not_true, Bool.not_false]))
 refine e_condF ?_; refine e_opN v_len .nil ?_; refine e_opN v_nil .nil ?_; refine e_opN v_fa0 .nil ?_; (((refine' e_opN (v_ldN ?hc) ?hi ?_); (case hi => exact .pick (by repeat constructor) .nil); (case hc => repeat constructor))); refine e_opN v_len .nil ?_; (refine e_opN (v_sub (by omega) (by omega)) .nil ?_)
 refine e_ask v_gtr .nil (fun h => ?_) (fun h => ?_)
 ·(refine e_condT ?_)
  have hR : rawR l b = 6 := by unfold rawR; rw [if_pos (by omega)]
  rw [hR]
  refine e_ret () rfl ?_
  rw [show rawL l b = l by simp [rawL, hR]]
  refine .ex (qa, qc) (.all ?_)
  (try simp only [ca_, na_])
  exact .pick .here (.pick .here (.pu hL .refl))
 ·have hR : rawR l b = 0 := by unfold rawR; rw [if_neg (by omega)]
  rw [hR, show rawL l b = padTo8 l ++ ub b by simp [rawL, hR]]
  refine e_condF ?_; refine e_opN v_nil .nil ?_; refine e_opN v_fa0 .nil ?_; (((refine' e_opN (v_ldN ?hc) ?hi ?_); (case hi => exact .pick (by repeat constructor) .nil); (case hc => repeat constructor)))
  refine e_app (m := b.length) (news := b.map B) (.there .here) (src_rd (A := A) (e' := 5) (by kernel_rfl) (.there (.there .here)) hr ha B_one) (by omega) (by omega) fun a' c' => ?_
  refine e_opN v_nil .nil ?_; refine e_opN v_fa0 .nil ?_; (((refine' e_stN ?hp ?ho ?_); (case hp => (repeat constructor)); (case ho => repeat constructor)))
  (refine' e_call (align0 (n := (pk l).length + b.length) (by omega)) ?hp fun _ => ?_; (case hp => (repeat (first | exact Picks.nil | (apply Picks.cons; (focus repeat constructor))))); (try simp only [ca_, na_, Bool.not_true, Bool.not_false]))
  refine e_retT () ?_
  refine .ex (a', c') (.all ?_)
  (try simp only [ca_, na_])
  have hp8 : (padTo8 l).length % 8 = 0 := by rw [length_pad]; omega
  have hlen : (padTo8 l ++ ub b).length = 8 * ((pk l).length + b.length) := by rw [List.length_append, length_pad, length_ub]; omega
  rw [pk_append hp8, pk_pad, hlen, List.length_append, List.map_append, show ((8 * ((pk l).length + b.length) : Nat) : Int) = 8 * (((pk l).length + b.length : Nat) : Int) by norm_cast]
  exact .pick .here (.pick .here (.pu (by omega) (.pick .here .refl)))
def lim (k : Int) : Nat := (if 32 < k then 32 else k).toNat
theorem lim_le (k : Int) : lim k <= 32 := by unfold lim; split <;> omega
theorem lim_eq (k : Int) : (if (0 : Int) < (if (32 : Int) < k then 32 else k) then (if (32 : Int) < k then 32 else k) else 0) = (lim k : Int) := by
 unfold lim; repeat' split <;> omega
theorem reverse {W : World} {n k : Int} : Cn p_ 136 [.int .i64 n, .int .i64 k] W [] (fun _ : Unit => .int .i64 (rv n (lim k) : Int)) (fun _ => []) := by
 (refine S.bits_Reverse_s.cn fun F => ?_; unfold S.bits_Reverse; simp only [ca_, na_])
 have hK := lim_le k
 refine o_ v_min (o_ v_max ?_)
 rw [lim_eq]
 obtain ⟨K, hKe⟩ : ∃ K, K = lim k := ⟨_, rfl⟩
 rw [<- hKe] at hK
 rw [<- hKe]
 refine e_loop2 (fun m x y => [ex fun i : Nat => pu (m + i = K /\ y = .int .i64 (i : Int) /\ x = .int .i64 (rv n i : Int))] ++ F) K ?_ ?_
 ·exact Imp.ex 0 (.pu ⟨by omega, rfl, rfl⟩ .refl)
 ·intro m ds x y
  refine nr_ ?_
  refine e_ex Pick.here fun i => e_pu Pick.here fun hi => ?_
  obtain ⟨hm, rfl, rfl⟩ := hi
  refine e_ask v_lss .nil (fun h => ?_) (fun h => ?_)
  ·have hik : i < K := by omega
   have hr := rv_lt n i
   have hp : 2 ^ i <= 2 ^ 31 := Nat.pow_le_pow_right (by omega) (by omega)
   refine e_condT (o_ (v_shl (by omega)) ?_)
   rw [show (rv n i : Int) * 2 ^ (min ((1 : Int)).toNat IntKind.i64.bits) = ((rv n i * 2 : Nat) : Int) by norm_cast, w64 (by omega) (by omega)]
   refine o_ v_conv ?_
   rw [wrapu64 (by omega)]
   refine o_ (v_shr (by omega)) ?_
   rw [shrI (by omega)]
   refine o_ v_and ?_
   rw [and1I, <- bit_toNat]
   refine o_ v_or ?_
   rw [or_two (by omega), <- rv_succ]
   refine ad_ ?_
   exact e_next2 (m - 1) (by omega) (.ex (i + 1) (.pu (by refine ⟨by omega, ?_⟩; first | trivial | norm_cast) .refl))
  ·have : i = K := by omega
   subst this
   refine e_condF (rt_ () ?_)
   exact .refl
theorem reverseRef {W : World} {n k : Int} : Cn p_ 145 [.int .i64 n, .int .i64 k] W [] (fun _ : Unit => .int .i64 (rv n (lim k) : Int)) (fun _ => []) := by
 (refine S.ref02_Reverse_s.cn fun F => ?_; unfold S.ref02_Reverse; simp only [ca_, na_])
 have hK := lim_le k
 refine o_ v_min (o_ v_max ?_)
 rw [lim_eq]
 obtain ⟨K, hKe⟩ : ∃ K, K = lim k := ⟨_, rfl⟩
 rw [<- hKe] at hK
 rw [<- hKe]
 refine e_loop2 (fun m x y => [ex fun i : Nat => pu (m + i = K /\ y = .int .i64 (i : Int) /\ x = .int .i64 (rv n i : Int))] ++ F) K ?_ ?_
 ·exact Imp.ex 0 (.pu ⟨by omega, rfl, rfl⟩ .refl)
 ·intro m ds x y
  refine nr_ ?_
  refine e_ex Pick.here fun i => e_pu Pick.here fun hi => ?_
  obtain ⟨hm, rfl, rfl⟩ := hi
  refine e_ask v_lss .nil (fun h => ?_) (fun h => ?_)
  ·have hik : i < K := by omega
   have hr := rv_lt n i
   have hp : 2 ^ i <= 2 ^ 31 := Nat.pow_le_pow_right (by omega) (by omega)
   refine e_condT (o_ (v_mul (by omega) (by omega)) ?_)
   refine o_ v_conv ?_
   rw [wrapu64 (by omega)]
   refine o_ (v_shr (by omega)) ?_
   rw [shrI (by omega)]
   refine o_ v_and ?_
   rw [and1I, <- bit_toNat]
   have hb := Bool.toNat_le (bitI n i)
   refine ad_ ?_
   rw [show 2 * (rv n i : Int) + ((bitI n i).toNat : Int) = (rv n (i + 1) : Int) by rw [rv_succ]; norm_cast]
   refine ad_ ?_
   exact e_next2 (m - 1) (by omega) (.ex (i + 1) (.pu (by refine ⟨by omega, ?_⟩; first | trivial | norm_cast) .refl))
  ·have : i = K := by omega
   subst this
   refine e_condF (rt_ () ?_)
   exact .refl
end Go.Proofs.YthoeeahdkdcceaaGreat.B
namespace Go.Proofs.YthoeeahdkdcceaaGreat.Sl
open Go Sh
variable {P : Program} {W : World} {L L' : List HP} {Kp : PK} {k : Value -> WP}
theorem fill_run : ∀ (vs pre zs : List Value), zs.length = vs.length -> (∀ v ∈ vs, v.cells = #[v]) ->
  Instr.fill (fun i => some (i * 1, 1)) (pre ++ zs).toArray ((vs.zipIdx pre.length).map fun x => (x.2, x.1)) = some (pre ++ vs).toArray
 | [], pre, zs, hz, _ => by
  have : zs = [] := List.eq_nil_of_length_eq_zero (by simpa using hz)
  subst this; simp [Instr.fill]
 | v :: vs, pre, [], hz, _ => by simp at hz
 | v :: vs, pre, z :: zs, hz, ho => by
  have hv := ho v (by simp)
  have ih := fill_run vs (pre ++ [v]) zs (by simpa using hz) (fun u hu => ho u (by simp [hu]))
  simp only [List.zipIdx_cons, List.map_cons, Instr.fill, hv]
  rw [if_neg (by simp)]
  have h2 : Array.foldl (fun cs (x : Value × Nat) => cs.setIfInBounds (pre.length * 1 + x.2) x.1) (pre ++ z :: zs).toArray (#[v] : Array Value).zipIdx = (pre ++ [v] ++ zs).toArray := by
   simp
  have h3 : (pre ++ [v]).length = pre.length + 1 := by simp
  rw [h3] at ih
  rw [h2, ih]; simp
theorem e_bslN {t e : TypeId} {b n : Nat} {parts : List (Nat × Value)} {vs : List Value} [ht : SlT P t e 1 b] (hn : vs.length = n) (hp : parts = vs.zipIdx.map fun x => (x.2, x.1)) (ho : ∀ v ∈ vs, v.cells = #[v]) (hm : n <= 16777216)
  (h : ∀ g, Ent W (pt g (.cells vs.toArray e) :: L) (k (.slice (some ⟨g, 0, none⟩) n n))) : Ent W L (opN P (sBuildSl t n parts) Kp k) := fun w hw => by
 refine ⟨?_⟩
 obtain ⟨i, z, hi, hz, hs, hb, hzs⟩ := ht.info
 have : (sBuildSl t n parts).run P w = .ok (.value (.slice (some ⟨w.heap.size, 0, none⟩) n n)) (w.alloc (.cells vs.toArray e)) := by
  have hm' : ¬ (2 ^ 24 < n) := by omega
  have hf : ∀ zs : List Value, zs.length = vs.length -> Instr.fill (fun i => some (i * 1, 1)) zs.toArray parts = some vs.toArray := fun zs hz => by
   have := fill_run vs [] zs hz ho
   simpa [hp] using this
  by_cases h0 : n = 0
  ·have : vs = [] := List.eq_nil_of_length_eq_zero (by omega)
   subst this; subst h0
   simp [sBuildSl, Instr.buildSlice, run_underlying ht.ut, sizeOf_run hi, hs, hp, newRow, Instr.fill]
   have e0 : (Array.range 0).map (fun _ => (default : Value)) = #[] := Array.eq_empty_of_size_eq_zero (by simp)
   rw [e0]
  ·have hf' := hf ((List.range n).map fun j => z.cells[j % z.cells.size]!) (by simp [hn])
   have e1 : ((Array.range n).map fun j => z.cells[j % z.cells.size]!) = ((List.range n).map fun j => z.cells[j % z.cells.size]!).toArray := by
    apply Array.ext'
    simp [Array.toList_range]
   rw [<- e1] at hf'
   simp only [Nat.mul_one] at hf'
   simp [sBuildSl, Instr.buildSlice, run_underlying ht.ut, sizeOf_run hi, hs, h0, hm', zeroValue, typeInfo, hi, hz, newRow, hf']
 rw [this]
 exact h _ _ (hw.alloc _)
theorem e_mksl {t e : TypeId} {b : Nat} {z : Value} {q r : IntKind} {l c : Int} (n m : Nat) [ht : SlT P t e 1 b] [hz : ZeroT P e z] [hc : OC z] (hl : l = (n : Int)) (hcm : c = (m : Int)) (h1 : n <= m) (h2 : b * m <= 281474976710656) (h3 : m <= maxLen)
  (h : ∀ g, Ent W (Sl 1 e (some ⟨g, 0, none⟩) m n (List.replicate n z) :: L) (k (.slice (some ⟨g, 0, none⟩) n m))) : Ent W L (opN P (sMkSl t (.int q l) (.int r c)) Kp k) := fun w hw => by
 refine ⟨?_⟩
 obtain ⟨i, z', hi, hz', hs, hb, hzs⟩ := ht.info
 have e0 : z' = z := by
  have := hz.run w
  simp [zeroValue, typeInfo, hi, hz'] at this
  exact this
 subst e0
 subst hl; subst hcm
 have hcz : z'.cells = #[z'] := cells_one hc.one
 have hbm : (i.bytes : Int) * (m : Int) <= 281474976710656 := by
  rw [hb]
  obtain ⟨X, hX⟩ : ∃ X, X = b * m := ⟨_, rfl⟩
  have h4 : (X : Int) <= 281474976710656 := by omega
  rw [hX, Int.natCast_mul] at h4
  exact h4
 have hr := run_make (P := P) (w := w) t e i z' ht.ut hi hz' q r n m (by omega) (by omega) hbm (by unfold maxLen at h3; omega)
 simp only [Int.toNat_natCast, hs, Nat.mul_one] at hr
 have e1 : madeCells z'.cells m = (List.replicate n z' ++ List.replicate (m - n) z').toArray := by
  rw [hcz, List.replicate_append_replicate]
  apply Array.ext'
  simp [madeCells, Array.toList_range, Nat.mod_one]
  rw [show n + (m - n) = m by omega]
  apply List.ext_getElem <;> simp
 have : (sMkSl t (.int q n) (.int r m)).run P w = .ok (.value (.slice (some ⟨w.heap.size, 0, none⟩) n m)) (w.alloc (.cells (List.replicate n z' ++ List.replicate (m - n) z').toArray e)) := by
  simp [sMkSl, hr, e1]
 rw [this]
 refine h _ _ ?_
 have := hw.alloc (.cells (List.replicate n z' ++ List.replicate (m - n) z').toArray e)
 refine Imp.sat (L := pt w.heap.size (.cells (List.replicate n z' ++ List.replicate (m - n) z').toArray e) :: L) ?_ this
 exact .conv (B := pt w.heap.size (.cells (List.replicate n z' ++ List.replicate (m - n) z').toArray e)) (fun f hf => ⟨by simp, h1, h3, .inr ⟨_, List.replicate (m - n) z', rfl, by simp, hf⟩⟩) (.pick .here .refl)
end Go.Proofs.YthoeeahdkdcceaaGreat.Sl
namespace Go.Proofs.YthoeeahdkdcceaaGreat.B
open Go Go.Proofs Sh Sl T M
def bb (b : Bool) : UInt8 := if b then 1 else 0
theorem B_bb (b : Bool) : B (bb b) = .int .u8 (b.toNat : Int) := by cases b <;> rfl
def IsX (p : Nat) (l : List Bool) : HP := ex fun q : Option Addr × Nat => all [pt p (.cells #[.slice q.1 l.length q.2] 86), Sl 1 5 q.1 q.2 l.length (l.map fun b => B (bb b)), pu (l.length <= 8388608)]
theorem bad_iff {n k : Int} (h1 : ¬ k < 0) (h2 : ¬ 32 < k) (h3 : ¬ n < 0) : badP n k ↔ (((2 ^ k.toNat : Nat)) : Int) <= n := by
 unfold badP
 have : (2 : Int) ^ k.toNat = ((2 ^ k.toNat : Nat) : Int) := by norm_cast
 rw [this]
 constructor
 ·rintro (h | h | h | h)
  ·omega
  ·omega
  ·omega
  ·exact h
 ·exact fun h => .inr (.inr (.inr h))
theorem xPut {W : World} {p : Nat} {l : List Bool} {n k : Int} : Cn p_ 56 [.pointer (some ⟨p, 0, none⟩), .int .i64 n, .int .i64 k] W [IsX p l] (fun _ : Unit => .int .i64 (putR l n k)) (fun _ => [IsX p (putL l n k)]) := by
 (refine S.ref02_Writer_Put_s.cn fun F => ?_; unfold S.ref02_Writer_Put; simp only [ca_, na_])
 have bad : badP n k -> putR l n k = 1 /\ putL l n k = l := fun hb => by
  have hR : putR l n k = 1 := by simp [putR, hb]
  exact ⟨hR, by simp [putL, hR]⟩
 refine e_ask v_lss .nil (fun h => ?_) (fun h => ?_)
 ·(refine e_gdF1 ?_); refine e_gdF1 ?_; refine o_ v_pickT ?_; refine e_gdF1 ?_; refine e_gdF1 ?_; refine o_ v_pickT ?_; refine e_gdF1 ?_; refine e_gdF1 ?_; refine e_gdF1 ?_; refine e_gdF1 ?_; refine e_gdF1 ?_; refine o_ v_pickT ?_; refine e_condT ?_
  obtain ⟨e1, e2⟩ := bad (.inl h)
  rw [e1, e2]
  refine rt_ () ?_
  exact im_
 have h1 := h
 refine e_gdT (e_gdT (e_ask v_gtr .nil (fun h => ?_) (fun h => ?_)))
 ·(refine o_ v_pickF ?_); refine e_gdF1 ?_; refine e_gdF1 ?_; refine o_ v_pickT ?_; refine e_gdF1 ?_; refine e_gdF1 ?_; refine e_gdF1 ?_; refine e_gdF1 ?_; refine e_gdF1 ?_; refine o_ v_pickT ?_; refine e_condT ?_
  obtain ⟨e1, e2⟩ := bad (.inr (.inl h))
  rw [e1, e2]
  refine rt_ () ?_
  exact im_
 have h2 := h
 refine o_ v_pickF (e_gdT (e_gdT (e_ask v_lss .nil (fun h => ?_) (fun h => ?_))))
 ·(refine o_ v_pickF ?_); refine e_gdF1 ?_; refine e_gdF1 ?_; refine e_gdF1 ?_; refine e_gdF1 ?_; refine e_gdF1 ?_; refine o_ v_pickT ?_; refine e_condT ?_
  obtain ⟨e1, e2⟩ := bad (.inr (.inr (.inl h)))
  rw [e1, e2]
  refine rt_ () ?_
  exact im_
 have h3 := h
 refine o_ v_pickF (e_gdT (e_gdT (e_gdT ?_)))
 have hbi := bad_iff h1 h2 h3
 obtain ⟨K, rfl⟩ := Int.eq_ofNat_of_zero_le (show 0 <= k by omega)
 obtain ⟨N, rfl⟩ := Int.eq_ofNat_of_zero_le (show 0 <= n by omega)
 refine o_ v_conv ?_
 rw [wrapu64 (by omega)]
 refine e_gdT (o_ (v_shl (by omega)) ?_)
 have hm : min ((K : Int)).toNat IntKind.i64.bits = K := by simp only [IntKind.bits, Int.toNat_natCast]; omega
 have h32 : 2 ^ K <= 2 ^ 32 := Nat.pow_le_pow_right (by omega) (by omega)
 have hc : (2 : Int) ^ K = ((2 ^ K : Nat) : Int) := by norm_cast
 rw [Int.toNat_natCast] at hbi
 obtain ⟨E, hE⟩ : ∃ E, E = 2 ^ K := ⟨_, rfl⟩
 rw [<- hE] at hc h32 hbi
 rw [hm, Int.one_mul, hc, w64 (by omega) (by omega)]
 refine e_gdT (e_ask v_geq .nil (fun h => ?_) (fun h => ?_))
 ·(refine o_ v_pickF ?_); refine e_condT ?_
  obtain ⟨e1, e2⟩ := bad (hbi.2 h)
  rw [e1, e2]
  refine rt_ () ?_
  exact im_
 have h4 := h
 have hb : ¬ badP N K := fun c => h4 (hbi.1 c)
 refine e_ex Pick.here fun q => ?_
 obtain ⟨qa, qc⟩ := q
 refine e_all Pick.here ?_
 refine nr_ ?_
 refine e_pu (.there (.there .here)) fun hL => ?_
 refine o_ v_pickF (e_condF (o_ v_nil (o_ v_fa0 (ln_ ?_)))); refine o_ v_len (sb_ ?_)
 refine e_ask v_gtr .nil (fun h => ?_) (fun h => ?_)
 ·(refine e_condT ?_)
  have hR : putR l N K = 6 := by simp [putR, hb, h]
  rw [hR, show putL l N K = l by simp [putL, hR]]
  refine rt_ () ?_
  refine .ex (qa, qc) (.all ?_)
  refine nr_ ?_
  exact .pick .here (.pick .here (.pu hL .refl))
 have h5 := h
 refine e_condF ?_
 have hR : putR l N K = 0 := by simp [putR, hb, h5]
 have hPL : putL l N K = l ++ bitsOf N K := by simp [putL, hR]
 rw [hR, hPL]
 have hN : N < 4294967296 := by omega
 clear hR hPL hb bad hbi
 refine e_loop1 (fun m y => [ex fun i : Nat => all [pu (m + i = K /\ y = .int .i64 (i : Int)), IsX p (l ++ bitsOf N i)]] ++ F) K ?_ ?_
 ·refine Imp.ex 0 (.all ?_)
  refine nr_ ?_
  refine .pu (by refine ⟨by omega, ?_⟩; first | trivial | rfl) (.ex (qa, qc) (.all ?_))
  refine nr_ ?_
  rw [show l ++ bitsOf N 0 = l by simp [bitsOf]]
  exact .pick .here (.pick .here (.pu hL .refl))
 ·intro m ds y
  refine nr_ ?_
  refine e_ex Pick.here fun i => e_all Pick.here ?_
  refine nr_ ?_
  refine e_pu Pick.here fun hi => ?_
  obtain ⟨hmi, rfl⟩ := hi
  obtain ⟨L, hLe⟩ : ∃ L, L = l ++ bitsOf N i := ⟨_, rfl⟩
  have hLl : L.length = l.length + i := by rw [hLe, List.length_append, length_bitsOf]
  rw [<- hLe]
  refine e_ask v_lss .nil (fun h => ?_) (fun h => ?_)
  ·have hik : i < K := by omega
   refine e_ex Pick.here fun q2 => ?_
   obtain ⟨xa, xc⟩ := q2
   refine e_all Pick.here ?_
   refine nr_ ?_
   refine e_pu (.there (.there .here)) fun hL2 => ?_
   refine e_condT (o_ v_nil (o_ v_fa0 (ln_ ?_)))
   refine o_ v_conv ?_
   rw [wrapu64 (by omega)]
   refine o_ (v_shr (by omega)) ?_
   rw [shr_nat (by omega)]
   refine o_ v_and ?_
   have hdiv : N / 2 ^ i <= N := Nat.div_le_self _ _
   rw [and1 (by omega), testBit_mod]
   refine o_ v_conv ?_
   have hbt := Bool.toNat_le (N.testBit i)
   rw [wrap8 (by omega), <- B_bb]
   refine e_bsl1 fun g => ?_
   refine e_app (m := 1) (news := [B (bb (N.testBit i))]) (.there (.there .here)) (src_pt (e' := 5) (by kernel_rfl) .here (by rfl) (B_one (l := [bb (N.testBit i)]))) (by omega) (by omega) fun a' c' => ?_
   refine o_ v_nil (o_ v_fa0 (sn_ ?_)); refine ad_ ?_
   refine e_next1 (m - 1) (by omega) (.ex (i + 1) (.all ?_))
   refine nr_ ?_
   refine .pu (by refine ⟨by omega, ?_⟩; first | trivial | norm_cast) (.ex (a', c') (.all ?_))
   refine nr_ ?_
   have e1 : l ++ bitsOf N (i + 1) = L ++ [N.testBit i] := by rw [hLe, bitsOf_succ, List.append_assoc]
   rw [e1]
   simp only [List.length_append, List.length_singleton, List.map_append, List.map_cons, List.map_nil]
   exact .pick (by repeat constructor) (.pick (by repeat constructor) (.pu (by omega) im_))
  ·have : i = K := by omega
   subst this
   refine e_condF (rt_ () ?_)
   rw [<- hLe]
   exact im_
theorem xAlign {W : World} {p : Nat} {l : List Bool} : Cn p_ 76 [.pointer (some ⟨p, 0, none⟩)] W [IsX p l] (fun _ : Unit => .tuple #[]) (fun _ => [IsX p (padTo8 l)]) := by
 (refine S.ref02_Writer_Align_s.cn fun F => ?_; unfold S.ref02_Writer_Align; simp only [ca_, na_])
 refine e_loop0 (fun m => [ex fun i : Nat => all [pu (i + m = (8 - l.length % 8) % 8), IsX p (l ++ List.replicate i false)]] ++ F) ((8 - l.length % 8) % 8) ?_ ?_
 ·refine Imp.ex 0 (.all ?_)
  refine nr_ ?_
  refine .pu (by omega) ?_
  rw [show l ++ List.replicate 0 false = l by simp]
  exact im_
 ·intro m ds
  refine nr_ ?_
  refine e_ex Pick.here fun i => e_all Pick.here ?_
  refine nr_ ?_
  refine e_pu Pick.here fun hi => ?_
  obtain ⟨L, hLe⟩ : ∃ L, L = l ++ List.replicate i false := ⟨_, rfl⟩
  have hLl : L.length = l.length + i := by rw [hLe, List.length_append, List.length_replicate]
  rw [<- hLe]
  refine e_ex Pick.here fun q2 => ?_
  obtain ⟨xa, xc⟩ := q2
  refine e_all Pick.here ?_
  refine nr_ ?_
  refine e_pu (.there (.there .here)) fun hL2 => ?_
  refine o_ v_nil (o_ v_fa0 (ln_ ?_)); refine o_ v_len ?_; (((refine o_ (v_rem ?h1 ?h2) ?_); (case h1 => omega); (case h2 => omega)))
  refine e_ask v_neq .nil (fun h => ?_) (fun h => ?_)
  ·have hm0 : 0 < m := by omega
   refine e_condT (o_ v_nil (o_ v_fa0 (ln_ ?_))); refine e_bsl1 fun g => ?_
   refine e_app (m := 1) (news := [B 0]) (.there (.there .here)) (src_pt (e' := 5) (by kernel_rfl) .here (by rfl) (B_one (l := [0]))) (by omega) (by omega) fun a' c' => ?_
   refine o_ v_nil (o_ v_fa0 (sn_ ?_))
   refine e_next0 (m - 1) (by omega) (.ex (i + 1) (.all ?_))
   refine nr_ ?_
   refine .pu (by omega) (.ex (a', c') (.all ?_))
   refine nr_ ?_
   have e1 : l ++ List.replicate (i + 1) false = L ++ [false] := by rw [hLe, List.replicate_succ', List.append_assoc]
   rw [e1]
   have eb : B (bb false) = B 0 := rfl
   simp only [eb, List.length_append, List.length_singleton, List.map_append, List.map_cons, List.map_nil]
   exact .pick (by repeat constructor) (.pick (by repeat constructor) (.pu (by omega) im_))
  ·have hm0 : m = 0 := by omega
   refine e_condF (rt_ () ?_)
   rw [show padTo8 l = L by rw [hLe, padTo8, show i = (8 - l.length % 8) % 8 by omega]]
   refine .ex (xa, xc) (.all ?_)
   refine nr_ ?_
   exact .pick .here (.pick .here (.pu hL2 .refl))
theorem xRaw {W : World} {p : Nat} {l : List Bool} {a : Option Addr} {cap : Nat} {b : List UInt8} {A : HP} (hr : RdB W A a b.length (b.map B)) (ha : a = none -> b.length = 0) (hb : b.length <= 4611686018427387904) :
  Cn p_ 77 [.pointer (some ⟨p, 0, none⟩), .slice a b.length cap] W [IsX p l, A] (fun _ : Unit => .int .i64 (rawR l b)) (fun _ => [IsX p (rawL l b), A]) := by
 (refine S.ref02_Writer_Raw_s.cn fun F => ?_; unfold S.ref02_Writer_Raw; simp only [ca_, na_])
 refine e_ex Pick.here fun q => ?_
 obtain ⟨qa, qc⟩ := q
 refine e_all Pick.here ?_
 refine nr_ ?_
 refine e_pu (.there (.there .here)) fun hL => ?_
 have hpk := length_pk l
 refine o_ v_nil (o_ v_fa0 (ln_ ?_)); refine o_ v_len (ad_ ?_); (((refine o_ (v_quo ?h1 ?h2 ?h3) ?_); (case h1 => omega); (case h2 => omega); (case h3 => omega))); refine o_ v_len (sb_ ?_)
 refine e_ask v_gtr .nil (fun h => ?_) (fun h => ?_)
 ·(refine e_condT ?_)
  have hR : rawR l b = 6 := by unfold rawR; rw [if_pos (by omega)]
  rw [hR, show rawL l b = l by simp [rawL, hR]]
  refine rt_ () ?_
  refine .ex (qa, qc) (.all ?_)
  refine nr_ ?_
  exact .pick .here (.pick .here (.pu hL .refl))
 ·have hR : rawR l b = 0 := by unfold rawR; rw [if_neg (by omega)]
  rw [hR, show rawL l b = padTo8 l ++ ub b by simp [rawL, hR]]
  refine e_imp (M := IsX p l :: A :: F) (.ex (qa, qc) (.all ?_)) ?_
  ·refine nr_ ?_
   exact .pick .here (.pick .here (.pu hL .refl))
  refine e_condF (c_ xAlign fun _ => ?_)
  have hp8 := length_pad l
  refine e_loop1 (fun m y => [ex fun i : Nat => all [pu (m + i = b.length /\ y = .int .i64 (i : Int)), IsX p (padTo8 l ++ ub (b.take i)), A]] ++ F) b.length ?_ ?_
  ·refine Imp.ex 0 (.all ?_)
   refine nr_ ?_
   refine .pu (by refine ⟨by omega, ?_⟩; first | trivial | rfl) ?_
   rw [show padTo8 l ++ ub (b.take 0) = padTo8 l by simp [ub]]
   exact im_
  ·intro m ds y
   refine nr_ ?_
   refine e_ex Pick.here fun i => e_all Pick.here ?_
   refine nr_ ?_
   refine e_pu Pick.here fun hi => ?_
   obtain ⟨hmi, rfl⟩ := hi
   refine o_ v_len (e_ask v_lss .nil (fun h => ?_) (fun h => ?_))
   ·have hib : i < b.length := by omega
    refine e_condT ?_
    obtain ⟨g, o, rfl⟩ : ∃ g o, a = some ⟨g, o, none⟩ := by
     obtain ⟨g, o, hh, _⟩ := hr.2 (by omega)
     exact ⟨g, o, hh⟩
    refine o_ (v_ia1 i (by norm_cast) (by omega)) ?_
    refine e_opN (v_ldRd hr (v := B b[i]) (B_get hib)) (.pick (.there .here) .nil) ?_
    refine o_ v_conv ?_
    have hbi := b[i].toNat_lt
    rw [w64 (by omega) (by omega)]
    refine c_ xPut fun _ => ?_
    have hlen : (padTo8 l ++ ub (b.take i)).length = 8 * ((l.length + 7) / 8 + i) := by
     rw [List.length_append, hp8, length_ub, List.length_take]; omega
    have hnb : ¬ badP (b[i].toNat : Int) 8 := by
     unfold badP
     rw [show (2 : Int) ^ ((8 : Int).toNat) = 256 from rfl]
     omega
    have hR2 : putR (padTo8 l ++ ub (b.take i)) (b[i].toNat : Int) 8 = 0 := by
     unfold putR; rw [if_neg hnb, if_neg (by rw [hlen]; omega)]
    have hL2 : putL (padTo8 l ++ ub (b.take i)) (b[i].toNat : Int) 8 = padTo8 l ++ ub (b.take (i + 1)) := by
     unfold putL
     rw [if_pos hR2, List.append_assoc, List.take_succ_eq_append_getElem hib]
     unfold ub
     rw [List.flatMap_append]
     congr 2
    rw [hL2]
    refine ad_ ?_
    refine e_next1 (m - 1) (by omega) (.ex (i + 1) (.all ?_))
    refine nr_ ?_
    refine .pu (by refine ⟨by omega, ?_⟩; first | trivial | norm_cast) ?_
    exact im_
   ·have : i = b.length := by omega
    subst this
    refine e_condF (rt_ () ?_)
    rw [List.take_length]
    exact im_
def pz (L : List Bool) (i : Nat) : List UInt8 := (List.range ((L.length + 7) / 8)).map fun j => UInt8.ofNat (byteAt (L.take i) j)
theorem length_pz (L : List Bool) (i : Nat) : (pz L i).length = (L.length + 7) / 8 := by simp [pz]
theorem pz_zero (L : List Bool) : (pz L 0).map B = List.replicate ((L.length + 7) / 8) (.int .u8 0) := by
 apply List.ext_getElem
 ·simp [pz]
 ·intro i h1 h2
  simp [pz, byteAt, val]
  rfl
theorem pz_last (L : List Bool) : pz L L.length = pk L := by simp [pz, pk, pkn]
theorem pz_get {L : List Bool} {i : Nat} (h : i < L.length) : (pz L i)[i / 8]? = some (UInt8.ofNat (byteAt (L.take i) (i / 8))) := by
 unfold pz
 rw [List.getElem?_map, List.getElem?_range (by omega)]; rfl
theorem byteAt_snoc_gt {L : List Bool} {b : Bool} {i : Nat} (h : L.length / 8 < i) : byteAt (L ++ [b]) i = byteAt L i := by
 unfold byteAt
 rw [List.drop_eq_nil_of_le (by simp; omega), List.drop_eq_nil_of_le (by omega)]
theorem pz_succ {L : List Bool} {i : Nat} (h : i < L.length) : pz L (i + 1) = (pz L i).set (i / 8) (UInt8.ofNat (byteAt (L.take i) (i / 8) + 2 ^ (i % 8) * L[i].toNat)) := by
 have ht : L.take (i + 1) = L.take i ++ [L[i]] := List.take_succ_eq_append_getElem h
 have hl : (L.take i).length = i := by rw [List.length_take]; omega
 apply List.ext_getElem?
 intro j
 unfold pz
 rw [ht, List.getElem?_set]
 simp only [List.length_map, List.length_range, List.getElem?_map]
 by_cases h1 : i / 8 = j
 ·subst h1
  rw [if_pos rfl, if_pos (by omega), List.getElem?_range (by omega)]
  have := byteAt_snoc_eq (L := L.take i) (b := L[i])
  rw [hl] at this
  rw [Option.map_some, this]
 ·rw [if_neg h1]
  by_cases hj : j < (L.length + 7) / 8
  ·rw [List.getElem?_range hj]
   simp only [Option.map_some]
   rcases Nat.lt_or_ge j (i / 8) with c | c
   ·rw [byteAt_snoc_lt (by rw [hl]; exact c)]
   ·rw [byteAt_snoc_gt (by rw [hl]; omega)]
  ·rw [List.getElem?_eq_none (by simp; omega)]; rfl
theorem or8b {a r : Nat} {b : Bool} (hr : r < 8) (h : a < 2 ^ r) : bitOp .or .u8 (a : Int) ((b.toNat * 2 ^ r : Nat) : Int) = ((a + 2 ^ r * b.toNat : Nat) : Int) := by
 cases b with
 | true => simpa using or8 hr h
 | false =>
  have hp : 2 ^ r <= 128 := by
   have : 2 ^ r <= 2 ^ 7 := Nat.pow_le_pow_right (by omega) (by omega)
   simpa using this
  unfold bitOp
  have h1 : (BitVec.ofInt IntKind.u8.bits (a : Int)).toNat = a := by
   rw [BitVec.ofInt_natCast, BitVec.toNat_ofNat]; exact Nat.mod_eq_of_lt (by simp only [IntKind.bits]; omega)
  simp only [Bool.toNat_false, Nat.zero_mul, Nat.mul_zero, Nat.add_zero]
  have h2 : (BitVec.ofInt IntKind.u8.bits ((0 : Nat) : Int)).toNat = 0 := by decide
  simp only [BitVec.toNat_or, h1, h2, Nat.or_zero]
  exact wrap8 (by omega)
theorem xBytes {W : World} {p : Nat} {l : List Bool} : Cn p_ 58 [.pointer (some ⟨p, 0, none⟩)] W [IsX p l] (fun q : Option Addr × Nat => .slice q.1 (pk l).length q.2) (fun q => [Sl 1 5 q.1 q.2 (pk l).length ((pk l).map B), IsX p l]) := by
 (refine S.ref02_Writer_Bytes_s.cn fun F => ?_; unfold S.ref02_Writer_Bytes; simp only [ca_, na_])
 refine e_ex Pick.here fun q => ?_
 obtain ⟨qa, qc⟩ := q
 refine e_all Pick.here ?_
 refine nr_ ?_
 refine e_pu (.there (.there .here)) fun hL => ?_
 have hpk := length_pk l
 refine o_ v_nil (o_ v_fa0 (ln_ ?_)); refine o_ v_len (ad_ ?_); (((refine o_ (v_quo ?h1 ?h2 ?h3) ?_); (case h1 => omega); (case h2 => omega); (case h3 => omega)))
 refine e_mksl ((l.length + 7) / 8) ((l.length + 7) / 8) (by norm_cast) (by norm_cast) (by omega) (by omega) (by unfold maxLen; omega) fun g => ?_
 rw [<- pz_zero]
 refine e_loop1 (fun m y => [ex fun i : Nat => all [pu (m + i = l.length /\ y = .int .i64 (i : Int)), Sl 1 5 (some ⟨g, 0, none⟩) ((l.length + 7) / 8) ((l.length + 7) / 8) ((pz l i).map B), pt p (.cells #[.slice qa l.length qc] 86), Sl 1 5 qa qc l.length (l.map fun b => B (bb b))]] ++ F) l.length ?_ ?_
 ·refine Imp.ex 0 (.all ?_)
  refine nr_ ?_
  refine .pu (by refine ⟨by omega, ?_⟩; first | trivial | rfl) ?_
  exact im_
 ·intro m ds y
  refine nr_ ?_
  refine e_ex Pick.here fun i => e_all Pick.here ?_
  refine nr_ ?_
  refine e_pu Pick.here fun hi => ?_
  obtain ⟨hmi, rfl⟩ := hi
  refine o_ v_nil (o_ v_fa0 (ln_ ?_)); refine o_ v_len (e_ask v_lss .nil (fun h => ?_) (fun h => ?_))
  ·have hil : i < l.length := by omega
   refine e_slsome (.there (.there .here)) (by omega) fun g2 hg2 => ?_
   subst hg2
   refine e_condT (e_drS ?_); (((refine t_ (v_quo ?h1 ?h2 ?h3) ?_); (case h1 => omega); (case h2 => omega); (case h3 => omega))); (((refine t_ (v_quo ?h1 ?h2 ?h3) ?_); (case h1 => omega); (case h2 => omega); (case h3 => omega)))
   refine t_ (v_ia1 (i / 8) (by norm_cast) (by omega)) ?_
   refine e_stS (v_ldSl (v := B (UInt8.ofNat (byteAt (l.take i) (i / 8)))) (by rw [Nat.zero_add, List.getElem?_map, pz_get hil]; rfl)) (.pick .here .nil) ?_
   refine t_ v_nil (t_ v_fa0 (ls_ ?_))
   refine t_ (v_ia1 i (by norm_cast) (by omega)) ?_
   refine e_stS (v_ldSl (v := B (bb l[i])) (by rw [Nat.zero_add, List.getElem?_map, List.getElem?_eq_getElem hil]; rfl)) (.pick (.there (.there .here)) .nil) ?_
   (((refine t_ (v_rem ?h1 ?h2) ?_); (case h1 => omega); (case h2 => omega)))
   refine t_ v_conv ?_
   rw [show ((i : Int) % 8) = ((i % 8 : Nat) : Int) by norm_cast, wrapu64 (by omega), B_bb]
   refine t_ (v_shl (by omega)) ?_
   have hmin : min (((i % 8 : Nat) : Int)).toNat IntKind.u8.bits = i % 8 := by simp only [IntKind.bits, Int.toNat_natCast]; omega
   have hp : 2 ^ (i % 8) <= 2 ^ 7 := Nat.pow_le_pow_right (by omega) (by omega)
   have hcc : (l[i].toNat : Int) * 2 ^ (i % 8) = ((l[i].toNat * 2 ^ (i % 8) : Nat) : Int) := by norm_cast
   have hle : l[i].toNat * 2 ^ (i % 8) <= 2 ^ (i % 8) := by cases l[i] <;> simp
   obtain ⟨E, hE⟩ : ∃ E, E = l[i].toNat * 2 ^ (i % 8) := ⟨_, rfl⟩
   rw [hmin, hcc, <- hE, wrap8 (by omega)]
   rw [B_ofNat (byteAt_lt _ _)]
   refine t_ v_or ?_
   have hlast : byteAt (l.take i) (i / 8) < 2 ^ (i % 8) := by
    have := byteAt_last (l.take i)
    rwa [List.length_take, Nat.min_eq_left (by omega)] at this
   rw [hE, or8b (by omega) hlast]
   refine t_ (v_ia1 (i / 8) (by norm_cast) (by omega)) ?_
   have e4 : byteAt (l.take i) (i / 8) + 2 ^ (i % 8) * l[i].toNat < 256 := by
    have := byteAt_lt (l.take (i + 1)) (i / 8)
    rw [List.take_succ_eq_append_getElem hil] at this
    have e5 := byteAt_snoc_eq (L := l.take i) (b := l[i])
    rw [List.length_take, Nat.min_eq_left (by omega)] at e5
    rwa [e5] at this
   refine e_stSl .here (by simp [length_pz]; omega) ?_
   rw [<- B_ofNat e4, Nat.zero_add, <- List.map_set, <- pz_succ hil]
   refine ad_ ?_
   refine e_next1 (m - 1) (by omega) (.ex (i + 1) (.all ?_))
   refine nr_ ?_
   refine .pu (by refine ⟨by omega, ?_⟩; first | trivial | norm_cast) ?_
   exact im_
  ·have : i = l.length := by omega
   subst this
   refine e_condF ?_
   rw [pz_last]
   refine e_ret (some ⟨g, 0, none⟩, (l.length + 7) / 8) (by rw [hpk]) ?_
   rw [hpk]
   refine .pick .here (.ex (qa, qc) (.all ?_))
   refine nr_ ?_
   exact .pick .here (.pick .here (.pu hL .refl))
end Go.Proofs.YthoeeahdkdcceaaGreat.B
namespace Go.Proofs.YthoeeahdkdcceaaGreat.Sl
open Go Go.RowKit Sh
variable {P : Program} {W : World} {L L' : List HP} {Kp : PK} {k : Value -> WP} {H : Type} {enc : TypeId × Value -> H}
theorem spot_none {w : World} {a : Addr} {v : Value} (h : w.cell? a = some v) : a.spot = none /\ a.block < w.heap.size := by
 unfold World.cell? at h
 split at h
 ·rename_i c _ _ e
  refine ⟨?_, (Array.getElem?_eq_some_iff.1 e).1⟩
  cases hs : a.spot with
  | none => rfl
  | some x => rw [hs] at h; simp at h
 ·cases h
structure Old {α : Type} (W : World) (s : Nat) (rd : α -> List Value -> Prop) (a : Option Addr) (n : Nat) (xs : List α) : Prop where
 len : xs.length = n
 at_ : 0 < n -> ∃ g o, a = some ⟨g, o, none⟩ /\ g < W.heap.size /\ ∀ (i : Nat) (h : i < xs.length), ∃ cs : List Value, cs.length = s /\ rd xs[i] cs /\ ∀ (j : Nat) (v : Value), cs[j]? = some v -> W.cell? ⟨g, o + (i * s + j), none⟩ = some v
theorem choose_list {α : Type} {n : Nat} {R : Nat -> α -> Prop} (h : ∀ i, i < n -> ∃ a, R i a) : ∃ xs : List α, xs.length = n /\ ∀ (i : Nat) (hi : i < xs.length), R i xs[i] := by
 induction n with
 | zero => exact ⟨[], rfl, fun i hi => by simp at hi⟩
 | succ n ih =>
  obtain ⟨xs, h1, h2⟩ := ih fun i hi => h i (by omega)
  obtain ⟨a, ha⟩ := h n (by omega)
  refine ⟨xs ++ [a], by simp [h1], fun i hi => ?_⟩
  by_cases c : i < xs.length
  ·rw [List.getElem_append_left c]; exact h2 i c
  ·have : i = n := by simp at hi; omega
   subst this
   rw [List.getElem_append_right (by omega)]
   simpa [h1] using ha
theorem bulk_cons (d : DataW H) (r : List (DataW H)) : Rows.uptoBulkAll (d :: r) = Rows.uptoBulk d + Rows.uptoBulkAll r := by simp [Rows.uptoBulkAll]
theorem bulk_sum {α : Type} {m : α -> Nat} : ∀ (xs : List α) (ds : List (DataW H)), xs.length = ds.length -> (∀ (i : Nat) (h1 : i < xs.length) (h2 : i < ds.length), m xs[i] <= Rows.uptoBulk ds[i]) -> (xs.map m).sum <= Rows.uptoBulkAll ds
 | [], [], _, _ => by simp
 | x :: xs, d :: ds, hl, h => by
  have h0 := h 0 (by simp) (by simp)
  have ih := bulk_sum xs ds (by simpa using hl) (fun i h1 h2 => h (i + 1) (by simp; omega) (by simp; omega))
  rw [bulk_cons, List.map_cons, List.sum_cons]
  simp only [List.getElem_cons_zero] at h0
  omega
theorem open_old {α : Type} {rd : α -> List Value -> Prop} {m : α -> Nat} {t e : TypeId} {s fuel : Nat} {sp : Nat -> Bool} {held : Bool} {cs : List Value} {x : DataW H × List MemPlace} (ht : P.underlying t = some (.slice e)) (hc : P.cellsOf e = s) (hs : 0 < s)
  (op : ∀ (n : Nat) (cs : List Value) (x : DataW H × List MemPlace), DataW.trod enc P W 0 sp held n e cs = some x -> ∃ a, rd a cs /\ m a <= Rows.uptoBulk x.1) (h : DataW.trod enc P W 0 sp held fuel t cs = some x) :
  ∃ (a : Option Addr) (n cap : Nat) (xs : List α), cs = [.slice a n cap] /\ n <= cap /\ cap <= maxLen /\ (a = none -> n = 0 /\ cap = 0) /\ Old W s rd a n xs /\ (xs.map m).sum + 1 <= Rows.uptoBulk x.1 := by
 rcases DataW.trod_slice ht h with ⟨rfl, rfl⟩ | ⟨a, len, cap, elems, rest, n, rfl, rfl, rfl, hb, hl, hm, he, hel, _, _⟩
 ·exact ⟨none, 0, 0, [], rfl, Nat.le_refl _, by unfold maxLen; omega, fun _ => ⟨rfl, rfl⟩, ⟨rfl, fun c => by omega⟩, by simp [Rows.uptoBulk]⟩
 ·have cell0 : ∀ i, i < len -> ∃ ds : List Value, ds.length = s /\ (∃ y, rd y ds /\ ∀ h : i < elems.length, m y <= Rows.uptoBulk elems[i].1) /\ ∀ j, j < s -> W.cell? ((a.add (i * s)).add j) = ds[j]? := fun i hi => by
   have h1 := hel i hi
   rw [List.getElem?_eq_getElem (by omega), Option.bind_eq_some_iff] at h1
   obtain ⟨ds, h2, h3⟩ := h1
   unfold World.cells? at h2
   rw [if_pos (Nat.zero_le _), hc] at h2
   obtain ⟨y, hy, hm2⟩ := op _ _ _ h3
   exact ⟨ds, by simpa using mapM_some_length h2, ⟨y, hy, fun _ => hm2⟩, fun j hj => mapM_some_get h2 j j (by simp [hj])⟩
  by_cases hz : len = 0
  ·subst hz
   exact ⟨some a, 0, cap, [], rfl, hl, hm, (fun c => by cases c), ⟨rfl, fun c => by omega⟩, by simp [Rows.uptoBulk]⟩
  obtain ⟨d0, hd0, _, hg0⟩ := cell0 0 (by omega)
  have h0 := hg0 0 hs
  have ea : (a.add (0 * s)).add 0 = a := by unfold Addr.add; simp
  rw [ea, List.getElem?_eq_getElem (by omega)] at h0
  obtain ⟨s1, s2⟩ := spot_none h0
  obtain ⟨g, o, sp'⟩ := a
  obtain rfl : sp' = none := s1
  have key : ∀ i, i < len -> ∃ y : α, (∀ h : i < elems.length, m y <= Rows.uptoBulk elems[i].1) /\ ∃ ds : List Value, ds.length = s /\ rd y ds /\ ∀ (j : Nat) (v : Value), ds[j]? = some v -> W.cell? ⟨g, o + (i * s + j), none⟩ = some v := fun i hi => by
   obtain ⟨ds, hlen, ⟨y, hy, hyb⟩, hget⟩ := cell0 i hi
   refine ⟨y, hyb, ds, hlen, hy, fun j v hv => ?_⟩
   have hj : j < s := by
    rcases Nat.lt_or_ge j ds.length with c | c
    ·omega
    ·rw [List.getElem?_eq_none c] at hv; cases hv
   have := hget j hj
   rw [addr_add, addr_add, hv, Nat.add_assoc] at this
   exact this
  obtain ⟨xs, h1, h2⟩ := choose_list key
  refine ⟨some ⟨g, o, none⟩, len, cap, xs, rfl, hl, hm, (fun c => by cases c), ⟨h1, fun hn => ⟨g, o, rfl, s2, fun i hi => (h2 i hi).2⟩⟩, ?_⟩
  have := bulk_sum (m := m) xs (elems.map (·.1)) (by simp; omega) (fun i e1 e2 => by simpa using (h2 i e1).1 (by simpa using e2))
  simp only [Rows.uptoBulk]
  omega
theorem sum_ones {α : Type} : ∀ l : List α, (l.map fun _ => 1).sum = l.length
 | [] => rfl
 | x :: l => by simp [sum_ones l]; omega
def rdU (c : UInt8) (cs : List Value) : Prop := cs = [B c]
theorem Old.bytes {a : Option Addr} {n : Nat} {b : List UInt8} {A : HP} (h : Old W 1 rdU a n b) : RdB W A a n (b.map B) := by
 refine ⟨by rw [List.length_map]; exact h.len, fun hn => ?_⟩
 obtain ⟨g, o, rfl, hg, hc⟩ := h.at_ hn
 refine ⟨g, o, rfl, fun w L hw j v hv => ?_⟩
 rw [List.getElem?_map] at hv
 have hj : j < b.length := by
  rcases Nat.lt_or_ge j b.length with c | c
  ·exact c
  ·rw [List.getElem?_eq_none c] at hv; cases hv
 obtain ⟨cs, h1, h2, h3⟩ := hc j hj
 rw [h2] at h3
 have := h3 0 (B b[j]) rfl
 rw [List.getElem?_eq_getElem hj] at hv
 have hv' : B b[j] = v := Option.some.inj hv
 rw [hw.base.cell (p := ⟨g, o + j, none⟩) hg, <- hv']
 simpa using this
theorem open_u8 {e : TypeId} {sp : Nat -> Bool} {held : Bool} (he : P.underlying e = some (.int .u8)) : ∀ (n : Nat) (cs : List Value) (x : DataW H × List MemPlace), DataW.trod enc P W 0 sp held n e cs = some x -> ∃ a, rdU a cs /\ 1 <= Rows.uptoBulk x.1 := fun n cs x h => by
 obtain ⟨m, rfl, rfl, hw⟩ := DataW.trod_int he h
 have hm : 0 <= m /\ m <= 255 := by simpa [Lit.wf, IntKind.min, IntKind.max, IntKind.signed, IntKind.bits] using hw
 refine ⟨UInt8.ofNat m.toNat, ?_, by simp [Rows.uptoBulk]⟩
 unfold rdU B
 rw [UInt8.toNat_ofNat', Nat.mod_eq_of_lt (by omega), Int.toNat_of_nonneg hm.1]
theorem open_bytes {t e : TypeId} {fuel : Nat} {sp : Nat -> Bool} {held : Bool} {cs : List Value} {x : DataW H × List MemPlace} (ht : P.underlying t = some (.slice e)) (hc : P.cellsOf e = 1) (he : P.underlying e = some (.int .u8)) (h : DataW.trod enc P W 0 sp held fuel t cs = some x) :
  ∃ (a : Option Addr) (cap : Nat) (b : List UInt8), cs = [.slice a b.length cap] /\ b.length <= cap /\ cap <= maxLen /\ (a = none -> b.length = 0) /\ (∀ A, RdB W A a b.length (b.map B)) /\ b.length + 1 <= Rows.uptoBulk x.1 := by
 obtain ⟨a, n, cap, b, rfl, h1, h2, h3, h4, h5⟩ := open_old (m := fun _ => 1) ht hc (by omega) (open_u8 (enc := enc) he) h
 have hl := h4.len
 subst hl
 exact ⟨a, cap, b, rfl, h1, h2, fun c => (h3 c).1, fun A => h4.bytes, by rwa [sum_ones] at h5⟩
theorem open_slice {t e : TypeId} {v : Value} {d : DataW H} {ps : List MemPlace} {r : Reach} {b0 : Nat} {sp : Nat -> Bool} {held : Bool} (ht : P.underlying t = some (.slice e)) (hval : Value.okWide P W r b0 t v) (hd : DataW.Trod enc P W 0 sp held t v d ps) :
  ∃ fuel, DataW.trod enc P W 0 sp held fuel t [v] = some (d, ps) := by
 obtain ⟨a, n, c, rfl⟩ := WideShapes.okWide_slice ht hval
 obtain ⟨fuel, hf⟩ := hd
 exact ⟨fuel, hf⟩
end Go.Proofs.YthoeeahdkdcceaaGreat.Sl
namespace Go.Proofs.YthoeeahdkdcceaaGreat.Sl
open Go Sh
variable {P : Program} {W : World} {L L' : List HP} {Kp : PK} {k : Value -> WP}
theorem fold_put (o : Nat) : ∀ (us pre zs : List Value) (m : Nat), pre.length = o + m -> us.length <= zs.length ->
  (us.zipIdx m).foldl (fun (cs : Array Value) (x : Value × Nat) => cs.setIfInBounds (o + x.2) x.1) (pre ++ zs).toArray = (pre ++ us ++ zs.drop us.length).toArray
 | [], pre, zs, m, _, _ => by simp
 | u :: us, pre, [], m, _, h => by simp at h
 | u :: us, pre, z :: zs, m, hp, h => by
  have ih := fold_put o us (pre ++ [u]) zs (m + 1) (by simp; omega) (by simpa using h)
  have e : ((pre ++ z :: zs).toArray).setIfInBounds (o + m) u = (pre ++ [u] ++ zs).toArray := by
   rw [<- hp]; simp
  rw [List.zipIdx_cons, List.foldl_cons]
  simp only
  rw [e, ih]; simp
theorem fill_runS (s : Nat) : ∀ (vs pre zs : List Value) (m : Nat), pre.length = m * s -> zs.length = vs.length * s -> (∀ v ∈ vs, v.cells.size = s) ->
  Instr.fill (fun i => some (i * s, s)) (pre ++ zs).toArray ((vs.zipIdx m).map fun x => (x.2, x.1)) = some (pre ++ vs.flatMap fun v => v.cells.toList).toArray
 | [], pre, zs, m, _, hz, _ => by
  have : zs = [] := List.eq_nil_of_length_eq_zero (by simpa using hz)
  subst this; simp [Instr.fill]
 | v :: vs, pre, zs, m, hp, hz, ho => by
  have hv := ho v (by simp)
  have hz' : zs.length = vs.length * s + s := by rw [hz, List.length_cons, Nat.add_mul, Nat.one_mul]
  have ih := fill_runS s vs (pre ++ v.cells.toList) (zs.drop s) (m + 1) (by rw [List.length_append, hp, Array.length_toList, hv, Nat.add_mul, Nat.one_mul]) (by rw [List.length_drop, hz']; omega) (fun u hu => ho u (by simp [hu]))
  simp only [List.zipIdx_cons, List.map_cons, Instr.fill, hv]
  rw [if_neg (by simp [hp, hz'])]
  have h2 : Array.foldl (fun cs (x : Value × Nat) => cs.setIfInBounds (m * s + x.2) x.1) (pre ++ zs).toArray v.cells.zipIdx = (pre ++ v.cells.toList ++ zs.drop s).toArray := by
   have := fold_put (m * s) v.cells.toList pre zs 0 (by simpa using hp) (by rw [Array.length_toList, hv]; omega)
   rw [Array.length_toList, hv] at this
   rw [<- this]
   have e2 : v.cells.zipIdx.toList = v.cells.toList.zipIdx := by simp
   rw [<- e2, Array.foldl_toList]
  rw [h2, ih]; simp
theorem e_bslS {t e : TypeId} {s b n : Nat} {parts : List (Nat × Value)} {vs : List Value} [ht : SlT P t e s b] (hn : vs.length = n) (h1 : 0 < n) (hp : parts = vs.zipIdx.map fun x => (x.2, x.1)) (ho : ∀ v ∈ vs, v.cells.size = s) (hm : n * s <= 16777216)
  (h : ∀ g, Ent W (pt g (.cells (vs.flatMap fun v => v.cells.toList).toArray e) :: L) (k (.slice (some ⟨g, 0, none⟩) n n))) : Ent W L (opN P (sBuildSl t n parts) Kp k) := fun w hw => by
 refine ⟨?_⟩
 obtain ⟨i, z, hi, hz, hs, hb, hzs⟩ := ht.info
 have : (sBuildSl t n parts).run P w = .ok (.value (.slice (some ⟨w.heap.size, 0, none⟩) n n)) (w.alloc (.cells (vs.flatMap fun v => v.cells.toList).toArray e)) := by
  have hm' : ¬ (2 ^ 24 < n * s) := by omega
  have hf : ∀ zs : Array Value, zs.size = n * s -> Instr.fill (fun i => some (i * s, s)) zs parts = some (vs.flatMap fun v => v.cells.toList).toArray := fun zs hz => by
   have := fill_runS s vs [] zs.toList 0 (by simp) (by simp [hz, hn]) ho
   simpa [hp] using this
  by_cases h0 : n * s = 0
  ·simp [sBuildSl, Instr.buildSlice, run_underlying ht.ut, sizeOf_run hi, hs, zeroValue, typeInfo, hi, hz, newRow, h0]
   have := hf ((Array.range 0).map fun _ => (default : Value)) (by simp [h0])
   rw [this]
   simp
  ·simp [sBuildSl, Instr.buildSlice, run_underlying ht.ut, sizeOf_run hi, hs, hm', zeroValue, typeInfo, hi, hz, newRow, h0]
   have := hf ((Array.range (n * s)).map fun j => z.cells[j % z.cells.size]!) (by simp)
   rw [this]
   simp
 rw [this]
 exact h _ _ (hw.alloc _)
theorem flat_len {α : Type} {f : α -> List Value} {s : Nat} (hf : ∀ x, (f x).length = s) : ∀ l : List α, (l.flatMap f).length = l.length * s
 | [] => by simp
 | x :: l => by rw [List.flatMap_cons, List.length_append, hf, flat_len hf l, List.length_cons, Nat.add_mul, Nat.one_mul, Nat.add_comm]
theorem flat_get {α : Type} {f : α -> List Value} {s : Nat} (hf : ∀ x, (f x).length = s) : ∀ (l : List α) (i j : Nat) (hi : i < l.length) (hj : j < s), (l.flatMap f)[i * s + j]? = (f l[i])[j]?
 | x :: l, 0, j, _, hj => by
  rw [List.flatMap_cons, Nat.zero_mul, Nat.zero_add, List.getElem?_append_left (by rw [hf]; exact hj)]; rfl
 | x :: l, i + 1, j, hi, hj => by
  rw [List.flatMap_cons, List.getElem?_append_right (by rw [hf, Nat.add_mul]; omega), hf, show (i + 1) * s + j - s = i * s + j by rw [Nat.add_mul]; omega, flat_get hf l i j (by simpa using hi) hj]; rfl
end Go.Proofs.YthoeeahdkdcceaaGreat.Sl
namespace Go.Proofs.YthoeeahdkdcceaaGreat.Sl
open Go Go.RowKit Sh
variable {P : Program} {W : World} {L L' : List HP} {Kp : PK} {k : Value -> WP} {H : Type} {enc : TypeId × Value -> H}
def I (n : Int) : Value := .int .i64 n
instance {n : Int} : OC (I n) := ⟨rfl⟩
theorem I_one {l : List Int} : ∀ u ∈ l.map I, u.oneCell' = true := by
 intro u hu; obtain ⟨c, _, rfl⟩ := List.mem_map.1 hu; rfl
theorem I_get {l : List Int} {j : Nat} (h : j < l.length) : (l.map I)[j]? = some (I l[j]) := by simp [h]
def An (n : Nat) (f : Nat -> Int) : Array Value := ((List.range n).map fun j => I (f j)).toArray
theorem An_size (n : Nat) (f : Nat -> Int) : (An n f).size = n := by simp [An]
theorem An_get {n j : Nat} {f : Nat -> Int} (h : j < n) : (An n f)[j]? = some (I (f j)) := by simp [An, h]
theorem An_congr {n : Nat} {f g : Nat -> Int} (h : ∀ j, j < n -> f j = g j) : An n f = An n g := by
 unfold An
 congr 1
 exact List.map_congr_left fun j hj => by rw [h j (List.mem_range.1 hj)]
theorem An_set {n j : Nat} {f : Nat -> Int} {v : Int} : (An n f).setIfInBounds j (I v) = An n fun i => if i = j then v else f i := by
 apply Array.ext_getElem?
 intro i
 rw [Array.getElem?_setIfInBounds, An_size]
 by_cases c : j = i
 ·subst c
  rw [if_pos rfl]
  by_cases h : j < n
  ·rw [if_pos h, An_get h]; simp
  ·rw [if_neg h, Array.getElem?_eq_none (by rw [An_size]; omega)]
 ·rw [if_neg c]
  by_cases h : i < n
  ·rw [An_get h, An_get h, if_neg (fun e => c e.symm)]
  ·rw [Array.getElem?_eq_none (by rw [An_size]; omega), Array.getElem?_eq_none (by rw [An_size]; omega)]
theorem v_slA {t e : TypeId} {s len : Nat} {g l : Nat} {q : IntKind} {i : Int} [ht : ArrT P t len e s] (hi : i = (l : Int)) (hl : l < len) : RunV P W [] (sSl t (.pointer (some ⟨g, 0, none⟩)) (some (.int q i)) none none) (.slice (some ⟨g, l * s, none⟩) (len - l) (len - l)) := fun w _ => by
 have hne : len ≠ l := by omega
 simp [sSl, Instr.sliceAt, Instr.sliceBounds, ht.ut, ht.size, run_bound l hi (Nat.le_of_lt hl), Instr.sureAddr, hne, Addr.add]
 intro h; exact h.symm
theorem rd_cut {A : HP} {g m n l : Nat} {f : Nat -> Int} (h : RdB W A (some ⟨g, 0, none⟩) n ((List.range n).map fun j => I (f j))) (hl : l + m = n) : RdB W A (some ⟨g, l * 1, none⟩) m ((List.range m).map fun j => I (f (l + j))) := by
 have := h.cut (cap := n + 1) (l := l) (h := n) (by omega) (by omega) (by omega)
 rw [if_neg (by omega)] at this
 have e : (Option.map (fun x : Addr => x.add (l * 1)) (some ⟨g, 0, none⟩)) = some ⟨g, l * 1, none⟩ := by simp [addr_add]
 rw [e, show n - l = m by omega] at this
 have e2 : List.take m (List.drop l ((List.range n).map fun j => I (f j))) = (List.range m).map fun j => I (f (l + j)) := by
  apply List.ext_getElem?
  intro j
  rw [List.getElem?_take]
  by_cases c : j < m
  ·rw [if_pos c, List.getElem?_drop, List.getElem?_map, List.getElem?_map, List.getElem?_range (by omega), List.getElem?_range c]; rfl
  ·rw [if_neg c, List.getElem?_eq_none (by simp; omega)]
 rw [e2] at this
 exact this
end Go.Proofs.YthoeeahdkdcceaaGreat.Sl
namespace Go.Proofs.YthoeeahdkdcceaaGreat.HM
def cnt : List Int -> Nat -> Nat
 | [], _ => 0
 | x :: l, j => (if x = (j : Int) then 1 else 0) + cnt l j
theorem cnt_append (j : Nat) : ∀ l m : List Int, cnt (l ++ m) j = cnt l j + cnt m j
 | [], m => by simp [cnt]
 | x :: l, m => by simp [cnt, cnt_append j l m]; omega
theorem cnt_le (j : Nat) : ∀ l : List Int, cnt l j <= l.length
 | [] => by simp [cnt]
 | x :: l => by have := cnt_le j l; simp [cnt]; split <;> omega
theorem cnt_take_succ {l : List Int} {i : Nat} (h : i < l.length) (j : Nat) : cnt (l.take (i + 1)) j = cnt (l.take i) j + if l[i] = (j : Int) then 1 else 0 := by
 rw [List.take_succ_eq_append_getElem h, cnt_append]; simp [cnt]
theorem cnt_take_all (l : List Int) (i j : Nat) : cnt (l.take i) j <= cnt l j := by
 have e := (List.take_append_drop i l).symm
 have : cnt l j = cnt (l.take i) j + cnt (l.drop i) j := by rw [<- cnt_append, <- e]
 omega
def room (l : List Int) : Nat -> Int
 | 0 => 1
 | k + 1 => 2 * room l k - cnt l (k + 1)
def nx (l : List Int) : Nat -> Nat
 | 0 => 0
 | 1 => 0
 | k + 2 => 2 * (nx l (k + 1) + cnt l (k + 1))
def inL (l : List Int) : Prop := ∀ x ∈ l, 0 <= x /\ x <= 15
structure okL (l : List Int) : Prop where
 len : l.length <= 320
 ins : inL l
 room : 0 <= room l 15
instance (l : List Int) : Decidable (inL l) := by unfold inL; infer_instance
instance (l : List Int) : Decidable (okL l) := decidable_of_iff (l.length <= 320 /\ inL l /\ 0 <= HM.room l 15) ⟨fun ⟨a, b, c⟩ => ⟨a, b, c⟩, fun ⟨a, b, c⟩ => ⟨a, b, c⟩⟩
theorem nx_room (l : List Int) : ∀ k, ((nx l (k + 1) + cnt l (k + 1) : Nat) : Int) = 2 ^ (k + 1) - room l (k + 1)
 | 0 => by simp [nx, room]; omega
 | k + 1 => by
  have ih := nx_room l k
  have e : (2 : Int) ^ (k + 1 + 1) = 2 * 2 ^ (k + 1) := by rw [Int.pow_succ]; omega
  rw [e]
  simp only [nx, room] at *
  push_cast at *
  omega
theorem room_neg {l : List Int} {k : Nat} (h : room l k < 0) : ∀ m, room l (k + m) < 0
 | 0 => h
 | m + 1 => by have := room_neg h m; rw [<- Nat.add_assoc]; simp only [room]; omega
theorem room_nonneg {l : List Int} {n k : Nat} (h : 0 <= room l n) (hk : k <= n) : 0 <= room l k := by
 rcases Int.lt_or_le (room l k) 0 with c | c
 ·have := room_neg c (n - k)
  rw [show k + (n - k) = n by omega] at this; omega
 ·exact c
theorem room_le (l : List Int) : ∀ k, room l k ≤ 2 ^ k
  | 0 => by simp [room]
  | k + 1 => by have := room_le l k; have e : (2 : Int) ^ (k + 1) = 2 * 2 ^ k := by rw [Int.pow_succ]; omega
                simp only [room]; omega
theorem okL.fit {l : List Int} (h : okL l) {k : Nat} (hk : k + 1 <= 15) : nx l (k + 1) + cnt l (k + 1) <= 2 ^ (k + 1) := by
 have h1 := nx_room l k
 have h2 := room_nonneg h.room hk
 have h3 : ((nx l (k + 1) + cnt l (k + 1) : Nat) : Int) <= ((2 ^ (k + 1) : Nat) : Int) := by push_cast at *; omega
 exact Int.ofNat_le.1 h3
theorem nx_step (l : List Int) {n : Nat} (h : 1 <= n) : nx l (n + 1) = 2 * (nx l n + cnt l n) := by
 obtain ⟨k, rfl⟩ : ∃ k, n = k + 1 := ⟨n - 1, by omega⟩
 rfl
def cur (l : List Int) (n i : Nat) : Nat := nx l n + cnt (l.take i) n
theorem cur_succ {l : List Int} {n i : Nat} (h : i < l.length) : cur l n (i + 1) = cur l n i + if l[i] = (n : Int) then 1 else 0 := by
 unfold cur; rw [cnt_take_succ h]; omega
theorem cur_next {l : List Int} {n : Nat} (h : 1 <= n) : cur l (n + 1) 0 = 2 * cur l n l.length := by
 unfold cur; rw [nx_step l h]; simp [cnt]
theorem okL.cur_lt {l : List Int} (h : okL l) {n i : Nat} (h1 : 1 <= n) (h2 : n <= 15) : cur l n i <= 2 ^ n := by
 obtain ⟨k, rfl⟩ : ∃ k, n = k + 1 := ⟨n - 1, by omega⟩
 have := h.fit h2
 have := cnt_take_all l i (k + 1)
 unfold cur; omega
theorem okL.cur_lt' {l : List Int} (h : okL l) {n i : Nat} (hi : i < l.length) (hn : l[i] = (n : Int)) (h1 : 1 <= n) (h2 : n <= 15) : cur l n i < 2 ^ n := by
 have := h.cur_lt (i := i + 1) h1 h2
 rw [cur_succ hi, if_pos hn] at this; omega
def codeAt (l : List Int) (i : Nat) : Nat := match l[i]? with
 | some x => if 0 < x then cur l x.toNat i else 0
 | none => 0
def codes (l : List Int) : List Int := (List.range l.length).map fun i => (codeAt l i : Int)
theorem length_codes (l : List Int) : (codes l).length = l.length := by simp [codes]
theorem codeAt_pos {l : List Int} {i n : Nat} (h : i < l.length) (hn : l[i] = (n : Int)) (h1 : 1 <= n) : codeAt l i = cur l n i := by
 unfold codeAt
 rw [List.getElem?_eq_getElem h]
 simp only
 rw [if_pos (by omega), hn, Int.toNat_natCast]
theorem codeAt_zero {l : List Int} {i : Nat} (h : i < l.length) (hn : l[i] <= 0) : codeAt l i = 0 := by
 unfold codeAt
 rw [List.getElem?_eq_getElem h]
 simp only
 rw [if_neg (by omega)]
def wk : List Int -> Nat -> Nat
 | [], _ => 0
 | x :: l, k => (if 0 < x /\ x <= k then 2 ^ (k - x.toNat) else 0) + wk l k
theorem wk_succ (k : Nat) : ∀ l : List Int, wk l (k + 1) = 2 * wk l k + cnt l (k + 1)
 | [] => by simp [wk, cnt]
 | x :: l => by
  have ih := wk_succ k l
  simp only [wk, cnt, ih]
  by_cases h : 0 < x /\ x <= k
  ·rw [if_pos h, if_pos ⟨h.1, by omega⟩, if_neg (by omega), show k + 1 - x.toNat = (k - x.toNat) + 1 by omega, Nat.pow_succ]; omega
  ·rw [if_neg h]
   by_cases h2 : x = ((k + 1 : Nat) : Int)
   ·rw [if_pos (by omega), if_pos h2, show k + 1 - x.toNat = 0 by omega]; omega
   ·rw [if_neg (by omega), if_neg h2]; omega
theorem wk_zero : ∀ l : List Int, wk l 0 = 0
 | [] => rfl
 | x :: l => by simp only [wk, wk_zero l]; rw [if_neg (by omega)]
theorem room_wk (l : List Int) : ∀ k, room l k = 2 ^ k - wk l k
 | 0 => by simp [room, wk_zero]
 | k + 1 => by
  have ih := room_wk l k
  have e : (2 : Int) ^ (k + 1) = 2 * 2 ^ k := by rw [Int.pow_succ]; omega
  rw [wk_succ, room, ih, e]; push_cast; omega
theorem okL_iff {l : List Int} : okL l ↔ l.length <= 320 /\ inL l /\ wk l 15 <= 32768 := by
 have := room_wk l 15
 have e : (2 : Int) ^ 15 = 32768 := by decide
 rw [e] at this
 exact ⟨fun h => ⟨h.len, h.ins, by have := h.room; omega⟩, fun ⟨a, b, c⟩ => ⟨a, b, by omega⟩⟩

end Go.Proofs.YthoeeahdkdcceaaGreat.HM
namespace Go.Proofs.YthoeeahdkdcceaaGreat.HF
open Go Go.Proofs Sh Sl T HM
def A16 (f : Nat -> Int) : Array Value := An 16 f
theorem z16 : (#[.int .i64 0, .int .i64 0, .int .i64 0, .int .i64 0, .int .i64 0, .int .i64 0, .int .i64 0, .int .i64 0, .int .i64 0, .int .i64 0, .int .i64 0, .int .i64 0, .int .i64 0, .int .i64 0, .int .i64 0, .int .i64 0] : Array Value) = A16 fun _ => 0 := by rfl
theorem one16 {f : Nat -> Int} : ∀ u ∈ (A16 f).toList, u.oneCell' = true := by
 intro u hu
 simp only [A16, An] at hu
 obtain ⟨j, _, rfl⟩ := List.mem_map.1 hu
 rfl
theorem counts {W : World} {a : Option Addr} {cap : Nat} {l : List Int} {A : HP} (hr : RdB W A a l.length (l.map I)) (hl : l.length <= 4611686018427387904) :
  Cn p_ 135 [.slice a l.length cap] W [A] (fun f : Nat -> Int => .tuple #[.agg (A16 f), .bool (decide (okL l))]) (fun f => [pu ((okL l -> ∀ j, j < 16 -> f j = cnt l j) /\ ∀ j, 0 <= f j /\ f j <= 320), A]) := by
 (refine S.huff_counts_s.cn fun F => ?_; unfold S.huff_counts; simp only [ca_, na_])
 refine e_newA fun g => ?_; refine o_ v_len ?_
 rw [z16]
 have fin : ∀ (f : Nat -> Int) (b : Bool), b = decide (okL l) -> (okL l -> ∀ j, j < 16 -> f j = cnt l j) -> (∀ j, 0 <= f j /\ f j <= 320) -> Ent W (pt g (.cells (A16 f) 194 (0, 0)) :: A :: F) (opN p_ (sStore 194 (.pointer (some ⟨g, 0, none⟩)) (.agg (A16 f))) noP fun _ =>
   (stS p_ (sRes 194 (.pointer (some ⟨g, 0, none⟩))) fun r0 => fun w => ∃ x : Nat -> Int, (.tuple #[r0, (.bool b)] : Value) = .tuple #[.agg (A16 x), .bool (decide (okL l))] /\ sat W ([pu ((okL l -> ∀ j, j < 16 -> x j = cnt l j) /\ ∀ j, 0 <= x j /\ x j <= 320), A] ++ F) w)) := by
  intro f b hb h1 h2
  refine e_stAgg .here (An_size 16 f) (An_size 16 f) one16 ?_
  refine e_stS (v_resA (An_size 16 f)) (.pick .here .nil) ?_
  subst hb
  refine e_ret f rfl ?_
  exact .pu ⟨h1, h2⟩ (.drop .refl)
 refine e_ask v_gtr .nil (fun h => ?_) (fun h => ?_)
 ·(refine e_condT ?_); refine lg_ ?_
  refine fin _ _ (by rw [dF_ (fun c => by have := c.len; omega)]) (fun c => by have := c.len; omega) (fun j => by omega)
 refine e_condF (o_ v_len ?_)
 have hlen : l.length <= 320 := by omega
 refine e_loop1 (fun m y => [ex fun i : Nat => all [pu (m + i = l.length /\ y = .int .i64 (i : Int) /\ ∀ k (hk : k < l.length), k < i -> 0 <= l[k] /\ l[k] <= 15), pt g (.cells (A16 fun j => (cnt (l.take i) j : Int)) 194 (0, 0)), A]] ++ F) l.length ?_ ?_
 ·refine Imp.ex 0 (.all ?_)
  refine nr_ ?_
  exact .pu ⟨by omega, rfl, fun k hk h => by omega⟩ .refl
 intro m ds y
 refine nr_ ?_
 refine e_ex Pick.here fun i => e_all Pick.here ?_
 refine nr_ ?_
 refine e_pu Pick.here fun hi => ?_
 obtain ⟨hmi, rfl, hin⟩ := hi
 have hb320 : ∀ j, (0 : Int) <= (cnt (l.take i) j : Int) /\ (cnt (l.take i) j : Int) <= 320 := fun j => by
  have := cnt_le j (l.take i)
  rw [List.length_take] at this; omega
 refine e_ask v_lss .nil (fun h => ?_) (fun h => ?_)
 ·have hil : i < l.length := by omega
  obtain ⟨ga, oa, rfl, _⟩ := hr.at_ (by omega)
  refine e_condT (o_ (v_ia1 i (by rfl) hil) ?_)
  refine e_opN (v_ldRd hr (I_get hil)) (.pick (.there .here) .nil) ?_
  refine e_ask v_lss .nil (fun h => ?_) (fun h => ?_)
  ·(refine e_gdF1 ?_); refine e_gdF1 ?_; refine o_ v_pickT ?_; refine e_condT ?_; refine lg_ ?_
   exact fin _ _ (by rw [dF_ (fun c => by have := c.ins l[i] (List.getElem_mem hil); omega)]) (fun c => by have := c.ins l[i] (List.getElem_mem hil); omega) hb320
  have h0 := h
  refine e_gdT (e_gdT (e_ask v_gtr .nil (fun h => ?_) (fun h => ?_)))
  ·(refine o_ v_pickF ?_); refine e_condT ?_; refine lg_ ?_
   exact fin _ _ (by rw [dF_ (fun c => by have := c.ins l[i] (List.getElem_mem hil); omega)]) (fun c => by have := c.ins l[i] (List.getElem_mem hil); omega) hb320
  have h1 := h
  obtain ⟨x, hx⟩ := Int.eq_ofNat_of_zero_le (show 0 <= l[i] by omega)
  have hx15 : x < 16 := by omega
  refine o_ v_pickF (e_condF (o_ (v_iaA x hx hx15) ?_))
  rw [Nat.zero_add, Nat.mul_one]
  refine e_opN (v_ld (An_get hx15)) (.pick .here .nil) ?_
  refine o_ (v_add (by have := hb320 x; omega) (by have := hb320 x; omega)) ?_
  refine o_ (v_iaA x hx hx15) ?_
  rw [Nat.zero_add, Nat.mul_one]
  refine e_st .here (by rw [A16, An_size]; exact hx15) ?_
  refine ad_ ?_
  refine e_next1 (m - 1) (by omega) (.ex (i + 1) (.all ?_))
  refine nr_ ?_
  refine .pu ⟨by omega, by norm_cast, fun k hk hki => ?_⟩ ?_
  ·by_cases c : k = i
   ·subst c; omega
   ·exact hin k hk (by omega)
  ·have e : (A16 fun j => (cnt (l.take i) j : Int)).setIfInBounds x (.int .i64 ((cnt (l.take i) x : Int) + 1)) = A16 fun j => (cnt (l.take (i + 1)) j : Int) := by
    refine An_set.trans (An_congr fun j hj => ?_)
    rw [cnt_take_succ hil]
    by_cases c : j = x
    ·subst c; rw [if_pos rfl, if_pos hx]; push_cast; rfl
    ·rw [if_neg c, if_neg (by omega)]; simp
   rw [e]
   exact im_
 ·have hie : i = l.length := by omega
  subst hie
  rw [List.take_length]
  rw [List.take_length] at hb320
  have hins : inL l := fun x hx => by
   obtain ⟨k, hk, rfl⟩ := List.mem_iff_getElem.1 hx
   exact hin k hk (by omega)
  refine e_condF (o_ (v_slA (l := 1) (by rfl) (by omega)) ?_)
  refine o_ v_len ?_
  have hrd : RdB W (pt g (.cells (A16 fun j => (cnt l j : Int)) 194 (0, 0))) (some ⟨g, 1 * 1, none⟩) 15 ((List.range 15).map fun j => I (cnt l (1 + j))) := rd_cut (n := 16) (f := fun j => (cnt l j : Int)) (rd_pt (by simp)) (by omega)
  refine e_loop2 (fun m x y => [all [pu (∃ i : Nat, m + i = 15 /\ i <= 15 /\ y = .int .i64 (i : Int) /\ x = .int .i64 (room l i) /\ ∀ k, k <= i -> 0 <= room l k), pt g (.cells (A16 fun j => (cnt l j : Int)) 194 (0, 0)), A]] ++ F) 15 ?_ ?_
  ·refine Imp.all ?_
   refine nr_ ?_
   exact .pu ⟨0, by omega, by omega, rfl, rfl, fun k hk => by rw [show k = 0 by omega]; simp [room]⟩ .refl
  intro m ds x y
  refine nr_ ?_
  refine e_all Pick.here ?_
  refine nr_ ?_
  refine e_pu Pick.here fun hi => ?_
  obtain ⟨i, hmi, hi15, rfl, rfl, hrm⟩ := hi
  have hr0 := hrm i (Nat.le_refl _)
  have hr1 := room_le l i
  have h2i : (2 : Int) ^ i <= 32768 := by
   have h1 : (2 : Nat) ^ i <= 32768 := Nat.le_trans (Nat.pow_le_pow_right (by omega) hi15) (by decide)
   have h2 : ((2 ^ i : Nat) : Int) = 2 ^ i := Int.natCast_pow 2 i
   omega
  refine e_ask v_lss .nil (fun h => ?_) (fun h => ?_)
  ·have hi14 : i < 15 := by omega
   refine e_condT (o_ (v_ia1 i (by rfl) (by omega)) ?_)
   refine e_opN (v_ldRd hrd (v := I (cnt l (1 + i))) (by rw [List.getElem?_map, List.getElem?_range hi14]; rfl)) (.pick .here .nil) ?_
   have hc := hb320 (1 + i)
   (refine o_ (v_mul (by omega) (by omega)) ?_); refine sb_ ?_
   have hroom : 2 * room l i - (cnt l (1 + i) : Int) = room l (i + 1) := by rw [room, Nat.add_comm 1 i]
   rw [hroom]
   refine e_ask v_lss .nil (fun h => ?_) (fun h => ?_)
   ·(refine e_condT ?_); refine lg_ ?_
    exact fin _ _ (by rw [dF_ (fun c => by have := room_nonneg c.room (show i + 1 <= 15 by omega); omega)]) (fun _ j _ => rfl) hb320
   ·refine e_condF (ad_ ?_)
    refine e_next2 (m - 1) (by omega) (.all ?_)
    refine nr_ ?_
    refine .pu ⟨i + 1, by omega, by omega, by norm_cast, rfl, fun k hk => ?_⟩ .refl
    by_cases c : k = i + 1
    ·subst c; omega
    ·exact hrm k (by omega)
  ·have hie : i = 15 := by omega
   subst hie
   refine e_condF (lg_ ?_)
   exact fin _ _ (by rw [dT_ ⟨hlen, hins, hr0⟩]) (fun _ j _ => rfl) hb320
def Ln (n : Nat) (f : Nat -> Int) : List Value := (List.range n).map fun j => I (f j)
theorem Ln_len (n : Nat) (f : Nat -> Int) : (Ln n f).length = n := by simp [Ln]
theorem Ln_get {n j : Nat} {f : Nat -> Int} (h : j < n) : (Ln n f)[j]? = some (I (f j)) := by simp [Ln, h]
theorem Ln_ext {n : Nat} {f : Nat -> Int} {m : List Value} (hm : m.length = n) (h : ∀ j, j < n -> m[j]? = some (I (f j))) : Ln n f = m := by
 apply List.ext_getElem?
 intro j
 by_cases c : j < n
 ·rw [Ln_get c, h j c]
 ·rw [List.getElem?_eq_none (by rw [Ln_len]; omega), List.getElem?_eq_none (by omega)]
theorem Ln_congr {n : Nat} {f g : Nat -> Int} (h : ∀ j, j < n -> f j = g j) : Ln n f = Ln n g := Ln_ext (Ln_len n g) fun j hj => by rw [Ln_get hj, h j hj]
theorem Ln_set {n j : Nat} {f : Nat -> Int} {v : Int} : (Ln n f).set j (I v) = Ln n fun i => if i = j then v else f i := by
 refine (Ln_ext (by simp [Ln_len]) fun i hi => ?_).symm
 rw [List.getElem?_set, Ln_len]
 by_cases c : j = i
 ·subst c; simp [hi]
 ·rw [if_neg c, Ln_get hi, if_neg (fun e => c e.symm)]
theorem Ln_zero (n : Nat) : List.replicate n (.int .i64 0) = Ln n fun _ => 0 := (Ln_ext (by simp) fun j hj => by rw [List.getElem?_replicate, if_pos hj]; rfl).symm
def cdR (l : List Int) : Int := if okL l then 0 else 30
def cdL (l : List Int) : List Int := if okL l then codes l else []
theorem Ln_codes (l : List Int) : Ln l.length (fun k => if k < l.length then (codeAt l k : Int) else 0) = (codes l).map I := Ln_ext (by rw [List.length_map, length_codes]) fun j hj => by
 rw [if_pos hj, List.getElem?_map, codes, List.getElem?_map, List.getElem?_range hj]; rfl
theorem pow15 {i : Nat} (h : i <= 15) : (2 : Nat) ^ i <= 32768 := Nat.le_trans (Nat.pow_le_pow_right (by omega) h) (by decide)
theorem nx_small {l : List Int} (h : okL l) {k : Nat} (hk : k <= 15) : nx l k <= 32768 := by
 match k, hk with
 | 0, _ => simp [nx]
 | k + 1, hk => have := h.fit hk; have := pow15 hk; omega
theorem codes_ {W : World} {a : Option Addr} {cap : Nat} {l : List Int} {A : HP} (hr : RdB W A a l.length (l.map I)) (hl : l.length <= 4611686018427387904) :
  Cn p_ 106 [.slice a l.length cap] W [A] (fun q : Option Addr × Nat => .tuple #[.slice q.1 (cdL l).length q.2, .int .i64 (cdR l)]) (fun q => [Sl 1 3 q.1 q.2 (cdL l).length ((cdL l).map I), A]) := by
 (refine S.huff_Codes_s.cn fun F => ?_; unfold S.huff_Codes; simp only [ca_, na_])
 refine c_ (counts hr hl) fun _ => ?_
 rename_i f
 refine e_pu Pick.here fun hf => ?_
 obtain ⟨hf1, hf2⟩ := hf
 refine o_ (v_ext (v := .agg (A16 f)) rfl) ?_
 refine o_ (v_ext (v := .bool (decide (okL l))) rfl) ?_
 refine e_newA fun g => ?_
 refine e_stAgg .here (by rfl) (An_size 16 f) one16 ?_
 by_cases hok : ¬ okL l
 ·rw [dF_ hok]
  have hR : cdR l = 30 := by simp [cdR, hok]
  have hB : cdL l = [] := by simp [cdL, hok]
  rw [hR, hB]
  refine o_ v_notF (e_condT (rt_ ((none, 0)) ?_))
  refine imp_nil ?_
  exact im_
 have hok := Decidable.not_not.1 hok
 rw [dT_ hok]
 have hR : cdR l = 0 := by simp [cdR, hok]
 have hB : cdL l = codes l := by simp [cdL, hok]
 have hlen := hok.len
 have hcl := length_codes l
 rw [hR, hB]
 have hf := hf1 hok
 refine o_ v_not (e_condF (o_ (v_iaA 0 (by rfl) (by omega)) ?_))
 refine e_st .here (by rw [A16, An_size]; omega) ?_
 rw [show (A16 f).setIfInBounds (0 + 0 * 1) (.int .i64 0) = A16 (fun j => if j = 0 then 0 else (cnt l j : Int)) from An_set.trans (An_congr fun j hj => by
  by_cases c : j = 0
  ·rw [if_pos c, if_pos c]
  ·rw [if_neg c, if_neg c, hf j hj])]
 refine e_newA fun g2 => ?_
 rw [z16]
 refine e_loop1 (fun m y => [ex fun i : Nat => all [pu (m + i = 16 /\ 1 <= i /\ y = .int .i64 (i : Int)), pt g2 (.cells (A16 fun j => if j < i then (nx l j : Int) else 0) 194 (0, 0)), pt g (.cells (A16 fun j => if j = 0 then 0 else (cnt l j : Int)) 194 (0, 0)), A]] ++ F) 15 ?_ ?_
 ·refine Imp.ex 1 (.all ?_)
  refine nr_ ?_
  refine .pu ⟨by omega, by omega, rfl⟩ ?_
  rw [show A16 (fun j => if j < 1 then (nx l j : Int) else 0) = A16 (fun _ => 0) from An_congr fun j hj => by
   by_cases c : j < 1
   ·rw [if_pos c, show j = 0 by omega]; simp [nx]
   ·rw [if_neg c]]
  exact im_
 ·intro m ds y
  refine nr_ ?_
  refine e_ex Pick.here fun i => e_all Pick.here ?_
  refine nr_ ?_
  refine e_pu Pick.here fun hi => ?_
  obtain ⟨hmi, hi1, rfl⟩ := hi
  refine e_ask v_leq .nil (fun h => ?_) (fun h => ?_)
  ·have hi15 : i <= 15 := by omega
   obtain ⟨k, rfl⟩ : ∃ k, i = k + 1 := ⟨i - 1, by omega⟩
   have hk1 := nx_small hok (show k <= 15 by omega)
   have hk2 := nx_small hok hi15
   have hk3 := cnt_le k l
   refine e_condT (e_drS ?_); (refine t_ (v_sub (by omega) (by omega)) ?_)
   refine t_ (v_iaA k (by omega) (by omega)) ?_
   refine e_stS (v_ld (v := I (nx l k)) (by rw [Nat.zero_add, Nat.mul_one, A16, An_get (by omega), if_pos (by omega)])) (.pick .here .nil) ?_
   (refine t_ (v_sub (by omega) (by omega)) ?_)
   refine t_ (v_iaA k (by omega) (by omega)) ?_
   refine e_stS (v_ld (v := I (if k = 0 then 0 else (cnt l k : Int))) (by rw [Nat.zero_add, Nat.mul_one, A16, An_get (by omega)])) (.pick (.there .here) .nil) ?_
   have hs : ((nx l k : Int) + (if k = 0 then 0 else (cnt l k : Int))) * 2 = (nx l (k + 1) : Int) := by
    match k with
    | 0 => simp [nx]
    | k + 1 => rw [if_neg (by omega), nx]; push_cast; omega
   obtain ⟨c, hc⟩ : ∃ c, c = (if k = 0 then 0 else (cnt l k : Int)) := ⟨_, rfl⟩
   rw [<- hc] at hs ⊢
   refine t_ (v_add (by omega) (by omega)) ?_
   refine t_ (v_shl (by omega)) ?_
   rw [show ((nx l k : Int) + c) * 2 ^ (min ((1 : Int)).toNat IntKind.i64.bits) = (nx l (k + 1) : Int) by rw [<- hs]; rfl, w64 (by omega) (by omega)]
   refine t_ (v_iaA (k + 1) (by norm_cast) (by omega)) ?_
   refine e_st .here (by rw [A16, An_size]; omega) ?_
   rw [show (A16 fun j => if j < k + 1 then (nx l j : Int) else 0).setIfInBounds (0 + (k + 1) * 1) (.int .i64 (nx l (k + 1) : Int)) = A16 (fun j => if j < k + 1 + 1 then (nx l j : Int) else 0) from by
    rw [Nat.zero_add, Nat.mul_one]
    refine An_set.trans (An_congr fun j hj => ?_)
    by_cases e : j = k + 1
    ·subst e; rw [if_pos rfl, if_pos (by omega)]
    ·rw [if_neg e]
     by_cases e2 : j < k + 1
     ·rw [if_pos e2, if_pos (by omega)]
     ·rw [if_neg e2, if_neg (by omega)]]
   refine ad_ ?_
   refine e_next1 (m - 1) (by omega) (.ex (k + 1 + 1) (.all ?_))
   refine nr_ ?_
   exact .pu ⟨by omega, by omega, by norm_cast⟩ .refl
  ·have : i = 16 := by omega
   subst this
   refine e_condF (o_ v_len (e_mksl l.length l.length (by rfl) (by rfl) (by omega) (by omega) (by unfold maxLen; omega) fun g3 => ?_))
   rw [Ln_zero]
   refine o_ v_len (e_loop1 (fun m y => [ex fun i : Nat => all [pu (m + i = l.length /\ y = .int .i64 (i : Int)), Sl 1 3 (some ⟨g3, 0, none⟩) l.length l.length (Ln l.length fun k => if k < i then (codeAt l k : Int) else 0), pt g2 (.cells (A16 fun j => if j = 0 then 0 else (cur l j i : Int)) 194 (0, 0)), A]] ++ F) l.length ?_ ?_)
   ·refine Imp.ex 0 (.all ?_)
    refine nr_ ?_
    refine .pu ⟨by omega, rfl⟩ ?_
    rw [show A16 (fun j => if j = 0 then 0 else (cur l j 0 : Int)) = A16 (fun j => if j < 16 then (nx l j : Int) else 0) from An_congr fun j hj => by
     rw [if_pos hj]
     by_cases c : j = 0
     ·rw [if_pos c, c]; simp [nx]
     ·rw [if_neg c]; simp [cur, cnt]]
    exact im_
   ·intro m ds y
    refine nr_ ?_
    refine e_ex Pick.here fun i => e_all Pick.here ?_
    refine nr_ ?_
    refine e_pu Pick.here fun hi => ?_
    obtain ⟨hmi, rfl⟩ := hi
    refine e_ask v_lss .nil (fun h => ?_) (fun h => ?_)
    ·have hil : i < l.length := by omega
     obtain ⟨ga, oa, rfl, _⟩ := hr.at_ (by omega)
     refine e_condT (o_ (v_ia1 i (by rfl) hil) ?_)
     refine e_opN (v_ldRd hr (I_get hil)) (.pick (.there (.there .here)) .nil) ?_
     have hin := hok.ins l[i] (List.getElem_mem hil)
     refine e_ask v_gtr .nil (fun h => ?_) (fun h => ?_)
     ·obtain ⟨x, hx⟩ := Int.eq_ofNat_of_zero_le (show 0 <= l[i] by omega)
      have hx15 : x < 16 := by omega
      have hcu := hok.cur_lt' hil hx (by omega) (by omega)
      have h15 := pow15 (show x <= 15 by omega)
      refine e_condT (o_ (v_iaA x hx hx15) ?_)
      refine e_opN (v_ld (v := I (cur l x i)) (by rw [Nat.zero_add, Nat.mul_one, A16, An_get hx15, if_neg (by omega)])) (.pick (.there .here) .nil) ?_
      refine o_ (v_ia1 i (by rfl) hil) ?_
      refine e_stSl .here (by rw [Ln_len]; omega) ?_
      rw [show (Ln l.length fun k => if k < i then (codeAt l k : Int) else 0).set (0 + i) (I (cur l x i)) = Ln l.length (fun k => if k < i + 1 then (codeAt l k : Int) else 0) from by
       rw [Nat.zero_add]
       refine Ln_set.trans (Ln_congr fun j hj => ?_)
       by_cases e : j = i
       ·subst e; rw [if_pos rfl, if_pos (by omega), codeAt_pos hil hx (by omega)]
       ·rw [if_neg e]
        by_cases e2 : j < i
        ·rw [if_pos e2, if_pos (by omega)]
        ·rw [if_neg e2, if_neg (by omega)]]
      refine o_ (v_iaA x hx hx15) ?_
      refine e_opN (v_ld (v := I (cur l x i)) (by rw [Nat.zero_add, Nat.mul_one, A16, An_get hx15, if_neg (by omega)])) (.pick (.there .here) .nil) ?_
      refine ad_ ?_
      refine o_ (v_iaA x hx hx15) ?_
      refine e_st (.there .here) (by rw [A16, An_size]; omega) ?_
      rw [show (A16 fun j => if j = 0 then 0 else (cur l j i : Int)).setIfInBounds (0 + x * 1) (.int .i64 ((cur l x i : Int) + 1)) = A16 (fun j => if j = 0 then 0 else (cur l j (i + 1) : Int)) from by
       rw [Nat.zero_add, Nat.mul_one]
       refine An_set.trans (An_congr fun j hj => ?_)
       rw [cur_succ hil]
       by_cases e : j = x
       ·subst e; rw [if_pos rfl, if_neg (by omega), if_pos hx]; push_cast; rfl
       ·rw [if_neg e, if_neg (show ¬ l[i] = (j : Int) by omega)]; simp]
      refine ad_ ?_
      refine e_next1 (m - 1) (by omega) (.ex (i + 1) (.all ?_))
      refine nr_ ?_
      refine .pu ⟨by omega, by norm_cast⟩ ?_
      exact im_
     ·(refine e_condF ?_); refine ad_ ?_
      refine e_next1 (m - 1) (by omega) (.ex (i + 1) (.all ?_))
      refine nr_ ?_
      refine .pu ⟨by omega, by norm_cast⟩ ?_
      rw [show (Ln l.length fun k => if k < i + 1 then (codeAt l k : Int) else 0) = Ln l.length (fun k => if k < i then (codeAt l k : Int) else 0) from Ln_congr fun j hj => by
       by_cases e : j = i
       ·subst e; rw [if_pos (by omega), if_neg (by omega), codeAt_zero hil (by omega)]; rfl
       ·by_cases e2 : j < i
        ·rw [if_pos e2, if_pos (by omega)]
        ·rw [if_neg e2, if_neg (by omega)]]
      rw [show A16 (fun j => if j = 0 then 0 else (cur l j (i + 1) : Int)) = A16 (fun j => if j = 0 then 0 else (cur l j i : Int)) from An_congr fun j hj => by
       by_cases e : j = 0
       ·rw [if_pos e, if_pos e]
       ·rw [if_neg e, if_neg e, cur_succ hil, if_neg (by omega)]; simp]
      exact im_
    ·have : i = l.length := by omega
     subst this
     refine e_condF ?_
     rw [Ln_codes]
     refine e_ret (some ⟨g3, 0, none⟩, l.length) (by rw [hcl]) ?_
     rw [hcl]
     exact im_
def wsm (l : List Int) : Int := if inL l then (wk l 15 : Int) else 0
theorem wk_append (k : Nat) : ∀ l m : List Int, wk (l ++ m) k = wk l k + wk m k
 | [], m => by simp [wk]
 | x :: l, m => by simp only [List.cons_append, wk, wk_append k l m]; omega
theorem wk_le : ∀ l : List Int, wk l 15 <= 16384 * l.length
 | [] => by simp [wk]
 | x :: l => by
  have := wk_le l
  simp only [wk, List.length_cons]
  split
  ·rename_i h
   have h2 : 2 ^ (15 - x.toNat) <= 2 ^ 14 := Nat.pow_le_pow_right (by omega) (by omega)
   have e : (2 : Nat) ^ 14 = 16384 := by decide
   omega
  ·omega
theorem wk_take {l : List Int} {i : Nat} (h : i < l.length) (hp : 0 < l[i] /\ l[i] <= 15) : wk (l.take (i + 1)) 15 = wk (l.take i) 15 + 2 ^ (15 - l[i].toNat) := by
 rw [List.take_succ_eq_append_getElem h, wk_append]
 simp only [wk]
 rw [if_pos ⟨hp.1, by omega⟩]; omega
theorem wk_take0 {l : List Int} {i : Nat} (h : i < l.length) (hp : ¬ 0 < l[i]) : wk (l.take (i + 1)) 15 = wk (l.take i) 15 := by
 rw [List.take_succ_eq_append_getElem h, wk_append]
 simp only [wk]
 rw [if_neg (by omega)]; omega
theorem wrapu64' {n : Int} (h0 : 0 <= n) (h : n < 18446744073709551616) : IntKind.u64.wrap n = n := by
 obtain ⟨N, rfl⟩ := Int.eq_ofNat_of_zero_le h0
 simp only [IntKind.wrap, IntKind.bits, IntKind.signed]
 simp; omega
theorem shl64 {a : Int} {k : Nat} (hk : k <= 32) (h0 : 0 <= a) (h : a <= 65536) : IntKind.i64.wrap (a * 2 ^ (min ((k : Int)).toNat IntKind.i64.bits)) = a * ((2 ^ k : Nat) : Int) := by
 have h2 : (2 : Nat) ^ k <= 2 ^ 32 := Nat.pow_le_pow_right (by omega) hk
 have e : (2 : Nat) ^ 32 = 4294967296 := by decide
 rw [show min ((k : Int)).toNat IntKind.i64.bits = k by simp only [IntKind.bits, Int.toNat_natCast]; omega, show (2 : Int) ^ k = ((2 ^ k : Nat) : Int) from (Int.natCast_pow 2 k).symm]
 obtain ⟨E, hE⟩ : ∃ E : Nat, E = 2 ^ k := ⟨_, rfl⟩
 rw [<- hE] at h2 ⊢
 have h3 : a * (E : Int) <= 65536 * 4294967296 := Int.mul_le_mul h (by omega) (by omega) (by omega)
 have h4 : 0 <= a * (E : Int) := Int.mul_nonneg h0 (by omega)
 exact w64 (by omega) (by omega)
theorem weight {W : World} {a : Option Addr} {cap : Nat} {l : List Int} {A : HP} (hr : RdB W A a l.length (l.map I)) (hl : l.length <= 1099511627776) :
  Cn p_ 144 [.slice a l.length cap] W [A] (fun _ : Unit => .tuple #[.int .i64 (wsm l), .bool (decide (okL l))]) (fun _ => [A]) := by
 (refine S.ref03_weight_s.cn fun F => ?_; unfold S.ref03_weight; simp only [ca_, na_])
 refine e_loop2 (fun m x y => [all [pu (∃ i : Nat, m + i = l.length /\ y = .int .i64 (i : Int) /\ x = .int .i64 (wk (l.take i) 15 : Int) /\ ∀ k (hk : k < l.length), k < i -> 0 <= l[k] /\ l[k] <= 15), A]] ++ F) l.length ?_ ?_
 ·refine Imp.all ?_
  refine nr_ ?_
  exact .pu ⟨0, by omega, rfl, rfl, fun k hk h => by omega⟩ .refl
 intro m ds x y
 refine nr_ ?_
 refine e_all Pick.here ?_
 refine nr_ ?_
 refine e_pu Pick.here fun hi => ?_
 obtain ⟨i, hmi, rfl, rfl, hin⟩ := hi
 have hwl := wk_le (l.take i)
 rw [List.length_take] at hwl
 refine o_ v_len (e_ask v_lss .nil (fun h => ?_) (fun h => ?_))
 ·have hil : i < l.length := by omega
  obtain ⟨ga, oa, rfl, _⟩ := hr.at_ (by omega)
  have bad : ¬ (0 <= l[i] /\ l[i] <= 15) -> ¬ inL l := fun hn c => hn (c l[i] (List.getElem_mem hil))
  refine e_condT (o_ (v_ia1 i (by rfl) hil) ?_)
  refine e_opN (v_ldRd hr (I_get hil)) (.pick .here .nil) ?_
  refine e_ask v_lss .nil (fun h => ?_) (fun h => ?_)
  ·have hb := bad (by omega)
   rw [show wsm l = 0 from if_neg hb, dF_ (fun c => hb c.ins)]
   refine e_gdF1 (e_gdF1 (e_gdF1 (e_gdF1 (e_gdF1 (o_ v_pickT (e_condT (rt_ () ?_)))))))
   exact im_
  have h0 := h
  refine e_gdT (e_gdT (e_gdT (o_ (v_ia1 i (by rfl) hil) ?_)))
  refine e_gdT (e_opN (v_ldRd hr (I_get hil)) (.pick .here .nil) ?_)
  refine e_gdT (e_ask v_gtr .nil (fun h => ?_) (fun h => ?_))
  ·have hb := bad (by omega)
   rw [show wsm l = 0 from if_neg hb, dF_ (fun c => hb c.ins)]
   refine o_ v_pickF (e_condT (rt_ () ?_))
   exact im_
  have h1 := h
  refine o_ v_pickF (e_condF (o_ (v_ia1 i (by rfl) hil) ?_))
  refine e_opN (v_ldRd hr (I_get hil)) (.pick .here .nil) ?_
  have hin' : ∀ k (hk : k < l.length), k < i + 1 -> 0 <= l[k] /\ l[k] <= 15 := fun k hk hki => by
   by_cases c : k = i
   ·subst c; omega
   ·exact hin k hk (by omega)
  refine e_ask v_gtr .nil (fun h => ?_) (fun h => ?_)
  ·refine e_condT (o_ (v_ia1 i (by rfl) hil) ?_)
   refine e_opN (v_ldRd hr (I_get hil)) (.pick .here .nil) ?_
   refine sb_ ?_
   refine o_ v_conv ?_
   obtain ⟨x, hx⟩ := Int.eq_ofNat_of_zero_le (show 0 <= l[i] by omega)
   rw [wrapu64' (by omega) (by omega), show (15 : Int) - l[i] = ((15 - x : Nat) : Int) by omega]
   refine o_ (v_shl (by omega)) ?_
   rw [shl64 (by omega) (by omega) (by omega), Int.one_mul]
   have h15 := pow15 (show 15 - x <= 15 by omega)
   obtain ⟨E, hE⟩ : ∃ E : Nat, E = 2 ^ (15 - x) := ⟨_, rfl⟩
   rw [<- hE] at h15 ⊢
   refine ad_ ?_
   refine ad_ ?_
   refine e_next2 (m - 1) (by omega) (.all ?_)
   refine nr_ ?_
   refine .pu ⟨i + 1, by omega, by norm_cast, ?_, hin'⟩ .refl
   rw [wk_take hil (by omega), hx, Int.toNat_natCast, <- hE]; push_cast; rfl
  ·(refine e_condF ?_); refine ad_ ?_
   refine e_next2 (m - 1) (by omega) (.all ?_)
   refine nr_ ?_
   refine .pu ⟨i + 1, by omega, by norm_cast, ?_, hin'⟩ .refl
   rw [wk_take0 hil h]
 ·have hie : i = l.length := by omega
  subst hie
  rw [List.take_length]
  rw [List.take_length] at hwl
  have hins : inL l := fun x hx => by
   obtain ⟨k, hk, rfl⟩ := List.mem_iff_getElem.1 hx
   exact hin k hk (by omega)
  rw [show wsm l = (wk l 15 : Int) from if_pos hins]
  refine e_condF (o_ v_len (e_ask v_leq .nil (fun h => ?_) (fun h => ?_)))
  ·(refine e_gdT ?_); refine e_gdT ?_
   refine o_ v_leq ?_
   rw [show decide ((wk l 15 : Int) <= 32768) = decide (okL l) from decide_eq_decide.2 ⟨fun c => okL_iff.2 ⟨by omega, hins, by omega⟩, fun c => by have := (okL_iff.1 c).2.2; omega⟩]
   refine o_ v_pickT (rt_ () ?_)
   exact im_
  ·(refine e_gdF2 ?_); refine e_gdF2 ?_; refine o_ v_pickF ?_
   rw [dF_ (fun c : okL l => by have := c.len; omega)]
   refine rt_ () ?_
   exact im_
def dn (l : List Int) (n i k : Nat) : Int := match l[k]? with
 | some x => if 0 < x /\ (x < n \/ x = n /\ k < i) then (codeAt l k : Int) else 0
 | none => 0
theorem dn_at {l : List Int} {n i k : Nat} (h : k < l.length) : dn l n i k = if 0 < l[k] /\ (l[k] < n \/ l[k] = n /\ k < i) then (codeAt l k : Int) else 0 := by
 unfold dn; rw [List.getElem?_eq_getElem h]
theorem dn_skip {l : List Int} {n i k : Nat} (hi : i < l.length) (hne : l[i] ≠ (n : Int)) (h : k < l.length) : dn l n (i + 1) k = dn l n i k := by
 rw [dn_at h, dn_at h]
 by_cases c : k = i
 ·subst c
  by_cases d : 0 < l[k] /\ l[k] < n
  ·rw [if_pos ⟨d.1, .inl d.2⟩, if_pos ⟨d.1, .inl d.2⟩]
  ·rw [if_neg (by omega), if_neg (by omega)]
 ·by_cases d : 0 < l[k] /\ (l[k] < n \/ l[k] = n /\ k < i)
  ·rw [if_pos d, if_pos (by omega)]
  ·rw [if_neg d, if_neg (by omega)]
theorem dn_put {l : List Int} {n i k : Nat} (hi : i < l.length) (hn : 1 <= n) (he : l[i] = (n : Int)) (h : k < l.length) : dn l n (i + 1) k = if k = i then (codeAt l i : Int) else dn l n i k := by
 rw [dn_at h, dn_at h]
 by_cases c : k = i
 ·subst c
  rw [if_pos rfl, if_pos (by omega)]
 ·rw [if_neg c]
  by_cases d : 0 < l[k] /\ (l[k] < n \/ l[k] = n /\ k < i)
  ·rw [if_pos d, if_pos (by omega)]
  ·rw [if_neg d, if_neg (by omega)]
theorem dn_next {l : List Int} {n k : Nat} (h : k < l.length) : dn l n l.length k = dn l (n + 1) 0 k := by
 rw [dn_at h, dn_at h]
 by_cases d : 0 < l[k] /\ (l[k] < n \/ l[k] = n /\ k < l.length)
 ·rw [if_pos d, if_pos (by omega)]
 ·rw [if_neg d, if_neg (by omega)]
theorem dn_first {l : List Int} {k : Nat} : dn l 1 0 k = 0 := by
 unfold dn
 split
 ·rw [if_neg (by omega)]
 ·rfl
theorem dn_last {l : List Int} {k : Nat} (hin : inL l) (h : k < l.length) : dn l 16 0 k = codeAt l k := by
 have := hin l[k] (List.getElem_mem h)
 rw [dn_at h]
 by_cases d : 0 < l[k]
 ·rw [if_pos (by omega)]
 ·rw [if_neg (by omega), codeAt_zero h (by omega)]; rfl
def St (l : List Int) (n i : Nat) (code last : Int) : Prop := (last = 0 /\ code = 0 /\ cur l n i = 0) \/ ∃ c p : Nat, code = c /\ last = p /\ 1 <= p /\ p <= n /\ (c + 1) * 2 ^ (n - p) = cur l n i
theorem refCodes {W : World} {a : Option Addr} {cap : Nat} {l : List Int} {A : HP} (hr : RdB W A a l.length (l.map I)) (hl : l.length <= 1099511627776) :
  Cn p_ 114 [.slice a l.length cap] W [A] (fun q : Option Addr × Nat => .tuple #[.slice q.1 (cdL l).length q.2, .int .i64 (cdR l)]) (fun q => [Sl 1 3 q.1 q.2 (cdL l).length ((cdL l).map I), A]) := by
 (refine S.ref03_Codes_s.cn fun F => ?_; unfold S.ref03_Codes; simp only [ca_, na_])
 refine c_ (weight hr hl) fun _ => ?_
 refine o_ (v_ext (v := .int .i64 (wsm l)) rfl) ?_
 refine o_ (v_ext (v := .bool (decide (okL l))) rfl) ?_
 by_cases hok : ¬ okL l
 ·rw [dF_ hok]
  have hR : cdR l = 30 := by simp [cdR, hok]
  have hB : cdL l = [] := by simp [cdL, hok]
  rw [hR, hB]
  refine o_ v_notF (e_condT (rt_ ((none, 0)) ?_))
  refine imp_nil ?_
  exact im_
 have hok := Decidable.not_not.1 hok
 rw [dT_ hok]
 have hR : cdR l = 0 := by simp [cdR, hok]
 have hB : cdL l = codes l := by simp [cdL, hok]
 have hlen := hok.len
 have hcl := length_codes l
 rw [hR, hB]
 refine o_ v_notT (e_condF (o_ v_len (e_mksl l.length l.length (by rfl) (by rfl) (by omega) (by omega) (by unfold maxLen; omega) fun g3 => ?_)))
 rw [Ln_zero]
 refine e_loop3 (fun m x y z => [ex fun n : Nat => all [pu (m + n = 16 /\ 1 <= n /\ z = .int .i64 (n : Int) /\ ∃ c p : Int, x = .int .i64 c /\ y = .int .i64 p /\ St l n 0 c p), Sl 1 3 (some ⟨g3, 0, none⟩) l.length l.length (Ln l.length (dn l n 0)), A]] ++ F) 15 ?_ ?_
 ·refine Imp.ex 1 (.all ?_)
  refine nr_ ?_
  refine .pu ⟨by omega, by omega, rfl, 0, 0, rfl, rfl, .inl ⟨rfl, rfl, by simp [cur, nx, cnt]⟩⟩ ?_
  rw [Ln_congr (fun j _ => dn_first (l := l) (k := j))]
  exact im_
 intro m ds x y z
 refine nr_ ?_
 refine e_ex Pick.here fun n => e_all Pick.here ?_
 refine nr_ ?_
 refine e_pu Pick.here fun hi => ?_
 obtain ⟨hmn, hn1, rfl, c, p, rfl, rfl, hst⟩ := hi
 refine e_ask v_leq .nil (fun h => ?_) (fun h => ?_)
 ·have hn15 : n <= 15 := by omega
  refine e_condT (e_loop3 (fun m2 x y z => [ex fun i : Nat => all [pu (m2 + i = l.length /\ z = .int .i64 (i : Int) /\ ∃ c p : Int, x = .int .i64 c /\ y = .int .i64 p /\ St l n i c p), Sl 1 3 (some ⟨g3, 0, none⟩) l.length l.length (Ln l.length (dn l n i)), A]] ++ F) l.length ?_ ?_)
  ·refine Imp.ex 0 (.all ?_)
   refine nr_ ?_
   exact .pu ⟨by omega, rfl, c, p, rfl, rfl, hst⟩ .refl
  clear hst
  intro m2 ds x y z
  refine nr_ ?_
  refine e_ex Pick.here fun i => e_all Pick.here ?_
  refine nr_ ?_
  refine e_pu Pick.here fun hi => ?_
  obtain ⟨hmi, rfl, c, p, rfl, rfl, hst⟩ := hi
  have h15 := pow15 hn15
  refine o_ v_len (e_ask v_lss .nil (fun h => ?_) (fun h => ?_))
  ·have hil : i < l.length := by omega
   obtain ⟨ga, oa, rfl, _⟩ := hr.at_ (by omega)
   refine e_condT (o_ (v_ia1 i (by rfl) hil) ?_)
   refine e_opN (v_ldRd hr (I_get hil)) (.pick (.there .here) .nil) ?_
   refine e_ask v_neq .nil (fun h => ?_) (fun h => ?_)
   ·(refine e_condT ?_); refine ad_ ?_
    refine e_next3 (m2 - 1) (by omega) (.ex (i + 1) (.all ?_))
    refine nr_ ?_
    refine .pu ⟨by omega, by norm_cast, c, p, rfl, rfl, ?_⟩ ?_
    ·unfold St at hst ⊢
     rw [cur_succ hil, if_neg h]; exact hst
    ·rw [Ln_congr (fun j hj => dn_skip hil h hj)]
     exact im_
   ·have hln : l[i] = (n : Int) := Decidable.not_not.1 h
    have hcu := hok.cur_lt' hil hln hn1 hn15
    have hca := codeAt_pos hil hln hn1
    refine e_condF (e_cut1 (fun z => pu (z = .int .i64 (codeAt l i : Int)) :: Sl 1 3 (some ⟨g3, 0, none⟩) l.length l.length (Ln l.length (dn l n i)) :: A :: F) ?_ ?_)
    ·intro ds z
     refine e_pu Pick.here fun hz => ?_
     subst hz
     refine o_ (v_ia1 i (by rfl) hil) ?_
     refine e_stSl .here (by rw [Ln_len]; omega) ?_
     rw [show (Ln l.length (dn l n i)).set (0 + i) (.int .i64 (codeAt l i : Int)) = Ln l.length (dn l n (i + 1)) from by
      rw [Nat.zero_add]
      exact Ln_set.trans (Ln_congr fun j hj => (dn_put hil hn1 hln hj).symm)]
     refine ad_ ?_
     refine e_next3 (m2 - 1) (by omega) (.ex (i + 1) (.all ?_))
     refine nr_ ?_
     refine .pu ⟨by omega, by norm_cast, (codeAt l i : Int), (n : Int), rfl, rfl, .inr ⟨codeAt l i, n, rfl, rfl, hn1, by omega, ?_⟩⟩ .refl
     rw [cur_succ hil, if_pos hln, hca, Nat.sub_self]; omega
    ·rcases hst with ⟨rfl, rfl, hc0⟩ | ⟨c', p', rfl, rfl, hp1, hpn, hcur⟩
     ·refine o_ v_gtr ?_
      rw [dF_ (by omega)]
      refine e_condF (e_sat (.pu ?_ .refl))
      rw [hca, hc0]; rfl
     ·have hle : c' + 1 <= (c' + 1) * 2 ^ (n - p') := Nat.le_mul_of_pos_right _ (Nat.two_pow_pos _)
      refine o_ v_gtr ?_
      rw [dT_ (by omega)]
      refine e_condT (ad_ ?_); refine sb_ ?_
      refine o_ v_conv ?_
      rw [wrapu64' (by omega) (by omega), show (n : Int) - (p' : Int) = ((n - p' : Nat) : Int) by omega]
      refine o_ (v_shl (by omega)) ?_
      rw [shl64 (by omega) (by omega) (by omega)]
      refine e_sat (.pu ?_ .refl)
      rw [hca, <- hcur]; push_cast; rfl
  ·have hie : i = l.length := by omega
   subst hie
   refine e_condF (ad_ ?_)
   refine e_next3 (m - 1) (by omega) (.ex (n + 1) (.all ?_))
   refine nr_ ?_
   refine .pu ⟨by omega, by omega, by norm_cast, c, p, rfl, rfl, ?_⟩ ?_
   ·unfold St at hst ⊢
    rw [cur_next hn1]
    rcases hst with ⟨h1, h2, h3⟩ | ⟨c', p', h1, h2, h3, h4, h5⟩
    ·exact .inl ⟨h1, h2, by omega⟩
    ·refine .inr ⟨c', p', h1, h2, h3, by omega, ?_⟩
     rw [<- h5, show n + 1 - p' = (n - p') + 1 by omega, Nat.pow_succ, <- Nat.mul_assoc, Nat.mul_comm]
   ·rw [Ln_congr (fun j hj => (dn_next (l := l) (n := n) hj).symm)]
    exact im_
 ·have hne : n = 16 := by omega
  subst hne
  refine e_condF ?_
  rw [show Ln l.length (dn l 16 0) = (codes l).map I from (Ln_congr fun j hj => by rw [dn_last hok.ins hj, if_pos hj]).trans (Ln_codes l)]
  refine e_ret (some ⟨g3, 0, none⟩, l.length) (by rw [hcl]) ?_
  rw [hcl]
  exact im_
end Go.Proofs.YthoeeahdkdcceaaGreat.HF
namespace Go.Proofs.YthoeeahdkdcceaaGreat.Sl
open Go Go.RowKit Sh
variable {P : Program} {W : World} {L L' : List HP} {Kp : PK} {k : Value -> WP}
variable {κ : Type} [DecidableEq κ] {enc : κ -> Value} {t kt : TypeId}
theorem setM_keys (q : κ) (v : Value) : ∀ m : List (κ × Value), (m.map (·.1)).Nodup -> ((setM q v m).map (·.1)).Nodup /\ ∀ x, x ∈ (setM q v m).map (·.1) -> x = q \/ x ∈ m.map (·.1)
 | [], _ => by simp [setM]
 | p :: m, h => by
  rw [List.map_cons, List.nodup_cons] at h
  have ih := setM_keys q v m h.2
  unfold setM
  by_cases c : q = p.1
  ·rw [if_pos c]
   refine ⟨by rw [List.map_cons, List.nodup_cons]; exact h, fun x hx => .inr hx⟩
  ·rw [if_neg c]
   refine ⟨?_, fun x hx => ?_⟩
   ·rw [List.map_cons, List.nodup_cons]
    refine ⟨fun hx => ?_, ih.1⟩
    rcases ih.2 _ hx with e | e
    ·exact c e.symm
    ·exact h.1 e
   ·rw [List.map_cons, List.mem_cons] at hx
    rcases hx with e | e
    ·exact .inr (by rw [List.map_cons, e]; exact List.mem_cons_self ..)
    ·rcases ih.2 _ e with e | e
     ·exact .inl e
     ·exact .inr (by rw [List.map_cons]; exact List.mem_cons_of_mem _ e)
def MapFn (g : Nat) (enc : κ -> Value) (f : κ -> Option Value) : HP := ex fun m => all [pu ((m.map (·.1)).Nodup /\ ∀ q, getM q m = f q), MapIs g enc m]
def updM (f : κ -> Option Value) (q : κ) (v : Option Value) : κ -> Option Value := fun x => if x = q then v else f x
theorem e_mf {g : Nat} {f : κ -> Option Value} {S : WP} (p : Pick L (MapFn g enc f) L') (h : ∀ m, (m.map (·.1)).Nodup -> (∀ q, getM q m = f q) -> Ent W (MapIs g enc m :: L') S) : Ent W L S := by
 refine e_ex p fun m => e_all .here ?_
 refine e_pu .here fun hm => h m hm.1 hm.2
theorem imp_mf {g : Nat} {f : κ -> Option Value} {M : List HP} {m : List (κ × Value)} (p : Pick L (MapIs g enc m) L') (h1 : (m.map (·.1)).Nodup) (h2 : ∀ q, getM q m = f q) (h : Imp W L' M) : Imp W L (MapFn g enc f :: M) :=
 .ex m (.all (.pu ⟨h1, h2⟩ (.pick p h)))
theorem e_mkF {e : TypeId} (enc : κ -> Value) [ht : MapT P t kt e] (h : ∀ g, Ent W (MapFn g enc (fun _ => none) :: L) (k (.map (some g)))) : Ent W L (opN P (sMkMap t none) Kp k) :=
 e_mkmap enc fun g => e_imp (imp_mf .here (by simp) (fun q => by simp [getM, fnd]) .refl) (h g)
end Go.Proofs.YthoeeahdkdcceaaGreat.Sl
namespace Go.Proofs.YthoeeahdkdcceaaGreat.HF
open Go Go.Proofs Go.RowKit Sh Sl T HM B M
def pos (l : List Int) : Prop := ∃ x ∈ l, 0 < x
section
variable {W : World} {A : HP} {a : Option Addr} {cap : Nat} {l : List Int}
end
end Go.Proofs.YthoeeahdkdcceaaGreat.HF
namespace Go.Proofs.YthoeeahdkdcceaaGreat.IF
open Go Go.Proofs Go.RowKit Sh Sl T HM HF B M
def bL (s : Int) : Int × Int := if s - 257 < 0 \/ 28 < s - 257 then (0, 0) else if s - 257 = 28 then (258, 0) else if s - 257 < 8 then (s - 257 + 3, 0) else (3 + (4 + (s - 257) % 4) * ((2 ^ ((s - 257) / 4 - 1).toNat : Nat) : Int), (s - 257) / 4 - 1)
def bD (s : Int) : Int × Int := if s < 0 \/ 29 < s then (0, 0) else if s < 4 then (s + 1, 0) else (1 + (2 + s % 2) * ((2 ^ (s / 2 - 1).toNat : Nat) : Int), s / 2 - 1)
theorem baseLength {W : World} {s : Int} (h1 : -1099511627776 <= s /\ s <= 1099511627776) : Cn p_ 133 [.int .i64 s] W [] (fun _ : Unit => .tuple #[.int .i64 (bL s).1, .int .i64 (bL s).2]) (fun _ => []) := by
 (refine S.lz_BaseLength_s.cn fun F => ?_; unfold S.lz_BaseLength; simp only [ca_, na_])
 refine sb_ ?_
 refine e_ask v_lss .nil (fun h => ?_) (fun h => ?_)
 ·(refine e_gdF1 ?_); refine e_gdF1 ?_; refine o_ v_pickT ?_; refine e_condT ?_
  rw [show bL s = (0, 0) from if_pos (.inl h)]
  refine rt_ () ?_
  exact .refl
 have i1 := h
 refine e_gdT (e_gdT (e_ask v_gtr .nil (fun h => ?_) (fun h => ?_)))
 ·(refine o_ v_pickF ?_); refine e_condT ?_
  rw [show bL s = (0, 0) from if_pos (.inr h)]
  refine rt_ () ?_
  exact .refl
 have i2 := h
 refine o_ v_pickF (e_condF (e_ask v_eql .nil (fun h => ?_) (fun h => ?_)))
 ·(refine e_condT ?_)
  rw [show bL s = (258, 0) by unfold bL; rw [if_neg (by omega), if_pos h]]
  refine rt_ () ?_
  exact .refl
 have i3 := h
 refine e_condF (e_ask v_lss .nil (fun h => ?_) (fun h => ?_))
 ·(refine e_condT ?_); refine ad_ ?_
  rw [show bL s = (s - 257 + 3, 0) by unfold bL; rw [if_neg (by omega), if_neg i3, if_pos h]]
  refine rt_ () ?_
  exact .refl
 have i4 := h
 obtain ⟨K, hK⟩ := Int.eq_ofNat_of_zero_le (show 0 <= s - 257 by omega)
 have hb : bL s = (3 + (4 + (s - 257) % 4) * ((2 ^ ((s - 257) / 4 - 1).toNat : Nat) : Int), (s - 257) / 4 - 1) := by unfold bL; rw [if_neg (by omega), if_neg i3, if_neg i4]
 rw [hb, hK]
 have e1 : (K : Int) / 4 - 1 = ((K / 4 - 1 : Nat) : Int) := by omega
 refine e_condF ?_; (((refine o_ (v_quo ?h1 ?h2 ?h3) ?_); (case h1 => omega); (case h2 => omega); (case h3 => omega))); refine sb_ ?_; (((refine o_ (v_rem ?h1 ?h2) ?_); (case h1 => omega); (case h2 => omega))); refine ad_ ?_
 refine o_ v_conv ?_
 rw [wrapu64' (by omega) (by omega), e1]
 refine o_ (v_shl (by omega)) ?_
 rw [shl64 (by omega) (by omega) (by omega), Int.toNat_natCast]
 have h5 : (2 : Nat) ^ (K / 4 - 1) <= 32768 := pow15 (by omega)
 obtain ⟨E, hE⟩ : ∃ E : Nat, E = 2 ^ (K / 4 - 1) := ⟨_, rfl⟩
 rw [<- hE] at h5 ⊢
 have h6 : (4 + (K : Int) % 4) * (E : Int) <= 8 * 32768 := Int.mul_le_mul (by omega) (by omega) (by omega) (by omega)
 have h7 : 0 <= (4 + (K : Int) % 4) * (E : Int) := Int.mul_nonneg (by omega) (by omega)
 refine ad_ ?_
 refine rt_ () ?_
 exact .refl
theorem baseDistance {W : World} {s : Int} : Cn p_ 134 [.int .i64 s] W [] (fun _ : Unit => .tuple #[.int .i64 (bD s).1, .int .i64 (bD s).2]) (fun _ => []) := by
 (refine S.lz_BaseDistance_s.cn fun F => ?_; unfold S.lz_BaseDistance; simp only [ca_, na_])
 refine e_ask v_lss .nil (fun h => ?_) (fun h => ?_)
 ·(refine e_gdF1 ?_); refine e_gdF1 ?_; refine o_ v_pickT ?_; refine e_condT ?_
  rw [show bD s = (0, 0) from if_pos (.inl h)]
  refine rt_ () ?_
  exact .refl
 have i1 := h
 refine e_gdT (e_gdT (e_ask v_gtr .nil (fun h => ?_) (fun h => ?_)))
 ·(refine o_ v_pickF ?_); refine e_condT ?_
  rw [show bD s = (0, 0) from if_pos (.inr h)]
  refine rt_ () ?_
  exact .refl
 have i2 := h
 refine o_ v_pickF (e_condF (e_ask v_lss .nil (fun h => ?_) (fun h => ?_)))
 ·(refine e_condT ?_); refine ad_ ?_
  rw [show bD s = (s + 1, 0) by unfold bD; rw [if_neg (by omega), if_pos h]]
  refine rt_ () ?_
  exact .refl
 have i4 := h
 obtain ⟨K, rfl⟩ := Int.eq_ofNat_of_zero_le (show 0 <= s by omega)
 have hb : bD K = (1 + (2 + (K : Int) % 2) * ((2 ^ ((K : Int) / 2 - 1).toNat : Nat) : Int), (K : Int) / 2 - 1) := by unfold bD; rw [if_neg (by omega), if_neg i4]
 rw [hb]
 have e1 : (K : Int) / 2 - 1 = ((K / 2 - 1 : Nat) : Int) := by omega
 refine e_condF ?_; (((refine o_ (v_quo ?h1 ?h2 ?h3) ?_); (case h1 => omega); (case h2 => omega); (case h3 => omega))); refine sb_ ?_; (((refine o_ (v_rem ?h1 ?h2) ?_); (case h1 => omega); (case h2 => omega))); refine ad_ ?_
 refine o_ v_conv ?_
 rw [wrapu64' (by omega) (by omega), e1]
 refine o_ (v_shl (by omega)) ?_
 rw [shl64 (by omega) (by omega) (by omega), Int.toNat_natCast]
 have h5 : (2 : Nat) ^ (K / 2 - 1) <= 32768 := pow15 (by omega)
 obtain ⟨E, hE⟩ : ∃ E : Nat, E = 2 ^ (K / 2 - 1) := ⟨_, rfl⟩
 rw [<- hE] at h5 ⊢
 have h6 : (2 + (K : Int) % 2) * (E : Int) <= 8 * 32768 := Int.mul_le_mul (by omega) (by omega) (by omega) (by omega)
 have h7 : 0 <= (2 + (K : Int) % 2) * (E : Int) := Int.mul_nonneg (by omega) (by omega)
 refine ad_ ?_
 refine rt_ () ?_
 exact .refl
theorem fill {W : World} {a : Option Addr} {c k n : Nat} {l : List Int} {v : Int} (hn : l.length = n) (h1 : n <= 1048576) (h2 : k <= 1048576) : Cn p_ 103 [.slice a n c, .int .i64 (k : Int), .int .i64 v] W [Sl 1 3 a c n (l.map I)]
  (fun q : Option Addr × Nat => .slice q.1 (n + k) q.2) (fun q => [Sl 1 3 q.1 q.2 (n + k) ((l ++ List.replicate k v).map I)]) := by
 (refine S.inflate_Fixed_1_s.cn fun F => ?_; unfold S.inflate_Fixed_1; simp only [ca_, na_])
 refine e_loop2 (fun m x y => [ex fun i : Nat => ex fun q : Option Addr × Nat => all [pu (m + i = k /\ y = .int .i64 (i : Int) /\ x = .slice q.1 (n + i) q.2), Sl 1 3 q.1 q.2 (n + i) ((l ++ List.replicate i v).map I)]] ++ F) k ?_ ?_
 ·refine .ex 0 (.ex (a, c) (.all ?_))
  refine nr_ ?_
  refine .pu ⟨by omega, rfl, rfl⟩ ?_
  rw [List.replicate_zero, List.append_nil]
  exact .refl
 intro m ds x y
 refine nr_ ?_
 refine e_ex Pick.here fun i => e_ex Pick.here fun q => e_all Pick.here ?_
 obtain ⟨qa, qc⟩ := q
 refine nr_ ?_
 refine e_pu Pick.here fun hi => ?_
 obtain ⟨hmi, rfl, rfl⟩ := hi
 (try dsimp only)
 refine e_ask v_lss .nil (fun h => ?_) (fun h => ?_)
 ·refine e_condT (e_bsl1 fun g => ?_)
  refine e_app (m := 1) (news := [I v]) (by repeat constructor) (src_pt (e' := 3) (by kernel_rfl) .here (by rfl) (I_one (l := [v]))) (by omega) (by omega) fun a' c' => ?_
  refine ad_ ?_
  refine e_next2 (m - 1) (by omega) (.ex (i + 1) (.ex (a', c') (.all ?_)))
  refine nr_ ?_
  refine .pu ⟨by omega, congrArg (Value.int .i64) (by omega), by rw [Nat.add_assoc]⟩ ?_
  rw [List.replicate_succ', <- List.append_assoc, List.map_append (l₁ := l ++ List.replicate i v), <- Nat.add_assoc]
  exact .pick (by repeat constructor) im_
 ·have : i = k := by omega
  subst this
  refine e_condF (e_ret (qa, qc) rfl ?_)
  exact .refl
def litL : List Int := List.replicate 144 8 ++ List.replicate 112 9 ++ List.replicate 24 7 ++ List.replicate 8 8
def dstL : List Int := List.replicate 32 5
theorem lit_len : litL.length = 0 + 144 + 112 + 24 + 8 := by simp only [litL, List.length_append, List.length_replicate]
theorem dst_len : dstL.length = 0 + 32 := by simp only [dstL, List.length_replicate]
theorem fixedL {W : World} : Cn p_ 86 [] W [] (fun q : (Option Addr × Nat) × (Option Addr × Nat) => .tuple #[.slice q.1.1 litL.length q.1.2, .slice q.2.1 dstL.length q.2.2])
  (fun q => [Sl 1 3 q.1.1 q.1.2 litL.length (litL.map I), Sl 1 3 q.2.1 q.2.2 dstL.length (dstL.map I)]) := by
 (refine S.inflate_Fixed_s.cn fun F => ?_; unfold S.inflate_Fixed; simp only [ca_, na_])
 rw [lit_len, dst_len]
 refine e_nil (s := 1) (e := 3) ?_
 refine c_ (fill (l := []) (k := 144) (v := 8) rfl (by omega) (by omega)) fun _ => ?_
 rename_i q1
 obtain ⟨a1, c1⟩ := q1
 (try dsimp only)
 refine c_ (fill (l := List.replicate 144 8) (n := 0 + 144) (k := 112) (v := 9) (by rw [List.length_replicate]) (by omega) (by omega)) fun _ => ?_
 rename_i q2
 obtain ⟨a2, c2⟩ := q2
 (try dsimp only)
 refine c_ (fill (l := List.replicate 144 8 ++ List.replicate 112 9) (n := 0 + 144 + 112) (k := 24) (v := 7) (by rw [List.length_append, List.length_replicate, List.length_replicate]) (by omega) (by omega)) fun _ => ?_
 rename_i q3
 obtain ⟨a3, c3⟩ := q3
 (try dsimp only)
 refine c_ (fill (l := List.replicate 144 8 ++ List.replicate 112 9 ++ List.replicate 24 7) (n := 0 + 144 + 112 + 24) (k := 8) (v := 8) (by rw [List.length_append, List.length_append, List.length_replicate, List.length_replicate, List.length_replicate]) (by omega) (by omega)) fun _ => ?_
 rename_i q4
 obtain ⟨a4, c4⟩ := q4
 (try dsimp only)
 rw [show (List.replicate 144 8 ++ List.replicate 112 9 ++ List.replicate 24 7 ++ List.replicate 8 8 : List Int) = litL from rfl]
 refine e_nil (s := 1) (e := 3) ?_
 refine c_ (fill (l := []) (k := 32) (v := 5) rfl (by omega) (by omega)) fun _ => ?_
 rename_i q5
 obtain ⟨a5, c5⟩ := q5
 rw [show (List.replicate 32 5 : List Int) = dstL from rfl]
 (try dsimp only)
 refine e_ret ((a4, c4), (a5, c5)) rfl ?_
 exact .pick (by repeat constructor) (.pick (by repeat constructor) im_)
end Go.Proofs.YthoeeahdkdcceaaGreat.IF
namespace Go.Proofs.YthoeeahdkdcceaaGreat.HF
open Go Go.Proofs Go.RowKit Sh Sl T HM B M
def sym (cs ls : List Int) (s : Int) : Option (Int × Nat) :=
 if s < 0 then none else match cs[s.toNat]?, ls[s.toNat]? with
 | some c, some n => if 1 <= n /\ n <= 15 /\ 0 <= c /\ c < 2 ^ n.toNat then some (c, n.toNat) else none
 | _, _ => none
def phR (cs ls : List Int) (s : Int) (L : List Bool) : Int := match sym cs ls s with
 | some p => putR L (rv p.1 p.2) p.2
 | none => 1
def phL (cs ls : List Int) (s : Int) (L : List Bool) : List Bool := match sym cs ls s with
 | some p => putL L (rv p.1 p.2) p.2
 | none => L
theorem sym_at {cs ls : List Int} {N : Nat} (h1 : N < cs.length) (h2 : N < ls.length) : sym cs ls N = if 1 <= ls[N] /\ ls[N] <= 15 /\ 0 <= cs[N] /\ cs[N] < 2 ^ ls[N].toNat then some (cs[N], ls[N].toNat) else none := by
 unfold sym
 rw [if_neg (by omega), Int.toNat_natCast, List.getElem?_eq_getElem h1, List.getElem?_eq_getElem h2]
theorem sym_out {cs ls : List Int} {s : Int} (h : s < 0 \/ (cs.length : Int) <= s \/ (ls.length : Int) <= s) : sym cs ls s = none := by
 unfold sym
 by_cases h0 : s < 0
 ·rw [if_pos h0]
 ·rw [if_neg h0]
  rcases h with h | h | h
  ·exact absurd h h0
  ·rw [List.getElem?_eq_none (by omega)]
  ·rw [List.getElem?_eq_none (l := ls) (by omega)]
   cases cs[s.toNat]? <;> rfl
theorem lim_nat {n : Nat} (h : n <= 15) : lim (n : Int) = n := by unfold lim; rw [if_neg (by omega)]; simp
section
variable {W : World} {A A2 : HP} {a1 a2 : Option Addr} {c1 c2 : Nat} {cs ls : List Int} {s : Int}
theorem hput {p : Nat} {L : List Bool} (h1 : RdB W A a1 cs.length (cs.map I)) (h2 : RdB W A2 a2 ls.length (ls.map I)) :
  Cn p_ 108 [.pointer (some ⟨p, 0, none⟩), .slice a1 cs.length c1, .slice a2 ls.length c2, .int .i64 s] W [IsW p L, A, A2] (fun _ : Unit => .int .i64 (phR cs ls s L)) (fun _ => [IsW p (phL cs ls s L), A, A2]) := by
 (refine S.huff_Put_s.cn fun F => ?_; unfold S.huff_Put; simp only [ca_, na_])
 have bad : sym cs ls s = none -> Ent W (IsW p L :: A :: A2 :: F) (fun w => ∃ x : Unit, (Value.int .i64 1) = .int .i64 (phR cs ls s L) /\ sat W ([IsW p (phL cs ls s L), A, A2] ++ F) w) := fun hn => by
  refine e_ret () (by unfold phR; rw [hn]) ?_
  unfold phL
  rw [hn]
  exact .refl
 refine e_ask v_lss .nil (fun h => ?_) (fun h => ?_)
 ·(refine e_gdF1 ?_); refine e_gdF1 ?_; refine e_gdF1 ?_; refine e_gdF1 ?_; refine e_gdF1 ?_; refine e_gdF1 ?_; refine e_gdF1 ?_; refine o_ v_pickT ?_; refine e_condT ?_
  exact bad (sym_out (.inl h))
 have h0 := h
 refine e_gdT (e_gdT (e_gdT (o_ v_len (e_gdT (e_gdT (o_ v_len (e_gdT (o_ v_min (e_gdT (e_ask v_geq .nil (fun h => ?_) (fun h => ?_)))))))))))
 ·(refine o_ v_pickF ?_); refine e_condT ?_
  exact bad (sym_out (by split at h <;> omega))
 obtain ⟨N, rfl⟩ := Int.eq_ofNat_of_zero_le (show 0 <= s by omega)
 have hN1 : N < cs.length := by split at h <;> omega
 have hN2 : N < ls.length := by split at h <;> omega
 have hsym := sym_at hN1 hN2
 obtain ⟨g1, o1, rfl, _⟩ := h1.at_ (by omega)
 obtain ⟨g2, o2, rfl, _⟩ := h2.at_ (by omega)
 obtain ⟨c, hc⟩ : ∃ c, c = cs[N] := ⟨_, rfl⟩
 obtain ⟨n, hn⟩ : ∃ n, n = ls[N] := ⟨_, rfl⟩
 have g1' := I_get hN1
 have g2' := I_get hN2
 rw [<- hc] at hsym g1'
 rw [<- hn] at hsym g2'
 refine o_ v_pickF (e_condF (e_drS (t_ (v_ia1 N (by rfl) hN1) ?_)))
 refine p_st (v_ldRd h1 g1') ?_
 refine t_ (v_ia1 N (by rfl) hN2) ?_
 refine p_st (v_ldRd h2 g2') ?_
 refine e_ask v_lss .nil (fun h => ?_) (fun h => ?_)
 ·(refine e_gdF1 ?_); refine e_gdF1 ?_; refine o_ v_pickT ?_; refine e_gdF1 ?_; refine e_gdF1 ?_; refine o_ v_pickT ?_; refine e_gdF1 ?_; refine e_gdF1 ?_; refine e_gdF1 ?_; refine e_gdF1 ?_; refine e_gdF1 ?_; refine o_ v_pickT ?_; refine e_condT ?_
  exact bad (by rw [hsym, if_neg (by omega)])
 have i1 := h
 refine e_gdT (e_gdT (e_ask v_gtr .nil (fun h => ?_) (fun h => ?_)))
 ·(refine o_ v_pickF ?_); refine e_gdF1 ?_; refine e_gdF1 ?_; refine o_ v_pickT ?_; refine e_gdF1 ?_; refine e_gdF1 ?_; refine e_gdF1 ?_; refine e_gdF1 ?_; refine e_gdF1 ?_; refine o_ v_pickT ?_; refine e_condT ?_
  exact bad (by rw [hsym, if_neg (by omega)])
 have i2 := h
 refine o_ v_pickF (e_gdT (e_gdT (e_ask v_lss .nil (fun h => ?_) (fun h => ?_))))
 ·(refine o_ v_pickF ?_); refine e_gdF1 ?_; refine e_gdF1 ?_; refine e_gdF1 ?_; refine e_gdF1 ?_; refine e_gdF1 ?_; refine o_ v_pickT ?_; refine e_condT ?_
  exact bad (by rw [hsym, if_neg (by omega)])
 have i3 := h
 obtain ⟨m, rfl⟩ := Int.eq_ofNat_of_zero_le (show 0 <= n by omega)
 rw [Int.toNat_natCast] at hsym
 refine o_ v_pickF (e_gdT (e_gdT (e_gdT (o_ v_conv ?_))))
 rw [wrapu64' (by omega) (by omega)]
 refine e_gdT (o_ (v_shl (by omega)) ?_)
 rw [shl64 (by omega) (by omega) (by omega), Int.one_mul]
 have e2 : ((2 ^ m : Nat) : Int) = (2 : Int) ^ m := Int.natCast_pow 2 m
 rw [e2]
 refine e_gdT (e_ask v_geq .nil (fun h => ?_) (fun h => ?_))
 ·(refine o_ v_pickF ?_); refine e_condT ?_
  exact bad (by rw [hsym, if_neg (fun c => by have := c.2.2.2; omega)])
 have hs : sym cs ls N = some (c, m) := by rw [hsym, if_pos ⟨by omega, by omega, by omega, by omega⟩]
 refine o_ v_pickF (e_condF (c_ reverse fun _ => ?_))
 rw [lim_nat (show m <= 15 by omega)]
 refine c_ put fun _ => ?_
 refine e_ret () (by unfold phR; rw [hs]) ?_
 unfold phL
 rw [hs]
 exact im_
theorem rput {p : Nat} {L : List Bool} (h1 : RdB W A a1 cs.length (cs.map I)) (h2 : RdB W A2 a2 ls.length (ls.map I)) :
  Cn p_ 115 [.pointer (some ⟨p, 0, none⟩), .slice a1 cs.length c1, .slice a2 ls.length c2, .int .i64 s] W [IsX p L, A, A2] (fun _ : Unit => .int .i64 (phR cs ls s L)) (fun _ => [IsX p (phL cs ls s L), A, A2]) := by
 (refine S.ref03_Put_s.cn fun F => ?_; unfold S.ref03_Put; simp only [ca_, na_])
 have bad : sym cs ls s = none -> Ent W (IsX p L :: A :: A2 :: F) (fun w => ∃ x : Unit, (Value.int .i64 1) = .int .i64 (phR cs ls s L) /\ sat W ([IsX p (phL cs ls s L), A, A2] ++ F) w) := fun hn => by
  refine e_ret () (by unfold phR; rw [hn]) ?_
  unfold phL
  rw [hn]
  exact .refl
 refine e_ask v_lss .nil (fun h => ?_) (fun h => ?_)
 ·(refine e_gdF1 ?_); refine e_gdF1 ?_; refine e_gdF1 ?_; refine e_gdF1 ?_; refine o_ v_pickT ?_; refine e_gdF1 ?_; refine e_gdF1 ?_; refine e_gdF1 ?_; refine e_gdF1 ?_; refine o_ v_pickT ?_; refine e_condT ?_
  exact bad (sym_out (.inl h))
 have h0 := h
 refine e_gdT (e_gdT (e_gdT (o_ v_len (e_gdT (e_ask v_geq .nil (fun h => ?_) (fun h => ?_))))))
 ·(refine o_ v_pickF ?_); refine e_gdF1 ?_; refine e_gdF1 ?_; refine e_gdF1 ?_; refine e_gdF1 ?_; refine o_ v_pickT ?_; refine e_condT ?_
  exact bad (sym_out (by omega))
 have h00 := h
 refine o_ v_pickF (e_gdT (e_gdT (e_gdT (o_ v_len (e_gdT (e_ask v_geq .nil (fun h => ?_) (fun h => ?_)))))))
 ·(refine o_ v_pickF ?_); refine e_condT ?_
  exact bad (sym_out (by omega))
 obtain ⟨N, rfl⟩ := Int.eq_ofNat_of_zero_le (show 0 <= s by omega)
 have hN1 : N < cs.length := by omega
 have hN2 : N < ls.length := by omega
 have hsym := sym_at hN1 hN2
 obtain ⟨g1, o1, rfl, _⟩ := h1.at_ (by omega)
 obtain ⟨g2, o2, rfl, _⟩ := h2.at_ (by omega)
 obtain ⟨c, hc⟩ : ∃ c, c = cs[N] := ⟨_, rfl⟩
 obtain ⟨n, hn⟩ : ∃ n, n = ls[N] := ⟨_, rfl⟩
 have g1' := I_get hN1
 have g2' := I_get hN2
 rw [<- hc] at hsym g1'
 rw [<- hn] at hsym g2'
 refine o_ v_pickF (e_condF (o_ (v_ia1 N (by rfl) hN2) ?_))
 refine p_op (v_ldRd h2 g2') ?_
 refine e_ask v_lss .nil (fun h => ?_) (fun h => ?_)
 ·(refine e_gdF1 ?_); refine e_gdF1 ?_; refine o_ v_pickT ?_; refine e_gdF1 ?_; refine e_gdF1 ?_; refine e_gdF1 ?_; refine e_gdF1 ?_; refine e_gdF1 ?_; refine o_ v_pickT ?_; refine e_gdF1 ?_; refine e_gdF1 ?_; refine e_gdF1 ?_; refine e_gdF1 ?_; refine e_gdF1 ?_; refine e_gdF1 ?_; refine e_gdF1 ?_; refine e_gdF1 ?_; refine o_ v_pickT ?_; refine e_condT ?_
  exact bad (by rw [hsym, if_neg (by omega)])
 have i1 := h
 refine e_gdT (e_gdT (e_ask v_gtr .nil (fun h => ?_) (fun h => ?_)))
 ·(refine o_ v_pickF ?_); refine e_gdF1 ?_; refine e_gdF1 ?_; refine e_gdF1 ?_; refine e_gdF1 ?_; refine e_gdF1 ?_; refine o_ v_pickT ?_; refine e_gdF1 ?_; refine e_gdF1 ?_; refine e_gdF1 ?_; refine e_gdF1 ?_; refine e_gdF1 ?_; refine e_gdF1 ?_; refine e_gdF1 ?_; refine e_gdF1 ?_; refine o_ v_pickT ?_; refine e_condT ?_
  exact bad (by rw [hsym, if_neg (by omega)])
 have i2 := h
 refine o_ v_pickF (e_gdT (e_gdT (e_gdT (o_ (v_ia1 N (by rfl) hN1) ?_))))
 refine e_gdT (p_op (v_ldRd h1 g1') ?_)
 refine e_gdT (e_ask v_lss .nil (fun h => ?_) (fun h => ?_))
 ·(refine o_ v_pickF ?_); refine e_gdF1 ?_; refine e_gdF1 ?_; refine e_gdF1 ?_; refine e_gdF1 ?_; refine e_gdF1 ?_; refine e_gdF1 ?_; refine e_gdF1 ?_; refine e_gdF1 ?_; refine o_ v_pickT ?_; refine e_condT ?_
  exact bad (by rw [hsym, if_neg (by omega)])
 have i3 := h
 obtain ⟨m, rfl⟩ := Int.eq_ofNat_of_zero_le (show 0 <= n by omega)
 rw [Int.toNat_natCast] at hsym
 refine o_ v_pickF (e_gdT (e_gdT (e_gdT (o_ (v_ia1 N (by rfl) hN1) ?_))))
 refine e_gdT (p_op (v_ldRd h1 g1') ?_)
 refine e_gdT (e_gdT (o_ v_conv ?_))
 rw [wrapu64' (by omega) (by omega)]
 refine e_gdT (o_ (v_shl (by omega)) ?_)
 rw [shl64 (by omega) (by omega) (by omega), Int.one_mul]
 have e2 : ((2 ^ m : Nat) : Int) = (2 : Int) ^ m := Int.natCast_pow 2 m
 rw [e2]
 refine e_gdT (e_ask v_geq .nil (fun h => ?_) (fun h => ?_))
 ·(refine o_ v_pickF ?_); refine e_condT ?_
  exact bad (by rw [hsym, if_neg (fun c => by have := c.2.2.2; omega)])
 have hs : sym cs ls N = some (c, m) := by rw [hsym, if_pos ⟨by omega, by omega, by omega, by omega⟩]
 refine o_ v_pickF (e_condF (o_ (v_ia1 N (by rfl) hN1) ?_))
 refine p_op (v_ldRd h1 g1') ?_
 refine c_ reverseRef fun _ => ?_
 rw [lim_nat (show m <= 15 by omega)]
 refine c_ xPut fun _ => ?_
 refine e_ret () (by unfold phR; rw [hs]) ?_
 unfold phL
 rw [hs]
 exact im_
end
end Go.Proofs.YthoeeahdkdcceaaGreat.HF
namespace Go.Proofs.YthoeeahdkdcceaaGreat.IF
open Go Go.Proofs Go.RowKit HM HF B M
def lastF (base : Int -> Int × Int) (n : Int) (first : Int) : Nat -> Int × Int × Int
 | 0 => (-1, 0, 0)
 | k + 1 => if (base (first + k)).1 <= n then (first + k, (base (first + k)).2, n - (base (first + k)).1) else lastF base n first k
def lenS (n : Int) : Int × Int × Int := if 258 < n then (-1, 0, 0) else lastF bL n 257 29
def disS (n : Int) : Int × Int × Int := if 32768 < n then (-1, 0, 0) else lastF bD n 0 30
theorem lastF_ok {base : Int -> Int × Int} {n first : Int} : ∀ (k : Nat), (∃ j : Nat, j < k /\ (base (first + j)).1 <= n) -> ∃ j : Nat, j < k /\ lastF base n first k = (first + j, (base (first + j)).2, n - (base (first + j)).1) /\ (base (first + j)).1 <= n /\ (j + 1 < k -> n < (base (first + (j + 1 : Nat))).1)
 | 0, h => by obtain ⟨j, hj, _⟩ := h; omega
 | k + 1, h => by
  unfold lastF
  by_cases c : (base (first + k)).1 <= n
  ·rw [if_pos c]
   exact ⟨k, by omega, rfl, c, fun h => by omega⟩
  ·rw [if_neg c]
   obtain ⟨j, hj, hb⟩ := h
   have hjk : j < k := by
    rcases Nat.lt_or_ge j k with d | d
    ·exact d
    ·exact absurd (by rw [show k = j by omega]; exact hb) c
   obtain ⟨i, h1, h2, h3, h4⟩ := lastF_ok k ⟨j, hjk, hb⟩
   refine ⟨i, by omega, h2, h3, fun h => ?_⟩
   by_cases d : i + 1 < k
   ·exact h4 d
   ·rw [show i + 1 = k by omega]; omega
theorem bL_steps : ∀ j : Fin 28, (bL (257 + (j.1 : Nat))).1 + ((2 ^ (bL (257 + (j.1 : Nat))).2.toNat : Nat) : Int) ≥ (bL (257 + ((j.1 + 1 : Nat) : Int))).1 /\ 0 <= (bL (257 + (j.1 : Nat))).2 /\ (bL (257 + (j.1 : Nat))).2 <= 5 /\ 0 < (bL (257 + (j.1 : Nat))).1 := by decide
theorem bD_steps : ∀ j : Fin 29, (bD (0 + (j.1 : Nat))).1 + ((2 ^ (bD (0 + (j.1 : Nat))).2.toNat : Nat) : Int) ≥ (bD (0 + ((j.1 + 1 : Nat) : Int))).1 /\ 0 <= (bD (0 + (j.1 : Nat))).2 /\ (bD (0 + (j.1 : Nat))).2 <= 13 /\ 0 < (bD (0 + (j.1 : Nat))).1 := by decide
theorem lenS_ok {n : Int} (h1 : 3 <= n) (h2 : n <= 258) : ∃ (s : Nat) (e k : Nat), lenS n = ((s : Int), (k : Int), (e : Int)) /\ 257 <= s /\ s <= 285 /\ (bL s).1 + e = n /\ (bL s).2 = k /\ e < 2 ^ k /\ k <= 5 /\ 0 < (bL s).1 := by
 unfold lenS
 rw [if_neg (by omega)]
 obtain ⟨j, hj, e1, e2, e3⟩ := lastF_ok (base := bL) (n := n) (first := 257) 29 ⟨0, by omega, by rw [show bL (257 + ((0 : Nat) : Int)) = (3, 0) from rfl]; exact h1⟩
 rw [e1]
 have es : (257 : Int) + (j : Int) = ((257 + j : Nat) : Int) := by omega
 rcases Nat.lt_or_ge j 28 with c | c
 ·obtain ⟨s1, s2, s3, s4⟩ := bL_steps ⟨j, c⟩
  have e4 := e3 (by omega)
  simp only at s1 s2 s3 s4
  obtain ⟨k, hk⟩ := Int.eq_ofNat_of_zero_le s2
  obtain ⟨e, he⟩ := Int.eq_ofNat_of_zero_le (show 0 <= n - (bL (257 + (j : Int))).1 by omega)
  rw [hk, Int.toNat_natCast] at s1
  refine ⟨257 + j, e, k, by rw [he, hk, es], by omega, by omega, by rw [<- es]; omega, by rw [<- es, hk], ?_, by omega, by rw [<- es]; exact s4⟩
  have : (e : Int) < ((2 ^ k : Nat) : Int) := by omega
  exact Int.ofNat_lt.1 this
 ·have hj8 : j = 28 := by omega
  subst hj8
  have hb : bL (257 + ((28 : Nat) : Int)) = (258, 0) := rfl
  rw [hb] at e2 ⊢
  refine ⟨285, 0, 0, ?_, by omega, by omega, ?_, rfl, by decide, by omega, by decide⟩
  ·simp only at e2; rw [show n - 258 = 0 by omega]; rfl
  ·show (258 : Int) + 0 = n
   simp only at e2; omega
theorem disS_ok {n : Int} (h1 : 1 <= n) (h2 : n <= 32768) : ∃ (s : Nat) (e k : Nat), disS n = ((s : Int), (k : Int), (e : Int)) /\ s <= 29 /\ (bD s).1 + e = n /\ (bD s).2 = k /\ e < 2 ^ k /\ k <= 13 /\ 0 < (bD s).1 := by
 unfold disS
 rw [if_neg (by omega)]
 obtain ⟨j, hj, e1, e2, e3⟩ := lastF_ok (base := bD) (n := n) (first := 0) 30 ⟨0, by omega, by rw [show bD (0 + ((0 : Nat) : Int)) = (1, 0) from rfl]; exact h1⟩
 rw [e1]
 have es : (0 : Int) + (j : Int) = ((j : Nat) : Int) := by omega
 rcases Nat.lt_or_ge j 29 with c | c
 ·obtain ⟨s1, s2, s3, s4⟩ := bD_steps ⟨j, c⟩
  have e4 := e3 (by omega)
  simp only at s1 s2 s3 s4
  obtain ⟨k, hk⟩ := Int.eq_ofNat_of_zero_le s2
  obtain ⟨e, he⟩ := Int.eq_ofNat_of_zero_le (show 0 <= n - (bD (0 + (j : Int))).1 by omega)
  rw [hk, Int.toNat_natCast] at s1
  refine ⟨j, e, k, by rw [he, hk, es], by omega, by rw [<- es]; omega, by rw [<- es, hk], ?_, by omega, by rw [<- es]; exact s4⟩
  have : (e : Int) < ((2 ^ k : Nat) : Int) := by omega
  exact Int.ofNat_lt.1 this
 ·have hj8 : j = 29 := by omega
  subst hj8
  have hb : bD (0 + ((29 : Nat) : Int)) = (24577, 13) := rfl
  rw [hb] at e2 ⊢
  simp only at e2
  obtain ⟨e, he⟩ := Int.eq_ofNat_of_zero_le (show 0 <= n - 24577 by omega)
  refine ⟨29, e, 13, by rw [he]; rfl, by omega, ?_, rfl, ?_, by omega, by decide⟩
  ·show (24577 : Int) + e = n
   omega
  ·have : (2 : Nat) ^ 13 = 8192 := rfl
   omega
theorem sym_pos {cs ls : List Int} {s : Int} {p : Int × Nat} (h : sym cs ls s = some p) : 1 <= p.2 /\ p.2 <= 15 := by
 unfold sym at h
 split at h
 ·cases h
 ·split at h
  ·rename_i c n _ _
   by_cases hc : 1 <= n /\ n <= 15 /\ 0 <= c /\ c < 2 ^ n.toNat
   ·rw [if_pos hc] at h
    have hp := Option.some.inj h
    rw [<- hp]
    simp only
    omega
   ·rw [if_neg hc] at h; cases h
  ·cases h
end Go.Proofs.YthoeeahdkdcceaaGreat.IF
namespace Go.Proofs.YthoeeahdkdcceaaGreat.IF
open Go Go.Proofs Go.RowKit Sh Sl T HM HF B M
theorem last_ {W : World} {f : FuncId} {base : Int -> Int × Int} {n first : Int} {N : Nat} (hf : ∀ s : Int, first <= s -> s < first + N -> Cn p_ f [.int .i64 s] W [] (fun _ : Unit => .tuple #[.int .i64 (base s).1, .int .i64 (base s).2]) (fun _ => []))
  (h1 : -1000000 <= first /\ first <= 1000000) (hN : 0 < N /\ N <= 1000) (hn : -9223372036854000000 <= n /\ n <= 9223372036854000000) (hb : ∀ s : Int, first <= s -> s < first + N -> 0 <= (base s).1 /\ (base s).1 <= 100000) :
  Cn p_ 132 [.int .i64 n, .int .i64 first, .int .i64 (first + N - 1), fn f] W [] (fun _ : Unit => .tuple #[.int .i64 (lastF base n first N).1, .int .i64 (lastF base n first N).2.1, .int .i64 (lastF base n first N).2.2]) (fun _ => []) := by
 (refine S.lz_last_s.cn fun F => ?_; unfold S.lz_last; simp only [ca_, na_])
 refine e_loop1 (fun m y => (ex fun k : Nat => pu (m = k /\ k <= N /\ y = .int .i64 (first + k - 1) /\ lastF base n first N = lastF base n first k)) :: F) N ?_ ?_
 ·exact .ex N (.pu ⟨rfl, Nat.le_refl _, rfl, rfl⟩ .refl)
 intro m ds y
 refine e_ex .here fun k => e_pu .here fun hk => ?_
 obtain ⟨rfl, hkN, rfl, hl⟩ := hk
 refine e_ask v_geq .nil (fun h => ?_) (fun h => ?_)
 ·obtain ⟨j, rfl⟩ : ∃ j, m = j + 1 := ⟨m - 1, by omega⟩
  have hs : first + ((j + 1 : Nat) : Int) - 1 = first + (j : Int) := by push_cast; omega
  have hbb := hb (first + j) (by omega) (by omega)
  rw [hs]
  refine e_condT (e_call (hf (first + j) (by omega) (by omega)) .nil fun _ => ?_)
  refine nr_ ?_
  refine o_ (v_extN (vs := [_, _]) .here) ?_
  refine o_ (v_extN (vs := [_, _]) (.there .here)) ?_
  refine e_ask v_leq .nil (fun h2 => ?_) (fun h2 => ?_)
  ·rw [hl, lastF, if_pos h2]
   refine e_condT (sb_ ?_)
   refine rt_ () ?_
   exact .refl
  ·refine e_condF (sb_ ?_)
   refine e_next1 j (by omega) (.ex j (.pu ⟨rfl, by omega, rfl, by rw [hl, lastF, if_neg h2]⟩ ?_))
   exact .refl
 ·have hm0 : m = 0 := by omega
  subst hm0
  rw [hl]
  refine e_condF (rt_ () ?_)
  exact .refl
theorem bL_c : ∀ j : Fin 29, 0 <= (bL (257 + (j.1 : Nat))).1 /\ (bL (257 + (j.1 : Nat))).1 <= 100000 := by decide
theorem bD_c : ∀ j : Fin 30, 0 <= (bD (0 + (j.1 : Nat))).1 /\ (bD (0 + (j.1 : Nat))).1 <= 100000 := by decide
theorem lzLength {W : World} {n : Int} (hn : -9223372036854000000 <= n) : Cn p_ 104 [.int .i64 n] W [] (fun _ : Unit => .tuple #[.int .i64 (lenS n).1, .int .i64 (lenS n).2.1, .int .i64 (lenS n).2.2]) (fun _ => []) := by
 unfold lenS
 (refine S.lz_Length_s.cn fun F => ?_; unfold S.lz_Length; simp only [ca_, na_])
 refine e_ask v_gtr .nil (fun h => ?_) (fun h => ?_)
 ·rw [if_pos h]
  refine e_condT (rt_ () ?_)
  exact .refl
 ·rw [if_neg h]
  refine e_condF ?_
  refine e_call (last_ (base := bL) (n := n) (first := 257) (N := 29) (fun s h1 h2 => baseLength (by omega)) (by omega) (by omega) (by omega) (fun s h1 h2 => by
   obtain ⟨j, hj⟩ := Int.eq_ofNat_of_zero_le (show 0 <= s - 257 by omega)
   have := bL_c ⟨j, by omega⟩
   simp only at this
   rw [show s = 257 + (j : Int) by omega]
   exact this)) .nil fun _ => ?_
  refine nr_ ?_
  refine o_ (v_extN (vs := [_, _, _]) .here) ?_
  refine o_ (v_extN (vs := [_, _, _]) (.there .here)) ?_
  refine o_ (v_extN (vs := [_, _, _]) (.there (.there .here))) ?_
  refine rt_ () ?_
  exact .refl
theorem lzDistance {W : World} {n : Int} (hn : -9223372036854000000 <= n) : Cn p_ 105 [.int .i64 n] W [] (fun _ : Unit => .tuple #[.int .i64 (disS n).1, .int .i64 (disS n).2.1, .int .i64 (disS n).2.2]) (fun _ => []) := by
 unfold disS
 (refine S.lz_Distance_s.cn fun F => ?_; unfold S.lz_Distance; simp only [ca_, na_])
 refine e_ask v_gtr .nil (fun h => ?_) (fun h => ?_)
 ·rw [if_pos h]
  refine e_condT (rt_ () ?_)
  exact .refl
 ·rw [if_neg h]
  refine e_condF ?_
  refine e_call (last_ (base := bD) (n := n) (first := 0) (N := 30) (fun s h1 h2 => baseDistance) (by omega) (by omega) (by omega) (fun s h1 h2 => by
   obtain ⟨j, hj⟩ := Int.eq_ofNat_of_zero_le (show 0 <= s by omega)
   have := bD_c ⟨j, by omega⟩
   simp only at this
   rw [show s = 0 + (j : Int) by omega]
   exact this)) .nil fun _ => ?_
  refine nr_ ?_
  refine o_ (v_extN (vs := [_, _, _]) .here) ?_
  refine o_ (v_extN (vs := [_, _, _]) (.there .here)) ?_
  refine o_ (v_extN (vs := [_, _, _]) (.there (.there .here))) ?_
  refine rt_ () ?_
  exact .refl
structure Pz where
 len : Int
 dist : Int
 c : UInt8
def vPz (p : Pz) : Value := .agg #[I p.len, I p.dist, Sl.B p.c]
def pPz (p : Pz) : List Value := [I p.len, I p.dist, Sl.B p.c]
theorem pz_get {l : List Pz} {i : Nat} (h : i < l.length) : ∀ j, j < 3 -> (l.flatMap pPz)[i * 3 + j]? = (pPz l[i])[j]? := fun j hj => flat_get (f := pPz) (s := 3) (fun _ => rfl) l i j h hj
end Go.Proofs.YthoeeahdkdcceaaGreat.IF
namespace Go.Proofs.YthoeeahdkdcceaaGreat.IF
open Go Go.Proofs Go.RowKit HM HF B M
def alk (b : List UInt8) (i j : Nat) : Nat -> Nat -> Nat
 | 0, n => n
 | f + 1, n => if n < 258 /\ j + n < b.length /\ b[i + n]? = b[j + n]? then alk b i j f (n + 1) else n
def alike (b : List UInt8) (i j : Nat) : Nat := alk b i j 259 0
theorem alk_spec (b : List UInt8) (i j : Nat) : ∀ f n, n + f = 259 -> (∀ k, k < n -> j + k < b.length /\ b[i + k]? = b[j + k]?) -> n <= 258 -> n <= alk b i j f n /\ alk b i j f n <= 258 /\ (∀ k, k < alk b i j f n -> j + k < b.length /\ b[i + k]? = b[j + k]?)
  /\ ¬ (alk b i j f n < 258 /\ j + alk b i j f n < b.length /\ b[i + alk b i j f n]? = b[j + alk b i j f n]?)
 | 0, n, h, _, h3 => by omega
 | f + 1, n, h, h2, h3 => by
  unfold alk
  by_cases c : n < 258 /\ j + n < b.length /\ b[i + n]? = b[j + n]?
  ·rw [if_pos c]
   obtain ⟨e1, e2, e3, e4⟩ := alk_spec b i j f (n + 1) (by omega) (fun k hk => by
    rcases Nat.lt_or_ge k n with d | d
    ·exact h2 k d
    ·rw [show k = n by omega]; exact c.2) (by omega)
   exact ⟨by omega, e2, e3, e4⟩
  ·rw [if_neg c]
   exact ⟨Nat.le_refl _, h3, h2, c⟩
theorem alike_spec (b : List UInt8) (i j : Nat) : alike b i j <= 258 /\ (∀ k, k < alike b i j -> j + k < b.length /\ b[i + k]? = b[j + k]?) /\ ¬ (alike b i j < 258 /\ j + alike b i j < b.length /\ b[i + alike b i j]? = b[j + alike b i j]?) := by
 have := alk_spec b i j 259 0 rfl (fun k hk => by omega) (by omega)
 exact ⟨this.2.1, this.2.2.1, this.2.2.2⟩
def tri (b : List UInt8) (i : Nat) : UInt8 × UInt8 × UInt8 := (b.getD i 0, b.getD (i + 1) 0, b.getD (i + 2) 0)
theorem tri_get {b : List UInt8} {i : Nat} (h : i + 3 <= b.length) : tri b i = (b[i], b[i + 1], b[i + 2]) := by
 unfold tri
 simp only [List.getD_eq_getElem?_getD]
 rw [List.getElem?_eq_getElem (by omega), List.getElem?_eq_getElem (by omega), List.getElem?_eq_getElem (by omega)]; rfl
theorem alike3 {b : List UInt8} {i j : Nat} (hij : i < j) (hj : j + 3 <= b.length) : 3 <= alike b i j ↔ tri b i = tri b j := by
 obtain ⟨e1, e2, e3⟩ := alike_spec b i j
 rw [tri_get (by omega), tri_get hj]
 constructor
 ·intro h
  have a0 := (e2 0 (by omega)).2
  have a1 := (e2 1 (by omega)).2
  have a2 := (e2 2 (by omega)).2
  rw [List.getElem?_eq_getElem (by omega), List.getElem?_eq_getElem (by omega)] at a0 a1 a2
  have b0 := Option.some.inj a0
  have b1 := Option.some.inj a1
  have b2 := Option.some.inj a2
  simp only [Nat.add_zero] at b0
  rw [b0, b1, b2]
 ·intro h
  have h1 := congrArg Prod.fst h
  have h2 := congrArg (fun x => x.2.1) h
  have h3 := congrArg (fun x => x.2.2) h
  simp only at h1 h2 h3
  rcases Nat.lt_or_ge (alike b i j) 3 with c | c
  ·exfalso
   refine e3 ⟨by omega, by omega, ?_⟩
   rw [List.getElem?_eq_getElem (by omega), List.getElem?_eq_getElem (by omega)]
   congr 1
   rcases (show alike b i j = 0 \/ alike b i j = 1 \/ alike b i j = 2 by omega) with d | d | d <;> simp only [d, Nat.add_zero] <;> assumption
  ·exact c
theorem alike_short {b : List UInt8} {i j : Nat} (hj : b.length < j + 3) : alike b i j < 3 := by
 obtain ⟨e1, e2, e3⟩ := alike_spec b i j
 rcases Nat.lt_or_ge (alike b i j) 3 with c | c
 ·exact c
 ·have := (e2 2 (by omega)).1; omega
def bst (j i n : Nat) (p : Pz) : Pz := if p.len < (n : Int) then ⟨n, (j : Int) - i, 0⟩ else p
def rat (b : List UInt8) (j w : Nat) : Nat -> Nat -> Pz -> Pz
 | 0, _, p => p
 | i + 1, d, p => if w < j - i \/ d = 0 then p else if alike b i j < 3 then rat b j w i d p else rat b j w i (d - 1) (bst j i (alike b i j) p)
def pieceAt (b : List UInt8) (w d j : Nat) : Pz := rat b j w j d ⟨0, 0, b.getD j 0⟩
def cdl (w j : Nat) : List Nat -> Nat -> List Nat
 | [], _ => []
 | _ :: _, 0 => []
 | i :: r, d + 1 => if w < j - i then [] else i :: cdl w j r d
def pls (b : List UInt8) (m : Nat) (k : UInt8 × UInt8 × UInt8) : List Nat := (List.range m).filter fun i => decide (tri b i = k)
theorem pls_succ (b : List UInt8) (m : Nat) (k : UInt8 × UInt8 × UInt8) : pls b (m + 1) k = if tri b m = k then pls b m k ++ [m] else pls b m k := by
 unfold pls
 rw [List.range_succ, List.filter_append]
 by_cases c : tri b m = k
 ·rw [if_pos c]; simp [c]
 ·rw [if_neg c]; simp [c]
theorem pls_lt {b : List UInt8} {m : Nat} {k : UInt8 × UInt8 × UInt8} {i : Nat} (h : i ∈ pls b m k) : i < m := by
 unfold pls at h
 exact List.mem_range.1 (List.mem_filter.1 h).1
theorem pls_len (b : List UInt8) (m : Nat) (k : UInt8 × UInt8 × UInt8) : (pls b m k).length <= m := by
 unfold pls
 exact Nat.le_trans (List.length_filter_le _ _) (by simp)
theorem cdl_far {w j : Nat} : ∀ {l : List Nat} {d : Nat}, (∀ i ∈ l, w < j - i) -> cdl w j l d = []
 | [], _, _ => by simp [cdl]
 | i :: r, 0, _ => by simp [cdl]
 | i :: r, d + 1, h => by rw [cdl, if_pos (h i (by simp))]
theorem cdl_zero {w j : Nat} : ∀ {l : List Nat}, cdl w j l 0 = []
 | [] => by simp [cdl]
 | i :: r => by simp [cdl]
theorem rat_cdl {b : List UInt8} {j w : Nat} (hj : j + 3 <= b.length) : ∀ (m d : Nat) (p : Pz), m <= j -> rat b j w m d p = (cdl w j (pls b m (tri b j)).reverse d).foldl (fun p i => bst j i (alike b i j) p) p
 | 0, d, p, _ => by simp [rat, pls, cdl]
 | m + 1, d, p, hm => by
  rw [rat, pls_succ]
  by_cases c : w < j - m \/ d = 0
  ·rw [if_pos c]
   rcases c with c | c
   ·rw [cdl_far]
    ·rfl
    ·intro i hi
     rw [List.mem_reverse] at hi
     split at hi
     ·rcases List.mem_append.1 hi with h | h
      ·have := pls_lt h; omega
      ·rw [List.mem_singleton.1 h]; exact c
     ·have := pls_lt hi; omega
   ·rw [c, cdl_zero]; rfl
  ·rw [if_neg c]
   by_cases t : tri b m = tri b j
   ·have h3 := (alike3 (i := m) (by omega) hj).2 t
    rw [if_neg (by omega), if_pos t, List.reverse_append]
    obtain ⟨d, rfl⟩ : ∃ d', d = d' + 1 := ⟨d - 1, by omega⟩
    simp only [List.reverse_cons, List.reverse_nil, List.nil_append, List.singleton_append]
    rw [cdl, if_neg (fun h => c (.inl h)), List.foldl_cons, Nat.add_sub_cancel]
    exact rat_cdl hj m d _ (by omega)
   ·have h3 : ¬ 3 <= alike b m j := fun h => t ((alike3 (i := m) (by omega) hj).1 h)
    rw [if_pos (by omega), if_neg t]
    exact rat_cdl hj m d p (by omega)
theorem rat_short {b : List UInt8} {j w : Nat} (hj : b.length < j + 3) : ∀ (m d : Nat) (p : Pz), rat b j w m d p = p
 | 0, d, p => rfl
 | m + 1, d, p => by
  rw [rat, if_pos (alike_short hj)]
  split
  ·rfl
  ·exact rat_short hj m d p
def gP (b : List UInt8) (j : Nat) (p : Pz) : Prop := (p.len = 0 /\ p.dist = 0 /\ p.c = b.getD j 0) \/ ∃ n d : Nat, p.len = n /\ p.dist = d /\ p.c = 0 /\ 3 <= n /\ n <= 258 /\ 1 <= d /\ d <= 32768 /\ d <= j /\ ∀ k, k < n -> j + k < b.length /\ b[j - d + k]? = b[j + k]?
theorem bst_gP {b : List UInt8} {j i w : Nat} {p : Pz} (hw : w <= 32768) (hi : i < j) (hiw : ¬ w < j - i) (h3 : ¬ alike b i j < 3) (h : gP b j p) : gP b j (bst j i (alike b i j) p) := by
 unfold bst
 by_cases c : p.len < (alike b i j : Int)
 ·rw [if_pos c]
  obtain ⟨e1, e2, e3⟩ := alike_spec b i j
  refine .inr ⟨alike b i j, j - i, rfl, by simp only; omega, rfl, by omega, e1, by omega, by omega, by omega, fun k hk => ?_⟩
  rw [show j - (j - i) = i by omega]
  exact e2 k hk
 ·rw [if_neg c]; exact h
theorem rat_gP {b : List UInt8} {j w : Nat} (hw : w <= 32768) : ∀ (m d : Nat) (p : Pz), m <= j -> gP b j p -> gP b j (rat b j w m d p)
 | 0, d, p, _, h => h
 | m + 1, d, p, hm, h => by
  rw [rat]
  split
  ·exact h
  ·rename_i c
   split
   ·exact rat_gP hw m d p (by omega) h
   ·rename_i c3
    exact rat_gP hw m _ _ (by omega) (bst_gP hw (by omega) (fun x => c (.inl x)) c3 h)
theorem pieceAt_gP {b : List UInt8} {j w d : Nat} (hw : w <= 32768) : gP b j (pieceAt b w d j) := rat_gP hw j d _ (Nat.le_refl _) (.inl ⟨rfl, rfl, rfl⟩)
def pzN (p : Pz) : Nat := max 1 p.len.toNat
theorem pzN_pos (p : Pz) : 1 <= pzN p := by unfold pzN; omega
theorem gP_end {b : List UInt8} {j : Nat} {p : Pz} (h : gP b j p) (hj : j < b.length) : j + pzN p <= b.length /\ pzN p <= 258 /\ (pzN p : Int) = (if p.len < 1 then 1 else p.len) := by
 unfold pzN
 rcases h with ⟨h1, _⟩ | ⟨n, d, h1, _, _, h3, h4, _, _, _, h5⟩
 ·rw [h1]; simp; omega
 ·rw [h1, Int.toNat_natCast]
  have := (h5 (n - 1) (by omega)).1
  refine ⟨by omega, by omega, ?_⟩
  split <;> omega
def pcs (b : List UInt8) (w d : Nat) : Nat -> Nat -> List Pz
 | 0, _ => []
 | f + 1, j => if j < b.length then pieceAt b w d j :: pcs b w d f (j + pzN (pieceAt b w d j)) else []
def piecesF (b : List UInt8) (w d : Nat) : List Pz := pcs b w d (b.length + 1) 0
theorem pcs_end {b : List UInt8} {w d : Nat} {f j : Nat} (h : b.length <= j) : pcs b w d f j = [] := by
 cases f with
 | zero => rfl
 | succ f => rw [pcs, if_neg (by omega)]
theorem pcs_fuel {b : List UInt8} {w d : Nat} : ∀ (f g j : Nat), b.length + 1 <= f + j -> b.length + 1 <= g + j -> pcs b w d f j = pcs b w d g j
 | 0, g, j, h1, h2 => by rw [pcs_end (by omega), pcs_end (by omega)]
 | f + 1, 0, j, h1, h2 => by rw [pcs_end (by omega), pcs_end (by omega)]
 | f + 1, g + 1, j, h1, h2 => by
  rw [pcs, pcs]
  have := pzN_pos (pieceAt b w d j)
  rw [pcs_fuel f g _ (by omega) (by omega)]
end Go.Proofs.YthoeeahdkdcceaaGreat.IF
namespace Go.Proofs.YthoeeahdkdcceaaGreat.Sl
open Go Go.Proofs Go.RowKit Sh
end Go.Proofs.YthoeeahdkdcceaaGreat.Sl
namespace Go.Proofs.YthoeeahdkdcceaaGreat.IF
open Go Go.Proofs Go.RowKit Sh Sl T HM HF B M
def ordL : List Nat := [16, 17, 18, 0, 8, 7, 9, 6, 10, 5, 11, 4, 12, 3, 13, 2, 14, 1, 15]
end Go.Proofs.YthoeeahdkdcceaaGreat.IF
namespace Go.Proofs.YthoeeahdkdcceaaGreat.Sl
open Go Sh
variable {P : Program} {W : World}
instance {f : FuncId} : OC (fn f) := ⟨rfl⟩
end Go.Proofs.YthoeeahdkdcceaaGreat.Sl
namespace Go.Proofs.YthoeeahdkdcceaaGreat.IF
open Go Go.Proofs Go.RowKit HM HF B M
def gPs (b : List UInt8) : Nat -> List Pz -> Prop
 | _, [] => True
 | j, p :: r => j < b.length /\ gP b j p /\ gPs b (j + pzN p) r
def endN : Nat -> List Pz -> Nat
 | j, [] => j
 | j, p :: r => endN (j + pzN p) r
theorem endN_append : ∀ (l m : List Pz) (j : Nat), endN j (l ++ m) = endN (endN j l) m
 | [], m, j => rfl
 | p :: l, m, j => endN_append l m _
theorem gPs_append {b : List UInt8} : ∀ {l m : List Pz} {j : Nat}, gPs b j (l ++ m) ↔ gPs b j l /\ gPs b (endN j l) m
 | [], m, j => by simp [gPs, endN]
 | p :: l, m, j => by
  rw [List.cons_append]
  simp only [gPs, endN]
  rw [gPs_append (l := l)]
  exact ⟨fun ⟨a, c, d, e⟩ => ⟨⟨a, c, d⟩, e⟩, fun ⟨⟨a, c, d⟩, e⟩ => ⟨a, c, d, e⟩⟩
theorem endN_le {b : List UInt8} : ∀ {l : List Pz} {j : Nat}, gPs b j l -> j <= b.length -> endN j l <= b.length
 | [], j, _, h => h
 | p :: l, j, h, hj => endN_le (l := l) h.2.2 (gP_end h.2.1 h.1).1
theorem endN_ge : ∀ (l : List Pz) (j : Nat), j + l.length <= endN j l
 | [], j => by simp [endN]
 | p :: l, j => by
  have := endN_ge l (j + pzN p)
  have := pzN_pos p
  simp only [endN, List.length_cons]; omega
theorem pcs_gPs {b : List UInt8} {w d : Nat} (hw : w <= 32768) : ∀ (f j : Nat), b.length + 1 <= f + j -> j <= b.length -> gPs b j (pcs b w d f j) /\ endN j (pcs b w d f j) = b.length
 | 0, j, h1, h2 => by omega
 | f + 1, j, h1, h2 => by
  rw [pcs]
  by_cases c : j < b.length
  ·rw [if_pos c]
   have hg : gP b j (pieceAt b w d j) := pieceAt_gP hw
   have he := gP_end hg c
   have := pzN_pos (pieceAt b w d j)
   obtain ⟨e1, e2⟩ := pcs_gPs (b := b) (w := w) (d := d) hw f (j + pzN (pieceAt b w d j)) (by omega) he.1
   exact ⟨⟨c, hg, e1⟩, e2⟩
  ·rw [if_neg c]
   exact ⟨trivial, by simp [endN]; omega⟩
def lits (b : List UInt8) : List Pz := b.map fun c => ⟨0, 0, c⟩
def pcsL (b : List UInt8) (level : Int) : List Pz := if 0 < level then piecesF b 32768 (2 * 2 ^ level.toNat) else lits b
theorem lits_gPs {b : List UInt8} : ∀ (r : List UInt8) (j : Nat), b.drop j = r -> gPs b j (lits r) /\ endN j (lits r) = j + r.length
 | [], j, h => ⟨trivial, rfl⟩
 | c :: r, j, h => by
  have hj : j < b.length := by
   rcases Nat.lt_or_ge j b.length with d | d
   ·exact d
   ·rw [List.drop_of_length_le d] at h; cases h
  rw [List.drop_eq_getElem_cons hj] at h
  obtain ⟨h1, h2⟩ := List.cons.inj h
  obtain ⟨e1, e2⟩ := lits_gPs (b := b) r (j + 1) h2
  refine ⟨⟨hj, .inl ⟨rfl, rfl, ?_⟩, e1⟩, ?_⟩
  ·rw [List.getD_eq_getElem?_getD, List.getElem?_eq_getElem hj]; exact h1.symm
  ·show endN (j + 1) (lits r) = _
   rw [e2, List.length_cons]; omega
theorem pcsL_gPs (b : List UInt8) (level : Int) : gPs b 0 (pcsL b level) /\ endN 0 (pcsL b level) = b.length := by
 unfold pcsL
 split
 ·exact pcs_gPs (Nat.le_refl _) _ _ (by omega) (by omega)
 ·have := lits_gPs (b := b) b 0 (by simp)
  rw [Nat.zero_add] at this
  exact this
theorem pcsL_len (b : List UInt8) (level : Int) : (pcsL b level).length <= b.length := by
 have h := pcsL_gPs b level
 have := endN_ge (pcsL b level) 0
 omega
end Go.Proofs.YthoeeahdkdcceaaGreat.IF
namespace Go.Proofs.YthoeeahdkdcceaaGreat.HF
open Go Go.Proofs Go.RowKit Sh Sl T HM
section rules
variable {P : Program} {W : World} {L L' : List HP} {Kp : PK} {k : Value -> WP} {A : HP}
theorem v_cap {t e ty : TypeId} {s b : Nat} {a : Option Addr} {n cap : Nat} [ht : SlT P t e s b] : RunV P W [] (sCap #[t] ty [.slice a n cap]) (.int .i64 (cap : Int)) := fun w _ => by
 simp [sCap, Builtin.cap_, run_underlying ht.ut, goInt]
theorem v_ldRdA {t : TypeId} {n m g o j : Nat} {cs vs : List Value} [ht : AggT P t n] (H : RdB W A (some ⟨g, o, none⟩) m cs) (hn : vs.length = n) (hc : ∀ i, i < n -> cs[j + i]? = vs[i]?) : RunV P W [A] (sLoad t (.pointer (some ⟨g, o + j, none⟩))) (.agg vs.toArray) := fun w hw => by
 have h : (loadCells ⟨g, o + j, none⟩ n).run P w = .ok vs.toArray w := by
  subst hn
  refine run_loadCells_list (P := P) w ⟨g, o + j, none⟩ vs (fun i v hv => ?_)
  have hi : i < vs.length := by
   rcases Nat.lt_or_ge i vs.length with c | c
   ·exact c
   ·rw [List.getElem?_eq_none c] at hv; cases hv
  have hcv := hc i hi
  rw [hv] at hcv
  have hl := H.len
  have hlt : j + i < cs.length := by
   rcases Nat.lt_or_ge (j + i) cs.length with c | c
   ·exact c
   ·rw [List.getElem?_eq_none c] at hcv; cases hcv
  obtain ⟨g', o', e, hcell⟩ := H.at_ (by omega)
  injection e with e; injection e with e1 e2; subst e1; subst e2
  rw [addr_add, Nat.add_assoc]
  exact hcell w [] hw (j + i) v hcv
 simp [sLoad, Instr.loadAt, Instr.sureAddr, loadVar, ht.agg, ht.size, h]
theorem put_get {cs rest vs : List Value} {o n j : Nat} (hn : vs.length = n) (ho : o + n <= cs.length) : (cs.take o ++ vs ++ cs.drop (o + n) ++ rest)[j]? = if o <= j /\ j < o + n then vs[j - o]? else (cs ++ rest)[j]? := by
 simp only [List.getElem?_append, List.length_append, List.length_take, List.length_drop, hn, Nat.min_eq_left (show o <= cs.length by omega), List.getElem?_take, List.getElem?_drop]
 repeat' split
 all_goals first | rfl | omega | (congr 1; omega)
theorem e_stSlA {t e : TypeId} {s n g o cap m : Nat} {cs : List Value} {vs : Array Value} [ht : AggT P t n] (p : Pick L (Sl s e (some ⟨g, 0, none⟩) cap m cs) L') (hv : vs.size = n) (ho : o + n <= cs.length) (h1 : ∀ u ∈ vs.toList, u.oneCell' = true)
  (h : Ent W (Sl s e (some ⟨g, 0, none⟩) cap m (cs.take o ++ vs.toList ++ cs.drop (o + n)) :: L') (k undef)) : Ent W L (opN P (sStore t (.pointer (some ⟨g, o, none⟩)) (.agg vs)) Kp k) := fun w hw => by
 obtain ⟨rest, r1, r2, r3, r4, hp⟩ := sl_row (hw.pick p)
 have hst := run_storeCells_cells (P := P) g o vs.toList 0 w (fun j hj => by
  rw [hp.cell, Array.getElem?_eq_getElem (by simp at hj ⊢; omega)]; rfl) (fun j _ => hp.free) h1
 obtain ⟨cs', c1, c2, c3⟩ := setCells_world g (o + 0) vs.toList w _ _ hp
 refine ⟨?_⟩
 have hvl : vs.toList.length = n := by simp [hv]
 have : (sStore t (.pointer (some ⟨g, o, none⟩)) (.agg vs)).run P w = .ok .skip (w.setCells g (o + 0) vs.toList) := by
  simp [sStore, Instr.storeAt, Instr.sureAddr, storeVar, ht.size, Value.cells, hv, hst]
 rw [this]
 refine h _ (sl_back r1 (by simp [hv]; omega) r3 r4 ?_)
 have he : cs' = (cs.take o ++ vs.toList ++ cs.drop (o + n) ++ rest).toArray := by
  apply Array.ext_getElem?
  intro j
  rw [c3]
  simp only [Nat.add_zero, List.size_toArray, List.length_append, List.getElem?_toArray, hvl]
  rw [put_get hvl ho]
  by_cases hj : o <= j /\ j < o + n
  ·rw [if_pos hj, if_pos ⟨hj.1, hj.2, by omega⟩]
  ·rw [if_neg hj, if_neg (fun c => hj ⟨c.1, c.2.1⟩)]
 rwa [he] at c1
theorem e_appZ {t tn ty e : TypeId} {s b n : Nat} [ht : SlT P t e s b] (htn : P.underlying tn = some (.int .i64)) (h0 : 0 < n) (hs : 0 < s) (h1 : n * b <= 140737488355328) (h2 : n <= 4611686018427387904)
  (h : ∀ g cap, n <= cap -> Ent W (Sl s e (some ⟨g, 0, none⟩) cap 0 [] :: L) (k (.slice (some ⟨g, 0, none⟩) n cap))) : Ent W L (opN P (sApp #[t, tn] ty [.slice none 0 0, .int .i64 (n : Int)]) Kp k) := fun w hw => by
 obtain ⟨i, z, hi, hz, hs', hb, hzs⟩ := ht.info
 subst hs'; subst hb
 refine ⟨?_⟩
 have hr := Lib.run_append_nil_zeros (P := P) w t tn ty e i z .i64 .i64 ht.ut htn hi hz n h0 hs (by omega) (by omega)
 have : (sApp #[t, tn] ty [.slice none 0 0, .int .i64 (n : Int)]).run P w = .ok (.value (.slice (some ⟨w.heap.size, 0, none⟩) n (grownCap w n 0 e))) (w.drew.alloc (.cells (Builtin.zeroCells z.cells n ++ Builtin.zeroCells z.cells (grownCap w n 0 e - n)) e)) := by simp [sApp, hr]
 rw [this]
 have hge := grownCap_ge w n 0 e
 have hle := grownCap_le_maxLen w n 0 e (by unfold maxLen; omega)
 refine h _ _ hge _ ?_
 have ha := (hw.drew).alloc (.cells (Builtin.zeroCells z.cells n ++ Builtin.zeroCells z.cells (grownCap w n 0 e - n)) e)
 have he : (Builtin.zeroCells z.cells n ++ Builtin.zeroCells z.cells (grownCap w n 0 e - n)) = ([] ++ (Builtin.zeroCells z.cells n ++ Builtin.zeroCells z.cells (grownCap w n 0 e - n)).toList).toArray := by simp
 rw [he] at ha ⊢
 refine sl_back (g := w.heap.size) ?_ (by simp) (by omega) hle ha
 simp only [Array.toList_append, List.length_append, Array.length_toList, size_zeroCells, hzs, Nat.sub_zero]
 rw [<- Nat.add_mul]; congr 1; omega
end rules
structure It where
 n : Int
 g : Nat
 c : Nat
 w : List Int
def ic (x : It) : List Value := [I x.n, .slice (some ⟨x.g, 0, none⟩) x.w.length x.c]
theorem ic_len (x : It) : (ic x).length = 2 := rfl
def er (x : It) : Int × List Int := (x.n, x.w)
def av (x : It) : Value := .agg #[I x.n, .slice (some ⟨x.g, 0, none⟩) x.w.length x.c]
theorem ic_one (x : It) : ∀ u ∈ ic x, u.oneCell' = true := by
 intro u hu; simp [ic] at hu; rcases hu with rfl | rfl <;> rfl
theorem ics_one (xs : List It) : ∀ u ∈ xs.flatMap ic, u.oneCell' = true := by
 intro u hu
 obtain ⟨x, _, hx⟩ := List.mem_flatMap.1 hu
 exact ic_one x u hx
theorem ics_len (xs : List It) : (xs.flatMap ic).length = xs.length * 2 := flat_len ic_len xs
theorem ics_set (xs : List It) (j : Nat) (y : It) (h : j < xs.length) : (xs.flatMap ic).take (j * 2) ++ ic y ++ (xs.flatMap ic).drop (j * 2 + 2) = (xs.set j y).flatMap ic := by
 induction xs generalizing j with
 | nil => simp at h
 | cons x xs ih =>
  cases j with
  | zero => simp [ic]
  | succ j =>
   have := ih j (by simpa using h)
   rw [List.set_cons_succ, List.flatMap_cons, List.flatMap_cons, <- this, show (j + 1) * 2 = j * 2 + 1 + 1 by omega, show j * 2 + 1 + 1 + 2 = (j * 2 + 2) + 1 + 1 by omega]
   simp [ic]
theorem cmpInt {W : World} {a b : Int} : Cn p_ 139 [.int .i64 a, .int .i64 b] W [] (fun _ : Unit => .int .i64 (if a < b then -1 else if b < a then 1 else 0)) (fun _ => []) := by
 have nan : ∀ x : Int, Cn p_ 165 [.int .i64 x] W [] (fun _ : Unit => .bool false) (fun _ => []) := fun x => by
  (refine S.cmp_isNaN_int_s.cn fun F => ?_; unfold S.cmp_isNaN_int; simp only [ca_, na_])
  refine o_ v_neq ?_
  rw [dF_ (by simp)]
  refine rt_ () ?_
  exact .refl
 (refine S.cmp_Compare_int_s.cn fun F => ?_; unfold S.cmp_Compare_int; simp only [ca_, na_])
 refine c_ (nan a) fun _ => ?_
 refine c_ (nan b) fun _ => ?_
 refine e_condF (e_condF (e_ask v_lss .nil (fun h => ?_) (fun h => ?_)))
 ·rw [if_pos h]
  refine e_condT (rt_ () ?_)
  exact .refl
 rw [if_neg h]
 refine e_condF (e_ask v_gtr .nil (fun h => ?_) (fun h => ?_))
 ·rw [if_pos h]
  refine e_condT (rt_ () ?_)
  exact .refl
 ·rw [if_neg h]
  refine e_condF (rt_ () ?_)
  exact .refl
theorem cmpIt {W : World} {x y : It} : Cn p_ 138 [av x, av y] W [] (fun _ : Unit => .int .i64 (if x.n < y.n then -1 else if y.n < x.n then 1 else 0)) (fun _ => []) := by
 (refine S.huff_Lengths_1_s.cn fun F => ?_; unfold S.huff_Lengths_1; simp only [ca_, na_])
 unfold av I
 refine e_boxA fun g => ?_; refine e_boxA fun g => ?_; refine o_ v_fa0 (ln_ ?_); refine o_ v_fa0 (ln_ ?_)
 refine c_ cmpInt fun _ => ?_
 refine rt_ () ?_
 exact im_
end Go.Proofs.YthoeeahdkdcceaaGreat.HF
namespace Go.Proofs.YthoeeahdkdcceaaGreat.HF
open Go Go.Proofs Go.RowKit Sh Sl T HM
theorem rd_slS {P : Program} {W : World} {s : Nat} {e : TypeId} {a : Option Addr} {cap n : Nat} {cs : List Value} (hl : cs.length = n * s) (ha : 0 < n -> ∃ g, a = some ⟨g, 0, none⟩) : RdB W (Sl s e a cap n cs) a (n * s) cs := ⟨hl, fun hn => by
 have hn0 : 0 < n := Nat.pos_of_mul_pos_right hn
 obtain ⟨g, rfl⟩ := ha hn0
 refine ⟨g, 0, rfl, fun w L hw j v hv => ?_⟩
 obtain ⟨rest, r1, r2, r3, r4, hp⟩ := sl_row hw
 rw [Nat.zero_add, hp.cell]
 have hj : j < cs.length := by
  rcases Nat.lt_or_ge j cs.length with c | c
  ·exact c
  ·rw [List.getElem?_eq_none c] at hv; cases hv
 simpa [List.getElem?_append_left hj] using hv⟩
theorem v_ldIt {W : World} {A : HP} {g o j : Nat} {ys : List It} (H : RdB W A (some ⟨g, o, none⟩) (ys.length * 2) (ys.flatMap ic)) (hj : j < ys.length) : RunV p_ W [A] (sLoad 199 (.pointer (some ⟨g, o + j * 2, none⟩))) (av ys[j]) :=
 v_ldRdA (vs := ic ys[j]) H (by rfl) fun i hi => flat_get ic_len ys j i hj hi
section spec
variable {α : Type} (key : α -> Int)
def insAt (acc : List α) (x : α) : Nat -> List α
 | 0 => x :: acc
 | j + 1 => match acc[j]? with
  | some y => if key x < key y then insAt acc x j else acc.take (j + 1) ++ x :: acc.drop (j + 1)
  | none => acc ++ [x]
def insR (acc : List α) (x : α) : List α := insAt key acc x acc.length
def isort (xs : List α) : List α := xs.foldl (insR key) []
theorem length_insAt (acc : List α) (x : α) : ∀ j, (insAt key acc x j).length = acc.length + 1
 | 0 => by simp [insAt]
 | j + 1 => by
  unfold insAt
  split
  ·split
   ·exact length_insAt acc x j
   ·simp; omega
  ·simp
theorem isort_snoc (xs : List α) (x : α) : isort key (xs ++ [x]) = insR key (isort key xs) x := by simp [isort]
theorem length_isort (xs : List α) : (isort key xs).length = xs.length := by
 have : ∀ n, ∀ xs : List α, xs.length = n -> (isort key xs).length = n := by
  intro n
  induction n with
  | zero => intro xs h; rw [List.eq_nil_of_length_eq_zero h]; rfl
  | succ n ih =>
   intro xs h
   have e := List.take_append_drop n xs
   obtain ⟨x, hx⟩ : ∃ x, xs.drop n = [x] := List.length_eq_one_iff.1 (by simp; omega)
   rw [hx] at e
   rw [<- e, isort_snoc, insR, length_insAt, ih _ (by simp; omega)]
 exact this _ xs rfl
theorem insAt_map {β : Type} (k2 : β -> Int) (f : α -> β) (hk : ∀ x, k2 (f x) = key x) (acc : List α) (x : α) : ∀ j, (insAt key acc x j).map f = insAt k2 (acc.map f) (f x) j
 | 0 => by simp [insAt]
 | j + 1 => by
  unfold insAt
  rw [List.getElem?_map]
  cases h : acc[j]? with
  | none => simp
  | some y =>
   simp only [Option.map_some, hk]
   split
   ·exact insAt_map k2 f hk acc x j
   ·simp [List.map_take, List.map_drop]
theorem isort_map {β : Type} (k2 : β -> Int) (f : α -> β) (hk : ∀ x, k2 (f x) = key x) (xs : List α) : (isort key xs).map f = isort k2 (xs.map f) := by
 have : ∀ (xs acc : List α), (xs.foldl (insR key) acc).map f = (xs.map f).foldl (insR k2) (acc.map f) := by
  intro xs
  induction xs with
  | nil => intro acc; rfl
  | cons x xs ih =>
   intro acc
   rw [List.foldl_cons, ih, List.map_cons, List.foldl_cons]
   congr 1
   unfold insR
   rw [insAt_map key k2 f hk, List.length_map]
 exact this xs []
theorem mem_insAt (acc : List α) (x y : α) : ∀ j, y ∈ insAt key acc x j -> y = x \/ y ∈ acc
 | 0, h => by simpa [insAt] using h
 | j + 1, h => by
  unfold insAt at h
  split at h
  ·split at h
   ·exact mem_insAt acc x y j h
   ·rcases List.mem_append.1 h with c | c
    ·exact .inr (List.mem_of_mem_take c)
    ·rcases List.mem_cons.1 c with c | c
     ·exact .inl c
     ·exact .inr (List.mem_of_mem_drop c)
  ·rcases List.mem_append.1 h with c | c
   ·exact .inr c
   ·exact .inl (by simpa using c)
theorem mem_isort (xs : List α) (y : α) (h : y ∈ isort key xs) : y ∈ xs := by
 have : ∀ (xs acc : List α), y ∈ xs.foldl (insR key) acc -> y ∈ xs \/ y ∈ acc := by
  intro xs
  induction xs with
  | nil => intro acc h; exact .inr h
  | cons x xs ih =>
   intro acc h
   rw [List.foldl_cons] at h
   rcases ih _ h with c | c
   ·exact .inl (List.mem_cons_of_mem _ c)
   ·rcases mem_insAt key acc x y _ c with d | d
    ·exact .inl (by rw [d]; exact List.mem_cons_self)
    ·exact .inr d
 rcases this xs [] h with c | c
 ·exact c
 ·cases c
end spec
theorem swap_lem {α : Type} (p q : List α) (y x : α) : ((p ++ y :: x :: q).set (p.length + 1) y).set p.length x = p ++ x :: y :: q := by
 rw [List.set_append_right _ _ (by omega), List.set_append_right _ _ (by omega), show p.length + 1 - p.length = 1 by omega, Nat.sub_self]; rfl
theorem insertion {W : World} {a : Option Addr} {cap c : Nat} {xs : List It} (hx : xs.length <= 1099511627776) :
  Cn p_ 170 [.slice a xs.length c, .int .i64 0, .int .i64 (xs.length : Int), fn 138] W [Sl 2 199 a cap xs.length (xs.flatMap ic)] (fun _ : Unit => .tuple #[]) (fun _ => [Sl 2 199 a cap xs.length ((isort It.n xs).flatMap ic)]) := by
 (refine S.slices_insertionSortCmpFunc_huff_weighed_int_s.cn fun F => ?_; unfold S.slices_insertionSortCmpFunc_huff_weighed_int; simp only [ca_, na_])
 refine ad_ ?_
 refine e_slfacts .here fun f1 f2 f3 f4 => ?_
 refine e_loop1 (fun m y => [ex fun i : Nat => all [pu (m + i = xs.length + 1 /\ 1 <= i /\ y = .int .i64 (i : Int)), Sl 2 199 a cap xs.length ((isort It.n (xs.take i) ++ xs.drop i).flatMap ic)]] ++ F) xs.length ?_ ?_
 ·refine Imp.ex 1 (.all ?_)
  refine nr_ ?_
  refine .pu ⟨by omega, by omega, by rfl⟩ ?_
  have e : isort It.n (xs.take 1) ++ xs.drop 1 = xs := by
   cases xs with
   | nil => rfl
   | cons x xs => rfl
  rw [e]
  exact im_
 intro m ds y
 refine nr_ ?_
 refine e_ex Pick.here fun i => e_all Pick.here ?_
 refine nr_ ?_
 refine e_pu Pick.here fun hi => ?_
 obtain ⟨hmi, hi1, rfl⟩ := hi
 refine e_ask v_lss .nil (fun h => ?_) (fun h => ?_)
 ·have hil : i < xs.length := by omega
  obtain ⟨g, rfl⟩ := f4 (by omega)
  obtain ⟨acc, hacc⟩ : ∃ acc, acc = isort It.n (xs.take i) := ⟨_, rfl⟩
  have hal : acc.length = i := by rw [hacc, length_isort, List.length_take]; omega
  have hdrop : xs.drop i = xs[i] :: xs.drop (i + 1) := List.drop_eq_getElem_cons hil
  have hnext : isort It.n (xs.take (i + 1)) = insR It.n acc xs[i] := by rw [List.take_succ_eq_append_getElem hil, isort_snoc, hacc]
  rw [<- hacc, hdrop]
  refine e_condT (e_loop1 (fun m y => [ex fun j : Nat => all [pu (m = j /\ j <= i /\ y = .int .i64 (j : Int) /\ insR It.n acc xs[i] = insAt It.n acc xs[i] j), Sl 2 199 (some ⟨g, 0, none⟩) cap xs.length ((acc.take j ++ xs[i] :: (acc.drop j ++ xs.drop (i + 1))).flatMap ic)]] ++ F) i ?_ ?_)
  ·refine Imp.ex i (.all ?_)
   refine nr_ ?_
   refine .pu ⟨rfl, by omega, rfl, by unfold insR; rw [hal]⟩ ?_
   rw [List.take_of_length_le (by omega), List.drop_eq_nil_of_le (show acc.length <= i by omega), List.nil_append]
   exact im_
  intro m2 ds y
  refine nr_ ?_
  refine e_ex Pick.here fun j => e_all Pick.here ?_
  refine nr_ ?_
  refine e_pu Pick.here fun hj => ?_
  obtain ⟨rfl, hji, rfl, hins⟩ := hj
  have done : insR It.n acc xs[i] = acc.take m2 ++ xs[i] :: acc.drop m2 -> Ent W (Sl 2 199 (some ⟨g, 0, none⟩) cap xs.length ((acc.take m2 ++ xs[i] :: (acc.drop m2 ++ xs.drop (i + 1))).flatMap ic) :: F) (next1 (fun m y w => sat W ([ex fun i : Nat => all [pu (m + i = xs.length + 1 /\ 1 <= i /\ y = .int .i64 (i : Int)), Sl 2 199 (some ⟨g, 0, none⟩) cap xs.length ((isort It.n (xs.take i) ++ xs.drop i).flatMap ic)]] ++ F) w) m (.int .i64 ((i : Int) + 1))) := by
   intro he
   refine e_next1 (m - 1) (by omega) (.ex (i + 1) (.all ?_))
   refine nr_ ?_
   refine .pu ⟨by omega, by omega, by norm_cast⟩ ?_
   rw [hnext, he, List.append_assoc, List.cons_append]
   exact im_
  refine e_drS (e_askS v_gtr .nil (fun h => ?_) (fun h => ?_))
  ·obtain ⟨j, rfl⟩ : ∃ j, m2 = j + 1 := ⟨m2 - 1, by omega⟩
   have hja : j < acc.length := by omega
   obtain ⟨p, hp⟩ : ∃ p, p = acc.take j := ⟨_, rfl⟩
   obtain ⟨q, hq⟩ : ∃ q, q = acc.drop (j + 1) ++ xs.drop (i + 1) := ⟨_, rfl⟩
   have hpl : p.length = j := by rw [hp, List.length_take]; omega
   have htk : acc.take (j + 1) = p ++ [acc[j]] := by rw [hp, List.take_succ_eq_append_getElem hja]
   have hys : acc.take (j + 1) ++ xs[i] :: (acc.drop (j + 1) ++ xs.drop (i + 1)) = p ++ acc[j] :: xs[i] :: q := by rw [htk, hq]; simp
   rw [hys] at done
   rw [hys]
   have hyl : (p ++ acc[j] :: xs[i] :: q).length = xs.length := by
    rw [<- hys]; simp; omega
   have hrd : RdB W (Sl 2 199 (some ⟨g, 0, none⟩) cap xs.length ((p ++ acc[j] :: xs[i] :: q).flatMap ic)) (some ⟨g, 0, none⟩) ((p ++ acc[j] :: xs[i] :: q).length * 2) ((p ++ acc[j] :: xs[i] :: q).flatMap ic) := by
    rw [hyl]; exact rd_slS (P := p_) (by rw [ics_len, hyl]) (fun _ => ⟨g, rfl⟩)
   have g1 : (p ++ acc[j] :: xs[i] :: q)[j + 1]'(by omega) = xs[i] := by
    rw [List.getElem_append_right (by omega)]; simp [hpl]
   have g0 : (p ++ acc[j] :: xs[i] :: q)[j]'(by omega) = acc[j] := by
    rw [List.getElem_append_right (by omega)]; simp [hpl]
   have ld1 := v_ldIt hrd (j := j + 1) (by omega)
   have ld0 := v_ldIt hrd (j := j) (by omega)
   rw [g1] at ld1
   rw [g0] at ld0
   refine e_gdT (e_gdT (e_gdT (e_gdT (t_ (v_ia (j + 1) (by rfl) (by omega)) ?_))))
   refine e_gdT (e_stS ld1 (.pick .here .nil) ?_)
   refine e_gdT (e_gdT (e_gdT ?_)); (refine t_ (v_sub (by omega) (by omega)) ?_); refine e_gdT (t_ (v_ia j (by omega) (by omega)) ?_)
   refine e_gdT (e_stS ld0 (.pick .here .nil) ?_)
   refine e_gdT (c_ cmpIt fun _ => ?_)
   refine e_gdT (e_askS v_lss .nil (fun h2 => ?_) (fun h2 => ?_))
   ·have hlt : xs[i].n < acc[j].n := by
     by_cases c : xs[i].n < acc[j].n
     ·exact c
     ·rw [if_neg c] at h2; split at h2 <;> omega
    refine t_ v_pickT (e_condT (e_drS ?_)); (refine e_stD (v_sub (by omega) (by omega)) .nil ?_); (refine t_ (v_sub (by omega) (by omega)) ?_)
    refine t_ (v_ia j (by omega) (by omega)) ?_
    refine e_stS ld0 (.pick .here .nil) ?_
    refine t_ (v_ia (j + 1) (by rfl) (by omega)) ?_
    refine e_stS ld1 (.pick .here .nil) ?_
    refine t_ (v_ia (j + 1) (by rfl) (by omega)) ?_
    rw [Nat.zero_add]
    refine e_stSlA .here (by rfl) (by rw [ics_len]; omega) (ic_one acc[j]) ?_
    rw [show ((p ++ acc[j] :: xs[i] :: q).flatMap ic).take ((j + 1) * 2) ++ (#[I acc[j].n, Value.slice (some ⟨acc[j].g, 0, none⟩) acc[j].w.length acc[j].c] : Array Value).toList ++ ((p ++ acc[j] :: xs[i] :: q).flatMap ic).drop ((j + 1) * 2 + 2) = ((p ++ acc[j] :: xs[i] :: q).set (j + 1) acc[j]).flatMap ic from ics_set _ (j + 1) acc[j] (by omega)]
    refine ob_ ?_
    refine t_ (v_ia j (by omega) (by omega)) ?_
    rw [Nat.zero_add]
    refine e_stSlA .here (by rfl) (by rw [ics_len, List.length_set]; omega) (ic_one xs[i]) ?_
    rw [show (((p ++ acc[j] :: xs[i] :: q).set (j + 1) acc[j]).flatMap ic).take (j * 2) ++ (#[I xs[i].n, Value.slice (some ⟨xs[i].g, 0, none⟩) xs[i].w.length xs[i].c] : Array Value).toList ++ (((p ++ acc[j] :: xs[i] :: q).set (j + 1) acc[j]).flatMap ic).drop (j * 2 + 2) = (((p ++ acc[j] :: xs[i] :: q).set (j + 1) acc[j]).set j xs[i]).flatMap ic from ics_set _ j xs[i] (by rw [List.length_set]; omega)]
    have hsw := swap_lem p q acc[j] xs[i]
    rw [hpl] at hsw
    rw [hsw]
    refine sb_ ?_
    refine e_next1 j (by omega) (.ex j (.all ?_))
    refine nr_ ?_
    refine .pu ⟨rfl, by omega, by congr 1; omega, ?_⟩ ?_
    ·rw [hins]
     conv => lhs; unfold insAt
     rw [List.getElem?_eq_getElem hja]
     simp only
     rw [if_pos hlt]
    ·rw [show acc.take j ++ xs[i] :: (acc.drop j ++ xs.drop (i + 1)) = p ++ xs[i] :: acc[j] :: q by rw [hp, hq, List.drop_eq_getElem_cons hja]; rfl]
     exact im_
   ·have hge : ¬ xs[i].n < acc[j].n := fun c => h2 (by rw [if_pos c]; omega)
    refine t_ v_pickT (e_condF (ad_ ?_))
    refine done ?_
    rw [hins]
    conv => lhs; unfold insAt
    rw [List.getElem?_eq_getElem hja]
    simp only
    rw [if_neg hge]
  ·have : m2 = 0 := by omega
   subst this
   refine e_gdF2 (e_gdF2 (e_gdF2 (e_gdF2 (e_gdF2 (e_gdF2 (e_gdF2 (e_gdF2 (e_gdF2 (e_gdF2 (e_gdF2 (e_gdF2 (t_ v_pickF (e_condF (ad_ ?_))))))))))))))
   exact done (by rw [hins]; rfl)
 ·refine e_condF ?_
  rw [List.take_of_length_le (by omega), List.drop_eq_nil_of_le (by omega), List.append_nil]
  refine rt_ () ?_
  exact im_
theorem sorted {W : World} {a : Option Addr} {cap c : Nat} {xs : List It} (hx : xs.length < 20) :
  Cn p_ 137 [.slice a xs.length c, fn 138] W [Sl 2 199 a cap xs.length (xs.flatMap ic)] (fun _ : Unit => .tuple #[]) (fun _ => [Sl 2 199 a cap xs.length ((isort It.n xs).flatMap ic)]) := by
 have inner : Cn p_ 164 [.slice a xs.length c, .int .i64 (xs.length : Int), fn 138] W [Sl 2 199 a cap xs.length (xs.flatMap ic)] (fun _ : Unit => .tuple #[]) (fun _ => [Sl 2 199 a cap xs.length ((isort It.n xs).flatMap ic)]) := by
  (refine S.slices_stableCmpFunc_huff_weighed_int_s.cn fun F => ?_; unfold S.slices_stableCmpFunc_huff_weighed_int; simp only [ca_, na_])
  refine e_loop2 (fun m x y => [pu (x = .int .i64 0 /\ y = .int .i64 20), Sl 2 199 a cap xs.length (xs.flatMap ic)] ++ F) 1 ?_ ?_
  ·refine nr_ ?_
   exact .pu ⟨rfl, rfl⟩ .refl
  intro m ds x y
  refine nr_ ?_
  refine e_pu Pick.here fun hxy => ?_
  obtain ⟨rfl, rfl⟩ := hxy
  refine o_ v_leq ?_
  rw [dF_ (by omega)]
  refine e_condF (c_ (insertion (by omega)) fun _ => ?_)
  refine e_loop1 (fun m y => [pu (y = .int .i64 20), Sl 2 199 a cap xs.length ((isort It.n xs).flatMap ic)] ++ F) 1 ?_ ?_
  ·refine nr_ ?_
   exact .pu rfl .refl
  intro m ds y
  refine nr_ ?_
  refine e_pu Pick.here fun hy => ?_
  subst hy
  refine o_ v_lss ?_
  rw [dF_ (by omega)]
  refine e_condF (rt_ () ?_)
  exact im_
 (refine S.slices_SortStableFunc_huff_weighed_int_huff_weighed_int_s.cn fun F => ?_; unfold S.slices_SortStableFunc_huff_weighed_int_huff_weighed_int; simp only [ca_, na_])
 refine o_ v_len (c_ inner fun _ => ?_)
 refine rt_ () ?_
 exact im_
end Go.Proofs.YthoeeahdkdcceaaGreat.HF
namespace Go.Proofs.YthoeeahdkdcceaaGreat.HF
open Go Go.Proofs Go.RowKit Sh Sl T HM
section rules
variable {P : Program} {W : World} {L L' L'' : List HP} {Kp : PK} {k : Value -> WP} {A : HP}
theorem rd_none {a : Option Addr} {n : Nat} {cs : List Value} (h : RdB W A a n cs) (c : a = none) : n = 0 := by
 rcases Nat.eq_zero_or_pos n with z | z
 ·exact z
 ·obtain ⟨_, _, e, _⟩ := h.at_ z
  rw [c] at e; cases e
theorem e_mksl0 {t e : TypeId} {s b : Nat} {q r : IntKind} {c : Int} (m : Nat) [ht : SlT P t e s b] (hcm : c = (m : Int)) (h2 : b * m <= 281474976710656) (h3 : m <= maxLen)
  (h : ∀ g, Ent W (Sl s e (some ⟨g, 0, none⟩) m 0 [] :: L) (k (.slice (some ⟨g, 0, none⟩) 0 m))) : Ent W L (opN P (sMkSl t (.int q 0) (.int r c)) Kp k) := fun w hw => by
 refine ⟨?_⟩
 obtain ⟨i, z, hi, hz, hs, hb, hzs⟩ := ht.info
 subst hcm
 have hbm : (i.bytes : Int) * (m : Int) <= 281474976710656 := by
  rw [hb]
  obtain ⟨X, hX⟩ : ∃ X, X = b * m := ⟨_, rfl⟩
  have h4 : (X : Int) <= 281474976710656 := by omega
  rw [hX, Int.natCast_mul] at h4
  exact h4
 have hr := run_make (P := P) (w := w) t e i z ht.ut hi hz q r 0 m (by omega) (by omega) hbm (by unfold maxLen at h3; omega)
 simp only [Int.toNat_natCast, hs] at hr
 have : (sMkSl t (.int q 0) (.int r m)).run P w = .ok (.value (.slice (some ⟨w.heap.size, 0, none⟩) 0 m)) (w.alloc (.cells (madeCells z.cells (m * s)) e)) := by
  simp [sMkSl, hr]
 rw [this]
 refine h _ _ ?_
 have ha := hw.alloc (.cells (madeCells z.cells (m * s)) e)
 have he : madeCells z.cells (m * s) = ([] ++ (madeCells z.cells (m * s)).toList).toArray := by simp
 rw [he] at ha ⊢
 exact sl_back (by simp [madeCells]) (by simp) (by omega) h3 ha
end rules
def Arena (xs : List It) : HP := fun _ h => ∀ x ∈ xs, ∃ rest : List Value, h x.g = some (.cells (x.w.map I ++ rest).toArray 3 (0, 0))
theorem rd_ar {W : World} {xs : List It} {x : It} (hx : x ∈ xs) : RdB W (Arena xs) (some ⟨x.g, 0, none⟩) x.w.length (x.w.map I) := ⟨by simp, fun hn => ⟨x.g, 0, rfl, fun w L hw j v hv => by
 obtain ⟨f, ⟨h1, h2, ha, hl, d, s1, s2⟩, b⟩ := hw.heap
 obtain ⟨rest, hr⟩ := ha x hx
 have hg := (b x.g _ (s1 x.g _ hr)).2
 rw [Nat.zero_add]
 have hj : j < (x.w.map I).length := by
  rcases Nat.lt_or_ge j (x.w.map I).length with c | c
  ·exact c
  ·rw [List.getElem?_eq_none c] at hv; cases hv
 have hv2 : (x.w.map I ++ rest)[j]? = some v := by rw [List.getElem?_append_left hj]; exact hv
 simp [World.cell?, hg, hv2]⟩⟩
theorem e_ar {W : World} {L L' L'' : List HP} {S : WP} {g cap n : Nat} {xs : List It} {x : It} (hx : x.g = g) (p : Pick L (Sl 1 3 (some ⟨g, 0, none⟩) cap n (x.w.map I)) L') (p' : Pick L' (Arena xs) L'') (h : Ent W (Arena (x :: xs) :: L'') S) : Ent W L S := fun w hw => by
 have h1 := hw.pick p
 refine h w (sat.map (L := Sl 1 3 (some ⟨g, 0, none⟩) cap n (x.w.map I) :: L') (fun f hf => ?_) h1)
 have h2 := star_assoc' (star_mono (fun _ => p'.all) hf)
 obtain ⟨f1, f2, ⟨u1, u2, ha, hb, hd, t1, t2⟩, r⟩ := h2
 refine ⟨f1, f2, fun y hy => ?_, r⟩
 rcases List.mem_cons.1 hy with rfl | hy
 ·obtain ⟨q1, q2, q3, q4⟩ := ha
  rcases q4 with ⟨c, _⟩ | ⟨g', rest, c, e1, e2⟩
  ·cases c
  ·injection c with c; injection c with c; subst c
   exact ⟨rest, by rw [hx]; exact t1 _ _ e2⟩
 ·obtain ⟨rest, hr⟩ := hb y hy
  exact ⟨rest, t2 _ _ hr⟩
theorem imp_ar0 {W : World} {L M : List HP} (h : Imp W L M) : Imp W L (Arena [] :: M) := .conv (B := pu True) (fun f _ x hx => by cases hx) (.pu trivial h)
theorem grow {W : World} {n : Nat} (h0 : 0 < n) (hn : n <= 1099511627776) :
  Cn p_ 166 [.slice none 0 0, .int .i64 (n : Int)] W [] (fun q : Nat × Nat => .slice (some ⟨q.1, 0, none⟩) 0 q.2) (fun q => [Sl 1 3 (some ⟨q.1, 0, none⟩) q.2 0 []]) := by
 (refine S.slices_Grow_int_int_s.cn fun F => ?_; unfold S.slices_Grow_int_int; simp only [ca_, na_])
 refine e_cut0 F ?_ ?_
 ·intro ds
  refine o_ v_cap ?_
  refine o_ v_len (sb_ ?_); refine sb_ ?_
  refine o_ v_gtr ?_
  rw [dT_ (by omega)]
  refine e_condT (o_ v_cap ?_)
  refine o_ (v_slh 0 (by rfl) (by omega)) ?_
  rw [if_pos rfl, show (n : Int) - (((0 : Nat) : Int) - ((0 : Nat) : Int)) = (n : Int) by omega]
  refine e_appZ (by kernel_rfl) h0 (by omega) (by omega) (by omega) fun g cap hc => ?_
  refine o_ v_len (o_ (v_slh 0 (by rfl) (by omega)) ?_)
  rw [if_neg (by omega), show (Option.map (fun x : Addr => x.add (0 * 1)) (some ⟨g, 0, none⟩)) = some ⟨g, 0, none⟩ by simp [addr_add]]
  refine e_ret (g, cap) rfl ?_
  exact im_
 ·(refine e_ask v_lss .nil (fun h => ?_) (fun h => ?_))
  ·omega
  refine e_condF (e_sat ?_)
  exact im_
def sz (m n : Nat) : Nat -> Nat
 | 0 => 0
 | 1 => m
 | _ => m + n
def ac (x y : List Int) : Nat -> List Int
 | 0 => []
 | 1 => x
 | _ => x ++ y
theorem concat {W : World} {A : HP} {g c1 c2 : Nat} {a1 a2 : Option Addr} {x y : List Int} {T : TypeId} (h1 : RdB W A a1 x.length (x.map I)) (h2 : RdB W A a2 y.length (y.map I)) (hx : 0 < x.length) (b1 : x.length <= 1073741824) (b2 : y.length <= 1073741824) :
  Cn p_ 140 [.slice (some ⟨g, 0, none⟩) 2 2] W [pt g (.cells #[.slice a1 x.length c1, .slice a2 y.length c2] T (0, 0)), A] (fun q : Nat × Nat => .slice (some ⟨q.1, 0, none⟩) (x.length + y.length) q.2) (fun q => [Sl 1 3 (some ⟨q.1, 0, none⟩) q.2 (x.length + y.length) ((x ++ y).map I), A]) := by
 (refine S.slices_Concat_int_int_s.cn fun F => ?_; unfold S.slices_Concat_int_int; simp only [ca_, na_])
 refine o_ v_len (e_loop2 (fun m u v => [pu (∃ i : Nat, m + i = 2 /\ v = .int .i64 (i : Int) /\ u = .int .i64 (sz x.length y.length i : Int)), pt g (.cells #[.slice a1 x.length c1, .slice a2 y.length c2] T (0, 0)), A] ++ F) 2 ?_ ?_)
 ·refine nr_ ?_
  exact .pu ⟨0, by omega, rfl, rfl⟩ .refl
 intro m ds u v
 refine nr_ ?_
 refine e_pu Pick.here fun hi => ?_
 obtain ⟨i, hmi, rfl, rfl⟩ := hi
 have hszi : sz x.length y.length i <= 2147483648 := by unfold sz; split <;> omega
 refine e_ask v_lss .nil (fun h => ?_) (fun h => ?_)
 ·have hi2 : i = 0 \/ i = 1 := by omega
  obtain ⟨ai, ni, ci, hcell, hni, hsz⟩ : ∃ (ai : Option Addr) (ni ci : Nat), (#[.slice a1 x.length c1, .slice a2 y.length c2] : Array Value)[0 + i]? = some (.slice ai ni ci) /\ ni <= 1073741824 /\ sz x.length y.length i + ni = sz x.length y.length (i + 1) := by
   rcases hi2 with rfl | rfl
   ·exact ⟨a1, x.length, c1, rfl, b1, by simp [sz]⟩
   ·exact ⟨a2, y.length, c2, rfl, b2, by simp [sz]⟩
  refine e_condT (o_ (v_ia1 i (by rfl) (by omega)) ?_)
  refine e_opN (v_ld hcell) (.pick .here .nil) ?_
  refine o_ v_len (ad_ ?_)
  refine e_ask v_lss .nil (fun h => ?_) (fun h => ?_)
  ·omega
  refine e_condF (ad_ ?_)
  refine e_next2 (m - 1) (by omega) ?_
  refine nr_ ?_
  exact .pu ⟨i + 1, by omega, by norm_cast, by rw [<- hsz]; norm_cast⟩ .refl
 ·have hi2 : i = 2 := by omega
  subst hi2
  refine e_condF (c_ (grow (n := x.length + y.length) (by omega) (by omega)) fun _ => ?_)
  rename_i q
  obtain ⟨qg, qc⟩ := q
  refine o_ v_len (e_loop2 (fun m u v => [ex fun q : Option Addr × Nat => all [pu (∃ i : Nat, m + i = 2 /\ v = .int .i64 (i : Int) /\ u = .slice q.1 (sz x.length y.length i) q.2), ex fun i : Nat => all [pu (m + i = 2), Sl 1 3 q.1 q.2 (sz x.length y.length i) ((ac x y i).map I)]], pt g (.cells #[.slice a1 x.length c1, .slice a2 y.length c2] T (0, 0)), A] ++ F) 2 ?_ ?_)
  ·refine .ex (some ⟨qg, 0, none⟩, qc) (.all ?_)
   refine nr_ ?_
   refine .pu ⟨0, by omega, rfl, rfl⟩ (.ex 0 (.all ?_))
   refine nr_ ?_
   exact .pu (by omega) (.pick .here .refl)
  intro m ds u v
  refine nr_ ?_
  refine e_ex Pick.here fun q => e_all Pick.here ?_
  obtain ⟨ua, uc⟩ := q
  refine nr_ ?_
  refine e_pu Pick.here fun hi => ?_
  obtain ⟨i, hmi, rfl, rfl⟩ := hi
  refine e_ex Pick.here fun i' => e_all Pick.here ?_
  refine nr_ ?_
  refine e_pu Pick.here fun hi' => ?_
  obtain rfl : i' = i := by omega
  have hszi : sz x.length y.length i' <= 2147483648 := by unfold sz; split <;> omega
  (try dsimp only)
  refine e_ask v_lss .nil (fun h => ?_) (fun h => ?_)
  ·have hi2 : i' = 0 \/ i' = 1 := by omega
   obtain ⟨ai, ni, ci, z, hcell, hni, hsz, hrd, hac⟩ : ∃ (ai : Option Addr) (ni ci : Nat) (z : List Int), (#[.slice a1 x.length c1, .slice a2 y.length c2] : Array Value)[0 + i']? = some (.slice ai ni ci) /\ ni <= 1073741824 /\ sz x.length y.length i' + ni = sz x.length y.length (i' + 1) /\ RdB W A ai ni (z.map I) /\ ac x y i' ++ z = ac x y (i' + 1) := by
    rcases hi2 with rfl | rfl
    ·exact ⟨a1, x.length, c1, x, rfl, b1, by simp [sz], h1, rfl⟩
    ·exact ⟨a2, y.length, c2, y, rfl, b2, by simp [sz], h2, rfl⟩
   refine e_condT (o_ (v_ia1 i' (by rfl) (by omega)) ?_)
   refine e_opN (v_ld hcell) (.pick (.there .here) .nil) ?_
   refine e_app (m := ni) .here (src_rd (e' := 3) (by kernel_rfl) (.there (.there .here)) hrd (rd_none hrd) I_one) (by omega) (by omega) fun a' c' => ?_
   rw [hsz, <- List.map_append, hac]
   refine ad_ ?_
   refine e_next2 (m - 1) (by omega) (.ex (a', c') (.all ?_))
   refine nr_ ?_
   refine .pu ⟨i' + 1, by omega, by norm_cast, rfl⟩ (.ex (i' + 1) (.all ?_))
   refine nr_ ?_
   exact .pu (by omega) (.pick .here .refl)
  ·have hi2 : i' = 2 := by omega
   subst hi2
   refine e_condF (e_slsome .here (by show 0 < x.length + y.length; omega) fun gg hgg => ?_)
   subst hgg
   refine e_ret (gg, uc) rfl ?_
   exact .pick .here (.drop .refl)
section spec
variable {α : Type} (key : α -> Int)
def mrg : List α -> List α -> List α
 | [], bs => bs
 | a :: us, bs => bs.takeWhile (fun b => decide (key b < key a)) ++ a :: mrg us (bs.dropWhile fun b => decide (key b < key a))
theorem mrg_nil (us : List α) : mrg key us [] = us := by
 induction us with
 | nil => rfl
 | cons a us ih => simp [mrg, ih]
theorem mrg_lt {a b : α} {us bs : List α} (h : key b < key a) : mrg key (a :: us) (b :: bs) = b :: mrg key (a :: us) bs := by simp [mrg, h]
theorem mrg_ge {a b : α} {us bs : List α} (h : ¬ key b < key a) : mrg key (a :: us) (b :: bs) = a :: mrg key us (b :: bs) := by simp [mrg, h]
theorem mrg_a {a : α} {us : List α} : mrg key (a :: us) [] = a :: mrg key us [] := by simp [mrg]
theorem mrg_map {β : Type} (k2 : β -> Int) (f : α -> β) (hk : ∀ x, k2 (f x) = key x) : ∀ us bs : List α, (mrg key us bs).map f = mrg k2 (us.map f) (bs.map f)
 | [], bs => rfl
 | a :: us, bs => by
  have h1 : (bs.takeWhile fun b => decide (key b < key a)).map f = (bs.map f).takeWhile fun b => decide (k2 b < k2 (f a)) := by
   rw [List.takeWhile_map]; congr 2; funext b; simp [hk]
  have h2 : (bs.dropWhile fun b => decide (key b < key a)).map f = (bs.map f).dropWhile fun b => decide (k2 b < k2 (f a)) := by
   rw [List.dropWhile_map]; congr 2; funext b; simp [hk]
  simp only [mrg, List.map_append, List.map_cons, h1, mrg_map k2 f hk us, h2]
theorem mrg_mem {y : α} : ∀ us bs : List α, y ∈ mrg key us bs -> y ∈ us \/ y ∈ bs
 | [], bs, h => .inr h
 | a :: us, bs, h => by
  simp only [mrg, List.mem_append, List.mem_cons] at h
  rcases h with c | c | c
  ·exact .inr ((List.takeWhile_sublist _).mem c)
  ·exact .inl (by rw [c]; exact List.mem_cons_self)
  ·rcases mrg_mem us _ c with d | d
   ·exact .inl (List.mem_cons_of_mem _ d)
   ·exact .inr ((List.dropWhile_sublist _).mem d)
end spec
def RdL (W : World) (A : HP) (a : Option Addr) (xs : List It) : Prop := RdB W A a (xs.length * 2) (xs.flatMap ic)
theorem RdL.tail {W : World} {A : HP} {a : Option Addr} {x : It} {xs : List It} {c : Nat} (h : RdL W A a (x :: xs)) (hc : xs.length + 1 <= c) : RdL W A (if c = 1 then a else a.map (·.add (1 * 2))) xs := by
 refine ⟨ics_len xs, fun hn => ?_⟩
 obtain ⟨g, o, rfl, hcell⟩ := h.at_ (by rw [List.length_cons]; omega)
 rw [if_neg (by omega)]
 refine ⟨g, o + 2, by simp [addr_add], fun w L hw j v hv => ?_⟩
 rw [Nat.add_assoc]
 refine hcell w L hw (2 + j) v ?_
 rw [List.flatMap_cons, List.getElem?_append_right (by rw [ic_len]; omega), ic_len, show 2 + j - 2 = j by omega]; exact hv
theorem src_rdS {P : Program} {W : World} {L L' : List HP} {A : HP} {s : Nat} {tx e' : TypeId} {a : Option Addr} {n cap : Nat} {cs : List Value} (hk : P.underlying tx = some (.slice e')) (hs : 0 < s) (p : Pick L A L') (H : RdB W A a (n * s) cs) (h1 : ∀ u ∈ cs, u.oneCell' = true) :
  ∀ w, sat W L w -> Src P s tx (.slice a n cap) n cs w := fun w hw => by
 have hl := H.len
 rcases Nat.eq_zero_or_pos n with h0 | hn
 ·subst h0
  have hcs : cs = [] := List.eq_nil_of_length_eq_zero (by simpa using hl)
  subst hcs
  cases a with
  | none => exact Src.ofNil w hk cap
  | some ad => exact Src.ofSlice w hk ad 0 cap [] (by simp) (fun j u hu => by simp at hu) (by simp)
 ·obtain ⟨g, o, rfl, hc⟩ := H.at_ (Nat.mul_pos hn hs)
  exact Src.ofSlice w hk _ _ _ _ (by omega) (fun j u hu => by rw [addr_add]; exact hc w L' (hw.pick p) j u hu) h1
theorem v_ldIt0 {W : World} {A : HP} {g o : Nat} {y : It} {ys : List It} (H : RdL W A (some ⟨g, o, none⟩) (y :: ys)) : RunV p_ W [A] (sLoad 199 (.pointer (some ⟨g, o + 0 * 2, none⟩))) (av y) := v_ldIt H (j := 0) (by simp)
theorem v_ldN0 {W : World} {A : HP} {g o : Nat} {y : It} {ys : List It} (H : RdL W A (some ⟨g, o, none⟩) (y :: ys)) : RunV p_ W [A] (sLoad 3 (.pointer (some ⟨g, o + 0 * 2 + 0, none⟩))) (.int .i64 y.n) := by
 have := v_ldRd (P := p_) (t := 3) (j := 0) H (v := I y.n) rfl
 exact this
theorem mergeC {W : World} {A B : HP} {xs ys : List It} {va vb : Option Addr} {ca cb : Nat} (ha : RdL W A va xs) (hb : RdL W B vb ys) (hca : xs.length <= ca) (hcb : ys.length <= cb) (n1 : xs.length <= 1073741824) (n2 : ys.length <= 1073741824) :
    Cn p_ 141 [.slice va xs.length ca, .slice vb ys.length cb] W [A, B] (fun q : Option Addr × Nat => .slice q.1 (xs.length + ys.length) q.2) (fun q => [Sl 2 199 q.1 q.2 (xs.length + ys.length) ((mrg It.n xs ys).flatMap ic), A, B]) := by
  (refine S.huff_merge_int_s.cn fun F => ?_; unfold S.huff_merge_int; simp only [ca_, na_])
  refine o_ v_len (o_ v_len (ad_ ?_))
  refine e_mksl0 (xs.length + ys.length) (by norm_cast) (by omega) (by unfold maxLen; omega) fun g0 => ?_
  refine e_loop3 (fun m x y z => [ex fun q : Option Addr × Nat => ex fun out : List It => all [pu (∃ (us vs : List It) (a1 a2 : Option Addr) (c1 c2 : Nat), m = us.length + vs.length /\ x = .slice a1 us.length c1 /\ y = .slice a2 vs.length c2 /\ z = .slice q.1 out.length q.2 /\ RdL W A a1 us /\ RdL W B a2 vs /\ us.length <= c1 /\ vs.length <= c2 /\ out ++ mrg It.n us vs = mrg It.n xs ys /\ out.length + us.length + vs.length = xs.length + ys.length), Sl 2 199 q.1 q.2 out.length (out.flatMap ic)], A, B] ++ F) (xs.length + ys.length) ?_ ?_
  · refine .ex (some ⟨g0, 0, none⟩, xs.length + ys.length) (.ex [] (.all ?_))
    refine nr_ ?_
    exact .pu ⟨xs, ys, va, vb, ca, cb, rfl, rfl, rfl, rfl, ha, hb, hca, hcb, rfl, by simp⟩ (.pick .here .refl)
  intro m ds x y z
  refine nr_ ?_
  refine e_ex Pick.here fun q => e_ex Pick.here fun out => e_all Pick.here ?_
  obtain ⟨qa, qc⟩ := q
  refine nr_ ?_
  refine e_pu Pick.here fun hi => ?_
  obtain ⟨us, vs, a1, a2, c1, c2, rfl, rfl, rfl, rfl, hu, hv, hc1, hc2, hout, hlen⟩ := hi
  (try dsimp only)
  cases us with
  | nil =>
    refine o_ v_len (o_ v_eql ?_)
    rw [dT_ (by rfl)]
    refine e_condT (e_app (m := vs.length) .here (src_rdS (e' := 199) (by kernel_rfl) (by omega) (.there (.there .here)) hv (ics_one vs)) (by omega) (by omega) fun a' c' => ?_)
    rw [<- List.flatMap_append, show out ++ vs = mrg It.n xs ys from hout]
    simp only [List.length_nil, Nat.add_zero] at hlen
    rw [hlen]
    refine e_ret (a', c') rfl ?_
    exact im_
  | cons u us =>
    rw [List.length_cons] at hlen hc1
    refine o_ v_len (o_ v_eql ?_)
    rw [dF_ (by rw [List.length_cons]; omega)]
    refine e_condF (e_drS (t_ v_len ?_))
    obtain ⟨gu, ou, rfl, _⟩ := hu.at_ (by rw [List.length_cons]; omega)
    have ldu := v_ldIt0 hu
    have ldn := v_ldN0 hu
    have tu := hu.tail hc1
    have goA : (∀ v vs', vs = v :: vs' -> ¬ v.n < u.n) -> Ent W (Sl 2 199 qa qc out.length (out.flatMap ic) :: A :: B :: F) (stS p_ (sIA 197 (.slice (some ⟨gu, ou, none⟩) (u :: us).length c1) (.int .i64 0)) fun x14 =>
       stS p_ (sLoad 199 x14) fun x15 =>
       stD p_ (sSl 197 (.slice (some ⟨gu, ou, none⟩) (u :: us).length c1) (some (.int .i64 1)) none none) fun D7 x19 =>
       opN p_ (sBuildSl 197 1 [(0, x15)]) noP fun x16 =>
       (fun w => D7 w /\ (opN p_ (sApp #[197, 197] 197 [.slice qa out.length qc, x16]) noP fun x17 =>
         (fun w => D7 w /\ (next3 (fun m x y z w => sat W ([ex fun q : Option Addr × Nat => ex fun out : List It => all [pu (∃ (us vs : List It) (a1 a2 : Option Addr) (c1 c2 : Nat), m = us.length + vs.length /\ x = .slice a1 us.length c1 /\ y = .slice a2 vs.length c2 /\ z = .slice q.1 out.length q.2 /\ RdL W A a1 us /\ RdL W B a2 vs /\ us.length <= c1 /\ vs.length <= c2 /\ out ++ mrg It.n us vs = mrg It.n xs ys /\ out.length + us.length + vs.length = xs.length + ys.length), Sl 2 199 q.1 q.2 out.length (out.flatMap ic)], A, B] ++ F) w) ((u :: us).length + vs.length) x19 (.slice a2 vs.length c2) x17) w)) w)) := by
      intro hge
      refine t_ (v_ia 0 (by rfl) (by rw [List.length_cons]; omega)) ?_
      refine e_stS ldu (.pick (.there .here) .nil) ?_
      refine e_stD (v_sll 1 (by rfl) (by rw [List.length_cons]; omega)) .nil ?_
      refine e_bslS (s := 2) (vs := [av u]) rfl (by omega) rfl (by intro v hv; simp at hv; subst hv; rfl) (by omega) fun g => ?_
      refine ob_ ?_
      refine e_app (m := 1) (news := ic u) (.there .here) (src_pt (s := 2) (e' := 199) (by kernel_rfl) .here (by rfl) (ic_one u)) (by omega) (by omega) fun a' c' => ?_
      refine ob_ ?_
      refine e_next3 (us.length + vs.length) (by rw [List.length_cons]; omega) (.ex (a', c') (.ex (out ++ [u]) (.all ?_)))
      refine nr_ ?_
      refine .pu ⟨us, vs, _, a2, _, c2, rfl, by rw [List.length_cons, Nat.add_sub_cancel], rfl, by rw [List.length_append]; rfl, tu, hv, by omega, hc2, ?_, by simp; omega⟩ ?_
      · rw [<- hout, List.append_assoc]
        congr 1
        cases vs with
        | nil => rw [mrg_a]; rfl
        | cons v vs' => rw [mrg_ge It.n (hge v vs' rfl)]; rfl
      · rw [List.flatMap_append, List.length_append, List.length_singleton, List.flatMap_singleton]
        exact im_
    refine t_ v_gtr ?_
    cases vs with
    | nil =>
      rw [dF_ (by simp)]
      exact e_gdF2 (e_gdF2 (e_gdF2 (e_gdF2 (e_gdF2 (e_gdF2 (e_gdF2 (e_gdF2 (e_gdF2 (t_ v_pickF (e_condF (e_drS (goA (fun v vs' c => by cases c)))))))))))))
    | cons v vs =>
      rw [List.length_cons] at hlen hc2
      obtain ⟨gv, ov, rfl, _⟩ := hv.at_ (by rw [List.length_cons]; omega)
      have ldv := v_ldIt0 hv
      have ldvn := v_ldN0 hv
      have tv := hv.tail hc2
      rw [dT_ (by rw [List.length_cons]; omega)]
      refine e_gdT (e_gdT (t_ (v_ia 0 (by rfl) (by rw [List.length_cons]; omega)) ?_))
      refine e_gdT (t_ v_fa (e_gdT (e_stS ldvn (.pick (.there (.there .here)) .nil) ?_)))
      refine e_gdT (e_gdT (t_ (v_ia 0 (by rfl) (by rw [List.length_cons]; omega)) ?_))
      refine e_gdT (t_ v_fa (e_gdT (e_stS ldn (.pick (.there .here) .nil) ?_)))
      refine e_gdT (e_askS v_lss .nil (fun h => ?_) (fun h => ?_))
      · (refine t_ v_pickT ?_); refine e_condT ?_; refine e_drS ?_
        refine t_ (v_ia 0 (by rfl) (by rw [List.length_cons]; omega)) ?_
        refine e_stS ldv (.pick (.there (.there .here)) .nil) ?_
        refine e_stD (v_sll 1 (by rfl) (by rw [List.length_cons]; omega)) .nil ?_
        refine e_bslS (s := 2) (vs := [av v]) rfl (by omega) rfl (by intro v hv; simp at hv; subst hv; rfl) (by omega) fun g => ?_
        refine ob_ ?_
        refine e_app (m := 1) (news := ic v) (.there .here) (src_pt (s := 2) (e' := 199) (by kernel_rfl) .here (by rfl) (ic_one v)) (by omega) (by omega) fun a' c' => ?_
        refine ob_ ?_
        refine e_next3 ((u :: us).length + vs.length) (by rw [List.length_cons]; simp) (.ex (a', c') (.ex (out ++ [v]) (.all ?_)))
        refine nr_ ?_
        refine .pu ⟨u :: us, vs, _, _, c1, _, rfl, rfl, by rw [List.length_cons, Nat.add_sub_cancel], by rw [List.length_append]; rfl, hu, tv, by rw [List.length_cons]; omega, by omega, ?_, by simp; omega⟩ ?_
        · rw [<- hout, List.append_assoc, mrg_lt It.n h]; rfl
        · rw [List.flatMap_append, List.length_append, List.length_singleton, List.flatMap_singleton]
          exact im_
      · (refine t_ v_pickT ?_); refine e_condF ?_; refine e_drS ?_
        exact goA (fun v' vs' c => by injection c with c1 c2; subst c1; exact h)
end Go.Proofs.YthoeeahdkdcceaaGreat.HF
