/- The Writer of package bits: what each of its methods does to its bits. No conditions but those that each names. (29 texts made one; each says below what it is.) -/
import Derived.Test.YthoeeahdkdcceaaGreatK2
import Derived.ChangeArms
import Derived.Test.YthoeeahdkdcceaaGreatRows
import Derived.Laws.StructEq
set_option linter.unusedVariables false
set_option linter.unusedSimpArgs false
set_option linter.unusedSectionVars false
namespace Go.Proofs.YthoeeahdkdcceaaGreat.B
open Go Go.Proofs Sh Sl T M
theorem none_some {W : World} {p : Nat} {a b : Value} {m : Bool} : Cn p_ 70 [.pointer (some ⟨p, 0, none⟩)] W [pt p (.cells #[a, b, .bool m] 104)] (fun _ : Unit => .bool (!m)) (fun _ => [pt p (.cells #[a, b, .bool m] 104)]) := by
 (refine S.bits_Writer_none_s.cn fun F => ?_; unfold S.bits_Writer_none; simp only [ca_, na_])
 refine o_ v_eqNil1 ?_; refine e_gdT (e_gdT (o_ v_nil (e_gdT (o_ v_fa0 (e_gdT (ln_ ?_)))))); refine e_gdT (o_ v_not (o_ v_pickF ?_))
 (refine e_ret Unit.unit (by rfl) ?_; (repeat (first | exact .refl | exact .nil | (apply Imp.pick; (focus ((repeat constructor); done))) | refine .drop ?_)))
def IsW (p : Nat) (l : List Bool) : HP := ex fun q : Option Addr × Nat => all [pt p (.cells #[.slice q.1 (pk l).length q.2, .int .i64 (l.length : Int), .bool true] 104), Sl 1 5 q.1 q.2 (pk l).length ((pk l).map B), pu (l.length <= 8388608)]
def badP (n k : Int) : Prop := k < 0 \/ 32 < k \/ n < 0 \/ 2 ^ k.toNat <= n
instance (n k : Int) : Decidable (badP n k) := by unfold badP; infer_instance
def putR (l : List Bool) (n k : Int) : Int := if badP n k then 1 else if 8388608 - (l.length : Int) < k then 6 else 0
def putL (l : List Bool) (n k : Int) : List Bool := if putR l n k = 0 then l ++ bitsOf n.toNat k.toNat else l
theorem masks {W : World} : Cn p_ 71 [] W [] (fun _ : Unit => .agg #[.int .u8 1, .int .u8 2, .int .u8 4, .int .u8 8, .int .u8 16, .int .u8 32, .int .u8 64, .int .u8 128]) (fun _ => []) := by
 (refine S.bits_masks_s.cn fun F => ?_; unfold S.bits_masks; simp only [ca_, na_])
 refine e_newA fun g => ?_; refine o_ v_rv ?_; refine sg_ ?_; (((refine' e_stS (v_resA ?hn) ?hi ?_); (case hi => exact im_); (case hn => rfl)))
 (refine e_ret Unit.unit (by rfl) ?_; (repeat (first | exact .refl | exact .nil | (apply Imp.pick; (focus ((repeat constructor); done))) | refine .drop ?_)))
def IsWx (p : Nat) (l : List Bool) : HP := ex fun q : Option Addr × Nat => all [pt p (.cells #[.slice q.1 (pkx l).length q.2, .int .i64 (l.length : Int), .bool true] 104), Sl 1 5 q.1 q.2 (pkx l).length ((pkx l).map B)]
theorem put {W : World} {p : Nat} {l : List Bool} {n k : Int} : Cn p_ 51 [.pointer (some ⟨p, 0, none⟩), .int .i64 n, .int .i64 k] W [IsW p l] (fun _ : Unit => .int .i64 (putR l n k)) (fun _ => [IsW p (putL l n k)]) := by
 (refine S.bits_Writer_Put_s.cn fun F => ?_; unfold S.bits_Writer_Put; simp only [ca_, na_])
 refine e_ex Pick.here fun q => ?_
 obtain ⟨qa, qc⟩ := q
 refine e_all Pick.here ?_
 (try simp only [ca_, na_])
 refine e_pu (.there (.there .here)) fun hL => ?_
 refine e_cut1 (fun z => pt p (.cells #[.slice qa (pk l).length qc, .int .i64 (l.length : Int), .bool true] 104) :: Sl 1 5 qa qc (pk l).length ((pk l).map B) :: pu (z = .bool (decide (badP n k))) :: F) ?_ ?_
 ·intro ds z
  refine e_pu (.there (.there .here)) fun hz => ?_
  subst hz
  by_cases hb : badP n k
  ·rw [dT_ hb]
   refine e_condT ?_
   refine e_ret () (by simp [putR, hb]) ?_
   rw [show putL l n k = l by simp [putL, putR, hb]]
   refine Imp.ex (qa, qc) (.all ?_)
   (try simp only [ca_, na_])
   refine .pick .here (.pick .here (.pu hL .refl))
  ·rw [dF_ hb]
   refine e_condF ?_; refine e_opN v_nil .nil ?_; refine e_opN v_fa0 .nil ?_; (((refine' e_opN (v_ldN ?hc) ?hi ?_); (case hi => exact .pick (by repeat constructor) .nil); (case hc => repeat constructor))); (refine e_opN (v_sub (by omega) (by omega)) .nil ?_)
   refine e_ask v_gtr .nil (fun h => ?_) (fun h => ?_)
   ·(refine e_condT ?_)
    refine e_ret () (by simp [putR, hb, h]) ?_
    rw [show putL l n k = l by simp [putL, putR, hb, h]]
    refine Imp.ex (qa, qc) (.all ?_)
    (try simp only [ca_, na_])
    refine .pick .here (.pick .here (.pu hL .refl))
   ·(refine e_condF ?_)
    (refine' e_call (masks) ?hp fun _ => ?_; (case hp => (repeat (first | exact Picks.nil | (apply Picks.cons; (focus repeat constructor))))); (try simp only [ca_, na_, Bool.not_true, Bool.not_false]))
    refine e_newA fun g => ?_; (((refine' e_stAgg ?hp ?hn ?hv ?h1 ?_); (case hp => (repeat constructor)); (case hn => rfl); (case hv => rfl); (case h1 => simp [Value.oneCell'])))
    rename_i g
    have hR : putR l n k = 0 := by simp [putR, hb, h]
    have hb' : 0 <= k /\ k <= 32 /\ 0 <= n /\ n < 2 ^ k.toNat := by unfold badP at hb; omega
    have hPL : putL l n k = l ++ bitsOf n.toNat k.toNat := by simp [putL, hR]
    rw [hR, hPL]
    obtain ⟨h1, h2, h3, h4⟩ := hb'
    obtain ⟨K, rfl⟩ := Int.eq_ofNat_of_zero_le h1
    obtain ⟨N, rfl⟩ := Int.eq_ofNat_of_zero_le h3
    rw [Int.toNat_natCast] at h4
    rw [Int.toNat_natCast, Int.toNat_natCast]
    have hN : N < 4294967296 := by
     have : (2 : Int) ^ K = ((2 ^ K : Nat) : Int) := by norm_cast
     have h32 : 2 ^ K <= 2 ^ 32 := Nat.pow_le_pow_right (by omega) (by omega)
     omega
    clear hR hPL hb h4
    refine e_loop1 (fun m y => [ex fun i : Nat => all [pu (m + i = K /\ y = .int .i64 (i : Int)), pt g (.cells #[.int .u8 1, .int .u8 2, .int .u8 4, .int .u8 8, .int .u8 16, .int .u8 32, .int .u8 64, .int .u8 128] 115), IsW p (l ++ bitsOf N i)]] ++ F) K ?_ ?_
    ·refine Imp.ex 0 (.all ?_)
     (try simp only [ca_, na_])
     refine .pu ⟨by omega, rfl⟩ (.pick .here (.ex (qa, qc) (.all ?_)))
     (try simp only [ca_, na_])
     rw [show l ++ bitsOf N 0 = l by simp [bitsOf]]
     exact .pick .here (.pick .here (.pu hL .refl))
    ·intro m ds y
     (try simp only [ca_, na_])
     refine e_ex Pick.here fun i => e_all Pick.here ?_
     (try simp only [ca_, na_])
     refine e_pu Pick.here fun hi => ?_
     obtain ⟨hm, rfl⟩ := hi
     obtain ⟨L, hLe⟩ : ∃ L, L = l ++ bitsOf N i := ⟨_, rfl⟩
     have hLl : L.length = l.length + i := by rw [hLe, List.length_append, length_bitsOf]
     rw [<- hLe]
     refine e_ask v_lss .nil (fun h => ?_) (fun h => ?_)
     ·have hik : i < K := by omega
      refine e_condT ?_
      refine e_cut0 ([pt g (.cells #[.int .u8 1, .int .u8 2, .int .u8 4, .int .u8 8, .int .u8 16, .int .u8 32, .int .u8 64, .int .u8 128] 115), IsWx p L] ++ F) ?_ ?_
      ·intro ds2
       (try simp only [ca_, na_])
       refine e_ex (.there .here) fun q2 => ?_
       obtain ⟨xa, xc⟩ := q2
       refine e_all Pick.here ?_
       (try simp only [ca_, na_])
       refine e_cut0 ([pt g (.cells #[.int .u8 1, .int .u8 2, .int .u8 4, .int .u8 8, .int .u8 16, .int .u8 32, .int .u8 64, .int .u8 128] 115), pt p (.cells #[.slice xa (pkx L).length xc, .int .i64 (L.length : Int), .bool true] 104), Sl 1 5 xa xc (pkx L).length ((pk (L ++ [N.testBit i])).map B)] ++ F) ?_ ?_
       ·intro ds3
        (try simp only [ca_, na_])
        refine e_opN v_nil .nil ?_; refine e_opN v_fa0 .nil ?_; (((refine' e_opN (v_ldN ?hc) ?hi ?_); (case hi => exact .pick (by repeat constructor) .nil); (case hc => repeat constructor))); (refine e_opN (v_add (by omega) (by omega)) .nil ?_); refine e_opN v_nil .nil ?_; refine e_opN v_fa0 .nil ?_; (((refine' e_stN ?hp ?ho ?_); (case hp => (repeat constructor)); (case ho => repeat constructor))); (refine e_opN (v_add (by omega) (by omega)) .nil ?_)
        refine e_next1 (m - 1) (by omega) (.ex (i + 1) (.all ?_))
        (try simp only [ca_, na_])
        refine .pu ⟨by omega, by norm_cast⟩ (.pick (.there .here) (.ex (xa, xc) (.all ?_)))
        (try simp only [ca_, na_])
        have e1 : l ++ bitsOf N (i + 1) = L ++ [N.testBit i] := by rw [hLe, bitsOf_succ, List.append_assoc]
        have e2 : (pk (L ++ [N.testBit i])).length = (pkx L).length := by rw [length_pk, length_pkx]; simp; omega
        rw [e1, e2]
        have e3 : ((L ++ [N.testBit i]).length : Int) = (L.length : Int) + 1 := by simp
        rw [e3]
        exact .pick .here (.pick (.here) (.pu (by simp; omega) .refl))
       ·refine e_opN v_conv .nil ?_
        rw [wrapu64 (by omega)]
        refine e_opN (v_shr (by omega)) .nil ?_
        rw [shr_nat (by omega)]
        refine e_opN v_and .nil ?_
        have hdiv : N / 2 ^ i <= N := Nat.div_le_self _ _
        rw [and1 (by omega), testBit_mod]
        refine e_ask v_eql .nil (fun h => ?_) (fun h => ?_)
        ·have hbit : N.testBit i = true := by
          cases hh : N.testBit i with
          | true => rfl
          | false => rw [hh] at h; simp at h
         have hpx := length_pkx L
         refine e_slsome (.there .here) (by omega) fun g1 hg1 => ?_
         subst hg1
         refine e_condT ?_; refine e_drS ?_; refine e_stS v_nil .nil ?_; refine e_stS v_fa0 .nil ?_; (((refine' e_stS (v_ldN ?hc) ?hi ?_); (case hi => exact .pick (by repeat constructor) .nil); (case hc => repeat constructor))); refine e_stS v_nil .nil ?_; refine e_stS v_fa0 .nil ?_; (((refine' e_stS (v_ldN ?hc) ?hi ?_); (case hi => exact .pick (by repeat constructor) .nil); (case hc => repeat constructor))); (((refine e_stS (v_quo ?h1 ?h2 ?h3) .nil ?_); (case h1 => omega); (case h2 => omega); (case h3 => omega)))
         refine e_stS (v_ia1 (L.length / 8) (by norm_cast) (by omega)) .nil ?_
         refine e_stS (v_ldSl (v := B (UInt8.ofNat (byteAt L (L.length / 8)))) (by rw [Nat.zero_add, List.getElem?_map, pkx_last]; rfl)) (.pick (.there .here) .nil) ?_
         refine e_stS v_nil .nil ?_; refine e_stS v_fa0 .nil ?_; (((refine' e_stS (v_ldN ?hc) ?hi ?_); (case hi => exact .pick (by repeat constructor) .nil); (case hc => repeat constructor))); (((refine e_stS (v_rem ?h1 ?h2) .nil ?_); (case h1 => omega); (case h2 => omega)))
         refine e_stS (v_iaA (L.length % 8) (by norm_cast) (by omega)) .nil ?_
         refine e_stS (v_ld (by rw [Nat.zero_add, Nat.mul_one]; exact mask_at (by omega))) (.pick (.there (.there .here)) .nil) ?_
         rw [B_ofNat (byteAt_lt _ _)]
         refine e_stS v_or .nil ?_
         rw [or8 (by omega) (byteAt_last L)]
         refine e_stS (v_ia1 (L.length / 8) (by norm_cast) (by omega)) .nil ?_
         refine e_stSl (.there .here) (by simp; omega) ?_
         refine e_sat ?_
         have e4 : byteAt L (L.length / 8) + 2 ^ (L.length % 8) < 256 := by
          have := byteAt_lt (L ++ [true]) (L.length / 8)
          rw [byteAt_snoc_eq] at this; simpa using this
         rw [hbit, pk_snoc_t, Nat.zero_add, List.map_set, B_ofNat e4]
         (try simp only [ca_, na_])
         (repeat (first | exact .refl | exact .nil | (apply Imp.pick; (focus ((repeat constructor); done))) | refine .drop ?_))
        ·have hbit : N.testBit i = false := by
          cases hh : N.testBit i with
          | false => rfl
          | true => rw [hh] at h; simp at h
         refine e_condF ?_
         refine e_sat ?_
         rw [hbit, pk_snoc_f]
         (try simp only [ca_, na_])
         (repeat (first | exact .refl | exact .nil | (apply Imp.pick; (focus ((repeat constructor); done))) | refine .drop ?_))
      ·refine e_ex (.there .here) fun q2 => ?_
       obtain ⟨xa, xc⟩ := q2
       refine e_all Pick.here ?_
       (try simp only [ca_, na_])
       refine e_pu (.there (.there .here)) fun hL2 => ?_
       refine e_opN v_nil .nil ?_; refine e_opN v_fa0 .nil ?_; (((refine' e_opN (v_ldN ?hc) ?hi ?_); (case hi => exact .pick (by repeat constructor) .nil); (case hc => repeat constructor))); (((refine e_opN (v_rem ?h1 ?h2) .nil ?_); (case h1 => omega); (case h2 => omega)))
       have hpk := length_pk L
       refine e_ask v_eql .nil (fun h => ?_) (fun h => ?_)
       ·(refine e_condT ?_); refine e_opN v_nil .nil ?_; refine e_opN v_fa0 .nil ?_; (((refine' e_opN (v_ldN ?hc) ?hi ?_); (case hi => exact .pick (by repeat constructor) .nil); (case hc => repeat constructor))); refine e_bsl1 fun g => ?_
        refine e_app (m := 1) (news := [B 0]) (.there (.there .here)) (src_pt (e' := 5) (by kernel_rfl) .here (by rfl) (B_one (l := [0]))) (by omega) (by omega) fun a' c' => ?_
        refine e_opN v_nil .nil ?_; refine e_opN v_fa0 .nil ?_; (((refine' e_stN ?hp ?ho ?_); (case hp => (repeat constructor)); (case ho => repeat constructor)))
        refine e_sat ?_
        (try simp only [ca_, na_])
        refine .pick (.there (.there (.there .here))) (.ex (a', c') (.all ?_))
        (try simp only [ca_, na_])
        have h8 : L.length % 8 = 0 := by omega
        rw [pkx0 h8]
        simp only [List.length_append, List.length_singleton, List.map_append, List.map_cons, List.map_nil]
        (repeat (first | exact .refl | exact .nil | (apply Imp.pick; (focus ((repeat constructor); done))) | refine .drop ?_))
       ·(refine e_condF ?_)
        refine e_sat ?_
        (try simp only [ca_, na_])
        refine .pick (.there (.there .here)) (.ex (xa, xc) (.all ?_))
        (try simp only [ca_, na_])
        rw [pkx1 (by omega)]
        (repeat (first | exact .refl | exact .nil | (apply Imp.pick; (focus ((repeat constructor); done))) | refine .drop ?_))
     ·have : i = K := by omega
      subst this
      refine e_condF ?_
      refine e_retT () ?_
      rw [<- hLe]
      exact .pick (.there .here) (.drop .refl)
 ·(refine' e_call (none_some) ?hp fun _ => ?_; (case hp => (repeat (first | exact Picks.nil | (apply Picks.cons; (focus repeat constructor))))); (try simp only [ca_, na_, Bool.not_true, Bool.not_false]))
  refine e_condF ?_
  have fin : ∀ z : Value, z = .bool (decide (badP n k)) -> Ent W (pt p (.cells #[.slice qa (pk l).length qc, .int .i64 (l.length : Int), .bool true] 104) :: Sl 1 5 qa qc (pk l).length ((pk l).map B) :: F) (fun w => sat W (pt p (.cells #[.slice qa (pk l).length qc, .int .i64 (l.length : Int), .bool true] 104) :: Sl 1 5 qa qc (pk l).length ((pk l).map B) :: pu (z = .bool (decide (badP n k))) :: F) w) := fun z hz => e_sat (.pick .here (.pick .here (.pu hz .refl)))
  refine e_ask v_lss .nil (fun h => ?_) (fun h => ?_)
  ·(refine e_condT ?_)
   exact fin _ (by rw [dT_ (show badP n k from .inl h)])
  ·(refine e_condF ?_)
   refine e_ask v_gtr .nil (fun h => ?_) (fun h => ?_)
   ·(refine e_condT ?_)
    exact fin _ (by rw [dT_ (show badP n k from .inr (.inl ‹_›))])
   ·(refine e_condF ?_)
    refine e_ask v_lss .nil (fun h => ?_) (fun h => ?_)
    ·(refine e_condT ?_)
     exact fin _ (by rw [dT_ (show badP n k from .inr (.inr (.inl ‹_›)))])
    ·(refine e_condF ?_)
     refine e_opN v_min .nil ?_
     rw [if_neg (by omega)]
     refine e_opN v_max .nil ?_
     rw [show (if (0 : Int) < k then k else 0) = k by split <;> omega]
     obtain ⟨K, rfl⟩ := Int.eq_ofNat_of_zero_le (show 0 <= k by omega)
     refine e_opN v_conv .nil ?_
     rw [wrapu64 (by omega)]
     refine e_opN (v_shl (by omega)) .nil ?_
     have hm : min ((K : Int)).toNat IntKind.i64.bits = K := by simp only [IntKind.bits, Int.toNat_natCast]; omega
     have h32 : 2 ^ K <= 2 ^ 32 := Nat.pow_le_pow_right (by omega) (by omega)
     have hc : (2 : Int) ^ K = ((2 ^ K : Nat) : Int) := by norm_cast
     obtain ⟨E, hE⟩ : ∃ E, E = 2 ^ K := ⟨_, rfl⟩
     rw [<- hE] at hc h32
     rw [hm, Int.one_mul, hc, w64 (by omega) (by omega)]
     refine e_opN v_geq .nil ?_
     refine fin _ ?_
     have : ((E : Int) <= n) ↔ badP n K := by
      unfold badP
      rw [Int.toNat_natCast, hc]
      constructor
      ·exact fun h => .inr (.inr (.inr h))
      ·rintro (h | h | h | h)
       ·omega
       ·omega
       ·omega
       ·exact h
     rw [decide_eq_decide.2 this]
theorem newWriter {W : World} : Cn p_ 48 [] W [] (fun p : Nat => .pointer (some ⟨p, 0, none⟩)) (fun p => [IsW p []]) := by
 (refine S.bits_NewWriter_s.cn fun F => ?_; unfold S.bits_NewWriter; simp only [ca_, na_])
 refine o_ v_rv ?_; refine e_boxA fun g => ?_
 refine e_ret g rfl ?_
 refine .ex (none, 0) (.all ?_)
 refine nr_ ?_
 refine .pick .here ?_
 rw [show (pk []).length = 0 from rfl, show List.map B (pk []) = [] from rfl]
 exact imp_nil (.pu (by simp) .refl)
theorem bits {W : World} {p : Nat} {l : List Bool} : Cn p_ 69 [.pointer (some ⟨p, 0, none⟩)] W [IsW p l] (fun _ : Unit => .int .i64 (l.length : Int)) (fun _ => [IsW p l]) := by
 (refine S.bits_Writer_Bits_s.cn fun F => ?_; unfold S.bits_Writer_Bits; simp only [ca_, na_])
 refine e_ex Pick.here fun q => ?_
 obtain ⟨qa, qc⟩ := q
 refine e_all Pick.here ?_
 refine nr_ ?_
 refine e_pu (.there (.there .here)) fun hL => ?_
 refine c_ none_some fun _ => ?_
 refine e_condF (o_ v_nil (o_ v_fa0 (ln_ ?_)))
 refine e_ret () rfl ?_
 refine .ex (qa, qc) (.all ?_)
 refine nr_ ?_
 exact .pick .here (.pick .here (.pu hL .refl))
theorem align0 {W : World} {p n qc : Nat} {qa : Option Addr} {m : Int} (hn : n <= 4611686018427387904 / 8) : Cn p_ 72 [.pointer (some ⟨p, 0, none⟩)] W [pt p (.cells #[.slice qa n qc, .int .i64 m, .bool true] 104)] (fun _ : Unit => .tuple #[]) (fun _ => [pt p (.cells #[.slice qa n qc, .int .i64 (8 * (n : Int)), .bool true] 104)]) := by
 (refine S.bits_Writer_Align_s.cn fun F => ?_; unfold S.bits_Writer_Align; simp only [ca_, na_])
 refine c_ none_some fun _ => ?_
 refine o_ v_notF (e_condT (o_ v_nil (o_ v_fa0 (ln_ ?_)))); refine o_ v_len ?_; (refine o_ (v_mul (by omega) (by omega)) ?_); refine o_ v_nil (o_ v_fa0 (sn_ ?_))
 refine e_retT () ?_
 exact .pick .here .refl
theorem align {W : World} {p : Nat} {l : List Bool} : Cn p_ 72 [.pointer (some ⟨p, 0, none⟩)] W [IsW p l] (fun _ : Unit => .tuple #[]) (fun _ => [IsW p (padTo8 l)]) := by
 (refine S.bits_Writer_Align_s.cn fun F => ?_; unfold S.bits_Writer_Align; simp only [ca_, na_])
 refine e_ex Pick.here fun q => ?_
 obtain ⟨qa, qc⟩ := q
 refine e_all Pick.here ?_
 refine nr_ ?_
 refine e_pu (.there (.there .here)) fun hL => ?_
 have hpk := length_pk l
 refine c_ none_some fun _ => ?_
 refine o_ v_notF (e_condT (o_ v_nil (o_ v_fa0 (ln_ ?_)))); refine o_ v_len ?_; (refine o_ (v_mul (by omega) (by omega)) ?_); refine o_ v_nil (o_ v_fa0 (sn_ ?_))
 refine e_retT () ?_
 refine .ex (qa, qc) (.all ?_)
 refine nr_ ?_
 rw [pk_pad, show ((padTo8 l).length : Int) = 8 * ((pk l).length : Int) by rw [length_pad, hpk]; norm_cast]
 exact .pick .here (.pick .here (.pu (by rw [length_pad]; omega) .refl))
theorem bytes {W : World} {p : Nat} {l : List Bool} : Cn p_ 53 [.pointer (some ⟨p, 0, none⟩)] W [IsW p l] (fun q : Option Addr × Nat => .slice q.1 (pk l).length q.2) (fun q => [Sl 1 5 q.1 q.2 (pk l).length ((pk l).map B), IsW p l]) := by
 (refine S.bits_Writer_Bytes_s.cn fun F => ?_; unfold S.bits_Writer_Bytes; simp only [ca_, na_])
 refine e_ex Pick.here fun q => ?_
 obtain ⟨qa, qc⟩ := q
 refine e_all Pick.here ?_
 refine nr_ ?_
 refine e_pu (.there (.there .here)) fun hL => ?_
 have hpk := length_pk l
 refine c_ none_some fun _ => ?_
 refine e_condF (o_ v_nil (o_ v_fa0 (ln_ ?_)))
 refine e_nil (s := 1) (e := 5) ?_
 refine e_app (m := (pk l).length) (news := (pk l).map B) .here (src_sl (e' := 5) (by kernel_rfl) (.there (.there .here)) B_one) (by omega) (by omega) fun a' c' => ?_
 rw [Nat.zero_add, List.nil_append]
 refine e_ret (a', c') rfl ?_
 refine .pick .here (.ex (qa, qc) (.all ?_))
 refine nr_ ?_
 exact .pick .here (.pick .here (.pu hL .refl))
def rawR (l : List Bool) (b : List UInt8) : Int := if 1048576 < (pk l).length + b.length then 6 else 0
def rawL (l : List Bool) (b : List UInt8) : List Bool := if rawR l b = 0 then padTo8 l ++ ub b else l
theorem raw {W : World} {p : Nat} {l : List Bool} {a : Option Addr} {cap : Nat} {b : List UInt8} {A : HP} (hr : RdB W A a b.length (b.map B)) (ha : a = none -> b.length = 0) (hb : b.length <= 4611686018427387904) :
  Cn p_ 73 [.pointer (some ⟨p, 0, none⟩), .slice a b.length cap] W [IsW p l, A] (fun _ : Unit => .int .i64 (rawR l b)) (fun _ => [IsW p (rawL l b), A]) := by
 (refine S.bits_Writer_Raw_s.cn fun F => ?_; unfold S.bits_Writer_Raw; simp only [ca_, na_])
 refine e_ex Pick.here fun q => ?_
 obtain ⟨qa, qc⟩ := q
 refine e_all Pick.here ?_
 (try simp only [ca_, na_])
 refine e_pu (.there (.there .here)) fun hL => ?_
 have hpk := length_pk l
 (refine' e_call (none_some) ?hp fun _ => ?_; (case hp => (repeat (first | exact Picks.nil | (apply Picks.cons; (focus repeat constructor))))); (try simp only [ca_, na_, Bool.not_true, Bool.not_false]))
 refine e_condF ?_; refine e_opN v_len .nil ?_; refine e_opN v_nil .nil ?_; refine e_opN v_fa0 .nil ?_; (((refine' e_opN (v_ldN ?hc) ?hi ?_); (case hi => exact .pick (by repeat constructor) .nil); (case hc => repeat constructor))); refine e_opN v_len .nil ?_; (refine e_opN (v_sub (by omega) (by omega)) .nil ?_)
 refine e_ask v_gtr .nil (fun h => ?_) (fun h => ?_)
 ·(refine e_condT ?_)
  have hR : rawR l b = 6 := by unfold rawR; rw [if_pos (by omega)]
  rw [hR]
  refine e_ret () rfl ?_
  rw [show rawL l b = l by simp [rawL, hR]]
  refine .ex (qa, qc) (.all ?_)
  (try simp only [ca_, na_])
  exact .pick .here (.pick .here (.pu hL .refl))
 ·have hR : rawR l b = 0 := by unfold rawR; rw [if_neg (by omega)]
  rw [hR, show rawL l b = padTo8 l ++ ub b by simp [rawL, hR]]
  refine e_condF ?_; refine e_opN v_nil .nil ?_; refine e_opN v_fa0 .nil ?_; (((refine' e_opN (v_ldN ?hc) ?hi ?_); (case hi => exact .pick (by repeat constructor) .nil); (case hc => repeat constructor)))
  refine e_app (m := b.length) (news := b.map B) (.there .here) (src_rd (A := A) (e' := 5) (by kernel_rfl) (.there (.there .here)) hr ha B_one) (by omega) (by omega) fun a' c' => ?_
  refine e_opN v_nil .nil ?_; refine e_opN v_fa0 .nil ?_; (((refine' e_stN ?hp ?ho ?_); (case hp => (repeat constructor)); (case ho => repeat constructor)))
  (refine' e_call (align0 (n := (pk l).length + b.length) (by omega)) ?hp fun _ => ?_; (case hp => (repeat (first | exact Picks.nil | (apply Picks.cons; (focus repeat constructor))))); (try simp only [ca_, na_, Bool.not_true, Bool.not_false]))
  refine e_retT () ?_
  refine .ex (a', c') (.all ?_)
  (try simp only [ca_, na_])
  have hp8 : (padTo8 l).length % 8 = 0 := by rw [length_pad]; omega
  have hlen : (padTo8 l ++ ub b).length = 8 * ((pk l).length + b.length) := by rw [List.length_append, length_pad, length_ub]; omega
  rw [pk_append hp8, pk_pad, hlen, List.length_append, List.map_append, show ((8 * ((pk l).length + b.length) : Nat) : Int) = 8 * (((pk l).length + b.length : Nat) : Int) by norm_cast]
  exact .pick .here (.pick .here (.pu (by omega) (.pick .here .refl)))
def IsR (p : Nat) (b : List UInt8) (at_ : Nat) : HP := ex fun q : Option Addr × Nat => all [pt p (.cells #[.slice q.1 b.length q.2, .int .i64 (at_ : Int), .bool true] 217), Sl 1 5 q.1 q.2 b.length (b.map B), pu (at_ <= 8 * b.length /\ b.length <= 140737488355328)]
theorem rnone_some {W : World} {p : Nat} {a b : Value} {m : Bool} : Cn p_ 162 [.pointer (some ⟨p, 0, none⟩)] W [pt p (.cells #[a, b, .bool m] 217)] (fun _ : Unit => .bool (!m)) (fun _ => [pt p (.cells #[a, b, .bool m] 217)]) := by
 (refine S.bits_Reader_none_s.cn fun F => ?_; unfold S.bits_Reader_none; simp only [ca_, na_])
 refine o_ v_eqNil1 ?_; refine e_gdT (e_gdT (o_ v_nil (e_gdT (o_ v_fa0 (e_gdT (ln_ ?_)))))); refine e_gdT (o_ v_not (o_ v_pickF ?_))
 (refine e_ret Unit.unit (by rfl) ?_; (repeat (first | exact .refl | exact .nil | (apply Imp.pick; (focus ((repeat constructor); done))) | refine .drop ?_)))
theorem srcLeft {W : World} {p n c at_ : Nat} {a : Option Addr} {m : Value} (hn : n <= 140737488355328) (ha : at_ <= 8 * n) : Cn p_ 163 [.pointer (some ⟨p, 0, none⟩)] W [pt p (.cells #[.slice a n c, .int .i64 (at_ : Int), m] 217)] (fun _ : Unit => .int .i64 (8 * (n : Int) - at_)) (fun _ => [pt p (.cells #[.slice a n c, .int .i64 (at_ : Int), m] 217)]) := by
 (refine S.bits_source_left_s.cn fun F => ?_; unfold S.bits_source_left; simp only [ca_, na_])
 refine e_drS (t_ v_nil (t_ v_fa0 (ls_ ?_))); refine t_ v_len ?_; (refine t_ (v_mul (by omega) (by omega)) ?_); refine t_ v_nil (t_ v_fa0 (ls_ ?_)); (refine t_ (v_sub (by omega) (by omega)) ?_)
 (refine e_ret Unit.unit (by rfl) ?_; (repeat (first | exact .refl | exact .nil | (apply Imp.pick; (focus ((repeat constructor); done))) | refine .drop ?_)))
theorem srcBit {W : World} {p at_ : Nat} {b : List UInt8} {v : Bool} (hv : (ub b)[at_]? = some v) : Cn p_ 169 [.pointer (some ⟨p, 0, none⟩)] W [IsR p b at_] (fun _ : Unit => .int .i64 (v.toNat : Int)) (fun _ => [IsR p b (at_ + 1)]) := by
 (refine S.bits_source_bit_s.cn fun F => ?_; unfold S.bits_source_bit; simp only [ca_, na_])
 refine e_ex Pick.here fun q => ?_
 obtain ⟨qa, qc⟩ := q
 refine e_all Pick.here ?_
 refine nr_ ?_
 refine e_pu (.there (.there .here)) fun hL => ?_
 have hlt : at_ < 8 * b.length := by
  rw [<- length_ub]
  rcases Nat.lt_or_ge at_ (ub b).length with h | h
  ·exact h
  ·rw [List.getElem?_eq_none h] at hv; cases hv
 have h8 : at_ / 8 < b.length := by omega
 rw [ub_get h8] at hv
 have hv' := Option.some.inj hv
 refine e_slsome (.there .here) (by omega) fun g hg => ?_
 subst hg
 refine e_drS (t_ v_nil (t_ v_fa0 (ls_ ?_))); refine t_ v_nil (t_ v_fa0 (ls_ ?_)); (((refine t_ (v_quo ?h1 ?h2 ?h3) ?_); (case h1 => omega); (case h2 => omega); (case h3 => omega)))
 refine t_ (v_ia1 (at_ / 8) (by norm_cast) (by omega)) ?_
 refine e_stS (v_ldSl (v := B b[at_ / 8]) (by rw [Nat.zero_add]; exact B_get h8)) (.pick (.there .here) .nil) ?_
 refine t_ v_nil (t_ v_fa0 (ls_ ?_)); (((refine t_ (v_rem ?h1 ?h2) ?_); (case h1 => omega); (case h2 => omega)))
 have hb := b[at_ / 8].toNat_lt
 refine t_ v_conv ?_
 rw [show ((at_ : Int) % 8) = ((at_ % 8 : Nat) : Int) by norm_cast, wrapu64 (by omega)]
 refine t_ (v_shr (by omega)) ?_
 rw [shr8 (by omega)]
 refine t_ v_and ?_
 have hdiv : b[at_ / 8].toNat / 2 ^ (at_ % 8) <= b[at_ / 8].toNat := Nat.div_le_self _ _
 rw [and1_8 (by omega), testBit_mod, hv']
 refine t_ v_conv ?_
 rw [w64 (by omega) (by cases v <;> simp)]
 refine o_ v_nil (o_ v_fa0 (ln_ ?_)); refine ad_ ?_; refine o_ v_nil (o_ v_fa0 (sn_ ?_))
 refine e_ret () rfl ?_
 refine .ex (some ⟨g, 0, none⟩, qc) (.all ?_)
 refine nr_ ?_
 rw [show ((at_ + 1 : Nat) : Int) = (at_ : Int) + 1 by norm_cast]
 exact .pick .here (.pick .here (.pu ⟨by omega, hL.2⟩ .refl))
theorem newReader {W : World} {a : Option Addr} {cap : Nat} {b : List UInt8} {A : HP} (hr : RdB W A a b.length (b.map B)) (ha : a = none -> b.length = 0) (hb : b.length <= 140737488355328) :
  Cn p_ 124 [.slice a b.length cap] W [A] (fun p : Nat => .pointer (some ⟨p, 0, none⟩)) (fun p => [IsR p b 0, A]) := by
 (refine S.bits_NewReader_s.cn fun F => ?_; unfold S.bits_NewReader; simp only [ca_, na_])
 refine e_nil (s := 1) (e := 5) ?_
 refine e_app (m := b.length) (news := b.map B) .here (src_rd (A := A) (e' := 5) (by kernel_rfl) (.there .here) hr ha B_one) (by omega) (by omega) fun a' c' => ?_
 rw [Nat.zero_add, List.nil_append]
 refine o_ v_rv ?_; refine o_ v_rv ?_; refine e_boxA fun g => ?_
 refine e_ret g rfl ?_
 refine .ex (a', c') (.all ?_)
 refine nr_ ?_
 exact .pick .here (.pick .here (.pu ⟨by omega, hb⟩ (.pick .here .refl)))
theorem left {W : World} {p at_ : Nat} {b : List UInt8} : Cn p_ 130 [.pointer (some ⟨p, 0, none⟩)] W [IsR p b at_] (fun _ : Unit => .int .i64 (8 * (b.length : Int) - at_)) (fun _ => [IsR p b at_]) := by
 (refine S.bits_Reader_Left_s.cn fun F => ?_; unfold S.bits_Reader_Left; simp only [ca_, na_])
 refine e_ex Pick.here fun q => ?_
 obtain ⟨qa, qc⟩ := q
 refine e_all Pick.here ?_
 refine nr_ ?_
 refine e_pu (.there (.there .here)) fun hL => ?_
 refine c_ rnone_some fun _ => ?_
 refine e_condF (o_ v_nil (o_ v_fa0 (c_ (srcLeft hL.2 hL.1) fun _ => ?_)))
 refine rt_ () ?_
 refine .ex (qa, qc) (.all ?_)
 refine nr_ ?_
 exact .pick .here (.pick .here (.pu hL .refl))
def takR (b : List UInt8) (at_ : Nat) (k : Int) : Int := if k < 0 \/ 32 < k then 1 else if 8 * (b.length : Int) - at_ < k then 20 else 0
def takN (b : List UInt8) (at_ : Nat) (k : Int) : Nat := if takR b at_ k = 0 then tak (ub b) at_ k.toNat else 0
def takAt (b : List UInt8) (at_ : Nat) (k : Int) : Nat := if takR b at_ k = 0 then at_ + k.toNat else at_
theorem take {W : World} {p at_ : Nat} {b : List UInt8} {k : Int} : Cn p_ 161 [.pointer (some ⟨p, 0, none⟩), .int .i64 k] W [IsR p b at_] (fun _ : Unit => .tuple #[.int .i64 (takN b at_ k : Int), .int .i64 (takR b at_ k)]) (fun _ => [IsR p b (takAt b at_ k)]) := by
 (refine S.bits_Reader_Take_s.cn fun F => ?_; unfold S.bits_Reader_Take; simp only [ca_, na_])
 refine e_cut1 (fun z => IsR p b at_ :: pu (z = .bool (decide (k < 0 \/ 32 < k))) :: F) ?_ ?_
 ·intro ds z
  refine e_pu (.there .here) fun hz => ?_
  subst hz
  by_cases hb : k < 0 \/ 32 < k
  ·rw [dT_ hb]
   have hR : takR b at_ k = 1 := by simp [takR, hb]
   rw [hR, show takN b at_ k = 0 by simp [takN, hR], show takAt b at_ k = at_ by simp [takAt, hR]]
   refine e_condT (rt_ () ?_)
   exact im_
  ·rw [dF_ hb]
   refine e_ex Pick.here fun q => ?_
   obtain ⟨qa, qc⟩ := q
   refine e_all Pick.here ?_
   refine nr_ ?_
   refine e_pu (.there (.there .here)) fun hL => ?_
   refine e_condF (o_ v_nil (o_ v_fa0 (c_ (srcLeft hL.2 hL.1) fun _ => ?_)))
   refine e_ask v_gtr .nil (fun h => ?_) (fun h => ?_)
   ·(refine e_condT ?_)
    have hR : takR b at_ k = 20 := by simp [takR, hb, h]
    rw [hR, show takN b at_ k = 0 by simp [takN, hR], show takAt b at_ k = at_ by simp [takAt, hR]]
    refine rt_ () ?_
    refine .ex (qa, qc) (.all ?_)
    refine nr_ ?_
    exact .pick .here (.pick .here (.pu hL .refl))
   ·(refine e_condF ?_)
    have hR : takR b at_ k = 0 := by simp [takR, hb, h]
    rw [hR, show takN b at_ k = tak (ub b) at_ k.toNat by simp [takN, hR], show takAt b at_ k = at_ + k.toNat by simp [takAt, hR]]
    obtain ⟨K, rfl⟩ := Int.eq_ofNat_of_zero_le (show 0 <= k by omega)
    rw [Int.toNat_natCast]
    refine e_loop2 (fun m x y => [ex fun i : Nat => all [pu (m + i = K /\ y = .int .i64 (i : Int) /\ x = .int .i64 (tak (ub b) at_ i : Int)), IsR p b (at_ + i)]] ++ F) K ?_ ?_
    ·refine Imp.ex 0 (.all ?_)
     refine nr_ ?_
     refine .pu ⟨by omega, rfl, by rw [tak_zero]; rfl⟩ (.ex (qa, qc) (.all ?_))
     refine nr_ ?_
     exact .pick .here (.pick .here (.pu hL .refl))
    ·intro m ds x y
     refine nr_ ?_
     refine e_ex Pick.here fun i => e_all Pick.here ?_
     refine nr_ ?_
     refine e_pu Pick.here fun hi => ?_
     obtain ⟨hm, rfl, rfl⟩ := hi
     refine e_ask v_lss .nil (fun h => ?_) (fun h => ?_)
     ·have hik : i < K := by omega
      obtain ⟨v, hv⟩ : ∃ v, (ub b)[at_ + i]? = some v := ⟨_, List.getElem?_eq_getElem (by rw [length_ub]; omega)⟩
      refine e_condT (o_ v_nil (o_ v_fa0 (c_ (srcBit hv) fun _ => ?_)))
      refine o_ v_conv ?_
      rw [wrapu64 (by omega)]
      refine o_ (v_shl (by omega)) ?_
      have hmin : min ((i : Int)).toNat IntKind.i64.bits = i := by simp only [IntKind.bits, Int.toNat_natCast]; omega
      have hp : 2 ^ i <= 2 ^ 32 := Nat.pow_le_pow_right (by omega) (by omega)
      have hc : (v.toNat : Int) * 2 ^ i = ((v.toNat * 2 ^ i : Nat) : Int) := by norm_cast
      have hle : v.toNat * 2 ^ i <= 2 ^ i := by cases v <;> simp
      obtain ⟨E, hE⟩ : ∃ E, E = v.toNat * 2 ^ i := ⟨_, rfl⟩
      rw [hmin, hc, <- hE, w64 (by omega) (by omega)]
      refine o_ v_or ?_
      rw [hE, or_shl (by omega) (tak_lt _ _ _), <- tak_succ hv]
      refine ad_ ?_
      refine e_next2 (m - 1) (by omega) (.ex (i + 1) (.all ?_))
      refine nr_ ?_
      refine .pu (by refine ⟨by omega, ?_⟩; first | trivial | exact ⟨by norm_cast, trivial⟩ | norm_cast) ?_
      rw [<- Nat.add_assoc]
      exact im_
     ·have : i = K := by omega
      subst this
      refine e_condF (rt_ () ?_)
      exact im_
 ·refine e_ex Pick.here fun q => ?_
  obtain ⟨qa, qc⟩ := q
  refine e_all Pick.here ?_
  refine nr_ ?_
  refine e_pu (.there (.there .here)) fun hL => ?_
  refine c_ rnone_some fun _ => ?_
  refine e_condF ?_
  have fin : ∀ z : Value, z = .bool (decide (k < 0 \/ 32 < k)) -> Ent W (pt p (.cells #[.slice qa b.length qc, .int .i64 (at_ : Int), .bool true] 217) :: Sl 1 5 qa qc b.length (b.map B) :: F) (fun w => sat W (IsR p b at_ :: pu (z = .bool (decide (k < 0 \/ 32 < k))) :: F) w) := fun z hz => e_sat (.ex (qa, qc) (.all (.pick .here (.pick .here (.pu hL (.pu hz .refl))))))
  refine e_ask v_lss .nil (fun h => ?_) (fun h => ?_)
  ·(refine e_condT ?_)
   exact fin _ (by rw [dT_ (.inl h)])
  ·(refine e_condF ?_)
   refine o_ v_gtr (fin _ ?_)
   congr 1
   exact decide_eq_decide.2 ⟨fun h => .inr h, fun h' => h'.resolve_left h⟩
theorem ralign {W : World} {p at_ : Nat} {b : List UInt8} : Cn p_ 151 [.pointer (some ⟨p, 0, none⟩)] W [IsR p b at_] (fun _ : Unit => .tuple #[]) (fun _ => [IsR p b ((at_ + 7) / 8 * 8)]) := by
 (refine S.bits_Reader_Align_s.cn fun F => ?_; unfold S.bits_Reader_Align; simp only [ca_, na_])
 refine e_ex Pick.here fun q => ?_
 obtain ⟨qa, qc⟩ := q
 refine e_all Pick.here ?_
 refine nr_ ?_
 refine e_pu (.there (.there .here)) fun hL => ?_
 refine c_ rnone_some fun _ => ?_
 refine o_ v_notF (e_condT (o_ v_nil (o_ v_fa0 (o_ v_fa0 (ln_ ?_))))); refine ad_ ?_; (((refine o_ (v_quo ?h1 ?h2 ?h3) ?_); (case h1 => omega); (case h2 => omega); (case h3 => omega))); (refine o_ (v_mul (by omega) (by omega)) ?_); refine o_ v_nil (o_ v_fa0 (o_ v_fa0 (sn_ ?_)))
 refine rt_ () ?_
 refine .ex (qa, qc) (.all ?_)
 refine nr_ ?_
 rw [show (((at_ + 7) / 8 * 8 : Nat) : Int) = ((at_ : Int) + 7) / 8 * 8 by norm_cast]
 exact .pick .here (.pick .here (.pu ⟨by omega, hL.2⟩ .refl))
def lim (k : Int) : Nat := (if 32 < k then 32 else k).toNat
theorem lim_le (k : Int) : lim k <= 32 := by unfold lim; split <;> omega
theorem lim_eq (k : Int) : (if (0 : Int) < (if (32 : Int) < k then 32 else k) then (if (32 : Int) < k then 32 else k) else 0) = (lim k : Int) := by
 unfold lim; repeat' split <;> omega
theorem reverse {W : World} {n k : Int} : Cn p_ 136 [.int .i64 n, .int .i64 k] W [] (fun _ : Unit => .int .i64 (rv n (lim k) : Int)) (fun _ => []) := by
 (refine S.bits_Reverse_s.cn fun F => ?_; unfold S.bits_Reverse; simp only [ca_, na_])
 have hK := lim_le k
 refine o_ v_min (o_ v_max ?_)
 rw [lim_eq]
 obtain ⟨K, hKe⟩ : ∃ K, K = lim k := ⟨_, rfl⟩
 rw [<- hKe] at hK
 rw [<- hKe]
 refine e_loop2 (fun m x y => [ex fun i : Nat => pu (m + i = K /\ y = .int .i64 (i : Int) /\ x = .int .i64 (rv n i : Int))] ++ F) K ?_ ?_
 ·exact Imp.ex 0 (.pu ⟨by omega, rfl, rfl⟩ .refl)
 ·intro m ds x y
  refine nr_ ?_
  refine e_ex Pick.here fun i => e_pu Pick.here fun hi => ?_
  obtain ⟨hm, rfl, rfl⟩ := hi
  refine e_ask v_lss .nil (fun h => ?_) (fun h => ?_)
  ·have hik : i < K := by omega
   have hr := rv_lt n i
   have hp : 2 ^ i <= 2 ^ 31 := Nat.pow_le_pow_right (by omega) (by omega)
   refine e_condT (o_ (v_shl (by omega)) ?_)
   rw [show (rv n i : Int) * 2 ^ (min ((1 : Int)).toNat IntKind.i64.bits) = ((rv n i * 2 : Nat) : Int) by norm_cast, w64 (by omega) (by omega)]
   refine o_ v_conv ?_
   rw [wrapu64 (by omega)]
   refine o_ (v_shr (by omega)) ?_
   rw [shrI (by omega)]
   refine o_ v_and ?_
   rw [and1I, <- bit_toNat]
   refine o_ v_or ?_
   rw [or_two (by omega), <- rv_succ]
   refine ad_ ?_
   exact e_next2 (m - 1) (by omega) (.ex (i + 1) (.pu (by refine ⟨by omega, ?_⟩; first | trivial | norm_cast) .refl))
  ·have : i = K := by omega
   subst this
   refine e_condF (rt_ () ?_)
   exact .refl
end Go.Proofs.YthoeeahdkdcceaaGreat.B
namespace Go.Proofs.YthoeeahdkdcceaaGreat.Sl
open Go Sh
variable {P : Program} {W : World} {L L' : List HP} {Kp : PK} {k : Value -> WP}
theorem fill_run : ∀ (vs pre zs : List Value), zs.length = vs.length -> (∀ v ∈ vs, v.cells = #[v]) ->
  Instr.fill (fun i => some (i * 1, 1)) (pre ++ zs).toArray ((vs.zipIdx pre.length).map fun x => (x.2, x.1)) = some (pre ++ vs).toArray
 | [], pre, zs, hz, _ => by
  have : zs = [] := List.eq_nil_of_length_eq_zero (by simpa using hz)
  subst this; simp [Instr.fill]
 | v :: vs, pre, [], hz, _ => by simp at hz
 | v :: vs, pre, z :: zs, hz, ho => by
  have hv := ho v (by simp)
  have ih := fill_run vs (pre ++ [v]) zs (by simpa using hz) (fun u hu => ho u (by simp [hu]))
  simp only [List.zipIdx_cons, List.map_cons, Instr.fill, hv]
  rw [if_neg (by simp)]
  have h2 : Array.foldl (fun cs (x : Value × Nat) => cs.setIfInBounds (pre.length * 1 + x.2) x.1) (pre ++ z :: zs).toArray (#[v] : Array Value).zipIdx = (pre ++ [v] ++ zs).toArray := by
   simp
  have h3 : (pre ++ [v]).length = pre.length + 1 := by simp
  rw [h3] at ih
  rw [h2, ih]; simp
theorem e_bslN {t e : TypeId} {b n : Nat} {parts : List (Nat × Value)} {vs : List Value} [ht : SlT P t e 1 b] (hn : vs.length = n) (hp : parts = vs.zipIdx.map fun x => (x.2, x.1)) (ho : ∀ v ∈ vs, v.cells = #[v]) (hm : n <= 16777216)
  (h : ∀ g, Ent W (pt g (.cells vs.toArray e) :: L) (k (.slice (some ⟨g, 0, none⟩) n n))) : Ent W L (opN P (sBuildSl t n parts) Kp k) := fun w hw => by
 refine ⟨?_⟩
 obtain ⟨i, z, hi, hz, hs, hb, hzs⟩ := ht.info
 have : (sBuildSl t n parts).run P w = .ok (.value (.slice (some ⟨w.heap.size, 0, none⟩) n n)) (w.alloc (.cells vs.toArray e)) := by
  have hm' : ¬ (2 ^ 24 < n) := by omega
  have hf : ∀ zs : List Value, zs.length = vs.length -> Instr.fill (fun i => some (i * 1, 1)) zs.toArray parts = some vs.toArray := fun zs hz => by
   have := fill_run vs [] zs hz ho
   simpa [hp] using this
  by_cases h0 : n = 0
  ·have : vs = [] := List.eq_nil_of_length_eq_zero (by omega)
   subst this; subst h0
   simp [sBuildSl, Instr.buildSlice, run_underlying ht.ut, sizeOf_run hi, hs, hp, newRow, Instr.fill]
   have e0 : (Array.range 0).map (fun _ => (default : Value)) = #[] := Array.eq_empty_of_size_eq_zero (by simp)
   rw [e0]
  ·have hf' := hf ((List.range n).map fun j => z.cells[j % z.cells.size]!) (by simp [hn])
   have e1 : ((Array.range n).map fun j => z.cells[j % z.cells.size]!) = ((List.range n).map fun j => z.cells[j % z.cells.size]!).toArray := by
    apply Array.ext'
    simp [Array.toList_range]
   rw [<- e1] at hf'
   simp only [Nat.mul_one] at hf'
   simp [sBuildSl, Instr.buildSlice, run_underlying ht.ut, sizeOf_run hi, hs, h0, hm', zeroValue, typeInfo, hi, hz, newRow, hf']
 rw [this]
 exact h _ _ (hw.alloc _)
theorem e_mksl {t e : TypeId} {b : Nat} {z : Value} {q r : IntKind} {l c : Int} (n m : Nat) [ht : SlT P t e 1 b] [hz : ZeroT P e z] [hc : OC z] (hl : l = (n : Int)) (hcm : c = (m : Int)) (h1 : n <= m) (h2 : b * m <= 281474976710656) (h3 : m <= maxLen)
  (h : ∀ g, Ent W (Sl 1 e (some ⟨g, 0, none⟩) m n (List.replicate n z) :: L) (k (.slice (some ⟨g, 0, none⟩) n m))) : Ent W L (opN P (sMkSl t (.int q l) (.int r c)) Kp k) := fun w hw => by
 refine ⟨?_⟩
 obtain ⟨i, z', hi, hz', hs, hb, hzs⟩ := ht.info
 have e0 : z' = z := by
  have := hz.run w
  simp [zeroValue, typeInfo, hi, hz'] at this
  exact this
 subst e0
 subst hl; subst hcm
 have hcz : z'.cells = #[z'] := cells_one hc.one
 have hbm : (i.bytes : Int) * (m : Int) <= 281474976710656 := by
  rw [hb]
  obtain ⟨X, hX⟩ : ∃ X, X = b * m := ⟨_, rfl⟩
  have h4 : (X : Int) <= 281474976710656 := by omega
  rw [hX, Int.natCast_mul] at h4
  exact h4
 have hr := run_make (P := P) (w := w) t e i z' ht.ut hi hz' q r n m (by omega) (by omega) hbm (by unfold maxLen at h3; omega)
 simp only [Int.toNat_natCast, hs, Nat.mul_one] at hr
 have e1 : madeCells z'.cells m = (List.replicate n z' ++ List.replicate (m - n) z').toArray := by
  rw [hcz, List.replicate_append_replicate]
  apply Array.ext'
  simp [madeCells, Array.toList_range, Nat.mod_one]
  rw [show n + (m - n) = m by omega]
  apply List.ext_getElem <;> simp
 have : (sMkSl t (.int q n) (.int r m)).run P w = .ok (.value (.slice (some ⟨w.heap.size, 0, none⟩) n m)) (w.alloc (.cells (List.replicate n z' ++ List.replicate (m - n) z').toArray e)) := by
  simp [sMkSl, hr, e1]
 rw [this]
 refine h _ _ ?_
 have := hw.alloc (.cells (List.replicate n z' ++ List.replicate (m - n) z').toArray e)
 refine Imp.sat (L := pt w.heap.size (.cells (List.replicate n z' ++ List.replicate (m - n) z').toArray e) :: L) ?_ this
 exact .conv (B := pt w.heap.size (.cells (List.replicate n z' ++ List.replicate (m - n) z').toArray e)) (fun f hf => ⟨by simp, h1, h3, .inr ⟨_, List.replicate (m - n) z', rfl, by simp, hf⟩⟩) (.pick .here .refl)
end Go.Proofs.YthoeeahdkdcceaaGreat.Sl
namespace Go.Proofs.YthoeeahdkdcceaaGreat.B
open Go Go.Proofs Sh Sl T M
theorem RdB.none {W : World} {A : HP} {a : Option Addr} {n : Nat} {cs : List Value} (h : RdB W A a n cs) (c : a = none) : n = 0 := by
 rcases Nat.eq_zero_or_pos n with z | z
 ·exact z
 ·obtain ⟨_, _, e, _⟩ := h.at_ z
  rw [c] at e; cases e
def rrR (b : List UInt8) (at_ : Nat) (n : Int) : Int := if n < 0 then 1 else if (b.length : Int) - ((at_ + 7) / 8 : Nat) < n then 20 else 0
def rrB (b : List UInt8) (at_ : Nat) (n : Int) : List UInt8 := if rrR b at_ n = 0 then (b.drop ((at_ + 7) / 8)).take n.toNat else []
def rrAt (b : List UInt8) (at_ : Nat) (n : Int) : Nat := if rrR b at_ n = 0 then 8 * ((at_ + 7) / 8 + n.toNat) else at_
theorem rraw {W : World} {p at_ : Nat} {b : List UInt8} {n : Int} : Cn p_ 154 [.pointer (some ⟨p, 0, none⟩), .int .i64 n] W [IsR p b at_] (fun q : Option Addr × Nat => .tuple #[.slice q.1 (rrB b at_ n).length q.2, .int .i64 (rrR b at_ n)]) (fun q => [Sl 1 5 q.1 q.2 (rrB b at_ n).length ((rrB b at_ n).map B), IsR p b (rrAt b at_ n)]) := by
 (refine S.bits_Reader_Raw_s.cn fun F => ?_; unfold S.bits_Reader_Raw; simp only [ca_, na_])
 refine e_ex Pick.here fun q => ?_
 obtain ⟨qa, qc⟩ := q
 refine e_all Pick.here ?_
 refine nr_ ?_
 refine e_pu (.there (.there .here)) fun hL => ?_
 refine c_ rnone_some fun _ => ?_
 refine e_gdT (e_gdT (e_ask v_lss .nil (fun h => ?_) (fun h => ?_)))
 ·have hR : rrR b at_ n = 1 := by simp [rrR, h]
  have hB : rrB b at_ n = [] := by simp [rrB, hR]
  have hA : rrAt b at_ n = at_ := by simp [rrAt, hR]
  rw [hR, hB, hA]
  refine o_ v_pickF (e_condT (rt_ ((none, 0)) ?_))
  refine imp_nil (.ex (qa, qc) (.all ?_))
  refine nr_ ?_
  exact .pick .here (.pick .here (.pu hL .refl))
 ·(refine o_ v_pickF ?_); refine e_condF ?_; refine o_ v_nil ?_; refine o_ v_fa0 ?_; refine o_ v_fa0 ?_; refine ln_ ?_; refine ad_ ?_; (((refine o_ (v_quo ?h1 ?h2 ?h3) ?_); (case h1 => omega); (case h2 => omega); (case h3 => omega))); refine o_ v_nil ?_; refine o_ v_fa0 ?_; refine o_ v_fa0 ?_; refine ln_ ?_; refine o_ v_len ?_; refine sb_ ?_
  have h0 := h
  refine e_ask v_gtr .nil (fun h => ?_) (fun h => ?_)
  ·have hR : rrR b at_ n = 20 := by rw [rrR, if_neg h0, if_pos (by push_cast; omega)]
   have hB : rrB b at_ n = [] := by simp [rrB, hR]
   have hA : rrAt b at_ n = at_ := by simp [rrAt, hR]
   rw [hR, hB, hA]
   refine e_condT (rt_ ((none, 0)) ?_)
   refine imp_nil (.ex (qa, qc) (.all ?_))
   refine nr_ ?_
   exact .pick .here (.pick .here (.pu hL .refl))
  ·have hR : rrR b at_ n = 0 := by rw [rrR, if_neg h0, if_neg (by push_cast; omega)]
   obtain ⟨N, rfl⟩ := Int.eq_ofNat_of_zero_le (show 0 <= n by omega)
   have hB : rrB b at_ N = (b.drop ((at_ + 7) / 8)).take N := by simp [rrB, hR]
   have hA : rrAt b at_ N = 8 * ((at_ + 7) / 8 + N) := by simp [rrAt, hR]
   have hN : (at_ + 7) / 8 + N <= b.length := by omega
   have hBl : (rrB b at_ N).length = N := by rw [hB, List.length_take, List.length_drop]; omega
   rw [hR, hA]
   refine e_slfacts (.there .here) fun f1 f2 f3 f4 => ?_
   refine e_condF (ad_ ?_); (refine o_ (v_mul (by omega) (by omega)) ?_); refine o_ v_nil (o_ v_fa0 (o_ v_fa0 (sn_ ?_))); refine o_ v_nil (o_ v_fa0 (o_ v_fa0 (ln_ ?_))); refine ad_ ?_
   refine o_ (v_sl2 ((at_ + 7) / 8) ((at_ + 7) / 8 + N) (by norm_cast) (by norm_cast) (by omega) (by omega)) ?_
   have hcut := (rd_sl (W := W) (e := 5) (cap := qc) (cs := b.map B) (by simp) f4).cut (cap := qc) (l := (at_ + 7) / 8) (h := (at_ + 7) / 8 + N) (by omega) (by omega) (by omega)
   refine e_nil (s := 1) (e := 5) ?_
   refine e_app (m := (at_ + 7) / 8 + N - (at_ + 7) / 8) .here (src_rd (e' := 5) (by kernel_rfl) (.there (.there .here)) hcut (RdB.none hcut) (fun u hu => B_one u (List.mem_of_mem_drop (List.mem_of_mem_take hu)))) (by omega) (by omega) fun a' c' => ?_
   rw [List.nil_append, Nat.zero_add, Nat.add_sub_cancel_left, <- List.map_drop, <- List.map_take, <- hB]
   refine e_ret (a', c') (by rw [hBl]) ?_
   rw [hBl]
   refine .pick (by repeat constructor) (.ex (qa, qc) (.all ?_))
   refine nr_ ?_
   rw [show ((8 * ((at_ + 7) / 8 + N) : Nat) : Int) = 8 * (((at_ : Int) + 7) / 8 + N) by norm_cast]
   exact .pick (by repeat constructor) (.pick (by repeat constructor) (.pu (by omega) .refl))
theorem rrB_le (b : List UInt8) (t : Nat) (n : Int) : (rrB b t n).length <= b.length := by
 unfold rrB; split <;> simp <;> omega
end Go.Proofs.YthoeeahdkdcceaaGreat.B
namespace Go.Proofs.YthoeeahdkdcceaaGreat.Sl
open Go Go.RowKit Sh
variable {P : Program} {W : World} {L L' : List HP} {Kp : PK} {k : Value -> WP} {H : Type} {enc : TypeId × Value -> H}
theorem spot_none {w : World} {a : Addr} {v : Value} (h : w.cell? a = some v) : a.spot = none /\ a.block < w.heap.size := by
 unfold World.cell? at h
 split at h
 ·rename_i c _ _ e
  refine ⟨?_, (Array.getElem?_eq_some_iff.1 e).1⟩
  cases hs : a.spot with
  | none => rfl
  | some x => rw [hs] at h; simp at h
 ·cases h
structure Old {α : Type} (W : World) (s : Nat) (rd : α -> List Value -> Prop) (a : Option Addr) (n : Nat) (xs : List α) : Prop where
 len : xs.length = n
 at_ : 0 < n -> ∃ g o, a = some ⟨g, o, none⟩ /\ g < W.heap.size /\ ∀ (i : Nat) (h : i < xs.length), ∃ cs : List Value, cs.length = s /\ rd xs[i] cs /\ ∀ (j : Nat) (v : Value), cs[j]? = some v -> W.cell? ⟨g, o + (i * s + j), none⟩ = some v
theorem choose_list {α : Type} {n : Nat} {R : Nat -> α -> Prop} (h : ∀ i, i < n -> ∃ a, R i a) : ∃ xs : List α, xs.length = n /\ ∀ (i : Nat) (hi : i < xs.length), R i xs[i] := by
 induction n with
 | zero => exact ⟨[], rfl, fun i hi => by simp at hi⟩
 | succ n ih =>
  obtain ⟨xs, h1, h2⟩ := ih fun i hi => h i (by omega)
  obtain ⟨a, ha⟩ := h n (by omega)
  refine ⟨xs ++ [a], by simp [h1], fun i hi => ?_⟩
  by_cases c : i < xs.length
  ·rw [List.getElem_append_left c]; exact h2 i c
  ·have : i = n := by simp at hi; omega
   subst this
   rw [List.getElem_append_right (by omega)]
   simpa [h1] using ha
theorem bulk_cons (d : DataW H) (r : List (DataW H)) : Rows.uptoBulkAll (d :: r) = Rows.uptoBulk d + Rows.uptoBulkAll r := by simp [Rows.uptoBulkAll]
theorem bulk_sum {α : Type} {m : α -> Nat} : ∀ (xs : List α) (ds : List (DataW H)), xs.length = ds.length -> (∀ (i : Nat) (h1 : i < xs.length) (h2 : i < ds.length), m xs[i] <= Rows.uptoBulk ds[i]) -> (xs.map m).sum <= Rows.uptoBulkAll ds
 | [], [], _, _ => by simp
 | x :: xs, d :: ds, hl, h => by
  have h0 := h 0 (by simp) (by simp)
  have ih := bulk_sum xs ds (by simpa using hl) (fun i h1 h2 => h (i + 1) (by simp; omega) (by simp; omega))
  rw [bulk_cons, List.map_cons, List.sum_cons]
  simp only [List.getElem_cons_zero] at h0
  omega
theorem open_old {α : Type} {rd : α -> List Value -> Prop} {m : α -> Nat} {t e : TypeId} {s fuel : Nat} {sp : Nat -> Bool} {held : Bool} {cs : List Value} {x : DataW H × List MemPlace} (ht : P.underlying t = some (.slice e)) (hc : P.cellsOf e = s) (hs : 0 < s)
  (op : ∀ (n : Nat) (cs : List Value) (x : DataW H × List MemPlace), DataW.trod enc P W 0 sp held n e cs = some x -> ∃ a, rd a cs /\ m a <= Rows.uptoBulk x.1) (h : DataW.trod enc P W 0 sp held fuel t cs = some x) :
  ∃ (a : Option Addr) (n cap : Nat) (xs : List α), cs = [.slice a n cap] /\ n <= cap /\ cap <= maxLen /\ (a = none -> n = 0 /\ cap = 0) /\ Old W s rd a n xs /\ (xs.map m).sum + 1 <= Rows.uptoBulk x.1 := by
 rcases DataW.trod_slice ht h with ⟨rfl, rfl⟩ | ⟨a, len, cap, elems, rest, n, rfl, rfl, rfl, hb, hl, hm, he, hel, _, _⟩
 ·exact ⟨none, 0, 0, [], rfl, Nat.le_refl _, by unfold maxLen; omega, fun _ => ⟨rfl, rfl⟩, ⟨rfl, fun c => by omega⟩, by simp [Rows.uptoBulk]⟩
 ·have cell0 : ∀ i, i < len -> ∃ ds : List Value, ds.length = s /\ (∃ y, rd y ds /\ ∀ h : i < elems.length, m y <= Rows.uptoBulk elems[i].1) /\ ∀ j, j < s -> W.cell? ((a.add (i * s)).add j) = ds[j]? := fun i hi => by
   have h1 := hel i hi
   rw [List.getElem?_eq_getElem (by omega), Option.bind_eq_some_iff] at h1
   obtain ⟨ds, h2, h3⟩ := h1
   unfold World.cells? at h2
   rw [if_pos (Nat.zero_le _), hc] at h2
   obtain ⟨y, hy, hm2⟩ := op _ _ _ h3
   exact ⟨ds, by simpa using mapM_some_length h2, ⟨y, hy, fun _ => hm2⟩, fun j hj => mapM_some_get h2 j j (by simp [hj])⟩
  by_cases hz : len = 0
  ·subst hz
   exact ⟨some a, 0, cap, [], rfl, hl, hm, (fun c => by cases c), ⟨rfl, fun c => by omega⟩, by simp [Rows.uptoBulk]⟩
  obtain ⟨d0, hd0, _, hg0⟩ := cell0 0 (by omega)
  have h0 := hg0 0 hs
  have ea : (a.add (0 * s)).add 0 = a := by unfold Addr.add; simp
  rw [ea, List.getElem?_eq_getElem (by omega)] at h0
  obtain ⟨s1, s2⟩ := spot_none h0
  obtain ⟨g, o, sp'⟩ := a
  obtain rfl : sp' = none := s1
  have key : ∀ i, i < len -> ∃ y : α, (∀ h : i < elems.length, m y <= Rows.uptoBulk elems[i].1) /\ ∃ ds : List Value, ds.length = s /\ rd y ds /\ ∀ (j : Nat) (v : Value), ds[j]? = some v -> W.cell? ⟨g, o + (i * s + j), none⟩ = some v := fun i hi => by
   obtain ⟨ds, hlen, ⟨y, hy, hyb⟩, hget⟩ := cell0 i hi
   refine ⟨y, hyb, ds, hlen, hy, fun j v hv => ?_⟩
   have hj : j < s := by
    rcases Nat.lt_or_ge j ds.length with c | c
    ·omega
    ·rw [List.getElem?_eq_none c] at hv; cases hv
   have := hget j hj
   rw [addr_add, addr_add, hv, Nat.add_assoc] at this
   exact this
  obtain ⟨xs, h1, h2⟩ := choose_list key
  refine ⟨some ⟨g, o, none⟩, len, cap, xs, rfl, hl, hm, (fun c => by cases c), ⟨h1, fun hn => ⟨g, o, rfl, s2, fun i hi => (h2 i hi).2⟩⟩, ?_⟩
  have := bulk_sum (m := m) xs (elems.map (·.1)) (by simp; omega) (fun i e1 e2 => by simpa using (h2 i e1).1 (by simpa using e2))
  simp only [Rows.uptoBulk]
  omega
theorem sum_ones {α : Type} : ∀ l : List α, (l.map fun _ => 1).sum = l.length
 | [] => rfl
 | x :: l => by simp [sum_ones l]; omega
def rdU (c : UInt8) (cs : List Value) : Prop := cs = [B c]
theorem Old.bytes {a : Option Addr} {n : Nat} {b : List UInt8} {A : HP} (h : Old W 1 rdU a n b) : RdB W A a n (b.map B) := by
 refine ⟨by rw [List.length_map]; exact h.len, fun hn => ?_⟩
 obtain ⟨g, o, rfl, hg, hc⟩ := h.at_ hn
 refine ⟨g, o, rfl, fun w L hw j v hv => ?_⟩
 rw [List.getElem?_map] at hv
 have hj : j < b.length := by
  rcases Nat.lt_or_ge j b.length with c | c
  ·exact c
  ·rw [List.getElem?_eq_none c] at hv; cases hv
 obtain ⟨cs, h1, h2, h3⟩ := hc j hj
 rw [h2] at h3
 have := h3 0 (B b[j]) rfl
 rw [List.getElem?_eq_getElem hj] at hv
 have hv' : B b[j] = v := Option.some.inj hv
 rw [hw.base.cell (p := ⟨g, o + j, none⟩) hg, <- hv']
 simpa using this
theorem open_u8 {e : TypeId} {sp : Nat -> Bool} {held : Bool} (he : P.underlying e = some (.int .u8)) : ∀ (n : Nat) (cs : List Value) (x : DataW H × List MemPlace), DataW.trod enc P W 0 sp held n e cs = some x -> ∃ a, rdU a cs /\ 1 <= Rows.uptoBulk x.1 := fun n cs x h => by
 obtain ⟨m, rfl, rfl, hw⟩ := DataW.trod_int he h
 have hm : 0 <= m /\ m <= 255 := by simpa [Lit.wf, IntKind.min, IntKind.max, IntKind.signed, IntKind.bits] using hw
 refine ⟨UInt8.ofNat m.toNat, ?_, by simp [Rows.uptoBulk]⟩
 unfold rdU B
 rw [UInt8.toNat_ofNat', Nat.mod_eq_of_lt (by omega), Int.toNat_of_nonneg hm.1]
theorem open_bytes {t e : TypeId} {fuel : Nat} {sp : Nat -> Bool} {held : Bool} {cs : List Value} {x : DataW H × List MemPlace} (ht : P.underlying t = some (.slice e)) (hc : P.cellsOf e = 1) (he : P.underlying e = some (.int .u8)) (h : DataW.trod enc P W 0 sp held fuel t cs = some x) :
  ∃ (a : Option Addr) (cap : Nat) (b : List UInt8), cs = [.slice a b.length cap] /\ b.length <= cap /\ cap <= maxLen /\ (a = none -> b.length = 0) /\ (∀ A, RdB W A a b.length (b.map B)) /\ b.length + 1 <= Rows.uptoBulk x.1 := by
 obtain ⟨a, n, cap, b, rfl, h1, h2, h3, h4, h5⟩ := open_old (m := fun _ => 1) ht hc (by omega) (open_u8 (enc := enc) he) h
 have hl := h4.len
 subst hl
 exact ⟨a, cap, b, rfl, h1, h2, fun c => (h3 c).1, fun A => h4.bytes, by rwa [sum_ones] at h5⟩
theorem open_slice {t e : TypeId} {v : Value} {d : DataW H} {ps : List MemPlace} {r : Reach} {b0 : Nat} {sp : Nat -> Bool} {held : Bool} (ht : P.underlying t = some (.slice e)) (hval : Value.okWide P W r b0 t v) (hd : DataW.Trod enc P W 0 sp held t v d ps) :
  ∃ fuel, DataW.trod enc P W 0 sp held fuel t [v] = some (d, ps) := by
 obtain ⟨a, n, c, rfl⟩ := WideShapes.okWide_slice ht hval
 obtain ⟨fuel, hf⟩ := hd
 exact ⟨fuel, hf⟩
end Go.Proofs.YthoeeahdkdcceaaGreat.Sl
namespace Go.Proofs.YthoeeahdkdcceaaGreat.Sl
open Go Sh
variable {P : Program} {W : World} {L L' : List HP} {Kp : PK} {k : Value -> WP}
theorem fold_put (o : Nat) : ∀ (us pre zs : List Value) (m : Nat), pre.length = o + m -> us.length <= zs.length ->
  (us.zipIdx m).foldl (fun (cs : Array Value) (x : Value × Nat) => cs.setIfInBounds (o + x.2) x.1) (pre ++ zs).toArray = (pre ++ us ++ zs.drop us.length).toArray
 | [], pre, zs, m, _, _ => by simp
 | u :: us, pre, [], m, _, h => by simp at h
 | u :: us, pre, z :: zs, m, hp, h => by
  have ih := fold_put o us (pre ++ [u]) zs (m + 1) (by simp; omega) (by simpa using h)
  have e : ((pre ++ z :: zs).toArray).setIfInBounds (o + m) u = (pre ++ [u] ++ zs).toArray := by
   rw [<- hp]; simp
  rw [List.zipIdx_cons, List.foldl_cons]
  simp only
  rw [e, ih]; simp
theorem fill_runS (s : Nat) : ∀ (vs pre zs : List Value) (m : Nat), pre.length = m * s -> zs.length = vs.length * s -> (∀ v ∈ vs, v.cells.size = s) ->
  Instr.fill (fun i => some (i * s, s)) (pre ++ zs).toArray ((vs.zipIdx m).map fun x => (x.2, x.1)) = some (pre ++ vs.flatMap fun v => v.cells.toList).toArray
 | [], pre, zs, m, _, hz, _ => by
  have : zs = [] := List.eq_nil_of_length_eq_zero (by simpa using hz)
  subst this; simp [Instr.fill]
 | v :: vs, pre, zs, m, hp, hz, ho => by
  have hv := ho v (by simp)
  have hz' : zs.length = vs.length * s + s := by rw [hz, List.length_cons, Nat.add_mul, Nat.one_mul]
  have ih := fill_runS s vs (pre ++ v.cells.toList) (zs.drop s) (m + 1) (by rw [List.length_append, hp, Array.length_toList, hv, Nat.add_mul, Nat.one_mul]) (by rw [List.length_drop, hz']; omega) (fun u hu => ho u (by simp [hu]))
  simp only [List.zipIdx_cons, List.map_cons, Instr.fill, hv]
  rw [if_neg (by simp [hp, hz'])]
  have h2 : Array.foldl (fun cs (x : Value × Nat) => cs.setIfInBounds (m * s + x.2) x.1) (pre ++ zs).toArray v.cells.zipIdx = (pre ++ v.cells.toList ++ zs.drop s).toArray := by
   have := fold_put (m * s) v.cells.toList pre zs 0 (by simpa using hp) (by rw [Array.length_toList, hv]; omega)
   rw [Array.length_toList, hv] at this
   rw [<- this]
   have e2 : v.cells.zipIdx.toList = v.cells.toList.zipIdx := by simp
   rw [<- e2, Array.foldl_toList]
  rw [h2, ih]; simp
theorem e_bslS {t e : TypeId} {s b n : Nat} {parts : List (Nat × Value)} {vs : List Value} [ht : SlT P t e s b] (hn : vs.length = n) (h1 : 0 < n) (hp : parts = vs.zipIdx.map fun x => (x.2, x.1)) (ho : ∀ v ∈ vs, v.cells.size = s) (hm : n * s <= 16777216)
  (h : ∀ g, Ent W (pt g (.cells (vs.flatMap fun v => v.cells.toList).toArray e) :: L) (k (.slice (some ⟨g, 0, none⟩) n n))) : Ent W L (opN P (sBuildSl t n parts) Kp k) := fun w hw => by
 refine ⟨?_⟩
 obtain ⟨i, z, hi, hz, hs, hb, hzs⟩ := ht.info
 have : (sBuildSl t n parts).run P w = .ok (.value (.slice (some ⟨w.heap.size, 0, none⟩) n n)) (w.alloc (.cells (vs.flatMap fun v => v.cells.toList).toArray e)) := by
  have hm' : ¬ (2 ^ 24 < n * s) := by omega
  have hf : ∀ zs : Array Value, zs.size = n * s -> Instr.fill (fun i => some (i * s, s)) zs parts = some (vs.flatMap fun v => v.cells.toList).toArray := fun zs hz => by
   have := fill_runS s vs [] zs.toList 0 (by simp) (by simp [hz, hn]) ho
   simpa [hp] using this
  by_cases h0 : n * s = 0
  ·simp [sBuildSl, Instr.buildSlice, run_underlying ht.ut, sizeOf_run hi, hs, zeroValue, typeInfo, hi, hz, newRow, h0]
   have := hf ((Array.range 0).map fun _ => (default : Value)) (by simp [h0])
   rw [this]
   simp
  ·simp [sBuildSl, Instr.buildSlice, run_underlying ht.ut, sizeOf_run hi, hs, hm', zeroValue, typeInfo, hi, hz, newRow, h0]
   have := hf ((Array.range (n * s)).map fun j => z.cells[j % z.cells.size]!) (by simp)
   rw [this]
   simp
 rw [this]
 exact h _ _ (hw.alloc _)
theorem flat_len {α : Type} {f : α -> List Value} {s : Nat} (hf : ∀ x, (f x).length = s) : ∀ l : List α, (l.flatMap f).length = l.length * s
 | [] => by simp
 | x :: l => by rw [List.flatMap_cons, List.length_append, hf, flat_len hf l, List.length_cons, Nat.add_mul, Nat.one_mul, Nat.add_comm]
theorem flat_get {α : Type} {f : α -> List Value} {s : Nat} (hf : ∀ x, (f x).length = s) : ∀ (l : List α) (i j : Nat) (hi : i < l.length) (hj : j < s), (l.flatMap f)[i * s + j]? = (f l[i])[j]?
 | x :: l, 0, j, _, hj => by
  rw [List.flatMap_cons, Nat.zero_mul, Nat.zero_add, List.getElem?_append_left (by rw [hf]; exact hj)]; rfl
 | x :: l, i + 1, j, hi, hj => by
  rw [List.flatMap_cons, List.getElem?_append_right (by rw [hf, Nat.add_mul]; omega), hf, show (i + 1) * s + j - s = i * s + j by rw [Nat.add_mul]; omega, flat_get hf l i j (by simpa using hi) hj]; rfl
end Go.Proofs.YthoeeahdkdcceaaGreat.Sl
namespace Go.Proofs.YthoeeahdkdcceaaGreat.Sl
open Go Go.RowKit Sh
variable {P : Program} {W : World} {L L' : List HP} {Kp : PK} {k : Value -> WP} {H : Type} {enc : TypeId × Value -> H}
def I (n : Int) : Value := .int .i64 n
instance {n : Int} : OC (I n) := ⟨rfl⟩
theorem I_one {l : List Int} : ∀ u ∈ l.map I, u.oneCell' = true := by
 intro u hu; obtain ⟨c, _, rfl⟩ := List.mem_map.1 hu; rfl
theorem I_get {l : List Int} {j : Nat} (h : j < l.length) : (l.map I)[j]? = some (I l[j]) := by simp [h]
def An (n : Nat) (f : Nat -> Int) : Array Value := ((List.range n).map fun j => I (f j)).toArray
theorem An_size (n : Nat) (f : Nat -> Int) : (An n f).size = n := by simp [An]
theorem An_get {n j : Nat} {f : Nat -> Int} (h : j < n) : (An n f)[j]? = some (I (f j)) := by simp [An, h]
theorem An_congr {n : Nat} {f g : Nat -> Int} (h : ∀ j, j < n -> f j = g j) : An n f = An n g := by
 unfold An
 congr 1
 exact List.map_congr_left fun j hj => by rw [h j (List.mem_range.1 hj)]
theorem An_set {n j : Nat} {f : Nat -> Int} {v : Int} : (An n f).setIfInBounds j (I v) = An n fun i => if i = j then v else f i := by
 apply Array.ext_getElem?
 intro i
 rw [Array.getElem?_setIfInBounds, An_size]
 by_cases c : j = i
 ·subst c
  rw [if_pos rfl]
  by_cases h : j < n
  ·rw [if_pos h, An_get h]; simp
  ·rw [if_neg h, Array.getElem?_eq_none (by rw [An_size]; omega)]
 ·rw [if_neg c]
  by_cases h : i < n
  ·rw [An_get h, An_get h, if_neg (fun e => c e.symm)]
  ·rw [Array.getElem?_eq_none (by rw [An_size]; omega), Array.getElem?_eq_none (by rw [An_size]; omega)]
theorem v_slA {t e : TypeId} {s len : Nat} {g l : Nat} {q : IntKind} {i : Int} [ht : ArrT P t len e s] (hi : i = (l : Int)) (hl : l < len) : RunV P W [] (sSl t (.pointer (some ⟨g, 0, none⟩)) (some (.int q i)) none none) (.slice (some ⟨g, l * s, none⟩) (len - l) (len - l)) := fun w _ => by
 have hne : len ≠ l := by omega
 simp [sSl, Instr.sliceAt, Instr.sliceBounds, ht.ut, ht.size, run_bound l hi (Nat.le_of_lt hl), Instr.sureAddr, hne, Addr.add]
 intro h; exact h.symm
theorem rd_cut {A : HP} {g m n l : Nat} {f : Nat -> Int} (h : RdB W A (some ⟨g, 0, none⟩) n ((List.range n).map fun j => I (f j))) (hl : l + m = n) : RdB W A (some ⟨g, l * 1, none⟩) m ((List.range m).map fun j => I (f (l + j))) := by
 have := h.cut (cap := n + 1) (l := l) (h := n) (by omega) (by omega) (by omega)
 rw [if_neg (by omega)] at this
 have e : (Option.map (fun x : Addr => x.add (l * 1)) (some ⟨g, 0, none⟩)) = some ⟨g, l * 1, none⟩ := by simp [addr_add]
 rw [e, show n - l = m by omega] at this
 have e2 : List.take m (List.drop l ((List.range n).map fun j => I (f j))) = (List.range m).map fun j => I (f (l + j)) := by
  apply List.ext_getElem?
  intro j
  rw [List.getElem?_take]
  by_cases c : j < m
  ·rw [if_pos c, List.getElem?_drop, List.getElem?_map, List.getElem?_map, List.getElem?_range (by omega), List.getElem?_range c]; rfl
  ·rw [if_neg c, List.getElem?_eq_none (by simp; omega)]
 rw [e2] at this
 exact this
end Go.Proofs.YthoeeahdkdcceaaGreat.Sl
namespace Go.Proofs.YthoeeahdkdcceaaGreat.HM
def cnt : List Int -> Nat -> Nat
 | [], _ => 0
 | x :: l, j => (if x = (j : Int) then 1 else 0) + cnt l j
theorem cnt_append (j : Nat) : ∀ l m : List Int, cnt (l ++ m) j = cnt l j + cnt m j
 | [], m => by simp [cnt]
 | x :: l, m => by simp [cnt, cnt_append j l m]; omega
theorem cnt_le (j : Nat) : ∀ l : List Int, cnt l j <= l.length
 | [] => by simp [cnt]
 | x :: l => by have := cnt_le j l; simp [cnt]; split <;> omega
theorem cnt_take_succ {l : List Int} {i : Nat} (h : i < l.length) (j : Nat) : cnt (l.take (i + 1)) j = cnt (l.take i) j + if l[i] = (j : Int) then 1 else 0 := by
 rw [List.take_succ_eq_append_getElem h, cnt_append]; simp [cnt]
theorem cnt_take_le {l : List Int} {j : Nat} : ∀ {a b : Nat}, a <= b -> cnt (l.take a) j <= cnt (l.take b) j := fun {a b} h => by
 have e : l.take b = l.take a ++ (l.take b).drop a := by
  have := (List.take_append_drop a (l.take b)).symm
  rwa [List.take_take, Nat.min_eq_left h] at this
 rw [e, cnt_append]; omega
theorem cnt_take_all (l : List Int) (i j : Nat) : cnt (l.take i) j <= cnt l j := by
 have e := (List.take_append_drop i l).symm
 have : cnt l j = cnt (l.take i) j + cnt (l.drop i) j := by rw [<- cnt_append, <- e]
 omega
def room (l : List Int) : Nat -> Int
 | 0 => 1
 | k + 1 => 2 * room l k - cnt l (k + 1)
def nx (l : List Int) : Nat -> Nat
 | 0 => 0
 | 1 => 0
 | k + 2 => 2 * (nx l (k + 1) + cnt l (k + 1))
def inL (l : List Int) : Prop := ∀ x ∈ l, 0 <= x /\ x <= 15
structure okL (l : List Int) : Prop where
 len : l.length <= 320
 ins : inL l
 room : 0 <= room l 15
instance (l : List Int) : Decidable (inL l) := by unfold inL; infer_instance
instance (l : List Int) : Decidable (okL l) := decidable_of_iff (l.length <= 320 /\ inL l /\ 0 <= HM.room l 15) ⟨fun ⟨a, b, c⟩ => ⟨a, b, c⟩, fun ⟨a, b, c⟩ => ⟨a, b, c⟩⟩
theorem nx_room (l : List Int) : ∀ k, ((nx l (k + 1) + cnt l (k + 1) : Nat) : Int) = 2 ^ (k + 1) - room l (k + 1)
 | 0 => by simp [nx, room]; omega
 | k + 1 => by
  have ih := nx_room l k
  have e : (2 : Int) ^ (k + 1 + 1) = 2 * 2 ^ (k + 1) := by rw [Int.pow_succ]; omega
  rw [e]
  simp only [nx, room] at *
  push_cast at *
  omega
theorem room_neg {l : List Int} {k : Nat} (h : room l k < 0) : ∀ m, room l (k + m) < 0
 | 0 => h
 | m + 1 => by have := room_neg h m; rw [<- Nat.add_assoc]; simp only [room]; omega
theorem room_nonneg {l : List Int} {n k : Nat} (h : 0 <= room l n) (hk : k <= n) : 0 <= room l k := by
 rcases Int.lt_or_le (room l k) 0 with c | c
 ·have := room_neg c (n - k)
  rw [show k + (n - k) = n by omega] at this; omega
 ·exact c
theorem room_le (l : List Int) : ∀ k, room l k ≤ 2 ^ k
  | 0 => by simp [room]
  | k + 1 => by have := room_le l k; have e : (2 : Int) ^ (k + 1) = 2 * 2 ^ k := by rw [Int.pow_succ]; omega
                simp only [room]; omega
theorem okL.fit {l : List Int} (h : okL l) {k : Nat} (hk : k + 1 <= 15) : nx l (k + 1) + cnt l (k + 1) <= 2 ^ (k + 1) := by
 have h1 := nx_room l k
 have h2 := room_nonneg h.room hk
 have h3 : ((nx l (k + 1) + cnt l (k + 1) : Nat) : Int) <= ((2 ^ (k + 1) : Nat) : Int) := by push_cast at *; omega
 exact Int.ofNat_le.1 h3
theorem nx_step (l : List Int) {n : Nat} (h : 1 <= n) : nx l (n + 1) = 2 * (nx l n + cnt l n) := by
 obtain ⟨k, rfl⟩ : ∃ k, n = k + 1 := ⟨n - 1, by omega⟩
 rfl
def cur (l : List Int) (n i : Nat) : Nat := nx l n + cnt (l.take i) n
theorem cur_succ {l : List Int} {n i : Nat} (h : i < l.length) : cur l n (i + 1) = cur l n i + if l[i] = (n : Int) then 1 else 0 := by
 unfold cur; rw [cnt_take_succ h]; omega
theorem okL.cur_lt {l : List Int} (h : okL l) {n i : Nat} (h1 : 1 <= n) (h2 : n <= 15) : cur l n i <= 2 ^ n := by
 obtain ⟨k, rfl⟩ : ∃ k, n = k + 1 := ⟨n - 1, by omega⟩
 have := h.fit h2
 have := cnt_take_all l i (k + 1)
 unfold cur; omega
theorem okL.cur_lt' {l : List Int} (h : okL l) {n i : Nat} (hi : i < l.length) (hn : l[i] = (n : Int)) (h1 : 1 <= n) (h2 : n <= 15) : cur l n i < 2 ^ n := by
 have := h.cur_lt (i := i + 1) h1 h2
 rw [cur_succ hi, if_pos hn] at this; omega
def codeAt (l : List Int) (i : Nat) : Nat := match l[i]? with
 | some x => if 0 < x then cur l x.toNat i else 0
 | none => 0
def codes (l : List Int) : List Int := (List.range l.length).map fun i => (codeAt l i : Int)
theorem length_codes (l : List Int) : (codes l).length = l.length := by simp [codes]
theorem codeAt_pos {l : List Int} {i n : Nat} (h : i < l.length) (hn : l[i] = (n : Int)) (h1 : 1 <= n) : codeAt l i = cur l n i := by
 unfold codeAt
 rw [List.getElem?_eq_getElem h]
 simp only
 rw [if_pos (by omega), hn, Int.toNat_natCast]
theorem codeAt_zero {l : List Int} {i : Nat} (h : i < l.length) (hn : l[i] <= 0) : codeAt l i = 0 := by
 unfold codeAt
 rw [List.getElem?_eq_getElem h]
 simp only
 rw [if_neg (by omega)]
def wk : List Int -> Nat -> Nat
 | [], _ => 0
 | x :: l, k => (if 0 < x /\ x <= k then 2 ^ (k - x.toNat) else 0) + wk l k
theorem wk_succ (k : Nat) : ∀ l : List Int, wk l (k + 1) = 2 * wk l k + cnt l (k + 1)
 | [] => by simp [wk, cnt]
 | x :: l => by
  have ih := wk_succ k l
  simp only [wk, cnt, ih]
  by_cases h : 0 < x /\ x <= k
  ·rw [if_pos h, if_pos ⟨h.1, by omega⟩, if_neg (by omega), show k + 1 - x.toNat = (k - x.toNat) + 1 by omega, Nat.pow_succ]; omega
  ·rw [if_neg h]
   by_cases h2 : x = ((k + 1 : Nat) : Int)
   ·rw [if_pos (by omega), if_pos h2, show k + 1 - x.toNat = 0 by omega]; omega
   ·rw [if_neg (by omega), if_neg h2]; omega
theorem wk_zero : ∀ l : List Int, wk l 0 = 0
 | [] => rfl
 | x :: l => by simp only [wk, wk_zero l]; rw [if_neg (by omega)]
theorem room_wk (l : List Int) : ∀ k, room l k = 2 ^ k - wk l k
 | 0 => by simp [room, wk_zero]
 | k + 1 => by
  have ih := room_wk l k
  have e : (2 : Int) ^ (k + 1) = 2 * 2 ^ k := by rw [Int.pow_succ]; omega
  rw [wk_succ, room, ih, e]; push_cast; omega
theorem okL_iff {l : List Int} : okL l ↔ l.length <= 320 /\ inL l /\ wk l 15 <= 32768 := by
 have := room_wk l 15
 have e : (2 : Int) ^ 15 = 32768 := by decide
 rw [e] at this
 exact ⟨fun h => ⟨h.len, h.ins, by have := h.room; omega⟩, fun ⟨a, b, c⟩ => ⟨a, b, by omega⟩⟩
theorem room0_iff {l : List Int} : room l 15 = 0 ↔ wk l 15 = 32768 := by
 have := room_wk l 15
 have e : (2 : Int) ^ 15 = 32768 := by decide
 rw [e] at this
 omega

theorem nx_up {l : List Int} {a : Nat} (ha : 1 <= a) : ∀ d, (nx l a + cnt l a) * 2 ^ (d + 1) <= nx l (a + (d + 1))
 | 0 => by rw [nx_step l ha]; omega
 | d + 1 => by
  have ih := nx_up (l := l) ha d
  rw [show a + (d + 1 + 1) = (a + (d + 1)) + 1 by omega, nx_step l (by omega), Nat.pow_succ]
  have : (nx l a + cnt l a) * (2 ^ (d + 1) * 2) = 2 * ((nx l a + cnt l a) * 2 ^ (d + 1)) := by rw [<- Nat.mul_assoc, Nat.mul_comm]
  rw [this]; omega
theorem apart {l : List Int} {i k a b : Nat} (hi : i < l.length) (hk : k < l.length) (hne : i ≠ k) (ha : l[i] = (a : Int)) (hb : l[k] = (b : Int)) (h1 : 1 <= a) (hab : a <= b) : codeAt l k / 2 ^ (b - a) ≠ codeAt l i := by
 rw [codeAt_pos hi ha h1, codeAt_pos hk hb (by omega)]
 have c1 : cur l a i < nx l a + cnt l a := by
  have := cnt_take_all l (i + 1) a
  rw [cnt_take_succ hi, if_pos ha] at this
  unfold cur; omega
 rcases Nat.lt_or_ge a b with h | h
 ·obtain ⟨d, rfl⟩ : ∃ d, b = a + (d + 1) := ⟨b - a - 1, by omega⟩
  have := nx_up (l := l) h1 d
  rw [show a + (d + 1) - a = d + 1 by omega]
  have c2 : nx l a + cnt l a <= cur l (a + (d + 1)) k / 2 ^ (d + 1) := (Nat.le_div_iff_mul_le (Nat.two_pow_pos _)).2 (Nat.le_trans this (by unfold cur; omega))
  omega
 ·obtain rfl : a = b := by omega
  rw [Nat.sub_self, Nat.pow_zero, Nat.div_one]
  unfold cur
  rcases Nat.lt_or_gt_of_ne hne with c | c
  ·have := cnt_take_le (l := l) (j := a) (show i + 1 <= k by omega)
   rw [cnt_take_succ hi, if_pos ha] at this; omega
  ·have := cnt_take_le (l := l) (j := a) (show k + 1 <= i by omega)
   rw [cnt_take_succ hk, if_pos hb] at this; omega
end Go.Proofs.YthoeeahdkdcceaaGreat.HM
namespace Go.Proofs.YthoeeahdkdcceaaGreat.HF
open Go Go.Proofs Sh Sl T HM
def A16 (f : Nat -> Int) : Array Value := An 16 f
theorem z16 : (#[.int .i64 0, .int .i64 0, .int .i64 0, .int .i64 0, .int .i64 0, .int .i64 0, .int .i64 0, .int .i64 0, .int .i64 0, .int .i64 0, .int .i64 0, .int .i64 0, .int .i64 0, .int .i64 0, .int .i64 0, .int .i64 0] : Array Value) = A16 fun _ => 0 := by rfl
theorem one16 {f : Nat -> Int} : ∀ u ∈ (A16 f).toList, u.oneCell' = true := by
 intro u hu
 simp only [A16, An] at hu
 obtain ⟨j, _, rfl⟩ := List.mem_map.1 hu
 rfl
theorem counts {W : World} {a : Option Addr} {cap : Nat} {l : List Int} {A : HP} (hr : RdB W A a l.length (l.map I)) (hl : l.length <= 4611686018427387904) :
  Cn p_ 135 [.slice a l.length cap] W [A] (fun f : Nat -> Int => .tuple #[.agg (A16 f), .bool (decide (okL l))]) (fun f => [pu ((okL l -> ∀ j, j < 16 -> f j = cnt l j) /\ ∀ j, 0 <= f j /\ f j <= 320), A]) := by
 (refine S.huff_counts_s.cn fun F => ?_; unfold S.huff_counts; simp only [ca_, na_])
 refine e_newA fun g => ?_; refine o_ v_len ?_
 rw [z16]
 have fin : ∀ (f : Nat -> Int) (b : Bool), b = decide (okL l) -> (okL l -> ∀ j, j < 16 -> f j = cnt l j) -> (∀ j, 0 <= f j /\ f j <= 320) -> Ent W (pt g (.cells (A16 f) 194 (0, 0)) :: A :: F) (opN p_ (sStore 194 (.pointer (some ⟨g, 0, none⟩)) (.agg (A16 f))) noP fun _ =>
   (stS p_ (sRes 194 (.pointer (some ⟨g, 0, none⟩))) fun r0 => fun w => ∃ x : Nat -> Int, (.tuple #[r0, (.bool b)] : Value) = .tuple #[.agg (A16 x), .bool (decide (okL l))] /\ sat W ([pu ((okL l -> ∀ j, j < 16 -> x j = cnt l j) /\ ∀ j, 0 <= x j /\ x j <= 320), A] ++ F) w)) := by
  intro f b hb h1 h2
  refine e_stAgg .here (An_size 16 f) (An_size 16 f) one16 ?_
  refine e_stS (v_resA (An_size 16 f)) (.pick .here .nil) ?_
  subst hb
  refine e_ret f rfl ?_
  exact .pu ⟨h1, h2⟩ (.drop .refl)
 refine e_ask v_gtr .nil (fun h => ?_) (fun h => ?_)
 ·(refine e_condT ?_); refine lg_ ?_
  refine fin _ _ (by rw [dF_ (fun c => by have := c.len; omega)]) (fun c => by have := c.len; omega) (fun j => by omega)
 refine e_condF (o_ v_len ?_)
 have hlen : l.length <= 320 := by omega
 refine e_loop1 (fun m y => [ex fun i : Nat => all [pu (m + i = l.length /\ y = .int .i64 (i : Int) /\ ∀ k (hk : k < l.length), k < i -> 0 <= l[k] /\ l[k] <= 15), pt g (.cells (A16 fun j => (cnt (l.take i) j : Int)) 194 (0, 0)), A]] ++ F) l.length ?_ ?_
 ·refine Imp.ex 0 (.all ?_)
  refine nr_ ?_
  exact .pu ⟨by omega, rfl, fun k hk h => by omega⟩ .refl
 intro m ds y
 refine nr_ ?_
 refine e_ex Pick.here fun i => e_all Pick.here ?_
 refine nr_ ?_
 refine e_pu Pick.here fun hi => ?_
 obtain ⟨hmi, rfl, hin⟩ := hi
 have hb320 : ∀ j, (0 : Int) <= (cnt (l.take i) j : Int) /\ (cnt (l.take i) j : Int) <= 320 := fun j => by
  have := cnt_le j (l.take i)
  rw [List.length_take] at this; omega
 refine e_ask v_lss .nil (fun h => ?_) (fun h => ?_)
 ·have hil : i < l.length := by omega
  obtain ⟨ga, oa, rfl, _⟩ := hr.at_ (by omega)
  refine e_condT (o_ (v_ia1 i (by rfl) hil) ?_)
  refine e_opN (v_ldRd hr (I_get hil)) (.pick (.there .here) .nil) ?_
  refine e_ask v_lss .nil (fun h => ?_) (fun h => ?_)
  ·(refine e_gdF1 ?_); refine e_gdF1 ?_; refine o_ v_pickT ?_; refine e_condT ?_; refine lg_ ?_
   exact fin _ _ (by rw [dF_ (fun c => by have := c.ins l[i] (List.getElem_mem hil); omega)]) (fun c => by have := c.ins l[i] (List.getElem_mem hil); omega) hb320
  have h0 := h
  refine e_gdT (e_gdT (e_ask v_gtr .nil (fun h => ?_) (fun h => ?_)))
  ·(refine o_ v_pickF ?_); refine e_condT ?_; refine lg_ ?_
   exact fin _ _ (by rw [dF_ (fun c => by have := c.ins l[i] (List.getElem_mem hil); omega)]) (fun c => by have := c.ins l[i] (List.getElem_mem hil); omega) hb320
  have h1 := h
  obtain ⟨x, hx⟩ := Int.eq_ofNat_of_zero_le (show 0 <= l[i] by omega)
  have hx15 : x < 16 := by omega
  refine o_ v_pickF (e_condF (o_ (v_iaA x hx hx15) ?_))
  rw [Nat.zero_add, Nat.mul_one]
  refine e_opN (v_ld (An_get hx15)) (.pick .here .nil) ?_
  refine o_ (v_add (by have := hb320 x; omega) (by have := hb320 x; omega)) ?_
  refine o_ (v_iaA x hx hx15) ?_
  rw [Nat.zero_add, Nat.mul_one]
  refine e_st .here (by rw [A16, An_size]; exact hx15) ?_
  refine ad_ ?_
  refine e_next1 (m - 1) (by omega) (.ex (i + 1) (.all ?_))
  refine nr_ ?_
  refine .pu ⟨by omega, by norm_cast, fun k hk hki => ?_⟩ ?_
  ·by_cases c : k = i
   ·subst c; omega
   ·exact hin k hk (by omega)
  ·have e : (A16 fun j => (cnt (l.take i) j : Int)).setIfInBounds x (.int .i64 ((cnt (l.take i) x : Int) + 1)) = A16 fun j => (cnt (l.take (i + 1)) j : Int) := by
    refine An_set.trans (An_congr fun j hj => ?_)
    rw [cnt_take_succ hil]
    by_cases c : j = x
    ·subst c; rw [if_pos rfl, if_pos hx]; push_cast; rfl
    ·rw [if_neg c, if_neg (by omega)]; simp
   rw [e]
   exact im_
 ·have hie : i = l.length := by omega
  subst hie
  rw [List.take_length]
  rw [List.take_length] at hb320
  have hins : inL l := fun x hx => by
   obtain ⟨k, hk, rfl⟩ := List.mem_iff_getElem.1 hx
   exact hin k hk (by omega)
  refine e_condF (o_ (v_slA (l := 1) (by rfl) (by omega)) ?_)
  refine o_ v_len ?_
  have hrd : RdB W (pt g (.cells (A16 fun j => (cnt l j : Int)) 194 (0, 0))) (some ⟨g, 1 * 1, none⟩) 15 ((List.range 15).map fun j => I (cnt l (1 + j))) := rd_cut (n := 16) (f := fun j => (cnt l j : Int)) (rd_pt (by simp)) (by omega)
  refine e_loop2 (fun m x y => [all [pu (∃ i : Nat, m + i = 15 /\ i <= 15 /\ y = .int .i64 (i : Int) /\ x = .int .i64 (room l i) /\ ∀ k, k <= i -> 0 <= room l k), pt g (.cells (A16 fun j => (cnt l j : Int)) 194 (0, 0)), A]] ++ F) 15 ?_ ?_
  ·refine Imp.all ?_
   refine nr_ ?_
   exact .pu ⟨0, by omega, by omega, rfl, rfl, fun k hk => by rw [show k = 0 by omega]; simp [room]⟩ .refl
  intro m ds x y
  refine nr_ ?_
  refine e_all Pick.here ?_
  refine nr_ ?_
  refine e_pu Pick.here fun hi => ?_
  obtain ⟨i, hmi, hi15, rfl, rfl, hrm⟩ := hi
  have hr0 := hrm i (Nat.le_refl _)
  have hr1 := room_le l i
  have h2i : (2 : Int) ^ i <= 32768 := by
   have h1 : (2 : Nat) ^ i <= 32768 := Nat.le_trans (Nat.pow_le_pow_right (by omega) hi15) (by decide)
   have h2 : ((2 ^ i : Nat) : Int) = 2 ^ i := Int.natCast_pow 2 i
   omega
  refine e_ask v_lss .nil (fun h => ?_) (fun h => ?_)
  ·have hi14 : i < 15 := by omega
   refine e_condT (o_ (v_ia1 i (by rfl) (by omega)) ?_)
   refine e_opN (v_ldRd hrd (v := I (cnt l (1 + i))) (by rw [List.getElem?_map, List.getElem?_range hi14]; rfl)) (.pick .here .nil) ?_
   have hc := hb320 (1 + i)
   (refine o_ (v_mul (by omega) (by omega)) ?_); refine sb_ ?_
   have hroom : 2 * room l i - (cnt l (1 + i) : Int) = room l (i + 1) := by rw [room, Nat.add_comm 1 i]
   rw [hroom]
   refine e_ask v_lss .nil (fun h => ?_) (fun h => ?_)
   ·(refine e_condT ?_); refine lg_ ?_
    exact fin _ _ (by rw [dF_ (fun c => by have := room_nonneg c.room (show i + 1 <= 15 by omega); omega)]) (fun _ j _ => rfl) hb320
   ·refine e_condF (ad_ ?_)
    refine e_next2 (m - 1) (by omega) (.all ?_)
    refine nr_ ?_
    refine .pu ⟨i + 1, by omega, by omega, by norm_cast, rfl, fun k hk => ?_⟩ .refl
    by_cases c : k = i + 1
    ·subst c; omega
    ·exact hrm k (by omega)
  ·have hie : i = 15 := by omega
   subst hie
   refine e_condF (lg_ ?_)
   exact fin _ _ (by rw [dT_ ⟨hlen, hins, hr0⟩]) (fun _ j _ => rfl) hb320
def Ln (n : Nat) (f : Nat -> Int) : List Value := (List.range n).map fun j => I (f j)
theorem Ln_len (n : Nat) (f : Nat -> Int) : (Ln n f).length = n := by simp [Ln]
theorem Ln_get {n j : Nat} {f : Nat -> Int} (h : j < n) : (Ln n f)[j]? = some (I (f j)) := by simp [Ln, h]
theorem Ln_ext {n : Nat} {f : Nat -> Int} {m : List Value} (hm : m.length = n) (h : ∀ j, j < n -> m[j]? = some (I (f j))) : Ln n f = m := by
 apply List.ext_getElem?
 intro j
 by_cases c : j < n
 ·rw [Ln_get c, h j c]
 ·rw [List.getElem?_eq_none (by rw [Ln_len]; omega), List.getElem?_eq_none (by omega)]
theorem Ln_congr {n : Nat} {f g : Nat -> Int} (h : ∀ j, j < n -> f j = g j) : Ln n f = Ln n g := Ln_ext (Ln_len n g) fun j hj => by rw [Ln_get hj, h j hj]
theorem Ln_set {n j : Nat} {f : Nat -> Int} {v : Int} : (Ln n f).set j (I v) = Ln n fun i => if i = j then v else f i := by
 refine (Ln_ext (by simp [Ln_len]) fun i hi => ?_).symm
 rw [List.getElem?_set, Ln_len]
 by_cases c : j = i
 ·subst c; simp [hi]
 ·rw [if_neg c, Ln_get hi, if_neg (fun e => c e.symm)]
theorem Ln_zero (n : Nat) : List.replicate n (.int .i64 0) = Ln n fun _ => 0 := (Ln_ext (by simp) fun j hj => by rw [List.getElem?_replicate, if_pos hj]; rfl).symm
def cdR (l : List Int) : Int := if okL l then 0 else 30
def cdL (l : List Int) : List Int := if okL l then codes l else []
theorem Ln_codes (l : List Int) : Ln l.length (fun k => if k < l.length then (codeAt l k : Int) else 0) = (codes l).map I := Ln_ext (by rw [List.length_map, length_codes]) fun j hj => by
 rw [if_pos hj, List.getElem?_map, codes, List.getElem?_map, List.getElem?_range hj]; rfl
theorem pow15 {i : Nat} (h : i <= 15) : (2 : Nat) ^ i <= 32768 := Nat.le_trans (Nat.pow_le_pow_right (by omega) h) (by decide)
theorem nx_small {l : List Int} (h : okL l) {k : Nat} (hk : k <= 15) : nx l k <= 32768 := by
 match k, hk with
 | 0, _ => simp [nx]
 | k + 1, hk => have := h.fit hk; have := pow15 hk; omega
theorem codes_ {W : World} {a : Option Addr} {cap : Nat} {l : List Int} {A : HP} (hr : RdB W A a l.length (l.map I)) (hl : l.length <= 4611686018427387904) :
  Cn p_ 106 [.slice a l.length cap] W [A] (fun q : Option Addr × Nat => .tuple #[.slice q.1 (cdL l).length q.2, .int .i64 (cdR l)]) (fun q => [Sl 1 3 q.1 q.2 (cdL l).length ((cdL l).map I), A]) := by
 (refine S.huff_Codes_s.cn fun F => ?_; unfold S.huff_Codes; simp only [ca_, na_])
 refine c_ (counts hr hl) fun _ => ?_
 rename_i f
 refine e_pu Pick.here fun hf => ?_
 obtain ⟨hf1, hf2⟩ := hf
 refine o_ (v_ext (v := .agg (A16 f)) rfl) ?_
 refine o_ (v_ext (v := .bool (decide (okL l))) rfl) ?_
 refine e_newA fun g => ?_
 refine e_stAgg .here (by rfl) (An_size 16 f) one16 ?_
 by_cases hok : ¬ okL l
 ·rw [dF_ hok]
  have hR : cdR l = 30 := by simp [cdR, hok]
  have hB : cdL l = [] := by simp [cdL, hok]
  rw [hR, hB]
  refine o_ v_notF (e_condT (rt_ ((none, 0)) ?_))
  refine imp_nil ?_
  exact im_
 have hok := Decidable.not_not.1 hok
 rw [dT_ hok]
 have hR : cdR l = 0 := by simp [cdR, hok]
 have hB : cdL l = codes l := by simp [cdL, hok]
 have hlen := hok.len
 have hcl := length_codes l
 rw [hR, hB]
 have hf := hf1 hok
 refine o_ v_not (e_condF (o_ (v_iaA 0 (by rfl) (by omega)) ?_))
 refine e_st .here (by rw [A16, An_size]; omega) ?_
 rw [show (A16 f).setIfInBounds (0 + 0 * 1) (.int .i64 0) = A16 (fun j => if j = 0 then 0 else (cnt l j : Int)) from An_set.trans (An_congr fun j hj => by
  by_cases c : j = 0
  ·rw [if_pos c, if_pos c]
  ·rw [if_neg c, if_neg c, hf j hj])]
 refine e_newA fun g2 => ?_
 rw [z16]
 refine e_loop1 (fun m y => [ex fun i : Nat => all [pu (m + i = 16 /\ 1 <= i /\ y = .int .i64 (i : Int)), pt g2 (.cells (A16 fun j => if j < i then (nx l j : Int) else 0) 194 (0, 0)), pt g (.cells (A16 fun j => if j = 0 then 0 else (cnt l j : Int)) 194 (0, 0)), A]] ++ F) 15 ?_ ?_
 ·refine Imp.ex 1 (.all ?_)
  refine nr_ ?_
  refine .pu ⟨by omega, by omega, rfl⟩ ?_
  rw [show A16 (fun j => if j < 1 then (nx l j : Int) else 0) = A16 (fun _ => 0) from An_congr fun j hj => by
   by_cases c : j < 1
   ·rw [if_pos c, show j = 0 by omega]; simp [nx]
   ·rw [if_neg c]]
  exact im_
 ·intro m ds y
  refine nr_ ?_
  refine e_ex Pick.here fun i => e_all Pick.here ?_
  refine nr_ ?_
  refine e_pu Pick.here fun hi => ?_
  obtain ⟨hmi, hi1, rfl⟩ := hi
  refine e_ask v_leq .nil (fun h => ?_) (fun h => ?_)
  ·have hi15 : i <= 15 := by omega
   obtain ⟨k, rfl⟩ : ∃ k, i = k + 1 := ⟨i - 1, by omega⟩
   have hk1 := nx_small hok (show k <= 15 by omega)
   have hk2 := nx_small hok hi15
   have hk3 := cnt_le k l
   refine e_condT (e_drS ?_); (refine t_ (v_sub (by omega) (by omega)) ?_)
   refine t_ (v_iaA k (by omega) (by omega)) ?_
   refine e_stS (v_ld (v := I (nx l k)) (by rw [Nat.zero_add, Nat.mul_one, A16, An_get (by omega), if_pos (by omega)])) (.pick .here .nil) ?_
   (refine t_ (v_sub (by omega) (by omega)) ?_)
   refine t_ (v_iaA k (by omega) (by omega)) ?_
   refine e_stS (v_ld (v := I (if k = 0 then 0 else (cnt l k : Int))) (by rw [Nat.zero_add, Nat.mul_one, A16, An_get (by omega)])) (.pick (.there .here) .nil) ?_
   have hs : ((nx l k : Int) + (if k = 0 then 0 else (cnt l k : Int))) * 2 = (nx l (k + 1) : Int) := by
    match k with
    | 0 => simp [nx]
    | k + 1 => rw [if_neg (by omega), nx]; push_cast; omega
   obtain ⟨c, hc⟩ : ∃ c, c = (if k = 0 then 0 else (cnt l k : Int)) := ⟨_, rfl⟩
   rw [<- hc] at hs ⊢
   refine t_ (v_add (by omega) (by omega)) ?_
   refine t_ (v_shl (by omega)) ?_
   rw [show ((nx l k : Int) + c) * 2 ^ (min ((1 : Int)).toNat IntKind.i64.bits) = (nx l (k + 1) : Int) by rw [<- hs]; rfl, w64 (by omega) (by omega)]
   refine t_ (v_iaA (k + 1) (by norm_cast) (by omega)) ?_
   refine e_st .here (by rw [A16, An_size]; omega) ?_
   rw [show (A16 fun j => if j < k + 1 then (nx l j : Int) else 0).setIfInBounds (0 + (k + 1) * 1) (.int .i64 (nx l (k + 1) : Int)) = A16 (fun j => if j < k + 1 + 1 then (nx l j : Int) else 0) from by
    rw [Nat.zero_add, Nat.mul_one]
    refine An_set.trans (An_congr fun j hj => ?_)
    by_cases e : j = k + 1
    ·subst e; rw [if_pos rfl, if_pos (by omega)]
    ·rw [if_neg e]
     by_cases e2 : j < k + 1
     ·rw [if_pos e2, if_pos (by omega)]
     ·rw [if_neg e2, if_neg (by omega)]]
   refine ad_ ?_
   refine e_next1 (m - 1) (by omega) (.ex (k + 1 + 1) (.all ?_))
   refine nr_ ?_
   exact .pu ⟨by omega, by omega, by norm_cast⟩ .refl
  ·have : i = 16 := by omega
   subst this
   refine e_condF (o_ v_len (e_mksl l.length l.length (by rfl) (by rfl) (by omega) (by omega) (by unfold maxLen; omega) fun g3 => ?_))
   rw [Ln_zero]
   refine o_ v_len (e_loop1 (fun m y => [ex fun i : Nat => all [pu (m + i = l.length /\ y = .int .i64 (i : Int)), Sl 1 3 (some ⟨g3, 0, none⟩) l.length l.length (Ln l.length fun k => if k < i then (codeAt l k : Int) else 0), pt g2 (.cells (A16 fun j => if j = 0 then 0 else (cur l j i : Int)) 194 (0, 0)), A]] ++ F) l.length ?_ ?_)
   ·refine Imp.ex 0 (.all ?_)
    refine nr_ ?_
    refine .pu ⟨by omega, rfl⟩ ?_
    rw [show A16 (fun j => if j = 0 then 0 else (cur l j 0 : Int)) = A16 (fun j => if j < 16 then (nx l j : Int) else 0) from An_congr fun j hj => by
     rw [if_pos hj]
     by_cases c : j = 0
     ·rw [if_pos c, c]; simp [nx]
     ·rw [if_neg c]; simp [cur, cnt]]
    exact im_
   ·intro m ds y
    refine nr_ ?_
    refine e_ex Pick.here fun i => e_all Pick.here ?_
    refine nr_ ?_
    refine e_pu Pick.here fun hi => ?_
    obtain ⟨hmi, rfl⟩ := hi
    refine e_ask v_lss .nil (fun h => ?_) (fun h => ?_)
    ·have hil : i < l.length := by omega
     obtain ⟨ga, oa, rfl, _⟩ := hr.at_ (by omega)
     refine e_condT (o_ (v_ia1 i (by rfl) hil) ?_)
     refine e_opN (v_ldRd hr (I_get hil)) (.pick (.there (.there .here)) .nil) ?_
     have hin := hok.ins l[i] (List.getElem_mem hil)
     refine e_ask v_gtr .nil (fun h => ?_) (fun h => ?_)
     ·obtain ⟨x, hx⟩ := Int.eq_ofNat_of_zero_le (show 0 <= l[i] by omega)
      have hx15 : x < 16 := by omega
      have hcu := hok.cur_lt' hil hx (by omega) (by omega)
      have h15 := pow15 (show x <= 15 by omega)
      refine e_condT (o_ (v_iaA x hx hx15) ?_)
      refine e_opN (v_ld (v := I (cur l x i)) (by rw [Nat.zero_add, Nat.mul_one, A16, An_get hx15, if_neg (by omega)])) (.pick (.there .here) .nil) ?_
      refine o_ (v_ia1 i (by rfl) hil) ?_
      refine e_stSl .here (by rw [Ln_len]; omega) ?_
      rw [show (Ln l.length fun k => if k < i then (codeAt l k : Int) else 0).set (0 + i) (I (cur l x i)) = Ln l.length (fun k => if k < i + 1 then (codeAt l k : Int) else 0) from by
       rw [Nat.zero_add]
       refine Ln_set.trans (Ln_congr fun j hj => ?_)
       by_cases e : j = i
       ·subst e; rw [if_pos rfl, if_pos (by omega), codeAt_pos hil hx (by omega)]
       ·rw [if_neg e]
        by_cases e2 : j < i
        ·rw [if_pos e2, if_pos (by omega)]
        ·rw [if_neg e2, if_neg (by omega)]]
      refine o_ (v_iaA x hx hx15) ?_
      refine e_opN (v_ld (v := I (cur l x i)) (by rw [Nat.zero_add, Nat.mul_one, A16, An_get hx15, if_neg (by omega)])) (.pick (.there .here) .nil) ?_
      refine ad_ ?_
      refine o_ (v_iaA x hx hx15) ?_
      refine e_st (.there .here) (by rw [A16, An_size]; omega) ?_
      rw [show (A16 fun j => if j = 0 then 0 else (cur l j i : Int)).setIfInBounds (0 + x * 1) (.int .i64 ((cur l x i : Int) + 1)) = A16 (fun j => if j = 0 then 0 else (cur l j (i + 1) : Int)) from by
       rw [Nat.zero_add, Nat.mul_one]
       refine An_set.trans (An_congr fun j hj => ?_)
       rw [cur_succ hil]
       by_cases e : j = x
       ·subst e; rw [if_pos rfl, if_neg (by omega), if_pos hx]; push_cast; rfl
       ·rw [if_neg e, if_neg (show ¬ l[i] = (j : Int) by omega)]; simp]
      refine ad_ ?_
      refine e_next1 (m - 1) (by omega) (.ex (i + 1) (.all ?_))
      refine nr_ ?_
      refine .pu ⟨by omega, by norm_cast⟩ ?_
      exact im_
     ·(refine e_condF ?_); refine ad_ ?_
      refine e_next1 (m - 1) (by omega) (.ex (i + 1) (.all ?_))
      refine nr_ ?_
      refine .pu ⟨by omega, by norm_cast⟩ ?_
      rw [show (Ln l.length fun k => if k < i + 1 then (codeAt l k : Int) else 0) = Ln l.length (fun k => if k < i then (codeAt l k : Int) else 0) from Ln_congr fun j hj => by
       by_cases e : j = i
       ·subst e; rw [if_pos (by omega), if_neg (by omega), codeAt_zero hil (by omega)]; rfl
       ·by_cases e2 : j < i
        ·rw [if_pos e2, if_pos (by omega)]
        ·rw [if_neg e2, if_neg (by omega)]]
      rw [show A16 (fun j => if j = 0 then 0 else (cur l j (i + 1) : Int)) = A16 (fun j => if j = 0 then 0 else (cur l j i : Int)) from An_congr fun j hj => by
       by_cases e : j = 0
       ·rw [if_pos e, if_pos e]
       ·rw [if_neg e, if_neg e, cur_succ hil, if_neg (by omega)]; simp]
      exact im_
    ·have : i = l.length := by omega
     subst this
     refine e_condF ?_
     rw [Ln_codes]
     refine e_ret (some ⟨g3, 0, none⟩, l.length) (by rw [hcl]) ?_
     rw [hcl]
     exact im_
def rm (f : Nat -> Int) : Nat -> Int
 | 0 => 1
 | k + 1 => 2 * rm f k - f (k + 1)
theorem rm_room {l : List Int} {f : Nat -> Int} (h : ∀ j, j < 16 -> f j = cnt l j) : ∀ k, k <= 15 -> rm f k = room l k
 | 0, _ => rfl
 | k + 1, hk => by rw [rm, room, rm_room h k (by omega), h (k + 1) (by omega)]
theorem rm_bound {f : Nat -> Int} (h : ∀ j, 0 <= f j /\ f j <= 320) : ∀ k, rm f k <= (2 ^ k : Nat) /\ -(320 * ((2 ^ k : Nat) : Int)) <= rm f k - 320
 | 0 => by simp [rm]
 | k + 1 => by
  have ih := rm_bound h k
  have hf := h (k + 1)
  have e : (2 : Nat) ^ (k + 1) = 2 * 2 ^ k := by rw [Nat.pow_succ]; omega
  rw [e, rm]
  push_cast
  push_cast at ih
  omega
def fullB (l : List Int) : Bool := decide (okL l) && decide (wk l 15 = 32768)
theorem full {W : World} {a : Option Addr} {cap : Nat} {l : List Int} {A : HP} (hr : RdB W A a l.length (l.map I)) (hl : l.length <= 4611686018427387904) :
  Cn p_ 158 [.slice a l.length cap] W [A] (fun _ : Unit => .bool (fullB l)) (fun _ => [A]) := by
 (refine S.huff_Full_s.cn fun F => ?_; unfold S.huff_Full; simp only [ca_, na_])
 refine c_ (counts hr hl) fun _ => ?_
 rename_i f
 refine e_pu Pick.here fun hf => ?_
 obtain ⟨hf1, hf2⟩ := hf
 refine o_ (v_ext (v := .agg (A16 f)) rfl) ?_
 refine o_ (v_ext (v := .bool (decide (okL l))) rfl) ?_
 refine e_newA fun g => ?_
 refine e_stAgg .here (by rfl) (An_size 16 f) one16 ?_
 refine o_ (v_slA (l := 1) (by rfl) (by omega)) ?_
 refine o_ v_len ?_
 have hrd : RdB W (pt g (.cells (A16 f) 194 (0, 0))) (some ⟨g, 1 * 1, none⟩) 15 ((List.range 15).map fun j => I (f (1 + j))) := rd_cut (n := 16) (f := f) (rd_pt (by simp)) (by omega)
 refine e_loop2 (fun m x y => [all [pu (∃ i : Nat, m + i = 15 /\ i <= 15 /\ y = .int .i64 (i : Int) /\ x = .int .i64 (rm f i)), pt g (.cells (A16 f) 194 (0, 0)), A]] ++ F) 15 ?_ ?_
 ·refine Imp.all ?_
  refine nr_ ?_
  exact .pu ⟨0, by omega, by omega, rfl, rfl⟩ .refl
 intro m ds x y
 refine nr_ ?_
 refine e_all Pick.here ?_
 refine nr_ ?_
 refine e_pu Pick.here fun hi => ?_
 obtain ⟨i, hmi, hi15, rfl, rfl⟩ := hi
 have hb := rm_bound hf2 i
 have h15 := pow15 hi15
 refine e_ask v_lss .nil (fun h => ?_) (fun h => ?_)
 ·have hi14 : i < 15 := by omega
  refine e_condT (o_ (v_ia1 i (by rfl) (by omega)) ?_)
  refine e_opN (v_ldRd hrd (v := I (f (1 + i))) (by rw [List.getElem?_map, List.getElem?_range hi14]; rfl)) (.pick .here .nil) ?_
  have hc := hf2 (1 + i)
  (refine o_ (v_mul (by omega) (by omega)) ?_); refine sb_ ?_; refine ad_ ?_
  refine e_next2 (m - 1) (by omega) (.all ?_)
  refine nr_ ?_
  exact .pu ⟨i + 1, by omega, by omega, by norm_cast, by rw [rm, Nat.add_comm 1 i]⟩ .refl
 ·have hie : i = 15 := by omega
  subst hie
  refine e_condF ?_
  by_cases hok : okL l
  ·have hrr := rm_room (hf1 hok) 15 (by omega)
   rw [dT_ hok]
   refine e_gdT (e_gdT (o_ v_eql ?_))
   rw [show decide (rm f 15 = 0) = fullB l by unfold fullB; rw [dT_ hok, Bool.true_and]; exact decide_eq_decide.2 (by rw [hrr]; exact room0_iff)]
   refine o_ v_pickT (rt_ () ?_)
   exact im_
  ·rw [dF_ hok]
   refine e_gdF2 (e_gdF2 (o_ v_pickF ?_))
   rw [show fullB l = false by unfold fullB; rw [dF_ hok, Bool.false_and]]
   refine rt_ () ?_
   exact im_
theorem wrapu64' {n : Int} (h0 : 0 <= n) (h : n < 18446744073709551616) : IntKind.u64.wrap n = n := by
 obtain ⟨N, rfl⟩ := Int.eq_ofNat_of_zero_le h0
 simp only [IntKind.wrap, IntKind.bits, IntKind.signed]
 simp; omega
theorem shl64 {a : Int} {k : Nat} (hk : k <= 32) (h0 : 0 <= a) (h : a <= 65536) : IntKind.i64.wrap (a * 2 ^ (min ((k : Int)).toNat IntKind.i64.bits)) = a * ((2 ^ k : Nat) : Int) := by
 have h2 : (2 : Nat) ^ k <= 2 ^ 32 := Nat.pow_le_pow_right (by omega) hk
 have e : (2 : Nat) ^ 32 = 4294967296 := by decide
 rw [show min ((k : Int)).toNat IntKind.i64.bits = k by simp only [IntKind.bits, Int.toNat_natCast]; omega, show (2 : Int) ^ k = ((2 ^ k : Nat) : Int) from (Int.natCast_pow 2 k).symm]
 obtain ⟨E, hE⟩ : ∃ E : Nat, E = 2 ^ k := ⟨_, rfl⟩
 rw [<- hE] at h2 ⊢
 have h3 : a * (E : Int) <= 65536 * 4294967296 := Int.mul_le_mul h (by omega) (by omega) (by omega)
 have h4 : 0 <= a * (E : Int) := Int.mul_nonneg h0 (by omega)
 exact w64 (by omega) (by omega)
end Go.Proofs.YthoeeahdkdcceaaGreat.HF
namespace Go.Proofs.YthoeeahdkdcceaaGreat.Sl
open Go Go.RowKit Sh
variable {P : Program} {W : World} {L L' : List HP} {Kp : PK} {k : Value -> WP}
variable {κ : Type} [DecidableEq κ] {enc : κ -> Value} {t kt : TypeId}
theorem setM_keys (q : κ) (v : Value) : ∀ m : List (κ × Value), (m.map (·.1)).Nodup -> ((setM q v m).map (·.1)).Nodup /\ ∀ x, x ∈ (setM q v m).map (·.1) -> x = q \/ x ∈ m.map (·.1)
 | [], _ => by simp [setM]
 | p :: m, h => by
  rw [List.map_cons, List.nodup_cons] at h
  have ih := setM_keys q v m h.2
  unfold setM
  by_cases c : q = p.1
  ·rw [if_pos c]
   refine ⟨by rw [List.map_cons, List.nodup_cons]; exact h, fun x hx => .inr hx⟩
  ·rw [if_neg c]
   refine ⟨?_, fun x hx => ?_⟩
   ·rw [List.map_cons, List.nodup_cons]
    refine ⟨fun hx => ?_, ih.1⟩
    rcases ih.2 _ hx with e | e
    ·exact c e.symm
    ·exact h.1 e
   ·rw [List.map_cons, List.mem_cons] at hx
    rcases hx with e | e
    ·exact .inr (by rw [List.map_cons, e]; exact List.mem_cons_self ..)
    ·rcases ih.2 _ e with e | e
     ·exact .inl e
     ·exact .inr (by rw [List.map_cons]; exact List.mem_cons_of_mem _ e)
def MapFn (g : Nat) (enc : κ -> Value) (f : κ -> Option Value) : HP := ex fun m => all [pu ((m.map (·.1)).Nodup /\ ∀ q, getM q m = f q), MapIs g enc m]
def updM (f : κ -> Option Value) (q : κ) (v : Option Value) : κ -> Option Value := fun x => if x = q then v else f x
theorem e_mf {g : Nat} {f : κ -> Option Value} {S : WP} (p : Pick L (MapFn g enc f) L') (h : ∀ m, (m.map (·.1)).Nodup -> (∀ q, getM q m = f q) -> Ent W (MapIs g enc m :: L') S) : Ent W L S := by
 refine e_ex p fun m => e_all .here ?_
 refine e_pu .here fun hm => h m hm.1 hm.2
theorem imp_mf {g : Nat} {f : κ -> Option Value} {M : List HP} {m : List (κ × Value)} (p : Pick L (MapIs g enc m) L') (h1 : (m.map (·.1)).Nodup) (h2 : ∀ q, getM q m = f q) (h : Imp W L' M) : Imp W L (MapFn g enc f :: M) :=
 .ex m (.all (.pu ⟨h1, h2⟩ (.pick p h)))
theorem e_mkF {e : TypeId} (enc : κ -> Value) [ht : MapT P t kt e] (h : ∀ g, Ent W (MapFn g enc (fun _ => none) :: L) (k (.map (some g)))) : Ent W L (opN P (sMkMap t none) Kp k) :=
 e_mkmap enc fun g => e_imp (imp_mf .here (by simp) (fun q => by simp [getM, fnd]) .refl) (h g)
theorem v_eqMap {P : Program} {W : World} {t kt e : TypeId} {ox oy : Operand} {g : Nat} [ht : MapT P t kt e] : RunV P W [] (sEq .eql t ox oy (.map (some g)) (.map none)) (.bool false) := fun w _ => by
 have h : (Op.equal t (.map (some g)) (.map none)).run P w = .ok false w := by
  unfold Op.equal Op.maxDepth Op.equalIn
  simp only [Sem.run_bind, run_underlying ht.ut, Result.andThen_ok]
  rfl
 simp [sEq, sv, eqGuard, binOp, h, Result.andThen]
end Go.Proofs.YthoeeahdkdcceaaGreat.Sl
namespace Go.Proofs.YthoeeahdkdcceaaGreat.HF
open Go Go.Proofs Go.RowKit Sh Sl T HM B M
def encC (p : Int × Int) : Value := .agg #[.int .i64 p.1, .int .i64 p.2]
theorem keyC : KeyLaw p_ 241 encC where
 check := fun b k w => by
  unfold encC Instr.checkKey
  simp only [Sem.run_bind, Tryz.runUnderlying241, Result.andThen_ok]
  have hk : ∀ (v : Int) (w : World), (Instr.checkKey b 9999 3 (.int .i64 v)).run p_ w = .ok () w := fun v w => MapKept.run_checkKey (n := 9998) (d := .int .i64) (by kernel_rfl) (by simp [MapKept.IsKey]) b
  simp [part, Tryz.isAgg3, hk, Result.andThen]
 eq := fun k k' w => by
  have hs : p_.stoodInHeld 241 = false := by kernel_rfl
  unfold encC Op.equal Op.maxDepth Op.equalIn
  have hp : (program).run p_ w = .ok p_ w := rfl
  simp only [Sem.run_bind, Tryz.runUnderlying241, Result.andThen_ok, hp, hs]
  have he : ∀ (a b : Int) (w : World), (Op.equalIn 9999 3 (.int .i64 a) (.int .i64 b)).run p_ w = .ok (a == b) w := fun a b w => run_equalIn_int w 9998 3 .i64 .i64 a b (by kernel_rfl)
  obtain ⟨k1, k2⟩ := k
  obtain ⟨l1, l2⟩ := k'
  simp [part, Tryz.isAgg3, he, Result.andThen]
  by_cases h1 : k1 = l1
  ·subst h1
   by_cases h2 : k2 = l2
   ·subst h2
    simp [Tryz.isAgg3, he, Result.andThen]
   ·simp [Tryz.isAgg3, he, Result.andThen, h2]
  ·simp [h1, Result.andThen]
 now := ⟨.struct (p_.fieldsOf 241), by kernel_rfl, fun k k' => .inl rfl⟩
 same := fun k => by
  unfold encC Instr.sameBits
  simp [Instr.sameBits]
def fL (l : List Int) (n c : Int) : Nat -> Option Nat
 | 0 => none
 | k + 1 => match fL l n c k with
  | some j => some j
  | none => if 0 < n /\ l[k]? = some n /\ (codeAt l k : Int) = c then some k else none
theorem fL_sound {l : List Int} {n c : Int} : ∀ {k j : Nat}, fL l n c k = some j -> j < k /\ 0 < n /\ l[j]? = some n /\ (codeAt l j : Int) = c
 | 0, j, h => by cases h
 | k + 1, j, h => by
  unfold fL at h
  cases hk : fL l n c k with
  | some i =>
   rw [hk] at h
   have := Option.some.inj h
   subst this
   obtain ⟨h1, h2⟩ := fL_sound hk
   exact ⟨by omega, h2⟩
  | none =>
   rw [hk] at h
   simp only at h
   by_cases hc : 0 < n /\ l[k]? = some n /\ (codeAt l k : Int) = c
   ·rw [if_pos hc] at h
    have := Option.some.inj h
    subst this
    exact ⟨by omega, hc⟩
   ·rw [if_neg hc] at h; cases h
theorem fL_none {l : List Int} {n c : Int} : ∀ {k : Nat}, fL l n c k = none -> ∀ j, j < k -> ¬ (0 < n /\ l[j]? = some n /\ (codeAt l j : Int) = c)
 | 0, h, j, hj => by omega
 | k + 1, h, j, hj => by
  unfold fL at h
  cases hk : fL l n c k with
  | some i => rw [hk] at h; cases h
  | none =>
   rw [hk] at h
   simp only at h
   by_cases c1 : j = k
   ·subst c1
    intro hc
    rw [if_pos hc] at h; cases h
   ·exact fL_none hk j (by omega)
theorem fL_apart {l : List Int} (hin : inL l) {k : Nat} (hk : k < l.length) (hp : 0 < l[k]) : fL l l[k] (codeAt l k) k = none := by
 cases h : fL l l[k] (codeAt l k) k with
 | none => rfl
 | some j =>
  obtain ⟨h1, h2, h3, h4⟩ := fL_sound h
  obtain ⟨n, hn⟩ := Int.eq_ofNat_of_zero_le (show 0 <= l[k] by omega)
  have hj : j < l.length := by omega
  rw [List.getElem?_eq_getElem hj] at h3
  have h3 := Option.some.inj h3
  have := apart hj hk (by omega) (h3.trans hn) hn (by omega) (Nat.le_refl n)
  rw [Nat.sub_self, Nat.pow_zero, Nat.div_one] at this
  exact absurd (by exact_mod_cast h4.symm) this
def pos (l : List Int) : Prop := ∃ x ∈ l, 0 < x
instance (l : List Int) : Decidable (pos l) := by unfold pos; infer_instance
structure DecOK (l : List Int) (i : Nat) (m : List ((Int × Int) × Value)) : Prop where
 get : ∀ n c, getM (n, c) m = (fL l n c i).map fun j : Nat => Value.int .i64 (j : Int)
 emp : m = [] ↔ ¬ ∃ k, k < i /\ ∃ x, l[k]? = some x /\ 0 < x
def IsDec (p : Nat) (l : List Int) : HP := ex fun g : Nat => ex fun m : List ((Int × Int) × Value) => all [pt p (.cells #[.map (some g)] 239), MapIs g encC m, pu (DecOK l l.length m)]
section
variable {W : World} {A : HP} {a : Option Addr} {cap : Nat} {l : List Int}
theorem newDec (hr : RdB W A a l.length (l.map I)) (hok : okL l) :
  Cn p_ 168 [.slice a l.length cap] W [A] (fun p : Nat => .tuple #[.pointer (some ⟨p, 0, none⟩), .int .i64 0]) (fun p => [IsDec p l, A]) := by
 (refine S.huff_NewDecoder_s.cn fun F => ?_; unfold S.huff_NewDecoder; simp only [ca_, na_])
 have hlen := hok.len
 have hR : cdR l = 0 := by simp [cdR, hok]
 have hB : cdL l = codes l := by simp [cdL, hok]
 have hcl := length_codes l
 refine c_ (codes_ hr (by omega)) fun _ => ?_
 rename_i q
 obtain ⟨qa, qc⟩ := q
 rw [hR, hB, hcl]
 (try dsimp only)
 refine xt_ ?_; refine xt_ ?_
 refine o_ v_neq ?_
 rw [dF_ (by omega)]
 refine e_condF (e_mkmap encC fun gm => ?_)
 refine o_ v_rv ?_; refine e_boxA fun g => ?_; refine o_ v_len (e_slfacts (.there (.there .here)) fun f1 f2 f3 f4 => ?_)
 refine e_loop1 (fun m y => [ex fun i : Nat => ex fun mp : List ((Int × Int) × Value) => all [pu (m + i = l.length /\ y = .int .i64 (i : Int) /\ DecOK l i mp), MapIs gm encC mp, pt g (.cells #[.map (some gm)] 239), Sl 1 3 qa qc l.length ((codes l).map I), A]] ++ F) l.length ?_ ?_
 ·refine .ex 0 (.ex [] (.all ?_))
  refine nr_ ?_
  refine .pu ⟨by omega, rfl, fun n c => rfl, ⟨fun _ ⟨k, hk, _⟩ => by omega, fun _ => rfl⟩⟩ ?_
  exact .pick (by repeat constructor) (.pick (by repeat constructor) (.pick (by repeat constructor) (.pick (by repeat constructor) .refl)))
 intro m ds y
 refine nr_ ?_
 refine e_ex Pick.here fun i => e_ex Pick.here fun mp => e_all Pick.here ?_
 refine nr_ ?_
 refine e_pu Pick.here fun hi => ?_
 obtain ⟨hmi, rfl, hdec⟩ := hi
 refine e_ask v_lss .nil (fun h => ?_) (fun h => ?_)
 ·have hil : i < l.length := by omega
  obtain ⟨ga, oa, rfl, _⟩ := hr.at_ (by omega)
  obtain ⟨gq, rfl⟩ := f4 (by omega)
  refine e_condT (o_ (v_ia1 i (by rfl) hil) ?_)
  refine p_op (v_ldRd hr (I_get hil)) ?_
  have hli : l[i]? = some l[i] := List.getElem?_eq_getElem hil
  refine e_ask v_gtr .nil (fun h => ?_) (fun h => ?_)
  ·have hap := fL_apart hok.ins hil h
   have gi : ((codes l).map I)[0 + i]? = some (I (codeAt l i)) := by rw [Nat.zero_add, List.getElem?_map, codes, List.getElem?_map, List.getElem?_range hil]; rfl
   refine e_condT (e_drS (t_ v_nil (t_ v_fa0 (ls_ ?_))))
   refine t_ (v_ia1 i (by rfl) hil) ?_
   refine p_st (v_ldSl gi) ?_
   refine t_ v_rv ?_
   refine e_mapset (q := (l[i], (codeAt l i : Int))) keyC (by repeat constructor) ?_
   refine ad_ ?_
   refine e_next1 (m - 1) (by omega) (.ex (i + 1) (.ex (setM (l[i], (codeAt l i : Int)) (.int .i64 (i : Int)) mp) (.all ?_)))
   refine nr_ ?_
   refine .pu ⟨by omega, by norm_cast, fun n c => ?_, ⟨fun c => ?_, fun c => absurd ⟨i, by omega, l[i], hli, h⟩ c⟩⟩ ?_
   ·rw [getM_setM, fL]
    by_cases e : (n, c) = (l[i], (codeAt l i : Int))
    ·injection e with e1 e2
     subst e1; subst e2
     rw [if_pos rfl, hap]
     simp only
     rw [if_pos ⟨h, hli, by first | trivial | rfl⟩]; rfl
    ·rw [if_neg e, hdec.get]
     cases hf : fL l n c i with
     | some j => rfl
     | none =>
      simp only
      rw [if_neg (fun d => e (by
       have d2 := d.2.1
       rw [hli] at d2
       rw [<- Option.some.inj d2, <- d.2.2]))]
   ·exfalso
    have : ∀ m : List ((Int × Int) × Value), setM (l[i], (codeAt l i : Int)) (.int .i64 (i : Int)) m ≠ [] := fun m => by
     cases m with
     | nil => simp [setM]
     | cons p m => unfold setM; split <;> simp
    exact this mp c
   ·exact .pick (by repeat constructor) (.pick (by repeat constructor) (.pick (by repeat constructor) (.pick (by repeat constructor) .refl)))
  ·(refine e_condF ?_); refine ad_ ?_
   refine e_next1 (m - 1) (by omega) (.ex (i + 1) (.ex mp (.all ?_)))
   refine nr_ ?_
   refine .pu ⟨by omega, by norm_cast, fun n c => ?_, ?_⟩ ?_
   ·rw [hdec.get, fL]
    cases hf : fL l n c i with
    | some j => rfl
    | none =>
     simp only
     rw [if_neg (fun d => by
      have d2 := d.2.1
      rw [hli] at d2
      have := Option.some.inj d2
      omega)]
   ·rw [hdec.emp]
    constructor
    ·rintro hn ⟨k, hk, x, hx, hx0⟩
     by_cases c : k = i
     ·subst c
      rw [hli] at hx
      have := Option.some.inj hx
      omega
     ·exact hn ⟨k, by omega, x, hx, hx0⟩
    ·rintro hn ⟨k, hk, x, hx, hx0⟩
     exact hn ⟨k, by omega, x, hx, hx0⟩
   ·exact .pick (by repeat constructor) (.pick (by repeat constructor) (.pick (by repeat constructor) (.pick (by repeat constructor) .refl)))
 ·have hie : i = l.length := by omega
  subst hie
  refine e_condF (e_ret g rfl ?_)
  refine .ex gm (.ex mp (.all ?_))
  refine nr_ ?_
  exact .pick (by repeat constructor) (.pick (by repeat constructor) (.pu hdec im_))
theorem newDec0 (hr : RdB W A a l.length (l.map I)) (hl : l.length <= 4611686018427387904) (hok : ¬ okL l) :
  Cn p_ 168 [.slice a l.length cap] W [A] (fun _ : Unit => .tuple #[.pointer none, .int .i64 30]) (fun _ => [A]) := by
 (refine S.huff_NewDecoder_s.cn fun F => ?_; unfold S.huff_NewDecoder; simp only [ca_, na_])
 have hR : cdR l = 30 := by simp [cdR, hok]
 refine c_ (codes_ hr hl) fun _ => ?_
 rename_i q
 obtain ⟨qa, qc⟩ := q
 rw [hR]
 (try dsimp only)
 refine xt_ ?_; refine xt_ ?_
 refine o_ v_neq ?_
 rw [dT_ (by omega)]
 refine e_condT (rt_ () ?_)
 exact im_
end
end Go.Proofs.YthoeeahdkdcceaaGreat.HF
namespace Go.Proofs.YthoeeahdkdcceaaGreat.IF
open Go Go.Proofs Go.RowKit Sh Sl T HM HF B M
abbrev If (φ : Prop) := { _u : Unit // φ }
def yes {φ : Prop} (h : φ) : If φ := ⟨(), h⟩
def pn (e : Int) : List PanicEntry := pe (.iface 25 (.int .i64 e))
theorem must {W : World} {e : Int} : CnP p_ 155 [.int .i64 e] W [] (fun _ : If (e = 0) => .tuple #[]) (fun _ => []) (fun _ : If (e ≠ 0) => pn e) (fun _ => []) := by
 (refine S.inflate_must_s.cnP fun F => ?_; unfold S.inflate_must; simp only [ca_, na_, -eq_self])
 refine e_ask v_neq .nil (fun h => ?_) (fun h => ?_)
 ·refine e_condT (o_ v_mkI (e_panic ?_))
  exact e_pan (yes (h)) rfl .refl
 ·refine e_condF (rt_ (yes (Decidable.not_not.1 h)) ?_)
  exact .refl
theorem demand {W : World} {b : Bool} {e : Int} : CnP p_ 152 [.bool b, .int .i64 e] W [] (fun _ : If (b = true) => .tuple #[]) (fun _ => []) (fun _ : If (b = false) => pn e) (fun _ => []) := by
 (refine S.inflate_demand_s.cnP fun F => ?_; unfold S.inflate_demand; simp only [ca_, na_, -eq_self])
 cases b with
 | true =>
  refine o_ v_notT (e_condF (rt_ (yes (rfl)) ?_))
  exact .refl
 | false =>
  refine o_ v_notF (e_condT (o_ v_mkI (e_panic ?_)))
  exact e_pan (yes (rfl)) rfl .refl
def IsS (p : Nat) (b : List UInt8) (at_ : Nat) (out : List UInt8) (most : Int) : HP := ex fun q : Nat × (Option Addr × Nat) => all [pt p (.cells #[.pointer (some ⟨q.1, 0, none⟩), .slice q.2.1 out.length q.2.2, .int .i64 most] 187), IsR q.1 b at_, Sl 1 5 q.2.1 q.2.2 out.length (out.map Sl.B)]
theorem stake {W : World} {p at_ : Nat} {b out : List UInt8} {most k : Int} : CnP p_ 129 [.pointer (some ⟨p, 0, none⟩), .int .i64 k] W [IsS p b at_ out most]
  (fun _ : If (takR b at_ k = 0) => .int .i64 (takN b at_ k : Int)) (fun _ => [IsS p b (takAt b at_ k) out most]) (fun _ : If (takR b at_ k ≠ 0) => pn (takR b at_ k)) (fun _ => []) := by
 (refine S.inflate_stream_take_s.cnP fun F => ?_; unfold S.inflate_stream_take; simp only [ca_, na_, -eq_self])
 refine e_ex Pick.here fun q => e_all Pick.here ?_
 obtain ⟨r, qa, qc⟩ := q
 refine nr_ ?_
 refine o_ v_nil (o_ v_fa0 (ln_ ?_))
 refine c_ B.take fun _ => ?_
 refine xt_ ?_; refine xt_ ?_
 (refine' e_callP (must) ?hp (fun _ => ?_) (fun _ => ?_); (case hp => (repeat (first | exact Picks.nil | (apply Picks.cons; (focus repeat constructor))))); (all_goals (try simp only [ca_, na_, Bool.not_true, Bool.not_false, -eq_self])))
 ·rename_i x
  refine rt_ (yes (x.2)) ?_
  refine .ex (r, (qa, qc)) (.all ?_)
  refine nr_ ?_
  exact .pick (by repeat constructor) (.pick (by repeat constructor) (.pick (by repeat constructor) im_))
 ·rename_i y
  refine e_pan (yes (y.2)) rfl ?_
  exact im_
theorem room {W : World} {p at_ : Nat} {b out : List UInt8} {most n : Int} (h1 : -1099511627776 <= most /\ most <= 1099511627776) (h2 : out.length <= 1099511627776) : CnP p_ 153 [.pointer (some ⟨p, 0, none⟩), .int .i64 n] W [IsS p b at_ out most]
  (fun _ : If (n <= most - out.length) => .tuple #[]) (fun _ => [IsS p b at_ out most]) (fun _ : If (¬ n <= most - out.length) => pn 6) (fun _ => []) := by
 (refine S.inflate_stream_room_s.cnP fun F => ?_; unfold S.inflate_stream_room; simp only [ca_, na_, -eq_self])
 refine e_ex Pick.here fun q => e_all Pick.here ?_
 obtain ⟨r, qa, qc⟩ := q
 refine nr_ ?_
 refine e_drS (t_ v_nil (t_ v_fa0 (ls_ ?_))); refine t_ v_nil (t_ v_fa0 (ls_ ?_)); refine t_ v_len ?_; (refine t_ (v_sub (by omega) (by omega)) ?_)
 refine t_ v_leq ?_
 (refine' e_callP (demand) ?hp (fun _ => ?_) (fun _ => ?_); (case hp => (repeat (first | exact Picks.nil | (apply Picks.cons; (focus repeat constructor))))); (all_goals (try simp only [ca_, na_, Bool.not_true, Bool.not_false, -eq_self])))
 ·rename_i x
  refine rt_ (yes (of_decide_eq_true x.2)) ?_
  refine .ex (r, (qa, qc)) (.all ?_)
  refine nr_ ?_
  exact .pick (by repeat constructor) (.pick (by repeat constructor) (.pick (by repeat constructor) im_))
 ·rename_i y
  refine e_pan (yes (of_decide_eq_false y.2)) rfl ?_
  exact im_
end Go.Proofs.YthoeeahdkdcceaaGreat.IF
namespace Go.Proofs.YthoeeahdkdcceaaGreat.HF
open Go Go.Proofs Go.RowKit Sh Sl T HM B M
theorem e_rfact {W : World} {L L' : List HP} {S : WP} {r at_ : Nat} {b : List UInt8} (p : Pick L (IsR r b at_) L') (h : at_ <= 8 * b.length -> Ent W L S) : Ent W L S := fun w hw => by
 obtain ⟨f, ⟨q, ha⟩, _⟩ := (hw.pick p).fst
 obtain ⟨_, _, _, ⟨_, _, _, ⟨_, _, hp, _⟩, _⟩, _⟩ := ha
 exact h hp.1 w hw
def dec (l : List Int) (b : List UInt8) : Nat -> Nat -> Nat -> Nat -> Int × Int × Nat
 | 0, _, _, at_ => (0, 30, at_)
 | f + 1, n, c, at_ => if takR b at_ 1 = 0 then (match fL l ((n + 1 : Nat) : Int) ((2 * c + takN b at_ 1 : Nat) : Int) l.length with
  | some i => ((i : Int), 0, takAt b at_ 1)
  | none => dec l b f (n + 1) (2 * c + takN b at_ 1) (takAt b at_ 1)) else (0, takR b at_ 1, takAt b at_ 1)
def nxt (l : List Int) (b : List UInt8) (at_ : Nat) : Int × Int × Nat := if pos l then dec l b 15 0 0 at_ else (0, 30, at_)
theorem pos_iff (l : List Int) : (∃ k, k < l.length /\ ∃ x, l[k]? = some x /\ 0 < x) ↔ pos l := by
 constructor
 ·rintro ⟨k, hk, x, hx, h0⟩
  rw [List.getElem?_eq_getElem hk] at hx
  exact ⟨x, by rw [<- Option.some.inj hx]; exact List.getElem_mem hk, h0⟩
 ·rintro ⟨x, hx, h0⟩
  obtain ⟨k, hk, rfl⟩ := List.mem_iff_getElem.1 hx
  exact ⟨k, hk, _, List.getElem?_eq_getElem hk, h0⟩
theorem takN1 (b : List UInt8) (at_ : Nat) : ∃ v : Bool, takN b at_ 1 = v.toNat := by
 have h : takN b at_ 1 < 2 := by
  unfold takN
  split
  ·exact tak_lt _ _ _
  ·omega
 rcases (show takN b at_ 1 = 0 \/ takN b at_ 1 = 1 by omega) with e | e
 ·exact ⟨false, e⟩
 ·exact ⟨true, e⟩
theorem next {W : World} {p r at_ : Nat} {l : List Int} {b : List UInt8} :
  Cn p_ 172 [.pointer (some ⟨p, 0, none⟩), .pointer (some ⟨r, 0, none⟩)] W [IsDec p l, IsR r b at_] (fun _ : Unit => .tuple #[.int .i64 (nxt l b at_).1, .int .i64 (nxt l b at_).2.1]) (fun _ => [IsDec p l, IsR r b (nxt l b at_).2.2]) := by
 (refine S.huff_Decoder_Next_s.cn fun F => ?_; unfold S.huff_Decoder_Next; simp only [ca_, na_])
 refine e_rfact (.there .here) fun hat => ?_
 refine e_ex Pick.here fun gm => e_ex Pick.here fun mp => e_all Pick.here ?_
 refine nr_ ?_
 refine e_pu (.there (.there .here)) fun hdec => ?_
 have back : ∀ {at2 : Nat} (s e : Int) (L : List HP), Imp W L (pt p (.cells #[.map (some gm)] 239) :: MapIs gm encC mp :: IsR r b at2 :: F) -> nxt l b at_ = (s, e, at2) -> Ent W L (fun w => ∃ x : Unit, (.tuple #[.int .i64 s, .int .i64 e] : Value) = .tuple #[.int .i64 (nxt l b at_).1, .int .i64 (nxt l b at_).2.1] /\ sat W ([IsDec p l, IsR r b (nxt l b at_).2.2] ++ F) w) := by
  intro at2 s e L hi hn
  rw [hn]
  refine e_imp hi ?_
  refine e_ret () rfl ?_
  refine .ex gm (.ex mp (.all ?_))
  refine nr_ ?_
  exact .pick .here (.pick .here (.pu hdec .refl))
 refine o_ v_eqNil1 ?_; refine e_gdT (e_gdT (o_ v_nil (e_gdT (o_ v_fa0 (e_gdT (ln_ ?_)))))); refine e_gdT (o_ v_eqMap ?_)
 refine o_ v_pickF (e_condF (c_ take fun _ => ?_))
 have h00 : takR b at_ 0 = 0 := by unfold takR; rw [if_neg (by omega), if_neg (by omega)]
 rw [h00, show takAt b at_ 0 = at_ by unfold takAt; rw [if_pos h00]; simp]
 refine xt_ ?_; refine xt_ ?_
 refine o_ v_neq ?_
 rw [dF_ (by omega)]
 refine e_condF (o_ v_nil (o_ v_fa0 (ln_ ?_)))
 refine p_op v_lenM ?_
 have hemp := hdec.emp
 rw [pos_iff] at hemp
 refine e_ask v_eql .nil (fun h => ?_) (fun h => ?_)
 ·have hm0 : mp = [] := List.eq_nil_of_length_eq_zero (by omega)
  have hnp := hemp.1 hm0
  exact e_condT (back 0 30 _ im_ (by unfold nxt; rw [if_neg hnp]))
 have hp : pos l := by
  refine Decidable.byContradiction fun c => h ?_
  rw [hemp.2 c]; rfl
 have hn0 : nxt l b at_ = dec l b 15 0 0 at_ := by unfold nxt; rw [if_pos hp]
 refine e_condF (o_ v_rv ?_); refine e_newA fun g => ?_; refine sg_ ?_
 rename_i gx
 refine e_loop1 (fun m y => [ex fun n : Nat => ex fun c : Nat => ex fun at2 : Nat => all [pu (m + n = 15 /\ y = .int .i64 (n : Int) /\ c < 2 ^ n /\ nxt l b at_ = dec l b m n c at2), pt g (.cells #[.int .i64 (n : Int), .int .i64 (c : Int)] 241 (0, 0)), pt p (.cells #[.map (some gm)] 239), MapIs gm encC mp, IsR r b at2]] ++ F) 15 ?_ ?_
 ·refine .ex 0 (.ex 0 (.ex at_ (.all ?_)))
  refine nr_ ?_
  refine .pu ⟨by omega, rfl, by omega, hn0⟩ ?_
  exact .pick (by repeat constructor) (.pick (by repeat constructor) (.pick (by repeat constructor) (.pick (by repeat constructor) .refl)))
 intro m ds y
 refine nr_ ?_
 refine e_ex Pick.here fun n => e_ex Pick.here fun c => e_ex Pick.here fun at2 => e_all Pick.here ?_
 refine nr_ ?_
 refine e_pu Pick.here fun hi => ?_
 obtain ⟨hmn, rfl, hc, hd⟩ := hi
 refine e_ask v_lss .nil (fun h => ?_) (fun h => ?_)
 ·have hn15 : n < 15 := by omega
  obtain ⟨m, rfl⟩ : ∃ m', m = m' + 1 := ⟨m - 1, by omega⟩
  have hc15 := pow15 (show n <= 15 by omega)
  refine e_condT (c_ take fun _ => ?_)
  obtain ⟨tb, htb⟩ := takN1 b at2
  have htl := Bool.toNat_le tb
  rw [dec] at hd
  by_cases hR : takR b at2 1 = 0
  ·rw [if_pos hR] at hd
   rw [hR, htb]
   rw [htb] at hd
   refine xt_ ?_; refine xt_ ?_
   refine o_ v_neq ?_
   rw [dF_ (by omega)]
   refine e_condF (o_ v_fa0 (ln_ ?_)); refine ad_ ?_; refine o_ v_fa0 (sn_ ?_); refine o_ v_fa0 (ln_ ?_)
   refine o_ (v_shl (by omega)) ?_
   rw [show (c : Int) * 2 ^ (min ((1 : Int)).toNat IntKind.i64.bits) = ((c * 2 : Nat) : Int) by norm_cast, w64 (by omega) (by omega)]
   refine o_ v_or ?_
   rw [or_two (by omega)]
   refine o_ v_fa0 (sn_ ?_); refine e_drS (t_ v_nil (t_ v_fa0 (ls_ ?_))); (((refine' e_stS (v_ldAgg ?hn) ?hi ?_); (case hi => exact .pick (by repeat constructor) .nil); (case hn => rfl)))
   refine p_st (v_lookOk (q := (((n : Int) + 1), ((2 * c + tb.toNat : Nat) : Int))) keyC) ?_
   have hg := hdec.get ((n : Int) + 1) ((2 * c + tb.toNat : Nat) : Int)
   rw [hg]
   rw [show ((n + 1 : Nat) : Int) = (n : Int) + 1 by norm_cast] at hd
   cases hf : fL l ((n : Int) + 1) ((2 * c + tb.toNat : Nat) : Int) l.length with
   | some i =>
    rw [hf] at hd
    (try simp only [Option.map_some, Option.getD_some, Option.isSome_some])
    refine t_ (v_ext (v := .int .i64 (i : Int)) rfl) ?_
    refine t_ (v_ext (v := .bool true) rfl) ?_
    exact e_condT (back (i : Int) 0 _ im_ hd)
   | none =>
    rw [hf] at hd
    (try simp only [Option.map_none, Option.getD_none, Option.isSome_none])
    refine t_ (v_ext (v := .int .i64 0) rfl) ?_
    refine t_ (v_ext (v := .bool false) rfl) ?_
    refine e_condF (ad_ ?_)
    refine e_next1 m (by omega) (.ex (n + 1) (.ex (2 * c + tb.toNat) (.ex (takAt b at2 1) (.all ?_))))
    refine nr_ ?_
    refine .pu ⟨by omega, by norm_cast, by rw [Nat.pow_succ]; omega, hd⟩ ?_
    rw [show ((n + 1 : Nat) : Int) = (n : Int) + 1 by norm_cast]
    exact .pick (by repeat constructor) (.pick (by repeat constructor) (.pick (by repeat constructor) (.pick (by repeat constructor) .refl)))
  ·rw [if_neg hR] at hd
   refine xt_ ?_; refine xt_ ?_
   refine o_ v_neq ?_
   rw [dT_ hR]
   exact e_condT (back 0 (takR b at2 1) _ im_ hd)
 ·have hm0 : m = 0 := by omega
  subst hm0
  rw [dec] at hd
  exact e_condF (back 0 30 _ im_ hd)
end Go.Proofs.YthoeeahdkdcceaaGreat.HF
namespace Go.Proofs.YthoeeahdkdcceaaGreat.IF
open Go Go.Proofs Go.RowKit Sh Sl T HM HF B M
abbrev Ok {α : Type} (m : Except Int α) := { x : α // m = .ok x }
abbrev Er {α : Type} (m : Except Int α) := { e : Int // m = .error e }
def mStored (b : List UInt8) (most : Int) (at_ : Nat) (out : List UInt8) : Except Int (Nat × List UInt8) :=
 if takR b ((at_ + 7) / 8 * 8) 16 ≠ 0 then .error (takR b ((at_ + 7) / 8 * 8) 16) else
 if takR b (takAt b ((at_ + 7) / 8 * 8) 16) 16 ≠ 0 then .error (takR b (takAt b ((at_ + 7) / 8 * 8) 16) 16) else
 if (takN b (takAt b ((at_ + 7) / 8 * 8) 16) 16 : Int) ≠ 65535 - (takN b ((at_ + 7) / 8 * 8) 16 : Int) then .error 31 else
 if ¬ (takN b ((at_ + 7) / 8 * 8) 16 : Int) <= most - out.length then .error 6 else
 if rrR b (takAt b (takAt b ((at_ + 7) / 8 * 8) 16) 16) (takN b ((at_ + 7) / 8 * 8) 16 : Int) ≠ 0 then .error (rrR b (takAt b (takAt b ((at_ + 7) / 8 * 8) 16) 16) (takN b ((at_ + 7) / 8 * 8) 16 : Int)) else
 .ok (rrAt b (takAt b (takAt b ((at_ + 7) / 8 * 8) 16) 16) (takN b ((at_ + 7) / 8 * 8) 16 : Int), out ++ rrB b (takAt b (takAt b ((at_ + 7) / 8 * 8) 16) 16) (takN b ((at_ + 7) / 8 * 8) 16 : Int))
theorem stored {W : World} {p at_ : Nat} {b out : List UInt8} {most : Int} (h1 : -1099511627776 <= most /\ most <= 1099511627776) (h2 : out.length <= 1099511627776) :
  CnP p_ 125 [.pointer (some ⟨p, 0, none⟩)] W [IsS p b at_ out most] (fun _ : Ok (mStored b most at_ out) => .tuple #[]) (fun x => [IsS p b x.1.1 x.1.2 most]) (fun y : Er (mStored b most at_ out) => pn y.1) (fun _ => []) := by
 (refine S.inflate_stream_stored_s.cnP fun F => ?_; unfold S.inflate_stream_stored; simp only [ca_, na_, -eq_self])
 refine e_ex Pick.here fun q => e_all Pick.here ?_
 obtain ⟨r, qa, qc⟩ := q
 refine nr_ ?_
 refine o_ v_nil (o_ v_fa0 (ln_ ?_))
 refine c_ ralign fun _ => ?_
 refine e_imp (M := IsS p b ((at_ + 7) / 8 * 8) out most :: F) (.ex (r, (qa, qc)) (.all (.pick (by repeat constructor) (.pick (by repeat constructor) (.pick (by repeat constructor) im_))))) ?_
 obtain ⟨a1, ha1⟩ : ∃ a1, a1 = (at_ + 7) / 8 * 8 := ⟨_, rfl⟩
 have hM : mStored b most at_ out = mStored b most at_ out := rfl
 conv at hM => rhs; unfold mStored
 rw [<- ha1] at hM ⊢
 (refine' e_callP (stake) ?hp (fun _ => ?_) (fun _ => ?_); (case hp => (repeat (first | exact Picks.nil | (apply Picks.cons; (focus repeat constructor))))); (all_goals (try simp only [ca_, na_, Bool.not_true, Bool.not_false, -eq_self])))
 rotate_left
 ·rename_i y
  rw [if_pos y.2] at hM
  refine e_pan ⟨_, hM⟩ rfl ?_
  exact im_
 rename_i x1
 rw [if_neg (fun c => c x1.2)] at hM
 obtain ⟨n, hn⟩ : ∃ n, n = takN b a1 16 := ⟨_, rfl⟩
 obtain ⟨a2, ha2⟩ : ∃ a2, a2 = takAt b a1 16 := ⟨_, rfl⟩
 rw [<- hn, <- ha2] at hM
 (try rw [<- hn])
 (try rw [<- ha2])
 (refine' e_callP (stake) ?hp (fun _ => ?_) (fun _ => ?_); (case hp => (repeat (first | exact Picks.nil | (apply Picks.cons; (focus repeat constructor))))); (all_goals (try simp only [ca_, na_, Bool.not_true, Bool.not_false, -eq_self])))
 rotate_left
 ·rename_i y
  rw [if_pos y.2] at hM
  refine e_pan ⟨_, hM⟩ rfl ?_
  exact im_
 rename_i x2
 rw [if_neg (fun c => c x2.2)] at hM
 obtain ⟨m, hm⟩ : ∃ m, m = takN b a2 16 := ⟨_, rfl⟩
 obtain ⟨a3, ha3⟩ : ∃ a3, a3 = takAt b a2 16 := ⟨_, rfl⟩
 rw [<- hm, <- ha3] at hM
 (try rw [<- hm])
 (try rw [<- ha3])
 have hn16 : n < 65536 := by rw [hn]; unfold takN; split; exact tak_lt _ _ _; omega
 refine sb_ ?_
 refine o_ v_eql ?_
 (refine' e_callP (demand) ?hp (fun _ => ?_) (fun _ => ?_); (case hp => (repeat (first | exact Picks.nil | (apply Picks.cons; (focus repeat constructor))))); (all_goals (try simp only [ca_, na_, Bool.not_true, Bool.not_false, -eq_self])))
 rotate_left
 ·rename_i y
  rw [if_pos (of_decide_eq_false y.2)] at hM
  refine e_pan ⟨_, hM⟩ rfl ?_
  exact im_
 rename_i x3
 rw [if_neg (fun c => c (of_decide_eq_true x3.2))] at hM
 (refine' e_callP (room h1 h2) ?hp (fun _ => ?_) (fun _ => ?_); (case hp => (repeat (first | exact Picks.nil | (apply Picks.cons; (focus repeat constructor))))); (all_goals (try simp only [ca_, na_, Bool.not_true, Bool.not_false, -eq_self])))
 rotate_left
 ·rename_i y
  rw [if_pos y.2] at hM
  refine e_pan ⟨_, hM⟩ rfl ?_
  exact im_
 rename_i x4
 rw [if_neg (fun c => c x4.2)] at hM
 refine e_ex Pick.here fun q => e_all Pick.here ?_
 obtain ⟨r, qa, qc⟩ := q
 refine nr_ ?_
 refine o_ v_nil (o_ v_fa0 (ln_ ?_))
 refine c_ rraw fun _ => ?_
 rename_i u
 obtain ⟨ua, uc⟩ := u
 (try dsimp only)
 refine o_ (v_ext (v := .slice ua (rrB b a3 n).length uc) rfl) ?_
 refine o_ (v_ext (v := .int .i64 (rrR b a3 n)) rfl) ?_
 (refine' e_callP (must) ?hp (fun _ => ?_) (fun _ => ?_); (case hp => (repeat (first | exact Picks.nil | (apply Picks.cons; (focus repeat constructor))))); (all_goals (try simp only [ca_, na_, Bool.not_true, Bool.not_false, -eq_self])))
 rotate_left
 ·rename_i y
  rw [if_pos y.2] at hM
  refine e_pan ⟨_, hM⟩ rfl ?_
  exact im_
 rename_i x5
 rw [if_neg (fun c => c x5.2)] at hM
 refine o_ v_nil (o_ v_fa0 (ln_ ?_))
 refine e_slfacts .here fun f1 f2 f3 f4 => ?_
 have hle := rrB_le b a3 n
 have hbl : (rrB b a3 n).length <= 65536 := by
  have : (rrB b a3 n).length <= n := by unfold rrB; split; (rw [List.length_take]; omega); simp
  omega
 refine e_app (m := (rrB b a3 n).length) (news := (rrB b a3 n).map Sl.B) (by repeat constructor) (src_rd (e' := 5) (by kernel_rfl) .here (rd_sl (by simp) f4) (fun c => (by
  rcases Nat.eq_zero_or_pos (rrB b a3 n).length with z | z
  ·exact z
  ·obtain ⟨_, e⟩ := f4 z; rw [c] at e; cases e)) B_one) (by omega) (by omega) fun a' c' => ?_
 refine o_ v_nil (o_ v_fa0 (sn_ ?_))
 refine rt_ ((⟨_, hM⟩ : Ok (mStored b most at_ out))) ?_
 refine .ex (r, (a', c')) (.all ?_)
 refine nr_ ?_
 rw [List.length_append, List.map_append]
 exact .pick (by repeat constructor) (.pick (by repeat constructor) (.pick (by repeat constructor) im_))
theorem decoder {W : World} {A : HP} {a : Option Addr} {cap : Nat} {l : List Int} (hr : RdB W A a l.length (l.map I)) (hl : l.length <= 4611686018427387904) :
  CnP p_ 157 [.slice a l.length cap] W [A] (fun x : { p : Nat // okL l } => .pointer (some ⟨x.1, 0, none⟩)) (fun x => [IsDec x.1 l, A]) (fun _ : If (¬ okL l) => pn 30) (fun _ => [A]) := by
 (refine S.inflate_decoder_s.cnP fun F => ?_; unfold S.inflate_decoder; simp only [ca_, na_, -eq_self])
 by_cases hok : okL l
 ·refine c_ (newDec hr hok) fun _ => ?_
  rename_i p
  refine o_ (v_ext (v := .pointer (some ⟨p, 0, none⟩)) rfl) ?_
  refine o_ (v_ext (v := .int .i64 0) rfl) ?_
  (refine' e_callP (must) ?hp (fun _ => ?_) (fun _ => ?_); (case hp => (repeat (first | exact Picks.nil | (apply Picks.cons; (focus repeat constructor))))); (all_goals (try simp only [ca_, na_, Bool.not_true, Bool.not_false, -eq_self])))
  ·refine e_ret ⟨p, hok⟩ rfl ?_
   exact im_
  ·rename_i y
   exact absurd rfl y.2
 ·refine c_ (newDec0 hr hl hok) fun _ => ?_
  refine xt_ ?_; refine xt_ ?_
  (refine' e_callP (must) ?hp (fun _ => ?_) (fun _ => ?_); (case hp => (repeat (first | exact Picks.nil | (apply Picks.cons; (focus repeat constructor))))); (all_goals (try simp only [ca_, na_, Bool.not_true, Bool.not_false, -eq_self])))
  ·rename_i x
   exact absurd x.2 (by omega)
  ·refine e_pan (yes hok) rfl ?_
   exact im_
theorem inext {W : World} {p r at_ : Nat} {l : List Int} {b : List UInt8} :
  CnP p_ 167 [.pointer (some ⟨p, 0, none⟩), .pointer (some ⟨r, 0, none⟩)] W [IsDec p l, IsR r b at_] (fun _ : If ((nxt l b at_).2.1 = 0) => .int .i64 (nxt l b at_).1) (fun _ => [IsDec p l, IsR r b (nxt l b at_).2.2]) (fun _ : If ((nxt l b at_).2.1 ≠ 0) => pn (nxt l b at_).2.1) (fun _ => []) := by
 (refine S.inflate_next_s.cnP fun F => ?_; unfold S.inflate_next; simp only [ca_, na_, -eq_self])
 refine c_ next fun _ => ?_
 refine o_ (v_ext (v := .int .i64 (nxt l b at_).1) rfl) ?_
 refine o_ (v_ext (v := .int .i64 (nxt l b at_).2.1) rfl) ?_
 (refine' e_callP (must) ?hp (fun _ => ?_) (fun _ => ?_); (case hp => (repeat (first | exact Picks.nil | (apply Picks.cons; (focus repeat constructor))))); (all_goals (try simp only [ca_, na_, Bool.not_true, Bool.not_false, -eq_self])))
 ·rename_i x
  refine rt_ (yes x.2) ?_
  exact im_
 ·rename_i y
  refine e_pan (yes y.2) rfl ?_
  exact im_
def bL (s : Int) : Int × Int := if s - 257 < 0 \/ 28 < s - 257 then (0, 0) else if s - 257 = 28 then (258, 0) else if s - 257 < 8 then (s - 257 + 3, 0) else (3 + (4 + (s - 257) % 4) * ((2 ^ ((s - 257) / 4 - 1).toNat : Nat) : Int), (s - 257) / 4 - 1)
def bD (s : Int) : Int × Int := if s < 0 \/ 29 < s then (0, 0) else if s < 4 then (s + 1, 0) else (1 + (2 + s % 2) * ((2 ^ (s / 2 - 1).toNat : Nat) : Int), s / 2 - 1)
theorem baseLength {W : World} {s : Int} (h1 : -1099511627776 <= s /\ s <= 1099511627776) : Cn p_ 133 [.int .i64 s] W [] (fun _ : Unit => .tuple #[.int .i64 (bL s).1, .int .i64 (bL s).2]) (fun _ => []) := by
 (refine S.lz_BaseLength_s.cn fun F => ?_; unfold S.lz_BaseLength; simp only [ca_, na_])
 refine sb_ ?_
 refine e_ask v_lss .nil (fun h => ?_) (fun h => ?_)
 ·(refine e_gdF1 ?_); refine e_gdF1 ?_; refine o_ v_pickT ?_; refine e_condT ?_
  rw [show bL s = (0, 0) from if_pos (.inl h)]
  refine rt_ () ?_
  exact .refl
 have i1 := h
 refine e_gdT (e_gdT (e_ask v_gtr .nil (fun h => ?_) (fun h => ?_)))
 ·(refine o_ v_pickF ?_); refine e_condT ?_
  rw [show bL s = (0, 0) from if_pos (.inr h)]
  refine rt_ () ?_
  exact .refl
 have i2 := h
 refine o_ v_pickF (e_condF (e_ask v_eql .nil (fun h => ?_) (fun h => ?_)))
 ·(refine e_condT ?_)
  rw [show bL s = (258, 0) by unfold bL; rw [if_neg (by omega), if_pos h]]
  refine rt_ () ?_
  exact .refl
 have i3 := h
 refine e_condF (e_ask v_lss .nil (fun h => ?_) (fun h => ?_))
 ·(refine e_condT ?_); refine ad_ ?_
  rw [show bL s = (s - 257 + 3, 0) by unfold bL; rw [if_neg (by omega), if_neg i3, if_pos h]]
  refine rt_ () ?_
  exact .refl
 have i4 := h
 obtain ⟨K, hK⟩ := Int.eq_ofNat_of_zero_le (show 0 <= s - 257 by omega)
 have hb : bL s = (3 + (4 + (s - 257) % 4) * ((2 ^ ((s - 257) / 4 - 1).toNat : Nat) : Int), (s - 257) / 4 - 1) := by unfold bL; rw [if_neg (by omega), if_neg i3, if_neg i4]
 rw [hb, hK]
 have e1 : (K : Int) / 4 - 1 = ((K / 4 - 1 : Nat) : Int) := by omega
 refine e_condF ?_; (((refine o_ (v_quo ?h1 ?h2 ?h3) ?_); (case h1 => omega); (case h2 => omega); (case h3 => omega))); refine sb_ ?_; (((refine o_ (v_rem ?h1 ?h2) ?_); (case h1 => omega); (case h2 => omega))); refine ad_ ?_
 refine o_ v_conv ?_
 rw [wrapu64' (by omega) (by omega), e1]
 refine o_ (v_shl (by omega)) ?_
 rw [shl64 (by omega) (by omega) (by omega), Int.toNat_natCast]
 have h5 : (2 : Nat) ^ (K / 4 - 1) <= 32768 := pow15 (by omega)
 obtain ⟨E, hE⟩ : ∃ E : Nat, E = 2 ^ (K / 4 - 1) := ⟨_, rfl⟩
 rw [<- hE] at h5 ⊢
 have h6 : (4 + (K : Int) % 4) * (E : Int) <= 8 * 32768 := Int.mul_le_mul (by omega) (by omega) (by omega) (by omega)
 have h7 : 0 <= (4 + (K : Int) % 4) * (E : Int) := Int.mul_nonneg (by omega) (by omega)
 refine ad_ ?_
 refine rt_ () ?_
 exact .refl
theorem baseDistance {W : World} {s : Int} : Cn p_ 134 [.int .i64 s] W [] (fun _ : Unit => .tuple #[.int .i64 (bD s).1, .int .i64 (bD s).2]) (fun _ => []) := by
 (refine S.lz_BaseDistance_s.cn fun F => ?_; unfold S.lz_BaseDistance; simp only [ca_, na_])
 refine e_ask v_lss .nil (fun h => ?_) (fun h => ?_)
 ·(refine e_gdF1 ?_); refine e_gdF1 ?_; refine o_ v_pickT ?_; refine e_condT ?_
  rw [show bD s = (0, 0) from if_pos (.inl h)]
  refine rt_ () ?_
  exact .refl
 have i1 := h
 refine e_gdT (e_gdT (e_ask v_gtr .nil (fun h => ?_) (fun h => ?_)))
 ·(refine o_ v_pickF ?_); refine e_condT ?_
  rw [show bD s = (0, 0) from if_pos (.inr h)]
  refine rt_ () ?_
  exact .refl
 have i2 := h
 refine o_ v_pickF (e_condF (e_ask v_lss .nil (fun h => ?_) (fun h => ?_)))
 ·(refine e_condT ?_); refine ad_ ?_
  rw [show bD s = (s + 1, 0) by unfold bD; rw [if_neg (by omega), if_pos h]]
  refine rt_ () ?_
  exact .refl
 have i4 := h
 obtain ⟨K, rfl⟩ := Int.eq_ofNat_of_zero_le (show 0 <= s by omega)
 have hb : bD K = (1 + (2 + (K : Int) % 2) * ((2 ^ ((K : Int) / 2 - 1).toNat : Nat) : Int), (K : Int) / 2 - 1) := by unfold bD; rw [if_neg (by omega), if_neg i4]
 rw [hb]
 have e1 : (K : Int) / 2 - 1 = ((K / 2 - 1 : Nat) : Int) := by omega
 refine e_condF ?_; (((refine o_ (v_quo ?h1 ?h2 ?h3) ?_); (case h1 => omega); (case h2 => omega); (case h3 => omega))); refine sb_ ?_; (((refine o_ (v_rem ?h1 ?h2) ?_); (case h1 => omega); (case h2 => omega))); refine ad_ ?_
 refine o_ v_conv ?_
 rw [wrapu64' (by omega) (by omega), e1]
 refine o_ (v_shl (by omega)) ?_
 rw [shl64 (by omega) (by omega) (by omega), Int.toNat_natCast]
 have h5 : (2 : Nat) ^ (K / 2 - 1) <= 32768 := pow15 (by omega)
 obtain ⟨E, hE⟩ : ∃ E : Nat, E = 2 ^ (K / 2 - 1) := ⟨_, rfl⟩
 rw [<- hE] at h5 ⊢
 have h6 : (2 + (K : Int) % 2) * (E : Int) <= 8 * 32768 := Int.mul_le_mul (by omega) (by omega) (by omega) (by omega)
 have h7 : 0 <= (2 + (K : Int) % 2) * (E : Int) := Int.mul_nonneg (by omega) (by omega)
 refine ad_ ?_
 refine rt_ () ?_
 exact .refl
theorem fill {W : World} {a : Option Addr} {c k n : Nat} {l : List Int} {v : Int} (hn : l.length = n) (h1 : n <= 1048576) (h2 : k <= 1048576) : Cn p_ 103 [.slice a n c, .int .i64 (k : Int), .int .i64 v] W [Sl 1 3 a c n (l.map I)]
  (fun q : Option Addr × Nat => .slice q.1 (n + k) q.2) (fun q => [Sl 1 3 q.1 q.2 (n + k) ((l ++ List.replicate k v).map I)]) := by
 (refine S.inflate_Fixed_1_s.cn fun F => ?_; unfold S.inflate_Fixed_1; simp only [ca_, na_])
 refine e_loop2 (fun m x y => [ex fun i : Nat => ex fun q : Option Addr × Nat => all [pu (m + i = k /\ y = .int .i64 (i : Int) /\ x = .slice q.1 (n + i) q.2), Sl 1 3 q.1 q.2 (n + i) ((l ++ List.replicate i v).map I)]] ++ F) k ?_ ?_
 ·refine .ex 0 (.ex (a, c) (.all ?_))
  refine nr_ ?_
  refine .pu ⟨by omega, rfl, rfl⟩ ?_
  rw [List.replicate_zero, List.append_nil]
  exact .refl
 intro m ds x y
 refine nr_ ?_
 refine e_ex Pick.here fun i => e_ex Pick.here fun q => e_all Pick.here ?_
 obtain ⟨qa, qc⟩ := q
 refine nr_ ?_
 refine e_pu Pick.here fun hi => ?_
 obtain ⟨hmi, rfl, rfl⟩ := hi
 (try dsimp only)
 refine e_ask v_lss .nil (fun h => ?_) (fun h => ?_)
 ·refine e_condT (e_bsl1 fun g => ?_)
  refine e_app (m := 1) (news := [I v]) (by repeat constructor) (src_pt (e' := 3) (by kernel_rfl) .here (by rfl) (I_one (l := [v]))) (by omega) (by omega) fun a' c' => ?_
  refine ad_ ?_
  refine e_next2 (m - 1) (by omega) (.ex (i + 1) (.ex (a', c') (.all ?_)))
  refine nr_ ?_
  refine .pu ⟨by omega, congrArg (Value.int .i64) (by omega), by rw [Nat.add_assoc]⟩ ?_
  rw [List.replicate_succ', <- List.append_assoc, List.map_append (l₁ := l ++ List.replicate i v), <- Nat.add_assoc]
  exact .pick (by repeat constructor) im_
 ·have : i = k := by omega
  subst this
  refine e_condF (e_ret (qa, qc) rfl ?_)
  exact .refl
def litL : List Int := List.replicate 144 8 ++ List.replicate 112 9 ++ List.replicate 24 7 ++ List.replicate 8 8
def dstL : List Int := List.replicate 32 5
theorem lit_len : litL.length = 0 + 144 + 112 + 24 + 8 := by simp only [litL, List.length_append, List.length_replicate]
theorem dst_len : dstL.length = 0 + 32 := by simp only [dstL, List.length_replicate]
theorem fixedL {W : World} : Cn p_ 86 [] W [] (fun q : (Option Addr × Nat) × (Option Addr × Nat) => .tuple #[.slice q.1.1 litL.length q.1.2, .slice q.2.1 dstL.length q.2.2])
  (fun q => [Sl 1 3 q.1.1 q.1.2 litL.length (litL.map I), Sl 1 3 q.2.1 q.2.2 dstL.length (dstL.map I)]) := by
 (refine S.inflate_Fixed_s.cn fun F => ?_; unfold S.inflate_Fixed; simp only [ca_, na_])
 rw [lit_len, dst_len]
 refine e_nil (s := 1) (e := 3) ?_
 refine c_ (fill (l := []) (k := 144) (v := 8) rfl (by omega) (by omega)) fun _ => ?_
 rename_i q1
 obtain ⟨a1, c1⟩ := q1
 (try dsimp only)
 refine c_ (fill (l := List.replicate 144 8) (n := 0 + 144) (k := 112) (v := 9) (by rw [List.length_replicate]) (by omega) (by omega)) fun _ => ?_
 rename_i q2
 obtain ⟨a2, c2⟩ := q2
 (try dsimp only)
 refine c_ (fill (l := List.replicate 144 8 ++ List.replicate 112 9) (n := 0 + 144 + 112) (k := 24) (v := 7) (by rw [List.length_append, List.length_replicate, List.length_replicate]) (by omega) (by omega)) fun _ => ?_
 rename_i q3
 obtain ⟨a3, c3⟩ := q3
 (try dsimp only)
 refine c_ (fill (l := List.replicate 144 8 ++ List.replicate 112 9 ++ List.replicate 24 7) (n := 0 + 144 + 112 + 24) (k := 8) (v := 8) (by rw [List.length_append, List.length_append, List.length_replicate, List.length_replicate, List.length_replicate]) (by omega) (by omega)) fun _ => ?_
 rename_i q4
 obtain ⟨a4, c4⟩ := q4
 (try dsimp only)
 rw [show (List.replicate 144 8 ++ List.replicate 112 9 ++ List.replicate 24 7 ++ List.replicate 8 8 : List Int) = litL from rfl]
 refine e_nil (s := 1) (e := 3) ?_
 refine c_ (fill (l := []) (k := 32) (v := 5) rfl (by omega) (by omega)) fun _ => ?_
 rename_i q5
 obtain ⟨a5, c5⟩ := q5
 rw [show (List.replicate 32 5 : List Int) = dstL from rfl]
 (try dsimp only)
 refine e_ret ((a4, c4), (a5, c5)) rfl ?_
 exact .pick (by repeat constructor) (.pick (by repeat constructor) im_)
theorem dec_at (l : List Int) (b : List UInt8) : ∀ f n c at_, at_ <= (dec l b f n c at_).2.2 /\ ((dec l b f n c at_).2.1 = 0 -> at_ < (dec l b f n c at_).2.2)
 | 0, n, c, at_ => ⟨Nat.le_refl _, fun h => by simp [dec] at h⟩
 | f + 1, n, c, at_ => by
  have hA : at_ <= takAt b at_ 1 := by unfold takAt; split <;> omega
  unfold dec
  by_cases hR : takR b at_ 1 = 0
  ·rw [if_pos hR]
   have hA1 : takAt b at_ 1 = at_ + 1 := by unfold takAt; rw [if_pos hR]; rfl
   cases fL l ((n + 1 : Nat) : Int) ((2 * c + takN b at_ 1 : Nat) : Int) l.length with
   | some i => exact ⟨hA, fun _ => by simp only; omega⟩
   | none =>
    have ih := dec_at l b f (n + 1) (2 * c + takN b at_ 1) (takAt b at_ 1)
    simp only
    exact ⟨by omega, fun h => by have := ih.2 h; omega⟩
  ·rw [if_neg hR]
   exact ⟨hA, fun h => absurd h hR⟩
theorem nxt_at (l : List Int) (b : List UInt8) (at_ : Nat) : at_ <= (nxt l b at_).2.2 /\ ((nxt l b at_).2.1 = 0 -> at_ < (nxt l b at_).2.2) := by
 unfold nxt
 split
 ·exact dec_at l b 15 0 0 at_
 ·exact ⟨Nat.le_refl _, fun h => by cases h⟩
theorem takAt_le (b : List UInt8) (at_ : Nat) (k : Int) : at_ <= takAt b at_ k := by unfold takAt; split <;> omega
def copyL (out : List UInt8) (far : Nat) : Nat -> List UInt8
 | 0 => out
 | k + 1 => copyL out far k ++ [(copyL out far k).getD ((copyL out far k).length - far) 0]
theorem copyL_len (out : List UInt8) (far : Nat) : ∀ k, (copyL out far k).length = out.length + k
 | 0 => rfl
 | k + 1 => by rw [copyL, List.length_append, copyL_len out far k, List.length_singleton]; omega
def mRound (la lb : List Int) (b : List UInt8) (most : Int) (at_ : Nat) (out : List UInt8) : Except Int (Bool × Nat × List UInt8) :=
 let x := nxt la b at_
 if x.2.1 ≠ 0 then .error x.2.1 else
 if x.1 = 256 then .ok (true, x.2.2, out) else
 if x.1 < 256 then (if ¬ (1 : Int) <= most - out.length then .error 6 else .ok (false, x.2.2, out ++ [UInt8.ofNat x.1.toNat])) else
 if ¬ 0 < (bL x.1).1 then .error 30 else
 if takR b x.2.2 (bL x.1).2 ≠ 0 then .error (takR b x.2.2 (bL x.1).2) else
 let y := nxt lb b (takAt b x.2.2 (bL x.1).2)
 if y.2.1 ≠ 0 then .error y.2.1 else
 if ¬ 0 < (bD y.1).1 then .error 30 else
 if takR b y.2.2 (bD y.1).2 ≠ 0 then .error (takR b y.2.2 (bD y.1).2) else
 if ¬ (bD y.1).1 + takN b y.2.2 (bD y.1).2 <= out.length then .error 31 else
 if ¬ (bL x.1).1 + takN b x.2.2 (bL x.1).2 <= most - out.length then .error 6 else
 .ok (false, takAt b y.2.2 (bD y.1).2, copyL out ((bD y.1).1 + takN b y.2.2 (bD y.1).2).toNat ((bL x.1).1 + takN b x.2.2 (bL x.1).2).toNat)
def mSyms (la lb : List Int) (b : List UInt8) (most : Int) : Nat -> Nat -> List UInt8 -> Except Int (Nat × List UInt8)
 | 0, _, _ => .error 20
 | f + 1, at_, out => match mRound la lb b most at_ out with
  | .error e => .error e
  | .ok (true, a, o) => .ok (a, o)
  | .ok (false, a, o) => mSyms la lb b most f a o
theorem dec_val (l : List Int) (b : List UInt8) : ∀ f n c at_, 0 <= (dec l b f n c at_).1 /\ (dec l b f n c at_).1 <= l.length
 | 0, n, c, at_ => by simp [dec]
 | f + 1, n, c, at_ => by
  unfold dec
  split
  ·cases h : fL l ((n + 1 : Nat) : Int) ((2 * c + takN b at_ 1 : Nat) : Int) l.length with
   | some i => have := (fL_sound h).1; simp only; omega
   | none => exact dec_val l b f _ _ _
  ·simp
theorem nxt_val (l : List Int) (b : List UInt8) (at_ : Nat) : 0 <= (nxt l b at_).1 /\ (nxt l b at_).1 <= l.length := by
 unfold nxt
 split
 ·exact dec_val l b 15 0 0 at_
 ·simp
theorem bL_b (s : Int) (h : 0 <= s) : 0 <= (bL s).1 /\ (bL s).1 <= 1099511627776 /\ 0 <= (bL s).2 := by
 unfold bL
 split
 ·simp
 ·split
  ·simp
  ·split
   ·simp only; omega
   ·rename_i h1 h2 h3
    have e : ((2 ^ ((s - 257) / 4 - 1).toNat : Nat) : Int) <= 32768 := by
     have := pow15 (show ((s - 257) / 4 - 1).toNat <= 15 by omega)
     omega
    have e0 : (0 : Int) <= ((2 ^ ((s - 257) / 4 - 1).toNat : Nat) : Int) := Int.natCast_nonneg _
    obtain ⟨E, hE⟩ : ∃ E : Int, E = ((2 ^ ((s - 257) / 4 - 1).toNat : Nat) : Int) := ⟨_, rfl⟩
    rw [<- hE] at e e0 ⊢
    have h6 : (4 + (s - 257) % 4) * E <= 8 * 32768 := Int.mul_le_mul (by omega) (by omega) (by omega) (by omega)
    have h7 : 0 <= (4 + (s - 257) % 4) * E := Int.mul_nonneg (by omega) (by omega)
    simp only; omega
theorem bD_b (s : Int) (h : 0 <= s) : 0 <= (bD s).1 /\ (bD s).1 <= 1099511627776 /\ 0 <= (bD s).2 := by
 unfold bD
 split
 ·simp
 ·split
  ·simp only; omega
  ·rename_i h1 h2
   have e : ((2 ^ (s / 2 - 1).toNat : Nat) : Int) <= 32768 := by
    have := pow15 (show (s / 2 - 1).toNat <= 15 by omega)
    omega
   have e0 : (0 : Int) <= ((2 ^ (s / 2 - 1).toNat : Nat) : Int) := Int.natCast_nonneg _
   obtain ⟨E, hE⟩ : ∃ E : Int, E = ((2 ^ (s / 2 - 1).toNat : Nat) : Int) := ⟨_, rfl⟩
   rw [<- hE] at e e0 ⊢
   have h6 : (2 + s % 2) * E <= 8 * 32768 := Int.mul_le_mul (by omega) (by omega) (by omega) (by omega)
   have h7 : 0 <= (2 + s % 2) * E := Int.mul_nonneg (by omega) (by omega)
   simp only; omega
theorem takN32 (b : List UInt8) (at_ : Nat) (k : Int) : takN b at_ k < 4294967296 := by
 unfold takN
 split
 ·rename_i h
  have hk : k.toNat <= 32 := by
   unfold takR at h
   split at h
   ·cases h
   ·omega
  exact Nat.lt_of_lt_of_le (tak_lt _ _ _) (Nat.le_trans (Nat.pow_le_pow_right (by omega) hk) (by decide))
 ·omega
theorem ite_err {α : Type} {c : Prop} [Decidable c] {e : Int} {x : Except Int α} {v : α} (h : (if c then .error e else x) = .ok v) : ¬ c /\ x = .ok v := by
 by_cases hc : c
 ·rw [if_pos hc] at h; cases h
 ·rw [if_neg hc] at h; exact ⟨hc, h⟩
theorem mRound_ok {la lb : List Int} {b : List UInt8} {most : Int} {at_ : Nat} {out : List UInt8} {t : Bool} {a : Nat} {o : List UInt8} (h : mRound la lb b most at_ out = .ok (t, a, o)) (h0 : (out.length : Int) <= most) : (o.length : Int) <= most := by
 have ho : ∀ {t' : Bool} {a' : Nat} {o' : List UInt8}, (Except.ok (t', a', o') : Except Int (Bool × Nat × List UInt8)) = .ok (t, a, o) -> o' = o := fun e => (Prod.mk.inj (Prod.mk.inj (Except.ok.inj e)).2).2
 unfold mRound at h
 simp only at h
 obtain ⟨_, h⟩ := ite_err h
 by_cases c1 : (nxt la b at_).1 = 256
 ·rw [if_pos c1] at h
  rw [<- ho h]; exact h0
 rw [if_neg c1] at h
 by_cases c2 : (nxt la b at_).1 < 256
 ·rw [if_pos c2] at h
  obtain ⟨c3, h⟩ := ite_err h
  rw [<- ho h, List.length_append, List.length_singleton]; omega
 rw [if_neg c2] at h
 obtain ⟨_, h⟩ := ite_err h
 obtain ⟨_, h⟩ := ite_err h
 obtain ⟨_, h⟩ := ite_err h
 obtain ⟨_, h⟩ := ite_err h
 obtain ⟨_, h⟩ := ite_err h
 obtain ⟨_, h⟩ := ite_err h
 obtain ⟨c3, h⟩ := ite_err h
 rw [<- ho h, copyL_len]
 generalize (bL (nxt la b at_).1).1 + (takN b (nxt la b at_).2.2 (bL (nxt la b at_).1).2 : Int) = E at c3 ⊢
 omega
theorem mSyms_ok {la lb : List Int} {b : List UInt8} {most : Int} : ∀ (f : Nat) {at_ : Nat} {out : List UInt8} {a : Nat} {o : List UInt8}, mSyms la lb b most f at_ out = .ok (a, o) -> (out.length : Int) <= most -> (o.length : Int) <= most
 | 0, _, _, _, _, h, _ => by cases h
 | f + 1, at_, out, a, o, h, h0 => by
  rw [mSyms] at h
  split at h
  ·cases h
  ·rename_i hr
   cases h
   exact mRound_ok hr h0
  ·rename_i hr
   exact mSyms_ok f h (mRound_ok hr h0)
def mS (la lb : List Int) (b : List UInt8) (most : Int) (at_ : Nat) (out : List UInt8) : Except Int (Nat × List UInt8) := mSyms la lb b most (8 * b.length + 1 - at_) at_ out
theorem symbols {W : World} {p pa pb at_ : Nat} {la lb : List Int} {b out : List UInt8} {most : Int} (hla : la.length <= 320) (hlb : lb.length <= 320) (h1 : 0 <= most /\ most <= 1048576) (h2 : (out.length : Int) <= most) :
  CnP p_ 156 [.pointer (some ⟨p, 0, none⟩), .pointer (some ⟨pa, 0, none⟩), .pointer (some ⟨pb, 0, none⟩)] W [IsS p b at_ out most, IsDec pa la, IsDec pb lb]
   (fun _ : Ok (mS la lb b most at_ out) => .tuple #[]) (fun x => [IsS p b x.1.1 x.1.2 most]) (fun y : Er (mS la lb b most at_ out) => pn y.1) (fun _ => []) := by
 (refine S.inflate_stream_symbols_s.cnP fun F => ?_; unfold S.inflate_stream_symbols; simp only [ca_, na_, -eq_self])
 obtain ⟨R, hR⟩ : ∃ R, R = mS la lb b most at_ out := ⟨_, rfl⟩
 rw [<- hR]
 refine e_loop0 (fun m => [ex fun at1 : Nat => ex fun o1 : List UInt8 => all [pu (8 * b.length + 1 <= m + at1 /\ R = mSyms la lb b most m at1 o1 /\ (o1.length : Int) <= most), IsS p b at1 o1 most, IsDec pa la, IsDec pb lb]] ++ F) (8 * b.length + 1 - at_) ?_ ?_
 ·refine .ex at_ (.ex out (.all ?_))
  refine nr_ ?_
  refine .pu ⟨by omega, hR, h2⟩ ?_
  exact .pick (by repeat constructor) (.pick (by repeat constructor) (.pick (by repeat constructor) .refl))
 clear hR h2
 intro m ds
 refine nr_ ?_
 refine e_ex Pick.here fun at1 => e_ex Pick.here fun o1 => e_all Pick.here ?_
 refine nr_ ?_
 refine e_pu Pick.here fun hi => ?_
 obtain ⟨hm, hR, h2⟩ := hi
 refine e_ex Pick.here fun q => e_all Pick.here ?_
 obtain ⟨r, qa, qc⟩ := q
 refine nr_ ?_
 refine e_rfact (.there .here) fun hat => ?_
 obtain ⟨m, rfl⟩ : ∃ m', m = m' + 1 := ⟨m - 1, by omega⟩
 rw [mSyms] at hR
 have hM : mRound la lb b most at1 o1 = mRound la lb b most at1 o1 := rfl
 conv at hM => rhs; unfold mRound
 simp only at hM
 refine o_ v_nil (o_ v_fa0 (ln_ ?_))
 (refine' e_callP (inext) ?hp (fun _ => ?_) (fun _ => ?_); (case hp => (repeat (first | exact Picks.nil | (apply Picks.cons; (focus repeat constructor))))); (all_goals (try simp only [ca_, na_, Bool.not_true, Bool.not_false, -eq_self])))
 rotate_left
 ·rename_i y
  rw [if_pos y.2] at hM
  rw [hM] at hR
  refine e_pan ⟨_, hR⟩ rfl ?_
  exact im_
 rename_i x1
 rw [if_neg (fun c => c x1.2)] at hM
 have hv := nxt_val la b at1
 have hlt := (nxt_at la b at1).2 x1.2
 obtain ⟨x, hx⟩ : ∃ x, x = (nxt la b at1).1 := ⟨_, rfl⟩
 obtain ⟨a2, ha2⟩ : ∃ a2, a2 = (nxt la b at1).2.2 := ⟨_, rfl⟩
 rw [<- hx] at hv
 rw [<- ha2] at hlt
 rw [<- hx, <- ha2] at hM ⊢
 refine e_imp (M := IsS p b a2 o1 most :: IsDec pa la :: IsDec pb lb :: F) (.ex (r, (qa, qc)) (.all (.pick (by repeat constructor) (.pick (by repeat constructor) (.pick (by repeat constructor) im_))))) ?_
 refine e_ask v_eql .nil (fun h => ?_) (fun h => ?_)
 ·rw [if_pos h] at hM
  rw [hM] at hR
  refine e_condT (rt_ ((⟨_, hR⟩ : Ok R)) ?_)
  exact im_
 rw [if_neg h] at hM
 refine e_condF (e_ask v_lss .nil (fun h => ?_) (fun h => ?_))
 ·rw [if_pos h] at hM
  refine e_condT ?_
  (refine' e_callP (room (most := most) (out := o1) (by omega) (by omega)) ?hp (fun _ => ?_) (fun _ => ?_); (case hp => (repeat (first | exact Picks.nil | (apply Picks.cons; (focus repeat constructor))))); (all_goals (try simp only [ca_, na_, Bool.not_true, Bool.not_false, -eq_self])))
  rotate_left
  ·rename_i y
   rw [if_pos y.2] at hM
   rw [hM] at hR
   refine e_pan ⟨_, hR⟩ rfl ?_
   exact im_
  rename_i x2
  have h3 := x2.2
  rw [if_neg (fun c => c x2.2)] at hM
  rw [hM] at hR
  simp only at hR
  refine e_ex Pick.here fun q => e_all Pick.here ?_
  obtain ⟨r, qa, qc⟩ := q
  refine nr_ ?_
  obtain ⟨X, rfl⟩ := Int.eq_ofNat_of_zero_le hv.1
  refine o_ v_nil (o_ v_fa0 (ln_ ?_))
  refine o_ v_conv ?_
  rw [wrap8 (by omega), <- B_ofNat (by omega)]
  refine e_bsl1 fun g => ?_
  refine e_app (m := 1) (news := [Sl.B (UInt8.ofNat X)]) (by repeat constructor) (src_pt (e' := 5) (by kernel_rfl) .here (by rfl) (B_one (l := [UInt8.ofNat X]))) (by omega) (by omega) fun a' c' => ?_
  refine o_ v_nil (o_ v_fa0 (sn_ ?_))
  refine e_next0 m (by omega) (.ex a2 (.ex (o1 ++ [UInt8.ofNat X]) (.all ?_)))
  refine nr_ ?_
  refine .pu ⟨by omega, hR, by rw [List.length_append, List.length_singleton]; omega⟩ ?_
  refine .ex (r, (a', c')) (.all ?_)
  refine nr_ ?_
  rw [List.length_append, List.map_append, List.length_singleton]
  exact .pick (by repeat constructor) (.pick (by repeat constructor) (.pick (by repeat constructor) (.pick (by repeat constructor) (.pick (by repeat constructor) im_))))
 rw [if_neg h] at hM
 refine e_condF ?_
 have hbl := bL_b x (by omega)
 refine c_ (baseLength (by omega)) fun _ => ?_
 obtain ⟨base, hbase⟩ : ∃ base, base = (bL x).1 := ⟨_, rfl⟩
 obtain ⟨n, hn⟩ : ∃ n, n = (bL x).2 := ⟨_, rfl⟩
 rw [<- hbase, <- hn] at hM hbl ⊢
 refine o_ (v_ext (v := .int .i64 base) rfl) ?_
 refine o_ (v_ext (v := .int .i64 n) rfl) ?_
 refine o_ v_gtr ?_
 (refine' e_callP (demand) ?hp (fun _ => ?_) (fun _ => ?_); (case hp => (repeat (first | exact Picks.nil | (apply Picks.cons; (focus repeat constructor))))); (all_goals (try simp only [ca_, na_, Bool.not_true, Bool.not_false, -eq_self])))
 rotate_left
 ·rename_i y
  rw [if_pos (of_decide_eq_false y.2)] at hM
  rw [hM] at hR
  refine e_pan ⟨_, hR⟩ rfl ?_
  exact im_
 rename_i x3
 rw [if_neg (fun c => c (of_decide_eq_true x3.2))] at hM
 (refine' e_callP (stake) ?hp (fun _ => ?_) (fun _ => ?_); (case hp => (repeat (first | exact Picks.nil | (apply Picks.cons; (focus repeat constructor))))); (all_goals (try simp only [ca_, na_, Bool.not_true, Bool.not_false, -eq_self])))
 rotate_left
 ·rename_i y
  rw [if_pos y.2] at hM
  rw [hM] at hR
  refine e_pan ⟨_, hR⟩ rfl ?_
  exact im_
 rename_i x4
 rw [if_neg (fun c => c x4.2)] at hM
 have ht1 := takN32 b a2 n
 obtain ⟨t1, ht⟩ : ∃ t1, t1 = takN b a2 n := ⟨_, rfl⟩
 have hlt3 := takAt_le b a2 n
 obtain ⟨a3, ha3⟩ : ∃ a3, a3 = takAt b a2 n := ⟨_, rfl⟩
 rw [<- ht] at ht1
 rw [<- ha3] at hlt3
 rw [<- ht, <- ha3] at hM ⊢
 refine ad_ ?_; refine o_ v_nil (o_ v_fa0 (e_ex Pick.here fun q => e_all Pick.here ?_))
 obtain ⟨r, qa, qc⟩ := q
 refine nr_ ?_
 refine ln_ ?_
 (refine' e_callP (inext) ?hp (fun _ => ?_) (fun _ => ?_); (case hp => (repeat (first | exact Picks.nil | (apply Picks.cons; (focus repeat constructor))))); (all_goals (try simp only [ca_, na_, Bool.not_true, Bool.not_false, -eq_self])))
 rotate_left
 ·rename_i y
  rw [if_pos y.2] at hM
  rw [hM] at hR
  refine e_pan ⟨_, hR⟩ rfl ?_
  exact im_
 rename_i x5
 rw [if_neg (fun c => c x5.2)] at hM
 have hv5 := nxt_val lb b a3
 have hlt5 := (nxt_at lb b a3).2 x5.2
 obtain ⟨y1, hy1⟩ : ∃ x, x = (nxt lb b a3).1 := ⟨_, rfl⟩
 obtain ⟨a4, ha4⟩ : ∃ a2, a2 = (nxt lb b a3).2.2 := ⟨_, rfl⟩
 rw [<- hy1] at hv5
 rw [<- ha4] at hlt5
 rw [<- hy1, <- ha4] at hM ⊢
 refine e_imp (M := IsS p b a4 o1 most :: IsDec pa la :: IsDec pb lb :: F) (.ex (r, (qa, qc)) (.all (.pick (by repeat constructor) (.pick (by repeat constructor) (.pick (by repeat constructor) im_))))) ?_
 have hbd := bD_b y1 (by omega)
 refine c_ baseDistance fun _ => ?_
 obtain ⟨dist, hdist⟩ : ∃ base, base = (bD y1).1 := ⟨_, rfl⟩
 obtain ⟨k, hk⟩ : ∃ n, n = (bD y1).2 := ⟨_, rfl⟩
 rw [<- hdist, <- hk] at hM hbd ⊢
 refine o_ (v_ext (v := .int .i64 dist) rfl) ?_
 refine o_ (v_ext (v := .int .i64 k) rfl) ?_
 refine o_ v_gtr ?_
 (refine' e_callP (demand) ?hp (fun _ => ?_) (fun _ => ?_); (case hp => (repeat (first | exact Picks.nil | (apply Picks.cons; (focus repeat constructor))))); (all_goals (try simp only [ca_, na_, Bool.not_true, Bool.not_false, -eq_self])))
 rotate_left
 ·rename_i y
  rw [if_pos (of_decide_eq_false y.2)] at hM
  rw [hM] at hR
  refine e_pan ⟨_, hR⟩ rfl ?_
  exact im_
 rename_i x6
 have hd0 := of_decide_eq_true x6.2
 rw [if_neg (fun c => c (of_decide_eq_true x6.2))] at hM
 (refine' e_callP (stake) ?hp (fun _ => ?_) (fun _ => ?_); (case hp => (repeat (first | exact Picks.nil | (apply Picks.cons; (focus repeat constructor))))); (all_goals (try simp only [ca_, na_, Bool.not_true, Bool.not_false, -eq_self])))
 rotate_left
 ·rename_i y
  rw [if_pos y.2] at hM
  rw [hM] at hR
  refine e_pan ⟨_, hR⟩ rfl ?_
  exact im_
 rename_i x7
 rw [if_neg (fun c => c x7.2)] at hM
 have ht7 := takN32 b a4 k
 obtain ⟨t2, htt⟩ : ∃ t1, t1 = takN b a4 k := ⟨_, rfl⟩
 have hlt7 := takAt_le b a4 k
 obtain ⟨a5, ha5⟩ : ∃ a3, a3 = takAt b a4 k := ⟨_, rfl⟩
 rw [<- htt] at ht7
 rw [<- ha5] at hlt7
 rw [<- htt, <- ha5] at hM ⊢
 refine ad_ ?_; refine o_ v_nil (o_ v_fa0 (e_ex Pick.here fun q => e_all Pick.here ?_))
 obtain ⟨r, qa, qc⟩ := q
 refine nr_ ?_
 refine ln_ ?_; refine o_ v_len (o_ v_leq ?_)
 (refine' e_callP (demand) ?hp (fun _ => ?_) (fun _ => ?_); (case hp => (repeat (first | exact Picks.nil | (apply Picks.cons; (focus repeat constructor))))); (all_goals (try simp only [ca_, na_, Bool.not_true, Bool.not_false, -eq_self])))
 rotate_left
 ·rename_i y
  rw [if_pos (of_decide_eq_false y.2)] at hM
  rw [hM] at hR
  refine e_pan ⟨_, hR⟩ rfl ?_
  exact im_
 rename_i x8
 have hfar := of_decide_eq_true x8.2
 rw [if_neg (fun c => c (of_decide_eq_true x8.2))] at hM
 refine e_imp (M := IsS p b a5 o1 most :: IsDec pa la :: IsDec pb lb :: F) (.ex (r, (qa, qc)) (.all (.pick (by repeat constructor) (.pick (by repeat constructor) (.pick (by repeat constructor) im_))))) ?_
 (refine' e_callP (room (most := most) (out := o1) (by omega) (by omega)) ?hp (fun _ => ?_) (fun _ => ?_); (case hp => (repeat (first | exact Picks.nil | (apply Picks.cons; (focus repeat constructor))))); (all_goals (try simp only [ca_, na_, Bool.not_true, Bool.not_false, -eq_self])))
 rotate_left
 ·rename_i y
  rw [if_pos y.2] at hM
  rw [hM] at hR
  refine e_pan ⟨_, hR⟩ rfl ?_
  exact im_
 rename_i x9
 have hroom := x9.2
 rw [if_neg (fun c => c x9.2)] at hM
 rw [hM] at hR
 simp only at hR
 obtain ⟨far, hfarE⟩ : ∃ far : Nat, far = (dist + (t2 : Int)).toNat := ⟨_, rfl⟩
 obtain ⟨len, hlenE⟩ : ∃ len : Nat, len = (base + (t1 : Int)).toNat := ⟨_, rfl⟩
 rw [<- hfarE, <- hlenE] at hR
 rw [show dist + (t2 : Int) = (far : Int) by omega, show base + (t1 : Int) = (len : Int) by omega]
 refine e_loop1 (fun m2 y => [ex fun i : Nat => all [pu (m2 + i = len /\ y = .int .i64 (i : Int)), IsS p b a5 (copyL o1 far i) most, IsDec pa la, IsDec pb lb]] ++ F) len ?_ ?_
 ·refine .ex 0 (.all ?_)
  refine nr_ ?_
  refine .pu ⟨by omega, rfl⟩ ?_
  exact .pick (by repeat constructor) (.pick (by repeat constructor) (.pick (by repeat constructor) .refl))
 intro m2 ds y
 refine nr_ ?_
 refine e_ex Pick.here fun i => e_all Pick.here ?_
 refine nr_ ?_
 refine e_pu Pick.here fun hi => ?_
 obtain ⟨hmi, rfl⟩ := hi
 have hcl := copyL_len o1 far i
 refine e_ask v_lss .nil (fun h => ?_) (fun h => ?_)
 ·refine e_condT (e_ex Pick.here fun q => e_all Pick.here ?_)
  obtain ⟨r, qa, qc⟩ := q
  refine nr_ ?_
  refine e_slfacts (.there (.there .here)) fun f1 f2 f3 f4 => ?_
  obtain ⟨C, hC⟩ : ∃ C, C = copyL o1 far i := ⟨_, rfl⟩
  rw [<- hC] at hcl f4 ⊢
  obtain ⟨gq, rfl⟩ := f4 (by omega)
  have hj : C.length - far < C.length := by omega
  refine e_drS (e_stD v_nil .nil ?_); refine e_stD v_fa0 .nil ?_; (((refine' e_stD (v_ldN ?hc) ?hi ?_); (case hi => exact .pick (by repeat constructor) .nil); (case hc => repeat constructor))); refine t_ v_nil (t_ v_fa0 (ls_ ?_)); refine t_ v_nil (t_ v_fa0 (ls_ ?_)); refine t_ v_len ?_; (refine t_ (v_sub (by omega) (by omega)) ?_)
  refine t_ (v_ia1 (C.length - far) (by omega) hj) ?_
  refine p_st (v_ldSl (v := Sl.B C[C.length - far]) (by rw [Nat.zero_add]; exact B_get hj)) ?_
  refine e_bsl1 fun g => ?_
  refine ob_ ?_; refine ob_ ?_; refine ob_ ?_
  refine e_app (m := 1) (news := [Sl.B C[C.length - far]]) (by repeat constructor) (src_pt (e' := 5) (by kernel_rfl) .here (by rfl) (B_one (l := [C[C.length - far]]))) (by omega) (by omega) fun a' c' => ?_
  refine t_ v_nil (t_ v_fa0 (sn_ ?_)); refine ad_ ?_
  refine e_next1 (m2 - 1) (by omega) (.ex (i + 1) (.all ?_))
  refine nr_ ?_
  refine .pu ⟨by omega, congrArg (Value.int .i64) (by omega)⟩ ?_
  refine .ex (r, (a', c')) (.all ?_)
  refine nr_ ?_
  rw [show copyL o1 far (i + 1) = C ++ [C[C.length - far]] by rw [copyL, <- hC, List.getD_eq_getElem?_getD, List.getElem?_eq_getElem hj]; rfl]
  rw [List.length_append, List.map_append, List.length_singleton]
  exact .pick (by repeat constructor) (.pick (by repeat constructor) (.pick (by repeat constructor) (.pick (by repeat constructor) (.pick (by repeat constructor) im_))))
 ·have : i = len := by omega
  subst this
  refine e_condF (e_next0 m (by omega) (.ex a5 (.ex (copyL o1 far i) (.all ?_))))
  refine nr_ ?_
  refine .pu ⟨by omega, hR, by omega⟩ ?_
  exact .pick (by repeat constructor) (.pick (by repeat constructor) (.pick (by repeat constructor) .refl))
end Go.Proofs.YthoeeahdkdcceaaGreat.IF
namespace Go.Proofs.YthoeeahdkdcceaaGreat.HF
open Go Go.Proofs Go.RowKit Sh Sl T HM B M
def sym (cs ls : List Int) (s : Int) : Option (Int × Nat) :=
 if s < 0 then none else match cs[s.toNat]?, ls[s.toNat]? with
 | some c, some n => if 1 <= n /\ n <= 15 /\ 0 <= c /\ c < 2 ^ n.toNat then some (c, n.toNat) else none
 | _, _ => none
def phR (cs ls : List Int) (s : Int) (L : List Bool) : Int := match sym cs ls s with
 | some p => putR L (rv p.1 p.2) p.2
 | none => 1
def phL (cs ls : List Int) (s : Int) (L : List Bool) : List Bool := match sym cs ls s with
 | some p => putL L (rv p.1 p.2) p.2
 | none => L
theorem sym_at {cs ls : List Int} {N : Nat} (h1 : N < cs.length) (h2 : N < ls.length) : sym cs ls N = if 1 <= ls[N] /\ ls[N] <= 15 /\ 0 <= cs[N] /\ cs[N] < 2 ^ ls[N].toNat then some (cs[N], ls[N].toNat) else none := by
 unfold sym
 rw [if_neg (by omega), Int.toNat_natCast, List.getElem?_eq_getElem h1, List.getElem?_eq_getElem h2]
theorem sym_out {cs ls : List Int} {s : Int} (h : s < 0 \/ (cs.length : Int) <= s \/ (ls.length : Int) <= s) : sym cs ls s = none := by
 unfold sym
 by_cases h0 : s < 0
 ·rw [if_pos h0]
 ·rw [if_neg h0]
  rcases h with h | h | h
  ·exact absurd h h0
  ·rw [List.getElem?_eq_none (by omega)]
  ·rw [List.getElem?_eq_none (l := ls) (by omega)]
   cases cs[s.toNat]? <;> rfl
theorem lim_nat {n : Nat} (h : n <= 15) : lim (n : Int) = n := by unfold lim; rw [if_neg (by omega)]; simp
section
variable {W : World} {A A2 : HP} {a1 a2 : Option Addr} {c1 c2 : Nat} {cs ls : List Int} {s : Int}
theorem hput {p : Nat} {L : List Bool} (h1 : RdB W A a1 cs.length (cs.map I)) (h2 : RdB W A2 a2 ls.length (ls.map I)) :
  Cn p_ 108 [.pointer (some ⟨p, 0, none⟩), .slice a1 cs.length c1, .slice a2 ls.length c2, .int .i64 s] W [IsW p L, A, A2] (fun _ : Unit => .int .i64 (phR cs ls s L)) (fun _ => [IsW p (phL cs ls s L), A, A2]) := by
 (refine S.huff_Put_s.cn fun F => ?_; unfold S.huff_Put; simp only [ca_, na_])
 have bad : sym cs ls s = none -> Ent W (IsW p L :: A :: A2 :: F) (fun w => ∃ x : Unit, (Value.int .i64 1) = .int .i64 (phR cs ls s L) /\ sat W ([IsW p (phL cs ls s L), A, A2] ++ F) w) := fun hn => by
  refine e_ret () (by unfold phR; rw [hn]) ?_
  unfold phL
  rw [hn]
  exact .refl
 refine e_ask v_lss .nil (fun h => ?_) (fun h => ?_)
 ·(refine e_gdF1 ?_); refine e_gdF1 ?_; refine e_gdF1 ?_; refine e_gdF1 ?_; refine e_gdF1 ?_; refine e_gdF1 ?_; refine e_gdF1 ?_; refine o_ v_pickT ?_; refine e_condT ?_
  exact bad (sym_out (.inl h))
 have h0 := h
 refine e_gdT (e_gdT (e_gdT (o_ v_len (e_gdT (e_gdT (o_ v_len (e_gdT (o_ v_min (e_gdT (e_ask v_geq .nil (fun h => ?_) (fun h => ?_)))))))))))
 ·(refine o_ v_pickF ?_); refine e_condT ?_
  exact bad (sym_out (by split at h <;> omega))
 obtain ⟨N, rfl⟩ := Int.eq_ofNat_of_zero_le (show 0 <= s by omega)
 have hN1 : N < cs.length := by split at h <;> omega
 have hN2 : N < ls.length := by split at h <;> omega
 have hsym := sym_at hN1 hN2
 obtain ⟨g1, o1, rfl, _⟩ := h1.at_ (by omega)
 obtain ⟨g2, o2, rfl, _⟩ := h2.at_ (by omega)
 obtain ⟨c, hc⟩ : ∃ c, c = cs[N] := ⟨_, rfl⟩
 obtain ⟨n, hn⟩ : ∃ n, n = ls[N] := ⟨_, rfl⟩
 have g1' := I_get hN1
 have g2' := I_get hN2
 rw [<- hc] at hsym g1'
 rw [<- hn] at hsym g2'
 refine o_ v_pickF (e_condF (e_drS (t_ (v_ia1 N (by rfl) hN1) ?_)))
 refine p_st (v_ldRd h1 g1') ?_
 refine t_ (v_ia1 N (by rfl) hN2) ?_
 refine p_st (v_ldRd h2 g2') ?_
 refine e_ask v_lss .nil (fun h => ?_) (fun h => ?_)
 ·(refine e_gdF1 ?_); refine e_gdF1 ?_; refine o_ v_pickT ?_; refine e_gdF1 ?_; refine e_gdF1 ?_; refine o_ v_pickT ?_; refine e_gdF1 ?_; refine e_gdF1 ?_; refine e_gdF1 ?_; refine e_gdF1 ?_; refine e_gdF1 ?_; refine o_ v_pickT ?_; refine e_condT ?_
  exact bad (by rw [hsym, if_neg (by omega)])
 have i1 := h
 refine e_gdT (e_gdT (e_ask v_gtr .nil (fun h => ?_) (fun h => ?_)))
 ·(refine o_ v_pickF ?_); refine e_gdF1 ?_; refine e_gdF1 ?_; refine o_ v_pickT ?_; refine e_gdF1 ?_; refine e_gdF1 ?_; refine e_gdF1 ?_; refine e_gdF1 ?_; refine e_gdF1 ?_; refine o_ v_pickT ?_; refine e_condT ?_
  exact bad (by rw [hsym, if_neg (by omega)])
 have i2 := h
 refine o_ v_pickF (e_gdT (e_gdT (e_ask v_lss .nil (fun h => ?_) (fun h => ?_))))
 ·(refine o_ v_pickF ?_); refine e_gdF1 ?_; refine e_gdF1 ?_; refine e_gdF1 ?_; refine e_gdF1 ?_; refine e_gdF1 ?_; refine o_ v_pickT ?_; refine e_condT ?_
  exact bad (by rw [hsym, if_neg (by omega)])
 have i3 := h
 obtain ⟨m, rfl⟩ := Int.eq_ofNat_of_zero_le (show 0 <= n by omega)
 rw [Int.toNat_natCast] at hsym
 refine o_ v_pickF (e_gdT (e_gdT (e_gdT (o_ v_conv ?_))))
 rw [wrapu64' (by omega) (by omega)]
 refine e_gdT (o_ (v_shl (by omega)) ?_)
 rw [shl64 (by omega) (by omega) (by omega), Int.one_mul]
 have e2 : ((2 ^ m : Nat) : Int) = (2 : Int) ^ m := Int.natCast_pow 2 m
 rw [e2]
 refine e_gdT (e_ask v_geq .nil (fun h => ?_) (fun h => ?_))
 ·(refine o_ v_pickF ?_); refine e_condT ?_
  exact bad (by rw [hsym, if_neg (fun c => by have := c.2.2.2; omega)])
 have hs : sym cs ls N = some (c, m) := by rw [hsym, if_pos ⟨by omega, by omega, by omega, by omega⟩]
 refine o_ v_pickF (e_condF (c_ reverse fun _ => ?_))
 rw [lim_nat (show m <= 15 by omega)]
 refine c_ put fun _ => ?_
 refine e_ret () (by unfold phR; rw [hs]) ?_
 unfold phL
 rw [hs]
 exact im_
end
end Go.Proofs.YthoeeahdkdcceaaGreat.HF
namespace Go.Proofs.YthoeeahdkdcceaaGreat.B
open Go Sl M
theorem testBit_val : ∀ (l : List Bool) (i : Nat), (val l).testBit i = l.getD i false
 | [], i => by simp [val]
 | b :: l, 0 => by
  rw [Nat.testBit_zero]
  cases b <;> simp [val] <;> omega
 | b :: l, i + 1 => by
  have : val (b :: l) / 2 = val l := by cases b <;> simp [val] <;> omega
  rw [Nat.testBit_succ, this, testBit_val l i]; simp
theorem ub_pk (L : List Bool) : ub (pk L) = padTo8 L := by
 have hl : (ub (pk L)).length = (padTo8 L).length := by rw [length_ub, length_pk, length_pad]
 apply List.ext_getElem? 
 intro i
 by_cases h : i / 8 < (pk L).length
 ·rw [ub_get h]
  have h2 : (pk L)[i / 8] = UInt8.ofNat (byteAt L (i / 8)) := by simp [pk, pkn]
  rw [h2, UInt8.toNat_ofNat', Nat.mod_eq_of_lt (byteAt_lt _ _)]
  unfold byteAt
  rw [testBit_val]
  have h3 : i < (padTo8 L).length := by rw [length_pad]; rw [length_pk] at h; omega
  rw [List.getD_eq_getElem?_getD, List.getElem?_take, if_pos (by omega), List.getElem?_drop, show 8 * (i / 8) + i % 8 = i by omega]
  rw [length_pad] at h3
  unfold padTo8
  by_cases c : i < L.length
  ·rw [List.getElem?_append_left c, List.getElem?_eq_getElem c]; rfl
  ·rw [List.getElem?_eq_none (by omega), List.getElem?_append_right (by omega), List.getElem?_replicate, if_pos (by omega)]; rfl
 ·have h1 : (ub (pk L)).length <= i := by rw [length_ub]; omega
  rw [List.getElem?_eq_none h1, List.getElem?_eq_none (by rw [<- hl]; exact h1)]
end Go.Proofs.YthoeeahdkdcceaaGreat.B
namespace Go.Proofs.YthoeeahdkdcceaaGreat.HF
open Go Go.Proofs Go.RowKit Sh Sl HM B M
theorem bitsOf_val : ∀ x : List Bool, bitsOf (val x) x.length = x := fun x => by
 apply List.ext_getElem?
 intro j
 by_cases h : j < x.length
 ·rw [List.getElem?_eq_getElem h]
  unfold bitsOf
  rw [List.getElem?_map, List.getElem?_range h, Option.map_some, testBit_val, List.getD_eq_getElem?_getD, List.getElem?_eq_getElem h]; rfl
 ·rw [List.getElem?_eq_none (by rw [length_bitsOf]; omega), List.getElem?_eq_none (by omega)]
theorem bitsOf_rv (c : Int) (n : Nat) : bitsOf (rv c n) n = (bl c n).reverse := by
 have := bitsOf_val (bl c n).reverse
 rw [List.length_reverse, length_bl] at this
 exact this
theorem rv_get {c n k : Nat} (h : k < n) : (bitsOf (rv (c : Int) n) n)[k]? = some (decide (c / 2 ^ (n - 1 - k) % 2 = 1)) := by
 rw [bitsOf_rv, List.getElem?_reverse (by rw [length_bl]; exact h), length_bl]
 unfold bl
 rw [List.getElem?_map, List.getElem?_range (by omega), Option.map_some]
 unfold bitI
 congr 1
 refine decide_eq_decide.2 ?_
 have e : (2 : Int) ^ (n - 1 - k) = ((2 ^ (n - 1 - k) : Nat) : Int) := (Int.natCast_pow 2 _).symm
 rw [e]
 constructor
 ·intro h; exact_mod_cast h
 ·intro h; exact_mod_cast h
theorem fL_at {l : List Int} (hok : okL l) {N n : Nat} (hN : N < l.length) (hln : l[N] = (n : Int)) (h1 : 1 <= n) : fL l (n : Int) (codeAt l N : Int) l.length = some N := by
 cases h : fL l (n : Int) (codeAt l N : Int) l.length with
 | none => exact absurd ⟨by omega, by rw [List.getElem?_eq_getElem hN, hln], rfl⟩ (fL_none h N hN)
 | some j =>
  obtain ⟨h1', h2, h3, h4⟩ := fL_sound h
  rw [List.getElem?_eq_getElem h1'] at h3
  by_cases c : j = N
  ·rw [c]
  ·have := apart h1' hN c (Option.some.inj h3) hln h1 (Nat.le_refl n)
   rw [Nat.sub_self, Nat.pow_zero, Nat.div_one] at this
   exact absurd (by exact_mod_cast h4.symm) this
theorem fL_before {l : List Int} (hok : okL l) {N n a : Nat} (hN : N < l.length) (hln : l[N] = (n : Int)) (h1 : 1 <= a) (ha : a < n) : fL l (a : Int) ((codeAt l N / 2 ^ (n - a) : Nat) : Int) l.length = none := by
 cases h : fL l (a : Int) ((codeAt l N / 2 ^ (n - a) : Nat) : Int) l.length with
 | none => rfl
 | some j =>
  obtain ⟨h1', h2, h3, h4⟩ := fL_sound h
  rw [List.getElem?_eq_getElem h1'] at h3
  have h3 := Option.some.inj h3
  have := apart h1' hN (fun c => by subst c; omega) h3 hln h1 (by omega)
  exact absurd (by exact_mod_cast h4.symm) this
theorem half (c d : Nat) : 2 * (c / 2 ^ (d + 1)) + c / 2 ^ d % 2 = c / 2 ^ d := by
 rw [Nat.pow_succ, <- Nat.div_div_eq_div_mul]; omega
theorem dec_code {l : List Int} {b : List UInt8} {at_ N n : Nat} (hok : okL l) (hN : N < l.length) (hln : l[N] = (n : Int)) (h1 : 1 <= n) (h15 : n <= 15)
  (hu : ∀ k, k < n -> (ub b)[at_ + k]? = some (decide (codeAt l N / 2 ^ (n - 1 - k) % 2 = 1))) : ∀ d k, k + (d + 1) = n -> dec l b (15 - k) k (codeAt l N / 2 ^ (d + 1)) (at_ + k) = ((N : Int), 0, at_ + n)
 | d, k, hk => by
  have hb := hu k (by omega)
  rw [show n - 1 - k = d by omega] at hb
  have hlt : at_ + k < 8 * b.length := by
   rw [<- length_ub]
   rcases Nat.lt_or_ge (at_ + k) (ub b).length with h | h
   ·exact h
   ·rw [List.getElem?_eq_none h] at hb; cases hb
  have hR : takR b (at_ + k) 1 = 0 := by unfold takR; rw [if_neg (by omega), if_neg (by omega)]
  have hT : takN b (at_ + k) 1 = (decide (codeAt l N / 2 ^ d % 2 = 1)).toNat := by
   unfold takN
   rw [if_pos hR]
   have := tak_succ (L := ub b) (at_ := at_ + k) (k := 0) (b := decide (codeAt l N / 2 ^ d % 2 = 1)) hb
   rw [tak_zero] at this
   simpa using this
  have hT2 : takN b (at_ + k) 1 = codeAt l N / 2 ^ d % 2 := by
   rw [hT]
   rcases Nat.mod_two_eq_zero_or_one (codeAt l N / 2 ^ d) with e | e <;> simp [e]
  have hA : takAt b (at_ + k) 1 = at_ + k + 1 := by unfold takAt; rw [if_pos hR]; rfl
  rw [show 15 - k = (14 - k) + 1 by omega, dec, if_pos hR, hT2, half, hA]
  match d, hk with
  | 0, hk =>
   have hf := fL_at hok hN hln h1
   rw [Nat.pow_zero, Nat.div_one, show k + 1 = n by omega, hf]
   simp only
   rw [show at_ + k + 1 = at_ + n by omega]
  | d + 1, hk =>
   have hf := fL_before hok hN hln (a := k + 1) (by omega) (by omega)
   rw [show n - (k + 1) = d + 1 by omega] at hf
   rw [hf]
   simp only
   have ih := dec_code hok hN hln h1 h15 hu d (k + 1) (by omega)
   rw [show 14 - k = 15 - (k + 1) by omega, Nat.add_assoc]
   exact ih
def cw (l : List Int) (s : Int) : List Bool := match sym (codes l) l s with
 | some p => bitsOf (rv p.1 p.2) p.2
 | none => []
theorem nxt_cw {l : List Int} {b : List UInt8} {at_ : Nat} {s : Int} {p : Int × Nat} {rest : List Bool} (hok : okL l) (hs : sym (codes l) l s = some p) (hu : (ub b).drop at_ = cw l s ++ rest) : nxt l b at_ = (s, 0, at_ + (cw l s).length) := by
 have h0 : ¬ s < 0 := fun c => by rw [sym_out (.inl c)] at hs; cases hs
 obtain ⟨N, rfl⟩ := Int.eq_ofNat_of_zero_le (show 0 <= s by omega)
 have hN : N < l.length := by
  rcases Nat.lt_or_ge N l.length with c | c
  ·exact c
  ·rw [sym_out (.inr (.inr (by omega)))] at hs; cases hs
 have hNc : N < (codes l).length := by rw [length_codes]; exact hN
 have hs2 := sym_at hNc hN
 rw [hs2] at hs
 by_cases hc : 1 <= l[N] /\ l[N] <= 15 /\ 0 <= (codes l)[N] /\ (codes l)[N] < 2 ^ l[N].toNat
 ·rw [if_pos hc] at hs
  have hp := Option.some.inj hs
  obtain ⟨n, hn⟩ := Int.eq_ofNat_of_zero_le (show 0 <= l[N] by omega)
  have hcode : (codes l)[N] = (codeAt l N : Int) := by simp [codes]
  have hcw : cw l N = bitsOf (rv (codeAt l N : Int) n) n := by
   unfold cw
   rw [hs2, if_pos hc, hcode, hn, Int.toNat_natCast]
  have hl : (cw l N).length = n := by rw [hcw, length_bitsOf]
  have hpos : pos l := ⟨l[N], List.getElem_mem hN, by omega⟩
  have hlt : codeAt l N < 2 ^ n := by
   rw [codeAt_pos hN hn (by omega)]
   exact hok.cur_lt' hN hn (by omega) (by omega)
  unfold nxt
  rw [if_pos hpos, hl]
  have := dec_code hok hN hn (by omega) (by omega) (b := b) (at_ := at_) (fun k hk => by
   have e : ((ub b).drop at_)[k]? = some (decide (codeAt l N / 2 ^ (n - 1 - k) % 2 = 1)) := by
    rw [hu, List.getElem?_append_left (by rw [hl]; exact hk), hcw, rv_get hk]
   rwa [List.getElem?_drop] at e) (n - 1) 0 (by omega)
  rw [show n - 1 + 1 = n by omega, Nat.div_eq_of_lt hlt] at this
  exact this
 ·rw [if_neg hc] at hs; cases hs
end Go.Proofs.YthoeeahdkdcceaaGreat.HF
namespace Go.Proofs.YthoeeahdkdcceaaGreat.IF
open Go Go.Proofs Go.RowKit HM HF B M
structure Pc where
 len : Nat
 dist : Nat
 c : UInt8
def lit (p : Pc) : Prop := p.len = 0 /\ p.dist = 0
def okP (n : Nat) (p : Pc) : Prop := lit p \/ (3 <= p.len /\ p.len <= 258 /\ 1 <= p.dist /\ p.dist <= 32768 /\ p.dist <= n /\ p.c = 0)
def expP (out : List UInt8) (p : Pc) : List UInt8 := if p.len = 0 then out ++ [p.c] else copyL out p.dist p.len
theorem expP_len (out : List UInt8) (p : Pc) : (expP out p).length = out.length + max 1 p.len := by
 unfold expP
 split
 ·rename_i h; rw [h]; simp
 ·rw [copyL_len]; omega
def okPs : List UInt8 -> List Pc -> Prop
 | _, [] => True
 | out, p :: r => okP out.length p /\ okPs (expP out p) r
def lastF (base : Int -> Int × Int) (n : Int) (first : Int) : Nat -> Int × Int × Int
 | 0 => (-1, 0, 0)
 | k + 1 => if (base (first + k)).1 <= n then (first + k, (base (first + k)).2, n - (base (first + k)).1) else lastF base n first k
def lenS (n : Int) : Int × Int × Int := if 258 < n then (-1, 0, 0) else lastF bL n 257 29
def disS (n : Int) : Int × Int × Int := if 32768 < n then (-1, 0, 0) else lastF bD n 0 30
theorem lastF_ok {base : Int -> Int × Int} {n first : Int} : ∀ (k : Nat), (∃ j : Nat, j < k /\ (base (first + j)).1 <= n) -> ∃ j : Nat, j < k /\ lastF base n first k = (first + j, (base (first + j)).2, n - (base (first + j)).1) /\ (base (first + j)).1 <= n /\ (j + 1 < k -> n < (base (first + (j + 1 : Nat))).1)
 | 0, h => by obtain ⟨j, hj, _⟩ := h; omega
 | k + 1, h => by
  unfold lastF
  by_cases c : (base (first + k)).1 <= n
  ·rw [if_pos c]
   exact ⟨k, by omega, rfl, c, fun h => by omega⟩
  ·rw [if_neg c]
   obtain ⟨j, hj, hb⟩ := h
   have hjk : j < k := by
    rcases Nat.lt_or_ge j k with d | d
    ·exact d
    ·exact absurd (by rw [show k = j by omega]; exact hb) c
   obtain ⟨i, h1, h2, h3, h4⟩ := lastF_ok k ⟨j, hjk, hb⟩
   refine ⟨i, by omega, h2, h3, fun h => ?_⟩
   by_cases d : i + 1 < k
   ·exact h4 d
   ·rw [show i + 1 = k by omega]; omega
theorem bL_steps : ∀ j : Fin 28, (bL (257 + (j.1 : Nat))).1 + ((2 ^ (bL (257 + (j.1 : Nat))).2.toNat : Nat) : Int) ≥ (bL (257 + ((j.1 + 1 : Nat) : Int))).1 /\ 0 <= (bL (257 + (j.1 : Nat))).2 /\ (bL (257 + (j.1 : Nat))).2 <= 5 /\ 0 < (bL (257 + (j.1 : Nat))).1 := by decide
theorem bD_steps : ∀ j : Fin 29, (bD (0 + (j.1 : Nat))).1 + ((2 ^ (bD (0 + (j.1 : Nat))).2.toNat : Nat) : Int) ≥ (bD (0 + ((j.1 + 1 : Nat) : Int))).1 /\ 0 <= (bD (0 + (j.1 : Nat))).2 /\ (bD (0 + (j.1 : Nat))).2 <= 13 /\ 0 < (bD (0 + (j.1 : Nat))).1 := by decide
theorem lenS_ok {n : Int} (h1 : 3 <= n) (h2 : n <= 258) : ∃ (s : Nat) (e k : Nat), lenS n = ((s : Int), (k : Int), (e : Int)) /\ 257 <= s /\ s <= 285 /\ (bL s).1 + e = n /\ (bL s).2 = k /\ e < 2 ^ k /\ k <= 5 /\ 0 < (bL s).1 := by
 unfold lenS
 rw [if_neg (by omega)]
 obtain ⟨j, hj, e1, e2, e3⟩ := lastF_ok (base := bL) (n := n) (first := 257) 29 ⟨0, by omega, by rw [show bL (257 + ((0 : Nat) : Int)) = (3, 0) from rfl]; exact h1⟩
 rw [e1]
 have es : (257 : Int) + (j : Int) = ((257 + j : Nat) : Int) := by omega
 rcases Nat.lt_or_ge j 28 with c | c
 ·obtain ⟨s1, s2, s3, s4⟩ := bL_steps ⟨j, c⟩
  have e4 := e3 (by omega)
  simp only at s1 s2 s3 s4
  obtain ⟨k, hk⟩ := Int.eq_ofNat_of_zero_le s2
  obtain ⟨e, he⟩ := Int.eq_ofNat_of_zero_le (show 0 <= n - (bL (257 + (j : Int))).1 by omega)
  rw [hk, Int.toNat_natCast] at s1
  refine ⟨257 + j, e, k, by rw [he, hk, es], by omega, by omega, by rw [<- es]; omega, by rw [<- es, hk], ?_, by omega, by rw [<- es]; exact s4⟩
  have : (e : Int) < ((2 ^ k : Nat) : Int) := by omega
  exact Int.ofNat_lt.1 this
 ·have hj8 : j = 28 := by omega
  subst hj8
  have hb : bL (257 + ((28 : Nat) : Int)) = (258, 0) := rfl
  rw [hb] at e2 ⊢
  refine ⟨285, 0, 0, ?_, by omega, by omega, ?_, rfl, by decide, by omega, by decide⟩
  ·simp only at e2; rw [show n - 258 = 0 by omega]; rfl
  ·show (258 : Int) + 0 = n
   simp only at e2; omega
theorem disS_ok {n : Int} (h1 : 1 <= n) (h2 : n <= 32768) : ∃ (s : Nat) (e k : Nat), disS n = ((s : Int), (k : Int), (e : Int)) /\ s <= 29 /\ (bD s).1 + e = n /\ (bD s).2 = k /\ e < 2 ^ k /\ k <= 13 /\ 0 < (bD s).1 := by
 unfold disS
 rw [if_neg (by omega)]
 obtain ⟨j, hj, e1, e2, e3⟩ := lastF_ok (base := bD) (n := n) (first := 0) 30 ⟨0, by omega, by rw [show bD (0 + ((0 : Nat) : Int)) = (1, 0) from rfl]; exact h1⟩
 rw [e1]
 have es : (0 : Int) + (j : Int) = ((j : Nat) : Int) := by omega
 rcases Nat.lt_or_ge j 29 with c | c
 ·obtain ⟨s1, s2, s3, s4⟩ := bD_steps ⟨j, c⟩
  have e4 := e3 (by omega)
  simp only at s1 s2 s3 s4
  obtain ⟨k, hk⟩ := Int.eq_ofNat_of_zero_le s2
  obtain ⟨e, he⟩ := Int.eq_ofNat_of_zero_le (show 0 <= n - (bD (0 + (j : Int))).1 by omega)
  rw [hk, Int.toNat_natCast] at s1
  refine ⟨j, e, k, by rw [he, hk, es], by omega, by rw [<- es]; omega, by rw [<- es, hk], ?_, by omega, by rw [<- es]; exact s4⟩
  have : (e : Int) < ((2 ^ k : Nat) : Int) := by omega
  exact Int.ofNat_lt.1 this
 ·have hj8 : j = 29 := by omega
  subst hj8
  have hb : bD (0 + ((29 : Nat) : Int)) = (24577, 13) := rfl
  rw [hb] at e2 ⊢
  simp only at e2
  obtain ⟨e, he⟩ := Int.eq_ofNat_of_zero_le (show 0 <= n - 24577 by omega)
  refine ⟨29, e, 13, by rw [he]; rfl, by omega, ?_, rfl, ?_, by omega, by decide⟩
  ·show (24577 : Int) + e = n
   omega
  ·have : (2 : Nat) ^ 13 = 8192 := rfl
   omega
def encP (la lb : List Int) (p : Pc) : List Bool := if p.len = 0 then cw la p.c.toNat else
 (cw la (lenS p.len).1 ++ bitsOf (lenS p.len).2.2.toNat (lenS p.len).2.1.toNat) ++ (cw lb (disS p.dist).1 ++ bitsOf (disS p.dist).2.2.toNat (disS p.dist).2.1.toNat)
def hasC (l : List Int) (s : Int) : Prop := ∃ p, sym (codes l) l s = some p
def hasP (la lb : List Int) (p : Pc) : Prop := if p.len = 0 then hasC la p.c.toNat else hasC la (lenS p.len).1 /\ hasC lb (disS p.dist).1
theorem sym_pos {cs ls : List Int} {s : Int} {p : Int × Nat} (h : sym cs ls s = some p) : 1 <= p.2 /\ p.2 <= 15 := by
 unfold sym at h
 split at h
 ·cases h
 ·split at h
  ·rename_i c n _ _
   by_cases hc : 1 <= n /\ n <= 15 /\ 0 <= c /\ c < 2 ^ n.toNat
   ·rw [if_pos hc] at h
    have hp := Option.some.inj h
    rw [<- hp]
    simp only
    omega
   ·rw [if_neg hc] at h; cases h
  ·cases h
theorem cw_len {l : List Int} {s : Int} (h : hasC l s) : 1 <= (cw l s).length /\ (cw l s).length <= 15 := by
 obtain ⟨p, hp⟩ := h
 unfold cw
 rw [hp]
 simp only [length_bitsOf]
 exact sym_pos hp
theorem drop_at {L X Y : List Bool} {a : Nat} (h : L.drop a = X ++ Y) : L.drop (a + X.length) = Y := by
 rw [<- List.drop_drop, h, List.drop_left]
theorem left_at {b : List UInt8} {at_ : Nat} {X Y : List Bool} (hat : at_ <= 8 * b.length) (h : (ub b).drop at_ = X ++ Y) : at_ + X.length <= 8 * b.length := by
 have hl := congrArg List.length h
 rw [List.length_drop, length_ub, List.length_append] at hl
 omega
theorem take_bits {b : List UInt8} {at_ e k : Nat} {Y : List Bool} (hk : k <= 32) (he : e < 2 ^ k) (hat : at_ <= 8 * b.length) (h : (ub b).drop at_ = bitsOf e k ++ Y) : takR b at_ k = 0 /\ takN b at_ k = e /\ takAt b at_ k = at_ + k := by
 have hl := left_at hat h
 rw [length_bitsOf] at hl
 have hr : takR b at_ k = 0 := by
  unfold takR
  rw [if_neg (by omega), if_neg (by omega)]
 refine ⟨hr, ?_, ?_⟩
 ·unfold takN
  rw [if_pos hr, Int.toNat_natCast]
  unfold tak
  rw [h, List.take_left' (length_bitsOf _ _), val_bitsOf, Nat.mod_eq_of_lt he]
 ·unfold takAt
  rw [if_pos hr, Int.toNat_natCast]
theorem round_enc {la lb : List Int} {b out : List UInt8} {most : Int} {at_ : Nat} {p : Pc} {Y : List Bool} (ha : okL la) (hb : okL lb) (hp : okP out.length p) (hc : hasP la lb p) (hm : ((out.length + max 1 p.len : Nat) : Int) <= most)
  (hat : at_ <= 8 * b.length) (h : (ub b).drop at_ = encP la lb p ++ Y) : mRound la lb b most at_ out = .ok (false, at_ + (encP la lb p).length, expP out p) := by
 unfold encP expP at *
 unfold hasP at hc
 by_cases h0 : p.len = 0
 ·rw [if_pos h0] at h hc ⊢
  rw [if_pos h0]
  obtain ⟨q, hq⟩ := hc
  have hx := nxt_cw ha hq h
  have h256 : p.c.toNat < 256 := p.c.toNat_lt
  unfold mRound
  simp only
  rw [hx]
  simp only
  rw [if_neg (fun c => c rfl), if_neg (by omega), if_pos (by omega), if_neg (by omega)]
  congr 3
  simp
 ·rw [if_neg h0] at h hc ⊢
  rw [if_neg h0]
  rcases hp with hl | ⟨c1, c2, c3, c4, c5, c6⟩
  ·exact absurd hl.1 h0
  obtain ⟨s, e, k, hs, hs1, hs2, hbase, hbits, hlt, hk5, hb0⟩ := lenS_ok (n := (p.len : Int)) (by omega) (by omega)
  obtain ⟨t, e', k', ht, ht1, hbase', hbits', hlt', hk13, hb0'⟩ := disS_ok (n := (p.dist : Int)) (by omega) (by omega)
  obtain ⟨⟨q, hq⟩, ⟨q', hq'⟩⟩ := hc
  rw [hs] at h hq ⊢
  rw [ht] at h hq' ⊢
  simp only [Int.toNat_natCast] at h hq hq' ⊢
  simp only [List.append_assoc] at h
  have hx := nxt_cw ha hq h
  have hat1 := left_at hat h
  have d1 := drop_at h
  obtain ⟨r1, r2, r3⟩ := take_bits (by omega) hlt hat1 d1
  have hat2 := left_at hat1 d1
  have d2 := drop_at d1
  rw [length_bitsOf] at d2 hat2
  have hy := nxt_cw hb hq' d2
  have hat3 := left_at hat2 d2
  have d3 := drop_at d2
  obtain ⟨r4, r5, r6⟩ := take_bits (by omega) hlt' hat3 d3
  have hpos : (out.length : Int) + p.len <= most := by
   have : max 1 p.len = p.len := by omega
   rw [this] at hm
   push_cast at hm
   exact hm
  unfold mRound
  simp only
  rw [hx]
  simp only
  rw [if_neg (fun c => c rfl), if_neg (by omega), if_neg (by omega), if_neg (by omega), hbits, r1, if_neg (fun c => c rfl), r3, hy]
  simp only
  rw [if_neg (fun c => c rfl), if_neg (by omega), hbits', r4, if_neg (fun c => c rfl), r5, r2, hbase', hbase, if_neg (by omega), if_neg (by omega), r6]
  congr 3
  simp only [List.length_append, length_bitsOf]
  omega
theorem syms_enc {la lb : List Int} {b : List UInt8} {most : Int} (ha : okL la) (hb : okL lb) (h256 : hasC la 256) : ∀ (ps : List Pc) (f : Nat) {out : List UInt8} {at_ : Nat} {Y : List Bool}, okPs out ps -> (∀ p ∈ ps, hasP la lb p) -> ((ps.foldl expP out).length : Int) <= most ->
  at_ <= 8 * b.length -> (ub b).drop at_ = ps.flatMap (encP la lb) ++ (cw la 256 ++ Y) -> ps.length < f -> mSyms la lb b most f at_ out = .ok (at_ + (ps.flatMap (encP la lb)).length + (cw la 256).length, ps.foldl expP out)
 | [], f, out, at_, Y, _, _, _, hat, h, hf => by
  obtain ⟨f, rfl⟩ : ∃ f', f = f' + 1 := ⟨f - 1, by omega⟩
  obtain ⟨q, hq⟩ := h256
  rw [List.flatMap_nil, List.nil_append] at h
  have hx := nxt_cw ha hq h
  have hr : mRound la lb b most at_ out = .ok (true, at_ + (cw la 256).length, out) := by
   unfold mRound
   simp only
   rw [hx]
   simp only
   rw [if_neg (fun c => c rfl), if_pos trivial]
  rw [mSyms, hr]
  simp
 | p :: ps, f, out, at_, Y, hok, hhas, hm, hat, h, hf => by
  obtain ⟨f, rfl⟩ : ∃ f', f = f' + 1 := ⟨f - 1, by omega⟩
  have hmono : ∀ (qs : List Pc) (o : List UInt8), o.length <= (qs.foldl expP o).length := by
   intro qs
   induction qs with
   | nil => intro o; exact Nat.le_refl _
   | cons q qs ih =>
    intro o
    have := ih (expP o q)
    rw [expP_len] at this
    rw [List.foldl_cons]
    omega
  have hm1 := hmono ps (expP out p)
  rw [expP_len] at hm1
  rw [List.foldl_cons] at hm ⊢
  rw [List.flatMap_cons, List.append_assoc] at h
  have hr := round_enc (most := most) ha hb hok.1 (hhas p (by simp)) (by omega) hat h
  rw [mSyms, hr]
  simp only
  rw [syms_enc ha hb h256 ps f hok.2 (fun q hq => hhas q (by simp [hq])) hm (left_at hat h) (drop_at h) (by simp at hf; omega)]
  rw [List.flatMap_cons, List.length_append]
  congr 2
  omega
theorem encP_pos {la lb : List Int} {p : Pc} (h : hasP la lb p) : 1 <= (encP la lb p).length := by
 unfold hasP at h
 unfold encP
 by_cases h0 : p.len = 0
 ·rw [if_pos h0] at h ⊢
  exact (cw_len h).1
 ·rw [if_neg h0] at h ⊢
  have := (cw_len h.1).1
  simp only [List.length_append]
  omega
theorem enc_many {la lb : List Int} : ∀ {ps : List Pc}, (∀ p ∈ ps, hasP la lb p) -> ps.length <= (ps.flatMap (encP la lb)).length
 | [], _ => Nat.le_refl _
 | p :: ps, h => by
  have := enc_many (ps := ps) fun q hq => h q (by simp [hq])
  have := encP_pos (h p (by simp))
  rw [List.flatMap_cons, List.length_append, List.length_cons]
  omega
theorem mS_enc {la lb : List Int} {b : List UInt8} {most : Int} {ps : List Pc} {out : List UInt8} {at_ : Nat} {Y : List Bool} (ha : okL la) (hb : okL lb) (h256 : hasC la 256) (hok : okPs out ps) (hhas : ∀ p ∈ ps, hasP la lb p) (hm : ((ps.foldl expP out).length : Int) <= most)
  (hat : at_ <= 8 * b.length) (h : (ub b).drop at_ = ps.flatMap (encP la lb) ++ (cw la 256 ++ Y)) : mS la lb b most at_ out = .ok (at_ + (ps.flatMap (encP la lb)).length + (cw la 256).length, ps.foldl expP out) := by
 unfold mS
 refine syms_enc ha hb h256 ps _ hok hhas hm hat h ?_
 have h1 := enc_many hhas
 have h2 := left_at hat h
 have h3 := left_at h2 (drop_at h)
 have h4 := (cw_len h256).1
 omega
end Go.Proofs.YthoeeahdkdcceaaGreat.IF
namespace Go.Proofs.YthoeeahdkdcceaaGreat.IF
open Go Go.Proofs Go.RowKit Sh Sl T HM HF B M
theorem last_ {W : World} {f : FuncId} {base : Int -> Int × Int} {n first : Int} {N : Nat} (hf : ∀ s : Int, first <= s -> s < first + N -> Cn p_ f [.int .i64 s] W [] (fun _ : Unit => .tuple #[.int .i64 (base s).1, .int .i64 (base s).2]) (fun _ => []))
  (h1 : -1000000 <= first /\ first <= 1000000) (hN : 0 < N /\ N <= 1000) (hn : -9223372036854000000 <= n /\ n <= 9223372036854000000) (hb : ∀ s : Int, first <= s -> s < first + N -> 0 <= (base s).1 /\ (base s).1 <= 100000) :
  Cn p_ 132 [.int .i64 n, .int .i64 first, .int .i64 (first + N - 1), fn f] W [] (fun _ : Unit => .tuple #[.int .i64 (lastF base n first N).1, .int .i64 (lastF base n first N).2.1, .int .i64 (lastF base n first N).2.2]) (fun _ => []) := by
 (refine S.lz_last_s.cn fun F => ?_; unfold S.lz_last; simp only [ca_, na_])
 refine e_loop1 (fun m y => (ex fun k : Nat => pu (m = k /\ k <= N /\ y = .int .i64 (first + k - 1) /\ lastF base n first N = lastF base n first k)) :: F) N ?_ ?_
 ·exact .ex N (.pu ⟨rfl, Nat.le_refl _, rfl, rfl⟩ .refl)
 intro m ds y
 refine e_ex .here fun k => e_pu .here fun hk => ?_
 obtain ⟨rfl, hkN, rfl, hl⟩ := hk
 refine e_ask v_geq .nil (fun h => ?_) (fun h => ?_)
 ·obtain ⟨j, rfl⟩ : ∃ j, m = j + 1 := ⟨m - 1, by omega⟩
  have hs : first + ((j + 1 : Nat) : Int) - 1 = first + (j : Int) := by push_cast; omega
  have hbb := hb (first + j) (by omega) (by omega)
  rw [hs]
  refine e_condT (e_call (hf (first + j) (by omega) (by omega)) .nil fun _ => ?_)
  refine nr_ ?_
  refine o_ (v_extN (vs := [_, _]) .here) ?_
  refine o_ (v_extN (vs := [_, _]) (.there .here)) ?_
  refine e_ask v_leq .nil (fun h2 => ?_) (fun h2 => ?_)
  ·rw [hl, lastF, if_pos h2]
   refine e_condT (sb_ ?_)
   refine rt_ () ?_
   exact .refl
  ·refine e_condF (sb_ ?_)
   refine e_next1 j (by omega) (.ex j (.pu ⟨rfl, by omega, rfl, by rw [hl, lastF, if_neg h2]⟩ ?_))
   exact .refl
 ·have hm0 : m = 0 := by omega
  subst hm0
  rw [hl]
  refine e_condF (rt_ () ?_)
  exact .refl
theorem bL_c : ∀ j : Fin 29, 0 <= (bL (257 + (j.1 : Nat))).1 /\ (bL (257 + (j.1 : Nat))).1 <= 100000 := by decide
theorem bD_c : ∀ j : Fin 30, 0 <= (bD (0 + (j.1 : Nat))).1 /\ (bD (0 + (j.1 : Nat))).1 <= 100000 := by decide
theorem lzLength {W : World} {n : Int} (hn : -9223372036854000000 <= n) : Cn p_ 104 [.int .i64 n] W [] (fun _ : Unit => .tuple #[.int .i64 (lenS n).1, .int .i64 (lenS n).2.1, .int .i64 (lenS n).2.2]) (fun _ => []) := by
 unfold lenS
 (refine S.lz_Length_s.cn fun F => ?_; unfold S.lz_Length; simp only [ca_, na_])
 refine e_ask v_gtr .nil (fun h => ?_) (fun h => ?_)
 ·rw [if_pos h]
  refine e_condT (rt_ () ?_)
  exact .refl
 ·rw [if_neg h]
  refine e_condF ?_
  refine e_call (last_ (base := bL) (n := n) (first := 257) (N := 29) (fun s h1 h2 => baseLength (by omega)) (by omega) (by omega) (by omega) (fun s h1 h2 => by
   obtain ⟨j, hj⟩ := Int.eq_ofNat_of_zero_le (show 0 <= s - 257 by omega)
   have := bL_c ⟨j, by omega⟩
   simp only at this
   rw [show s = 257 + (j : Int) by omega]
   exact this)) .nil fun _ => ?_
  refine nr_ ?_
  refine o_ (v_extN (vs := [_, _, _]) .here) ?_
  refine o_ (v_extN (vs := [_, _, _]) (.there .here)) ?_
  refine o_ (v_extN (vs := [_, _, _]) (.there (.there .here))) ?_
  refine rt_ () ?_
  exact .refl
theorem lzDistance {W : World} {n : Int} (hn : -9223372036854000000 <= n) : Cn p_ 105 [.int .i64 n] W [] (fun _ : Unit => .tuple #[.int .i64 (disS n).1, .int .i64 (disS n).2.1, .int .i64 (disS n).2.2]) (fun _ => []) := by
 unfold disS
 (refine S.lz_Distance_s.cn fun F => ?_; unfold S.lz_Distance; simp only [ca_, na_])
 refine e_ask v_gtr .nil (fun h => ?_) (fun h => ?_)
 ·rw [if_pos h]
  refine e_condT (rt_ () ?_)
  exact .refl
 ·rw [if_neg h]
  refine e_condF ?_
  refine e_call (last_ (base := bD) (n := n) (first := 0) (N := 30) (fun s h1 h2 => baseDistance) (by omega) (by omega) (by omega) (fun s h1 h2 => by
   obtain ⟨j, hj⟩ := Int.eq_ofNat_of_zero_le (show 0 <= s by omega)
   have := bD_c ⟨j, by omega⟩
   simp only at this
   rw [show s = 0 + (j : Int) by omega]
   exact this)) .nil fun _ => ?_
  refine nr_ ?_
  refine o_ (v_extN (vs := [_, _, _]) .here) ?_
  refine o_ (v_extN (vs := [_, _, _]) (.there .here)) ?_
  refine o_ (v_extN (vs := [_, _, _]) (.there (.there .here))) ?_
  refine rt_ () ?_
  exact .refl
structure Pz where
 len : Int
 dist : Int
 c : UInt8
def vPz (p : Pz) : Value := .agg #[I p.len, I p.dist, Sl.B p.c]
def pPz (p : Pz) : List Value := [I p.len, I p.dist, Sl.B p.c]
theorem pz_get {l : List Pz} {i : Nat} (h : i < l.length) : ∀ j, j < 3 -> (l.flatMap pPz)[i * 3 + j]? = (pPz l[i])[j]? := fun j hj => flat_get (f := pPz) (s := 3) (fun _ => rfl) l i j h hj
end Go.Proofs.YthoeeahdkdcceaaGreat.IF
namespace Go.Proofs.YthoeeahdkdcceaaGreat.IF
open Go Go.Proofs Go.RowKit HM HF B M
def alk (b : List UInt8) (i j : Nat) : Nat -> Nat -> Nat
 | 0, n => n
 | f + 1, n => if n < 258 /\ j + n < b.length /\ b[i + n]? = b[j + n]? then alk b i j f (n + 1) else n
def alike (b : List UInt8) (i j : Nat) : Nat := alk b i j 259 0
theorem alk_spec (b : List UInt8) (i j : Nat) : ∀ f n, n + f = 259 -> (∀ k, k < n -> j + k < b.length /\ b[i + k]? = b[j + k]?) -> n <= 258 -> n <= alk b i j f n /\ alk b i j f n <= 258 /\ (∀ k, k < alk b i j f n -> j + k < b.length /\ b[i + k]? = b[j + k]?)
  /\ ¬ (alk b i j f n < 258 /\ j + alk b i j f n < b.length /\ b[i + alk b i j f n]? = b[j + alk b i j f n]?)
 | 0, n, h, _, h3 => by omega
 | f + 1, n, h, h2, h3 => by
  unfold alk
  by_cases c : n < 258 /\ j + n < b.length /\ b[i + n]? = b[j + n]?
  ·rw [if_pos c]
   obtain ⟨e1, e2, e3, e4⟩ := alk_spec b i j f (n + 1) (by omega) (fun k hk => by
    rcases Nat.lt_or_ge k n with d | d
    ·exact h2 k d
    ·rw [show k = n by omega]; exact c.2) (by omega)
   exact ⟨by omega, e2, e3, e4⟩
  ·rw [if_neg c]
   exact ⟨Nat.le_refl _, h3, h2, c⟩
theorem alike_spec (b : List UInt8) (i j : Nat) : alike b i j <= 258 /\ (∀ k, k < alike b i j -> j + k < b.length /\ b[i + k]? = b[j + k]?) /\ ¬ (alike b i j < 258 /\ j + alike b i j < b.length /\ b[i + alike b i j]? = b[j + alike b i j]?) := by
 have := alk_spec b i j 259 0 rfl (fun k hk => by omega) (by omega)
 exact ⟨this.2.1, this.2.2.1, this.2.2.2⟩
def tri (b : List UInt8) (i : Nat) : UInt8 × UInt8 × UInt8 := (b.getD i 0, b.getD (i + 1) 0, b.getD (i + 2) 0)
theorem tri_get {b : List UInt8} {i : Nat} (h : i + 3 <= b.length) : tri b i = (b[i], b[i + 1], b[i + 2]) := by
 unfold tri
 simp only [List.getD_eq_getElem?_getD]
 rw [List.getElem?_eq_getElem (by omega), List.getElem?_eq_getElem (by omega), List.getElem?_eq_getElem (by omega)]; rfl
theorem alike3 {b : List UInt8} {i j : Nat} (hij : i < j) (hj : j + 3 <= b.length) : 3 <= alike b i j ↔ tri b i = tri b j := by
 obtain ⟨e1, e2, e3⟩ := alike_spec b i j
 rw [tri_get (by omega), tri_get hj]
 constructor
 ·intro h
  have a0 := (e2 0 (by omega)).2
  have a1 := (e2 1 (by omega)).2
  have a2 := (e2 2 (by omega)).2
  rw [List.getElem?_eq_getElem (by omega), List.getElem?_eq_getElem (by omega)] at a0 a1 a2
  have b0 := Option.some.inj a0
  have b1 := Option.some.inj a1
  have b2 := Option.some.inj a2
  simp only [Nat.add_zero] at b0
  rw [b0, b1, b2]
 ·intro h
  have h1 := congrArg Prod.fst h
  have h2 := congrArg (fun x => x.2.1) h
  have h3 := congrArg (fun x => x.2.2) h
  simp only at h1 h2 h3
  rcases Nat.lt_or_ge (alike b i j) 3 with c | c
  ·exfalso
   refine e3 ⟨by omega, by omega, ?_⟩
   rw [List.getElem?_eq_getElem (by omega), List.getElem?_eq_getElem (by omega)]
   congr 1
   rcases (show alike b i j = 0 \/ alike b i j = 1 \/ alike b i j = 2 by omega) with d | d | d <;> simp only [d, Nat.add_zero] <;> assumption
  ·exact c
theorem alike_short {b : List UInt8} {i j : Nat} (hj : b.length < j + 3) : alike b i j < 3 := by
 obtain ⟨e1, e2, e3⟩ := alike_spec b i j
 rcases Nat.lt_or_ge (alike b i j) 3 with c | c
 ·exact c
 ·have := (e2 2 (by omega)).1; omega
def bst (j i n : Nat) (p : Pz) : Pz := if p.len < (n : Int) then ⟨n, (j : Int) - i, 0⟩ else p
def rat (b : List UInt8) (j w : Nat) : Nat -> Nat -> Pz -> Pz
 | 0, _, p => p
 | i + 1, d, p => if w < j - i \/ d = 0 then p else if alike b i j < 3 then rat b j w i d p else rat b j w i (d - 1) (bst j i (alike b i j) p)
def pieceAt (b : List UInt8) (w d j : Nat) : Pz := rat b j w j d ⟨0, 0, b.getD j 0⟩
def cdl (w j : Nat) : List Nat -> Nat -> List Nat
 | [], _ => []
 | _ :: _, 0 => []
 | i :: r, d + 1 => if w < j - i then [] else i :: cdl w j r d
def pls (b : List UInt8) (m : Nat) (k : UInt8 × UInt8 × UInt8) : List Nat := (List.range m).filter fun i => decide (tri b i = k)
theorem pls_succ (b : List UInt8) (m : Nat) (k : UInt8 × UInt8 × UInt8) : pls b (m + 1) k = if tri b m = k then pls b m k ++ [m] else pls b m k := by
 unfold pls
 rw [List.range_succ, List.filter_append]
 by_cases c : tri b m = k
 ·rw [if_pos c]; simp [c]
 ·rw [if_neg c]; simp [c]
theorem pls_lt {b : List UInt8} {m : Nat} {k : UInt8 × UInt8 × UInt8} {i : Nat} (h : i ∈ pls b m k) : i < m := by
 unfold pls at h
 exact List.mem_range.1 (List.mem_filter.1 h).1
theorem pls_len (b : List UInt8) (m : Nat) (k : UInt8 × UInt8 × UInt8) : (pls b m k).length <= m := by
 unfold pls
 exact Nat.le_trans (List.length_filter_le _ _) (by simp)
theorem cdl_far {w j : Nat} : ∀ {l : List Nat} {d : Nat}, (∀ i ∈ l, w < j - i) -> cdl w j l d = []
 | [], _, _ => by simp [cdl]
 | i :: r, 0, _ => by simp [cdl]
 | i :: r, d + 1, h => by rw [cdl, if_pos (h i (by simp))]
theorem cdl_zero {w j : Nat} : ∀ {l : List Nat}, cdl w j l 0 = []
 | [] => by simp [cdl]
 | i :: r => by simp [cdl]
theorem rat_cdl {b : List UInt8} {j w : Nat} (hj : j + 3 <= b.length) : ∀ (m d : Nat) (p : Pz), m <= j -> rat b j w m d p = (cdl w j (pls b m (tri b j)).reverse d).foldl (fun p i => bst j i (alike b i j) p) p
 | 0, d, p, _ => by simp [rat, pls, cdl]
 | m + 1, d, p, hm => by
  rw [rat, pls_succ]
  by_cases c : w < j - m \/ d = 0
  ·rw [if_pos c]
   rcases c with c | c
   ·rw [cdl_far]
    ·rfl
    ·intro i hi
     rw [List.mem_reverse] at hi
     split at hi
     ·rcases List.mem_append.1 hi with h | h
      ·have := pls_lt h; omega
      ·rw [List.mem_singleton.1 h]; exact c
     ·have := pls_lt hi; omega
   ·rw [c, cdl_zero]; rfl
  ·rw [if_neg c]
   by_cases t : tri b m = tri b j
   ·have h3 := (alike3 (i := m) (by omega) hj).2 t
    rw [if_neg (by omega), if_pos t, List.reverse_append]
    obtain ⟨d, rfl⟩ : ∃ d', d = d' + 1 := ⟨d - 1, by omega⟩
    simp only [List.reverse_cons, List.reverse_nil, List.nil_append, List.singleton_append]
    rw [cdl, if_neg (fun h => c (.inl h)), List.foldl_cons, Nat.add_sub_cancel]
    exact rat_cdl hj m d _ (by omega)
   ·have h3 : ¬ 3 <= alike b m j := fun h => t ((alike3 (i := m) (by omega) hj).1 h)
    rw [if_pos (by omega), if_neg t]
    exact rat_cdl hj m d p (by omega)
theorem rat_short {b : List UInt8} {j w : Nat} (hj : b.length < j + 3) : ∀ (m d : Nat) (p : Pz), rat b j w m d p = p
 | 0, d, p => rfl
 | m + 1, d, p => by
  rw [rat, if_pos (alike_short hj)]
  split
  ·rfl
  ·exact rat_short hj m d p
def gP (b : List UInt8) (j : Nat) (p : Pz) : Prop := (p.len = 0 /\ p.dist = 0 /\ p.c = b.getD j 0) \/ ∃ n d : Nat, p.len = n /\ p.dist = d /\ p.c = 0 /\ 3 <= n /\ n <= 258 /\ 1 <= d /\ d <= 32768 /\ d <= j /\ ∀ k, k < n -> j + k < b.length /\ b[j - d + k]? = b[j + k]?
theorem bst_gP {b : List UInt8} {j i w : Nat} {p : Pz} (hw : w <= 32768) (hi : i < j) (hiw : ¬ w < j - i) (h3 : ¬ alike b i j < 3) (h : gP b j p) : gP b j (bst j i (alike b i j) p) := by
 unfold bst
 by_cases c : p.len < (alike b i j : Int)
 ·rw [if_pos c]
  obtain ⟨e1, e2, e3⟩ := alike_spec b i j
  refine .inr ⟨alike b i j, j - i, rfl, by simp only; omega, rfl, by omega, e1, by omega, by omega, by omega, fun k hk => ?_⟩
  rw [show j - (j - i) = i by omega]
  exact e2 k hk
 ·rw [if_neg c]; exact h
theorem rat_gP {b : List UInt8} {j w : Nat} (hw : w <= 32768) : ∀ (m d : Nat) (p : Pz), m <= j -> gP b j p -> gP b j (rat b j w m d p)
 | 0, d, p, _, h => h
 | m + 1, d, p, hm, h => by
  rw [rat]
  split
  ·exact h
  ·rename_i c
   split
   ·exact rat_gP hw m d p (by omega) h
   ·rename_i c3
    exact rat_gP hw m _ _ (by omega) (bst_gP hw (by omega) (fun x => c (.inl x)) c3 h)
theorem pieceAt_gP {b : List UInt8} {j w d : Nat} (hw : w <= 32768) : gP b j (pieceAt b w d j) := rat_gP hw j d _ (Nat.le_refl _) (.inl ⟨rfl, rfl, rfl⟩)
def pzN (p : Pz) : Nat := max 1 p.len.toNat
theorem pzN_pos (p : Pz) : 1 <= pzN p := by unfold pzN; omega
theorem gP_end {b : List UInt8} {j : Nat} {p : Pz} (h : gP b j p) (hj : j < b.length) : j + pzN p <= b.length /\ pzN p <= 258 /\ (pzN p : Int) = (if p.len < 1 then 1 else p.len) := by
 unfold pzN
 rcases h with ⟨h1, _⟩ | ⟨n, d, h1, _, _, h3, h4, _, _, _, h5⟩
 ·rw [h1]; simp; omega
 ·rw [h1, Int.toNat_natCast]
  have := (h5 (n - 1) (by omega)).1
  refine ⟨by omega, by omega, ?_⟩
  split <;> omega
def pcs (b : List UInt8) (w d : Nat) : Nat -> Nat -> List Pz
 | 0, _ => []
 | f + 1, j => if j < b.length then pieceAt b w d j :: pcs b w d f (j + pzN (pieceAt b w d j)) else []
def piecesF (b : List UInt8) (w d : Nat) : List Pz := pcs b w d (b.length + 1) 0
theorem pcs_end {b : List UInt8} {w d : Nat} {f j : Nat} (h : b.length <= j) : pcs b w d f j = [] := by
 cases f with
 | zero => rfl
 | succ f => rw [pcs, if_neg (by omega)]
end Go.Proofs.YthoeeahdkdcceaaGreat.IF
namespace Go.Proofs.YthoeeahdkdcceaaGreat.IF
open Go Go.Proofs Go.RowKit Sh Sl T HM HF B M
def cntP : List Int -> Int
 | [] => 0
 | x :: l => (if 0 < x then 1 else 0) + cntP l
def sumP : List Int -> Int
 | [] => 0
 | x :: l => (if 0 < x then x else 0) + sumP l
theorem cntP_append : ∀ l m : List Int, cntP (l ++ m) = cntP l + cntP m
 | [], m => by simp [cntP]
 | x :: l, m => by simp only [List.cons_append, cntP, cntP_append l m]; omega
theorem sumP_append : ∀ l m : List Int, sumP (l ++ m) = sumP l + sumP m
 | [], m => by simp [sumP]
 | x :: l, m => by simp only [List.cons_append, sumP, sumP_append l m]; omega
theorem cntP_b : ∀ l : List Int, 0 <= cntP l /\ cntP l <= l.length
 | [] => by simp [cntP]
 | x :: l => by
  have := cntP_b l
  simp only [cntP, List.length_cons]
  split <;> omega
theorem sumP_b {B : Int} : ∀ l : List Int, (∀ x ∈ l, x <= B) -> 0 <= B -> 0 <= sumP l /\ sumP l <= B * l.length
 | [], _, _ => by simp [sumP]
 | x :: l, h, hB => by
  have := sumP_b l (fun y hy => h y (.tail _ hy)) hB
  have hx := h x (.head _)
  simp only [sumP, List.length_cons]
  have e : B * ((l.length + 1 : Nat) : Int) = B * l.length + B := by rw [Int.natCast_add, Int.mul_add]; simp
  rw [e]
  generalize B * (l.length : Int) = E at this ⊢
  split <;> omega
def enoughB (l : List Int) : Bool := decide (cntP l = 0) || (decide (cntP l = 1) && decide (sumP l = 1)) || fullB l
theorem enough {W : World} {a : Option Addr} {cap : Nat} {l : List Int} {A : HP} (hr : RdB W A a l.length (l.map I)) (hl : l.length <= 1048576) (hb : ∀ x ∈ l, x <= 1048576) :
  Cn p_ 160 [.slice a l.length cap] W [A] (fun _ : Unit => .bool (enoughB l)) (fun _ => [A]) := by
 (refine S.inflate_enough_s.cn fun F => ?_; unfold S.inflate_enough; simp only [ca_, na_])
 refine o_ v_len (e_loop3 (fun m x y z => [ex fun i : Nat => pu (m + i = l.length /\ x = .int .i64 (cntP (l.take i)) /\ y = .int .i64 (sumP (l.take i)) /\ z = .int .i64 (i : Int)), A] ++ F) l.length ?_ ?_)
 ·refine .ex 0 ?_
  exact .pu ⟨by omega, rfl, rfl, rfl⟩ .refl
 intro m ds x y z
 refine nr_ ?_
 refine e_ex Pick.here fun i => e_pu Pick.here fun hi => ?_
 obtain ⟨hmi, rfl, rfl, rfl⟩ := hi
 have c1 := cntP_b (l.take i)
 have c2 := sumP_b (B := 1048576) (l.take i) (fun x hx => hb x (List.mem_of_mem_take hx)) (by omega)
 rw [List.length_take] at c1 c2
 refine e_ask v_lss .nil (fun h => ?_) (fun h => ?_)
 ·have hil : i < l.length := by omega
  obtain ⟨g, o, rfl, _⟩ := hr.at_ (by omega)
  have hx := hb l[i] (List.getElem_mem hil)
  have t1 : l.take (i + 1) = l.take i ++ [l[i]] := by rw [List.take_add_one, List.getElem?_eq_getElem hil]; rfl
  refine e_condT (o_ (v_ia1 i (by rfl) hil) ?_)
  refine p_op (v_ldRd hr (v := I l[i]) (I_get hil)) ?_
  unfold I
  refine e_ask v_gtr .nil (fun h => ?_) (fun h => ?_)
  ·have s1 : cntP (l.take (i + 1)) = cntP (l.take i) + 1 := by rw [t1, cntP_append]; simp only [cntP]; rw [if_pos (by omega)]; omega
   have s2 : sumP (l.take (i + 1)) = sumP (l.take i) + l[i] := by rw [t1, sumP_append]; simp only [sumP]; rw [if_pos (by omega)]; omega
   refine e_condT (ad_ ?_); refine ad_ ?_; refine ad_ ?_
   refine e_next3 (m - 1) (by omega) (.ex (i + 1) (.pu ⟨by omega, by rw [s1], by rw [s2], rfl⟩ ?_))
   exact .refl
  ·have s1 : cntP (l.take (i + 1)) = cntP (l.take i) := by rw [t1, cntP_append]; simp only [cntP]; rw [if_neg (by omega)]; omega
   have s2 : sumP (l.take (i + 1)) = sumP (l.take i) := by rw [t1, sumP_append]; simp only [sumP]; rw [if_neg (by omega)]; omega
   refine e_condF (ad_ ?_)
   refine e_next3 (m - 1) (by omega) (.ex (i + 1) (.pu ⟨by omega, by rw [s1], by rw [s2], rfl⟩ ?_))
   exact .refl
 ·have : i = l.length := by omega
  subst this
  rw [List.take_length]
  refine e_condF ?_
  have fin : ∀ v : Bool, v = enoughB l -> Ent W (A :: F) (fun w => ∃ x : Unit, (.bool v : Value) = .bool (enoughB l) /\ sat W ([A] ++ F) w) := by
   intro v hv
   rw [hv]
   refine e_ret () rfl ?_
   exact .refl
  refine e_ask v_eql .nil (fun h => ?_) (fun h => ?_)
  ·(refine e_gdF1 ?_); refine e_gdF1 ?_; refine e_gdF1 ?_; refine e_gdU ?_; refine e_gdU ?_; refine e_gdF1 ?_; refine o_ v_pickT ?_; refine e_gdF1 ?_; refine e_gdF1 ?_; refine o_ v_pickT ?_
   exact fin true (by simp [enoughB, h])
  ·have h0 := h
   refine e_gdT (e_gdT (e_ask v_eql .nil (fun h => ?_) (fun h => ?_)))
   ·have h1 := h
    refine e_gdT (e_gdT (e_gdT (e_ask v_eql .nil (fun h => ?_) (fun h => ?_))))
    ·(refine e_gdT ?_); refine o_ v_pickT ?_; refine o_ v_pickF ?_; refine e_gdF1 ?_; refine e_gdF1 ?_; refine o_ v_pickT ?_
     exact fin true (by simp [enoughB, h1, h])
    ·(refine e_gdT ?_); refine o_ v_pickT ?_; refine o_ v_pickF ?_; refine e_gdT ?_; refine e_gdT ?_
     refine c_ (full hr (by omega)) fun _ => ?_
     exact o_ v_pickF (fin _ (by simp [enoughB, h0, h]))
   ·(refine e_gdT ?_); refine e_gdF2 ?_; refine e_gdF2 ?_; refine e_gdT ?_; refine o_ v_pickF ?_; refine o_ v_pickF ?_; refine e_gdT ?_; refine e_gdT ?_
    refine c_ (full hr (by omega)) fun _ => ?_
    exact o_ v_pickF (fin _ (by simp [enoughB, h0, h]))
theorem ok_lit : okL litL := by
 have : decide (okL litL) = true := by decide +kernel
 exact of_decide_eq_true this
theorem ok_dst : okL dstL := by
 have : decide (okL dstL) = true := by decide +kernel
 exact of_decide_eq_true this
theorem fixed {W : World} {p at_ : Nat} {b out : List UInt8} {most : Int} (h1 : 0 <= most /\ most <= 1048576) (h2 : (out.length : Int) <= most) :
  CnP p_ 126 [.pointer (some ⟨p, 0, none⟩)] W [IsS p b at_ out most] (fun _ : Ok (mS litL dstL b most at_ out) => .tuple #[]) (fun x => [IsS p b x.1.1 x.1.2 most]) (fun y : Er (mS litL dstL b most at_ out) => pn y.1) (fun _ => []) := by
 (refine S.inflate_stream_fixed_s.cnP fun F => ?_; unfold S.inflate_stream_fixed; simp only [ca_, na_, -eq_self])
 refine c_ fixedL fun _ => ?_
 rename_i q
 obtain ⟨⟨la, lc⟩, ⟨da, dc⟩⟩ := q
 (try dsimp only)
 refine e_slfacts (.here) fun f1 f2 f3 f4 => ?_
 refine e_slfacts (.there .here) fun g1 g2 g3 g4 => ?_
 refine o_ (v_ext (v := .slice la litL.length lc) rfl) ?_
 refine o_ (v_ext (v := .slice da dstL.length dc) rfl) ?_
 (refine' e_callP (decoder (rd_sl (by rw [List.length_map]) f4) (by rw [lit_len]; omega)) ?hp (fun _ => ?_) (fun _ => ?_); (case hp => (repeat (first | exact Picks.nil | (apply Picks.cons; (focus repeat constructor))))); (all_goals (try simp only [ca_, na_, Bool.not_true, Bool.not_false, -eq_self])))
 rotate_left
 ·rename_i y
  exact absurd ok_lit y.2
 rename_i x1
 (refine' e_callP (decoder (rd_sl (by rw [List.length_map]) g4) (by rw [dst_len]; omega)) ?hp (fun _ => ?_) (fun _ => ?_); (case hp => (repeat (first | exact Picks.nil | (apply Picks.cons; (focus repeat constructor))))); (all_goals (try simp only [ca_, na_, Bool.not_true, Bool.not_false, -eq_self])))
 rotate_left
 ·rename_i y
  exact absurd ok_dst y.2
 rename_i x2
 (refine' e_callP (symbols (by rw [lit_len]; omega) (by rw [dst_len]; omega) h1 h2) ?hp (fun _ => ?_) (fun _ => ?_); (case hp => (repeat (first | exact Picks.nil | (apply Picks.cons; (focus repeat constructor))))); (all_goals (try simp only [ca_, na_, Bool.not_true, Bool.not_false, -eq_self])))
 ·rename_i x
  refine rt_ x ?_
  exact im_
 ·rename_i y
  refine e_pan y rfl ?_
  exact im_
end Go.Proofs.YthoeeahdkdcceaaGreat.IF
