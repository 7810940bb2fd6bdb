/- The Writer of package bits: what each of its methods does to its bits. No conditions but those that each names. -/
import Derived.Test.YtehfblkpbadikaaTypes
import Derived.Test.YtehfblkpbadikaaShapes
import Derived.Test.YtehfblkpbadikaaBitsM
set_option linter.unusedVariables false
set_option linter.unusedSimpArgs false
namespace Go.Proofs.Ytehfblkpbadikaa.B
open Go Go.Proofs Go.Proofs.Ytehfblkpbadikaa.Sh Go.Proofs.Ytehfblkpbadikaa.Sl Go.Proofs.Ytehfblkpbadikaa.T Go.Proofs.Ytehfblkpbadikaa.M
theorem none_nil {W : World} : Cn Try.prog 58 [.pointer none] W [] (fun _ : Unit => .bool true) (fun _ => []) := by
  (refine S.bits_Writer_none_cn fun F => ?_; unfold S.bits_Writer_none; simp only [List.cons_append, List.nil_append])
  (((with_reducible refine e_opN v_eqNil0 Imp.nil ?_))); ((with_reducible refine e_gdF1 ?_)); ((with_reducible refine e_gdF1 ?_)); ((with_reducible refine e_gdF1 ?_)); ((with_reducible refine e_gdF1 ?_)); ((with_reducible refine e_gdF1 ?_)); (((with_reducible refine e_opN v_pickT Imp.nil ?_)))
  (refine e_ret Unit.unit (by rfl) ?_; (repeat (first | exact Imp.refl | exact Imp.nil | (apply Imp.pick; (focus ((repeat constructor); done))) | refine Imp.drop ?_)))
theorem none_some {W : World} {p : Nat} {a b : Value} {m : Bool} : Cn Try.prog 58 [.pointer (some ⟨p, 0, none⟩)] W [pt p (.cells #[a, b, .bool m] 106)] (fun _ : Unit => .bool (!m)) (fun _ => [pt p (.cells #[a, b, .bool m] 106)]) := by
  (refine S.bits_Writer_none_cn fun F => ?_; unfold S.bits_Writer_none; simp only [List.cons_append, List.nil_append])
  (((with_reducible refine e_opN v_eqNil1 Imp.nil ?_))); ((with_reducible refine e_gdT ?_)); ((with_reducible refine e_gdT ?_)); (((with_reducible refine e_opN v_nil Imp.nil ?_))); ((with_reducible refine e_gdT ?_)); (((with_reducible refine e_opN v_fa0 Imp.nil ?_))); ((with_reducible refine e_gdT ?_)); (((with_reducible refine' e_opN (v_ldN ?hc) ?hi ?_); (case hi => (repeat (first | exact Imp.refl | exact Imp.nil | (apply Imp.pick; (focus ((repeat constructor); done))) | refine Imp.drop ?_))); (case hc => (repeat (first | exact Nth.here | apply Nth.there))))); ((with_reducible refine e_gdT ?_)); (((with_reducible refine e_opN v_not Imp.nil ?_))); (((with_reducible refine e_opN v_pickF Imp.nil ?_)))
  (refine e_ret Unit.unit (by rfl) ?_; (repeat (first | exact Imp.refl | exact Imp.nil | (apply Imp.pick; (focus ((repeat constructor); done))) | refine Imp.drop ?_)))

/-- a Writer at p holds the bits l -/
def IsW (p : Nat) (l : List Bool) : HP := ex fun q : Option Addr × Nat => all [pt p (.cells #[.slice q.1 (pk l).length q.2, .int .i64 (l.length : Int), .bool true] 106), Sl 1 5 q.1 q.2 (pk l).length ((pk l).map B), pu (l.length ≤ 8388608)]

def badP (n k : Int) : Prop := k < 0 ∨ 32 < k ∨ n < 0 ∨ 2 ^ k.toNat ≤ n
instance (n k : Int) : Decidable (badP n k) := by unfold badP; infer_instance
def putR (l : List Bool) (n k : Int) : Int := if badP n k then 1 else if 8388608 - (l.length : Int) < k then 6 else 0
def putL (l : List Bool) (n k : Int) : List Bool := if putR l n k = 0 then l ++ bitsOf n.toNat k.toNat else l

theorem masks {W : World} : Cn Try.prog 78 [] W [] (fun _ : Unit => .agg #[.int .u8 1, .int .u8 2, .int .u8 4, .int .u8 8, .int .u8 16, .int .u8 32, .int .u8 64, .int .u8 128]) (fun _ => []) := by
  (refine S.bits_masks_cn fun F => ?_; unfold S.bits_masks; simp only [List.cons_append, List.nil_append])
  (((with_reducible refine e_newA fun g => ?_))); (((with_reducible refine e_opN v_rv Imp.nil ?_))); (((with_reducible refine' e_stAgg ?hp ?hn ?hv ?h1 ?_); (case hp => (repeat constructor)); (case hn => rfl); (case hv => rfl); (case h1 => simp [Value.oneCell']))); (((with_reducible refine' e_stS (v_resA ?hn) ?hi ?_); (case hi => (repeat (first | exact Imp.refl | exact Imp.nil | (apply Imp.pick; (focus ((repeat constructor); done))) | refine Imp.drop ?_))); (case hn => rfl)))
  (refine e_ret Unit.unit (by rfl) ?_; (repeat (first | exact Imp.refl | exact Imp.nil | (apply Imp.pick; (focus ((repeat constructor); done))) | refine Imp.drop ?_)))

def IsWx (p : Nat) (l : List Bool) : HP := ex fun q : Option Addr × Nat => all [pt p (.cells #[.slice q.1 (pkx l).length q.2, .int .i64 (l.length : Int), .bool true] 106), Sl 1 5 q.1 q.2 (pkx l).length ((pkx l).map B)]

theorem put {W : World} {p : Nat} {l : List Bool} {n k : Int} : Cn Try.prog 54 [.pointer (some ⟨p, 0, none⟩), .int .i64 n, .int .i64 k] W [IsW p l] (fun _ : Unit => .int .i64 (putR l n k)) (fun _ => [IsW p (putL l n k)]) := by
  (refine S.bits_Writer_Put_cn fun F => ?_; unfold S.bits_Writer_Put; simp only [List.cons_append, List.nil_append])
  refine e_ex Pick.here fun q => ?_
  obtain ⟨qa, qc⟩ := q
  refine e_all Pick.here ?_
  (try simp only [List.cons_append, List.nil_append])
  refine e_pu (.there (.there .here)) fun hL => ?_
  refine e_cut1 (fun z => pt p (.cells #[.slice qa (pk l).length qc, .int .i64 (l.length : Int), .bool true] 106) :: Sl 1 5 qa qc (pk l).length ((pk l).map B) :: pu (z = .bool (decide (badP n k))) :: F) ?_ ?_
  · intro ds z
    refine e_pu (.there (.there .here)) fun hz => ?_
    subst hz
    by_cases hb : badP n k
    · rw [decide_eq_true hb]
      ((with_reducible refine e_condT ?_))
      refine e_ret () (by simp [putR, hb]) ?_
      rw [show putL l n k = l by simp [putL, putR, hb]]
      refine Imp.ex (qa, qc) (.all ?_)
      (try simp only [List.cons_append, List.nil_append])
      refine .pick .here (.pick .here (.pu hL .refl))
    · rw [decide_eq_false hb]
      ((with_reducible refine e_condF ?_)); (((with_reducible refine e_opN v_nil Imp.nil ?_))); (((with_reducible refine e_opN v_fa0 Imp.nil ?_))); (((with_reducible refine' e_opN (v_ldN ?hc) ?hi ?_); (case hi => (repeat (first | exact Imp.refl | exact Imp.nil | (apply Imp.pick; (focus ((repeat constructor); done))) | refine Imp.drop ?_))); (case hc => (repeat (first | exact Nth.here | apply Nth.there))))); (((with_reducible refine e_opN (v_sub ?h1 ?h2) Imp.nil ?_); (case h1 => omega); (case h2 => omega)))
      (refine e_ask v_gtr Imp.nil (fun h => ?_) (fun h => ?_))
      · ((with_reducible refine e_condT ?_))
        refine e_ret () (by simp [putR, hb, h]) ?_
        rw [show putL l n k = l by simp [putL, putR, hb, h]]
        refine Imp.ex (qa, qc) (.all ?_)
        (try simp only [List.cons_append, List.nil_append])
        refine .pick .here (.pick .here (.pu hL .refl))
      · ((with_reducible refine e_condF ?_))
        (refine' e_call (masks) ?hp fun _ => ?_; (case hp => (repeat (first | exact Picks.nil | (apply Picks.cons; (focus (repeat constructor)))))); (try simp only [List.cons_append, List.nil_append, Bool.not_true, Bool.not_false]))
        (((with_reducible refine e_newA fun g => ?_))); (((with_reducible refine' e_stAgg ?hp ?hn ?hv ?h1 ?_); (case hp => (repeat constructor)); (case hn => rfl); (case hv => rfl); (case h1 => simp [Value.oneCell'])))
        rename_i g
        have hR : putR l n k = 0 := by simp [putR, hb, h]
        have hb' : 0 ≤ k ∧ k ≤ 32 ∧ 0 ≤ n ∧ n < 2 ^ k.toNat := by unfold badP at hb; omega
        have hPL : putL l n k = l ++ bitsOf n.toNat k.toNat := by simp [putL, hR]
        rw [hR, hPL]
        obtain ⟨h1, h2, h3, h4⟩ := hb'
        obtain ⟨K, rfl⟩ := Int.eq_ofNat_of_zero_le h1
        obtain ⟨N, rfl⟩ := Int.eq_ofNat_of_zero_le h3
        rw [Int.toNat_natCast] at h4
        rw [Int.toNat_natCast, Int.toNat_natCast]
        have hN : N < 4294967296 := by
          have : (2 : Int) ^ K = ((2 ^ K : Nat) : Int) := by norm_cast
          have h32 : 2 ^ K ≤ 2 ^ 32 := Nat.pow_le_pow_right (by omega) (by omega)
          omega
        clear hR hPL hb h4
        refine e_loop1 (fun m y => [ex fun i : Nat => all [pu (m + i = K ∧ y = .int .i64 (i : Int)), pt g (.cells #[.int .u8 1, .int .u8 2, .int .u8 4, .int .u8 8, .int .u8 16, .int .u8 32, .int .u8 64, .int .u8 128] 137), IsW p (l ++ bitsOf N i)]] ++ F) K ?_ ?_
        · refine Imp.ex 0 (.all ?_)
          (try simp only [List.cons_append, List.nil_append])
          refine .pu ⟨by omega, rfl⟩ (.pick .here (.ex (qa, qc) (.all ?_)))
          (try simp only [List.cons_append, List.nil_append])
          rw [show l ++ bitsOf N 0 = l by simp [bitsOf]]
          exact .pick .here (.pick .here (.pu hL .refl))
        · intro m ds y
          (try simp only [List.cons_append, List.nil_append])
          refine e_ex Pick.here fun i => e_all Pick.here ?_
          (try simp only [List.cons_append, List.nil_append])
          refine e_pu Pick.here fun hi => ?_
          obtain ⟨hm, rfl⟩ := hi
          obtain ⟨L, hLe⟩ : ∃ L, L = l ++ bitsOf N i := ⟨_, rfl⟩
          have hLl : L.length = l.length + i := by rw [hLe, List.length_append, length_bitsOf]
          rw [← hLe]
          (refine e_ask v_lss Imp.nil (fun h => ?_) (fun h => ?_))
          · have hik : i < K := by omega
            ((with_reducible refine e_condT ?_))
            refine e_cut0 ([pt g (.cells #[.int .u8 1, .int .u8 2, .int .u8 4, .int .u8 8, .int .u8 16, .int .u8 32, .int .u8 64, .int .u8 128] 137), IsWx p L] ++ F) ?_ ?_
            · intro ds2
              (try simp only [List.cons_append, List.nil_append])
              refine e_ex (.there .here) fun q2 => ?_
              obtain ⟨xa, xc⟩ := q2
              refine e_all Pick.here ?_
              (try simp only [List.cons_append, List.nil_append])
              refine e_cut0 ([pt g (.cells #[.int .u8 1, .int .u8 2, .int .u8 4, .int .u8 8, .int .u8 16, .int .u8 32, .int .u8 64, .int .u8 128] 137), pt p (.cells #[.slice xa (pkx L).length xc, .int .i64 (L.length : Int), .bool true] 106), Sl 1 5 xa xc (pkx L).length ((pk (L ++ [N.testBit i])).map B)] ++ F) ?_ ?_
              · intro ds3
                (try simp only [List.cons_append, List.nil_append])
                (((with_reducible refine e_opN v_nil Imp.nil ?_))); (((with_reducible refine e_opN v_fa0 Imp.nil ?_))); (((with_reducible refine' e_opN (v_ldN ?hc) ?hi ?_); (case hi => (repeat (first | exact Imp.refl | exact Imp.nil | (apply Imp.pick; (focus ((repeat constructor); done))) | refine Imp.drop ?_))); (case hc => (repeat (first | exact Nth.here | apply Nth.there))))); (((with_reducible refine e_opN (v_add ?h1 ?h2) Imp.nil ?_); (case h1 => omega); (case h2 => omega))); (((with_reducible refine e_opN v_nil Imp.nil ?_))); (((with_reducible refine e_opN v_fa0 Imp.nil ?_))); (((with_reducible refine' e_stN ?hp ?ho ?_); (case hp => (repeat constructor)); (case ho => (repeat (first | exact Put.here | apply Put.there))))); (((with_reducible refine e_opN (v_add ?h1 ?h2) Imp.nil ?_); (case h1 => omega); (case h2 => omega)))
                refine e_next1 (m - 1) (by omega) (.ex (i + 1) (.all ?_))
                (try simp only [List.cons_append, List.nil_append])
                refine .pu ⟨by omega, by norm_cast⟩ (.pick (.there .here) (.ex (xa, xc) (.all ?_)))
                (try simp only [List.cons_append, List.nil_append])
                have e1 : l ++ bitsOf N (i + 1) = L ++ [N.testBit i] := by rw [hLe, bitsOf_succ, List.append_assoc]
                have e2 : (pk (L ++ [N.testBit i])).length = (pkx L).length := by rw [length_pk, length_pkx]; simp; omega
                rw [e1, e2]
                have e3 : ((L ++ [N.testBit i]).length : Int) = (L.length : Int) + 1 := by simp
                rw [e3]
                exact .pick .here (.pick (.here) (.pu (by simp; omega) .refl))
              · refine e_opN v_conv Imp.nil ?_
                rw [wrapu64 (by omega)]
                refine e_opN (v_shr (by omega)) Imp.nil ?_
                rw [shr_nat (by omega)]
                refine e_opN v_and Imp.nil ?_
                have hdiv : N / 2 ^ i ≤ N := Nat.div_le_self _ _
                rw [and1 (by omega), testBit_mod]
                (refine e_ask v_eql Imp.nil (fun h => ?_) (fun h => ?_))
                · have hbit : N.testBit i = true := by
                    cases hh : N.testBit i with
                    | true => rfl
                    | false => rw [hh] at h; simp at h
                  have hpx := length_pkx L
                  refine e_slsome (.there .here) (by omega) fun g1 hg1 => ?_
                  subst hg1
                  ((with_reducible refine e_condT ?_)); ((with_reducible refine e_drS ?_)); (((with_reducible refine e_stS v_nil Imp.nil ?_))); (((with_reducible refine e_stS v_fa0 Imp.nil ?_))); (((with_reducible refine' e_stS (v_ldN ?hc) ?hi ?_); (case hi => (repeat (first | exact Imp.refl | exact Imp.nil | (apply Imp.pick; (focus ((repeat constructor); done))) | refine Imp.drop ?_))); (case hc => (repeat (first | exact Nth.here | apply Nth.there))))); (((with_reducible refine e_stS v_nil Imp.nil ?_))); (((with_reducible refine e_stS v_fa0 Imp.nil ?_))); (((with_reducible refine' e_stS (v_ldN ?hc) ?hi ?_); (case hi => (repeat (first | exact Imp.refl | exact Imp.nil | (apply Imp.pick; (focus ((repeat constructor); done))) | refine Imp.drop ?_))); (case hc => (repeat (first | exact Nth.here | apply Nth.there))))); (((with_reducible refine e_stS (v_quo ?h1 ?h2 ?h3) Imp.nil ?_); (case h1 => omega); (case h2 => omega); (case h3 => omega)))
                  refine e_stS (v_ia1 (L.length / 8) (by norm_cast) (by omega)) Imp.nil ?_
                  refine e_stS (v_ldSl (v := B (UInt8.ofNat (byteAt L (L.length / 8)))) (by rw [Nat.zero_add, List.getElem?_map, pkx_last]; rfl)) (.pick (.there .here) .nil) ?_
                  (((with_reducible refine e_stS v_nil Imp.nil ?_))); (((with_reducible refine e_stS v_fa0 Imp.nil ?_))); (((with_reducible refine' e_stS (v_ldN ?hc) ?hi ?_); (case hi => (repeat (first | exact Imp.refl | exact Imp.nil | (apply Imp.pick; (focus ((repeat constructor); done))) | refine Imp.drop ?_))); (case hc => (repeat (first | exact Nth.here | apply Nth.there))))); (((with_reducible refine e_stS (v_rem ?h1 ?h2) Imp.nil ?_); (case h1 => omega); (case h2 => omega)))
                  refine e_stS (v_iaA (L.length % 8) (by norm_cast) (by omega)) Imp.nil ?_
                  refine e_stS (v_ld (by rw [Nat.zero_add, Nat.mul_one]; exact mask_at (by omega))) (.pick (.there (.there .here)) .nil) ?_
                  rw [B_ofNat (byteAt_lt _ _)]
                  refine e_stS v_or Imp.nil ?_
                  rw [or8 (by omega) (byteAt_last L)]
                  refine e_stS (v_ia1 (L.length / 8) (by norm_cast) (by omega)) Imp.nil ?_
                  refine e_stSl (.there .here) (by simp; omega) ?_
                  refine e_sat ?_
                  have e4 : byteAt L (L.length / 8) + 2 ^ (L.length % 8) < 256 := by
                    have := byteAt_lt (L ++ [true]) (L.length / 8)
                    rw [byteAt_snoc_eq] at this; simpa using this
                  rw [hbit, pk_snoc_t, Nat.zero_add, List.map_set, B_ofNat e4]
                  (try simp only [List.cons_append, List.nil_append])
                  (repeat (first | exact Imp.refl | exact Imp.nil | (apply Imp.pick; (focus ((repeat constructor); done))) | refine Imp.drop ?_))
                · have hbit : N.testBit i = false := by
                    cases hh : N.testBit i with
                    | false => rfl
                    | true => rw [hh] at h; simp at h
                  ((with_reducible refine e_condF ?_))
                  refine e_sat ?_
                  rw [hbit, pk_snoc_f]
                  (try simp only [List.cons_append, List.nil_append])
                  (repeat (first | exact Imp.refl | exact Imp.nil | (apply Imp.pick; (focus ((repeat constructor); done))) | refine Imp.drop ?_))
            · refine e_ex (.there .here) fun q2 => ?_
              obtain ⟨xa, xc⟩ := q2
              refine e_all Pick.here ?_
              (try simp only [List.cons_append, List.nil_append])
              refine e_pu (.there (.there .here)) fun hL2 => ?_
              (((with_reducible refine e_opN v_nil Imp.nil ?_))); (((with_reducible refine e_opN v_fa0 Imp.nil ?_))); (((with_reducible refine' e_opN (v_ldN ?hc) ?hi ?_); (case hi => (repeat (first | exact Imp.refl | exact Imp.nil | (apply Imp.pick; (focus ((repeat constructor); done))) | refine Imp.drop ?_))); (case hc => (repeat (first | exact Nth.here | apply Nth.there))))); (((with_reducible refine e_opN (v_rem ?h1 ?h2) Imp.nil ?_); (case h1 => omega); (case h2 => omega)))
              have hpk := length_pk L
              (refine e_ask v_eql Imp.nil (fun h => ?_) (fun h => ?_))
              · ((with_reducible refine e_condT ?_)); (((with_reducible refine e_opN v_nil Imp.nil ?_))); (((with_reducible refine e_opN v_fa0 Imp.nil ?_))); (((with_reducible refine' e_opN (v_ldN ?hc) ?hi ?_); (case hi => (repeat (first | exact Imp.refl | exact Imp.nil | (apply Imp.pick; (focus ((repeat constructor); done))) | refine Imp.drop ?_))); (case hc => (repeat (first | exact Nth.here | apply Nth.there))))); (((with_reducible refine e_bsl1 fun g => ?_)))
                refine e_app (m := 1) (news := [B 0]) (.there (.there .here)) (src_pt (e' := 5) (by kernel_rfl) .here (by rfl) (B_one (l := [0]))) (by omega) (by omega) fun a' c' => ?_
                (((with_reducible refine e_opN v_nil Imp.nil ?_))); (((with_reducible refine e_opN v_fa0 Imp.nil ?_))); (((with_reducible refine' e_stN ?hp ?ho ?_); (case hp => (repeat constructor)); (case ho => (repeat (first | exact Put.here | apply Put.there)))))
                refine e_sat ?_
                (try simp only [List.cons_append, List.nil_append])
                refine .pick (.there (.there (.there .here))) (.ex (a', c') (.all ?_))
                (try simp only [List.cons_append, List.nil_append])
                have h8 : L.length % 8 = 0 := by omega
                rw [pkx0 h8]
                simp only [List.length_append, List.length_singleton, List.map_append, List.map_cons, List.map_nil]
                (repeat (first | exact Imp.refl | exact Imp.nil | (apply Imp.pick; (focus ((repeat constructor); done))) | refine Imp.drop ?_))
              · ((with_reducible refine e_condF ?_))
                refine e_sat ?_
                (try simp only [List.cons_append, List.nil_append])
                refine .pick (.there (.there .here)) (.ex (xa, xc) (.all ?_))
                (try simp only [List.cons_append, List.nil_append])
                rw [pkx1 (by omega)]
                (repeat (first | exact Imp.refl | exact Imp.nil | (apply Imp.pick; (focus ((repeat constructor); done))) | refine Imp.drop ?_))
          · have : i = K := by omega
            subst this
            ((with_reducible refine e_condF ?_))
            refine e_retT () ?_
            rw [← hLe]
            exact .pick (.there .here) (.drop .refl)
  · (refine' e_call (none_some) ?hp fun _ => ?_; (case hp => (repeat (first | exact Picks.nil | (apply Picks.cons; (focus (repeat constructor)))))); (try simp only [List.cons_append, List.nil_append, Bool.not_true, Bool.not_false]))
    ((with_reducible refine e_condF ?_))
    have fin : ∀ z : Value, z = .bool (decide (badP n k)) → Ent W (pt p (.cells #[.slice qa (pk l).length qc, .int .i64 (l.length : Int), .bool true] 106) :: Sl 1 5 qa qc (pk l).length ((pk l).map B) :: F) (fun w => sat W (pt p (.cells #[.slice qa (pk l).length qc, .int .i64 (l.length : Int), .bool true] 106) :: Sl 1 5 qa qc (pk l).length ((pk l).map B) :: pu (z = .bool (decide (badP n k))) :: F) w) := fun z hz => e_sat (.pick .here (.pick .here (.pu hz .refl)))
    (refine e_ask v_lss Imp.nil (fun h => ?_) (fun h => ?_))
    · ((with_reducible refine e_condT ?_))
      exact fin _ (by rw [decide_eq_true (show badP n k from .inl h)])
    · ((with_reducible refine e_condF ?_))
      (refine e_ask v_gtr Imp.nil (fun h => ?_) (fun h => ?_))
      · ((with_reducible refine e_condT ?_))
        exact fin _ (by rw [decide_eq_true (show badP n k from .inr (.inl ‹_›))])
      · ((with_reducible refine e_condF ?_))
        (refine e_ask v_lss Imp.nil (fun h => ?_) (fun h => ?_))
        · ((with_reducible refine e_condT ?_))
          exact fin _ (by rw [decide_eq_true (show badP n k from .inr (.inr (.inl ‹_›)))])
        · ((with_reducible refine e_condF ?_))
          refine e_opN v_min Imp.nil ?_
          rw [if_neg (by omega)]
          refine e_opN v_max Imp.nil ?_
          rw [show (if (0 : Int) < k then k else 0) = k by split <;> omega]
          obtain ⟨K, rfl⟩ := Int.eq_ofNat_of_zero_le (show 0 ≤ k by omega)
          refine e_opN v_conv Imp.nil ?_
          rw [wrapu64 (by omega)]
          refine e_opN (v_shl (by omega)) Imp.nil ?_
          have hm : min ((K : Int)).toNat IntKind.i64.bits = K := by simp only [IntKind.bits, Int.toNat_natCast]; omega
          have h32 : 2 ^ K ≤ 2 ^ 32 := Nat.pow_le_pow_right (by omega) (by omega)
          have hc : (2 : Int) ^ K = ((2 ^ K : Nat) : Int) := by norm_cast
          obtain ⟨E, hE⟩ : ∃ E, E = 2 ^ K := ⟨_, rfl⟩
          rw [← hE] at hc h32
          rw [hm, Int.one_mul, hc, w64 (by omega) (by omega)]
          refine e_opN v_geq Imp.nil ?_
          refine fin _ ?_
          have : ((E : Int) ≤ n) ↔ badP n K := by
            unfold badP
            rw [Int.toNat_natCast, hc]
            constructor
            · exact fun h => .inr (.inr (.inr h))
            · rintro (h | h | h | h)
              · omega
              · omega
              · omega
              · exact h
          rw [decide_eq_decide.2 this]

theorem newWriter {W : World} : Cn Try.prog 30 [] W [] (fun p : Nat => .pointer (some ⟨p, 0, none⟩)) (fun p => [IsW p []]) := by
  (refine S.bits_NewWriter_cn fun F => ?_; unfold S.bits_NewWriter; simp only [List.cons_append, List.nil_append])
  (((with_reducible refine e_opN v_rv Imp.nil ?_))); (((with_reducible refine e_boxA fun g => ?_)))
  refine e_ret g rfl ?_
  refine .ex (none, 0) (.all ?_)
  (try simp only [List.cons_append, List.nil_append])
  refine .pick .here ?_
  rw [show (pk []).length = 0 from rfl, show List.map B (pk []) = [] from rfl]
  exact imp_nil (.pu (by simp) .refl)

theorem bytes {W : World} {p : Nat} {l : List Bool} : Cn Try.prog 33 [.pointer (some ⟨p, 0, none⟩)] W [IsW p l] (fun q : Option Addr × Nat => .slice q.1 (pk l).length q.2) (fun q => [Sl 1 5 q.1 q.2 (pk l).length ((pk l).map B), IsW p l]) := by
  (refine S.bits_Writer_Bytes_cn fun F => ?_; unfold S.bits_Writer_Bytes; simp only [List.cons_append, List.nil_append])
  refine e_ex Pick.here fun q => ?_
  obtain ⟨qa, qc⟩ := q
  refine e_all Pick.here ?_
  (try simp only [List.cons_append, List.nil_append])
  refine e_pu (.there (.there .here)) fun hL => ?_
  have hpk := length_pk l
  (refine' e_call (none_some) ?hp fun _ => ?_; (case hp => (repeat (first | exact Picks.nil | (apply Picks.cons; (focus (repeat constructor)))))); (try simp only [List.cons_append, List.nil_append, Bool.not_true, Bool.not_false]))
  ((with_reducible refine e_condF ?_)); (((with_reducible refine e_opN v_nil Imp.nil ?_))); (((with_reducible refine e_opN v_fa0 Imp.nil ?_))); (((with_reducible refine' e_opN (v_ldN ?hc) ?hi ?_); (case hi => (repeat (first | exact Imp.refl | exact Imp.nil | (apply Imp.pick; (focus ((repeat constructor); done))) | refine Imp.drop ?_))); (case hc => (repeat (first | exact Nth.here | apply Nth.there)))))
  refine e_nil (s := 1) (e := 5) ?_
  refine e_app (m := (pk l).length) (news := (pk l).map B) .here (src_sl (e' := 5) (by kernel_rfl) (.there (.there .here)) B_one) (by omega) (by omega) fun a' c' => ?_
  rw [Nat.zero_add, List.nil_append]
  refine e_ret (a', c') rfl ?_
  refine .pick .here (.ex (qa, qc) (.all ?_))
  (try simp only [List.cons_append, List.nil_append])
  exact .pick .here (.pick .here (.pu hL .refl))

def rawR (l : List Bool) (b : List UInt8) : Int := if 1048576 < (pk l).length + b.length then 6 else 0
def rawL (l : List Bool) (b : List UInt8) : List Bool := if rawR l b = 0 then padTo8 l ++ ub b else l
end Go.Proofs.Ytehfblkpbadikaa.B
