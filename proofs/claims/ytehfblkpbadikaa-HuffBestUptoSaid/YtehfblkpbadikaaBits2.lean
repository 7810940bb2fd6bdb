/- The Reader of package bits. No conditions but those that each names. -/
import Derived.Test.YtehfblkpbadikaaBits1
set_option linter.unusedVariables false
set_option linter.unusedSimpArgs false
namespace Go.Proofs.Ytehfblkpbadikaa.B
open Go Go.Proofs Go.Proofs.Ytehfblkpbadikaa.Sh Go.Proofs.Ytehfblkpbadikaa.Sl Go.Proofs.Ytehfblkpbadikaa.T Go.Proofs.Ytehfblkpbadikaa.M
/-- a Reader at p of the bytes b, at_ bits taken -/
def IsR (p : Nat) (b : List UInt8) (at_ : Nat) : HP := ex fun q : Option Addr × Nat => all [pt p (.cells #[.slice q.1 b.length q.2, .int .i64 (at_ : Int), .bool true] 115), Sl 1 5 q.1 q.2 b.length (b.map B), pu (at_ ≤ 8 * b.length ∧ b.length ≤ 140737488355328)]

theorem rnone_nil {W : World} : Cn Try.prog 61 [.pointer none] W [] (fun _ : Unit => .bool true) (fun _ => []) := by
  (refine S.bits_Reader_none_cn fun F => ?_; unfold S.bits_Reader_none; simp only [List.cons_append, List.nil_append])
  (((with_reducible refine e_opN v_eqNil0 Imp.nil ?_))); ((with_reducible refine e_gdF1 ?_)); ((with_reducible refine e_gdF1 ?_)); ((with_reducible refine e_gdF1 ?_)); ((with_reducible refine e_gdF1 ?_)); ((with_reducible refine e_gdF1 ?_)); (((with_reducible refine e_opN v_pickT Imp.nil ?_)))
  (refine e_ret Unit.unit (by rfl) ?_; (repeat (first | exact Imp.refl | exact Imp.nil | (apply Imp.pick; (focus ((repeat constructor); done))) | refine Imp.drop ?_)))
theorem rnone_some {W : World} {p : Nat} {a b : Value} {m : Bool} : Cn Try.prog 61 [.pointer (some ⟨p, 0, none⟩)] W [pt p (.cells #[a, b, .bool m] 115)] (fun _ : Unit => .bool (!m)) (fun _ => [pt p (.cells #[a, b, .bool m] 115)]) := by
  (refine S.bits_Reader_none_cn fun F => ?_; unfold S.bits_Reader_none; simp only [List.cons_append, List.nil_append])
  (((with_reducible refine e_opN v_eqNil1 Imp.nil ?_))); ((with_reducible refine e_gdT ?_)); ((with_reducible refine e_gdT ?_)); (((with_reducible refine e_opN v_nil Imp.nil ?_))); ((with_reducible refine e_gdT ?_)); (((with_reducible refine e_opN v_fa0 Imp.nil ?_))); ((with_reducible refine e_gdT ?_)); (((with_reducible refine' e_opN (v_ldN ?hc) ?hi ?_); (case hi => (repeat (first | exact Imp.refl | exact Imp.nil | (apply Imp.pick; (focus ((repeat constructor); done))) | refine Imp.drop ?_))); (case hc => (repeat (first | exact Nth.here | apply Nth.there))))); ((with_reducible refine e_gdT ?_)); (((with_reducible refine e_opN v_not Imp.nil ?_))); (((with_reducible refine e_opN v_pickF Imp.nil ?_)))
  (refine e_ret Unit.unit (by rfl) ?_; (repeat (first | exact Imp.refl | exact Imp.nil | (apply Imp.pick; (focus ((repeat constructor); done))) | refine Imp.drop ?_)))
theorem srcLeft {W : World} {p n c at_ : Nat} {a : Option Addr} {m : Value} (hn : n ≤ 140737488355328) (ha : at_ ≤ 8 * n) : Cn Try.prog 62 [.pointer (some ⟨p, 0, none⟩)] W [pt p (.cells #[.slice a n c, .int .i64 (at_ : Int), m] 115)] (fun _ : Unit => .int .i64 (8 * (n : Int) - at_)) (fun _ => [pt p (.cells #[.slice a n c, .int .i64 (at_ : Int), m] 115)]) := by
  (refine S.bits_source_left_cn fun F => ?_; unfold S.bits_source_left; simp only [List.cons_append, List.nil_append])
  ((with_reducible refine e_drS ?_)); (((with_reducible refine e_stS v_nil Imp.nil ?_))); (((with_reducible refine e_stS v_fa0 Imp.nil ?_))); (((with_reducible refine' e_stS (v_ldN ?hc) ?hi ?_); (case hi => (repeat (first | exact Imp.refl | exact Imp.nil | (apply Imp.pick; (focus ((repeat constructor); done))) | refine Imp.drop ?_))); (case hc => (repeat (first | exact Nth.here | apply Nth.there))))); (((with_reducible refine e_stS v_len Imp.nil ?_))); (((with_reducible refine e_stS (v_mul ?h1 ?h2) Imp.nil ?_); (case h1 => omega); (case h2 => omega))); (((with_reducible refine e_stS v_nil Imp.nil ?_))); (((with_reducible refine e_stS v_fa0 Imp.nil ?_))); (((with_reducible refine' e_stS (v_ldN ?hc) ?hi ?_); (case hi => (repeat (first | exact Imp.refl | exact Imp.nil | (apply Imp.pick; (focus ((repeat constructor); done))) | refine Imp.drop ?_))); (case hc => (repeat (first | exact Nth.here | apply Nth.there))))); (((with_reducible refine e_stS (v_sub ?h1 ?h2) Imp.nil ?_); (case h1 => omega); (case h2 => omega)))
  (refine e_ret Unit.unit (by rfl) ?_; (repeat (first | exact Imp.refl | exact Imp.nil | (apply Imp.pick; (focus ((repeat constructor); done))) | refine Imp.drop ?_)))
theorem srcBit {W : World} {p at_ : Nat} {b : List UInt8} {v : Bool} (hv : (ub b)[at_]? = some v) : Cn Try.prog 79 [.pointer (some ⟨p, 0, none⟩)] W [IsR p b at_] (fun _ : Unit => .int .i64 (v.toNat : Int)) (fun _ => [IsR p b (at_ + 1)]) := by
  (refine S.bits_source_bit_cn fun F => ?_; unfold S.bits_source_bit; simp only [List.cons_append, List.nil_append])
  refine e_ex Pick.here fun q => ?_
  obtain ⟨qa, qc⟩ := q
  refine e_all Pick.here ?_
  (try simp only [List.cons_append, List.nil_append])
  refine e_pu (.there (.there .here)) fun hL => ?_
  have hlt : at_ < 8 * b.length := by
    rw [← length_ub]
    rcases Nat.lt_or_ge at_ (ub b).length with h | h
    · exact h
    · rw [List.getElem?_eq_none h] at hv; cases hv
  have h8 : at_ / 8 < b.length := by omega
  rw [ub_get h8] at hv
  have hv' := Option.some.inj hv
  refine e_slsome (.there .here) (by omega) fun g hg => ?_
  subst hg
  ((with_reducible refine e_drS ?_)); (((with_reducible refine e_stS v_nil Imp.nil ?_))); (((with_reducible refine e_stS v_fa0 Imp.nil ?_))); (((with_reducible refine' e_stS (v_ldN ?hc) ?hi ?_); (case hi => (repeat (first | exact Imp.refl | exact Imp.nil | (apply Imp.pick; (focus ((repeat constructor); done))) | refine Imp.drop ?_))); (case hc => (repeat (first | exact Nth.here | apply Nth.there))))); (((with_reducible refine e_stS v_nil Imp.nil ?_))); (((with_reducible refine e_stS v_fa0 Imp.nil ?_))); (((with_reducible refine' e_stS (v_ldN ?hc) ?hi ?_); (case hi => (repeat (first | exact Imp.refl | exact Imp.nil | (apply Imp.pick; (focus ((repeat constructor); done))) | refine Imp.drop ?_))); (case hc => (repeat (first | exact Nth.here | apply Nth.there))))); (((with_reducible refine e_stS (v_quo ?h1 ?h2 ?h3) Imp.nil ?_); (case h1 => omega); (case h2 => omega); (case h3 => omega)))
  refine e_stS (v_ia1 (at_ / 8) (by norm_cast) (by omega)) Imp.nil ?_
  refine e_stS (v_ldSl (v := B b[at_ / 8]) (by rw [Nat.zero_add]; exact B_get h8)) (.pick (.there .here) .nil) ?_
  (((with_reducible refine e_stS v_nil Imp.nil ?_))); (((with_reducible refine e_stS v_fa0 Imp.nil ?_))); (((with_reducible refine' e_stS (v_ldN ?hc) ?hi ?_); (case hi => (repeat (first | exact Imp.refl | exact Imp.nil | (apply Imp.pick; (focus ((repeat constructor); done))) | refine Imp.drop ?_))); (case hc => (repeat (first | exact Nth.here | apply Nth.there))))); (((with_reducible refine e_stS (v_rem ?h1 ?h2) Imp.nil ?_); (case h1 => omega); (case h2 => omega)))
  have hb := b[at_ / 8].toNat_lt
  refine e_stS v_conv Imp.nil ?_
  rw [show ((at_ : Int) % 8) = ((at_ % 8 : Nat) : Int) by norm_cast, wrapu64 (by omega)]
  refine e_stS (v_shr (by omega)) Imp.nil ?_
  rw [shr8 (by omega)]
  refine e_stS v_and Imp.nil ?_
  have hdiv : b[at_ / 8].toNat / 2 ^ (at_ % 8) ≤ b[at_ / 8].toNat := Nat.div_le_self _ _
  rw [and1_8 (by omega), testBit_mod, hv']
  refine e_stS v_conv Imp.nil ?_
  rw [w64 (by omega) (by cases v <;> simp)]
  (((with_reducible refine e_opN v_nil Imp.nil ?_))); (((with_reducible refine e_opN v_fa0 Imp.nil ?_))); (((with_reducible refine' e_opN (v_ldN ?hc) ?hi ?_); (case hi => (repeat (first | exact Imp.refl | exact Imp.nil | (apply Imp.pick; (focus ((repeat constructor); done))) | refine Imp.drop ?_))); (case hc => (repeat (first | exact Nth.here | apply Nth.there))))); (((with_reducible refine e_opN (v_add ?h1 ?h2) Imp.nil ?_); (case h1 => omega); (case h2 => omega))); (((with_reducible refine e_opN v_nil Imp.nil ?_))); (((with_reducible refine e_opN v_fa0 Imp.nil ?_))); (((with_reducible refine' e_stN ?hp ?ho ?_); (case hp => (repeat constructor)); (case ho => (repeat (first | exact Put.here | apply Put.there)))))
  refine e_ret () rfl ?_
  refine .ex (some ⟨g, 0, none⟩, qc) (.all ?_)
  (try simp only [List.cons_append, List.nil_append])
  rw [show ((at_ + 1 : Nat) : Int) = (at_ : Int) + 1 by norm_cast]
  exact .pick .here (.pick .here (.pu ⟨by omega, hL.2⟩ .refl))

theorem newReader {W : World} {a : Option Addr} {cap : Nat} {b : List UInt8} {A : HP} (hr : RdB W A a b.length (b.map B)) (ha : a = none → b.length = 0) (hb : b.length ≤ 140737488355328) :
    Cn Try.prog 37 [.slice a b.length cap] W [A] (fun p : Nat => .pointer (some ⟨p, 0, none⟩)) (fun p => [IsR p b 0, A]) := by
  (refine S.bits_NewReader_cn fun F => ?_; unfold S.bits_NewReader; simp only [List.cons_append, List.nil_append])
  refine e_nil (s := 1) (e := 5) ?_
  refine e_app (m := b.length) (news := b.map B) .here (src_rd (A := A) (e' := 5) (by kernel_rfl) (.there .here) hr ha B_one) (by omega) (by omega) fun a' c' => ?_
  rw [Nat.zero_add, List.nil_append]
  (((with_reducible refine e_opN v_rv Imp.nil ?_))); (((with_reducible refine e_opN v_rv Imp.nil ?_))); (((with_reducible refine e_boxA fun g => ?_)))
  refine e_ret g rfl ?_
  refine .ex (a', c') (.all ?_)
  (try simp only [List.cons_append, List.nil_append])
  exact .pick .here (.pick .here (.pu ⟨by omega, hb⟩ (.pick .here .refl)))

theorem left {W : World} {p at_ : Nat} {b : List UInt8} : Cn Try.prog 41 [.pointer (some ⟨p, 0, none⟩)] W [IsR p b at_] (fun _ : Unit => .int .i64 (8 * (b.length : Int) - at_)) (fun _ => [IsR p b at_]) := by
  (refine S.bits_Reader_Left_cn fun F => ?_; unfold S.bits_Reader_Left; simp only [List.cons_append, List.nil_append])
  refine e_ex Pick.here fun q => ?_
  obtain ⟨qa, qc⟩ := q
  refine e_all Pick.here ?_
  (try simp only [List.cons_append, List.nil_append])
  refine e_pu (.there (.there .here)) fun hL => ?_
  (refine' e_call (rnone_some) ?hp fun _ => ?_; (case hp => (repeat (first | exact Picks.nil | (apply Picks.cons; (focus (repeat constructor)))))); (try simp only [List.cons_append, List.nil_append, Bool.not_true, Bool.not_false]))
  ((with_reducible refine e_condF ?_)); (((with_reducible refine e_opN v_nil Imp.nil ?_))); (((with_reducible refine e_opN v_fa0 Imp.nil ?_)))
  (refine' e_call (srcLeft hL.2 hL.1) ?hp fun _ => ?_; (case hp => (repeat (first | exact Picks.nil | (apply Picks.cons; (focus (repeat constructor)))))); (try simp only [List.cons_append, List.nil_append, Bool.not_true, Bool.not_false]))
  (first | refine e_ret (()) rfl ?_ | refine e_retT (()) ?_)
  refine .ex (qa, qc) (.all ?_)
  (try simp only [List.cons_append, List.nil_append])
  exact .pick .here (.pick .here (.pu hL .refl))

def takR (b : List UInt8) (at_ : Nat) (k : Int) : Int := if k < 0 ∨ 32 < k then 1 else if 8 * (b.length : Int) - at_ < k then 20 else 0
def takN (b : List UInt8) (at_ : Nat) (k : Int) : Nat := if takR b at_ k = 0 then tak (ub b) at_ k.toNat else 0
def takAt (b : List UInt8) (at_ : Nat) (k : Int) : Nat := if takR b at_ k = 0 then at_ + k.toNat else at_
theorem take {W : World} {p at_ : Nat} {b : List UInt8} {k : Int} : Cn Try.prog 59 [.pointer (some ⟨p, 0, none⟩), .int .i64 k] W [IsR p b at_] (fun _ : Unit => .tuple #[.int .i64 (takN b at_ k : Int), .int .i64 (takR b at_ k)]) (fun _ => [IsR p b (takAt b at_ k)]) := by
  (refine S.bits_Reader_Take_cn fun F => ?_; unfold S.bits_Reader_Take; simp only [List.cons_append, List.nil_append])
  refine e_cut1 (fun z => IsR p b at_ :: pu (z = .bool (decide (k < 0 ∨ 32 < k))) :: F) ?_ ?_
  · intro ds z
    refine e_pu (.there .here) fun hz => ?_
    subst hz
    by_cases hb : k < 0 ∨ 32 < k
    · rw [decide_eq_true hb]
      have hR : takR b at_ k = 1 := by simp [takR, hb]
      rw [hR, show takN b at_ k = 0 by simp [takN, hR], show takAt b at_ k = at_ by simp [takAt, hR]]
      ((with_reducible refine e_condT ?_))
      (first | refine e_ret (()) rfl ?_ | refine e_retT (()) ?_)
      (repeat (first | exact Imp.refl | exact Imp.nil | (apply Imp.pick; (focus ((repeat constructor); done))) | refine Imp.drop ?_))
    · rw [decide_eq_false hb]
      refine e_ex Pick.here fun q => ?_
      obtain ⟨qa, qc⟩ := q
      refine e_all Pick.here ?_
      (try simp only [List.cons_append, List.nil_append])
      refine e_pu (.there (.there .here)) fun hL => ?_
      ((with_reducible refine e_condF ?_)); (((with_reducible refine e_opN v_nil Imp.nil ?_))); (((with_reducible refine e_opN v_fa0 Imp.nil ?_)))
      (refine' e_call (srcLeft hL.2 hL.1) ?hp fun _ => ?_; (case hp => (repeat (first | exact Picks.nil | (apply Picks.cons; (focus (repeat constructor)))))); (try simp only [List.cons_append, List.nil_append, Bool.not_true, Bool.not_false]))
      (refine e_ask v_gtr Imp.nil (fun h => ?_) (fun h => ?_))
      · ((with_reducible refine e_condT ?_))
        have hR : takR b at_ k = 20 := by simp [takR, hb, h]
        rw [hR, show takN b at_ k = 0 by simp [takN, hR], show takAt b at_ k = at_ by simp [takAt, hR]]
        (first | refine e_ret (()) rfl ?_ | refine e_retT (()) ?_)
        refine .ex (qa, qc) (.all ?_)
        (try simp only [List.cons_append, List.nil_append])
        exact .pick .here (.pick .here (.pu hL .refl))
      · ((with_reducible refine e_condF ?_))
        have hR : takR b at_ k = 0 := by simp [takR, hb, h]
        rw [hR, show takN b at_ k = tak (ub b) at_ k.toNat by simp [takN, hR], show takAt b at_ k = at_ + k.toNat by simp [takAt, hR]]
        obtain ⟨K, rfl⟩ := Int.eq_ofNat_of_zero_le (show 0 ≤ k by omega)
        rw [Int.toNat_natCast]
        refine e_loop2 (fun m x y => [ex fun i : Nat => all [pu (m + i = K ∧ y = .int .i64 (i : Int) ∧ x = .int .i64 (tak (ub b) at_ i : Int)), IsR p b (at_ + i)]] ++ F) K ?_ ?_
        · refine Imp.ex 0 (.all ?_)
          (try simp only [List.cons_append, List.nil_append])
          refine .pu ⟨by omega, rfl, by rw [tak_zero]; rfl⟩ (.ex (qa, qc) (.all ?_))
          (try simp only [List.cons_append, List.nil_append])
          exact .pick .here (.pick .here (.pu hL .refl))
        · intro m ds x y
          (try simp only [List.cons_append, List.nil_append])
          refine e_ex Pick.here fun i => e_all Pick.here ?_
          (try simp only [List.cons_append, List.nil_append])
          refine e_pu Pick.here fun hi => ?_
          obtain ⟨hm, rfl, rfl⟩ := hi
          (refine e_ask v_lss Imp.nil (fun h => ?_) (fun h => ?_))
          · have hik : i < K := by omega
            obtain ⟨v, hv⟩ : ∃ v, (ub b)[at_ + i]? = some v := ⟨_, List.getElem?_eq_getElem (by rw [length_ub]; omega)⟩
            ((with_reducible refine e_condT ?_)); (((with_reducible refine e_opN v_nil Imp.nil ?_))); (((with_reducible refine e_opN v_fa0 Imp.nil ?_)))
            (refine' e_call (srcBit hv) ?hp fun _ => ?_; (case hp => (repeat (first | exact Picks.nil | (apply Picks.cons; (focus (repeat constructor)))))); (try simp only [List.cons_append, List.nil_append, Bool.not_true, Bool.not_false]))
            refine e_opN v_conv Imp.nil ?_
            rw [wrapu64 (by omega)]
            refine e_opN (v_shl (by omega)) Imp.nil ?_
            have hmin : min ((i : Int)).toNat IntKind.i64.bits = i := by simp only [IntKind.bits, Int.toNat_natCast]; omega
            have hp : 2 ^ i ≤ 2 ^ 32 := Nat.pow_le_pow_right (by omega) (by omega)
            have hc : (v.toNat : Int) * 2 ^ i = ((v.toNat * 2 ^ i : Nat) : Int) := by norm_cast
            have hle : v.toNat * 2 ^ i ≤ 2 ^ i := by cases v <;> simp
            obtain ⟨E, hE⟩ : ∃ E, E = v.toNat * 2 ^ i := ⟨_, rfl⟩
            rw [hmin, hc, ← hE, w64 (by omega) (by omega)]
            refine e_opN v_or Imp.nil ?_
            rw [hE, or_shl (by omega) (tak_lt _ _ _), ← tak_succ hv]
            (((with_reducible refine e_opN (v_add ?h1 ?h2) Imp.nil ?_); (case h1 => omega); (case h2 => omega)))
            refine e_next2 (m - 1) (by omega) (.ex (i + 1) (.all ?_))
            (try simp only [List.cons_append, List.nil_append])
            refine .pu (by refine ⟨by omega, ?_⟩; first | trivial | exact ⟨by norm_cast, trivial⟩ | norm_cast) ?_
            rw [← Nat.add_assoc]
            (repeat (first | exact Imp.refl | exact Imp.nil | (apply Imp.pick; (focus ((repeat constructor); done))) | refine Imp.drop ?_))
          · have : i = K := by omega
            subst this
            ((with_reducible refine e_condF ?_))
            (first | refine e_ret (()) rfl ?_ | refine e_retT (()) ?_)
            (repeat (first | exact Imp.refl | exact Imp.nil | (apply Imp.pick; (focus ((repeat constructor); done))) | refine Imp.drop ?_))
  · refine e_ex Pick.here fun q => ?_
    obtain ⟨qa, qc⟩ := q
    refine e_all Pick.here ?_
    (try simp only [List.cons_append, List.nil_append])
    refine e_pu (.there (.there .here)) fun hL => ?_
    (refine' e_call (rnone_some) ?hp fun _ => ?_; (case hp => (repeat (first | exact Picks.nil | (apply Picks.cons; (focus (repeat constructor)))))); (try simp only [List.cons_append, List.nil_append, Bool.not_true, Bool.not_false]))
    ((with_reducible refine e_condF ?_))
    have fin : ∀ z : Value, z = .bool (decide (k < 0 ∨ 32 < k)) → Ent W (pt p (.cells #[.slice qa b.length qc, .int .i64 (at_ : Int), .bool true] 115) :: Sl 1 5 qa qc b.length (b.map B) :: F) (fun w => sat W (IsR p b at_ :: pu (z = .bool (decide (k < 0 ∨ 32 < k))) :: F) w) := fun z hz => e_sat (.ex (qa, qc) (.all (.pick .here (.pick .here (.pu hL (.pu hz .refl))))))
    (refine e_ask v_lss Imp.nil (fun h => ?_) (fun h => ?_))
    · ((with_reducible refine e_condT ?_))
      exact fin _ (by rw [decide_eq_true (.inl h)])
    · ((with_reducible refine e_condF ?_))
      refine e_opN v_gtr Imp.nil ?_
      refine fin _ ?_
      congr 1
      exact decide_eq_decide.2 ⟨fun h => .inr h, fun h' => h'.resolve_left h⟩

theorem ralign {W : World} {p at_ : Nat} {b : List UInt8} : Cn Try.prog 82 [.pointer (some ⟨p, 0, none⟩)] W [IsR p b at_] (fun _ : Unit => .tuple #[]) (fun _ => [IsR p b ((at_ + 7) / 8 * 8)]) := by
  (refine S.bits_Reader_Align_cn fun F => ?_; unfold S.bits_Reader_Align; simp only [List.cons_append, List.nil_append])
  refine e_ex Pick.here fun q => ?_
  obtain ⟨qa, qc⟩ := q
  refine e_all Pick.here ?_
  (try simp only [List.cons_append, List.nil_append])
  refine e_pu (.there (.there .here)) fun hL => ?_
  (refine' e_call (rnone_some) ?hp fun _ => ?_; (case hp => (repeat (first | exact Picks.nil | (apply Picks.cons; (focus (repeat constructor)))))); (try simp only [List.cons_append, List.nil_append, Bool.not_true, Bool.not_false]))
  (((with_reducible refine e_opN v_notF Imp.nil ?_))); ((with_reducible refine e_condT ?_)); (((with_reducible refine e_opN v_nil Imp.nil ?_))); (((with_reducible refine e_opN v_fa0 Imp.nil ?_))); (((with_reducible refine e_opN v_fa0 Imp.nil ?_))); (((with_reducible refine' e_opN (v_ldN ?hc) ?hi ?_); (case hi => (repeat (first | exact Imp.refl | exact Imp.nil | (apply Imp.pick; (focus ((repeat constructor); done))) | refine Imp.drop ?_))); (case hc => (repeat (first | exact Nth.here | apply Nth.there))))); (((with_reducible refine e_opN (v_add ?h1 ?h2) Imp.nil ?_); (case h1 => omega); (case h2 => omega))); (((with_reducible refine e_opN (v_quo ?h1 ?h2 ?h3) Imp.nil ?_); (case h1 => omega); (case h2 => omega); (case h3 => omega))); (((with_reducible refine e_opN (v_mul ?h1 ?h2) Imp.nil ?_); (case h1 => omega); (case h2 => omega))); (((with_reducible refine e_opN v_nil Imp.nil ?_))); (((with_reducible refine e_opN v_fa0 Imp.nil ?_))); (((with_reducible refine e_opN v_fa0 Imp.nil ?_))); (((with_reducible refine' e_stN ?hp ?ho ?_); (case hp => (repeat constructor)); (case ho => (repeat (first | exact Put.here | apply Put.there)))))
  (first | refine e_ret (()) rfl ?_ | refine e_retT (()) ?_)
  refine .ex (qa, qc) (.all ?_)
  (try simp only [List.cons_append, List.nil_append])
  rw [show (((at_ + 7) / 8 * 8 : Nat) : Int) = ((at_ : Int) + 7) / 8 * 8 by norm_cast]
  exact .pick .here (.pick .here (.pu ⟨by omega, hL.2⟩ .refl))
end Go.Proofs.Ytehfblkpbadikaa.B
