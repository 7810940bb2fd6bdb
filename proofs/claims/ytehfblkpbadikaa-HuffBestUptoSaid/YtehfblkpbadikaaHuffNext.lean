/- A symbol is read: the program's way and the document's. No conditions but those that each names. -/
import Derived.Test.YtehfblkpbadikaaHuffDec
set_option linter.unusedVariables false
set_option linter.unusedSimpArgs false
namespace Go.Proofs.Ytehfblkpbadikaa.HF
open Go Go.Proofs Go.RowKit Go.Proofs.Ytehfblkpbadikaa.Sh Go.Proofs.Ytehfblkpbadikaa.Sl Go.Proofs.Ytehfblkpbadikaa.T Go.Proofs.Ytehfblkpbadikaa.HM Go.Proofs.Ytehfblkpbadikaa.B Go.Proofs.Ytehfblkpbadikaa.M
theorem e_rfact {W : World} {L L' : List HP} {S : WP} {r at_ : Nat} {b : List UInt8} (p : Pick L (IsR r b at_) L') (h : at_ ≤ 8 * b.length → Ent W L S) : Ent W L S := fun w hw => by
  obtain ⟨f, ⟨q, ha⟩, _⟩ := (hw.pick p).fst
  obtain ⟨_, _, _, ⟨_, _, _, ⟨_, _, hp, _⟩, _⟩, _⟩ := ha
  exact h hp.1 w hw
/-- symbol, error, bits taken -/
def dec (l : List Int) (b : List UInt8) : Nat → Nat → Nat → Nat → Int × Int × Nat
  | 0, _, _, at_ => (0, 30, at_)
  | f + 1, n, c, at_ => if takR b at_ 1 = 0 then (match fL l ((n + 1 : Nat) : Int) ((2 * c + takN b at_ 1 : Nat) : Int) l.length with
    | some i => ((i : Int), 0, takAt b at_ 1)
    | none => dec l b f (n + 1) (2 * c + takN b at_ 1) (takAt b at_ 1)) else (0, takR b at_ 1, takAt b at_ 1)
def nxt (l : List Int) (b : List UInt8) (at_ : Nat) : Int × Int × Nat := if pos l then dec l b 15 0 0 at_ else (0, 30, at_)
theorem pos_iff (l : List Int) : (∃ k, k < l.length ∧ ∃ x, l[k]? = some x ∧ 0 < x) ↔ pos l := by
  constructor
  · rintro ⟨k, hk, x, hx, h0⟩
    rw [List.getElem?_eq_getElem hk] at hx
    exact ⟨x, by rw [← Option.some.inj hx]; exact List.getElem_mem hk, h0⟩
  · rintro ⟨x, hx, h0⟩
    obtain ⟨k, hk, rfl⟩ := List.mem_iff_getElem.1 hx
    exact ⟨k, hk, _, List.getElem?_eq_getElem hk, h0⟩
theorem takN1 (b : List UInt8) (at_ : Nat) : ∃ v : Bool, takN b at_ 1 = v.toNat := by
  have h : takN b at_ 1 < 2 := by
    unfold takN
    split
    · exact tak_lt _ _ _
    · omega
  rcases (show takN b at_ 1 = 0 ∨ takN b at_ 1 = 1 by omega) with e | e
  · exact ⟨false, e⟩
  · exact ⟨true, e⟩
theorem next {W : World} {p r at_ : Nat} {l : List Int} {b : List UInt8} :
    Cn Try.prog 39 [.pointer (some ⟨p, 0, none⟩), .pointer (some ⟨r, 0, none⟩)] W [IsDec p l, IsR r b at_] (fun _ : Unit => .tuple #[.int .i64 (nxt l b at_).1, .int .i64 (nxt l b at_).2.1]) (fun _ => [IsDec p l, IsR r b (nxt l b at_).2.2]) := by
  (refine S.huff_Decoder_Next_cn fun F => ?_; unfold S.huff_Decoder_Next; simp only [List.cons_append, List.nil_append])
  refine e_rfact (.there .here) fun hat => ?_
  refine e_ex Pick.here fun gm => e_ex Pick.here fun mp => e_all Pick.here ?_
  (try simp only [List.cons_append, List.nil_append, -eq_self])
  refine e_pu (.there (.there .here)) fun hdec => ?_
  have back : ∀ {at2 : Nat} (s e : Int) (L : List HP), Imp W L (pt p (.cells #[.map (some gm)] 82) :: MapIs gm encC mp :: IsR r b at2 :: F) → nxt l b at_ = (s, e, at2) → Ent W L (fun w => ∃ x : Unit, (.tuple #[.int .i64 s, .int .i64 e] : Value) = .tuple #[.int .i64 (nxt l b at_).1, .int .i64 (nxt l b at_).2.1] ∧ sat W ([IsDec p l, IsR r b (nxt l b at_).2.2] ++ F) w) := by
    intro at2 s e L hi hn
    rw [hn]
    refine e_imp hi ?_
    refine e_ret () rfl ?_
    refine .ex gm (.ex mp (.all ?_))
    (try simp only [List.cons_append, List.nil_append, -eq_self])
    exact .pick .here (.pick .here (.pu hdec .refl))
  (((with_reducible refine e_opN v_eqNil1 Imp.nil ?_))); ((with_reducible refine e_gdT ?_)); ((with_reducible refine e_gdT ?_)); (((with_reducible refine e_opN v_nil Imp.nil ?_))); ((with_reducible refine e_gdT ?_)); (((with_reducible refine e_opN v_fa0 Imp.nil ?_))); ((with_reducible refine e_gdT ?_)); (((with_reducible refine' e_opN (v_ldN ?hc) ?hi ?_); (case hi => (repeat (first | exact Imp.refl | exact Imp.nil | (apply Imp.pick; (focus ((repeat constructor); done))) | refine Imp.drop ?_))); (case hc => (repeat (first | exact Nth.here | apply Nth.there))))); ((with_reducible refine e_gdT ?_))
  refine e_opN v_eqMap Imp.nil ?_
  (((with_reducible refine e_opN v_pickF Imp.nil ?_))); ((with_reducible refine e_condF ?_))
  (refine' e_call (take) ?hp fun _ => ?_; (case hp => (repeat (first | exact Picks.nil | (apply Picks.cons; (focus (repeat constructor)))))); (try simp only [List.cons_append, List.nil_append, Bool.not_true, Bool.not_false]))
  have h00 : takR b at_ 0 = 0 := by unfold takR; rw [if_neg (by omega), if_neg (by omega)]
  rw [h00, show takAt b at_ 0 = at_ by unfold takAt; rw [if_pos h00]; simp]
  (((with_reducible refine' e_opN (v_extN ?hc) Imp.nil ?_); (case hc => (repeat (first | exact Nth.here | apply Nth.there))))); (((with_reducible refine' e_opN (v_extN ?hc) Imp.nil ?_); (case hc => (repeat (first | exact Nth.here | apply Nth.there)))))
  refine e_opN v_neq Imp.nil ?_
  rw [decide_eq_false (by omega)]
  ((with_reducible refine e_condF ?_)); (((with_reducible refine e_opN v_nil Imp.nil ?_))); (((with_reducible refine e_opN v_fa0 Imp.nil ?_))); (((with_reducible refine' e_opN (v_ldN ?hc) ?hi ?_); (case hi => (repeat (first | exact Imp.refl | exact Imp.nil | (apply Imp.pick; (focus ((repeat constructor); done))) | refine Imp.drop ?_))); (case hc => (repeat (first | exact Nth.here | apply Nth.there)))))
  refine e_opN v_lenM (.pick (by (repeat constructor)) .nil) ?_
  have hemp := hdec.emp
  rw [pos_iff] at hemp
  (refine e_ask v_eql Imp.nil (fun h => ?_) (fun h => ?_))
  · have hm0 : mp = [] := List.eq_nil_of_length_eq_zero (by omega)
    have hnp := hemp.1 hm0
    ((with_reducible refine e_condT ?_))
    exact back 0 30 _ (by (repeat (first | exact Imp.refl | exact Imp.nil | (apply Imp.pick; (focus ((repeat constructor); done))) | refine Imp.drop ?_))) (by unfold nxt; rw [if_neg hnp])
  have hp : pos l := by
    refine Decidable.byContradiction fun c => h ?_
    rw [hemp.2 c]; rfl
  have hn0 : nxt l b at_ = dec l b 15 0 0 at_ := by unfold nxt; rw [if_pos hp]
  ((with_reducible refine e_condF ?_)); (((with_reducible refine e_opN v_rv Imp.nil ?_))); (((with_reducible refine e_newA fun g => ?_))); (((with_reducible refine' e_stAgg ?hp ?hn ?hv ?h1 ?_); (case hp => (repeat constructor)); (case hn => rfl); (case hv => rfl); (case h1 => simp [Value.oneCell'])))
  rename_i gx
  refine e_loop1 (fun m y => [ex fun n : Nat => ex fun c : Nat => ex fun at2 : Nat => all [pu (m + n = 15 ∧ y = .int .i64 (n : Int) ∧ c < 2 ^ n ∧ nxt l b at_ = dec l b m n c at2), pt g (.cells #[.int .i64 (n : Int), .int .i64 (c : Int)] 109 (0, 0)), pt p (.cells #[.map (some gm)] 82), MapIs gm encC mp, IsR r b at2]] ++ F) 15 ?_ ?_
  · refine .ex 0 (.ex 0 (.ex at_ (.all ?_)))
    (try simp only [List.cons_append, List.nil_append, -eq_self])
    refine .pu ⟨by omega, rfl, by omega, hn0⟩ ?_
    exact .pick (by (repeat constructor)) (.pick (by (repeat constructor)) (.pick (by (repeat constructor)) (.pick (by (repeat constructor)) .refl)))
  intro m ds y
  (try simp only [List.cons_append, List.nil_append, -eq_self])
  refine e_ex Pick.here fun n => e_ex Pick.here fun c => e_ex Pick.here fun at2 => e_all Pick.here ?_
  (try simp only [List.cons_append, List.nil_append, -eq_self])
  refine e_pu Pick.here fun hi => ?_
  obtain ⟨hmn, rfl, hc, hd⟩ := hi
  (refine e_ask v_lss Imp.nil (fun h => ?_) (fun h => ?_))
  · have hn15 : n < 15 := by omega
    obtain ⟨m, rfl⟩ : ∃ m', m = m' + 1 := ⟨m - 1, by omega⟩
    have hc15 := pow15 (show n ≤ 15 by omega)
    ((with_reducible refine e_condT ?_))
    (refine' e_call (take) ?hp fun _ => ?_; (case hp => (repeat (first | exact Picks.nil | (apply Picks.cons; (focus (repeat constructor)))))); (try simp only [List.cons_append, List.nil_append, Bool.not_true, Bool.not_false]))
    obtain ⟨tb, htb⟩ := takN1 b at2
    have htl := Bool.toNat_le tb
    rw [dec] at hd
    by_cases hR : takR b at2 1 = 0
    · rw [if_pos hR] at hd
      rw [hR, htb]
      rw [htb] at hd
      (((with_reducible refine' e_opN (v_extN ?hc) Imp.nil ?_); (case hc => (repeat (first | exact Nth.here | apply Nth.there))))); (((with_reducible refine' e_opN (v_extN ?hc) Imp.nil ?_); (case hc => (repeat (first | exact Nth.here | apply Nth.there)))))
      refine e_opN v_neq Imp.nil ?_
      rw [decide_eq_false (by omega)]
      ((with_reducible refine e_condF ?_)); (((with_reducible refine e_opN v_fa0 Imp.nil ?_))); (((with_reducible refine' e_opN (v_ldN ?hc) ?hi ?_); (case hi => (repeat (first | exact Imp.refl | exact Imp.nil | (apply Imp.pick; (focus ((repeat constructor); done))) | refine Imp.drop ?_))); (case hc => (repeat (first | exact Nth.here | apply Nth.there))))); (((with_reducible refine e_opN (v_add ?h1 ?h2) Imp.nil ?_); (case h1 => omega); (case h2 => omega))); (((with_reducible refine e_opN v_fa0 Imp.nil ?_))); (((with_reducible refine' e_stN ?hp ?ho ?_); (case hp => (repeat constructor)); (case ho => (repeat (first | exact Put.here | apply Put.there))))); (((with_reducible refine e_opN v_fa0 Imp.nil ?_))); (((with_reducible refine' e_opN (v_ldN ?hc) ?hi ?_); (case hi => (repeat (first | exact Imp.refl | exact Imp.nil | (apply Imp.pick; (focus ((repeat constructor); done))) | refine Imp.drop ?_))); (case hc => (repeat (first | exact Nth.here | apply Nth.there)))))
      refine e_opN (v_shl (by omega)) Imp.nil ?_
      rw [show (c : Int) * 2 ^ (min ((1 : Int)).toNat IntKind.i64.bits) = ((c * 2 : Nat) : Int) by norm_cast, w64 (by omega) (by omega)]
      refine e_opN v_or Imp.nil ?_
      rw [or_two (by omega)]
      (((with_reducible refine e_opN v_fa0 Imp.nil ?_))); (((with_reducible refine' e_stN ?hp ?ho ?_); (case hp => (repeat constructor)); (case ho => (repeat (first | exact Put.here | apply Put.there))))); ((with_reducible refine e_drS ?_)); (((with_reducible refine e_stS v_nil Imp.nil ?_))); (((with_reducible refine e_stS v_fa0 Imp.nil ?_))); (((with_reducible refine' e_stS (v_ldN ?hc) ?hi ?_); (case hi => (repeat (first | exact Imp.refl | exact Imp.nil | (apply Imp.pick; (focus ((repeat constructor); done))) | refine Imp.drop ?_))); (case hc => (repeat (first | exact Nth.here | apply Nth.there))))); (((with_reducible refine' e_stS (v_ldAgg ?hn) ?hi ?_); (case hi => (repeat (first | exact Imp.refl | exact Imp.nil | (apply Imp.pick; (focus ((repeat constructor); done))) | refine Imp.drop ?_))); (case hn => rfl)))
      refine e_stS (v_lookOk (q := (((n : Int) + 1), ((2 * c + tb.toNat : Nat) : Int))) keyC) (.pick (by (repeat constructor)) .nil) ?_
      have hg := hdec.get ((n : Int) + 1) ((2 * c + tb.toNat : Nat) : Int)
      rw [hg]
      rw [show ((n + 1 : Nat) : Int) = (n : Int) + 1 by norm_cast] at hd
      cases hf : fL l ((n : Int) + 1) ((2 * c + tb.toNat : Nat) : Int) l.length with
      | some i =>
        rw [hf] at hd
        (try simp only [Option.map_some, Option.getD_some, Option.isSome_some])
        refine e_stS (v_ext (v := .int .i64 (i : Int)) rfl) Imp.nil ?_
        refine e_stS (v_ext (v := .bool true) rfl) Imp.nil ?_
        ((with_reducible refine e_condT ?_))
        exact back (i : Int) 0 _ (by (repeat (first | exact Imp.refl | exact Imp.nil | (apply Imp.pick; (focus ((repeat constructor); done))) | refine Imp.drop ?_))) hd
      | none =>
        rw [hf] at hd
        (try simp only [Option.map_none, Option.getD_none, Option.isSome_none])
        refine e_stS (v_ext (v := .int .i64 0) rfl) Imp.nil ?_
        refine e_stS (v_ext (v := .bool false) rfl) Imp.nil ?_
        ((with_reducible refine e_condF ?_)); (((with_reducible refine e_opN (v_add ?h1 ?h2) Imp.nil ?_); (case h1 => omega); (case h2 => omega)))
        refine e_next1 m (by omega) (.ex (n + 1) (.ex (2 * c + tb.toNat) (.ex (takAt b at2 1) (.all ?_))))
        (try simp only [List.cons_append, List.nil_append, -eq_self])
        refine .pu ⟨by omega, by norm_cast, by rw [Nat.pow_succ]; omega, hd⟩ ?_
        rw [show ((n + 1 : Nat) : Int) = (n : Int) + 1 by norm_cast]
        exact .pick (by (repeat constructor)) (.pick (by (repeat constructor)) (.pick (by (repeat constructor)) (.pick (by (repeat constructor)) .refl)))
    · rw [if_neg hR] at hd
      (((with_reducible refine' e_opN (v_extN ?hc) Imp.nil ?_); (case hc => (repeat (first | exact Nth.here | apply Nth.there))))); (((with_reducible refine' e_opN (v_extN ?hc) Imp.nil ?_); (case hc => (repeat (first | exact Nth.here | apply Nth.there)))))
      refine e_opN v_neq Imp.nil ?_
      rw [decide_eq_true hR]
      ((with_reducible refine e_condT ?_))
      exact back 0 (takR b at2 1) _ (by (repeat (first | exact Imp.refl | exact Imp.nil | (apply Imp.pick; (focus ((repeat constructor); done))) | refine Imp.drop ?_))) hd
  · have hm0 : m = 0 := by omega
    subst hm0
    rw [dec] at hd
    ((with_reducible refine e_condF ?_))
    exact back 0 30 _ (by (repeat (first | exact Imp.refl | exact Imp.nil | (apply Imp.pick; (focus ((repeat constructor); done))) | refine Imp.drop ?_))) hd
theorem docNext {W : World} {p r at_ : Nat} {l : List Int} {b : List UInt8} (hl : l.length ≤ 1099511627776) :
    Cn Try.prog 40 [.pointer (some ⟨p, 0, none⟩), .pointer (some ⟨r, 0, none⟩)] W [IsDoc p l, IsQ r b at_] (fun _ : Unit => .tuple #[.int .i64 (nxt l b at_).1, .int .i64 (nxt l b at_).2.1]) (fun _ => [IsDoc p l, IsQ r b (nxt l b at_).2.2]) := by
  (refine S.ref03_Decoder_Next_cn fun F => ?_; unfold S.ref03_Decoder_Next; simp only [List.cons_append, List.nil_append])
  refine e_ex Pick.here fun q => e_all Pick.here ?_
  obtain ⟨⟨qa, qc⟩, ⟨ra, rc⟩⟩ := q
  (try simp only [List.cons_append, List.nil_append, -eq_self])
  have back : ∀ {at2 : Nat} (s e : Int) (L : List HP), Imp W L (pt p (.cells #[.slice qa l.length qc, .slice ra l.length rc, .bool (decide (pos l))] 111) :: Sl 1 3 qa qc l.length (l.map I) :: Sl 1 3 ra rc l.length ((codes l).map I) :: IsQ r b at2 :: F) → nxt l b at_ = (s, e, at2) → Ent W L (fun w => ∃ x : Unit, (.tuple #[.int .i64 s, .int .i64 e] : Value) = .tuple #[.int .i64 (nxt l b at_).1, .int .i64 (nxt l b at_).2.1] ∧ sat W ([IsDoc p l, IsQ r b (nxt l b at_).2.2] ++ F) w) := by
    intro at2 s e L hi hn
    rw [hn]
    refine e_imp hi ?_
    refine e_ret () rfl ?_
    refine .ex ((qa, qc), (ra, rc)) (.all ?_)
    (try simp only [List.cons_append, List.nil_append, -eq_self])
    exact .pick .here (.pick .here (.pick .here .refl))
  refine e_slfacts (.there .here) fun f1 f2 f3 f4 => ?_
  refine e_slfacts (.there (.there .here)) fun g1 g2 g3 g4 => ?_
  by_cases hp : ¬ pos l
  · rw [decide_eq_false hp] at back ⊢
    (((with_reducible refine e_opN v_nil Imp.nil ?_))); (((with_reducible refine e_opN v_fa0 Imp.nil ?_))); (((with_reducible refine' e_opN (v_ldN ?hc) ?hi ?_); (case hi => (repeat (first | exact Imp.refl | exact Imp.nil | (apply Imp.pick; (focus ((repeat constructor); done))) | refine Imp.drop ?_))); (case hc => (repeat (first | exact Nth.here | apply Nth.there))))); (((with_reducible refine e_opN v_notF Imp.nil ?_))); ((with_reducible refine e_condT ?_))
    exact back 0 30 _ (by (repeat (first | exact Imp.refl | exact Imp.nil | (apply Imp.pick; (focus ((repeat constructor); done))) | refine Imp.drop ?_))) (by unfold nxt; rw [if_neg hp])
  have hp := Decidable.not_not.1 hp
  have hn0 : nxt l b at_ = dec l b 15 0 0 at_ := by unfold nxt; rw [if_pos hp]
  rw [decide_eq_true hp] at back ⊢
  (((with_reducible refine e_opN v_nil Imp.nil ?_))); (((with_reducible refine e_opN v_fa0 Imp.nil ?_))); (((with_reducible refine' e_opN (v_ldN ?hc) ?hi ?_); (case hi => (repeat (first | exact Imp.refl | exact Imp.nil | (apply Imp.pick; (focus ((repeat constructor); done))) | refine Imp.drop ?_))); (case hc => (repeat (first | exact Nth.here | apply Nth.there))))); (((with_reducible refine e_opN v_notT Imp.nil ?_))); ((with_reducible refine e_condF ?_))
  refine e_loop2 (fun m x y => [ex fun n : Nat => ex fun c : Nat => ex fun at2 : Nat => all [pu (m + n = 15 ∧ y = .int .i64 ((n + 1 : Nat) : Int) ∧ x = .int .i64 (c : Int) ∧ c < 2 ^ n ∧ nxt l b at_ = dec l b m n c at2), pt p (.cells #[.slice qa l.length qc, .slice ra l.length rc, .bool true] 111), Sl 1 3 qa qc l.length (l.map I), Sl 1 3 ra rc l.length ((codes l).map I), IsQ r b at2]] ++ F) 15 ?_ ?_
  · refine .ex 0 (.ex 0 (.ex at_ (.all ?_)))
    (try simp only [List.cons_append, List.nil_append, -eq_self])
    refine .pu ⟨by omega, rfl, rfl, by omega, hn0⟩ ?_
    exact .pick (by (repeat constructor)) (.pick (by (repeat constructor)) (.pick (by (repeat constructor)) (.pick (by (repeat constructor)) .refl)))
  intro m ds x y
  (try simp only [List.cons_append, List.nil_append, -eq_self])
  refine e_ex Pick.here fun n => e_ex Pick.here fun c => e_ex Pick.here fun at2 => e_all Pick.here ?_
  (try simp only [List.cons_append, List.nil_append, -eq_self])
  refine e_pu Pick.here fun hi => ?_
  obtain ⟨hmn, rfl, rfl, hc, hd⟩ := hi
  (refine e_ask v_leq Imp.nil (fun h => ?_) (fun h => ?_))
  · have hn15 : n < 15 := by omega
    obtain ⟨m, rfl⟩ : ∃ m', m = m' + 1 := ⟨m - 1, by omega⟩
    have hc15 := pow15 (show n ≤ 15 by omega)
    refine e_condT ?_
    (refine' e_call (qtake) ?hp fun _ => ?_; (case hp => (repeat (first | exact Picks.nil | (apply Picks.cons; (focus (repeat constructor)))))); (try simp only [List.cons_append, List.nil_append, Bool.not_true, Bool.not_false]))
    obtain ⟨tb, htb⟩ := takN1 b at2
    have htl := Bool.toNat_le tb
    rw [dec] at hd
    by_cases hR : takR b at2 1 = 0
    · rw [if_pos hR] at hd
      rw [hR, htb]
      rw [htb] at hd
      (((with_reducible refine' e_opN (v_extN ?hc) Imp.nil ?_); (case hc => (repeat (first | exact Nth.here | apply Nth.there))))); (((with_reducible refine' e_opN (v_extN ?hc) Imp.nil ?_); (case hc => (repeat (first | exact Nth.here | apply Nth.there)))))
      refine e_opN v_neq Imp.nil ?_
      rw [decide_eq_false (by omega)]
      ((with_reducible refine e_condF ?_)); (((with_reducible refine e_opN (v_mul ?h1 ?h2) Imp.nil ?_); (case h1 => omega); (case h2 => omega))); (((with_reducible refine e_opN (v_add ?h1 ?h2) Imp.nil ?_); (case h1 => omega); (case h2 => omega)))
      rw [show 2 * (c : Int) + (tb.toNat : Int) = ((2 * c + tb.toNat : Nat) : Int) by norm_cast]
      obtain ⟨C, hC⟩ : ∃ C, C = 2 * c + tb.toNat := ⟨_, rfl⟩
      rw [← hC] at hd ⊢
      refine e_loop1 (fun m2 y => [ex fun i : Nat => all [pu (m2 + i = l.length ∧ y = .int .i64 (i : Int) ∧ fL l ((n + 1 : Nat) : Int) (C : Int) i = none), pt p (.cells #[.slice qa l.length qc, .slice ra l.length rc, .bool true] 111), Sl 1 3 qa qc l.length (l.map I), Sl 1 3 ra rc l.length ((codes l).map I), IsQ r b (takAt b at2 1)]] ++ F) l.length ?_ ?_
      · refine .ex 0 (.all ?_)
        (try simp only [List.cons_append, List.nil_append, -eq_self])
        refine .pu ⟨by omega, rfl, rfl⟩ ?_
        exact .pick (by (repeat constructor)) (.pick (by (repeat constructor)) (.pick (by (repeat constructor)) (.pick (by (repeat constructor)) .refl)))
      intro m2 ds y
      (try simp only [List.cons_append, List.nil_append, -eq_self])
      refine e_ex Pick.here fun i => e_all Pick.here ?_
      (try simp only [List.cons_append, List.nil_append, -eq_self])
      refine e_pu Pick.here fun hi => ?_
      obtain ⟨hmi, rfl, hfn⟩ := hi
      (((with_reducible refine e_opN v_nil Imp.nil ?_))); (((with_reducible refine e_opN v_fa0 Imp.nil ?_))); (((with_reducible refine' e_opN (v_ldN ?hc) ?hi ?_); (case hi => (repeat (first | exact Imp.refl | exact Imp.nil | (apply Imp.pick; (focus ((repeat constructor); done))) | refine Imp.drop ?_))); (case hc => (repeat (first | exact Nth.here | apply Nth.there))))); (((with_reducible refine e_opN v_len Imp.nil ?_)))
      (refine e_ask v_lss Imp.nil (fun h => ?_) (fun h => ?_))
      · have hil : i < l.length := by omega
        obtain ⟨gq, rfl⟩ := f4 (by omega)
        obtain ⟨gr, rfl⟩ := g4 (by omega)
        have gi : ((codes l).map I)[0 + i]? = some (I (codeAt l i)) := by rw [Nat.zero_add, List.getElem?_map, codes, List.getElem?_map, List.getElem?_range hil]; rfl
        have gl : (l.map I)[0 + i]? = some (I l[i]) := by rw [Nat.zero_add]; exact I_get hil
        have hli : l[i]? = some l[i] := List.getElem?_eq_getElem hil
        have nxt1 : ¬ (l[i] = ((n + 1 : Nat) : Int) ∧ (codeAt l i : Int) = C) → Ent W (pt p (.cells #[.slice (some ⟨gq, 0, none⟩) l.length qc, .slice (some ⟨gr, 0, none⟩) l.length rc, .bool true] 111) :: Sl 1 3 (some ⟨gq, 0, none⟩) qc l.length (l.map I) :: Sl 1 3 (some ⟨gr, 0, none⟩) rc l.length ((codes l).map I) :: IsQ r b (takAt b at2 1) :: F) (next1 (fun m2 y w => sat W ([ex fun i : Nat => all [pu (m2 + i = l.length ∧ y = .int .i64 (i : Int) ∧ fL l ((n + 1 : Nat) : Int) (C : Int) i = none), pt p (.cells #[.slice (some ⟨gq, 0, none⟩) l.length qc, .slice (some ⟨gr, 0, none⟩) l.length rc, .bool true] 111), Sl 1 3 (some ⟨gq, 0, none⟩) qc l.length (l.map I), Sl 1 3 (some ⟨gr, 0, none⟩) rc l.length ((codes l).map I), IsQ r b (takAt b at2 1)]] ++ F) w) m2 (.int .i64 ((i : Int) + 1))) := by
          intro hne
          refine e_next1 (m2 - 1) (by omega) (.ex (i + 1) (.all ?_))
          (try simp only [List.cons_append, List.nil_append, -eq_self])
          refine .pu ⟨by omega, by norm_cast, ?_⟩ ?_
          · rw [fL, hfn]
            simp only
            rw [if_neg (fun d => hne ⟨by have d2 := d.2.1; rw [hli] at d2; exact Option.some.inj d2, d.2.2⟩)]
          · exact .pick (by (repeat constructor)) (.pick (by (repeat constructor)) (.pick (by (repeat constructor)) (.pick (by (repeat constructor)) .refl)))
        ((with_reducible refine e_condT ?_)); (((with_reducible refine e_opN v_nil Imp.nil ?_))); (((with_reducible refine e_opN v_fa0 Imp.nil ?_))); (((with_reducible refine' e_opN (v_ldN ?hc) ?hi ?_); (case hi => (repeat (first | exact Imp.refl | exact Imp.nil | (apply Imp.pick; (focus ((repeat constructor); done))) | refine Imp.drop ?_))); (case hc => (repeat (first | exact Nth.here | apply Nth.there)))))
        refine e_opN (v_ia1 i (by rfl) hil) Imp.nil ?_
        refine e_opN (v_ldSl gl) (.pick (by (repeat constructor)) .nil) ?_
        (refine e_ask v_eql Imp.nil (fun h => ?_) (fun h => ?_))
        · have he1 := h
          ((with_reducible refine e_gdT ?_)); ((with_reducible refine e_gdT ?_)); (((with_reducible refine e_opN v_nil Imp.nil ?_))); ((with_reducible refine e_gdT ?_)); (((with_reducible refine e_opN v_fa0 Imp.nil ?_))); ((with_reducible refine e_gdT ?_)); (((with_reducible refine' e_opN (v_ldN ?hc) ?hi ?_); (case hi => (repeat (first | exact Imp.refl | exact Imp.nil | (apply Imp.pick; (focus ((repeat constructor); done))) | refine Imp.drop ?_))); (case hc => (repeat (first | exact Nth.here | apply Nth.there))))); ((with_reducible refine e_gdT ?_)); ((with_reducible refine e_gdT ?_))
          refine e_opN (v_ia1 i (by rfl) hil) Imp.nil ?_
          ((with_reducible refine e_gdT ?_))
          refine e_opN (v_ldSl gi) (.pick (by (repeat constructor)) .nil) ?_
          ((with_reducible refine e_gdT ?_)); ((with_reducible refine e_gdT ?_))
          (refine e_ask v_eql Imp.nil (fun h => ?_) (fun h => ?_))
          · (((with_reducible refine e_opN v_pickT Imp.nil ?_))); ((with_reducible refine e_condT ?_))
            have hfs : fL l ((n + 1 : Nat) : Int) (C : Int) (i + 1) = some i := by
              rw [fL, hfn]
              simp only
              rw [if_pos ⟨by omega, by rw [hli, he1], h⟩]
            have hfe := fL_up hfs (l.length - (i + 1))
            rw [show i + 1 + (l.length - (i + 1)) = l.length by omega] at hfe
            rw [hfe] at hd
            exact back (i : Int) 0 _ (by (repeat (first | exact Imp.refl | exact Imp.nil | (apply Imp.pick; (focus ((repeat constructor); done))) | refine Imp.drop ?_))) hd
          · (((with_reducible refine e_opN v_pickT Imp.nil ?_))); ((with_reducible refine e_condF ?_)); (((with_reducible refine e_opN (v_add ?h1 ?h2) Imp.nil ?_); (case h1 => omega); (case h2 => omega)))
            exact nxt1 (fun c => h c.2)
        · ((with_reducible refine e_gdF2 ?_)); ((with_reducible refine e_gdF2 ?_)); ((with_reducible refine e_gdF2 ?_)); ((with_reducible refine e_gdF2 ?_)); ((with_reducible refine e_gdF2 ?_)); ((with_reducible refine e_gdF2 ?_)); ((with_reducible refine e_gdF2 ?_)); ((with_reducible refine e_gdF2 ?_)); ((with_reducible refine e_gdF2 ?_)); (((with_reducible refine e_opN v_pickF Imp.nil ?_))); ((with_reducible refine e_condF ?_)); (((with_reducible refine e_opN (v_add ?h1 ?h2) Imp.nil ?_); (case h1 => omega); (case h2 => omega)))
          exact nxt1 (fun c => h c.1)
      · have hie : i = l.length := by omega
        subst hie
        rw [hfn] at hd
        ((with_reducible refine e_condF ?_)); (((with_reducible refine e_opN (v_add ?h1 ?h2) Imp.nil ?_); (case h1 => omega); (case h2 => omega)))
        refine e_next2 m (by omega) (.ex (n + 1) (.ex C (.ex (takAt b at2 1) (.all ?_))))
        (try simp only [List.cons_append, List.nil_append, -eq_self])
        refine .pu ⟨by omega, by norm_cast, rfl, by rw [Nat.pow_succ, hC]; omega, hd⟩ ?_
        exact .pick (by (repeat constructor)) (.pick (by (repeat constructor)) (.pick (by (repeat constructor)) (.pick (by (repeat constructor)) .refl)))
    · rw [if_neg hR] at hd
      (((with_reducible refine' e_opN (v_extN ?hc) Imp.nil ?_); (case hc => (repeat (first | exact Nth.here | apply Nth.there))))); (((with_reducible refine' e_opN (v_extN ?hc) Imp.nil ?_); (case hc => (repeat (first | exact Nth.here | apply Nth.there)))))
      refine e_opN v_neq Imp.nil ?_
      rw [decide_eq_true hR]
      ((with_reducible refine e_condT ?_))
      exact back 0 (takR b at2 1) _ (by (repeat (first | exact Imp.refl | exact Imp.nil | (apply Imp.pick; (focus ((repeat constructor); done))) | refine Imp.drop ?_))) hd
  · have hm0 : m = 0 := by omega
    subst hm0
    rw [dec] at hd
    refine e_condF ?_
    exact back 0 30 _ (by (repeat (first | exact Imp.refl | exact Imp.nil | (apply Imp.pick; (focus ((repeat constructor); done))) | refine Imp.drop ?_))) hd
end Go.Proofs.Ytehfblkpbadikaa.HF
