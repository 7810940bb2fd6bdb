/- The law HuffNil: what it does. No conditions but those that each names. -/
import Derived.Test.YtehfblkpbadikaaHuffReads0
import Derived.Test.YtehfblkpbadikaaHuffPut
import Derived.Test.YtehfblkpbadikaaBitsNil0
set_option linter.unusedVariables false
set_option linter.unusedSimpArgs false
namespace Go.Proofs.Ytehfblkpbadikaa.HF
open Go Go.Proofs Go.RowKit Go.Proofs.Ytehfblkpbadikaa.Sh Go.Proofs.Ytehfblkpbadikaa.Sl Go.Proofs.Ytehfblkpbadikaa.T Go.Proofs.Ytehfblkpbadikaa.HM Go.Proofs.Ytehfblkpbadikaa.B Go.Proofs.Ytehfblkpbadikaa.M
def NoD (W : World) (v : Value) (A : HP) : Prop := ∀ rv : Value, Cn Try.prog 39 [v, rv] W [A] (fun _ : Unit => .tuple #[.int .i64 0, .int .i64 1]) (fun _ => [A])
theorem nd_nil {W : World} : NoD W (.pointer none) (pu True) := fun rv => by
  (refine S.huff_Decoder_Next_cn fun F => ?_; unfold S.huff_Decoder_Next; simp only [List.cons_append, List.nil_append])
  (((with_reducible refine e_opN v_eqNil0 Imp.nil ?_))); ((with_reducible refine e_gdF1 ?_)); ((with_reducible refine e_gdF1 ?_)); ((with_reducible refine e_gdF1 ?_)); ((with_reducible refine e_gdF1 ?_)); ((with_reducible refine e_gdF1 ?_)); (((with_reducible refine e_opN v_pickT Imp.nil ?_))); ((with_reducible refine e_condT ?_))
  (first | refine e_ret (()) rfl ?_ | refine e_retT (()) ?_)
  (repeat (first | exact Imp.refl | exact Imp.nil | (apply Imp.pick; (focus ((repeat constructor); done))) | refine Imp.drop ?_))
theorem nd_zero {W : World} {p : Nat} : NoD W (.pointer (some ⟨p, 0, none⟩)) (pt p (.cells #[.map none] 82)) := fun rv => by
  (refine S.huff_Decoder_Next_cn fun F => ?_; unfold S.huff_Decoder_Next; simp only [List.cons_append, List.nil_append])
  (((with_reducible refine e_opN v_eqNil1 Imp.nil ?_))); ((with_reducible refine e_gdT ?_)); ((with_reducible refine e_gdT ?_)); (((with_reducible refine e_opN v_nil Imp.nil ?_))); ((with_reducible refine e_gdT ?_)); (((with_reducible refine e_opN v_fa0 Imp.nil ?_))); ((with_reducible refine e_gdT ?_)); (((with_reducible refine' e_opN (v_ldN ?hc) ?hi ?_); (case hi => (repeat (first | exact Imp.refl | exact Imp.nil | (apply Imp.pick; (focus ((repeat constructor); done))) | refine Imp.drop ?_))); (case hc => (repeat (first | exact Nth.here | apply Nth.there))))); ((with_reducible refine e_gdT ?_))
  refine e_opN v_eqMap0 Imp.nil ?_
  (((with_reducible refine e_opN v_pickF Imp.nil ?_))); ((with_reducible refine e_condT ?_))
  (first | refine e_ret (()) rfl ?_ | refine e_retT (()) ?_)
  (repeat (first | exact Imp.refl | exact Imp.nil | (apply Imp.pick; (focus ((repeat constructor); done))) | refine Imp.drop ?_))
theorem nextNil {W : World} {p : Nat} {l : List Int} : Cn Try.prog 39 [.pointer (some ⟨p, 0, none⟩), .pointer none] W [IsDec p l, pu True] (fun _ : Unit => .tuple #[.int .i64 0, .int .i64 1]) (fun _ => [IsDec p l]) := by
  (refine S.huff_Decoder_Next_cn fun F => ?_; unfold S.huff_Decoder_Next; simp only [List.cons_append, List.nil_append])
  refine e_ex Pick.here fun gm => e_ex Pick.here fun mp => e_all Pick.here ?_
  (try simp only [List.cons_append, List.nil_append, -eq_self])
  refine e_pu (.there (.there .here)) fun hdec => ?_
  (((with_reducible refine e_opN v_eqNil1 Imp.nil ?_))); ((with_reducible refine e_gdT ?_)); ((with_reducible refine e_gdT ?_)); (((with_reducible refine e_opN v_nil Imp.nil ?_))); ((with_reducible refine e_gdT ?_)); (((with_reducible refine e_opN v_fa0 Imp.nil ?_))); ((with_reducible refine e_gdT ?_)); (((with_reducible refine' e_opN (v_ldN ?hc) ?hi ?_); (case hi => (repeat (first | exact Imp.refl | exact Imp.nil | (apply Imp.pick; (focus ((repeat constructor); done))) | refine Imp.drop ?_))); (case hc => (repeat (first | exact Nth.here | apply Nth.there))))); ((with_reducible refine e_gdT ?_))
  refine e_opN v_eqMap Imp.nil ?_
  (((with_reducible refine e_opN v_pickF Imp.nil ?_))); ((with_reducible refine e_condF ?_))
  (refine' e_call (nrTake nr_nil) ?hp fun _ => ?_; (case hp => (repeat (first | exact Picks.nil | (apply Picks.cons; (focus (repeat constructor)))))); (try simp only [List.cons_append, List.nil_append, Bool.not_true, Bool.not_false]))
  (((with_reducible refine' e_opN (v_ext ?h1) Imp.nil ?_); (case h1 => rfl))); (((with_reducible refine' e_opN (v_ext ?h1) Imp.nil ?_); (case h1 => rfl)))
  refine e_opN v_neq Imp.nil ?_
  rw [decide_eq_true (by omega)]
  ((with_reducible refine e_condT ?_))
  (first | refine e_ret (()) rfl ?_ | refine e_retT (()) ?_)
  refine .ex gm (.ex mp (.all ?_))
  (try simp only [List.cons_append, List.nil_append, -eq_self])
  exact .pick (by (repeat constructor)) (.pick (by (repeat constructor)) (.pu hdec (by (repeat (first | exact Imp.refl | exact Imp.nil | (apply Imp.pick; (focus ((repeat constructor); done))) | refine Imp.drop ?_)))))
theorem hputNil {W : World} {A A2 : HP} {a1 a2 : Option Addr} {c1 c2 : Nat} {cs ls : List Int} {s : Int} (h1 : RdB W A a1 cs.length (cs.map I)) (h2 : RdB W A2 a2 ls.length (ls.map I)) :
    Cn Try.prog 31 [.pointer none, .slice a1 cs.length c1, .slice a2 ls.length c2, .int .i64 s] W [pu True, A, A2] (fun _ : Unit => .int .i64 1) (fun _ => [pu True, A, A2]) := by
  (refine S.huff_Put_cn fun F => ?_; unfold S.huff_Put; simp only [List.cons_append, List.nil_append])
  have bad : Ent W (pu True :: A :: A2 :: F) (fun w => ∃ x : Unit, True ∧ sat W ([pu True, A, A2] ++ F) w) := e_retT () .refl
  (refine e_ask v_lss Imp.nil (fun h => ?_) (fun h => ?_))
  · ((with_reducible refine e_gdF1 ?_)); ((with_reducible refine e_gdF1 ?_)); ((with_reducible refine e_gdF1 ?_)); ((with_reducible refine e_gdF1 ?_)); ((with_reducible refine e_gdF1 ?_)); ((with_reducible refine e_gdF1 ?_)); ((with_reducible refine e_gdF1 ?_)); (((with_reducible refine e_opN v_pickT Imp.nil ?_))); ((with_reducible refine e_condT ?_))
    exact e_retT () .refl
  have h0 := h
  ((with_reducible refine e_gdT ?_)); ((with_reducible refine e_gdT ?_)); ((with_reducible refine e_gdT ?_)); (((with_reducible refine e_opN v_len Imp.nil ?_))); ((with_reducible refine e_gdT ?_)); ((with_reducible refine e_gdT ?_)); (((with_reducible refine e_opN v_len Imp.nil ?_))); ((with_reducible refine e_gdT ?_))
  refine e_opN v_min Imp.nil ?_
  ((with_reducible refine e_gdT ?_))
  (refine e_ask v_geq Imp.nil (fun h => ?_) (fun h => ?_))
  · (((with_reducible refine e_opN v_pickF Imp.nil ?_))); ((with_reducible refine e_condT ?_))
    exact e_retT () .refl
  obtain ⟨N, rfl⟩ := Int.eq_ofNat_of_zero_le (show 0 ≤ s by omega)
  have hN1 : N < cs.length := by split at h <;> omega
  have hN2 : N < ls.length := by split at h <;> omega
  obtain ⟨g1, o1, rfl, _⟩ := h1.at_ (by omega)
  obtain ⟨g2, o2, rfl, _⟩ := h2.at_ (by omega)
  obtain ⟨c, hc⟩ : ∃ c, c = cs[N] := ⟨_, rfl⟩
  obtain ⟨n, hn⟩ : ∃ n, n = ls[N] := ⟨_, rfl⟩
  have g1' := I_get hN1
  have g2' := I_get hN2
  rw [← hc] at g1'
  rw [← hn] at g2'
  (((with_reducible refine e_opN v_pickF Imp.nil ?_))); ((with_reducible refine e_condF ?_)); ((with_reducible refine e_drS ?_))
  refine e_stS (v_ia1 N (by rfl) hN1) Imp.nil ?_
  refine e_stS (v_ldRd h1 g1') (.pick (by (repeat constructor)) .nil) ?_
  refine e_stS (v_ia1 N (by rfl) hN2) Imp.nil ?_
  refine e_stS (v_ldRd h2 g2') (.pick (by (repeat constructor)) .nil) ?_
  (refine e_ask v_lss Imp.nil (fun h => ?_) (fun h => ?_))
  · ((with_reducible refine e_gdF1 ?_)); ((with_reducible refine e_gdF1 ?_)); (((with_reducible refine e_opN v_pickT Imp.nil ?_))); ((with_reducible refine e_gdF1 ?_)); ((with_reducible refine e_gdF1 ?_)); (((with_reducible refine e_opN v_pickT Imp.nil ?_))); ((with_reducible refine e_gdF1 ?_)); ((with_reducible refine e_gdF1 ?_)); ((with_reducible refine e_gdF1 ?_)); ((with_reducible refine e_gdF1 ?_)); ((with_reducible refine e_gdF1 ?_)); (((with_reducible refine e_opN v_pickT Imp.nil ?_))); ((with_reducible refine e_condT ?_))
    exact e_retT () .refl
  have i1 := h
  ((with_reducible refine e_gdT ?_)); ((with_reducible refine e_gdT ?_))
  (refine e_ask v_gtr Imp.nil (fun h => ?_) (fun h => ?_))
  · (((with_reducible refine e_opN v_pickF Imp.nil ?_))); ((with_reducible refine e_gdF1 ?_)); ((with_reducible refine e_gdF1 ?_)); (((with_reducible refine e_opN v_pickT Imp.nil ?_))); ((with_reducible refine e_gdF1 ?_)); ((with_reducible refine e_gdF1 ?_)); ((with_reducible refine e_gdF1 ?_)); ((with_reducible refine e_gdF1 ?_)); ((with_reducible refine e_gdF1 ?_)); (((with_reducible refine e_opN v_pickT Imp.nil ?_))); ((with_reducible refine e_condT ?_))
    exact e_retT () .refl
  have i2 := h
  (((with_reducible refine e_opN v_pickF Imp.nil ?_))); ((with_reducible refine e_gdT ?_)); ((with_reducible refine e_gdT ?_))
  (refine e_ask v_lss Imp.nil (fun h => ?_) (fun h => ?_))
  · (((with_reducible refine e_opN v_pickF Imp.nil ?_))); ((with_reducible refine e_gdF1 ?_)); ((with_reducible refine e_gdF1 ?_)); ((with_reducible refine e_gdF1 ?_)); ((with_reducible refine e_gdF1 ?_)); ((with_reducible refine e_gdF1 ?_)); (((with_reducible refine e_opN v_pickT Imp.nil ?_))); ((with_reducible refine e_condT ?_))
    exact e_retT () .refl
  obtain ⟨m, rfl⟩ := Int.eq_ofNat_of_zero_le (show 0 ≤ n by omega)
  (((with_reducible refine e_opN v_pickF Imp.nil ?_))); ((with_reducible refine e_gdT ?_)); ((with_reducible refine e_gdT ?_)); ((with_reducible refine e_gdT ?_))
  refine e_opN v_conv Imp.nil ?_
  rw [wrapu64' (by omega) (by omega)]
  ((with_reducible refine e_gdT ?_))
  refine e_opN (v_shl (by omega)) Imp.nil ?_
  ((with_reducible refine e_gdT ?_))
  (refine e_ask v_geq Imp.nil (fun h => ?_) (fun h => ?_))
  · (((with_reducible refine e_opN v_pickF Imp.nil ?_))); ((with_reducible refine e_condT ?_))
    exact e_retT () .refl
  (((with_reducible refine e_opN v_pickF Imp.nil ?_))); ((with_reducible refine e_condF ?_))
  (refine' e_call (reverse) ?hp fun _ => ?_; (case hp => (repeat (first | exact Picks.nil | (apply Picks.cons; (focus (repeat constructor)))))); (try simp only [List.cons_append, List.nil_append, Bool.not_true, Bool.not_false]))
  (refine' e_call (nwPut nw_nil) ?hp fun _ => ?_; (case hp => (repeat (first | exact Picks.nil | (apply Picks.cons; (focus (repeat constructor)))))); (try simp only [List.cons_append, List.nil_append, Bool.not_true, Bool.not_false]))
  exact e_retT () (by (repeat (first | exact Imp.refl | exact Imp.nil | (apply Imp.pick; (focus ((repeat constructor); done))) | refine Imp.drop ?_)))
theorem huffNil {W : World} {a a2 : Option Addr} {cap c2 : Nat} {l : List Int} {b : List UInt8} (hr : ∀ A, RdB W A a l.length (l.map I)) (hb : ∀ A, RdB W A a2 b.length (b.map Sl.B)) (hbl : b.length ≤ 1048576) :
    Cn Try.prog 13 [.slice a2 b.length c2, .slice a l.length cap] W [] (fun _ : Unit => .bool true) (fun _ => []) := by
  (refine S.law03_HuffNil_cn fun F => ?_; unfold S.law03_HuffNil; simp only [List.cons_append, List.nil_append])
  refine e_loop2 (fun m x y => [ex fun i : Nat => ex fun Q : HP => all [pu (m + i = 2 ∧ y = .int .i64 (i : Int) ∧ NoD W x Q), Q, pu True]] ++ F) 2 ?_ ?_
  · refine .ex 0 (.ex (pu True) (.all ?_))
    (try simp only [List.cons_append, List.nil_append, -eq_self])
    exact .pu ⟨by omega, rfl, nd_nil⟩ (.pu trivial (.pu trivial .refl))
  intro m ds x y
  (try simp only [List.cons_append, List.nil_append, -eq_self])
  refine e_ex Pick.here fun i => e_ex Pick.here fun Q => e_all Pick.here ?_
  (try simp only [List.cons_append, List.nil_append, -eq_self])
  refine e_pu Pick.here fun hi => ?_
  obtain ⟨hmi, rfl, hd⟩ := hi
  (refine e_ask v_lss Imp.nil (fun h => ?_) (fun h => ?_))
  · refine e_condT ?_
    (refine' e_call (newReader (hb (pu True)) (RdB.none (hb (pu True))) (by omega)) ?hp fun _ => ?_; (case hp => (repeat (first | exact Picks.nil | (apply Picks.cons; (focus (repeat constructor)))))); (try simp only [List.cons_append, List.nil_append, Bool.not_true, Bool.not_false]))
    (refine' e_call (hd _) ?hp fun _ => ?_; (case hp => (repeat (first | exact Picks.nil | (apply Picks.cons; (focus (repeat constructor)))))); (try simp only [List.cons_append, List.nil_append, Bool.not_true, Bool.not_false]))
    (((with_reducible refine' e_opN (v_ext ?h1) Imp.nil ?_); (case h1 => rfl))); (((with_reducible refine' e_opN (v_ext ?h1) Imp.nil ?_); (case h1 => rfl)))
    refine e_opN v_neq Imp.nil ?_
    rw [decide_eq_false (by omega)]
    ((with_reducible refine e_gdT ?_)); ((with_reducible refine e_gdT ?_))
    (refine' e_call (num) ?hp fun _ => ?_; (case hp => (repeat (first | exact Picks.nil | (apply Picks.cons; (focus (repeat constructor)))))); (try simp only [List.cons_append, List.nil_append, Bool.not_true, Bool.not_false]))
    ((with_reducible refine e_gdT ?_))
    refine e_opN v_neq Imp.nil ?_
    rw [decide_eq_false (by omega)]
    (((with_reducible refine e_opN v_pickF Imp.nil ?_))); ((with_reducible refine e_condF ?_)); (((with_reducible refine e_opN v_rv Imp.nil ?_))); (((with_reducible refine e_boxA fun g => ?_))); (((with_reducible refine e_opN (v_add ?h1 ?h2) Imp.nil ?_); (case h1 => omega); (case h2 => omega)))
    refine e_next2 (m - 1) (by omega) (.ex (i + 1) (.ex (pt g (.cells #[.map none] 82)) (.all ?_)))
    (try simp only [List.cons_append, List.nil_append, -eq_self])
    exact .pu ⟨by omega, by norm_cast, nd_zero⟩ (.pick (by (repeat constructor)) (.pu trivial (by (repeat (first | exact Imp.refl | exact Imp.nil | (apply Imp.pick; (focus ((repeat constructor); done))) | refine Imp.drop ?_)))))
  · refine e_condF ?_
    refine e_bslN (vs := ([1, 1] : List Int).map I) rfl rfl (by intro v hv; obtain ⟨c, _, rfl⟩ := List.mem_map.1 hv; rfl) (by omega) fun g => ?_
    (refine' e_call (newDec (l := [1, 1]) (rd_pt (by rfl)) (by decide +kernel)) ?hp fun _ => ?_; (case hp => (repeat (first | exact Picks.nil | (apply Picks.cons; (focus (repeat constructor)))))); (try simp only [List.cons_append, List.nil_append, Bool.not_true, Bool.not_false]))
    rename_i d
    refine e_opN (v_ext (v := .pointer (some ⟨d, 0, none⟩)) rfl) Imp.nil ?_
    refine e_opN (v_ext (v := .int .i64 0) rfl) Imp.nil ?_
    (refine' e_call (num) ?hp fun _ => ?_; (case hp => (repeat (first | exact Picks.nil | (apply Picks.cons; (focus (repeat constructor)))))); (try simp only [List.cons_append, List.nil_append, Bool.not_true, Bool.not_false]))
    refine e_opN v_neq Imp.nil ?_
    rw [decide_eq_false (by omega)]
    ((with_reducible refine e_gdT ?_)); ((with_reducible refine e_gdT ?_)); (((with_reducible refine e_opN v_eqNil1 Imp.nil ?_))); (((with_reducible refine e_opN v_pickF Imp.nil ?_))); ((with_reducible refine e_condF ?_))
    refine e_imp (M := IsDec d [1, 1] :: pu True :: F) (.pick (by (repeat constructor)) (.pu trivial (by (repeat (first | exact Imp.refl | exact Imp.nil | (apply Imp.pick; (focus ((repeat constructor); done))) | refine Imp.drop ?_))))) ?_
    (refine' e_call (nextNil) ?hp fun _ => ?_; (case hp => (repeat (first | exact Picks.nil | (apply Picks.cons; (focus (repeat constructor)))))); (try simp only [List.cons_append, List.nil_append, Bool.not_true, Bool.not_false]))
    (((with_reducible refine' e_opN (v_ext ?h1) Imp.nil ?_); (case h1 => rfl))); (((with_reducible refine' e_opN (v_ext ?h1) Imp.nil ?_); (case h1 => rfl)))
    (refine' e_call (num) ?hp fun _ => ?_; (case hp => (repeat (first | exact Picks.nil | (apply Picks.cons; (focus (repeat constructor)))))); (try simp only [List.cons_append, List.nil_append, Bool.not_true, Bool.not_false]))
    refine e_opN v_eql Imp.nil ?_
    rw [decide_eq_true (by omega)]
    ((with_reducible refine e_gdT ?_)); ((with_reducible refine e_gdT ?_)); ((with_reducible refine e_gdT ?_))
    refine e_imp (M := pu True :: pu True :: pu True :: F) (.pu trivial (.pu trivial (.pu trivial (by (repeat (first | exact Imp.refl | exact Imp.nil | (apply Imp.pick; (focus ((repeat constructor); done))) | refine Imp.drop ?_)))))) ?_
    (refine' e_call (hputNil (hr (pu True)) (hr (pu True))) ?hp fun _ => ?_; (case hp => (repeat (first | exact Picks.nil | (apply Picks.cons; (focus (repeat constructor)))))); (try simp only [List.cons_append, List.nil_append, Bool.not_true, Bool.not_false]))
    ((with_reducible refine e_gdT ?_))
    (refine' e_call (num) ?hp fun _ => ?_; (case hp => (repeat (first | exact Picks.nil | (apply Picks.cons; (focus (repeat constructor)))))); (try simp only [List.cons_append, List.nil_append, Bool.not_true, Bool.not_false]))
    ((with_reducible refine e_gdT ?_))
    refine e_opN v_eql Imp.nil ?_
    rw [decide_eq_true (by omega)]
    (((with_reducible refine e_opN v_pickT Imp.nil ?_))); ((with_reducible refine e_gdT ?_))
    (refine' e_call (knows) ?hp fun _ => ?_; (case hp => (repeat (first | exact Picks.nil | (apply Picks.cons; (focus (repeat constructor)))))); (try simp only [List.cons_append, List.nil_append, Bool.not_true, Bool.not_false]))
    (((with_reducible refine e_opN v_pickT Imp.nil ?_)))
    (first | refine e_ret (()) rfl ?_ | refine e_retT (()) ?_)
    (repeat (first | exact Imp.refl | exact Imp.nil | (apply Imp.pick; (focus ((repeat constructor); done))) | refine Imp.drop ?_))
end Go.Proofs.Ytehfblkpbadikaa.HF
