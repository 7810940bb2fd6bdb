/- A symbol is put: the program's way and the document's. No conditions but those that each names. -/
import Derived.Test.YtehfblkpbadikaaBitsRef
import Derived.Test.YtehfblkpbadikaaHuff3
set_option linter.unusedVariables false
set_option linter.unusedSimpArgs false
namespace Go.Proofs.Ytehfblkpbadikaa.HF
open Go Go.Proofs Go.RowKit Go.Proofs.Ytehfblkpbadikaa.Sh Go.Proofs.Ytehfblkpbadikaa.Sl Go.Proofs.Ytehfblkpbadikaa.T Go.Proofs.Ytehfblkpbadikaa.HM Go.Proofs.Ytehfblkpbadikaa.B Go.Proofs.Ytehfblkpbadikaa.M
/-- a symbol's code and length, if it has one -/
def sym (cs ls : List Int) (s : Int) : Option (Int × Nat) :=
  if s < 0 then none else match cs[s.toNat]?, ls[s.toNat]? with
  | some c, some n => if 1 ≤ n ∧ n ≤ 15 ∧ 0 ≤ c ∧ c < 2 ^ n.toNat then some (c, n.toNat) else none
  | _, _ => none
def phR (cs ls : List Int) (s : Int) (L : List Bool) : Int := match sym cs ls s with
  | some p => putR L (rv p.1 p.2) p.2
  | none => 1
def phL (cs ls : List Int) (s : Int) (L : List Bool) : List Bool := match sym cs ls s with
  | some p => putL L (rv p.1 p.2) p.2
  | none => L
theorem sym_at {cs ls : List Int} {N : Nat} (h1 : N < cs.length) (h2 : N < ls.length) : sym cs ls N = if 1 ≤ ls[N] ∧ ls[N] ≤ 15 ∧ 0 ≤ cs[N] ∧ cs[N] < 2 ^ ls[N].toNat then some (cs[N], ls[N].toNat) else none := by
  unfold sym
  rw [if_neg (by omega), Int.toNat_natCast, List.getElem?_eq_getElem h1, List.getElem?_eq_getElem h2]
theorem sym_out {cs ls : List Int} {s : Int} (h : s < 0 ∨ (cs.length : Int) ≤ s ∨ (ls.length : Int) ≤ s) : sym cs ls s = none := by
  unfold sym
  by_cases h0 : s < 0
  · rw [if_pos h0]
  · rw [if_neg h0]
    rcases h with h | h | h
    · exact absurd h h0
    · rw [List.getElem?_eq_none (by omega)]
    · rw [List.getElem?_eq_none (l := ls) (by omega)]
      cases cs[s.toNat]? <;> rfl
theorem lim_nat {n : Nat} (h : n ≤ 15) : lim (n : Int) = n := by unfold lim; rw [if_neg (by omega)]; simp
section
variable {W : World} {A A2 : HP} {a1 a2 : Option Addr} {c1 c2 : Nat} {cs ls : List Int} {s : Int}
theorem hput {p : Nat} {L : List Bool} (h1 : RdB W A a1 cs.length (cs.map I)) (h2 : RdB W A2 a2 ls.length (ls.map I)) :
    Cn Try.prog 31 [.pointer (some ⟨p, 0, none⟩), .slice a1 cs.length c1, .slice a2 ls.length c2, .int .i64 s] W [IsW p L, A, A2] (fun _ : Unit => .int .i64 (phR cs ls s L)) (fun _ => [IsW p (phL cs ls s L), A, A2]) := by
  (refine S.huff_Put_cn fun F => ?_; unfold S.huff_Put; simp only [List.cons_append, List.nil_append])
  have bad : sym cs ls s = none → Ent W (IsW p L :: A :: A2 :: F) (fun w => ∃ x : Unit, (Value.int .i64 1) = .int .i64 (phR cs ls s L) ∧ sat W ([IsW p (phL cs ls s L), A, A2] ++ F) w) := fun hn => by
    refine e_ret () (by unfold phR; rw [hn]) ?_
    unfold phL
    rw [hn]
    exact .refl
  (refine e_ask v_lss Imp.nil (fun h => ?_) (fun h => ?_))
  · ((with_reducible refine e_gdF1 ?_)); ((with_reducible refine e_gdF1 ?_)); ((with_reducible refine e_gdF1 ?_)); ((with_reducible refine e_gdF1 ?_)); ((with_reducible refine e_gdF1 ?_)); ((with_reducible refine e_gdF1 ?_)); ((with_reducible refine e_gdF1 ?_)); (((with_reducible refine e_opN v_pickT Imp.nil ?_))); ((with_reducible refine e_condT ?_))
    exact bad (sym_out (.inl h))
  have h0 := h
  ((with_reducible refine e_gdT ?_)); ((with_reducible refine e_gdT ?_)); ((with_reducible refine e_gdT ?_)); (((with_reducible refine e_opN v_len Imp.nil ?_))); ((with_reducible refine e_gdT ?_)); ((with_reducible refine e_gdT ?_)); (((with_reducible refine e_opN v_len Imp.nil ?_))); ((with_reducible refine e_gdT ?_))
  refine e_opN v_min Imp.nil ?_
  ((with_reducible refine e_gdT ?_))
  (refine e_ask v_geq Imp.nil (fun h => ?_) (fun h => ?_))
  · (((with_reducible refine e_opN v_pickF Imp.nil ?_))); ((with_reducible refine e_condT ?_))
    exact bad (sym_out (by split at h <;> omega))
  obtain ⟨N, rfl⟩ := Int.eq_ofNat_of_zero_le (show 0 ≤ s by omega)
  have hN1 : N < cs.length := by split at h <;> omega
  have hN2 : N < ls.length := by split at h <;> omega
  have hsym := sym_at hN1 hN2
  obtain ⟨g1, o1, rfl, _⟩ := h1.at_ (by omega)
  obtain ⟨g2, o2, rfl, _⟩ := h2.at_ (by omega)
  obtain ⟨c, hc⟩ : ∃ c, c = cs[N] := ⟨_, rfl⟩
  obtain ⟨n, hn⟩ : ∃ n, n = ls[N] := ⟨_, rfl⟩
  have g1' := I_get hN1
  have g2' := I_get hN2
  rw [← hc] at hsym g1'
  rw [← hn] at hsym g2'
  (((with_reducible refine e_opN v_pickF Imp.nil ?_))); ((with_reducible refine e_condF ?_)); ((with_reducible refine e_drS ?_))
  refine e_stS (v_ia1 N (by rfl) hN1) Imp.nil ?_
  refine e_stS (v_ldRd h1 g1') (.pick (by (repeat constructor)) .nil) ?_
  refine e_stS (v_ia1 N (by rfl) hN2) Imp.nil ?_
  refine e_stS (v_ldRd h2 g2') (.pick (by (repeat constructor)) .nil) ?_
  (refine e_ask v_lss Imp.nil (fun h => ?_) (fun h => ?_))
  · ((with_reducible refine e_gdF1 ?_)); ((with_reducible refine e_gdF1 ?_)); (((with_reducible refine e_opN v_pickT Imp.nil ?_))); ((with_reducible refine e_gdF1 ?_)); ((with_reducible refine e_gdF1 ?_)); (((with_reducible refine e_opN v_pickT Imp.nil ?_))); ((with_reducible refine e_gdF1 ?_)); ((with_reducible refine e_gdF1 ?_)); ((with_reducible refine e_gdF1 ?_)); ((with_reducible refine e_gdF1 ?_)); ((with_reducible refine e_gdF1 ?_)); (((with_reducible refine e_opN v_pickT Imp.nil ?_))); ((with_reducible refine e_condT ?_))
    exact bad (by rw [hsym, if_neg (by omega)])
  have i1 := h
  ((with_reducible refine e_gdT ?_)); ((with_reducible refine e_gdT ?_))
  (refine e_ask v_gtr Imp.nil (fun h => ?_) (fun h => ?_))
  · (((with_reducible refine e_opN v_pickF Imp.nil ?_))); ((with_reducible refine e_gdF1 ?_)); ((with_reducible refine e_gdF1 ?_)); (((with_reducible refine e_opN v_pickT Imp.nil ?_))); ((with_reducible refine e_gdF1 ?_)); ((with_reducible refine e_gdF1 ?_)); ((with_reducible refine e_gdF1 ?_)); ((with_reducible refine e_gdF1 ?_)); ((with_reducible refine e_gdF1 ?_)); (((with_reducible refine e_opN v_pickT Imp.nil ?_))); ((with_reducible refine e_condT ?_))
    exact bad (by rw [hsym, if_neg (by omega)])
  have i2 := h
  (((with_reducible refine e_opN v_pickF Imp.nil ?_))); ((with_reducible refine e_gdT ?_)); ((with_reducible refine e_gdT ?_))
  (refine e_ask v_lss Imp.nil (fun h => ?_) (fun h => ?_))
  · (((with_reducible refine e_opN v_pickF Imp.nil ?_))); ((with_reducible refine e_gdF1 ?_)); ((with_reducible refine e_gdF1 ?_)); ((with_reducible refine e_gdF1 ?_)); ((with_reducible refine e_gdF1 ?_)); ((with_reducible refine e_gdF1 ?_)); (((with_reducible refine e_opN v_pickT Imp.nil ?_))); ((with_reducible refine e_condT ?_))
    exact bad (by rw [hsym, if_neg (by omega)])
  have i3 := h
  obtain ⟨m, rfl⟩ := Int.eq_ofNat_of_zero_le (show 0 ≤ n by omega)
  rw [Int.toNat_natCast] at hsym
  (((with_reducible refine e_opN v_pickF Imp.nil ?_))); ((with_reducible refine e_gdT ?_)); ((with_reducible refine e_gdT ?_)); ((with_reducible refine e_gdT ?_))
  refine e_opN v_conv Imp.nil ?_
  rw [wrapu64' (by omega) (by omega)]
  ((with_reducible refine e_gdT ?_))
  refine e_opN (v_shl (by omega)) Imp.nil ?_
  rw [shl64 (by omega) (by omega) (by omega), Int.one_mul]
  have e2 : ((2 ^ m : Nat) : Int) = (2 : Int) ^ m := Int.natCast_pow 2 m
  rw [e2]
  ((with_reducible refine e_gdT ?_))
  (refine e_ask v_geq Imp.nil (fun h => ?_) (fun h => ?_))
  · (((with_reducible refine e_opN v_pickF Imp.nil ?_))); ((with_reducible refine e_condT ?_))
    exact bad (by rw [hsym, if_neg (fun c => by have := c.2.2.2; omega)])
  have hs : sym cs ls N = some (c, m) := by rw [hsym, if_pos ⟨by omega, by omega, by omega, by omega⟩]
  (((with_reducible refine e_opN v_pickF Imp.nil ?_))); ((with_reducible refine e_condF ?_))
  (refine' e_call (reverse) ?hp fun _ => ?_; (case hp => (repeat (first | exact Picks.nil | (apply Picks.cons; (focus (repeat constructor)))))); (try simp only [List.cons_append, List.nil_append, Bool.not_true, Bool.not_false]))
  rw [lim_nat (show m ≤ 15 by omega)]
  (refine' e_call (put) ?hp fun _ => ?_; (case hp => (repeat (first | exact Picks.nil | (apply Picks.cons; (focus (repeat constructor)))))); (try simp only [List.cons_append, List.nil_append, Bool.not_true, Bool.not_false]))
  refine e_ret () (by unfold phR; rw [hs]) ?_
  unfold phL
  rw [hs]
  (repeat (first | exact Imp.refl | exact Imp.nil | (apply Imp.pick; (focus ((repeat constructor); done))) | refine Imp.drop ?_))
theorem rput {p : Nat} {L : List Bool} (h1 : RdB W A a1 cs.length (cs.map I)) (h2 : RdB W A2 a2 ls.length (ls.map I)) :
    Cn Try.prog 32 [.pointer (some ⟨p, 0, none⟩), .slice a1 cs.length c1, .slice a2 ls.length c2, .int .i64 s] W [IsX p L, A, A2] (fun _ : Unit => .int .i64 (phR cs ls s L)) (fun _ => [IsX p (phL cs ls s L), A, A2]) := by
  (refine S.ref03_Put_cn fun F => ?_; unfold S.ref03_Put; simp only [List.cons_append, List.nil_append])
  have bad : sym cs ls s = none → Ent W (IsX p L :: A :: A2 :: F) (fun w => ∃ x : Unit, (Value.int .i64 1) = .int .i64 (phR cs ls s L) ∧ sat W ([IsX p (phL cs ls s L), A, A2] ++ F) w) := fun hn => by
    refine e_ret () (by unfold phR; rw [hn]) ?_
    unfold phL
    rw [hn]
    exact .refl
  (refine e_ask v_lss Imp.nil (fun h => ?_) (fun h => ?_))
  · ((with_reducible refine e_gdF1 ?_)); ((with_reducible refine e_gdF1 ?_)); ((with_reducible refine e_gdF1 ?_)); ((with_reducible refine e_gdF1 ?_)); (((with_reducible refine e_opN v_pickT Imp.nil ?_))); ((with_reducible refine e_gdF1 ?_)); ((with_reducible refine e_gdF1 ?_)); ((with_reducible refine e_gdF1 ?_)); ((with_reducible refine e_gdF1 ?_)); (((with_reducible refine e_opN v_pickT Imp.nil ?_))); ((with_reducible refine e_condT ?_))
    exact bad (sym_out (.inl h))
  have h0 := h
  ((with_reducible refine e_gdT ?_)); ((with_reducible refine e_gdT ?_)); ((with_reducible refine e_gdT ?_)); (((with_reducible refine e_opN v_len Imp.nil ?_))); ((with_reducible refine e_gdT ?_))
  (refine e_ask v_geq Imp.nil (fun h => ?_) (fun h => ?_))
  · (((with_reducible refine e_opN v_pickF Imp.nil ?_))); ((with_reducible refine e_gdF1 ?_)); ((with_reducible refine e_gdF1 ?_)); ((with_reducible refine e_gdF1 ?_)); ((with_reducible refine e_gdF1 ?_)); (((with_reducible refine e_opN v_pickT Imp.nil ?_))); ((with_reducible refine e_condT ?_))
    exact bad (sym_out (by omega))
  have h00 := h
  (((with_reducible refine e_opN v_pickF Imp.nil ?_))); ((with_reducible refine e_gdT ?_)); ((with_reducible refine e_gdT ?_)); ((with_reducible refine e_gdT ?_)); (((with_reducible refine e_opN v_len Imp.nil ?_))); ((with_reducible refine e_gdT ?_))
  (refine e_ask v_geq Imp.nil (fun h => ?_) (fun h => ?_))
  · (((with_reducible refine e_opN v_pickF Imp.nil ?_))); ((with_reducible refine e_condT ?_))
    exact bad (sym_out (by omega))
  obtain ⟨N, rfl⟩ := Int.eq_ofNat_of_zero_le (show 0 ≤ s by omega)
  have hN1 : N < cs.length := by omega
  have hN2 : N < ls.length := by omega
  have hsym := sym_at hN1 hN2
  obtain ⟨g1, o1, rfl, _⟩ := h1.at_ (by omega)
  obtain ⟨g2, o2, rfl, _⟩ := h2.at_ (by omega)
  obtain ⟨c, hc⟩ : ∃ c, c = cs[N] := ⟨_, rfl⟩
  obtain ⟨n, hn⟩ : ∃ n, n = ls[N] := ⟨_, rfl⟩
  have g1' := I_get hN1
  have g2' := I_get hN2
  rw [← hc] at hsym g1'
  rw [← hn] at hsym g2'
  (((with_reducible refine e_opN v_pickF Imp.nil ?_))); ((with_reducible refine e_condF ?_))
  refine e_opN (v_ia1 N (by rfl) hN2) Imp.nil ?_
  refine e_opN (v_ldRd h2 g2') (.pick (by (repeat constructor)) .nil) ?_
  (refine e_ask v_lss Imp.nil (fun h => ?_) (fun h => ?_))
  · ((with_reducible refine e_gdF1 ?_)); ((with_reducible refine e_gdF1 ?_)); (((with_reducible refine e_opN v_pickT Imp.nil ?_))); ((with_reducible refine e_gdF1 ?_)); ((with_reducible refine e_gdF1 ?_)); ((with_reducible refine e_gdF1 ?_)); ((with_reducible refine e_gdF1 ?_)); ((with_reducible refine e_gdF1 ?_)); (((with_reducible refine e_opN v_pickT Imp.nil ?_))); ((with_reducible refine e_gdF1 ?_)); ((with_reducible refine e_gdF1 ?_)); ((with_reducible refine e_gdF1 ?_)); ((with_reducible refine e_gdF1 ?_)); ((with_reducible refine e_gdF1 ?_)); ((with_reducible refine e_gdF1 ?_)); ((with_reducible refine e_gdF1 ?_)); ((with_reducible refine e_gdF1 ?_)); (((with_reducible refine e_opN v_pickT Imp.nil ?_))); ((with_reducible refine e_condT ?_))
    exact bad (by rw [hsym, if_neg (by omega)])
  have i1 := h
  ((with_reducible refine e_gdT ?_)); ((with_reducible refine e_gdT ?_))
  (refine e_ask v_gtr Imp.nil (fun h => ?_) (fun h => ?_))
  · (((with_reducible refine e_opN v_pickF Imp.nil ?_))); ((with_reducible refine e_gdF1 ?_)); ((with_reducible refine e_gdF1 ?_)); ((with_reducible refine e_gdF1 ?_)); ((with_reducible refine e_gdF1 ?_)); ((with_reducible refine e_gdF1 ?_)); (((with_reducible refine e_opN v_pickT Imp.nil ?_))); ((with_reducible refine e_gdF1 ?_)); ((with_reducible refine e_gdF1 ?_)); ((with_reducible refine e_gdF1 ?_)); ((with_reducible refine e_gdF1 ?_)); ((with_reducible refine e_gdF1 ?_)); ((with_reducible refine e_gdF1 ?_)); ((with_reducible refine e_gdF1 ?_)); ((with_reducible refine e_gdF1 ?_)); (((with_reducible refine e_opN v_pickT Imp.nil ?_))); ((with_reducible refine e_condT ?_))
    exact bad (by rw [hsym, if_neg (by omega)])
  have i2 := h
  (((with_reducible refine e_opN v_pickF Imp.nil ?_))); ((with_reducible refine e_gdT ?_)); ((with_reducible refine e_gdT ?_)); ((with_reducible refine e_gdT ?_))
  refine e_opN (v_ia1 N (by rfl) hN1) Imp.nil ?_
  ((with_reducible refine e_gdT ?_))
  refine e_opN (v_ldRd h1 g1') (.pick (by (repeat constructor)) .nil) ?_
  ((with_reducible refine e_gdT ?_))
  (refine e_ask v_lss Imp.nil (fun h => ?_) (fun h => ?_))
  · (((with_reducible refine e_opN v_pickF Imp.nil ?_))); ((with_reducible refine e_gdF1 ?_)); ((with_reducible refine e_gdF1 ?_)); ((with_reducible refine e_gdF1 ?_)); ((with_reducible refine e_gdF1 ?_)); ((with_reducible refine e_gdF1 ?_)); ((with_reducible refine e_gdF1 ?_)); ((with_reducible refine e_gdF1 ?_)); ((with_reducible refine e_gdF1 ?_)); (((with_reducible refine e_opN v_pickT Imp.nil ?_))); ((with_reducible refine e_condT ?_))
    exact bad (by rw [hsym, if_neg (by omega)])
  have i3 := h
  obtain ⟨m, rfl⟩ := Int.eq_ofNat_of_zero_le (show 0 ≤ n by omega)
  rw [Int.toNat_natCast] at hsym
  (((with_reducible refine e_opN v_pickF Imp.nil ?_))); ((with_reducible refine e_gdT ?_)); ((with_reducible refine e_gdT ?_)); ((with_reducible refine e_gdT ?_))
  refine e_opN (v_ia1 N (by rfl) hN1) Imp.nil ?_
  ((with_reducible refine e_gdT ?_))
  refine e_opN (v_ldRd h1 g1') (.pick (by (repeat constructor)) .nil) ?_
  ((with_reducible refine e_gdT ?_)); ((with_reducible refine e_gdT ?_))
  refine e_opN v_conv Imp.nil ?_
  rw [wrapu64' (by omega) (by omega)]
  ((with_reducible refine e_gdT ?_))
  refine e_opN (v_shl (by omega)) Imp.nil ?_
  rw [shl64 (by omega) (by omega) (by omega), Int.one_mul]
  have e2 : ((2 ^ m : Nat) : Int) = (2 : Int) ^ m := Int.natCast_pow 2 m
  rw [e2]
  ((with_reducible refine e_gdT ?_))
  (refine e_ask v_geq Imp.nil (fun h => ?_) (fun h => ?_))
  · (((with_reducible refine e_opN v_pickF Imp.nil ?_))); ((with_reducible refine e_condT ?_))
    exact bad (by rw [hsym, if_neg (fun c => by have := c.2.2.2; omega)])
  have hs : sym cs ls N = some (c, m) := by rw [hsym, if_pos ⟨by omega, by omega, by omega, by omega⟩]
  (((with_reducible refine e_opN v_pickF Imp.nil ?_))); ((with_reducible refine e_condF ?_))
  refine e_opN (v_ia1 N (by rfl) hN1) Imp.nil ?_
  refine e_opN (v_ldRd h1 g1') (.pick (by (repeat constructor)) .nil) ?_
  (refine' e_call (reverseRef) ?hp fun _ => ?_; (case hp => (repeat (first | exact Picks.nil | (apply Picks.cons; (focus (repeat constructor)))))); (try simp only [List.cons_append, List.nil_append, Bool.not_true, Bool.not_false]))
  rw [lim_nat (show m ≤ 15 by omega)]
  (refine' e_call (xPut) ?hp fun _ => ?_; (case hp => (repeat (first | exact Picks.nil | (apply Picks.cons; (focus (repeat constructor)))))); (try simp only [List.cons_append, List.nil_append, Bool.not_true, Bool.not_false]))
  refine e_ret () (by unfold phR; rw [hs]) ?_
  unfold phL
  rw [hs]
  (repeat (first | exact Imp.refl | exact Imp.nil | (apply Imp.pick; (focus ((repeat constructor); done))) | refine Imp.drop ?_))
end
end Go.Proofs.Ytehfblkpbadikaa.HF
