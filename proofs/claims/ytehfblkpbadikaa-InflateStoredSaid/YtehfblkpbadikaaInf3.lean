/- Base lengths and distances; the fixed codes' lengths. No conditions but those that each names. -/
import Derived.Test.YtehfblkpbadikaaInf2
set_option linter.unusedVariables false
set_option linter.unusedSimpArgs false
namespace Go.Proofs.Ytehfblkpbadikaa.IF
open Go Go.Proofs Go.RowKit Go.Proofs.Ytehfblkpbadikaa.Sh Go.Proofs.Ytehfblkpbadikaa.Sl Go.Proofs.Ytehfblkpbadikaa.T Go.Proofs.Ytehfblkpbadikaa.HM Go.Proofs.Ytehfblkpbadikaa.HF Go.Proofs.Ytehfblkpbadikaa.B Go.Proofs.Ytehfblkpbadikaa.M
/-- a length's base and extra bits -/
def bL (s : Int) : Int × Int := if s - 257 < 0 ∨ 28 < s - 257 then (0, 0) else if s - 257 = 28 then (258, 0) else if s - 257 < 8 then (s - 257 + 3, 0) else (3 + (4 + (s - 257) % 4) * ((2 ^ ((s - 257) / 4 - 1).toNat : Nat) : Int), (s - 257) / 4 - 1)
/-- a distance's -/
def bD (s : Int) : Int × Int := if s < 0 ∨ 29 < s then (0, 0) else if s < 4 then (s + 1, 0) else (1 + (2 + s % 2) * ((2 ^ (s / 2 - 1).toNat : Nat) : Int), s / 2 - 1)
theorem baseLength {W : World} {s : Int} (h1 : -1099511627776 ≤ s ∧ s ≤ 1099511627776) : Cn Try.prog 102 [.int .i64 s] W [] (fun _ : Unit => .tuple #[.int .i64 (bL s).1, .int .i64 (bL s).2]) (fun _ => []) := by
  (refine S.lz_BaseLength_cn fun F => ?_; unfold S.lz_BaseLength; simp only [List.cons_append, List.nil_append])
  (((with_reducible refine e_opN (v_sub ?h1 ?h2) Imp.nil ?_); (case h1 => omega); (case h2 => omega)))
  (refine e_ask v_lss Imp.nil (fun h => ?_) (fun h => ?_))
  · ((with_reducible refine e_gdF1 ?_)); ((with_reducible refine e_gdF1 ?_)); (((with_reducible refine e_opN v_pickT Imp.nil ?_))); ((with_reducible refine e_condT ?_))
    rw [show bL s = (0, 0) from if_pos (.inl h)]
    (first | refine e_ret (()) rfl ?_ | refine e_retT (()) ?_)
    exact .refl
  have i1 := h
  ((with_reducible refine e_gdT ?_)); ((with_reducible refine e_gdT ?_))
  (refine e_ask v_gtr Imp.nil (fun h => ?_) (fun h => ?_))
  · (((with_reducible refine e_opN v_pickF Imp.nil ?_))); ((with_reducible refine e_condT ?_))
    rw [show bL s = (0, 0) from if_pos (.inr h)]
    (first | refine e_ret (()) rfl ?_ | refine e_retT (()) ?_)
    exact .refl
  have i2 := h
  (((with_reducible refine e_opN v_pickF Imp.nil ?_))); ((with_reducible refine e_condF ?_))
  (refine e_ask v_eql Imp.nil (fun h => ?_) (fun h => ?_))
  · ((with_reducible refine e_condT ?_))
    rw [show bL s = (258, 0) by unfold bL; rw [if_neg (by omega), if_pos h]]
    (first | refine e_ret (()) rfl ?_ | refine e_retT (()) ?_)
    exact .refl
  have i3 := h
  refine e_condF ?_
  (refine e_ask v_lss Imp.nil (fun h => ?_) (fun h => ?_))
  · ((with_reducible refine e_condT ?_)); (((with_reducible refine e_opN (v_add ?h1 ?h2) Imp.nil ?_); (case h1 => omega); (case h2 => omega)))
    rw [show bL s = (s - 257 + 3, 0) by unfold bL; rw [if_neg (by omega), if_neg i3, if_pos h]]
    (first | refine e_ret (()) rfl ?_ | refine e_retT (()) ?_)
    exact .refl
  have i4 := h
  obtain ⟨K, hK⟩ := Int.eq_ofNat_of_zero_le (show 0 ≤ s - 257 by omega)
  have hb : bL s = (3 + (4 + (s - 257) % 4) * ((2 ^ ((s - 257) / 4 - 1).toNat : Nat) : Int), (s - 257) / 4 - 1) := by unfold bL; rw [if_neg (by omega), if_neg i3, if_neg i4]
  rw [hb, hK]
  have e1 : (K : Int) / 4 - 1 = ((K / 4 - 1 : Nat) : Int) := by omega
  ((with_reducible refine e_condF ?_)); (((with_reducible refine e_opN (v_quo ?h1 ?h2 ?h3) Imp.nil ?_); (case h1 => omega); (case h2 => omega); (case h3 => omega))); (((with_reducible refine e_opN (v_sub ?h1 ?h2) Imp.nil ?_); (case h1 => omega); (case h2 => omega))); (((with_reducible refine e_opN (v_rem ?h1 ?h2) Imp.nil ?_); (case h1 => omega); (case h2 => omega))); (((with_reducible refine e_opN (v_add ?h1 ?h2) Imp.nil ?_); (case h1 => omega); (case h2 => omega)))
  refine e_opN v_conv Imp.nil ?_
  rw [wrapu64' (by omega) (by omega), e1]
  refine e_opN (v_shl (by omega)) Imp.nil ?_
  rw [shl64 (by omega) (by omega) (by omega), Int.toNat_natCast]
  have h5 : (2 : Nat) ^ (K / 4 - 1) ≤ 32768 := pow15 (by omega)
  obtain ⟨E, hE⟩ : ∃ E : Nat, E = 2 ^ (K / 4 - 1) := ⟨_, rfl⟩
  rw [← hE] at h5 ⊢
  have h6 : (4 + (K : Int) % 4) * (E : Int) ≤ 8 * 32768 := Int.mul_le_mul (by omega) (by omega) (by omega) (by omega)
  have h7 : 0 ≤ (4 + (K : Int) % 4) * (E : Int) := Int.mul_nonneg (by omega) (by omega)
  refine e_opN (v_add (by omega) (by omega)) Imp.nil ?_
  (first | refine e_ret (()) rfl ?_ | refine e_retT (()) ?_)
  exact .refl
theorem baseDistance {W : World} {s : Int} : Cn Try.prog 103 [.int .i64 s] W [] (fun _ : Unit => .tuple #[.int .i64 (bD s).1, .int .i64 (bD s).2]) (fun _ => []) := by
  (refine S.lz_BaseDistance_cn fun F => ?_; unfold S.lz_BaseDistance; simp only [List.cons_append, List.nil_append])
  (refine e_ask v_lss Imp.nil (fun h => ?_) (fun h => ?_))
  · ((with_reducible refine e_gdF1 ?_)); ((with_reducible refine e_gdF1 ?_)); (((with_reducible refine e_opN v_pickT Imp.nil ?_))); ((with_reducible refine e_condT ?_))
    rw [show bD s = (0, 0) from if_pos (.inl h)]
    (first | refine e_ret (()) rfl ?_ | refine e_retT (()) ?_)
    exact .refl
  have i1 := h
  ((with_reducible refine e_gdT ?_)); ((with_reducible refine e_gdT ?_))
  (refine e_ask v_gtr Imp.nil (fun h => ?_) (fun h => ?_))
  · (((with_reducible refine e_opN v_pickF Imp.nil ?_))); ((with_reducible refine e_condT ?_))
    rw [show bD s = (0, 0) from if_pos (.inr h)]
    (first | refine e_ret (()) rfl ?_ | refine e_retT (()) ?_)
    exact .refl
  have i2 := h
  (((with_reducible refine e_opN v_pickF Imp.nil ?_))); ((with_reducible refine e_condF ?_))
  (refine e_ask v_lss Imp.nil (fun h => ?_) (fun h => ?_))
  · ((with_reducible refine e_condT ?_)); (((with_reducible refine e_opN (v_add ?h1 ?h2) Imp.nil ?_); (case h1 => omega); (case h2 => omega)))
    rw [show bD s = (s + 1, 0) by unfold bD; rw [if_neg (by omega), if_pos h]]
    (first | refine e_ret (()) rfl ?_ | refine e_retT (()) ?_)
    exact .refl
  have i4 := h
  obtain ⟨K, rfl⟩ := Int.eq_ofNat_of_zero_le (show 0 ≤ s by omega)
  have hb : bD K = (1 + (2 + (K : Int) % 2) * ((2 ^ ((K : Int) / 2 - 1).toNat : Nat) : Int), (K : Int) / 2 - 1) := by unfold bD; rw [if_neg (by omega), if_neg i4]
  rw [hb]
  have e1 : (K : Int) / 2 - 1 = ((K / 2 - 1 : Nat) : Int) := by omega
  ((with_reducible refine e_condF ?_)); (((with_reducible refine e_opN (v_quo ?h1 ?h2 ?h3) Imp.nil ?_); (case h1 => omega); (case h2 => omega); (case h3 => omega))); (((with_reducible refine e_opN (v_sub ?h1 ?h2) Imp.nil ?_); (case h1 => omega); (case h2 => omega))); (((with_reducible refine e_opN (v_rem ?h1 ?h2) Imp.nil ?_); (case h1 => omega); (case h2 => omega))); (((with_reducible refine e_opN (v_add ?h1 ?h2) Imp.nil ?_); (case h1 => omega); (case h2 => omega)))
  refine e_opN v_conv Imp.nil ?_
  rw [wrapu64' (by omega) (by omega), e1]
  refine e_opN (v_shl (by omega)) Imp.nil ?_
  rw [shl64 (by omega) (by omega) (by omega), Int.toNat_natCast]
  have h5 : (2 : Nat) ^ (K / 2 - 1) ≤ 32768 := pow15 (by omega)
  obtain ⟨E, hE⟩ : ∃ E : Nat, E = 2 ^ (K / 2 - 1) := ⟨_, rfl⟩
  rw [← hE] at h5 ⊢
  have h6 : (2 + (K : Int) % 2) * (E : Int) ≤ 8 * 32768 := Int.mul_le_mul (by omega) (by omega) (by omega) (by omega)
  have h7 : 0 ≤ (2 + (K : Int) % 2) * (E : Int) := Int.mul_nonneg (by omega) (by omega)
  refine e_opN (v_add (by omega) (by omega)) Imp.nil ?_
  (first | refine e_ret (()) rfl ?_ | refine e_retT (()) ?_)
  exact .refl
theorem fill {W : World} {a : Option Addr} {c k n : Nat} {l : List Int} {v : Int} (hn : l.length = n) (h1 : n ≤ 1048576) (h2 : k ≤ 1048576) : Cn Try.prog 100 [.slice a n c, .int .i64 (k : Int), .int .i64 v] W [Sl 1 3 a c n (l.map I)]
    (fun q : Option Addr × Nat => .slice q.1 (n + k) q.2) (fun q => [Sl 1 3 q.1 q.2 (n + k) ((l ++ List.replicate k v).map I)]) := by
  (refine S.inflate_Fixed_1_cn fun F => ?_; unfold S.inflate_Fixed_1; simp only [List.cons_append, List.nil_append])
  refine e_loop2 (fun m x y => [ex fun i : Nat => ex fun q : Option Addr × Nat => all [pu (m + i = k ∧ y = .int .i64 (i : Int) ∧ x = .slice q.1 (n + i) q.2), Sl 1 3 q.1 q.2 (n + i) ((l ++ List.replicate i v).map I)]] ++ F) k ?_ ?_
  · refine .ex 0 (.ex (a, c) (.all ?_))
    (try simp only [List.cons_append, List.nil_append, -eq_self])
    refine .pu ⟨by omega, rfl, rfl⟩ ?_
    rw [List.replicate_zero, List.append_nil]
    exact .refl
  intro m ds x y
  (try simp only [List.cons_append, List.nil_append, -eq_self])
  refine e_ex Pick.here fun i => e_ex Pick.here fun q => e_all Pick.here ?_
  obtain ⟨qa, qc⟩ := q
  (try simp only [List.cons_append, List.nil_append, -eq_self])
  refine e_pu Pick.here fun hi => ?_
  obtain ⟨hmi, rfl, rfl⟩ := hi
  (try dsimp only)
  (refine e_ask v_lss Imp.nil (fun h => ?_) (fun h => ?_))
  · refine e_condT ?_
    refine e_bsl1 fun g => ?_
    refine e_app (m := 1) (news := [I v]) (by (repeat constructor)) (src_pt (e' := 3) (by kernel_rfl) .here (by rfl) (I_one (l := [v]))) (by omega) (by omega) fun a' c' => ?_
    (((with_reducible refine e_opN (v_add ?h1 ?h2) Imp.nil ?_); (case h1 => omega); (case h2 => omega)))
    refine e_next2 (m - 1) (by omega) (.ex (i + 1) (.ex (a', c') (.all ?_)))
    (try simp only [List.cons_append, List.nil_append, -eq_self])
    refine .pu ⟨by omega, congrArg (Value.int .i64) (by omega), by rw [Nat.add_assoc]⟩ ?_
    rw [List.replicate_succ', ← List.append_assoc, List.map_append (l₁ := l ++ List.replicate i v), ← Nat.add_assoc]
    exact .pick (by (repeat constructor)) (by (repeat (first | exact Imp.refl | exact Imp.nil | (apply Imp.pick; (focus ((repeat constructor); done))) | refine Imp.drop ?_)))
  · have : i = k := by omega
    subst this
    refine e_condF ?_
    refine e_ret (qa, qc) rfl ?_
    exact .refl
def litL : List Int := List.replicate 144 8 ++ List.replicate 112 9 ++ List.replicate 24 7 ++ List.replicate 8 8
def dstL : List Int := List.replicate 32 5
theorem lit_len : litL.length = 0 + 144 + 112 + 24 + 8 := by simp only [litL, List.length_append, List.length_replicate]
theorem dst_len : dstL.length = 0 + 32 := by simp only [dstL, List.length_replicate]
theorem fixedL {W : World} : Cn Try.prog 87 [] W [] (fun q : (Option Addr × Nat) × (Option Addr × Nat) => .tuple #[.slice q.1.1 litL.length q.1.2, .slice q.2.1 dstL.length q.2.2])
    (fun q => [Sl 1 3 q.1.1 q.1.2 litL.length (litL.map I), Sl 1 3 q.2.1 q.2.2 dstL.length (dstL.map I)]) := by
  (refine S.inflate_Fixed_cn fun F => ?_; unfold S.inflate_Fixed; simp only [List.cons_append, List.nil_append])
  rw [lit_len, dst_len]
  refine e_nil (s := 1) (e := 3) ?_
  (refine' e_call (fill (l := []) (k := 144) (v := 8) rfl (by omega) (by omega)) ?hp fun _ => ?_; (case hp => (repeat (first | exact Picks.nil | (apply Picks.cons; (focus (repeat constructor)))))); (try simp only [List.cons_append, List.nil_append, Bool.not_true, Bool.not_false]))
  rename_i q1
  obtain ⟨a1, c1⟩ := q1
  (try dsimp only)
  (refine' e_call (fill (l := List.replicate 144 8) (n := 0 + 144) (k := 112) (v := 9) (by rw [List.length_replicate]) (by omega) (by omega)) ?hp fun _ => ?_; (case hp => (repeat (first | exact Picks.nil | (apply Picks.cons; (focus (repeat constructor)))))); (try simp only [List.cons_append, List.nil_append, Bool.not_true, Bool.not_false]))
  rename_i q2
  obtain ⟨a2, c2⟩ := q2
  (try dsimp only)
  (refine' e_call (fill (l := List.replicate 144 8 ++ List.replicate 112 9) (n := 0 + 144 + 112) (k := 24) (v := 7) (by rw [List.length_append, List.length_replicate, List.length_replicate]) (by omega) (by omega)) ?hp fun _ => ?_; (case hp => (repeat (first | exact Picks.nil | (apply Picks.cons; (focus (repeat constructor)))))); (try simp only [List.cons_append, List.nil_append, Bool.not_true, Bool.not_false]))
  rename_i q3
  obtain ⟨a3, c3⟩ := q3
  (try dsimp only)
  (refine' e_call (fill (l := List.replicate 144 8 ++ List.replicate 112 9 ++ List.replicate 24 7) (n := 0 + 144 + 112 + 24) (k := 8) (v := 8) (by rw [List.length_append, List.length_append, List.length_replicate, List.length_replicate, List.length_replicate]) (by omega) (by omega)) ?hp fun _ => ?_; (case hp => (repeat (first | exact Picks.nil | (apply Picks.cons; (focus (repeat constructor)))))); (try simp only [List.cons_append, List.nil_append, Bool.not_true, Bool.not_false]))
  rename_i q4
  obtain ⟨a4, c4⟩ := q4
  (try dsimp only)
  rw [show (List.replicate 144 8 ++ List.replicate 112 9 ++ List.replicate 24 7 ++ List.replicate 8 8 : List Int) = litL from rfl]
  refine e_nil (s := 1) (e := 3) ?_
  (refine' e_call (fill (l := []) (k := 32) (v := 5) rfl (by omega) (by omega)) ?hp fun _ => ?_; (case hp => (repeat (first | exact Picks.nil | (apply Picks.cons; (focus (repeat constructor)))))); (try simp only [List.cons_append, List.nil_append, Bool.not_true, Bool.not_false]))
  rename_i q5
  obtain ⟨a5, c5⟩ := q5
  rw [show (List.replicate 32 5 : List Int) = dstL from rfl]
  (try dsimp only)
  refine e_ret ((a4, c4), (a5, c5)) rfl ?_
  exact .pick (by (repeat constructor)) (.pick (by (repeat constructor)) (by (repeat (first | exact Imp.refl | exact Imp.nil | (apply Imp.pick; (focus ((repeat constructor); done))) | refine Imp.drop ?_))))
end Go.Proofs.Ytehfblkpbadikaa.IF
