/- bits.Reverse and the first answers that are known. No conditions but those that each names. -/
import Derived.Test.YtpmcokpiplcnjaaBits2
set_option linter.unusedVariables false
set_option linter.unusedSimpArgs false
namespace Go.Proofs.Ytpmcokpiplcnjaa.B
open Go Go.Proofs Go.Proofs.Ytpmcokpiplcnjaa.Sh Go.Proofs.Ytpmcokpiplcnjaa.Sl Go.Proofs.Ytpmcokpiplcnjaa.T Go.Proofs.Ytpmcokpiplcnjaa.M
def lim (k : Int) : Nat := (if 32 < k then 32 else k).toNat
theorem lim_le (k : Int) : lim k ≤ 32 := by unfold lim; split <;> omega
theorem lim_eq (k : Int) : (if (0 : Int) < (if (32 : Int) < k then 32 else k) then (if (32 : Int) < k then 32 else k) else 0) = (lim k : Int) := by
  unfold lim; repeat' split <;> omega
theorem reverse {W : World} {n k : Int} : Cn Try.prog 11 [.int .i64 n, .int .i64 k] W [] (fun _ : Unit => .int .i64 (rv n (lim k) : Int)) (fun _ => []) := by
  (refine S.bits_Reverse_cn fun F => ?_; unfold S.bits_Reverse; simp only [List.cons_append, List.nil_append])
  have hK := lim_le k
  refine e_opN v_min Imp.nil ?_
  refine e_opN v_max Imp.nil ?_
  rw [lim_eq]
  obtain ⟨K, hKe⟩ : ∃ K, K = lim k := ⟨_, rfl⟩
  rw [← hKe] at hK
  rw [← hKe]
  refine e_loop2 (fun m x y => [ex fun i : Nat => pu (m + i = K ∧ y = .int .i64 (i : Int) ∧ x = .int .i64 (rv n i : Int))] ++ F) K ?_ ?_
  · exact Imp.ex 0 (.pu ⟨by omega, rfl, rfl⟩ .refl)
  · intro m ds x y
    (try simp only [List.cons_append, List.nil_append])
    refine e_ex Pick.here fun i => e_pu Pick.here fun hi => ?_
    obtain ⟨hm, rfl, rfl⟩ := hi
    (refine e_ask v_lss Imp.nil (fun h => ?_) (fun h => ?_))
    · have hik : i < K := by omega
      have hr := rv_lt n i
      have hp : 2 ^ i ≤ 2 ^ 31 := Nat.pow_le_pow_right (by omega) (by omega)
      ((with_reducible refine e_condT ?_))
      refine e_opN (v_shl (by omega)) Imp.nil ?_
      rw [show (rv n i : Int) * 2 ^ (min ((1 : Int)).toNat IntKind.i64.bits) = ((rv n i * 2 : Nat) : Int) by norm_cast, w64 (by omega) (by omega)]
      refine e_opN v_conv Imp.nil ?_
      rw [wrapu64 (by omega)]
      refine e_opN (v_shr (by omega)) Imp.nil ?_
      rw [shrI (by omega)]
      refine e_opN v_and Imp.nil ?_
      rw [and1I, ← bit_toNat]
      refine e_opN v_or Imp.nil ?_
      rw [or_two (by omega), ← rv_succ]
      (((with_reducible refine e_opN (v_add ?h1 ?h2) Imp.nil ?_); (case h1 => omega); (case h2 => omega)))
      exact e_next2 (m - 1) (by omega) (.ex (i + 1) (.pu (by refine ⟨by omega, ?_⟩; first | trivial | norm_cast) .refl))
    · have : i = K := by omega
      subst this
      ((with_reducible refine e_condF ?_))
      (first | refine e_ret (()) rfl ?_ | refine e_retT (()) ?_)
      exact .refl
theorem reverseRef {W : World} {n k : Int} : Cn Try.prog 12 [.int .i64 n, .int .i64 k] W [] (fun _ : Unit => .int .i64 (rv n (lim k) : Int)) (fun _ => []) := by
  (refine S.ref02_Reverse_cn fun F => ?_; unfold S.ref02_Reverse; simp only [List.cons_append, List.nil_append])
  have hK := lim_le k
  refine e_opN v_min Imp.nil ?_
  refine e_opN v_max Imp.nil ?_
  rw [lim_eq]
  obtain ⟨K, hKe⟩ : ∃ K, K = lim k := ⟨_, rfl⟩
  rw [← hKe] at hK
  rw [← hKe]
  refine e_loop2 (fun m x y => [ex fun i : Nat => pu (m + i = K ∧ y = .int .i64 (i : Int) ∧ x = .int .i64 (rv n i : Int))] ++ F) K ?_ ?_
  · exact Imp.ex 0 (.pu ⟨by omega, rfl, rfl⟩ .refl)
  · intro m ds x y
    (try simp only [List.cons_append, List.nil_append])
    refine e_ex Pick.here fun i => e_pu Pick.here fun hi => ?_
    obtain ⟨hm, rfl, rfl⟩ := hi
    (refine e_ask v_lss Imp.nil (fun h => ?_) (fun h => ?_))
    · have hik : i < K := by omega
      have hr := rv_lt n i
      have hp : 2 ^ i ≤ 2 ^ 31 := Nat.pow_le_pow_right (by omega) (by omega)
      refine e_condT ?_
      refine e_opN (v_mul (by omega) (by omega)) Imp.nil ?_
      refine e_opN v_conv Imp.nil ?_
      rw [wrapu64 (by omega)]
      refine e_opN (v_shr (by omega)) Imp.nil ?_
      rw [shrI (by omega)]
      refine e_opN v_and Imp.nil ?_
      rw [and1I, ← bit_toNat]
      have hb := Bool.toNat_le (bitI n i)
      refine e_opN (v_add (by omega) (by omega)) Imp.nil ?_
      rw [show 2 * (rv n i : Int) + ((bitI n i).toNat : Int) = (rv n (i + 1) : Int) by rw [rv_succ]; norm_cast]
      (((with_reducible refine e_opN (v_add ?h1 ?h2) Imp.nil ?_); (case h1 => omega); (case h2 => omega)))
      exact e_next2 (m - 1) (by omega) (.ex (i + 1) (.pu (by refine ⟨by omega, ?_⟩; first | trivial | norm_cast) .refl))
    · have : i = K := by omega
      subst this
      ((with_reducible refine e_condF ?_))
      (first | refine e_ret (()) rfl ?_ | refine e_retT (()) ?_)
      exact .refl
theorem num {W : World} {n : Int} : Cn Try.prog 29 [.int .i64 n] W [] (fun _ : Unit => .int .i64 n) (fun _ => []) := by
  (refine S.law02_num_cn fun F => ?_; unfold S.law02_num; simp only [List.cons_append, List.nil_append])
  (first | refine e_ret (()) rfl ?_ | refine e_retT (()) ?_)
  exact .refl
theorem knows {W : World} : Cn Try.prog 13 [] W [] (fun _ : Unit => .bool true) (fun _ => []) := by
  (refine S.law02_knows_cn fun F => ?_; unfold S.law02_knows; simp only [List.cons_append, List.nil_append])
  (refine' e_call (newWriter) ?hp fun _ => ?_; (case hp => (repeat (first | exact Picks.nil | (apply Picks.cons; (focus (repeat constructor)))))); (try simp only [List.cons_append, List.nil_append, Bool.not_true, Bool.not_false]))
  rename_i p
  (((with_reducible refine e_opN v_eqNil1 Imp.nil ?_))); ((with_reducible refine e_gdT ?_)); ((with_reducible refine e_gdT ?_))
  (refine' e_call (put) ?hp fun _ => ?_; (case hp => (repeat (first | exact Picks.nil | (apply Picks.cons; (focus (repeat constructor)))))); (try simp only [List.cons_append, List.nil_append, Bool.not_true, Bool.not_false]))
  ((with_reducible refine e_gdT ?_))
  rw [show putR [] 1 1 = 0 from by decide, show putL [] 1 1 = [true] from by decide]
  (refine' e_call (num) ?hp fun _ => ?_; (case hp => (repeat (first | exact Picks.nil | (apply Picks.cons; (focus (repeat constructor)))))); (try simp only [List.cons_append, List.nil_append, Bool.not_true, Bool.not_false]))
  ((with_reducible refine e_gdT ?_)); ((with_reducible refine e_gdT ?_))
  (refine' e_call (put) ?hp fun _ => ?_; (case hp => (repeat (first | exact Picks.nil | (apply Picks.cons; (focus (repeat constructor)))))); (try simp only [List.cons_append, List.nil_append, Bool.not_true, Bool.not_false]))
  ((with_reducible refine e_gdT ?_))
  rw [show putR [true] 2 2 = 0 from by decide, show putL [true] 2 2 = [true, false, true] from by decide]
  (refine' e_call (num) ?hp fun _ => ?_; (case hp => (repeat (first | exact Picks.nil | (apply Picks.cons; (focus (repeat constructor)))))); (try simp only [List.cons_append, List.nil_append, Bool.not_true, Bool.not_false]))
  ((with_reducible refine e_gdT ?_)); (((with_reducible refine e_opN (v_add ?h1 ?h2) Imp.nil ?_); (case h1 => omega); (case h2 => omega))); ((with_reducible refine e_gdT ?_)); ((with_reducible refine e_gdT ?_))
  (refine' e_call (put) ?hp fun _ => ?_; (case hp => (repeat (first | exact Picks.nil | (apply Picks.cons; (focus (repeat constructor)))))); (try simp only [List.cons_append, List.nil_append, Bool.not_true, Bool.not_false]))
  ((with_reducible refine e_gdT ?_))
  rw [show putR [true, false, true] 5 3 = 0 from by decide, show putL [true, false, true] 5 3 = [true, false, true, true, false, true] from by decide]
  (refine' e_call (num) ?hp fun _ => ?_; (case hp => (repeat (first | exact Picks.nil | (apply Picks.cons; (focus (repeat constructor)))))); (try simp only [List.cons_append, List.nil_append, Bool.not_true, Bool.not_false]))
  ((with_reducible refine e_gdT ?_)); (((with_reducible refine e_opN (v_add ?h1 ?h2) Imp.nil ?_); (case h1 => omega); (case h2 => omega))); ((with_reducible refine e_gdT ?_))
  refine e_opN v_neq Imp.nil ?_
  rw [decide_eq_false (by decide)]
  (((with_reducible refine e_opN v_pickF Imp.nil ?_))); ((with_reducible refine e_gdT ?_)); ((with_reducible refine e_gdT ?_))
  (refine' e_call (bytes) ?hp fun _ => ?_; (case hp => (repeat (first | exact Picks.nil | (apply Picks.cons; (focus (repeat constructor)))))); (try simp only [List.cons_append, List.nil_append, Bool.not_true, Bool.not_false]))
  rename_i q
  obtain ⟨qa, qc⟩ := q
  ((with_reducible refine e_gdT ?_))
  rw [show pk [true, false, true, true, false, true] = [45] from by decide]
  refine e_slsome .here (by decide) fun g hg => ?_
  subst hg
  refine e_opN (v_str (l := [45]) (rd_sl (by decide) (fun _ => ⟨g, rfl⟩)) (fun c => by cases c)) (.pick .here .nil) ?_
  ((with_reducible refine e_gdT ?_))
  refine e_opN (v_strne (l := [45]) (m := [45])) Imp.nil ?_
  rw [decide_eq_false (by decide)]
  (((with_reducible refine e_opN v_pickF Imp.nil ?_))); ((with_reducible refine e_condF ?_)); (((with_reducible refine e_bsl1 fun g => ?_)))
  rename_i g2
  (refine' e_call (newReader (b := [45]) (rd_pt (by decide)) (fun c => by cases c) (by decide)) ?hp fun _ => ?_; (case hp => (repeat (first | exact Picks.nil | (apply Picks.cons; (focus (repeat constructor)))))); (try simp only [List.cons_append, List.nil_append, Bool.not_true, Bool.not_false]))
  rename_i r
  (refine' e_call (take) ?hp fun _ => ?_; (case hp => (repeat (first | exact Picks.nil | (apply Picks.cons; (focus (repeat constructor)))))); (try simp only [List.cons_append, List.nil_append, Bool.not_true, Bool.not_false]))
  rw [show takR [45] 0 3 = 0 from by decide, show takN [45] 0 3 = 5 from by decide, show takAt [45] 0 3 = 3 from by decide]
  (((with_reducible refine' e_opN (v_ext ?h1) Imp.nil ?_); (case h1 => rfl))); (((with_reducible refine' e_opN (v_ext ?h1) Imp.nil ?_); (case h1 => rfl)))
  refine e_opN v_eql Imp.nil ?_
  rw [decide_eq_true (by decide)]
  ((with_reducible refine e_gdT ?_)); ((with_reducible refine e_gdT ?_))
  (refine' e_call (num) ?hp fun _ => ?_; (case hp => (repeat (first | exact Picks.nil | (apply Picks.cons; (focus (repeat constructor)))))); (try simp only [List.cons_append, List.nil_append, Bool.not_true, Bool.not_false]))
  ((with_reducible refine e_gdT ?_))
  refine e_opN v_eql Imp.nil ?_
  rw [decide_eq_true (by decide)]
  (((with_reducible refine e_opN v_pickT Imp.nil ?_))); ((with_reducible refine e_gdT ?_))
  (refine' e_call (reverse) ?hp fun _ => ?_; (case hp => (repeat (first | exact Picks.nil | (apply Picks.cons; (focus (repeat constructor)))))); (try simp only [List.cons_append, List.nil_append, Bool.not_true, Bool.not_false]))
  ((with_reducible refine e_gdT ?_))
  rw [show rv 1 (lim 3) = 4 from by decide]
  refine e_opN v_eql Imp.nil ?_
  rw [decide_eq_true (by decide)]
  (((with_reducible refine e_opN v_pickT Imp.nil ?_)))
  (first | refine e_ret (()) rfl ?_ | refine e_retT (()) ?_)
  (repeat (first | exact Imp.refl | exact Imp.nil | (apply Imp.pick; (focus ((repeat constructor); done))) | refine Imp.drop ?_))
theorem bitsReverse {W : World} {n k : Int} : Cn Try.prog 3 [.int .i64 n, .int .i64 k] W [] (fun _ : Unit => .bool true) (fun _ => []) := by
  (refine S.law02_BitsReverse_cn fun F => ?_; unfold S.law02_BitsReverse; simp only [List.cons_append, List.nil_append])
  have hK := lim_le k
  (refine' e_call (reverse) ?hp fun _ => ?_; (case hp => (repeat (first | exact Picks.nil | (apply Picks.cons; (focus (repeat constructor)))))); (try simp only [List.cons_append, List.nil_append, Bool.not_true, Bool.not_false]))
  refine e_opN v_min Imp.nil ?_
  refine e_opN v_max Imp.nil ?_
  rw [lim_eq]
  (refine' e_call (reverseRef) ?hp fun _ => ?_; (case hp => (repeat (first | exact Picks.nil | (apply Picks.cons; (focus (repeat constructor)))))); (try simp only [List.cons_append, List.nil_append, Bool.not_true, Bool.not_false]))
  refine e_opN v_eql Imp.nil ?_
  rw [decide_eq_true rfl]
  ((with_reducible refine e_gdT ?_)); ((with_reducible refine e_gdT ?_)); ((with_reducible refine e_gdT ?_))
  (refine' e_call (reverse) ?hp fun _ => ?_; (case hp => (repeat (first | exact Picks.nil | (apply Picks.cons; (focus (repeat constructor)))))); (try simp only [List.cons_append, List.nil_append, Bool.not_true, Bool.not_false]))
  ((with_reducible refine e_gdT ?_)); ((with_reducible refine e_gdT ?_)); ((with_reducible refine e_gdT ?_))
  refine e_opN v_conv Imp.nil ?_
  rw [wrapu64 (by omega)]
  ((with_reducible refine e_gdT ?_))
  refine e_opN (v_shl (by omega)) Imp.nil ?_
  have hp : 2 ^ lim k ≤ 2 ^ 32 := Nat.pow_le_pow_right (by omega) (by omega)
  have hp0 : 0 < 2 ^ lim k := Nat.pow_pos (by omega)
  have hm : (1 : Int) * 2 ^ (min ((lim k : Int)).toNat IntKind.i64.bits) = ((2 ^ lim k : Nat) : Int) := by
    rw [show min ((lim k : Int)).toNat IntKind.i64.bits = lim k by simp only [IntKind.bits, Int.toNat_natCast]; omega]
    norm_cast
    omega
  rw [hm, w64 (by omega) (by omega)]
  ((with_reducible refine e_gdT ?_)); (((with_reducible refine e_opN (v_sub ?h1 ?h2) Imp.nil ?_); (case h1 => omega); (case h2 => omega))); ((with_reducible refine e_gdT ?_))
  refine e_opN v_and Imp.nil ?_
  rw [show ((2 ^ lim k : Nat) : Int) - 1 = ((2 ^ lim k - 1 : Nat) : Int) by omega, and_mask n hK]
  ((with_reducible refine e_gdT ?_))
  refine e_opN v_eql Imp.nil ?_
  rw [decide_eq_true (rv_rv n (lim k))]
  (((with_reducible refine e_opN v_pickT Imp.nil ?_))); ((with_reducible refine e_gdT ?_))
  (refine' e_call (knows) ?hp fun _ => ?_; (case hp => (repeat (first | exact Picks.nil | (apply Picks.cons; (focus (repeat constructor)))))); (try simp only [List.cons_append, List.nil_append, Bool.not_true, Bool.not_false]))
  (((with_reducible refine e_opN v_pickT Imp.nil ?_)))
  (first | refine e_ret (()) rfl ?_ | refine e_retT (()) ?_)
  (repeat (first | exact Imp.refl | exact Imp.nil | (apply Imp.pick; (focus ((repeat constructor); done))) | refine Imp.drop ?_))
end Go.Proofs.Ytpmcokpiplcnjaa.B
