/- bits.Reverse and the first answers that are known. No conditions but those that each names. -/
import Derived.Test.YtehfblkpbadikaaBits2
set_option linter.unusedVariables false
set_option linter.unusedSimpArgs false
namespace Go.Proofs.Ytehfblkpbadikaa.B
open Go Go.Proofs Go.Proofs.Ytehfblkpbadikaa.Sh Go.Proofs.Ytehfblkpbadikaa.Sl Go.Proofs.Ytehfblkpbadikaa.T Go.Proofs.Ytehfblkpbadikaa.M
def lim (k : Int) : Nat := (if 32 < k then 32 else k).toNat
theorem lim_le (k : Int) : lim k ≤ 32 := by unfold lim; split <;> omega
theorem lim_eq (k : Int) : (if (0 : Int) < (if (32 : Int) < k then 32 else k) then (if (32 : Int) < k then 32 else k) else 0) = (lim k : Int) := by
  unfold lim; repeat' split <;> omega
theorem reverse {W : World} {n k : Int} : Cn Try.prog 55 [.int .i64 n, .int .i64 k] W [] (fun _ : Unit => .int .i64 (rv n (lim k) : Int)) (fun _ => []) := by
  (refine S.bits_Reverse_cn fun F => ?_; unfold S.bits_Reverse; simp only [List.cons_append, List.nil_append])
  have hK := lim_le k
  refine e_opN v_min Imp.nil ?_
  refine e_opN v_max Imp.nil ?_
  rw [lim_eq]
  obtain ⟨K, hKe⟩ : ∃ K, K = lim k := ⟨_, rfl⟩
  rw [← hKe] at hK
  rw [← hKe]
  refine e_loop2 (fun m x y => [ex fun i : Nat => pu (m + i = K ∧ y = .int .i64 (i : Int) ∧ x = .int .i64 (rv n i : Int))] ++ F) K ?_ ?_
  · exact Imp.ex 0 (.pu ⟨by omega, rfl, rfl⟩ .refl)
  · intro m ds x y
    (try simp only [List.cons_append, List.nil_append])
    refine e_ex Pick.here fun i => e_pu Pick.here fun hi => ?_
    obtain ⟨hm, rfl, rfl⟩ := hi
    (refine e_ask v_lss Imp.nil (fun h => ?_) (fun h => ?_))
    · have hik : i < K := by omega
      have hr := rv_lt n i
      have hp : 2 ^ i ≤ 2 ^ 31 := Nat.pow_le_pow_right (by omega) (by omega)
      ((with_reducible refine e_condT ?_))
      refine e_opN (v_shl (by omega)) Imp.nil ?_
      rw [show (rv n i : Int) * 2 ^ (min ((1 : Int)).toNat IntKind.i64.bits) = ((rv n i * 2 : Nat) : Int) by norm_cast, w64 (by omega) (by omega)]
      refine e_opN v_conv Imp.nil ?_
      rw [wrapu64 (by omega)]
      refine e_opN (v_shr (by omega)) Imp.nil ?_
      rw [shrI (by omega)]
      refine e_opN v_and Imp.nil ?_
      rw [and1I, ← bit_toNat]
      refine e_opN v_or Imp.nil ?_
      rw [or_two (by omega), ← rv_succ]
      (((with_reducible refine e_opN (v_add ?h1 ?h2) Imp.nil ?_); (case h1 => omega); (case h2 => omega)))
      exact e_next2 (m - 1) (by omega) (.ex (i + 1) (.pu (by refine ⟨by omega, ?_⟩; first | trivial | norm_cast) .refl))
    · have : i = K := by omega
      subst this
      ((with_reducible refine e_condF ?_))
      (first | refine e_ret (()) rfl ?_ | refine e_retT (()) ?_)
      exact .refl
theorem reverseRef {W : World} {n k : Int} : Cn Try.prog 57 [.int .i64 n, .int .i64 k] W [] (fun _ : Unit => .int .i64 (rv n (lim k) : Int)) (fun _ => []) := by
  (refine S.ref02_Reverse_cn fun F => ?_; unfold S.ref02_Reverse; simp only [List.cons_append, List.nil_append])
  have hK := lim_le k
  refine e_opN v_min Imp.nil ?_
  refine e_opN v_max Imp.nil ?_
  rw [lim_eq]
  obtain ⟨K, hKe⟩ : ∃ K, K = lim k := ⟨_, rfl⟩
  rw [← hKe] at hK
  rw [← hKe]
  refine e_loop2 (fun m x y => [ex fun i : Nat => pu (m + i = K ∧ y = .int .i64 (i : Int) ∧ x = .int .i64 (rv n i : Int))] ++ F) K ?_ ?_
  · exact Imp.ex 0 (.pu ⟨by omega, rfl, rfl⟩ .refl)
  · intro m ds x y
    (try simp only [List.cons_append, List.nil_append])
    refine e_ex Pick.here fun i => e_pu Pick.here fun hi => ?_
    obtain ⟨hm, rfl, rfl⟩ := hi
    (refine e_ask v_lss Imp.nil (fun h => ?_) (fun h => ?_))
    · have hik : i < K := by omega
      have hr := rv_lt n i
      have hp : 2 ^ i ≤ 2 ^ 31 := Nat.pow_le_pow_right (by omega) (by omega)
      refine e_condT ?_
      refine e_opN (v_mul (by omega) (by omega)) Imp.nil ?_
      refine e_opN v_conv Imp.nil ?_
      rw [wrapu64 (by omega)]
      refine e_opN (v_shr (by omega)) Imp.nil ?_
      rw [shrI (by omega)]
      refine e_opN v_and Imp.nil ?_
      rw [and1I, ← bit_toNat]
      have hb := Bool.toNat_le (bitI n i)
      refine e_opN (v_add (by omega) (by omega)) Imp.nil ?_
      rw [show 2 * (rv n i : Int) + ((bitI n i).toNat : Int) = (rv n (i + 1) : Int) by rw [rv_succ]; norm_cast]
      (((with_reducible refine e_opN (v_add ?h1 ?h2) Imp.nil ?_); (case h1 => omega); (case h2 => omega)))
      exact e_next2 (m - 1) (by omega) (.ex (i + 1) (.pu (by refine ⟨by omega, ?_⟩; first | trivial | norm_cast) .refl))
    · have : i = K := by omega
      subst this
      ((with_reducible refine e_condF ?_))
      (first | refine e_ret (()) rfl ?_ | refine e_retT (()) ?_)
      exact .refl
end Go.Proofs.Ytehfblkpbadikaa.B
