/- The document's digits at a place, its month at a place, its century: what they compute. No conditions but those that each names. -/
import Derived.Test.YtcmpkkkigmheoaaDateF1
import Derived.Test.YtcmpkkkigmheoaaDateQ2
set_option linter.unusedVariables false
set_option linter.unusedSimpArgs false
namespace Go.Proofs.Ytcmpkkkigmheoaa.D
open Go Go.Proofs Go.RowKit Go.Proofs.Ytcmpkkkigmheoaa.Sh Go.Proofs.Ytcmpkkkigmheoaa.Sl Go.Proofs.Ytcmpkkkigmheoaa.T
def dgR (l : List UInt8) (a : Int) (k : Nat) : Int := if a < 0 ∨ (l.length : Int) < a + k then -1 else match numF 0 ((l.drop a.toNat).take k) with
  | none => -1
  | some v => (v : Int)
theorem rdigits {W : World} {l : List UInt8} {a z : Int} (k : Nat) (hz : z = (k : Int)) (hk : k ≤ 8) (ha : -4611686018427387904 ≤ a ∧ a ≤ 4611686018427387904) : Cn Try.prog 34 [txt l, .int .i64 a, .int .i64 z] W [] (fun _ : Unit => .int .i64 (dgR l a k)) (fun _ => []) := by
  subst hz
  have bad : (a < 0 ∨ (l.length : Int) < a + k) → dgR l a k = -1 := fun h => if_pos h
  (refine S.ref09_digits_cn fun F => ?_; unfold S.ref09_digits; simp only [List.cons_append, List.nil_append])
  refine e_ask v_lss Imp.nil (fun h1 => ?_) (fun h1 => ?_)
  · rw [bad (.inl h1)]
    ((with_reducible refine e_gdF1 ?_)); ((with_reducible refine e_gdF1 ?_)); ((with_reducible refine e_gdF1 ?_)); ((with_reducible refine e_gdF1 ?_)); ((with_reducible refine e_gdF1 ?_)); ((with_reducible refine e_gdF1 ?_)); (((with_reducible refine e_opN v_pickT Imp.nil ?_))); ((with_reducible refine e_condT ?_))
    (first | refine e_ret (()) rfl ?_ | refine e_retT (()) ?_)
    (repeat (first | exact Imp.refl | exact Imp.nil | (apply Imp.pick; (focus ((repeat constructor); done))) | refine Imp.drop ?_))
  ((with_reducible refine e_gdT ?_)); ((with_reducible refine e_gdT ?_)); ((with_reducible refine e_gdT ?_)); (((with_reducible refine e_opN (v_add ?h1 ?h2) Imp.nil ?_); (case h1 => omega); (case h2 => omega))); ((with_reducible refine e_gdT ?_)); ((with_reducible refine e_gdT ?_))
  refine e_opN v_lent Imp.nil ?_
  ((with_reducible refine e_gdT ?_))
  refine e_ask v_gtr Imp.nil (fun h2 => ?_) (fun h2 => ?_)
  · rw [bad (.inr h2)]
    (((with_reducible refine e_opN v_pickF Imp.nil ?_))); ((with_reducible refine e_condT ?_))
    (first | refine e_ret (()) rfl ?_ | refine e_retT (()) ?_)
    (repeat (first | exact Imp.refl | exact Imp.nil | (apply Imp.pick; (focus ((repeat constructor); done))) | refine Imp.drop ?_))
  obtain ⟨b, rfl⟩ := Int.eq_ofNat_of_zero_le (by omega : 0 ≤ a)
  have hd : dgR l (b : Int) k = match numF 0 ((l.drop b).take k) with
      | none => -1
      | some v => (v : Int) := if_neg (by omega)
  rw [hd]
  obtain ⟨R, hR⟩ : ∃ R, R = numF 0 ((l.drop b).take k) := ⟨_, rfl⟩
  rw [← hR]
  (((with_reducible refine e_opN v_pickF Imp.nil ?_))); ((with_reducible refine e_condF ?_))
  refine e_loop2 (fun m y7 y8 => (ex fun st : Nat × Nat => pu (m + st.2 = k ∧ y7 = .int .i64 (st.1 : Int) ∧ y8 = .int .i64 ((b : Int) + st.2) ∧ st.1 < 10 ^ st.2 ∧ R = numF st.1 ((l.drop (b + st.2)).take (k - st.2)))) :: F) k ?_ ?_
  · refine .ex (0, 0) (.pu ⟨by omega, rfl, by simp, by simp, hR⟩ ?_)
    (repeat (first | exact Imp.refl | exact Imp.nil | (apply Imp.pick; (focus ((repeat constructor); done))) | refine Imp.drop ?_))
  intro m ds y7 y8
  (try simp only [List.cons_append, List.nil_append, -eq_self])
  refine e_ex Pick.here fun st => e_pu Pick.here fun hi => ?_
  obtain ⟨acc, i⟩ := st
  (try dsimp only at hi)
  obtain ⟨hmk, rfl, rfl, hacc, hnum⟩ := hi
  have hp8 : 10 ^ i ≤ 10 ^ 8 := Nat.pow_le_pow_right (by omega) (by omega)
  have hacc2 : acc < 100000000 := by omega
  (((with_reducible refine e_opN (v_add ?h1 ?h2) Imp.nil ?_); (case h1 => omega); (case h2 => omega)))
  refine e_ask v_lss Imp.nil (fun h => ?_) (fun h => ?_)
  · have hil : b + i < l.length := by omega
    obtain ⟨q, hq⟩ : ∃ q, k - i = q + 1 := ⟨k - i - 1, by omega⟩
    rw [hq, List.drop_eq_getElem_cons hil, List.take_succ_cons, numF_c] at hnum
    ((with_reducible refine e_condT ?_))
    have ixs : RunV Try.prog W [] (sIx 9 (txt l) (.int .i64 ((b : Int) + i))) (.int .u8 (l[b + i].toNat : Int)) := v_ixS (b + i) (by omega) hil
    obtain ⟨ch, hce⟩ : ∃ ch, ch = l[b + i] := ⟨_, rfl⟩
    rw [← hce] at ixs hnum
    have hch := ch.toNat_lt
    refine e_opN ixs Imp.nil ?_
    refine e_ask v_lss Imp.nil (fun h5 => ?_) (fun h5 => ?_)
    · rw [if_pos (.inl (by omega))] at hnum
      rw [hnum]
      ((with_reducible refine e_gdF1 ?_)); ((with_reducible refine e_gdF1 ?_)); ((with_reducible refine e_gdF1 ?_)); ((with_reducible refine e_gdF1 ?_)); (((with_reducible refine e_opN v_pickT Imp.nil ?_))); ((with_reducible refine e_condT ?_))
      (first | refine e_ret (()) rfl ?_ | refine e_retT (()) ?_)
      (repeat (first | exact Imp.refl | exact Imp.nil | (apply Imp.pick; (focus ((repeat constructor); done))) | refine Imp.drop ?_))
    ((with_reducible refine e_gdT ?_)); ((with_reducible refine e_gdT ?_)); ((with_reducible refine e_gdT ?_))
    refine e_opN ixs Imp.nil ?_
    ((with_reducible refine e_gdT ?_))
    refine e_ask v_gtr Imp.nil (fun h6 => ?_) (fun h6 => ?_)
    · rw [if_pos (.inr (by omega))] at hnum
      rw [hnum]
      (((with_reducible refine e_opN v_pickF Imp.nil ?_))); ((with_reducible refine e_condT ?_))
      (first | refine e_ret (()) rfl ?_ | refine e_retT (()) ?_)
      (repeat (first | exact Imp.refl | exact Imp.nil | (apply Imp.pick; (focus ((repeat constructor); done))) | refine Imp.drop ?_))
    rw [if_neg (by omega)] at hnum
    (((with_reducible refine e_opN v_pickF Imp.nil ?_))); ((with_reducible refine e_condF ?_)); (((with_reducible refine e_opN (v_mul ?h1 ?h2) Imp.nil ?_); (case h1 => omega); (case h2 => omega)))
    refine e_opN ixs Imp.nil ?_
    refine e_opN v_subw Imp.nil ?_
    rw [show (ch.toNat : Int) - 48 = ((ch.toNat - 48 : Nat) : Int) by omega, show IntKind.u8.wrap ((ch.toNat - 48 : Nat) : Int) = ((ch.toNat - 48 : Nat) : Int) by simp only [IntKind.wrap, IntKind.bits, IntKind.signed]; simp; omega]
    refine e_opN v_conv Imp.nil ?_
    rw [w64 (by omega) (by omega)]
    (((with_reducible refine e_opN (v_add ?h1 ?h2) Imp.nil ?_); (case h1 => omega); (case h2 => omega))); (((with_reducible refine e_opN (v_add ?h1 ?h2) Imp.nil ?_); (case h1 => omega); (case h2 => omega)))
    refine e_next2 (m - 1) (by omega) (.ex (10 * acc + (ch.toNat - 48), i + 1) (.pu ⟨by omega, ?_, ?_, ?_, ?_⟩ ?_))
    · congr 1
    · congr 1
    · simp only [Nat.pow_succ]; omega
    · rw [hnum, show k - (i + 1) = q by omega]; rfl
    · (repeat (first | exact Imp.refl | exact Imp.nil | (apply Imp.pick; (focus ((repeat constructor); done))) | refine Imp.drop ?_))
  · have hik : i = k := by omega
    rw [hik, Nat.sub_self, List.take_zero] at hnum
    rw [hnum, show numF acc [] = some acc from rfl]
    ((with_reducible refine e_condF ?_))
    (first | refine e_ret (()) rfl ?_ | refine e_retT (()) ?_)
    (repeat (first | exact Imp.refl | exact Imp.nil | (apply Imp.pick; (focus ((repeat constructor); done))) | refine Imp.drop ?_))
theorem v_sslh {P : Program} {W : World} {t : TypeId} {l : List UInt8} {q r : IntKind} {i j : Int} (a b : Nat) [ht : StrT P t] (hi : i = (a : Int)) (hj : j = (b : Int)) (hab : a ≤ b) (hb : b ≤ l.length) : RunV P W [] (sSl t (txt l) (some (.int q i)) (some (.int r j)) none) (txt ((l.drop a).take (b - a))) := fun w _ => by
  have e : (⟨l.toArray⟩ : ByteArray).size = l.length := rfl
  have e2 : (⟨l.toArray⟩ : ByteArray).extract a b = ⟨((l.drop a).take (b - a)).toArray⟩ := by
    apply ByteArray.ext
    rw [ByteArray.data_extract]
    simp
  simp [sSl, Instr.sliceAt, Instr.slice, Instr.sliceBounds, run_underlying ht.ut, txt, e, run_sb b hj hb, run_sb a hi hab, e2]
def moR (l : List UInt8) (a : Nat) : Int := if a + 3 ≤ l.length then (match monV ((l.drop a).take 3) with
  | none => 0
  | some v => v) else 0
theorem rmonth {W : World} {l : List UInt8} {a : Nat} (ha : a ≤ 4611686018427387904) : Cn Try.prog 50 [txt l, .int .i64 (a : Int)] W [] (fun _ : Unit => .int .i64 (moR l a)) (fun _ => []) := by
  (refine S.ref09_month_cn fun F => ?_; unfold S.ref09_month; simp only [List.cons_append, List.nil_append])
  (refine' e_call (names) ?hp fun _ => ?_; (case hp => (repeat (first | exact Picks.nil | (apply Picks.cons; (focus (repeat constructor)))))); (try simp only [List.cons_append, List.nil_append, Bool.not_true, Bool.not_false]))
  rename_i q
  obtain ⟨gs, gc, gl, gm⟩ := q
  (try dsimp only)
  (((with_reducible refine' e_opN (v_extN ?hc) Imp.nil ?_); (case hc => (repeat (first | exact Nth.here | apply Nth.there))))); (((with_reducible refine' e_opN (v_extN ?hc) Imp.nil ?_); (case hc => (repeat (first | exact Nth.here | apply Nth.there))))); (((with_reducible refine' e_opN (v_extN ?hc) Imp.nil ?_); (case hc => (repeat (first | exact Nth.here | apply Nth.there)))))
  refine e_loop1 (fun m y8 => (ex fun i : Nat => pu (m + i = 12 ∧ y8 = .int .i64 (i : Int) ∧ moR l a = if a + 3 ≤ l.length then (match mF ((l.drop a).take 3) i m with
    | none => 0
    | some v => v) else 0)) :: pt gm (.cells (moL.map txt).toArray 9) :: F) 12 ?_ ?_
  · refine .ex 0 (.pu ⟨by omega, rfl, rfl⟩ ?_)
    (repeat (first | exact Imp.refl | exact Imp.nil | (apply Imp.pick; (focus ((repeat constructor); done))) | refine Imp.drop ?_))
  intro m ds y8
  (try simp only [List.cons_append, List.nil_append, -eq_self])
  refine e_ex Pick.here fun i => e_pu Pick.here fun hi => ?_
  obtain ⟨hmi, rfl, hmo⟩ := hi
  refine e_ask v_lss Imp.nil (fun h => ?_) (fun h => ?_)
  · obtain ⟨m', rfl⟩ : ∃ m', m = m' + 1 := ⟨m - 1, by omega⟩
    unfold mF at hmo
    ((with_reducible refine e_condT ?_)); ((with_reducible refine e_drS ?_)); (((with_reducible refine e_stS (v_add ?h1 ?h2) Imp.nil ?_); (case h1 => omega); (case h2 => omega)))
    refine e_stS v_lent Imp.nil ?_
    refine e_askS v_leq Imp.nil (fun h3 => ?_) (fun h3 => ?_)
    · rw [if_pos (by omega)] at hmo
      ((with_reducible refine e_gdT ?_)); ((with_reducible refine e_gdT ?_)); ((with_reducible refine e_gdT ?_)); ((with_reducible refine e_gdT ?_)); (((with_reducible refine e_stS (v_add ?h1 ?h2) Imp.nil ?_); (case h1 => omega); (case h2 => omega))); ((with_reducible refine e_gdT ?_))
      refine e_stS (v_sslh a (a + 3) (by rfl) (by omega) (by omega) (by omega)) Imp.nil ?_
      rw [show a + 3 - a = 3 by omega]
      ((with_reducible refine e_gdT ?_)); ((with_reducible refine e_gdT ?_)); ((with_reducible refine e_gdT ?_))
      refine e_stS (v_ia1 i (by rfl) (by omega)) Imp.nil ?_
      ((with_reducible refine e_gdT ?_))
      refine e_stS (v_ldRd (v := txt (moL.getD i [])) (j := i) (rd_pt (n := 12) (by rfl)) (l_get (l := moL) (by show _ < 12; omega))) (.pick (by (repeat constructor)) .nil) ?_
      ((with_reducible refine e_gdT ?_))
      refine e_askS v_streq Imp.nil (fun hq => ?_) (fun hq => ?_)
      · rw [if_pos hq.symm] at hmo
        (((with_reducible refine e_stS v_pickT Imp.nil ?_))); ((with_reducible refine e_condT ?_)); (((with_reducible refine e_opN (v_add ?h1 ?h2) Imp.nil ?_); (case h1 => omega); (case h2 => omega)))
        rw [hmo]
        (first | refine e_ret (()) rfl ?_ | refine e_retT (()) ?_)
        (repeat (first | exact Imp.refl | exact Imp.nil | (apply Imp.pick; (focus ((repeat constructor); done))) | refine Imp.drop ?_))
      · rw [if_neg (fun c => hq c.symm)] at hmo
        (((with_reducible refine e_stS v_pickT Imp.nil ?_))); ((with_reducible refine e_condF ?_)); (((with_reducible refine e_opN (v_add ?h1 ?h2) Imp.nil ?_); (case h1 => omega); (case h2 => omega)))
        refine e_next1 m' (by omega) (.ex (i + 1) (.pu ⟨by omega, rfl, ?_⟩ ?_))
        · rw [if_pos (by omega)]; exact hmo
        · (repeat (first | exact Imp.refl | exact Imp.nil | (apply Imp.pick; (focus ((repeat constructor); done))) | refine Imp.drop ?_))
    · rw [if_neg (by omega)] at hmo
      ((with_reducible refine e_gdF2 ?_)); ((with_reducible refine e_gdF2 ?_)); ((with_reducible refine e_gdF2 ?_)); ((with_reducible refine e_gdF2 ?_)); ((with_reducible refine e_gdF2 ?_)); ((with_reducible refine e_gdF2 ?_)); ((with_reducible refine e_gdF2 ?_)); ((with_reducible refine e_gdF2 ?_)); ((with_reducible refine e_gdF2 ?_)); ((with_reducible refine e_gdF2 ?_)); (((with_reducible refine e_stS v_pickF Imp.nil ?_))); ((with_reducible refine e_condF ?_)); (((with_reducible refine e_opN (v_add ?h1 ?h2) Imp.nil ?_); (case h1 => omega); (case h2 => omega)))
      refine e_next1 m' (by omega) (.ex (i + 1) (.pu ⟨by omega, rfl, ?_⟩ ?_))
      · rw [if_neg (by omega)]; exact hmo
      · (repeat (first | exact Imp.refl | exact Imp.nil | (apply Imp.pick; (focus ((repeat constructor); done))) | refine Imp.drop ?_))
  · have hm0 : m = 0 := by omega
    subst hm0
    have hz : moR l a = 0 := by
      rw [hmo]
      split <;> rfl
    rw [hz]
    ((with_reducible refine e_condF ?_))
    (first | refine e_ret (()) rfl ?_ | refine e_retT (()) ?_)
    (repeat (first | exact Imp.refl | exact Imp.nil | (apply Imp.pick; (focus ((repeat constructor); done))) | refine Imp.drop ?_))
end Go.Proofs.Ytcmpkkkigmheoaa.D
