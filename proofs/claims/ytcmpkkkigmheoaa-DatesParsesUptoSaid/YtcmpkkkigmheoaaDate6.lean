/- What reads numbers, months, times of day. No conditions but those that each names. -/
import Derived.Test.YtcmpkkkigmheoaaDate5
set_option linter.unusedVariables false
set_option linter.unusedSimpArgs false
namespace Go.Proofs.Ytcmpkkkigmheoaa.D
open Go Go.Proofs Go.RowKit Go.Proofs.Ytcmpkkkigmheoaa.Sh Go.Proofs.Ytcmpkkkigmheoaa.Sl Go.Proofs.Ytcmpkkkigmheoaa.T
def fix0 : List UInt8 → List UInt8
  | [] => []
  | c :: r => (if c = 32 then 48 else c) :: r
def numF (acc : Nat) : List UInt8 → Option Nat
  | [] => some acc
  | c :: r => if c.toNat < 48 ∨ 57 < c.toNat then none else numF (10 * acc + (c.toNat - 48)) r
def numV (w : List UInt8) : Option Nat := numF 0 (fix0 w)
def numR (k : Nat) (l : List UInt8) : Option (Nat × List UInt8) := match tkR k l with
  | none => none
  | some x => match numV x.1 with
    | none => none
    | some v => some (v, x.2)
theorem fix0_len (w : List UInt8) : (fix0 w).length = w.length := by cases w <;> rfl
theorem fix0_get (w : List UInt8) (i : Nat) (h : i < w.length) : (fix0 w)[i]'(by rw [fix0_len]; exact h) = if w[i] = 32 ∧ i = 0 then 48 else w[i] := by
  cases w with
  | nil => simp at h
  | cons c r =>
    cases i with
    | zero => simp [fix0]
    | succ i => simp [fix0]
theorem tk_len {k : Nat} {l : List UInt8} {x : List UInt8 × List UInt8} (h : tkR k l = some x) : x.1.length = k := by
  unfold tkR at h
  split at h
  · injection h with h; subst h; simp; omega
  · cases h
theorem number {W : World} {p k : Nat} {l : List UInt8} (hk : k ≤ 8) : CnP Try.prog 45 [.pointer (some ⟨p, 0, none⟩), .int .i64 (k : Int)] W [IsRd p l]
    (fun x : Sm (numR k l) => .int .i64 (x.1.1 : Int)) (fun x => [IsRd p x.1.2]) (fun _ : Nn (numR k l) => pnD) (fun _ => []) := by
  (refine S.dates_reader_number_cnP fun F => ?_; unfold S.dates_reader_number; simp only [List.cons_append, List.nil_append, -eq_self])
  (refine' e_callP (take (k := k)) ?hp (fun _ => ?_) (fun _ => ?_); (case hp => (repeat (first | exact Picks.nil | (apply Picks.cons; (focus (repeat constructor)))))); (all_goals (try simp only [List.cons_append, List.nil_append, Bool.not_true, Bool.not_false, -eq_self])))
  rotate_left
  · rename_i y
    refine e_pan ⟨(), by unfold numR; rw [y.2]⟩ rfl ?_
    (repeat (first | exact Imp.refl | exact Imp.nil | (apply Imp.pick; (focus ((repeat constructor); done))) | refine Imp.drop ?_))
  rename_i x
  obtain ⟨⟨w, r⟩, hx⟩ := x
  have hwl : w.length = k := tk_len hx
  (try dsimp only)
  refine e_sbytes (e := 5) (by kernel_rfl) (by kernel_rfl) fun g c rest fz => ?_
  (((with_reducible refine e_opN v_len Imp.nil ?_)))
  refine e_loop2 (fun m y5 y13 => (ex fun st : Nat × Nat => pu (m + st.2 = k ∧ y5 = .int .i64 (st.1 : Int) ∧ y13 = .int .i64 (st.2 : Int) ∧ st.1 < 10 ^ st.2 ∧ numF st.1 ((fix0 w).drop st.2) = numV w)) :: pt g (.cells (w.map Sl.B ++ rest).toArray 5 fz) :: IsRd p r :: F) k ?_ ?_
  · refine .ex (0, 0) (.pu ⟨by omega, rfl, rfl, by simp, by simp [numV]⟩ ?_)
    (repeat (first | exact Imp.refl | exact Imp.nil | (apply Imp.pick; (focus ((repeat constructor); done))) | refine Imp.drop ?_))
  intro m ds y5 y13
  (try simp only [List.cons_append, List.nil_append, -eq_self])
  refine e_ex Pick.here fun st => e_pu Pick.here fun hi => ?_
  obtain ⟨acc, i⟩ := st
  (try dsimp only at hi)
  obtain ⟨hmk, rfl, rfl, hacc, hnum⟩ := hi
  have hp8 : 10 ^ i ≤ 10 ^ 8 := Nat.pow_le_pow_right (by omega) (by omega)
  (refine e_ask v_lss Imp.nil (fun h => ?_) (fun h => ?_))
  · have hil : i < w.length := by omega
    have hil2 : i < (fix0 w).length := by rw [fix0_len]; exact hil
    refine e_condT ?_
    refine e_opN (v_ia1 i (by rfl) (by omega)) Imp.nil ?_
    refine e_opN (v_ldRd (j := i) rd_row (B_get hil)) (.pick (by (repeat constructor)) .nil) ?_
    have hfg := fix0_get w i hil
    refine e_cut1 (fun z => pu (z = Sl.B ((fix0 w)[i])) :: pt g (.cells (w.map Sl.B ++ rest).toArray 5 fz) :: IsRd p r :: F) ?_ ?_
    rotate_left
    · unfold Sl.B
      refine e_ask v_eql Imp.nil (fun h5 => ?_) (fun h5 => ?_)
      · have hc : w[i] = 32 := by
          apply UInt8.toNat_inj.1
          exact Int.ofNat.inj h5
        ((with_reducible refine e_gdT ?_)); ((with_reducible refine e_gdT ?_))
        refine e_ask v_eql Imp.nil (fun h6 => ?_) (fun h6 => ?_)
        · (((with_reducible refine e_opN v_pickT Imp.nil ?_))); ((with_reducible refine e_condT ?_))
          refine e_sat (.pu ?_ ?_)
          · rw [hfg, if_pos ⟨hc, by omega⟩]; rfl
          · (repeat (first | exact Imp.refl | exact Imp.nil | (apply Imp.pick; (focus ((repeat constructor); done))) | refine Imp.drop ?_))
        · (((with_reducible refine e_opN v_pickT Imp.nil ?_))); ((with_reducible refine e_condF ?_))
          refine e_sat (.pu ?_ ?_)
          · rw [hfg, if_neg (fun c => h6 (by omega))]
          · (repeat (first | exact Imp.refl | exact Imp.nil | (apply Imp.pick; (focus ((repeat constructor); done))) | refine Imp.drop ?_))
      · have hc : ¬ w[i] = 32 := fun c => h5 (by rw [c]; rfl)
        ((with_reducible refine e_gdF2 ?_)); ((with_reducible refine e_gdF2 ?_)); (((with_reducible refine e_opN v_pickF Imp.nil ?_))); ((with_reducible refine e_condF ?_))
        refine e_sat (.pu ?_ ?_)
        · rw [hfg, if_neg (fun c => hc c.1)]
        · (repeat (first | exact Imp.refl | exact Imp.nil | (apply Imp.pick; (focus ((repeat constructor); done))) | refine Imp.drop ?_))
    intro ds2 z
    (try simp only [List.cons_append, List.nil_append, -eq_self])
    refine e_pu .here fun h => ?_
    subst h
    rw [List.drop_eq_getElem_cons hil2] at hnum
    generalize (fix0 w)[i] = ch at hnum ⊢
    have hch := ch.toNat_lt
    unfold numF at hnum
    unfold Sl.B
    refine e_cut0 (pu (48 ≤ ch.toNat ∧ ch.toNat ≤ 57) :: pt g (.cells (w.map (fun c => Value.int .u8 (c.toNat : Int)) ++ rest).toArray 5 fz) :: IsRd p r :: F) ?_ ?_
    rotate_left
    · refine e_ask v_lss Imp.nil (fun h5 => ?_) (fun h5 => ?_)
      · ((with_reducible refine e_gdF1 ?_)); ((with_reducible refine e_gdF1 ?_)); (((with_reducible refine e_opN v_pickT Imp.nil ?_))); ((with_reducible refine e_condT ?_))
        refine e_opN v_mkI Imp.nil ?_
        refine e_panic ?_
        refine e_pan ⟨(), ?_⟩ rfl ?_
        · rw [if_pos (.inl (by omega))] at hnum
          unfold numR; rw [hx]; simp only; rw [← hnum]
        · (repeat (first | exact Imp.refl | exact Imp.nil | (apply Imp.pick; (focus ((repeat constructor); done))) | refine Imp.drop ?_))
      · ((with_reducible refine e_gdT ?_)); ((with_reducible refine e_gdT ?_))
        refine e_ask v_gtr Imp.nil (fun h6 => ?_) (fun h6 => ?_)
        · (((with_reducible refine e_opN v_pickF Imp.nil ?_))); ((with_reducible refine e_condT ?_))
          refine e_opN v_mkI Imp.nil ?_
          refine e_panic ?_
          refine e_pan ⟨(), ?_⟩ rfl ?_
          · rw [if_pos (.inr (by omega))] at hnum
            unfold numR; rw [hx]; simp only; rw [← hnum]
          · (repeat (first | exact Imp.refl | exact Imp.nil | (apply Imp.pick; (focus ((repeat constructor); done))) | refine Imp.drop ?_))
        · (((with_reducible refine e_opN v_pickF Imp.nil ?_))); ((with_reducible refine e_condF ?_))
          refine e_sat (.pu (by omega) ?_)
          (repeat (first | exact Imp.refl | exact Imp.nil | (apply Imp.pick; (focus ((repeat constructor); done))) | refine Imp.drop ?_))
    intro ds3
    (try simp only [List.cons_append, List.nil_append, -eq_self])
    refine e_pu .here fun hr => ?_
    rw [if_neg (by omega)] at hnum
    have hacc2 : acc < 100000000 := by omega
    (((with_reducible refine e_opN (v_mul ?h1 ?h2) Imp.nil ?_); (case h1 => omega); (case h2 => omega)))
    refine e_opN v_subw Imp.nil ?_
    rw [show (ch.toNat : Int) - 48 = ((ch.toNat - 48 : Nat) : Int) by omega, show IntKind.u8.wrap ((ch.toNat - 48 : Nat) : Int) = ((ch.toNat - 48 : Nat) : Int) by simp only [IntKind.wrap, IntKind.bits, IntKind.signed]; simp; omega]
    refine e_opN v_conv Imp.nil ?_
    rw [w64 (by omega) (by omega)]
    (((with_reducible refine e_opN (v_add ?h1 ?h2) Imp.nil ?_); (case h1 => omega); (case h2 => omega))); (((with_reducible refine e_opN (v_add ?h1 ?h2) Imp.nil ?_); (case h1 => omega); (case h2 => omega)))
    refine e_next2 (m - 1) (by omega) (.ex (10 * acc + (ch.toNat - 48), i + 1) (.pu ⟨by omega, ?_, ?_, ?_, ?_⟩ ?_))
    · congr 1
    · congr 1
    · simp only [Nat.pow_succ]; omega
    · exact hnum
    · (repeat (first | exact Imp.refl | exact Imp.nil | (apply Imp.pick; (focus ((repeat constructor); done))) | refine Imp.drop ?_))
  · refine e_condF ?_
    have hik : i = k := by omega
    have hv : numV w = some acc := by
      rw [← hnum, List.drop_of_length_le (by rw [fix0_len]; omega)]; rfl
    (first | refine e_ret (⟨(acc, r), by unfold numR; rw [hx]; simp only; rw [hv]⟩) rfl ?_ | refine e_retT (⟨(acc, r), by unfold numR; rw [hx]; simp only; rw [hv]⟩) ?_)
    (repeat (first | exact Imp.refl | exact Imp.nil | (apply Imp.pick; (focus ((repeat constructor); done))) | refine Imp.drop ?_))
def mF (w : List UInt8) (i : Nat) : Nat → Option Int
  | 0 => none
  | m + 1 => if moL.getD i [] = w then some ((i : Int) + 1) else mF w (i + 1) m
def monV (w : List UInt8) : Option Int := mF w 0 12
def monR (l : List UInt8) : Option (Int × List UInt8) := match tkR 3 l with
  | none => none
  | some x => match monV x.1 with
    | none => none
    | some v => some (v, x.2)
theorem month {W : World} {p : Nat} {l : List UInt8} : CnP Try.prog 46 [.pointer (some ⟨p, 0, none⟩)] W [IsRd p l]
    (fun x : Sm (monR l) => .int .i64 x.1.1) (fun x => [IsRd p x.1.2]) (fun _ : Nn (monR l) => pnD) (fun _ => []) := by
  (refine S.dates_reader_month_cnP fun F => ?_; unfold S.dates_reader_month; simp only [List.cons_append, List.nil_append, -eq_self])
  (refine' e_callP (take (k := 3)) ?hp (fun _ => ?_) (fun _ => ?_); (case hp => (repeat (first | exact Picks.nil | (apply Picks.cons; (focus (repeat constructor)))))); (all_goals (try simp only [List.cons_append, List.nil_append, Bool.not_true, Bool.not_false, -eq_self])))
  rotate_left
  · rename_i y
    refine e_pan ⟨(), by unfold monR; rw [y.2]⟩ rfl ?_
    (repeat (first | exact Imp.refl | exact Imp.nil | (apply Imp.pick; (focus ((repeat constructor); done))) | refine Imp.drop ?_))
  rename_i x
  obtain ⟨⟨w, r⟩, hx⟩ := x
  (try dsimp only)
  (refine' e_call (months) ?hp fun _ => ?_; (case hp => (repeat (first | exact Picks.nil | (apply Picks.cons; (focus (repeat constructor)))))); (try simp only [List.cons_append, List.nil_append, Bool.not_true, Bool.not_false]))
  refine e_loop2 (fun m y2 y9 => (ex fun i : Nat => pu (m + i = 12 ∧ y2 = .int .i64 0 ∧ y9 = .int .i64 (i : Int) ∧ mF w i m = monV w)) :: IsRd p r :: F) 12 ?_ ?_
  · refine .ex 0 (.pu ⟨by omega, rfl, rfl, rfl⟩ ?_)
    (repeat (first | exact Imp.refl | exact Imp.nil | (apply Imp.pick; (focus ((repeat constructor); done))) | refine Imp.drop ?_))
  intro m ds y2 y9
  (try simp only [List.cons_append, List.nil_append, -eq_self])
  refine e_ex Pick.here fun i => e_pu Pick.here fun hi => ?_
  obtain ⟨hmi, rfl, rfl, hmon⟩ := hi
  (refine e_ask v_lss Imp.nil (fun h => ?_) (fun h => ?_))
  · refine e_condT ?_
    obtain ⟨m', rfl⟩ : ∃ m', m = m' + 1 := ⟨m - 1, by omega⟩
    refine e_opN (v_ixA (v := txt (moL.getD i [])) i (by rfl) (by omega) (name_get (l := moL) (by show _ < 12; omega))) Imp.nil ?_
    unfold mF at hmon
    refine e_ask v_streq Imp.nil (fun hq => ?_) (fun hq => ?_)
    · rw [if_pos hq] at hmon
      ((with_reducible refine e_condT ?_)); (((with_reducible refine e_opN (v_add ?h1 ?h2) Imp.nil ?_); (case h1 => omega); (case h2 => omega)))
      (first | refine e_ret (⟨((i : Int) + 1, r), by unfold monR; rw [hx]; simp only; rw [← hmon]⟩) rfl ?_ | refine e_retT (⟨((i : Int) + 1, r), by unfold monR; rw [hx]; simp only; rw [← hmon]⟩) ?_)
      (repeat (first | exact Imp.refl | exact Imp.nil | (apply Imp.pick; (focus ((repeat constructor); done))) | refine Imp.drop ?_))
    · rw [if_neg hq] at hmon
      ((with_reducible refine e_condF ?_)); (((with_reducible refine e_opN (v_add ?h1 ?h2) Imp.nil ?_); (case h1 => omega); (case h2 => omega)))
      refine e_next2 m' (by omega) (.ex (i + 1) (.pu ⟨by omega, rfl, rfl, hmon⟩ ?_))
      (repeat (first | exact Imp.refl | exact Imp.nil | (apply Imp.pick; (focus ((repeat constructor); done))) | refine Imp.drop ?_))
  · refine e_condF ?_
    have hm0 : m = 0 := by omega
    subst hm0
    refine e_opN v_mkI Imp.nil ?_
    refine e_panic ?_
    refine e_pan ⟨(), ?_⟩ rfl ?_
    · unfold monR; rw [hx]; simp only; rw [← hmon]; rfl
    · (repeat (first | exact Imp.refl | exact Imp.nil | (apply Imp.pick; (focus ((repeat constructor); done))) | refine Imp.drop ?_))
end Go.Proofs.Ytcmpkkkigmheoaa.D
