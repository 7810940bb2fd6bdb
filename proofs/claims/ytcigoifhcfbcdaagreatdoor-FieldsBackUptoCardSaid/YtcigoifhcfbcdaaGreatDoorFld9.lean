/- Choices, spans; tags compared; what must come. The library's own error can be read ('Gl'); a text of at most 2097152 bytes. -/
import Derived.Test.YtcigoifhcfbcdaaGreatDoorFld7
set_option linter.unusedVariables false
set_option linter.unusedSimpArgs false
namespace Go.Proofs.YtcigoifhcfbcdaaGreatDoor.FD
open Go Go.Proofs Go.RowKit Go.Proofs.YtcigoifhcfbcdaaGreatDoor.Sh Go.Proofs.YtcigoifhcfbcdaaGreatDoor.Sl Go.Proofs.YtcigoifhcfbcdaaGreatDoor.T
theorem choices {W : World} [hG : Gl W] {l : List UInt8} (hl : l.length ≤ 2097152) : Cn Tryz.prog 26 [txt l] W [] (fun r : Option Addr × Nat => .tuple #[.slice r.1 (lsF (choicesF l)).1.length r.2, .int .i64 (lsF (choicesF l)).2])
    (fun r => [Sl 2 69 r.1 r.2 (lsF (choicesF l)).1.length ((lsF (choicesF l)).1.flatMap pChoice)]) := by
  (refine S.fields_Choices_cn fun F => ?_; unfold S.fields_Choices; simp only [List.cons_append, List.nil_append])
  refine e_opN v_rv Imp.nil ?_
  refine e_call (list_Choice hl fun w hw => choice (by omega)) .nil fun r => ?_
  (try simp only [List.cons_append, List.nil_append, -eq_self])
  refine e_opN (v_extN (vs := [_, _]) .here) Imp.nil ?_
  refine e_opN (v_extN (vs := [_, _]) (.there .here)) Imp.nil ?_
  (first | refine e_ret (r) rfl ?_ | refine e_retT (r) ?_)
  exact .refl
theorem spans {W : World} [hG : Gl W] {l : List UInt8} (hl : l.length ≤ 2097152) : Cn Tryz.prog 27 [txt l] W [] (fun r : Option Addr × Nat => .tuple #[.slice r.1 (spansF l).1.length r.2, .int .i64 (spansF l).2])
    (fun r => [Sl 2 71 r.1 r.2 (spansF l).1.length ((spansF l).1.flatMap pSpan)]) := by
  have bad : (l.length < 6 ∨ lowF (l.take 6) ≠ [98, 121, 116, 101, 115, 61]) → spansF l = ([], 42) := fun h => by
    unfold spansF spanLF; rw [if_pos h]
  have fin : spansF l = ([], 42) → ∀ F : List HP, Ent W F (fun w => ∃ r : Option Addr × Nat, (.tuple #[.slice none 0 0, .int .i64 42] : Value) = .tuple #[.slice r.1 (spansF l).1.length r.2, .int .i64 (spansF l).2] ∧ sat W ([Sl 2 71 r.1 r.2 (spansF l).1.length ((spansF l).1.flatMap pSpan)] ++ F) w) := by
    intro h F
    rw [h]
    refine e_ret (none, 0) rfl ?_
    exact imp_nil .refl
  (refine S.fields_Spans_cn fun F => ?_; unfold S.fields_Spans; simp only [List.cons_append, List.nil_append])
  refine e_opN v_lent Imp.nil ?_
  refine e_ask v_lss Imp.nil (fun h => ?_) (fun h => ?_)
  · ((with_reducible refine e_gdF1 ?_)); ((with_reducible refine e_gdF1 ?_)); ((with_reducible refine e_gdF1 ?_)); ((with_reducible refine e_gdF1 ?_)); (((with_reducible refine e_opN v_pickT Imp.nil ?_))); ((with_reducible refine e_condT ?_))
    exact fin (bad (.inl (by omega))) _
  · have h6 : 6 ≤ l.length := by omega
    ((with_reducible refine e_gdT ?_)); ((with_reducible refine e_gdT ?_))
    refine e_opN (v_ssh 6 rfl h6) Imp.nil ?_
    ((with_reducible refine e_gdT ?_))
    refine e_call (equal (a := l.take 6) (b := [98, 121, 116, 101, 115, 61]) (by simp; omega) (by simp)) .nil fun _ => ?_
    (try simp only [List.cons_append, List.nil_append, -eq_self])
    have eq6 : eqlF (l.take 6) [98, 121, 116, 101, 115, 61] = decide (lowF (l.take 6) = [98, 121, 116, 101, 115, 61]) := by
      unfold eqlF
      rw [decide_eq_true (by simp; omega), Bool.true_and]
      rfl
    rw [eq6]
    refine e_gdT ?_
    refine e_opN v_not Imp.nil ?_
    refine e_opN v_pickF Imp.nil ?_
    by_cases hq : lowF (l.take 6) = [98, 121, 116, 101, 115, 61]
    · rw [decide_eq_true hq, show (!true) = false from rfl]
      refine e_condF ?_
      have hs : spanLF l = listF spanF (elemsF false false (l.drop 6)) := by
        unfold spanLF; rw [if_neg (by rintro (h3 | h3); omega; exact h3 hq)]
      refine e_opN (v_ssl 6 rfl h6) Imp.nil ?_
      refine e_opN v_rv Imp.nil ?_
      refine e_call (list_Span (l := l.drop 6) (q := false) (e := false) (one := spanF) (by rw [List.length_drop]; omega) fun w hw => span (by rw [List.length_drop] at hw; omega)) .nil fun r => ?_
      rw [← hs]
      (try simp only [List.cons_append, List.nil_append, -eq_self])
      refine e_opN (v_extN (vs := [_, _]) .here) Imp.nil ?_
      refine e_opN (v_extN (vs := [_, _]) (.there .here)) Imp.nil ?_
      cases hx : spanLF l with
      | none =>
        have he : spansF l = ([], 42) := by unfold spansF; rw [hx]
        simp only [lsF]
        refine e_cut1 (fun z => (pu (z = .bool true)) :: F) ?_ ?_
        · intro ds z
          refine e_pu .here fun hz => ?_
          subst hz
          refine e_condT ?_
          exact fin he _
        · refine e_opN v_neq Imp.nil ?_
          rw [decide_eq_true (by decide)]
          refine e_condT ?_
          refine e_sat (.pu rfl ?_)
          (repeat (first | exact Imp.refl | exact Imp.nil | (apply Imp.pick; (focus ((repeat constructor); done))) | refine Imp.drop ?_))
      | some xs =>
        simp only [lsF]
        have he : spansF l = if xs = [] then ([], 42) else if 16 < xs.length then ([], 6) else (xs, 0) := by unfold spansF; rw [hx]
        refine e_cut1 (fun z => (pu (z = .bool (decide (xs = [])))) :: Sl 2 71 r.1 r.2 xs.length (xs.flatMap pSpan) :: F) ?_ ?_
        · intro ds z
          refine e_pu .here fun hz => ?_
          subst hz
          by_cases h0 : xs = []
          · rw [decide_eq_true h0]
            refine e_condT ?_
            refine e_imp (M := F) (by (repeat (first | exact Imp.refl | exact Imp.nil | (apply Imp.pick; (focus ((repeat constructor); done))) | refine Imp.drop ?_))) ?_
            exact fin (by rw [he, if_pos h0]) _
          · rw [decide_eq_false h0]
            refine e_condF ?_
            (((with_reducible refine e_opN v_len Imp.nil ?_)))
            refine e_ask v_gtr Imp.nil (fun h => ?_) (fun h => ?_)
            · refine e_condT ?_
              rw [he, if_neg h0, if_pos (by omega)]
              refine e_ret (none, 0) rfl ?_
              refine imp_nil ?_
              (repeat (first | exact Imp.refl | exact Imp.nil | (apply Imp.pick; (focus ((repeat constructor); done))) | refine Imp.drop ?_))
            · refine e_condF ?_
              rw [he, if_neg h0, if_neg (by omega)]
              (first | refine e_ret (r) rfl ?_ | refine e_retT (r) ?_)
              exact .refl
        · refine e_opN v_neq Imp.nil ?_
          rw [decide_eq_false (by decide)]
          refine e_condF ?_
          (((with_reducible refine e_opN v_len Imp.nil ?_)))
          refine e_opN v_eql Imp.nil ?_
          have : decide ((xs.length : Int) = 0) = decide (xs = []) := by
            rw [decide_eq_decide]
            cases xs <;> simp
            omega
          rw [this]
          refine e_sat (.pu rfl ?_)
          exact .refl
    · rw [decide_eq_false hq, show (!false) = true from rfl]
      refine e_condT ?_
      exact fin (bad (.inr hq)) _
theorem num {W : World} {n : Int} : Cn Tryz.prog 8 [.int .i64 n] W [] (fun _ : Unit => .int .i64 n) (fun _ => []) := by
  (refine S.law10_num_cn fun F => ?_; unfold S.law10_num; simp only [List.cons_append, List.nil_append])
  (first | refine e_ret (()) rfl ?_ | refine e_retT (()) ?_)
  (repeat (first | exact Imp.refl | exact Imp.nil | (apply Imp.pick; (focus ((repeat constructor); done))) | refine Imp.drop ?_))
def kC : List UInt8 := [103, 122, 105, 112, 59, 113, 61, 48, 46, 53, 44, 32, 98, 114]
def kS : List UInt8 := [98, 121, 116, 101, 115, 61, 48, 45, 52, 44, 32, 45, 51]
theorem kC_v : lsF (choicesF kC) = ([([103, 122, 105, 112], 500), ([98, 114], 1000)], 0) := by kernel_rfl
theorem kS_v : spansF kS = ([(0, 4), (-1, 3)], 0) := by kernel_rfl
theorem knows {W : World} [hG : Gl W] : Cn Tryz.prog 13 [] W [] (fun _ : Unit => .bool true) (fun _ => []) := by
  (refine S.law10_knows_cn fun F => ?_; unfold S.law10_knows; simp only [List.cons_append, List.nil_append])
  refine e_call (choices (l := kC) (by decide)) .nil fun r => ?_
  (try simp only [List.cons_append, List.nil_append, -eq_self])
  rw [kC_v]
  refine e_opN (v_extN (vs := [_, _]) .here) Imp.nil ?_
  refine e_opN (v_extN (vs := [_, _]) (.there .here)) Imp.nil ?_
  refine e_call (spans (l := kS) (by decide)) .nil fun s => ?_
  (try simp only [List.cons_append, List.nil_append, -eq_self])
  rw [kS_v]
  refine e_opN (v_extN (vs := [_, _]) .here) Imp.nil ?_
  refine e_opN (v_extN (vs := [_, _]) (.there .here)) Imp.nil ?_
  obtain ⟨a, c⟩ := r
  obtain ⟨b, d⟩ := s
  refine e_slsome (a := b) .here (by decide) fun gb hb => ?_
  subst hb
  refine e_slsome (a := a) (.there .here) (by decide) fun ga ha => ?_
  subst ha
  (refine' e_call (num) ?hp fun _ => ?_; (case hp => (repeat (first | exact Picks.nil | (apply Picks.cons; (focus (repeat constructor)))))); (try simp only [List.cons_append, List.nil_append, Bool.not_true, Bool.not_false]))
  (refine' e_call (num) ?hp fun _ => ?_; (case hp => (repeat (first | exact Picks.nil | (apply Picks.cons; (focus (repeat constructor)))))); (try simp only [List.cons_append, List.nil_append, Bool.not_true, Bool.not_false]))
  refine e_opN (v_add (by decide) (by decide)) Imp.nil ?_
  refine e_opN v_eql Imp.nil ?_
  rw [decide_eq_true (by decide)]
  refine e_gdT ?_
  refine e_gdT ?_
  refine e_opN v_len Imp.nil ?_
  refine e_gdT ?_
  refine e_opN v_eql Imp.nil ?_
  rw [decide_eq_true (by decide)]
  refine e_opN v_pickT Imp.nil ?_
  refine e_gdT ?_
  refine e_gdT ?_
  refine e_opN (v_ia 0 rfl (by decide)) Imp.nil ?_
  refine e_gdT ?_
  refine e_opN v_fa Imp.nil ?_
  refine e_gdT ?_
  refine e_opN (v_ldSl (v := .int .i64 500) rfl) (.pick (by (repeat constructor)) .nil) ?_
  refine e_gdT ?_
  refine e_opN v_eql Imp.nil ?_
  rw [decide_eq_true (by decide)]
  refine e_opN v_pickT Imp.nil ?_
  refine e_gdT ?_
  refine e_gdT ?_
  refine e_opN (v_ia 1 rfl (by decide)) Imp.nil ?_
  refine e_gdT ?_
  refine e_opN v_fa Imp.nil ?_
  refine e_gdT ?_
  refine e_opN (v_ldSl (v := txt [98, 114]) rfl) (.pick (by (repeat constructor)) .nil) ?_
  refine e_gdT ?_
  refine e_opN (v_streq (m := [98, 114])) Imp.nil ?_
  rw [decide_eq_true rfl]
  refine e_opN v_pickT Imp.nil ?_
  refine e_gdT ?_
  refine e_gdT ?_
  refine e_opN v_len Imp.nil ?_
  refine e_gdT ?_
  refine e_opN v_eql Imp.nil ?_
  rw [decide_eq_true (by decide)]
  refine e_opN v_pickT Imp.nil ?_
  refine e_gdT ?_
  refine e_gdT ?_
  refine e_opN (v_ia 1 rfl (by decide)) Imp.nil ?_
  refine e_gdT ?_
  refine e_opN v_fa Imp.nil ?_
  refine e_gdT ?_
  refine e_opN (v_ldSl (v := .int .i64 (-1)) rfl) (.pick (by (repeat constructor)) .nil) ?_
  refine e_gdT ?_
  refine e_opN v_eql Imp.nil ?_
  rw [decide_eq_true (by decide)]
  refine e_opN v_pickT Imp.nil ?_
  refine e_gdT ?_
  refine e_gdT ?_
  refine e_opN (v_ia 1 rfl (by decide)) Imp.nil ?_
  refine e_gdT ?_
  refine e_opN v_fa Imp.nil ?_
  refine e_gdT ?_
  refine e_opN (v_ldSl (v := .int .i64 3) rfl) (.pick (by (repeat constructor)) .nil) ?_
  refine e_gdT ?_
  refine e_opN v_eql Imp.nil ?_
  rw [decide_eq_true (by decide)]
  refine e_opN v_pickT Imp.nil ?_
  (first | refine e_ret (()) rfl ?_ | refine e_retT (()) ?_)
  (repeat (first | exact Imp.refl | exact Imp.nil | (apply Imp.pick; (focus ((repeat constructor); done))) | refine Imp.drop ?_))
def strF (x y : Bool × List UInt8) : Bool := decide (x.1 = y.1 ∧ x.2 = y.2) && !x.1
end Go.Proofs.YtcigoifhcfbcdaaGreatDoor.FD
