/- The elements of a list, one by one, for each kind of list. Printed by a program of mine (d20.py). A text must not be longer than a half of what an int may count. -/
import Derived.Test.YtcigoifhcfbcdaaGreatDoorFldE
set_option linter.unusedVariables false
set_option linter.unusedSimpArgs false
namespace Go.Proofs.YtcigoifhcfbcdaaGreatDoor.FD
open Go Go.Proofs Go.RowKit Go.Proofs.YtcigoifhcfbcdaaGreatDoor.Sh Go.Proofs.YtcigoifhcfbcdaaGreatDoor.Sl Go.Proofs.YtcigoifhcfbcdaaGreatDoor.T
theorem els_Span {W : World} {l : List UInt8} {q e : Bool} {fv : Value} : Cn Tryz.prog 61 [.agg #[.bool q, .bool e, fv], txt l] W [] (fun c : Nat × Nat => .func (.func 75) #[] [.pointer (some ⟨c.1, 0, none⟩), .pointer (some ⟨c.2, 0, none⟩)].toArray) (fun c => [pt c.1 (.cells #[txt l] 9 (0, 0)), pt c.2 (.cells #[.bool q, .bool e, fv] 111 (0, 0))]) := by
  (refine S.fields_kind_fields_Span_elements_cn fun F => ?_; unfold S.fields_kind_fields_Span_elements; simp only [List.cons_append, List.nil_append])
  refine e_boxA fun gk => ?_
  refine e_box1 fun gs => ?_
  refine e_opN v_mkF Imp.nil ?_
  (first | refine e_ret ((gs, gk)) rfl ?_ | refine e_retT ((gs, gk)) ?_)
  exact .refl
theorem els1_Span {W : World} {l : List UInt8} {q e : Bool} {fv : Value} {gs gk lp : Nat} {G : Nat → HP} {Gx T T' : HP} (hl : l.length ≤ 4611686018427387904)
    (hy : YieldC Tryz.prog lp (ewv q e l) (fun k => all [T, all [pt gs (.cells #[txt l] 9 (0, 0)), pt gk (.cells #[.bool q, .bool e, fv] 111 (0, 0)), G k]]) (all [T', Gx]) W) :
    Cn Tryz.prog 75 [yv lp, .pointer (some ⟨gs, 0, none⟩), .pointer (some ⟨gk, 0, none⟩)] W [all [T, all [pt gs (.cells #[txt l] 9 (0, 0)), pt gk (.cells #[.bool q, .bool e, fv] 111 (0, 0)), G 0]]] (fun _ : Bool => .tuple #[]) (fun b => [if b then all [T, all [pt gs (.cells #[txt l] 9 (0, 0)), pt gk (.cells #[.bool q, .bool e, fv] 111 (0, 0)), G (elemsF q e l).length]] else all [T', Gx]]) := by
  (refine S.fields_kind_fields_Span_elements_1_cn fun F => ?_; unfold S.fields_kind_fields_Span_elements_1; simp only [List.cons_append, List.nil_append])
  refine e_all .here ?_
  (try simp only [List.cons_append, List.nil_append, -eq_self])
  refine e_all (.there .here) ?_
  (try simp only [List.cons_append, List.nil_append, -eq_self])
  refine e_loop3 (fun m x y z => [ex fun st : Bool × Nat × Nat × Nat => all [pu (m + st.2.2.1 = l.length + 1 ∧ x = .bool st.1 ∧ y = .int .i64 (st.2.1 : Int) ∧ z = .int .i64 (st.2.2.1 : Int) ∧ st.2.1 ≤ st.2.2.1 ∧ st.2.1 ≤ l.length ∧ (elemsF q e l).drop st.2.2.2 = tidy (stE l q e st.1 st.2.1 st.2.2.1) ∧ st.2.2.2 ≤ (elemsF q e l).length),
      T, pt gs (.cells #[txt l] 9 (0, 0)), pt gk (.cells #[.bool q, .bool e, fv] 111 (0, 0)), G st.2.2.2]] ++ F) (l.length + 1) ?_ ?_
  · refine Imp.ex (false, 0, 0, 0) (.all ?_)
    (try simp only [List.cons_append, List.nil_append, -eq_self])
    refine .pu ⟨by simp, rfl, rfl, rfl, Nat.le_refl _, Nat.zero_le _, rfl, Nat.zero_le _⟩ ?_
    (repeat (first | exact Imp.refl | exact Imp.nil | (apply Imp.pick; (focus ((repeat constructor); done))) | refine Imp.drop ?_))
  intro m ds x y z
  (try simp only [List.cons_append, List.nil_append, -eq_self])
  refine e_ex Pick.here fun st => e_all Pick.here ?_
  obtain ⟨inn, a, i, k⟩ := st
  (try simp only [List.cons_append, List.nil_append, -eq_self])
  refine e_pu Pick.here fun hi => ?_
  (try dsimp only at hi)
  obtain ⟨hmi, rfl, rfl, rfl, hai, hal, hdr, hkl⟩ := hi
  refine e_opN (v_ldN .here) (.pick (by (repeat constructor)) .nil) ?_
  refine e_opN v_lent Imp.nil ?_
  (refine e_ask v_lss Imp.nil (fun h => ?_) (fun h => ?_))
  · have hil : i < l.length := by omega
    refine e_condT ?_
    refine e_opN (v_ldN .here) (.pick (by (repeat constructor)) .nil) ?_
    refine e_opN (v_ixS i rfl hil) Imp.nil ?_
    refine e_opN (B_eq 92 rfl) Imp.nil ?_
    refine e_and0 ?_
    refine e_and2 v_fa0 (v_ldN (.there .here)) (.pick (by (repeat constructor)) .nil) ?_
    refine e_cond (φ := l[i] = 92 ∧ inn = true ∧ e = true) (by cases inn <;> cases e <;> simp) (fun h1 => ?_) (fun h1 => ?_)
    · refine e_opN (v_add (by omega) (by omega)) Imp.nil ?_
      refine e_opN (v_add (by omega) (by omega)) Imp.nil ?_
      rw [stE_esc hil hai h1.1 h1.2.1 h1.2.2] at hdr
      refine e_next3 (m - 2) (by omega) (.ex (inn, a, i + 2, k) (.all ?_))
      (try simp only [List.cons_append, List.nil_append, -eq_self])
      refine .pu ⟨by (try dsimp only); omega, rfl, rfl, by (try dsimp only); rw [Int.add_assoc]; rfl, by (try dsimp only); omega, hal, hdr, hkl⟩ ?_
      (repeat (first | exact Imp.refl | exact Imp.nil | (apply Imp.pick; (focus ((repeat constructor); done))) | refine Imp.drop ?_))
    · refine e_opN (B_eq 34 rfl) Imp.nil ?_
      refine e_and2 v_fa0 (v_ldN .here) (.pick (by (repeat constructor)) .nil) ?_
      refine e_cond (φ := l[i] = 34 ∧ q = true) (by cases q <;> simp) (fun h2 => ?_) (fun h2 => ?_)
      · refine e_opN v_not Imp.nil ?_
        refine e_opN (v_add (by omega) (by omega)) Imp.nil ?_
        rw [stE_q hil hai h1 h2.1 h2.2] at hdr
        refine e_next3 (m - 1) (by omega) (.ex (!inn, a, i + 1, k) (.all ?_))
        (try simp only [List.cons_append, List.nil_append, -eq_self])
        refine .pu ⟨by (try dsimp only); omega, rfl, rfl, rfl, by (try dsimp only); omega, hal, hdr, hkl⟩ ?_
        (repeat (first | exact Imp.refl | exact Imp.nil | (apply Imp.pick; (focus ((repeat constructor); done))) | refine Imp.drop ?_))
      · refine e_opN (B_eq 44 rfl) Imp.nil ?_
        refine e_and (fun _ => v_not) ?_
        refine e_cond (φ := l[i] = 44 ∧ inn = false) (by cases inn <;> simp) (fun h3 => ?_) (fun h3 => ?_)
        · refine e_opN (v_ldN .here) (.pick (by (repeat constructor)) .nil) ?_
          refine e_opN (v_sslh a i rfl rfl hai (by omega)) Imp.nil ?_
          refine e_call (trim (by simp [sub]; omega)) .nil fun _ => ?_
          (try simp only [List.cons_append, List.nil_append, -eq_self])
          have e0 : (Value.string ⟨#[]⟩) = txt [] := rfl
          rw [stE_c hil hai h3.1 h3.2, tidy_cons] at hdr
          rw [e0]
          refine e_opN v_strne Imp.nil ?_
          by_cases h4 : trimB (sub l a i) = []
          · rw [if_pos h4] at hdr
            rw [decide_eq_false (fun c => c h4)]
            ((with_reducible refine e_gdF2 ?_)); ((with_reducible refine e_gdF2 ?_)); ((with_reducible refine e_gdF2 ?_)); ((with_reducible refine e_gdF2 ?_)); (((with_reducible refine e_opN v_pickF Imp.nil ?_))); ((with_reducible refine e_condF ?_)); (((with_reducible refine e_opN (v_add ?h1 ?h2) Imp.nil ?_); (case h1 => omega); (case h2 => omega))); (((with_reducible refine e_opN (v_add ?h1 ?h2) Imp.nil ?_); (case h1 => omega); (case h2 => omega)))
            refine e_next3 (m - 1) (by omega) (.ex (inn, i + 1, i + 1, k) (.all ?_))
            (try simp only [List.cons_append, List.nil_append, -eq_self])
            refine .pu ⟨by (try dsimp only); omega, rfl, rfl, rfl, Nat.le_refl _, by (try dsimp only); omega, by rw [h3.2]; exact hdr, hkl⟩ ?_
            (repeat (first | exact Imp.refl | exact Imp.nil | (apply Imp.pick; (focus ((repeat constructor); done))) | refine Imp.drop ?_))
          · rw [if_neg h4] at hdr
            obtain ⟨hg, hd2, hk2⟩ := at_drop hdr
            rw [decide_eq_true h4]
            refine e_gdT ?_
            refine e_gdT ?_
            refine e_gdT ?_
            refine e_imp (M := all [T, all [pt gs (.cells #[txt l] 9 (0, 0)), pt gk (.cells #[.bool q, .bool e, fv] 111 (0, 0)), G k]] :: F) ?_ ?_
            · refine .all ?_
              (try simp only [List.cons_append, List.nil_append, -eq_self])
              refine .pick (by (repeat constructor)) (.all ?_)
              (try simp only [List.cons_append, List.nil_append, -eq_self])
              (repeat (first | exact Imp.refl | exact Imp.nil | (apply Imp.pick; (focus ((repeat constructor); done))) | refine Imp.drop ?_))
            refine e_yield hy k (ewv_at hg) .here ?_ ?_
            · ((with_reducible refine e_gdT ?_)); (((with_reducible refine e_opN v_notT Imp.nil ?_))); (((with_reducible refine e_opN v_pickT Imp.nil ?_))); ((with_reducible refine e_condF ?_)); (((with_reducible refine e_opN (v_add ?h1 ?h2) Imp.nil ?_); (case h1 => omega); (case h2 => omega))); (((with_reducible refine e_opN (v_add ?h1 ?h2) Imp.nil ?_); (case h1 => omega); (case h2 => omega)))
              refine e_all .here ?_
              (try simp only [List.cons_append, List.nil_append, -eq_self])
              refine e_all (.there .here) ?_
              (try simp only [List.cons_append, List.nil_append, -eq_self])
              refine e_next3 (m - 1) (by omega) (.ex (inn, i + 1, i + 1, k + 1) (.all ?_))
              (try simp only [List.cons_append, List.nil_append, -eq_self])
              refine .pu ⟨by (try dsimp only); omega, rfl, rfl, rfl, Nat.le_refl _, by (try dsimp only); omega, by rw [h3.2]; exact hd2, by (try dsimp only); omega⟩ ?_
              (repeat (first | exact Imp.refl | exact Imp.nil | (apply Imp.pick; (focus ((repeat constructor); done))) | refine Imp.drop ?_))
            · ((with_reducible refine e_gdT ?_)); (((with_reducible refine e_opN v_notF Imp.nil ?_))); (((with_reducible refine e_opN v_pickT Imp.nil ?_))); ((with_reducible refine e_condT ?_))
              (first | refine e_ret (false) rfl ?_ | refine e_retT (false) ?_)
              exact .refl
        · refine e_opN (v_add (by omega) (by omega)) Imp.nil ?_
          rw [stE_o hil hai h1 h2 h3] at hdr
          refine e_next3 (m - 1) (by omega) (.ex (inn, a, i + 1, k) (.all ?_))
          (try simp only [List.cons_append, List.nil_append, -eq_self])
          refine .pu ⟨by (try dsimp only); omega, rfl, rfl, rfl, by (try dsimp only); omega, hal, hdr, hkl⟩ ?_
          (repeat (first | exact Imp.refl | exact Imp.nil | (apply Imp.pick; (focus ((repeat constructor); done))) | refine Imp.drop ?_))
  · refine e_condF ?_
    refine e_opN (v_ldN .here) (.pick (by (repeat constructor)) .nil) ?_
    refine e_opN (v_ssl a rfl hal) Imp.nil ?_
    refine e_call (trim (by simp; omega)) .nil fun _ => ?_
    (try simp only [List.cons_append, List.nil_append, -eq_self])
    have e0 : (Value.string ⟨#[]⟩) = txt [] := rfl
    rw [e0]
    rw [stE_end (by omega), tidy_cons, tidy_nil] at hdr
    refine e_opN v_strne Imp.nil ?_
    by_cases h4 : trimB (l.drop a) = []
    · rw [if_pos h4] at hdr
      rw [decide_eq_false (fun c => c h4)]
      have hkn : k = (elemsF q e l).length := by
        have := congrArg List.length hdr
        rw [List.length_drop, List.length_nil] at this; omega
      subst hkn
      refine e_condF ?_
      (first | refine e_ret (true) rfl ?_ | refine e_retT (true) ?_)
      refine .all ?_
      (try simp only [List.cons_append, List.nil_append, -eq_self])
      refine .pick (by (repeat constructor)) (.all ?_)
      (try simp only [List.cons_append, List.nil_append, -eq_self])
      (repeat (first | exact Imp.refl | exact Imp.nil | (apply Imp.pick; (focus ((repeat constructor); done))) | refine Imp.drop ?_))
    · rw [if_neg h4] at hdr
      obtain ⟨hg, hd2, hk2⟩ := at_drop hdr
      rw [decide_eq_true h4]
      refine e_condT ?_
      refine e_imp (M := all [T, all [pt gs (.cells #[txt l] 9 (0, 0)), pt gk (.cells #[.bool q, .bool e, fv] 111 (0, 0)), G k]] :: F) ?_ ?_
      · refine .all ?_
        (try simp only [List.cons_append, List.nil_append, -eq_self])
        refine .pick (by (repeat constructor)) (.all ?_)
        (try simp only [List.cons_append, List.nil_append, -eq_self])
        (repeat (first | exact Imp.refl | exact Imp.nil | (apply Imp.pick; (focus ((repeat constructor); done))) | refine Imp.drop ?_))
      have hkn : k + 1 = (elemsF q e l).length := by
        have := congrArg List.length hd2
        rw [List.length_drop, List.length_nil] at this; omega
      refine e_yield hy k (ewv_at hg) .here ?_ ?_
      · rw [hkn]
        (first | refine e_ret (true) rfl ?_ | refine e_retT (true) ?_)
        exact .refl
      · (first | refine e_ret (false) rfl ?_ | refine e_retT (false) ?_)
        exact .refl
theorem els_Choice {W : World} {l : List UInt8} {q e : Bool} {fv : Value} : Cn Tryz.prog 59 [.agg #[.bool q, .bool e, fv], txt l] W [] (fun c : Nat × Nat => .func (.func 74) #[] [.pointer (some ⟨c.1, 0, none⟩), .pointer (some ⟨c.2, 0, none⟩)].toArray) (fun c => [pt c.1 (.cells #[txt l] 9 (0, 0)), pt c.2 (.cells #[.bool q, .bool e, fv] 107 (0, 0))]) := by
  (refine S.fields_kind_fields_Choice_elements_cn fun F => ?_; unfold S.fields_kind_fields_Choice_elements; simp only [List.cons_append, List.nil_append])
  refine e_boxA fun gk => ?_
  refine e_box1 fun gs => ?_
  refine e_opN v_mkF Imp.nil ?_
  (first | refine e_ret ((gs, gk)) rfl ?_ | refine e_retT ((gs, gk)) ?_)
  exact .refl
theorem els1_Choice {W : World} {l : List UInt8} {q e : Bool} {fv : Value} {gs gk lp : Nat} {G : Nat → HP} {Gx T T' : HP} (hl : l.length ≤ 4611686018427387904)
    (hy : YieldC Tryz.prog lp (ewv q e l) (fun k => all [T, all [pt gs (.cells #[txt l] 9 (0, 0)), pt gk (.cells #[.bool q, .bool e, fv] 107 (0, 0)), G k]]) (all [T', Gx]) W) :
    Cn Tryz.prog 74 [yv lp, .pointer (some ⟨gs, 0, none⟩), .pointer (some ⟨gk, 0, none⟩)] W [all [T, all [pt gs (.cells #[txt l] 9 (0, 0)), pt gk (.cells #[.bool q, .bool e, fv] 107 (0, 0)), G 0]]] (fun _ : Bool => .tuple #[]) (fun b => [if b then all [T, all [pt gs (.cells #[txt l] 9 (0, 0)), pt gk (.cells #[.bool q, .bool e, fv] 107 (0, 0)), G (elemsF q e l).length]] else all [T', Gx]]) := by
  (refine S.fields_kind_fields_Choice_elements_1_cn fun F => ?_; unfold S.fields_kind_fields_Choice_elements_1; simp only [List.cons_append, List.nil_append])
  refine e_all .here ?_
  (try simp only [List.cons_append, List.nil_append, -eq_self])
  refine e_all (.there .here) ?_
  (try simp only [List.cons_append, List.nil_append, -eq_self])
  refine e_loop3 (fun m x y z => [ex fun st : Bool × Nat × Nat × Nat => all [pu (m + st.2.2.1 = l.length + 1 ∧ x = .bool st.1 ∧ y = .int .i64 (st.2.1 : Int) ∧ z = .int .i64 (st.2.2.1 : Int) ∧ st.2.1 ≤ st.2.2.1 ∧ st.2.1 ≤ l.length ∧ (elemsF q e l).drop st.2.2.2 = tidy (stE l q e st.1 st.2.1 st.2.2.1) ∧ st.2.2.2 ≤ (elemsF q e l).length),
      T, pt gs (.cells #[txt l] 9 (0, 0)), pt gk (.cells #[.bool q, .bool e, fv] 107 (0, 0)), G st.2.2.2]] ++ F) (l.length + 1) ?_ ?_
  · refine Imp.ex (false, 0, 0, 0) (.all ?_)
    (try simp only [List.cons_append, List.nil_append, -eq_self])
    refine .pu ⟨by simp, rfl, rfl, rfl, Nat.le_refl _, Nat.zero_le _, rfl, Nat.zero_le _⟩ ?_
    (repeat (first | exact Imp.refl | exact Imp.nil | (apply Imp.pick; (focus ((repeat constructor); done))) | refine Imp.drop ?_))
  intro m ds x y z
  (try simp only [List.cons_append, List.nil_append, -eq_self])
  refine e_ex Pick.here fun st => e_all Pick.here ?_
  obtain ⟨inn, a, i, k⟩ := st
  (try simp only [List.cons_append, List.nil_append, -eq_self])
  refine e_pu Pick.here fun hi => ?_
  (try dsimp only at hi)
  obtain ⟨hmi, rfl, rfl, rfl, hai, hal, hdr, hkl⟩ := hi
  refine e_opN (v_ldN .here) (.pick (by (repeat constructor)) .nil) ?_
  refine e_opN v_lent Imp.nil ?_
  (refine e_ask v_lss Imp.nil (fun h => ?_) (fun h => ?_))
  · have hil : i < l.length := by omega
    refine e_condT ?_
    refine e_opN (v_ldN .here) (.pick (by (repeat constructor)) .nil) ?_
    refine e_opN (v_ixS i rfl hil) Imp.nil ?_
    refine e_opN (B_eq 92 rfl) Imp.nil ?_
    refine e_and0 ?_
    refine e_and2 v_fa0 (v_ldN (.there .here)) (.pick (by (repeat constructor)) .nil) ?_
    refine e_cond (φ := l[i] = 92 ∧ inn = true ∧ e = true) (by cases inn <;> cases e <;> simp) (fun h1 => ?_) (fun h1 => ?_)
    · refine e_opN (v_add (by omega) (by omega)) Imp.nil ?_
      refine e_opN (v_add (by omega) (by omega)) Imp.nil ?_
      rw [stE_esc hil hai h1.1 h1.2.1 h1.2.2] at hdr
      refine e_next3 (m - 2) (by omega) (.ex (inn, a, i + 2, k) (.all ?_))
      (try simp only [List.cons_append, List.nil_append, -eq_self])
      refine .pu ⟨by (try dsimp only); omega, rfl, rfl, by (try dsimp only); rw [Int.add_assoc]; rfl, by (try dsimp only); omega, hal, hdr, hkl⟩ ?_
      (repeat (first | exact Imp.refl | exact Imp.nil | (apply Imp.pick; (focus ((repeat constructor); done))) | refine Imp.drop ?_))
    · refine e_opN (B_eq 34 rfl) Imp.nil ?_
      refine e_and2 v_fa0 (v_ldN .here) (.pick (by (repeat constructor)) .nil) ?_
      refine e_cond (φ := l[i] = 34 ∧ q = true) (by cases q <;> simp) (fun h2 => ?_) (fun h2 => ?_)
      · refine e_opN v_not Imp.nil ?_
        refine e_opN (v_add (by omega) (by omega)) Imp.nil ?_
        rw [stE_q hil hai h1 h2.1 h2.2] at hdr
        refine e_next3 (m - 1) (by omega) (.ex (!inn, a, i + 1, k) (.all ?_))
        (try simp only [List.cons_append, List.nil_append, -eq_self])
        refine .pu ⟨by (try dsimp only); omega, rfl, rfl, rfl, by (try dsimp only); omega, hal, hdr, hkl⟩ ?_
        (repeat (first | exact Imp.refl | exact Imp.nil | (apply Imp.pick; (focus ((repeat constructor); done))) | refine Imp.drop ?_))
      · refine e_opN (B_eq 44 rfl) Imp.nil ?_
        refine e_and (fun _ => v_not) ?_
        refine e_cond (φ := l[i] = 44 ∧ inn = false) (by cases inn <;> simp) (fun h3 => ?_) (fun h3 => ?_)
        · refine e_opN (v_ldN .here) (.pick (by (repeat constructor)) .nil) ?_
          refine e_opN (v_sslh a i rfl rfl hai (by omega)) Imp.nil ?_
          refine e_call (trim (by simp [sub]; omega)) .nil fun _ => ?_
          (try simp only [List.cons_append, List.nil_append, -eq_self])
          have e0 : (Value.string ⟨#[]⟩) = txt [] := rfl
          rw [stE_c hil hai h3.1 h3.2, tidy_cons] at hdr
          rw [e0]
          refine e_opN v_strne Imp.nil ?_
          by_cases h4 : trimB (sub l a i) = []
          · rw [if_pos h4] at hdr
            rw [decide_eq_false (fun c => c h4)]
            ((with_reducible refine e_gdF2 ?_)); ((with_reducible refine e_gdF2 ?_)); ((with_reducible refine e_gdF2 ?_)); ((with_reducible refine e_gdF2 ?_)); (((with_reducible refine e_opN v_pickF Imp.nil ?_))); ((with_reducible refine e_condF ?_)); (((with_reducible refine e_opN (v_add ?h1 ?h2) Imp.nil ?_); (case h1 => omega); (case h2 => omega))); (((with_reducible refine e_opN (v_add ?h1 ?h2) Imp.nil ?_); (case h1 => omega); (case h2 => omega)))
            refine e_next3 (m - 1) (by omega) (.ex (inn, i + 1, i + 1, k) (.all ?_))
            (try simp only [List.cons_append, List.nil_append, -eq_self])
            refine .pu ⟨by (try dsimp only); omega, rfl, rfl, rfl, Nat.le_refl _, by (try dsimp only); omega, by rw [h3.2]; exact hdr, hkl⟩ ?_
            (repeat (first | exact Imp.refl | exact Imp.nil | (apply Imp.pick; (focus ((repeat constructor); done))) | refine Imp.drop ?_))
          · rw [if_neg h4] at hdr
            obtain ⟨hg, hd2, hk2⟩ := at_drop hdr
            rw [decide_eq_true h4]
            refine e_gdT ?_
            refine e_gdT ?_
            refine e_gdT ?_
            refine e_imp (M := all [T, all [pt gs (.cells #[txt l] 9 (0, 0)), pt gk (.cells #[.bool q, .bool e, fv] 107 (0, 0)), G k]] :: F) ?_ ?_
            · refine .all ?_
              (try simp only [List.cons_append, List.nil_append, -eq_self])
              refine .pick (by (repeat constructor)) (.all ?_)
              (try simp only [List.cons_append, List.nil_append, -eq_self])
              (repeat (first | exact Imp.refl | exact Imp.nil | (apply Imp.pick; (focus ((repeat constructor); done))) | refine Imp.drop ?_))
            refine e_yield hy k (ewv_at hg) .here ?_ ?_
            · ((with_reducible refine e_gdT ?_)); (((with_reducible refine e_opN v_notT Imp.nil ?_))); (((with_reducible refine e_opN v_pickT Imp.nil ?_))); ((with_reducible refine e_condF ?_)); (((with_reducible refine e_opN (v_add ?h1 ?h2) Imp.nil ?_); (case h1 => omega); (case h2 => omega))); (((with_reducible refine e_opN (v_add ?h1 ?h2) Imp.nil ?_); (case h1 => omega); (case h2 => omega)))
              refine e_all .here ?_
              (try simp only [List.cons_append, List.nil_append, -eq_self])
              refine e_all (.there .here) ?_
              (try simp only [List.cons_append, List.nil_append, -eq_self])
              refine e_next3 (m - 1) (by omega) (.ex (inn, i + 1, i + 1, k + 1) (.all ?_))
              (try simp only [List.cons_append, List.nil_append, -eq_self])
              refine .pu ⟨by (try dsimp only); omega, rfl, rfl, rfl, Nat.le_refl _, by (try dsimp only); omega, by rw [h3.2]; exact hd2, by (try dsimp only); omega⟩ ?_
              (repeat (first | exact Imp.refl | exact Imp.nil | (apply Imp.pick; (focus ((repeat constructor); done))) | refine Imp.drop ?_))
            · ((with_reducible refine e_gdT ?_)); (((with_reducible refine e_opN v_notF Imp.nil ?_))); (((with_reducible refine e_opN v_pickT Imp.nil ?_))); ((with_reducible refine e_condT ?_))
              (first | refine e_ret (false) rfl ?_ | refine e_retT (false) ?_)
              exact .refl
        · refine e_opN (v_add (by omega) (by omega)) Imp.nil ?_
          rw [stE_o hil hai h1 h2 h3] at hdr
          refine e_next3 (m - 1) (by omega) (.ex (inn, a, i + 1, k) (.all ?_))
          (try simp only [List.cons_append, List.nil_append, -eq_self])
          refine .pu ⟨by (try dsimp only); omega, rfl, rfl, rfl, by (try dsimp only); omega, hal, hdr, hkl⟩ ?_
          (repeat (first | exact Imp.refl | exact Imp.nil | (apply Imp.pick; (focus ((repeat constructor); done))) | refine Imp.drop ?_))
  · refine e_condF ?_
    refine e_opN (v_ldN .here) (.pick (by (repeat constructor)) .nil) ?_
    refine e_opN (v_ssl a rfl hal) Imp.nil ?_
    refine e_call (trim (by simp; omega)) .nil fun _ => ?_
    (try simp only [List.cons_append, List.nil_append, -eq_self])
    have e0 : (Value.string ⟨#[]⟩) = txt [] := rfl
    rw [e0]
    rw [stE_end (by omega), tidy_cons, tidy_nil] at hdr
    refine e_opN v_strne Imp.nil ?_
    by_cases h4 : trimB (l.drop a) = []
    · rw [if_pos h4] at hdr
      rw [decide_eq_false (fun c => c h4)]
      have hkn : k = (elemsF q e l).length := by
        have := congrArg List.length hdr
        rw [List.length_drop, List.length_nil] at this; omega
      subst hkn
      refine e_condF ?_
      (first | refine e_ret (true) rfl ?_ | refine e_retT (true) ?_)
      refine .all ?_
      (try simp only [List.cons_append, List.nil_append, -eq_self])
      refine .pick (by (repeat constructor)) (.all ?_)
      (try simp only [List.cons_append, List.nil_append, -eq_self])
      (repeat (first | exact Imp.refl | exact Imp.nil | (apply Imp.pick; (focus ((repeat constructor); done))) | refine Imp.drop ?_))
    · rw [if_neg h4] at hdr
      obtain ⟨hg, hd2, hk2⟩ := at_drop hdr
      rw [decide_eq_true h4]
      refine e_condT ?_
      refine e_imp (M := all [T, all [pt gs (.cells #[txt l] 9 (0, 0)), pt gk (.cells #[.bool q, .bool e, fv] 107 (0, 0)), G k]] :: F) ?_ ?_
      · refine .all ?_
        (try simp only [List.cons_append, List.nil_append, -eq_self])
        refine .pick (by (repeat constructor)) (.all ?_)
        (try simp only [List.cons_append, List.nil_append, -eq_self])
        (repeat (first | exact Imp.refl | exact Imp.nil | (apply Imp.pick; (focus ((repeat constructor); done))) | refine Imp.drop ?_))
      have hkn : k + 1 = (elemsF q e l).length := by
        have := congrArg List.length hd2
        rw [List.length_drop, List.length_nil] at this; omega
      refine e_yield hy k (ewv_at hg) .here ?_ ?_
      · rw [hkn]
        (first | refine e_ret (true) rfl ?_ | refine e_retT (true) ?_)
        exact .refl
      · (first | refine e_ret (false) rfl ?_ | refine e_retT (false) ?_)
        exact .refl
theorem els_Dir {W : World} {l : List UInt8} {q e : Bool} {fv : Value} : Cn Tryz.prog 31 [.agg #[.bool q, .bool e, fv], txt l] W [] (fun c : Nat × Nat => .func (.func 49) #[] [.pointer (some ⟨c.1, 0, none⟩), .pointer (some ⟨c.2, 0, none⟩)].toArray) (fun c => [pt c.1 (.cells #[txt l] 9 (0, 0)), pt c.2 (.cells #[.bool q, .bool e, fv] 49 (0, 0))]) := by
  (refine S.fields_kind_fields_Directive_elements_cn fun F => ?_; unfold S.fields_kind_fields_Directive_elements; simp only [List.cons_append, List.nil_append])
  refine e_boxA fun gk => ?_
  refine e_box1 fun gs => ?_
  refine e_opN v_mkF Imp.nil ?_
  (first | refine e_ret ((gs, gk)) rfl ?_ | refine e_retT ((gs, gk)) ?_)
  exact .refl
theorem els1_Dir {W : World} {l : List UInt8} {q e : Bool} {fv : Value} {gs gk lp : Nat} {G : Nat → HP} {Gx T T' : HP} (hl : l.length ≤ 4611686018427387904)
    (hy : YieldC Tryz.prog lp (ewv q e l) (fun k => all [T, all [pt gs (.cells #[txt l] 9 (0, 0)), pt gk (.cells #[.bool q, .bool e, fv] 49 (0, 0)), G k]]) (all [T', Gx]) W) :
    Cn Tryz.prog 49 [yv lp, .pointer (some ⟨gs, 0, none⟩), .pointer (some ⟨gk, 0, none⟩)] W [all [T, all [pt gs (.cells #[txt l] 9 (0, 0)), pt gk (.cells #[.bool q, .bool e, fv] 49 (0, 0)), G 0]]] (fun _ : Bool => .tuple #[]) (fun b => [if b then all [T, all [pt gs (.cells #[txt l] 9 (0, 0)), pt gk (.cells #[.bool q, .bool e, fv] 49 (0, 0)), G (elemsF q e l).length]] else all [T', Gx]]) := by
  (refine S.fields_kind_fields_Directive_elements_1_cn fun F => ?_; unfold S.fields_kind_fields_Directive_elements_1; simp only [List.cons_append, List.nil_append])
  refine e_all .here ?_
  (try simp only [List.cons_append, List.nil_append, -eq_self])
  refine e_all (.there .here) ?_
  (try simp only [List.cons_append, List.nil_append, -eq_self])
  refine e_loop3 (fun m x y z => [ex fun st : Bool × Nat × Nat × Nat => all [pu (m + st.2.2.1 = l.length + 1 ∧ x = .bool st.1 ∧ y = .int .i64 (st.2.1 : Int) ∧ z = .int .i64 (st.2.2.1 : Int) ∧ st.2.1 ≤ st.2.2.1 ∧ st.2.1 ≤ l.length ∧ (elemsF q e l).drop st.2.2.2 = tidy (stE l q e st.1 st.2.1 st.2.2.1) ∧ st.2.2.2 ≤ (elemsF q e l).length),
      T, pt gs (.cells #[txt l] 9 (0, 0)), pt gk (.cells #[.bool q, .bool e, fv] 49 (0, 0)), G st.2.2.2]] ++ F) (l.length + 1) ?_ ?_
  · refine Imp.ex (false, 0, 0, 0) (.all ?_)
    (try simp only [List.cons_append, List.nil_append, -eq_self])
    refine .pu ⟨by simp, rfl, rfl, rfl, Nat.le_refl _, Nat.zero_le _, rfl, Nat.zero_le _⟩ ?_
    (repeat (first | exact Imp.refl | exact Imp.nil | (apply Imp.pick; (focus ((repeat constructor); done))) | refine Imp.drop ?_))
  intro m ds x y z
  (try simp only [List.cons_append, List.nil_append, -eq_self])
  refine e_ex Pick.here fun st => e_all Pick.here ?_
  obtain ⟨inn, a, i, k⟩ := st
  (try simp only [List.cons_append, List.nil_append, -eq_self])
  refine e_pu Pick.here fun hi => ?_
  (try dsimp only at hi)
  obtain ⟨hmi, rfl, rfl, rfl, hai, hal, hdr, hkl⟩ := hi
  refine e_opN (v_ldN .here) (.pick (by (repeat constructor)) .nil) ?_
  refine e_opN v_lent Imp.nil ?_
  (refine e_ask v_lss Imp.nil (fun h => ?_) (fun h => ?_))
  · have hil : i < l.length := by omega
    refine e_condT ?_
    refine e_opN (v_ldN .here) (.pick (by (repeat constructor)) .nil) ?_
    refine e_opN (v_ixS i rfl hil) Imp.nil ?_
    refine e_opN (B_eq 92 rfl) Imp.nil ?_
    refine e_and0 ?_
    refine e_and2 v_fa0 (v_ldN (.there .here)) (.pick (by (repeat constructor)) .nil) ?_
    refine e_cond (φ := l[i] = 92 ∧ inn = true ∧ e = true) (by cases inn <;> cases e <;> simp) (fun h1 => ?_) (fun h1 => ?_)
    · refine e_opN (v_add (by omega) (by omega)) Imp.nil ?_
      refine e_opN (v_add (by omega) (by omega)) Imp.nil ?_
      rw [stE_esc hil hai h1.1 h1.2.1 h1.2.2] at hdr
      refine e_next3 (m - 2) (by omega) (.ex (inn, a, i + 2, k) (.all ?_))
      (try simp only [List.cons_append, List.nil_append, -eq_self])
      refine .pu ⟨by (try dsimp only); omega, rfl, rfl, by (try dsimp only); rw [Int.add_assoc]; rfl, by (try dsimp only); omega, hal, hdr, hkl⟩ ?_
      (repeat (first | exact Imp.refl | exact Imp.nil | (apply Imp.pick; (focus ((repeat constructor); done))) | refine Imp.drop ?_))
    · refine e_opN (B_eq 34 rfl) Imp.nil ?_
      refine e_and2 v_fa0 (v_ldN .here) (.pick (by (repeat constructor)) .nil) ?_
      refine e_cond (φ := l[i] = 34 ∧ q = true) (by cases q <;> simp) (fun h2 => ?_) (fun h2 => ?_)
      · refine e_opN v_not Imp.nil ?_
        refine e_opN (v_add (by omega) (by omega)) Imp.nil ?_
        rw [stE_q hil hai h1 h2.1 h2.2] at hdr
        refine e_next3 (m - 1) (by omega) (.ex (!inn, a, i + 1, k) (.all ?_))
        (try simp only [List.cons_append, List.nil_append, -eq_self])
        refine .pu ⟨by (try dsimp only); omega, rfl, rfl, rfl, by (try dsimp only); omega, hal, hdr, hkl⟩ ?_
        (repeat (first | exact Imp.refl | exact Imp.nil | (apply Imp.pick; (focus ((repeat constructor); done))) | refine Imp.drop ?_))
      · refine e_opN (B_eq 44 rfl) Imp.nil ?_
        refine e_and (fun _ => v_not) ?_
        refine e_cond (φ := l[i] = 44 ∧ inn = false) (by cases inn <;> simp) (fun h3 => ?_) (fun h3 => ?_)
        · refine e_opN (v_ldN .here) (.pick (by (repeat constructor)) .nil) ?_
          refine e_opN (v_sslh a i rfl rfl hai (by omega)) Imp.nil ?_
          refine e_call (trim (by simp [sub]; omega)) .nil fun _ => ?_
          (try simp only [List.cons_append, List.nil_append, -eq_self])
          have e0 : (Value.string ⟨#[]⟩) = txt [] := rfl
          rw [stE_c hil hai h3.1 h3.2, tidy_cons] at hdr
          rw [e0]
          refine e_opN v_strne Imp.nil ?_
          by_cases h4 : trimB (sub l a i) = []
          · rw [if_pos h4] at hdr
            rw [decide_eq_false (fun c => c h4)]
            ((with_reducible refine e_gdF2 ?_)); ((with_reducible refine e_gdF2 ?_)); ((with_reducible refine e_gdF2 ?_)); ((with_reducible refine e_gdF2 ?_)); (((with_reducible refine e_opN v_pickF Imp.nil ?_))); ((with_reducible refine e_condF ?_)); (((with_reducible refine e_opN (v_add ?h1 ?h2) Imp.nil ?_); (case h1 => omega); (case h2 => omega))); (((with_reducible refine e_opN (v_add ?h1 ?h2) Imp.nil ?_); (case h1 => omega); (case h2 => omega)))
            refine e_next3 (m - 1) (by omega) (.ex (inn, i + 1, i + 1, k) (.all ?_))
            (try simp only [List.cons_append, List.nil_append, -eq_self])
            refine .pu ⟨by (try dsimp only); omega, rfl, rfl, rfl, Nat.le_refl _, by (try dsimp only); omega, by rw [h3.2]; exact hdr, hkl⟩ ?_
            (repeat (first | exact Imp.refl | exact Imp.nil | (apply Imp.pick; (focus ((repeat constructor); done))) | refine Imp.drop ?_))
          · rw [if_neg h4] at hdr
            obtain ⟨hg, hd2, hk2⟩ := at_drop hdr
            rw [decide_eq_true h4]
            refine e_gdT ?_
            refine e_gdT ?_
            refine e_gdT ?_
            refine e_imp (M := all [T, all [pt gs (.cells #[txt l] 9 (0, 0)), pt gk (.cells #[.bool q, .bool e, fv] 49 (0, 0)), G k]] :: F) ?_ ?_
            · refine .all ?_
              (try simp only [List.cons_append, List.nil_append, -eq_self])
              refine .pick (by (repeat constructor)) (.all ?_)
              (try simp only [List.cons_append, List.nil_append, -eq_self])
              (repeat (first | exact Imp.refl | exact Imp.nil | (apply Imp.pick; (focus ((repeat constructor); done))) | refine Imp.drop ?_))
            refine e_yield hy k (ewv_at hg) .here ?_ ?_
            · ((with_reducible refine e_gdT ?_)); (((with_reducible refine e_opN v_notT Imp.nil ?_))); (((with_reducible refine e_opN v_pickT Imp.nil ?_))); ((with_reducible refine e_condF ?_)); (((with_reducible refine e_opN (v_add ?h1 ?h2) Imp.nil ?_); (case h1 => omega); (case h2 => omega))); (((with_reducible refine e_opN (v_add ?h1 ?h2) Imp.nil ?_); (case h1 => omega); (case h2 => omega)))
              refine e_all .here ?_
              (try simp only [List.cons_append, List.nil_append, -eq_self])
              refine e_all (.there .here) ?_
              (try simp only [List.cons_append, List.nil_append, -eq_self])
              refine e_next3 (m - 1) (by omega) (.ex (inn, i + 1, i + 1, k + 1) (.all ?_))
              (try simp only [List.cons_append, List.nil_append, -eq_self])
              refine .pu ⟨by (try dsimp only); omega, rfl, rfl, rfl, Nat.le_refl _, by (try dsimp only); omega, by rw [h3.2]; exact hd2, by (try dsimp only); omega⟩ ?_
              (repeat (first | exact Imp.refl | exact Imp.nil | (apply Imp.pick; (focus ((repeat constructor); done))) | refine Imp.drop ?_))
            · ((with_reducible refine e_gdT ?_)); (((with_reducible refine e_opN v_notF Imp.nil ?_))); (((with_reducible refine e_opN v_pickT Imp.nil ?_))); ((with_reducible refine e_condT ?_))
              (first | refine e_ret (false) rfl ?_ | refine e_retT (false) ?_)
              exact .refl
        · refine e_opN (v_add (by omega) (by omega)) Imp.nil ?_
          rw [stE_o hil hai h1 h2 h3] at hdr
          refine e_next3 (m - 1) (by omega) (.ex (inn, a, i + 1, k) (.all ?_))
          (try simp only [List.cons_append, List.nil_append, -eq_self])
          refine .pu ⟨by (try dsimp only); omega, rfl, rfl, rfl, by (try dsimp only); omega, hal, hdr, hkl⟩ ?_
          (repeat (first | exact Imp.refl | exact Imp.nil | (apply Imp.pick; (focus ((repeat constructor); done))) | refine Imp.drop ?_))
  · refine e_condF ?_
    refine e_opN (v_ldN .here) (.pick (by (repeat constructor)) .nil) ?_
    refine e_opN (v_ssl a rfl hal) Imp.nil ?_
    refine e_call (trim (by simp; omega)) .nil fun _ => ?_
    (try simp only [List.cons_append, List.nil_append, -eq_self])
    have e0 : (Value.string ⟨#[]⟩) = txt [] := rfl
    rw [e0]
    rw [stE_end (by omega), tidy_cons, tidy_nil] at hdr
    refine e_opN v_strne Imp.nil ?_
    by_cases h4 : trimB (l.drop a) = []
    · rw [if_pos h4] at hdr
      rw [decide_eq_false (fun c => c h4)]
      have hkn : k = (elemsF q e l).length := by
        have := congrArg List.length hdr
        rw [List.length_drop, List.length_nil] at this; omega
      subst hkn
      refine e_condF ?_
      (first | refine e_ret (true) rfl ?_ | refine e_retT (true) ?_)
      refine .all ?_
      (try simp only [List.cons_append, List.nil_append, -eq_self])
      refine .pick (by (repeat constructor)) (.all ?_)
      (try simp only [List.cons_append, List.nil_append, -eq_self])
      (repeat (first | exact Imp.refl | exact Imp.nil | (apply Imp.pick; (focus ((repeat constructor); done))) | refine Imp.drop ?_))
    · rw [if_neg h4] at hdr
      obtain ⟨hg, hd2, hk2⟩ := at_drop hdr
      rw [decide_eq_true h4]
      refine e_condT ?_
      refine e_imp (M := all [T, all [pt gs (.cells #[txt l] 9 (0, 0)), pt gk (.cells #[.bool q, .bool e, fv] 49 (0, 0)), G k]] :: F) ?_ ?_
      · refine .all ?_
        (try simp only [List.cons_append, List.nil_append, -eq_self])
        refine .pick (by (repeat constructor)) (.all ?_)
        (try simp only [List.cons_append, List.nil_append, -eq_self])
        (repeat (first | exact Imp.refl | exact Imp.nil | (apply Imp.pick; (focus ((repeat constructor); done))) | refine Imp.drop ?_))
      have hkn : k + 1 = (elemsF q e l).length := by
        have := congrArg List.length hd2
        rw [List.length_drop, List.length_nil] at this; omega
      refine e_yield hy k (ewv_at hg) .here ?_ ?_
      · rw [hkn]
        (first | refine e_ret (true) rfl ?_ | refine e_retT (true) ?_)
        exact .refl
      · (first | refine e_ret (false) rfl ?_ | refine e_retT (false) ?_)
        exact .refl
end Go.Proofs.YtcigoifhcfbcdaaGreatDoor.FD
