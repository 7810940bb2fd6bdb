/- Any text as spans of bytes: the law, walked. The library's own error can be read ('Gl'); a text of at most 1048576 bytes. -/
import Derived.Test.YtcigoifhcfbcdaaDoorFldR3
set_option linter.unusedVariables false
set_option linter.unusedSimpArgs false
namespace Go.Proofs.YtcigoifhcfbcdaaDoor.FD
open Go Go.Proofs Go.RowKit Go.Proofs.YtcigoifhcfbcdaaDoor.Sh Go.Proofs.YtcigoifhcfbcdaaDoor.Sl Go.Proofs.YtcigoifhcfbcdaaDoor.T
theorem pSpan_len (x : Int × Int) : (pSpan x).length = 2 := rfl
theorem span_at {xs : List (Int × Int)} {i : Nat} (h : i < xs.length) : (xs.flatMap pSpan)[i * 2]? = some (.int .i64 xs[i].1) ∧ (xs.flatMap pSpan)[i * 2 + 1]? = some (.int .i64 xs[i].2) := by
  have h0 := flat_get (f := pSpan) (s := 2) pSpan_len xs i 0 h (by omega)
  have h1 := flat_get (f := pSpan) (s := 2) pSpan_len xs i 1 h (by omega)
  rw [Nat.add_zero] at h0
  exact ⟨h0, h1⟩
theorem spansF_len (l : List UInt8) : (spansF l).1.length ≤ 16 := by
  unfold spansF
  cases spanLF l with
  | none => simp
  | some xs =>
    simp only
    split
    · simp
    · split
      · simp
      · show xs.length ≤ 16
        omega
theorem fieldsSpans {W : World} [hG : Gl W] {l : List UInt8} (hl : l.length ≤ 1048576) : Cn Tryd.prog 3 [txt l] W [] (fun _ : Unit => .bool true) (fun _ => []) := by
  (refine S.law10_FieldsSpans_cn fun F => ?_; unfold S.law10_FieldsSpans; simp only [List.cons_append, List.nil_append])
  refine e_call (spans (l := l) (by omega)) .nil fun r => ?_
  obtain ⟨a1, c1⟩ := r
  (try simp only [List.cons_append, List.nil_append, -eq_self])
  refine e_opN (v_extN (vs := [_, _]) .here) Imp.nil ?_
  refine e_opN (v_extN (vs := [_, _]) (.there .here)) Imp.nil ?_
  refine e_call (rspans (l := l) (by omega)) .nil fun r => ?_
  obtain ⟨a2, c2⟩ := r
  (try simp only [List.cons_append, List.nil_append, -eq_self])
  refine e_opN (v_extN (vs := [_, _]) .here) Imp.nil ?_
  refine e_opN (v_extN (vs := [_, _]) (.there .here)) Imp.nil ?_
  generalize (spansF l).2 = e
  obtain ⟨X, hX⟩ : ∃ X, X = (spansF l).1 := ⟨_, rfl⟩
  rw [← hX]
  refine e_slfacts .here fun f1 f2 f3 f4 => ?_
  refine e_opN v_len Imp.nil ?_
  refine e_opN v_len Imp.nil ?_
  refine e_opN v_neq Imp.nil ?_
  rw [decide_eq_false (fun c => c rfl)]
  ((with_reducible refine e_gdT ?_)); ((with_reducible refine e_gdT ?_))
  (refine' e_call (num) ?hp fun _ => ?_; (case hp => (repeat (first | exact Picks.nil | (apply Picks.cons; (focus (repeat constructor)))))); (try simp only [List.cons_append, List.nil_append, Bool.not_true, Bool.not_false]))
  ((with_reducible refine e_gdT ?_)); ((with_reducible refine e_gdT ?_))
  refine e_opN v_neq Imp.nil ?_
  rw [decide_eq_false (fun c => c rfl)]
  (((with_reducible refine e_opN v_pickF Imp.nil ?_))); ((with_reducible refine e_condF ?_))
  have hXl : X.length ≤ 16 := by rw [hX]; exact spansF_len l
  refine e_loop1 (fun m y => [ex fun i : Nat => all [pu (m + i = X.length ∧ y = .int .i64 (i : Int)), Sl 2 32 a2 c2 X.length (X.flatMap pSpan), Sl 2 31 a1 c1 X.length (X.flatMap pSpan)]] ++ F) X.length ?_ ?_
  · refine Imp.ex 0 (.all ?_)
    (try simp only [List.cons_append, List.nil_append, -eq_self])
    exact .pu ⟨rfl, rfl⟩ .refl
  intro m ds y
  (try simp only [List.cons_append, List.nil_append, -eq_self])
  refine e_ex Pick.here fun i => e_all Pick.here ?_
  (try simp only [List.cons_append, List.nil_append, -eq_self])
  refine e_pu Pick.here fun hi => ?_
  obtain ⟨hmi, rfl⟩ := hi
  refine e_opN v_len Imp.nil ?_
  refine e_ask v_lss Imp.nil (fun h => ?_) (fun h => ?_)
  · have hil : i < X.length := by omega
    have hat := span_at hil
    refine e_condT ?_
    refine e_slsome (a := a2) .here (Nat.zero_lt_of_lt hil) fun g2 h2 => ?_
    subst h2
    refine e_slsome (a := a1) (.there .here) (Nat.zero_lt_of_lt hil) fun g1 h1 => ?_
    subst h1
    have l1 : RunV Tryd.prog W [Sl 2 31 (some ⟨g1, 0, none⟩) c1 X.length (X.flatMap pSpan)] (sLoad 3 (.pointer (some ⟨g1, 0 + i * 2 + 0, none⟩))) (.int .i64 X[i].1) := v_ldSl (by simpa using hat.1)
    have l2 : RunV Tryd.prog W [Sl 2 31 (some ⟨g1, 0, none⟩) c1 X.length (X.flatMap pSpan)] (sLoad 3 (.pointer (some ⟨g1, 0 + i * 2 + 1, none⟩))) (.int .i64 X[i].2) := v_ldSl (by simpa using hat.2)
    have l3 : RunV Tryd.prog W [Sl 2 32 (some ⟨g2, 0, none⟩) c2 X.length (X.flatMap pSpan)] (sLoad 3 (.pointer (some ⟨g2, 0 + i * 2 + 0, none⟩))) (.int .i64 X[i].1) := v_ldSl (by simpa using hat.1)
    have l4 : RunV Tryd.prog W [Sl 2 32 (some ⟨g2, 0, none⟩) c2 X.length (X.flatMap pSpan)] (sLoad 3 (.pointer (some ⟨g2, 0 + i * 2 + 1, none⟩))) (.int .i64 X[i].2) := v_ldSl (by simpa using hat.2)
    refine e_drS ?_
    refine e_stS (v_ia i rfl hil) Imp.nil ?_
    refine e_stS v_fa Imp.nil ?_
    refine e_stS l1 (.pick (by (repeat constructor)) .nil) ?_
    refine e_stS (v_ia i rfl hil) Imp.nil ?_
    refine e_stS v_fa Imp.nil ?_
    refine e_stS l3 (.pick (by (repeat constructor)) .nil) ?_
    refine e_stS v_neq Imp.nil ?_
    rw [decide_eq_false (fun c => c rfl)]
    refine e_gdT ?_
    refine e_gdT ?_
    refine e_gdT ?_
    refine e_stS (v_ia i rfl hil) Imp.nil ?_
    refine e_gdT ?_
    refine e_stS v_fa Imp.nil ?_
    refine e_gdT ?_
    refine e_stS l2 (.pick (by (repeat constructor)) .nil) ?_
    refine e_gdT ?_
    refine e_gdT ?_
    refine e_gdT ?_
    refine e_stS (v_ia i rfl hil) Imp.nil ?_
    refine e_gdT ?_
    refine e_stS v_fa Imp.nil ?_
    refine e_gdT ?_
    refine e_stS l4 (.pick (by (repeat constructor)) .nil) ?_
    refine e_gdT ?_
    refine e_stS v_neq Imp.nil ?_
    rw [decide_eq_false (fun c => c rfl)]
    refine e_stS v_pickF Imp.nil ?_
    refine e_condF ?_
    refine e_opN (v_add (by omega) (by omega)) Imp.nil ?_
    refine e_next1 (m - 1) (by omega) (.ex (i + 1) (.all ?_))
    (try simp only [List.cons_append, List.nil_append, -eq_self])
    exact .pu ⟨by omega, rfl⟩ .refl
  · refine e_condF ?_
    refine e_call knows .nil fun _ => ?_
    (try simp only [List.cons_append, List.nil_append, -eq_self])
    (first | refine e_ret (()) rfl ?_ | refine e_retT (()) ?_)
    (repeat (first | exact Imp.refl | exact Imp.nil | (apply Imp.pick; (focus ((repeat constructor); done))) | refine Imp.drop ?_))
end Go.Proofs.YtcigoifhcfbcdaaDoor.FD
