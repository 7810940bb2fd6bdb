/- Any text as a list of tokens, and as choices: the law, walked. The library's own error can be read ('Gl'); a text of at most 1048576 bytes. -/
import Derived.Test.YtcigoifhcfbcdaaDoorFldR5
set_option linter.unusedVariables false
set_option linter.unusedSimpArgs false
namespace Go.Proofs.YtcigoifhcfbcdaaDoor.FD
open Go Go.Proofs Go.RowKit Go.Proofs.YtcigoifhcfbcdaaDoor.Sh Go.Proofs.YtcigoifhcfbcdaaDoor.Sl Go.Proofs.YtcigoifhcfbcdaaDoor.T
theorem tokens {W : World} {l : List UInt8} (hl : l.length ≤ 2097152) : Cn Tryd.prog 15 [txt l] W [] (fun r : Option Addr × Nat => .tuple #[.slice r.1 (lsF (tokensF l)).1.length r.2, .int .i64 (lsF (tokensF l)).2])
    (fun r => [Sl 1 9 r.1 r.2 (lsF (tokensF l)).1.length ((lsF (tokensF l)).1.flatMap pstring)]) := by
  (refine S.fields_Tokens_cn fun F => ?_; unfold S.fields_Tokens; simp only [List.cons_append, List.nil_append])
  refine e_opN v_rv Imp.nil ?_
  refine e_call (list_string hl fun w hw => token1 (by omega)) .nil fun r => ?_
  (try simp only [List.cons_append, List.nil_append, -eq_self])
  refine e_opN (v_extN (vs := [_, _]) .here) Imp.nil ?_
  refine e_opN (v_extN (vs := [_, _]) (.there .here)) Imp.nil ?_
  (first | refine e_ret (r) rfl ?_ | refine e_retT (r) ?_)
  exact .refl
theorem lsN_len {α : Type} {f : List UInt8 → α × Bool} {q e : Bool} {l : List UInt8} : (lsF (listF f (elemsF q e l))).1.length ≤ l.length + 1 := by
  have := elems_num (q := q) (e := e) (l := l)
  unfold listF
  split
  · simp [lsF]; omega
  · simp [lsF]
theorem fieldsTokens {W : World} [hG : Gl W] {l : List UInt8} (hl : l.length ≤ 1048576) : Cn Tryd.prog 5 [txt l] W [] (fun _ : Unit => .bool true) (fun _ => []) := by
  (refine S.law10_FieldsTokens_cn fun F => ?_; unfold S.law10_FieldsTokens; simp only [List.cons_append, List.nil_append])
  refine e_call (tokens (l := l) (by omega)) .nil fun r => ?_
  obtain ⟨a1, c1⟩ := r
  (try simp only [List.cons_append, List.nil_append, -eq_self])
  refine e_opN (v_extN (vs := [_, _]) .here) Imp.nil ?_
  refine e_opN (v_extN (vs := [_, _]) (.there .here)) Imp.nil ?_
  refine e_call (rtokens (l := l) (by omega)) .nil fun r => ?_
  obtain ⟨a2, c2⟩ := r
  (try simp only [List.cons_append, List.nil_append, -eq_self])
  refine e_opN (v_extN (vs := [_, _]) .here) Imp.nil ?_
  refine e_opN (v_extN (vs := [_, _]) (.there .here)) Imp.nil ?_
  refine e_call (choices (l := l) (by omega)) .nil fun r => ?_
  obtain ⟨a3, c3⟩ := r
  (try simp only [List.cons_append, List.nil_append, -eq_self])
  refine e_opN (v_extN (vs := [_, _]) .here) Imp.nil ?_
  refine e_opN (v_extN (vs := [_, _]) (.there .here)) Imp.nil ?_
  refine e_call (rchoices (l := l) (by omega)) .nil fun r => ?_
  obtain ⟨a4, c4⟩ := r
  (try simp only [List.cons_append, List.nil_append, -eq_self])
  refine e_opN (v_extN (vs := [_, _]) .here) Imp.nil ?_
  refine e_opN (v_extN (vs := [_, _]) (.there .here)) Imp.nil ?_
  have l1 : (lsF (tokensF l)).1.length ≤ l.length + 1 := lsN_len
  have l2 : (lsF (choicesF l)).1.length ≤ l.length + 1 := lsN_len
  refine e_call (same_strings (X := (lsF (tokensF l)).1) (by omega)) (.cons (.there (.there (.there .here))) (.cons (.there (.there .here)) .nil)) fun _ => ?_
  (try simp only [List.cons_append, List.nil_append, -eq_self])
  refine e_gdT ?_
  refine e_gdT ?_
  (refine' e_call (num) ?hp fun _ => ?_; (case hp => (repeat (first | exact Picks.nil | (apply Picks.cons; (focus (repeat constructor)))))); (try simp only [List.cons_append, List.nil_append, Bool.not_true, Bool.not_false]))
  refine e_gdT ?_
  refine e_gdT ?_
  refine e_opN v_eql Imp.nil ?_
  rw [decide_eq_true rfl]
  refine e_opN v_pickT Imp.nil ?_
  refine e_gdT ?_
  refine e_gdT ?_
  refine e_gdT ?_
  refine e_call (same_choices (X := (lsF (choicesF l)).1) (by omega)) (.cons (.there .here) (.cons .here .nil)) fun _ => ?_
  (try simp only [List.cons_append, List.nil_append, -eq_self])
  refine e_opN v_pickT Imp.nil ?_
  refine e_gdT ?_
  refine e_gdT ?_
  (refine' e_call (num) ?hp fun _ => ?_; (case hp => (repeat (first | exact Picks.nil | (apply Picks.cons; (focus (repeat constructor)))))); (try simp only [List.cons_append, List.nil_append, Bool.not_true, Bool.not_false]))
  refine e_gdT ?_
  refine e_gdT ?_
  refine e_opN v_eql Imp.nil ?_
  rw [decide_eq_true rfl]
  refine e_opN v_pickT Imp.nil ?_
  refine e_gdT ?_
  refine e_call knows .nil fun _ => ?_
  (try simp only [List.cons_append, List.nil_append, -eq_self])
  refine e_opN v_pickT Imp.nil ?_
  (first | refine e_ret (()) rfl ?_ | refine e_retT (()) ?_)
  (repeat (first | exact Imp.refl | exact Imp.nil | (apply Imp.pick; (focus ((repeat constructor); done))) | refine Imp.drop ?_))
end Go.Proofs.YtcigoifhcfbcdaaDoor.FD
