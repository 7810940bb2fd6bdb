/- Any text as directives, any as a text with quotation marks: the law, walked. The library's own error can be read ('Gl'); texts of at most 1048576 bytes. -/
import Derived.Test.YtcigoifhcfbcdaaGreatDoorFldZ7
set_option linter.unusedVariables false
set_option linter.unusedSimpArgs false
namespace Go.Proofs.YtcigoifhcfbcdaaGreatDoor.FD
open Go Go.Proofs Go.RowKit Go.Proofs.YtcigoifhcfbcdaaGreatDoor.Sh Go.Proofs.YtcigoifhcfbcdaaGreatDoor.Sl Go.Proofs.YtcigoifhcfbcdaaGreatDoor.T
theorem fieldsDirectives {W : World} [hG : Gl W] {l s : List UInt8} (hl : l.length ≤ 1048576) (hs : s.length ≤ 1048576) : Cn Tryz.prog 3 [txt l, txt s] W [] (fun _ : Unit => .bool true) (fun _ => []) := by
  have hnum := dirs_num (l := l)
  have hok := dirs_ok (l := l) (by omega)
  (refine S.law10_FieldsDirectives_cn fun F => ?_; unfold S.law10_FieldsDirectives; simp only [List.cons_append, List.nil_append])
  refine e_call (directives (l := l) (by omega)) .nil fun r => ?_
  obtain ⟨a1, c1⟩ := r
  (try simp only [List.cons_append, List.nil_append, -eq_self])
  refine e_opN (v_extN (vs := [_, _]) .here) Imp.nil ?_
  refine e_opN (v_extN (vs := [_, _]) (.there .here)) Imp.nil ?_
  refine e_call (rdirectives (l := l) (by omega)) .nil fun r => ?_
  obtain ⟨a2, c2⟩ := r
  (try simp only [List.cons_append, List.nil_append, -eq_self])
  refine e_opN (v_extN (vs := [_, _]) .here) Imp.nil ?_
  refine e_opN (v_extN (vs := [_, _]) (.there .here)) Imp.nil ?_
  generalize (lsF (dirsF l)).2 = e
  generalize (lsF (dirsF l)).1 = X at hnum hok ⊢
  refine e_call (same_dirs (X := X) (a1 := a1) (a2 := a2) (c1 := c1) (c2 := c2) (by omega)) (.cons (by (repeat constructor)) (.cons (by (repeat constructor)) .nil)) fun _ => ?_
  (try simp only [List.cons_append, List.nil_append, -eq_self])
  (((with_reducible refine e_opN v_notT Imp.nil ?_))); ((with_reducible refine e_gdT ?_)); ((with_reducible refine e_gdT ?_))
  refine e_call num .nil fun _ => ?_
  (try simp only [List.cons_append, List.nil_append, -eq_self])
  ((with_reducible refine e_gdT ?_)); ((with_reducible refine e_gdT ?_))
  refine e_opN v_neq Imp.nil ?_
  rw [decide_eq_false (fun c => c rfl)]
  (((with_reducible refine e_opN v_pickF Imp.nil ?_))); ((with_reducible refine e_gdT ?_)); ((with_reducible refine e_gdT ?_))
  refine e_call (quote (l := l) (by omega)) .nil fun _ => ?_
  (try simp only [List.cons_append, List.nil_append, -eq_self])
  ((with_reducible refine e_gdT ?_)); ((with_reducible refine e_gdT ?_))
  refine e_call (rquote (l := l) (by omega)) .nil fun _ => ?_
  (try simp only [List.cons_append, List.nil_append, -eq_self])
  ((with_reducible refine e_gdT ?_))
  refine e_opN v_strne Imp.nil ?_
  rw [decide_eq_false (fun c => c rfl)]
  (((with_reducible refine e_opN v_pickF Imp.nil ?_))); ((with_reducible refine e_condF ?_))
  refine e_call (seconds (xs := X) (s := s) (a := a1) (c := c1) (by omega) hok) (.cons (by (repeat constructor)) .nil) fun _ => ?_
  (try simp only [List.cons_append, List.nil_append, -eq_self])
  refine e_opN (v_extN (vs := [_, _]) .here) Imp.nil ?_
  refine e_opN (v_extN (vs := [_, _]) (.there .here)) Imp.nil ?_
  refine e_call (rseconds (xs := X) (s := s) (a := a2) (c := c2) (by omega) hok) (.cons (by (repeat constructor)) .nil) fun _ => ?_
  (try simp only [List.cons_append, List.nil_append, -eq_self])
  refine e_opN (v_extN (vs := [_, _]) .here) Imp.nil ?_
  refine e_opN (v_extN (vs := [_, _]) (.there .here)) Imp.nil ?_
  refine e_opN v_eql Imp.nil ?_
  rw [decide_eq_true rfl]
  ((with_reducible refine e_gdT ?_)); ((with_reducible refine e_gdT ?_)); ((with_reducible refine e_gdT ?_))
  refine e_opN v_beq Imp.nil ?_
  rw [decide_eq_true rfl]
  (((with_reducible refine e_opN v_pickT Imp.nil ?_))); ((with_reducible refine e_gdT ?_))
  refine e_call knows .nil fun _ => ?_
  (try simp only [List.cons_append, List.nil_append, -eq_self])
  (((with_reducible refine e_opN v_pickT Imp.nil ?_)))
  (first | refine e_ret (()) rfl ?_ | refine e_retT (()) ?_)
  (repeat (first | exact Imp.refl | exact Imp.nil | (apply Imp.pick; (focus ((repeat constructor); done))) | refine Imp.drop ?_))
end Go.Proofs.YtcigoifhcfbcdaaGreatDoor.FD
