/- Two lists, joined by a comma: the law, walked. Printed by a program of mine (d22.py). The library's own error can be read ('Gl'); texts of together at most 1048576 bytes. -/
import Derived.Test.YtcigoifhcfbcdaaDoorFldU
set_option linter.unusedVariables false
set_option linter.unusedSimpArgs false
namespace Go.Proofs.YtcigoifhcfbcdaaDoor.FD
open Go Go.Proofs Go.RowKit Go.Proofs.YtcigoifhcfbcdaaDoor.Sh Go.Proofs.YtcigoifhcfbcdaaDoor.Sl Go.Proofs.YtcigoifhcfbcdaaDoor.T
theorem choice_same (x : List UInt8 × Int) : (!decide (x.1 = x.1 ∧ x.2 = x.2)) = false := by simp
theorem dir_same (x : Dir) : (!decide (x.name = x.name ∧ x.value = x.value ∧ x.has = x.has)) = false := by simp
theorem ls_len {α : Type} {f : List UInt8 → α × Bool} {q e : Bool} {l : List UInt8} : (lsF (listF f (elemsF q e l))).1.length ≤ l.length + 1 := by
  have := elems_num (q := q) (e := e) (l := l)
  unfold listF
  split
  · simp [lsF]; omega
  · simp [lsF]
theorem ls_ok {α : Type} {o : Option (List α)} (h : (lsF o).2 = 0) : o = some (lsF o).1 := by
  cases o with
  | none => simp [lsF] at h
  | some x => rfl
theorem fieldsJoined {W : World} [hG : Gl W] {s t : List UInt8} (hl : s.length + t.length ≤ 1048576) : Cn Tryd.prog 6 [txt s, txt t] W [] (fun _ : Unit => .bool true) (fun _ => []) := by
  have hst : s ++ [44] ++ t = s ++ 44 :: t := by simp
  have hb : (s ++ 44 :: t).length ≤ 2097152 := by simp; omega
  (refine S.law10_FieldsJoined_cn fun F => ?_; unfold S.law10_FieldsJoined; simp only [List.cons_append, List.nil_append])
  refine e_opN (v_cat (b := [44]) (by simp; omega)) Imp.nil ?_
  refine e_opN (v_cat (by simp; omega)) Imp.nil ?_
  rw [hst]
  refine e_call (choices (l := s) (by omega)) .nil fun r => ?_
  obtain ⟨a1, c1⟩ := r
  (try simp only [List.cons_append, List.nil_append, -eq_self])
  refine e_opN (v_extN (vs := [_, _]) .here) Imp.nil ?_
  refine e_opN (v_extN (vs := [_, _]) (.there .here)) Imp.nil ?_
  refine e_call (choices (l := t) (by omega)) .nil fun r => ?_
  obtain ⟨a2, c2⟩ := r
  (try simp only [List.cons_append, List.nil_append, -eq_self])
  refine e_opN (v_extN (vs := [_, _]) .here) Imp.nil ?_
  refine e_opN (v_extN (vs := [_, _]) (.there .here)) Imp.nil ?_
  refine e_call (choices (l := s ++ 44 :: t) (by exact hb)) .nil fun r => ?_
  obtain ⟨a3, c3⟩ := r
  (try simp only [List.cons_append, List.nil_append, -eq_self])
  refine e_opN (v_extN (vs := [_, _]) .here) Imp.nil ?_
  refine e_opN (v_extN (vs := [_, _]) (.there .here)) Imp.nil ?_
  refine e_cut0 F ?_ ?_
  rotate_left
  · (refine' e_call (num) ?hp fun _ => ?_; (case hp => (repeat (first | exact Picks.nil | (apply Picks.cons; (focus (repeat constructor)))))); (try simp only [List.cons_append, List.nil_append, Bool.not_true, Bool.not_false]))
    refine e_opN v_eql Imp.nil ?_
    by_cases e1 : (lsF (choicesF s)).2 = 0
    rotate_left
    · rw [decide_eq_false e1]
      ((with_reducible refine e_gdF2 ?_)); ((with_reducible refine e_gdF2 ?_)); ((with_reducible refine e_gdF2 ?_)); (((with_reducible refine e_opN v_pickF Imp.nil ?_))); ((with_reducible refine e_condF ?_))
      refine e_sat ?_
      (repeat (first | exact Imp.refl | exact Imp.nil | (apply Imp.pick; (focus ((repeat constructor); done))) | refine Imp.drop ?_))
    rw [decide_eq_true e1]
    ((with_reducible refine e_gdT ?_)); ((with_reducible refine e_gdT ?_))
    (refine' e_call (num) ?hp fun _ => ?_; (case hp => (repeat (first | exact Picks.nil | (apply Picks.cons; (focus (repeat constructor)))))); (try simp only [List.cons_append, List.nil_append, Bool.not_true, Bool.not_false]))
    ((with_reducible refine e_gdT ?_))
    refine e_opN v_eql Imp.nil ?_
    by_cases e2 : (lsF (choicesF t)).2 = 0
    rotate_left
    · rw [decide_eq_false e2]
      (((with_reducible refine e_opN v_pickT Imp.nil ?_))); ((with_reducible refine e_condF ?_))
      refine e_sat ?_
      (repeat (first | exact Imp.refl | exact Imp.nil | (apply Imp.pick; (focus ((repeat constructor); done))) | refine Imp.drop ?_))
    rw [decide_eq_true e2]
    obtain ⟨xa, hxa⟩ : ∃ xa, xa = (lsF (choicesF s)).1 := ⟨_, rfl⟩
    obtain ⟨xb, hxb⟩ : ∃ xb, xb = (lsF (choicesF t)).1 := ⟨_, rfl⟩
    have la : xa.length ≤ s.length + 1 := by rw [hxa]; exact ls_len
    have lb : xb.length ≤ t.length + 1 := by rw [hxb]; exact ls_len
    have hj := choices_join (ls_ok e1) (ls_ok e2)
    rw [hj, ← hxa, ← hxb]
    simp only [lsF]
    (((with_reducible refine e_opN v_pickT Imp.nil ?_))); ((with_reducible refine e_condT ?_))
    (refine' e_call (num) ?hp fun _ => ?_; (case hp => (repeat (first | exact Picks.nil | (apply Picks.cons; (focus (repeat constructor)))))); (try simp only [List.cons_append, List.nil_append, Bool.not_true, Bool.not_false]))
    refine e_opN v_neq Imp.nil ?_
    rw [decide_eq_false (fun c => c rfl)]
    ((with_reducible refine e_gdT ?_)); ((with_reducible refine e_gdT ?_)); (((with_reducible refine e_opN v_len Imp.nil ?_))); ((with_reducible refine e_gdT ?_)); ((with_reducible refine e_gdT ?_)); (((with_reducible refine e_opN v_len Imp.nil ?_))); ((with_reducible refine e_gdT ?_)); ((with_reducible refine e_gdT ?_)); (((with_reducible refine e_opN v_len Imp.nil ?_))); ((with_reducible refine e_gdT ?_)); (((with_reducible refine e_opN (v_add ?h1 ?h2) Imp.nil ?_); (case h1 => omega); (case h2 => omega))); ((with_reducible refine e_gdT ?_))
    refine e_opN v_neq Imp.nil ?_
    rw [decide_eq_false (fun c => c (by rw [List.length_append]; push_cast; rfl))]
    (((with_reducible refine e_opN v_pickF Imp.nil ?_))); ((with_reducible refine e_condF ?_))
    have hx : (xa ++ xb).length ≤ 2097154 := by rw [List.length_append]; omega
    refine e_loop1 (fun m y => [ex fun i : Nat => all [pu (m + i = (xa ++ xb).length ∧ y = .int .i64 (i : Int)), Sl 2 54 a1 c1 xa.length (xa.flatMap pChoice), Sl 2 54 a2 c2 xb.length (xb.flatMap pChoice), Sl 2 54 a3 c3 (xa ++ xb).length ((xa ++ xb).flatMap pChoice)]] ++ F) (xa ++ xb).length ?_ ?_
    · refine Imp.ex 0 (.all ?_)
      (try simp only [List.cons_append, List.nil_append, -eq_self])
      refine .pu ⟨rfl, rfl⟩ ?_
      (repeat (first | exact Imp.refl | exact Imp.nil | (apply Imp.pick; (focus ((repeat constructor); done))) | refine Imp.drop ?_))
    intro m ds y
    (try simp only [List.cons_append, List.nil_append, -eq_self])
    refine e_ex Pick.here fun i => e_all Pick.here ?_
    (try simp only [List.cons_append, List.nil_append, -eq_self])
    refine e_pu Pick.here fun hi => ?_
    obtain ⟨hmi, rfl⟩ := hi
    refine e_opN v_len Imp.nil ?_
    refine e_ask v_lss Imp.nil (fun h => ?_) (fun h => ?_)
    · have hil : i < (xa ++ xb).length := by omega
      have hil2 := hil
      rw [List.length_append] at hil2
      refine e_condT ?_
      refine e_slsome (a := a3) (.there (.there .here)) (Nat.zero_lt_of_lt hil) fun g3 h3 => ?_
      subst h3
      refine e_drS ?_
      refine e_stS v_len Imp.nil ?_
      refine e_askS v_lss Imp.nil (fun h1 => ?_) (fun h1 => ?_)
      · have hia : i < xa.length := by omega
        refine e_slsome (a := a1) .here (Nat.zero_lt_of_lt hia) fun g1 h4 => ?_
        subst h4
        refine e_gdT ?_
        refine e_gdT ?_
        refine e_gdT ?_
        refine e_stS (v_ia i rfl hil) Imp.nil ?_
        refine e_gdT ?_
        refine e_stS (ld_choice hil rfl) (.pick (by (repeat constructor)) .nil) ?_
        refine e_gdT ?_
        refine e_gdT ?_
        refine e_gdT ?_
        refine e_stS (v_ia i rfl hia) Imp.nil ?_
        refine e_gdT ?_
        refine e_stS (ld_choice hia rfl) (.pick (by (repeat constructor)) .nil) ?_
        refine e_gdT ?_
        refine e_stS (v_choiceNe _ _) Imp.nil ?_
        rw [List.getElem_append_left hia, choice_same]
        refine e_stS v_pickT Imp.nil ?_
        refine e_gdT ?_
        refine e_gdT ?_
        refine e_gdT ?_
        refine e_stS v_len Imp.nil ?_
        refine e_gdT ?_
        refine e_stS v_geq Imp.nil ?_
        rw [decide_eq_false (by omega)]
        ((with_reducible refine e_gdT ?_)); ((with_reducible refine e_gdF2 ?_)); ((with_reducible refine e_gdF2 ?_)); ((with_reducible refine e_gdF2 ?_)); ((with_reducible refine e_gdF2 ?_)); ((with_reducible refine e_gdF2 ?_)); ((with_reducible refine e_gdF2 ?_)); ((with_reducible refine e_gdF2 ?_)); ((with_reducible refine e_gdF2 ?_)); ((with_reducible refine e_gdF2 ?_)); ((with_reducible refine e_gdF2 ?_)); ((with_reducible refine e_gdF2 ?_)); ((with_reducible refine e_gdF2 ?_)); ((with_reducible refine e_gdT ?_)); (((with_reducible refine e_stS v_pickF Imp.nil ?_))); (((with_reducible refine e_stS v_pickF Imp.nil ?_))); ((with_reducible refine e_condF ?_)); (((with_reducible refine e_opN (v_add ?h1 ?h2) Imp.nil ?_); (case h1 => omega); (case h2 => omega)))
        refine e_next1 (m - 1) (by omega) (.ex (i + 1) (.all ?_))
        (try simp only [List.cons_append, List.nil_append, -eq_self])
        refine .pu ⟨by omega, rfl⟩ ?_
        (repeat (first | exact Imp.refl | exact Imp.nil | (apply Imp.pick; (focus ((repeat constructor); done))) | refine Imp.drop ?_))
      · have hib : i - xa.length < xb.length := by omega
        refine e_slsome (a := a2) (.there .here) (Nat.zero_lt_of_lt hib) fun g2 h4 => ?_
        subst h4
        ((with_reducible refine e_gdF2 ?_)); ((with_reducible refine e_gdF2 ?_)); ((with_reducible refine e_gdF2 ?_)); ((with_reducible refine e_gdF2 ?_)); ((with_reducible refine e_gdF2 ?_)); ((with_reducible refine e_gdF2 ?_)); ((with_reducible refine e_gdF2 ?_)); ((with_reducible refine e_gdF2 ?_)); ((with_reducible refine e_gdF2 ?_)); (((with_reducible refine e_stS v_pickF Imp.nil ?_))); ((with_reducible refine e_gdT ?_)); ((with_reducible refine e_gdT ?_)); ((with_reducible refine e_gdT ?_)); (((with_reducible refine e_stS v_len Imp.nil ?_))); ((with_reducible refine e_gdT ?_))
        refine e_stS v_geq Imp.nil ?_
        rw [decide_eq_true (by omega)]
        refine e_gdT ?_
        refine e_gdT ?_
        refine e_gdT ?_
        refine e_gdT ?_
        refine e_stS (v_ia i rfl hil) Imp.nil ?_
        refine e_gdT ?_
        refine e_stS (ld_choice hil rfl) (.pick (by (repeat constructor)) .nil) ?_
        refine e_gdT ?_
        refine e_gdT ?_
        refine e_gdT ?_
        refine e_gdT ?_
        refine e_stS v_len Imp.nil ?_
        refine e_gdT ?_
        refine e_stS (v_sub (by omega) (by omega)) Imp.nil ?_
        refine e_gdT ?_
        refine e_stS (v_ia (i - xa.length) (by omega) hib) Imp.nil ?_
        refine e_gdT ?_
        refine e_stS (ld_choice hib rfl) (.pick (by (repeat constructor)) .nil) ?_
        refine e_gdT ?_
        refine e_stS (v_choiceNe _ _) Imp.nil ?_
        rw [List.getElem_append_right (by omega), choice_same]
        ((with_reducible refine e_gdT ?_)); (((with_reducible refine e_stS v_pickT Imp.nil ?_))); (((with_reducible refine e_stS v_pickF Imp.nil ?_))); ((with_reducible refine e_condF ?_)); (((with_reducible refine e_opN (v_add ?h1 ?h2) Imp.nil ?_); (case h1 => omega); (case h2 => omega)))
        refine e_next1 (m - 1) (by omega) (.ex (i + 1) (.all ?_))
        (try simp only [List.cons_append, List.nil_append, -eq_self])
        refine .pu ⟨by omega, rfl⟩ ?_
        (repeat (first | exact Imp.refl | exact Imp.nil | (apply Imp.pick; (focus ((repeat constructor); done))) | refine Imp.drop ?_))
    · refine e_condF ?_
      refine e_sat ?_
      (repeat (first | exact Imp.refl | exact Imp.nil | (apply Imp.pick; (focus ((repeat constructor); done))) | refine Imp.drop ?_))
  intro ds0
  refine e_call (directives (l := s) (by omega)) .nil fun r => ?_
  obtain ⟨a1, c1⟩ := r
  (try simp only [List.cons_append, List.nil_append, -eq_self])
  refine e_opN (v_extN (vs := [_, _]) .here) Imp.nil ?_
  refine e_opN (v_extN (vs := [_, _]) (.there .here)) Imp.nil ?_
  refine e_call (directives (l := t) (by omega)) .nil fun r => ?_
  obtain ⟨a2, c2⟩ := r
  (try simp only [List.cons_append, List.nil_append, -eq_self])
  refine e_opN (v_extN (vs := [_, _]) .here) Imp.nil ?_
  refine e_opN (v_extN (vs := [_, _]) (.there .here)) Imp.nil ?_
  refine e_call (directives (l := s ++ 44 :: t) (by exact hb)) .nil fun r => ?_
  obtain ⟨a3, c3⟩ := r
  (try simp only [List.cons_append, List.nil_append, -eq_self])
  refine e_opN (v_extN (vs := [_, _]) .here) Imp.nil ?_
  refine e_opN (v_extN (vs := [_, _]) (.there .here)) Imp.nil ?_
  (refine' e_call (num) ?hp fun _ => ?_; (case hp => (repeat (first | exact Picks.nil | (apply Picks.cons; (focus (repeat constructor)))))); (try simp only [List.cons_append, List.nil_append, Bool.not_true, Bool.not_false]))
  refine e_opN v_neq Imp.nil ?_
  by_cases e1 : (lsF (dirsF s)).2 = 0
  rotate_left
  · rw [decide_eq_true e1]
    ((with_reducible refine e_gdF1 ?_)); ((with_reducible refine e_gdF1 ?_)); ((with_reducible refine e_gdF1 ?_)); (((with_reducible refine e_opN v_pickT Imp.nil ?_))); ((with_reducible refine e_condT ?_))
    refine e_call knows .nil fun _ => ?_
    (try simp only [List.cons_append, List.nil_append, -eq_self])
    (first | refine e_ret (()) rfl ?_ | refine e_retT (()) ?_)
    (repeat (first | exact Imp.refl | exact Imp.nil | (apply Imp.pick; (focus ((repeat constructor); done))) | refine Imp.drop ?_))
  rw [decide_eq_false (fun c => c e1)]
  ((with_reducible refine e_gdT ?_)); ((with_reducible refine e_gdT ?_))
  (refine' e_call (num) ?hp fun _ => ?_; (case hp => (repeat (first | exact Picks.nil | (apply Picks.cons; (focus (repeat constructor)))))); (try simp only [List.cons_append, List.nil_append, Bool.not_true, Bool.not_false]))
  ((with_reducible refine e_gdT ?_))
  refine e_opN v_neq Imp.nil ?_
  by_cases e2 : (lsF (dirsF t)).2 = 0
  rotate_left
  · rw [decide_eq_true e2]
    (((with_reducible refine e_opN v_pickF Imp.nil ?_))); ((with_reducible refine e_condT ?_))
    refine e_call knows .nil fun _ => ?_
    (try simp only [List.cons_append, List.nil_append, -eq_self])
    (first | refine e_ret (()) rfl ?_ | refine e_retT (()) ?_)
    (repeat (first | exact Imp.refl | exact Imp.nil | (apply Imp.pick; (focus ((repeat constructor); done))) | refine Imp.drop ?_))
  rw [decide_eq_false (fun c => c e2)]
  obtain ⟨xa, hxa⟩ : ∃ xa, xa = (lsF (dirsF s)).1 := ⟨_, rfl⟩
  obtain ⟨xb, hxb⟩ : ∃ xb, xb = (lsF (dirsF t)).1 := ⟨_, rfl⟩
  have la : xa.length ≤ s.length + 1 := by rw [hxa]; exact ls_len
  have lb : xb.length ≤ t.length + 1 := by rw [hxb]; exact ls_len
  have hj := dirs_join (ls_ok e1) (ls_ok e2)
  rw [hj, ← hxa, ← hxb]
  simp only [lsF]
  (((with_reducible refine e_opN v_pickF Imp.nil ?_))); ((with_reducible refine e_condF ?_))
  (refine' e_call (num) ?hp fun _ => ?_; (case hp => (repeat (first | exact Picks.nil | (apply Picks.cons; (focus (repeat constructor)))))); (try simp only [List.cons_append, List.nil_append, Bool.not_true, Bool.not_false]))
  refine e_opN v_neq Imp.nil ?_
  rw [decide_eq_false (fun c => c rfl)]
  ((with_reducible refine e_gdT ?_)); ((with_reducible refine e_gdT ?_)); (((with_reducible refine e_opN v_len Imp.nil ?_))); ((with_reducible refine e_gdT ?_)); ((with_reducible refine e_gdT ?_)); (((with_reducible refine e_opN v_len Imp.nil ?_))); ((with_reducible refine e_gdT ?_)); ((with_reducible refine e_gdT ?_)); (((with_reducible refine e_opN v_len Imp.nil ?_))); ((with_reducible refine e_gdT ?_)); (((with_reducible refine e_opN (v_add ?h1 ?h2) Imp.nil ?_); (case h1 => omega); (case h2 => omega))); ((with_reducible refine e_gdT ?_))
  refine e_opN v_neq Imp.nil ?_
  rw [decide_eq_false (fun c => c (by rw [List.length_append]; push_cast; rfl))]
  (((with_reducible refine e_opN v_pickF Imp.nil ?_))); ((with_reducible refine e_condF ?_))
  have hx : (xa ++ xb).length ≤ 2097154 := by rw [List.length_append]; omega
  refine e_loop1 (fun m y => [ex fun i : Nat => all [pu (m + i = (xa ++ xb).length ∧ y = .int .i64 (i : Int)), Sl 3 59 a1 c1 xa.length (xa.flatMap pDir), Sl 3 59 a2 c2 xb.length (xb.flatMap pDir), Sl 3 59 a3 c3 (xa ++ xb).length ((xa ++ xb).flatMap pDir)]] ++ F) (xa ++ xb).length ?_ ?_
  · refine Imp.ex 0 (.all ?_)
    (try simp only [List.cons_append, List.nil_append, -eq_self])
    refine .pu ⟨rfl, rfl⟩ ?_
    (repeat (first | exact Imp.refl | exact Imp.nil | (apply Imp.pick; (focus ((repeat constructor); done))) | refine Imp.drop ?_))
  intro m ds y
  (try simp only [List.cons_append, List.nil_append, -eq_self])
  refine e_ex Pick.here fun i => e_all Pick.here ?_
  (try simp only [List.cons_append, List.nil_append, -eq_self])
  refine e_pu Pick.here fun hi => ?_
  obtain ⟨hmi, rfl⟩ := hi
  refine e_opN v_len Imp.nil ?_
  refine e_ask v_lss Imp.nil (fun h => ?_) (fun h => ?_)
  · have hil : i < (xa ++ xb).length := by omega
    have hil2 := hil
    rw [List.length_append] at hil2
    refine e_condT ?_
    refine e_slsome (a := a3) (.there (.there .here)) (Nat.zero_lt_of_lt hil) fun g3 h3 => ?_
    subst h3
    refine e_drS ?_
    refine e_stS v_len Imp.nil ?_
    refine e_askS v_lss Imp.nil (fun h1 => ?_) (fun h1 => ?_)
    · have hia : i < xa.length := by omega
      refine e_slsome (a := a1) .here (Nat.zero_lt_of_lt hia) fun g1 h4 => ?_
      subst h4
      refine e_gdT ?_
      refine e_gdT ?_
      refine e_gdT ?_
      refine e_stS (v_ia i rfl hil) Imp.nil ?_
      refine e_gdT ?_
      refine e_stS (ld_dir hil rfl) (.pick (by (repeat constructor)) .nil) ?_
      refine e_gdT ?_
      refine e_gdT ?_
      refine e_gdT ?_
      refine e_stS (v_ia i rfl hia) Imp.nil ?_
      refine e_gdT ?_
      refine e_stS (ld_dir hia rfl) (.pick (by (repeat constructor)) .nil) ?_
      refine e_gdT ?_
      refine e_stS (v_dirNe _ _) Imp.nil ?_
      rw [List.getElem_append_left hia, dir_same]
      refine e_stS v_pickT Imp.nil ?_
      refine e_gdT ?_
      refine e_gdT ?_
      refine e_gdT ?_
      refine e_stS v_len Imp.nil ?_
      refine e_gdT ?_
      refine e_stS v_geq Imp.nil ?_
      rw [decide_eq_false (by omega)]
      ((with_reducible refine e_gdT ?_)); ((with_reducible refine e_gdF2 ?_)); ((with_reducible refine e_gdF2 ?_)); ((with_reducible refine e_gdF2 ?_)); ((with_reducible refine e_gdF2 ?_)); ((with_reducible refine e_gdF2 ?_)); ((with_reducible refine e_gdF2 ?_)); ((with_reducible refine e_gdF2 ?_)); ((with_reducible refine e_gdF2 ?_)); ((with_reducible refine e_gdF2 ?_)); ((with_reducible refine e_gdF2 ?_)); ((with_reducible refine e_gdF2 ?_)); ((with_reducible refine e_gdF2 ?_)); ((with_reducible refine e_gdT ?_)); (((with_reducible refine e_stS v_pickF Imp.nil ?_))); (((with_reducible refine e_stS v_pickF Imp.nil ?_))); ((with_reducible refine e_condF ?_)); (((with_reducible refine e_opN (v_add ?h1 ?h2) Imp.nil ?_); (case h1 => omega); (case h2 => omega)))
      refine e_next1 (m - 1) (by omega) (.ex (i + 1) (.all ?_))
      (try simp only [List.cons_append, List.nil_append, -eq_self])
      refine .pu ⟨by omega, rfl⟩ ?_
      (repeat (first | exact Imp.refl | exact Imp.nil | (apply Imp.pick; (focus ((repeat constructor); done))) | refine Imp.drop ?_))
    · have hib : i - xa.length < xb.length := by omega
      refine e_slsome (a := a2) (.there .here) (Nat.zero_lt_of_lt hib) fun g2 h4 => ?_
      subst h4
      ((with_reducible refine e_gdF2 ?_)); ((with_reducible refine e_gdF2 ?_)); ((with_reducible refine e_gdF2 ?_)); ((with_reducible refine e_gdF2 ?_)); ((with_reducible refine e_gdF2 ?_)); ((with_reducible refine e_gdF2 ?_)); ((with_reducible refine e_gdF2 ?_)); ((with_reducible refine e_gdF2 ?_)); ((with_reducible refine e_gdF2 ?_)); (((with_reducible refine e_stS v_pickF Imp.nil ?_))); ((with_reducible refine e_gdT ?_)); ((with_reducible refine e_gdT ?_)); ((with_reducible refine e_gdT ?_)); (((with_reducible refine e_stS v_len Imp.nil ?_))); ((with_reducible refine e_gdT ?_))
      refine e_stS v_geq Imp.nil ?_
      rw [decide_eq_true (by omega)]
      refine e_gdT ?_
      refine e_gdT ?_
      refine e_gdT ?_
      refine e_gdT ?_
      refine e_stS (v_ia i rfl hil) Imp.nil ?_
      refine e_gdT ?_
      refine e_stS (ld_dir hil rfl) (.pick (by (repeat constructor)) .nil) ?_
      refine e_gdT ?_
      refine e_gdT ?_
      refine e_gdT ?_
      refine e_gdT ?_
      refine e_stS v_len Imp.nil ?_
      refine e_gdT ?_
      refine e_stS (v_sub (by omega) (by omega)) Imp.nil ?_
      refine e_gdT ?_
      refine e_stS (v_ia (i - xa.length) (by omega) hib) Imp.nil ?_
      refine e_gdT ?_
      refine e_stS (ld_dir hib rfl) (.pick (by (repeat constructor)) .nil) ?_
      refine e_gdT ?_
      refine e_stS (v_dirNe _ _) Imp.nil ?_
      rw [List.getElem_append_right (by omega), dir_same]
      ((with_reducible refine e_gdT ?_)); (((with_reducible refine e_stS v_pickT Imp.nil ?_))); (((with_reducible refine e_stS v_pickF Imp.nil ?_))); ((with_reducible refine e_condF ?_)); (((with_reducible refine e_opN (v_add ?h1 ?h2) Imp.nil ?_); (case h1 => omega); (case h2 => omega)))
      refine e_next1 (m - 1) (by omega) (.ex (i + 1) (.all ?_))
      (try simp only [List.cons_append, List.nil_append, -eq_self])
      refine .pu ⟨by omega, rfl⟩ ?_
      (repeat (first | exact Imp.refl | exact Imp.nil | (apply Imp.pick; (focus ((repeat constructor); done))) | refine Imp.drop ?_))
  · refine e_condF ?_
    refine e_call knows .nil fun _ => ?_
    (try simp only [List.cons_append, List.nil_append, -eq_self])
    (first | refine e_ret (()) rfl ?_ | refine e_retT (()) ?_)
    (repeat (first | exact Imp.refl | exact Imp.nil | (apply Imp.pick; (focus ((repeat constructor); done))) | refine Imp.drop ?_))
end Go.Proofs.YtcigoifhcfbcdaaDoor.FD
