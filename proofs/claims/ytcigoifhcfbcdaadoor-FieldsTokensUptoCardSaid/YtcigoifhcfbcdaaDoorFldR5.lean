/- The document's lists. Printed by a program of mine (d23.py). A text of at most 2097152 bytes. -/
import Derived.Test.YtcigoifhcfbcdaaDoorFldR4
set_option linter.unusedVariables false
set_option linter.unusedSimpArgs false
namespace Go.Proofs.YtcigoifhcfbcdaaDoor.FD
open Go Go.Proofs Go.RowKit Go.Proofs.YtcigoifhcfbcdaaDoor.Sh Go.Proofs.YtcigoifhcfbcdaaDoor.Sl Go.Proofs.YtcigoifhcfbcdaaDoor.T
theorem rtokens {W : World} {l : List UInt8} (hl : l.length ≤ 2097152) : Cn Tryd.prog 16 [txt l] W [] (fun r : Option Addr × Nat => .tuple #[.slice r.1 (lsF (tokensF l)).1.length r.2, .int .i64 (lsF (tokensF l)).2])
    (fun r => [Sl 1 9 r.1 r.2 (lsF (tokensF l)).1.length ((lsF (tokensF l)).1.flatMap pstring)]) := by
  have fin : tokensF l = none → ∀ F : List HP, Ent W F (fun w => ∃ r : Option Addr × Nat, (.tuple #[.slice none 0 0, .int .i64 42] : Value) = .tuple #[.slice r.1 (lsF (tokensF l)).1.length r.2, .int .i64 (lsF (tokensF l)).2] ∧ sat W ([Sl 1 9 r.1 r.2 (lsF (tokensF l)).1.length ((lsF (tokensF l)).1.flatMap pstring)] ++ F) w) := by
    intro h F
    rw [h]
    refine e_ret (none, 0) rfl ?_
    exact imp_nil .refl
  (refine S.ref10_Tokens_cn fun F => ?_; unfold S.ref10_Tokens; simp only [List.cons_append, List.nil_append])
  have hs : tokensF l = listF tokenF (elemsF false false l) := rfl
  have hnum := elems_num (q := false) (e := false) (l := l)
  refine e_call (relements (l := l) (q := false) (e := false) (by omega)) .nil fun r => ?_
  obtain ⟨ea, ec⟩ := r
  (try simp only [List.cons_append, List.nil_append, -eq_self])
  obtain ⟨E, hE⟩ : ∃ E, E = elemsF false false l := ⟨_, rfl⟩
  have hEl : ∀ w ∈ E, w.length ≤ 2097152 := fun w hw => by
    rw [hE] at hw
    have := elems_len hw
    omega
  rw [← hE] at hnum hs ⊢
  refine e_loop2 (fun m y5 y6 => [ex fun st : Nat × Option Addr × Nat => all [pu (m + st.1 = E.length ∧ y5 = .slice st.2.1 st.1 st.2.2 ∧ y6 = .int .i64 (st.1 : Int) ∧ (E.take st.1).all (fun w => (tokenF w).2) = true), Sl 1 9 st.2.1 st.2.2 st.1 ((E.take st.1).flatMap fun w => pstring (tokenF w).1), Sl 1 9 ea ec E.length (E.map txt)]] ++ F) E.length ?_ ?_
  · refine Imp.ex (0, none, 0) (.all ?_)
    (try simp only [List.cons_append, List.nil_append, -eq_self])
    refine .pu ⟨rfl, rfl, rfl, rfl⟩ ?_
    exact imp_nil .refl
  intro m ds y5 y6
  (try simp only [List.cons_append, List.nil_append, -eq_self])
  refine e_ex Pick.here fun st => e_all Pick.here ?_
  obtain ⟨i, sa, sc⟩ := st
  (try simp only [List.cons_append, List.nil_append, -eq_self])
  refine e_pu Pick.here fun hi => ?_
  (try dsimp only at hi)
  obtain ⟨hmi, rfl, rfl, hok⟩ := hi
  refine e_opN v_len Imp.nil ?_
  refine e_ask v_lss Imp.nil (fun h => ?_) (fun h => ?_)
  · have hil : i < E.length := by omega
    have hwl := hEl _ (List.getElem_mem hil)
    have htk : E.take (i + 1) = E.take i ++ [E[i]] := List.take_succ_eq_append_getElem hil
    refine e_condT ?_
    refine e_slsome (a := ea) (.there .here) (Nat.zero_lt_of_lt hil) fun g hg => ?_
    subst hg
    have ld : RunV Tryd.prog W [Sl 1 9 (some ⟨g, 0, none⟩) ec E.length (E.map txt)] (sLoad 9 (.pointer (some ⟨g, 0 + i, none⟩))) (txt E[i]) := v_ldSl (by rw [Nat.zero_add, List.getElem?_map, List.getElem?_eq_getElem hil]; rfl)
    refine e_opN (v_ia1 i rfl hil) Imp.nil ?_
    refine e_opN ld (.pick (by (repeat constructor)) .nil) ?_
    refine e_call (rtoken (l := E[i]) (by omega)) .nil fun _ => ?_
    (try simp only [List.cons_append, List.nil_append, -eq_self])
    refine e_opN v_not Imp.nil ?_
    cases hk : (tokenF E[i]).2 with
    | false =>
      rw [show tokF E[i] = false from hk]
      refine e_condT ?_
      refine e_imp (M := F) (by (repeat (first | exact Imp.refl | exact Imp.nil | (apply Imp.pick; (focus ((repeat constructor); done))) | refine Imp.drop ?_))) ?_
      refine fin ?_ F
      rw [hs]
      unfold listF
      rw [if_neg]
      intro hall
      have := List.all_eq_true.1 hall _ (List.getElem_mem hil)
      rw [hk] at this; cases this
    | true =>
      rw [show tokF E[i] = true from hk]
      refine e_condF ?_
      refine e_opN (v_ia1 i rfl hil) Imp.nil ?_
      refine e_opN ld (.pick (by (repeat constructor)) .nil) ?_
      refine e_call (rlower (l := E[i]) (by omega)) .nil fun _ => ?_
      (try simp only [List.cons_append, List.nil_append, -eq_self])
      refine e_bsl1 fun gb => ?_
      refine e_app (m := 1) (news := pstring (tokenF E[i]).1) (by (repeat constructor)) (src_pt (e' := 9) (by kernel_rfl) .here (by rfl) (by intro u hu; simp [pstring] at hu; subst hu; rfl)) (by omega) (by omega) fun a' c' => ?_
      refine e_opN (v_add (by omega) (by omega)) Imp.nil ?_
      refine e_next2 (m - 1) (by omega) (.ex (i + 1, a', c') (.all ?_))
      (try simp only [List.cons_append, List.nil_append, -eq_self])
      refine .pu ⟨by (try dsimp only); omega, rfl, rfl, ?_⟩ ?_
      · rw [htk, List.all_append, hok]
        simp [hk]
      rw [htk, List.flatMap_append, List.flatMap_singleton]
      refine .pick (by (repeat constructor)) ?_
      (repeat (first | exact Imp.refl | exact Imp.nil | (apply Imp.pick; (focus ((repeat constructor); done))) | refine Imp.drop ?_))
  · have hie : i = E.length := by omega
    subst hie
    rw [List.take_length] at hok ⊢
    have hss : tokensF l = some (E.map fun w => (tokenF w).1) := by
      rw [hs]
      unfold listF
      rw [if_pos hok]
    rw [hss]
    refine e_condF ?_
    refine e_ret (sa, sc) (by simp [lsF]) ?_
    simp only [lsF, List.length_map, List.flatMap_map]
    (repeat (first | exact Imp.refl | exact Imp.nil | (apply Imp.pick; (focus ((repeat constructor); done))) | refine Imp.drop ?_))
theorem rchoices {W : World} {l : List UInt8} (hl : l.length ≤ 2097152) : Cn Tryd.prog 18 [txt l] W [] (fun r : Option Addr × Nat => .tuple #[.slice r.1 (lsF (choicesF l)).1.length r.2, .int .i64 (lsF (choicesF l)).2])
    (fun r => [Sl 2 101 r.1 r.2 (lsF (choicesF l)).1.length ((lsF (choicesF l)).1.flatMap pChoice)]) := by
  have fin : choicesF l = none → ∀ F : List HP, Ent W F (fun w => ∃ r : Option Addr × Nat, (.tuple #[.slice none 0 0, .int .i64 42] : Value) = .tuple #[.slice r.1 (lsF (choicesF l)).1.length r.2, .int .i64 (lsF (choicesF l)).2] ∧ sat W ([Sl 2 101 r.1 r.2 (lsF (choicesF l)).1.length ((lsF (choicesF l)).1.flatMap pChoice)] ++ F) w) := by
    intro h F
    rw [h]
    refine e_ret (none, 0) rfl ?_
    exact imp_nil .refl
  (refine S.ref10_Choices_cn fun F => ?_; unfold S.ref10_Choices; simp only [List.cons_append, List.nil_append])
  have hs : choicesF l = listF choiceR (elemsF false false l) := choices_eq l
  have hnum := elems_num (q := false) (e := false) (l := l)
  refine e_call (relements (l := l) (q := false) (e := false) (by omega)) .nil fun r => ?_
  obtain ⟨ea, ec⟩ := r
  (try simp only [List.cons_append, List.nil_append, -eq_self])
  obtain ⟨E, hE⟩ : ∃ E, E = elemsF false false l := ⟨_, rfl⟩
  have hEl : ∀ w ∈ E, w.length ≤ 2097152 := fun w hw => by
    rw [hE] at hw
    have := elems_len hw
    omega
  rw [← hE] at hnum hs ⊢
  refine e_loop2 (fun m y5 y6 => [ex fun st : Nat × Option Addr × Nat => all [pu (m + st.1 = E.length ∧ y5 = .slice st.2.1 st.1 st.2.2 ∧ y6 = .int .i64 (st.1 : Int) ∧ (E.take st.1).all (fun w => (choiceR w).2) = true), Sl 2 101 st.2.1 st.2.2 st.1 ((E.take st.1).flatMap fun w => pChoice (choiceR w).1), Sl 1 9 ea ec E.length (E.map txt)]] ++ F) E.length ?_ ?_
  · refine Imp.ex (0, none, 0) (.all ?_)
    (try simp only [List.cons_append, List.nil_append, -eq_self])
    refine .pu ⟨rfl, rfl, rfl, rfl⟩ ?_
    exact imp_nil .refl
  intro m ds y5 y6
  (try simp only [List.cons_append, List.nil_append, -eq_self])
  refine e_ex Pick.here fun st => e_all Pick.here ?_
  obtain ⟨i, sa, sc⟩ := st
  (try simp only [List.cons_append, List.nil_append, -eq_self])
  refine e_pu Pick.here fun hi => ?_
  (try dsimp only at hi)
  obtain ⟨hmi, rfl, rfl, hok⟩ := hi
  refine e_opN v_len Imp.nil ?_
  refine e_ask v_lss Imp.nil (fun h => ?_) (fun h => ?_)
  · have hil : i < E.length := by omega
    have hwl := hEl _ (List.getElem_mem hil)
    have htk : E.take (i + 1) = E.take i ++ [E[i]] := List.take_succ_eq_append_getElem hil
    refine e_condT ?_
    refine e_slsome (a := ea) (.there .here) (Nat.zero_lt_of_lt hil) fun g hg => ?_
    subst hg
    have ld : RunV Tryd.prog W [Sl 1 9 (some ⟨g, 0, none⟩) ec E.length (E.map txt)] (sLoad 9 (.pointer (some ⟨g, 0 + i, none⟩))) (txt E[i]) := v_ldSl (by rw [Nat.zero_add, List.getElem?_map, List.getElem?_eq_getElem hil]; rfl)
    refine e_opN (v_ia1 i rfl hil) Imp.nil ?_
    refine e_opN ld (.pick (by (repeat constructor)) .nil) ?_
    refine e_call (rchoice (l := E[i]) (by omega)) .nil fun _ => ?_
    (try simp only [List.cons_append, List.nil_append, -eq_self])
    refine e_opN (v_extN (vs := [_, _]) .here) Imp.nil ?_
    refine e_opN (v_extN (vs := [_, _]) (.there .here)) Imp.nil ?_
    unfold vChoice
    refine e_newA fun b8 => ?_
    refine e_stAgg .here (by rfl) (by rfl) (by intro u hu; simp at hu; rcases hu with rfl | rfl <;> rfl) ?_
    refine e_opN v_not Imp.nil ?_
    cases hk : (choiceR E[i]).2 with
    | false =>
      refine e_condT ?_
      refine e_imp (M := F) (by (repeat (first | exact Imp.refl | exact Imp.nil | (apply Imp.pick; (focus ((repeat constructor); done))) | refine Imp.drop ?_))) ?_
      refine fin ?_ F
      rw [hs]
      unfold listF
      rw [if_neg]
      intro hall
      have := List.all_eq_true.1 hall _ (List.getElem_mem hil)
      rw [hk] at this; cases this
    | true =>
      refine e_condF ?_
      refine e_opN (v_ldAgg (cs := #[txt (choiceR E[i]).1.1, .int .i64 (choiceR E[i]).1.2]) rfl) (.pick (by (repeat constructor)) .nil) ?_
      refine e_bslS (n := 1) (vs := [vChoice (choiceR E[i]).1]) rfl (by omega) rfl (by intro v hv; rw [List.mem_singleton.1 hv]; rfl) (by omega) fun gb => ?_
      refine e_app (m := 1) (news := pChoice (choiceR E[i]).1) (by (repeat constructor)) (src_pt (s := 2) (e' := 101) (by kernel_rfl) .here (by rfl) (by intro u hu; simp [pChoice] at hu; rcases hu with rfl | rfl <;> rfl)) (by omega) (by omega) fun a' c' => ?_
      refine e_opN (v_add (by omega) (by omega)) Imp.nil ?_
      refine e_next2 (m - 1) (by omega) (.ex (i + 1, a', c') (.all ?_))
      (try simp only [List.cons_append, List.nil_append, -eq_self])
      refine .pu ⟨by (try dsimp only); omega, rfl, rfl, ?_⟩ ?_
      · rw [htk, List.all_append, hok]
        simp [hk]
      rw [htk, List.flatMap_append, List.flatMap_singleton]
      refine .pick (by (repeat constructor)) ?_
      (repeat (first | exact Imp.refl | exact Imp.nil | (apply Imp.pick; (focus ((repeat constructor); done))) | refine Imp.drop ?_))
  · have hie : i = E.length := by omega
    subst hie
    rw [List.take_length] at hok ⊢
    have hss : choicesF l = some (E.map fun w => (choiceR w).1) := by
      rw [hs]
      unfold listF
      rw [if_pos hok]
    rw [hss]
    refine e_condF ?_
    refine e_ret (sa, sc) (by simp [lsF]) ?_
    simp only [lsF, List.length_map, List.flatMap_map]
    (repeat (first | exact Imp.refl | exact Imp.nil | (apply Imp.pick; (focus ((repeat constructor); done))) | refine Imp.drop ?_))
theorem same_strings {W : World} {X : List (List UInt8)} {a1 a2 : Option Addr} {c1 c2 : Nat} (hX : X.length ≤ 4194304) : Cn Tryd.prog 19 [.slice a1 X.length c1, .slice a2 X.length c2] W [Sl 1 9 a1 c1 X.length (X.flatMap pstring), Sl 1 9 a2 c2 X.length (X.flatMap pstring)] (fun _ : Unit => .bool true) (fun _ => []) := by
  (refine S.law01_SameStrings_cn fun F => ?_; unfold S.law01_SameStrings; simp only [List.cons_append, List.nil_append])
  refine e_opN v_len Imp.nil ?_
  refine e_opN v_len Imp.nil ?_
  refine e_opN v_neq Imp.nil ?_
  rw [decide_eq_false (fun c => c rfl)]
  refine e_condF ?_
  refine e_loop1 (fun m y => [ex fun i : Nat => all [pu (m + i = X.length ∧ y = .int .i64 (i : Int)), Sl 1 9 a1 c1 X.length (X.flatMap pstring), Sl 1 9 a2 c2 X.length (X.flatMap pstring)]] ++ F) X.length ?_ ?_
  · refine Imp.ex 0 (.all ?_)
    (try simp only [List.cons_append, List.nil_append, -eq_self])
    exact .pu ⟨rfl, rfl⟩ .refl
  intro m ds y
  (try simp only [List.cons_append, List.nil_append, -eq_self])
  refine e_ex Pick.here fun i => e_all Pick.here ?_
  (try simp only [List.cons_append, List.nil_append, -eq_self])
  refine e_pu Pick.here fun hi => ?_
  obtain ⟨hmi, rfl⟩ := hi
  refine e_opN v_len Imp.nil ?_
  refine e_ask v_lss Imp.nil (fun h => ?_) (fun h => ?_)
  · have hil : i < X.length := by omega
    have hat : (X.flatMap pstring)[0 + i]? = some (txt X[i]) := by
      rw [← map_txt, Nat.zero_add, List.getElem?_map, List.getElem?_eq_getElem hil]; rfl
    refine e_condT ?_
    refine e_slsome (a := a1) .here (Nat.zero_lt_of_lt hil) fun g1 h1 => ?_
    subst h1
    refine e_slsome (a := a2) (.there .here) (Nat.zero_lt_of_lt hil) fun g2 h2 => ?_
    subst h2
    refine e_drS ?_
    refine e_stS (v_ia1 i rfl hil) Imp.nil ?_
    refine e_stS (v_ldSl (v := txt X[i]) hat) (.pick .here .nil) ?_
    refine e_stS (v_ia1 i rfl hil) Imp.nil ?_
    refine e_stS (v_ldSl (v := txt X[i]) hat) (.pick (.there .here) .nil) ?_
    refine e_stS v_strne Imp.nil ?_
    rw [decide_eq_false (fun c => c rfl)]
    refine e_condF ?_
    refine e_opN (v_add (by omega) (by omega)) Imp.nil ?_
    refine e_next1 (m - 1) (by omega) (.ex (i + 1) (.all ?_))
    (try simp only [List.cons_append, List.nil_append, -eq_self])
    exact .pu ⟨by omega, rfl⟩ .refl
  · refine e_condF ?_
    (first | refine e_ret (()) rfl ?_ | refine e_retT (()) ?_)
    (repeat (first | exact Imp.refl | exact Imp.nil | (apply Imp.pick; (focus ((repeat constructor); done))) | refine Imp.drop ?_))
theorem same_choices {W : World} {X : List (List UInt8 × Int)} {a1 a2 : Option Addr} {c1 c2 : Nat} (hX : X.length ≤ 4194304) : Cn Tryd.prog 20 [.slice a1 X.length c1, .slice a2 X.length c2] W [Sl 2 54 a1 c1 X.length (X.flatMap pChoice), Sl 2 101 a2 c2 X.length (X.flatMap pChoice)] (fun _ : Unit => .bool true) (fun _ => []) := by
  (refine S.law10_choices_cn fun F => ?_; unfold S.law10_choices; simp only [List.cons_append, List.nil_append])
  refine e_opN v_len Imp.nil ?_
  refine e_opN v_len Imp.nil ?_
  refine e_opN v_neq Imp.nil ?_
  rw [decide_eq_false (fun c => c rfl)]
  refine e_condF ?_
  refine e_loop1 (fun m y => [ex fun i : Nat => all [pu (m + i = X.length ∧ y = .int .i64 (i : Int)), Sl 2 54 a1 c1 X.length (X.flatMap pChoice), Sl 2 101 a2 c2 X.length (X.flatMap pChoice)]] ++ F) X.length ?_ ?_
  · refine Imp.ex 0 (.all ?_)
    (try simp only [List.cons_append, List.nil_append, -eq_self])
    exact .pu ⟨rfl, rfl⟩ .refl
  intro m ds y
  (try simp only [List.cons_append, List.nil_append, -eq_self])
  refine e_ex Pick.here fun i => e_all Pick.here ?_
  (try simp only [List.cons_append, List.nil_append, -eq_self])
  refine e_pu Pick.here fun hi => ?_
  obtain ⟨hmi, rfl⟩ := hi
  refine e_opN v_len Imp.nil ?_
  refine e_ask v_lss Imp.nil (fun h => ?_) (fun h => ?_)
  · have hil : i < X.length := by omega
    have hat0 : (X.flatMap pChoice)[0 + i * 2 + 0]? = some (txt X[i].1) := by
      have := flat_get (f := pChoice) (s := 2) (fun _ => rfl) X i 0 hil (by omega)
      rw [Nat.zero_add, this]; rfl
    have hat1 : (X.flatMap pChoice)[0 + i * 2 + 1]? = some (.int .i64 X[i].2) := by
      have := flat_get (f := pChoice) (s := 2) (fun _ => rfl) X i 1 hil (by omega)
      rw [Nat.zero_add, this]; rfl
    refine e_condT ?_
    refine e_slsome (a := a1) .here (Nat.zero_lt_of_lt hil) fun g1 h1 => ?_
    subst h1
    refine e_slsome (a := a2) (.there .here) (Nat.zero_lt_of_lt hil) fun g2 h2 => ?_
    subst h2
    refine e_drS ?_
    refine e_stS (v_ia i rfl hil) Imp.nil ?_
    refine e_stS v_fa Imp.nil ?_
    refine e_stS (v_ldSl (v := txt X[i].1) hat0) (.pick .here .nil) ?_
    refine e_stS (v_ia i rfl hil) Imp.nil ?_
    refine e_stS v_fa Imp.nil ?_
    refine e_stS (v_ldSl (v := txt X[i].1) hat0) (.pick (.there .here) .nil) ?_
    refine e_stS v_strne Imp.nil ?_
    rw [decide_eq_false (fun c => c rfl)]
    refine e_gdT ?_
    refine e_gdT ?_
    refine e_gdT ?_
    refine e_stS (v_ia i rfl hil) Imp.nil ?_
    refine e_gdT ?_
    refine e_stS v_fa Imp.nil ?_
    refine e_gdT ?_
    refine e_stS (v_ldSl (v := .int .i64 X[i].2) hat1) (.pick .here .nil) ?_
    refine e_gdT ?_
    refine e_gdT ?_
    refine e_gdT ?_
    refine e_stS (v_ia i rfl hil) Imp.nil ?_
    refine e_gdT ?_
    refine e_stS v_fa Imp.nil ?_
    refine e_gdT ?_
    refine e_stS (v_ldSl (v := .int .i64 X[i].2) hat1) (.pick (.there .here) .nil) ?_
    refine e_gdT ?_
    refine e_stS v_neq Imp.nil ?_
    rw [decide_eq_false (fun c => c rfl)]
    refine e_stS v_pickF Imp.nil ?_
    refine e_condF ?_
    refine e_opN (v_add (by omega) (by omega)) Imp.nil ?_
    refine e_next1 (m - 1) (by omega) (.ex (i + 1) (.all ?_))
    (try simp only [List.cons_append, List.nil_append, -eq_self])
    exact .pu ⟨by omega, rfl⟩ .refl
  · refine e_condF ?_
    (first | refine e_ret (()) rfl ?_ | refine e_retT (()) ?_)
    (repeat (first | exact Imp.refl | exact Imp.nil | (apply Imp.pick; (focus ((repeat constructor); done))) | refine Imp.drop ?_))
end Go.Proofs.YtcigoifhcfbcdaaDoor.FD
