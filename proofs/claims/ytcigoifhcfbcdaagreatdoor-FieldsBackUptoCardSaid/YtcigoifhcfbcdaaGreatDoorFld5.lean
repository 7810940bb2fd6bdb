/- A list, all of it, for each kind of list. Printed by a program of mine (d21.py). A text of at most 1048576 bytes; what reads one element has its contract. -/
import Derived.Test.YtcigoifhcfbcdaaGreatDoorFld4
import Derived.Test.YtcigoifhcfbcdaaGreatDoorIface
set_option linter.unusedVariables false
set_option linter.unusedSimpArgs false
namespace Go.Proofs.YtcigoifhcfbcdaaGreatDoor.FD
open Go Go.Proofs Go.RowKit Go.Proofs.YtcigoifhcfbcdaaGreatDoor.Sh Go.Proofs.YtcigoifhcfbcdaaGreatDoor.Sl Go.Proofs.YtcigoifhcfbcdaaGreatDoor.T
def vstring (x : List UInt8) : Value := txt x
def pstring (x : List UInt8) : List Value := [txt x]
def vSpan (x : Int × Int) : Value := .agg #[.int .i64 x.1, .int .i64 x.2]
def pSpan (x : Int × Int) : List Value := [.int .i64 x.1, .int .i64 x.2]
theorem list_Span {W : World} {l : List UInt8} {q e : Bool} {f : FuncId} {one : List UInt8 → (Int × Int) × Bool} (hl : l.length ≤ 2097152)
    (hone : ∀ w : List UInt8, w.length ≤ l.length → Cn Tryz.prog f [txt w] W [] (fun _ : Unit => .tuple #[vSpan (one w).1, .bool (one w).2]) (fun _ => [])) :
    Cn Tryz.prog 45 [txt l, .agg #[.bool q, .bool e, fn f]] W [] (fun r : Option Addr × Nat => .tuple #[.slice r.1 (lsF (listF one (elemsF q e l))).1.length r.2, .int .i64 (lsF (listF one (elemsF q e l))).2])
      (fun r => [Sl 2 71 r.1 r.2 (lsF (listF one (elemsF q e l))).1.length ((lsF (listF one (elemsF q e l))).1.flatMap pSpan)]) := by
  have hnum := elems_num (q := q) (e := e) (l := l)
  (refine S.fields_list_fields_Span_cn fun F => ?_; unfold S.fields_list_fields_Span; simp only [List.cons_append, List.nil_append])
  refine e_boxA fun b3 => ?_
  refine e_new1 fun b4 => ?_
  refine e_new1 fun b5 => ?_
  refine e_new1 fun b6 => ?_
  refine e_opN (v_ldAgg (cs := #[.bool q, .bool e, fn f]) rfl) (.pick (by (repeat constructor)) .nil) ?_
  refine e_call els_Span .nil fun c => ?_
  obtain ⟨gs, gk⟩ := c
  (try simp only [List.cons_append, List.nil_append, -eq_self])
  refine e_rf (f := 75) (cap := [.pointer (some ⟨gs, 0, none⟩), .pointer (some ⟨gk, 0, none⟩)]) (ewv q e l)
    (fun k => all [pt gs (.cells #[txt l] 9 (0, 0)), pt gk (.cells #[.bool q, .bool e, fn f] 111 (0, 0)), all [pu (((elemsF q e l).take k).all (fun w => (one w).2) = true ∧ k ≤ (elemsF q e l).length), pt b3 (.cells #[.bool q, .bool e, fn f] 111 (0, 0)), pt b4 (.cells #[.slice none 0 0] 65 (0, 0)), pt b5 (.cells #[.int .i64 0] 23 (0, 0)),
      ex fun r : Option Addr × Nat => all [pt b6 (.cells #[.slice r.1 k r.2] 65 (0, 0)), Sl 2 71 r.1 r.2 k (((elemsF q e l).take k).flatMap fun w => pSpan (one w).1)], all F]])
    (all [pu ((elemsF q e l).all (fun w => (one w).2) = false), pt b4 (.cells #[.slice none 0 0] 65 (0, 0)), pt b5 (.cells #[.int .i64 42] 23 (0, 0)), all F]) rfl ?_ ?_ ?_ ?_ ?_ ?_
  · intro x hx
    obtain ⟨w, _, rfl⟩ := List.mem_map.1 hx
    rfl
  · refine .all ?_
    (try simp only [List.cons_append, List.nil_append, -eq_self])
    refine .pick (by (repeat constructor)) (.pick (by (repeat constructor)) (.all ?_))
    (try simp only [List.cons_append, List.nil_append, -eq_self])
    refine .pu ⟨rfl, Nat.zero_le _⟩ ?_
    refine .pick (by (repeat constructor)) (.pick (by (repeat constructor)) (.pick (by (repeat constructor)) (.ex (none, 0) (.all ?_))))
    (try simp only [List.cons_append, List.nil_append, -eq_self])
    refine .pick (by (repeat constructor)) (imp_nil (.all ?_))
    rw [List.append_nil]
    exact .refl
  · intro lp T T' hy
    rw [ewv_len]
    exact els1_Span (by omega) hy
  · intro k hk F2 T0 T1 B N J hB hN hJ
    rw [ewv_len] at hk
    obtain ⟨w, hwe⟩ : ∃ w, w = (elemsF q e l)[k] := ⟨_, rfl⟩
    have hwl : w.length ≤ l.length := elems_len (by rw [hwe]; exact List.getElem_mem hk)
    have hat : (elemsF q e l)[k]? = some w := by rw [hwe, List.getElem?_eq_getElem hk]
    have e0 : ∀ h, (ewv q e l)[k]'h = [txt w] := fun h => by
      have := ewv_at hat
      rw [List.getElem?_eq_getElem h] at this
      exact Option.some.inj this
    rw [e0]
    simp only [vapp, List.headD_cons, List.tail_cons]
    refine e_all (.there .here) ?_
    (try simp only [List.cons_append, List.nil_append, -eq_self])
    refine e_all (.there (.there .here)) ?_
    (try simp only [List.cons_append, List.nil_append, -eq_self])
    refine e_pu .here fun hp => ?_
    obtain ⟨hp, hkn⟩ := hp
    have htk : (elemsF q e l).take (k + 1) = (elemsF q e l).take k ++ [w] := by rw [List.take_succ_eq_append_getElem hk, hwe]
    refine hB _ _ _ (by (repeat constructor)) ?_
    refine e_ex (A := fun r : Option Addr × Nat => all [pt b6 (.cells #[.slice r.1 k r.2] 65 (0, 0)), Sl 2 71 r.1 r.2 k (((elemsF q e l).take k).flatMap fun w => pSpan (one w).1)]) (by (repeat constructor)) fun r => e_all Pick.here ?_
    obtain ⟨a, c⟩ := r
    (try simp only [List.cons_append, List.nil_append, -eq_self])
    refine e_opN v_fa0 Imp.nil ?_
    refine e_opN (v_ldN (.there (.there .here))) (.pick (by (repeat constructor)) .nil) ?_
    refine e_call (hone w hwl) .nil fun _ => ?_
    (try simp only [List.cons_append, List.nil_append, -eq_self])
    unfold vSpan
    refine e_opN (v_extN (vs := [_, _]) .here) Imp.nil ?_
    refine e_opN (v_extN (vs := [_, _]) (.there .here)) Imp.nil ?_
    refine e_newA fun b8 => ?_
    refine e_stAgg .here (by rfl) (by rfl) (by intro u hu; simp [vSpan] at hu; rcases hu with rfl | rfl <;> rfl) ?_
    refine e_opN v_not Imp.nil ?_
    cases hok : (one w).2 with
    | false =>
      refine e_condT ?_
      refine e_stN (by (repeat constructor)) .here ?_
      refine e_stN (by (repeat constructor)) .here ?_
      refine hJ _ ?_
      refine .pick (by (repeat constructor)) (.all ?_)
      (try simp only [List.cons_append, List.nil_append, -eq_self])
      refine .pu ?_ ?_
      · rw [Bool.eq_false_iff]
        intro hall
        have := List.all_eq_true.1 hall w (by rw [hwe]; exact List.getElem_mem hk)
        rw [hok] at this; cases this
      refine .pick (by (repeat constructor)) (.pick (by (repeat constructor)) ?_)
      (repeat (first | exact Imp.refl | exact Imp.nil | (apply Imp.pick; (focus ((repeat constructor); done))) | refine Imp.drop ?_))
    | true =>
      refine e_condF ?_
      refine e_opN (v_ldN .here) (.pick (by (repeat constructor)) .nil) ?_
      refine e_opN (v_ldAgg (cs := #[.int .i64 (one w).1.1, .int .i64 (one w).1.2]) rfl) (.pick (by (repeat constructor)) .nil) ?_
      refine e_bslS (n := 1) (vs := [vSpan (one w).1]) rfl (by omega) rfl (by intro v hv; rw [List.mem_singleton.1 hv]; rfl) (by omega) fun gb => ?_
      refine e_app (m := 1) (news := pSpan (one w).1) (by (repeat constructor)) (src_pt (s := 2) (e' := 71) (by kernel_rfl) .here (by rfl) (by intro u hu; simp [pSpan] at hu; rcases hu with rfl | rfl <;> rfl)) (by omega) (by omega) fun a' c' => ?_
      refine e_stN (by (repeat constructor)) .here ?_
      refine hN _ ?_
      refine .pick (by (repeat constructor)) (.all ?_)
      (try simp only [List.cons_append, List.nil_append, -eq_self])
      refine .pick (by (repeat constructor)) (.pick (by (repeat constructor)) (.all ?_))
      (try simp only [List.cons_append, List.nil_append, -eq_self])
      refine .pu ⟨?_, by omega⟩ ?_
      · rw [htk, List.all_append, hp]
        simp [hok]
      refine .pick (by (repeat constructor)) (.pick (by (repeat constructor)) (.pick (by (repeat constructor)) (.ex (a', c') (.all ?_))))
      (try simp only [List.cons_append, List.nil_append, -eq_self])
      rw [htk, List.flatMap_append, List.flatMap_singleton]
      refine .pick (by (repeat constructor)) (.pick (by (repeat constructor)) ?_)
      (repeat (first | exact Imp.refl | exact Imp.nil | (apply Imp.pick; (focus ((repeat constructor); done))) | refine Imp.drop ?_))
  · intro d
    rw [ewv_len]
    refine e_all (.there .here) ?_
    (try simp only [List.cons_append, List.nil_append, -eq_self])
    refine e_all (.there (.there .here)) ?_
    (try simp only [List.cons_append, List.nil_append, -eq_self])
    refine e_pu .here fun hp => ?_
    obtain ⟨hp, _⟩ := hp
    rw [List.take_length] at hp ⊢
    refine e_ex (A := fun r : Option Addr × Nat => all [pt b6 (.cells #[.slice r.1 (elemsF q e l).length r.2] 65 (0, 0)), Sl 2 71 r.1 r.2 (elemsF q e l).length ((elemsF q e l).flatMap fun w => pSpan (one w).1)]) (by (repeat constructor)) fun r => e_all Pick.here ?_
    obtain ⟨a, c⟩ := r
    (try simp only [List.cons_append, List.nil_append, -eq_self])
    refine e_opN (v_ldN .here) (.pick (by (repeat constructor)) .nil) ?_
    refine e_stN (by (repeat constructor)) .here ?_
    refine e_stN (by (repeat constructor)) .here ?_
    refine e_tk (by (repeat constructor)) ?_
    refine e_stS (v_res1 .here) (.pick (by (repeat constructor)) .nil) ?_
    refine e_stS (v_res1 .here) (.pick (by (repeat constructor)) .nil) ?_
    have e1 : lsF (listF one (elemsF q e l)) = ((elemsF q e l).map fun w => (one w).1, 0) := by
      unfold listF
      rw [if_pos hp]; rfl
    rw [e1]
    refine e_rest (M := [Sl 2 71 a c (elemsF q e l).length ((elemsF q e l).flatMap fun w => pSpan (one w).1)]) (F := F) (by (repeat (first | exact Imp.refl | exact Imp.nil | (apply Imp.pick; (focus ((repeat constructor); done))) | refine Imp.drop ?_))) ?_
    (try simp only [List.cons_append, List.nil_append, -eq_self])
    refine e_ret (a, c) (by simp) ?_
    simp only [List.length_map, List.flatMap_map]
    exact .refl
  · intro d
    refine e_all (.there .here) ?_
    (try simp only [List.cons_append, List.nil_append, -eq_self])
    refine e_pu .here fun hp => ?_
    refine e_tk (by (repeat constructor)) ?_
    refine e_stS (v_res1 .here) (.pick (by (repeat constructor)) .nil) ?_
    refine e_stS (v_res1 .here) (.pick (by (repeat constructor)) .nil) ?_
    have e1 : lsF (listF one (elemsF q e l)) = ([], 42) := by
      unfold listF
      rw [if_neg (by rw [hp]; simp)]; rfl
    rw [e1]
    refine e_rest (M := []) (F := F) (by (repeat (first | exact Imp.refl | exact Imp.nil | (apply Imp.pick; (focus ((repeat constructor); done))) | refine Imp.drop ?_))) ?_
    (try simp only [List.cons_append, List.nil_append, -eq_self])
    refine e_ret (none, 0) rfl ?_
    exact imp_nil .refl
def vChoice (x : List UInt8 × Int) : Value := .agg #[txt x.1, .int .i64 x.2]
def pChoice (x : List UInt8 × Int) : List Value := [txt x.1, .int .i64 x.2]
theorem list_Choice {W : World} {l : List UInt8} {q e : Bool} {f : FuncId} {one : List UInt8 → (List UInt8 × Int) × Bool} (hl : l.length ≤ 2097152)
    (hone : ∀ w : List UInt8, w.length ≤ l.length → Cn Tryz.prog f [txt w] W [] (fun _ : Unit => .tuple #[vChoice (one w).1, .bool (one w).2]) (fun _ => [])) :
    Cn Tryz.prog 42 [txt l, .agg #[.bool q, .bool e, fn f]] W [] (fun r : Option Addr × Nat => .tuple #[.slice r.1 (lsF (listF one (elemsF q e l))).1.length r.2, .int .i64 (lsF (listF one (elemsF q e l))).2])
      (fun r => [Sl 2 69 r.1 r.2 (lsF (listF one (elemsF q e l))).1.length ((lsF (listF one (elemsF q e l))).1.flatMap pChoice)]) := by
  have hnum := elems_num (q := q) (e := e) (l := l)
  (refine S.fields_list_fields_Choice_cn fun F => ?_; unfold S.fields_list_fields_Choice; simp only [List.cons_append, List.nil_append])
  refine e_boxA fun b3 => ?_
  refine e_new1 fun b4 => ?_
  refine e_new1 fun b5 => ?_
  refine e_new1 fun b6 => ?_
  refine e_opN (v_ldAgg (cs := #[.bool q, .bool e, fn f]) rfl) (.pick (by (repeat constructor)) .nil) ?_
  refine e_call els_Choice .nil fun c => ?_
  obtain ⟨gs, gk⟩ := c
  (try simp only [List.cons_append, List.nil_append, -eq_self])
  refine e_rf (f := 74) (cap := [.pointer (some ⟨gs, 0, none⟩), .pointer (some ⟨gk, 0, none⟩)]) (ewv q e l)
    (fun k => all [pt gs (.cells #[txt l] 9 (0, 0)), pt gk (.cells #[.bool q, .bool e, fn f] 107 (0, 0)), all [pu (((elemsF q e l).take k).all (fun w => (one w).2) = true ∧ k ≤ (elemsF q e l).length), pt b3 (.cells #[.bool q, .bool e, fn f] 107 (0, 0)), pt b4 (.cells #[.slice none 0 0] 62 (0, 0)), pt b5 (.cells #[.int .i64 0] 23 (0, 0)),
      ex fun r : Option Addr × Nat => all [pt b6 (.cells #[.slice r.1 k r.2] 62 (0, 0)), Sl 2 69 r.1 r.2 k (((elemsF q e l).take k).flatMap fun w => pChoice (one w).1)], all F]])
    (all [pu ((elemsF q e l).all (fun w => (one w).2) = false), pt b4 (.cells #[.slice none 0 0] 62 (0, 0)), pt b5 (.cells #[.int .i64 42] 23 (0, 0)), all F]) rfl ?_ ?_ ?_ ?_ ?_ ?_
  · intro x hx
    obtain ⟨w, _, rfl⟩ := List.mem_map.1 hx
    rfl
  · refine .all ?_
    (try simp only [List.cons_append, List.nil_append, -eq_self])
    refine .pick (by (repeat constructor)) (.pick (by (repeat constructor)) (.all ?_))
    (try simp only [List.cons_append, List.nil_append, -eq_self])
    refine .pu ⟨rfl, Nat.zero_le _⟩ ?_
    refine .pick (by (repeat constructor)) (.pick (by (repeat constructor)) (.pick (by (repeat constructor)) (.ex (none, 0) (.all ?_))))
    (try simp only [List.cons_append, List.nil_append, -eq_self])
    refine .pick (by (repeat constructor)) (imp_nil (.all ?_))
    rw [List.append_nil]
    exact .refl
  · intro lp T T' hy
    rw [ewv_len]
    exact els1_Choice (by omega) hy
  · intro k hk F2 T0 T1 B N J hB hN hJ
    rw [ewv_len] at hk
    obtain ⟨w, hwe⟩ : ∃ w, w = (elemsF q e l)[k] := ⟨_, rfl⟩
    have hwl : w.length ≤ l.length := elems_len (by rw [hwe]; exact List.getElem_mem hk)
    have hat : (elemsF q e l)[k]? = some w := by rw [hwe, List.getElem?_eq_getElem hk]
    have e0 : ∀ h, (ewv q e l)[k]'h = [txt w] := fun h => by
      have := ewv_at hat
      rw [List.getElem?_eq_getElem h] at this
      exact Option.some.inj this
    rw [e0]
    simp only [vapp, List.headD_cons, List.tail_cons]
    refine e_all (.there .here) ?_
    (try simp only [List.cons_append, List.nil_append, -eq_self])
    refine e_all (.there (.there .here)) ?_
    (try simp only [List.cons_append, List.nil_append, -eq_self])
    refine e_pu .here fun hp => ?_
    obtain ⟨hp, hkn⟩ := hp
    have htk : (elemsF q e l).take (k + 1) = (elemsF q e l).take k ++ [w] := by rw [List.take_succ_eq_append_getElem hk, hwe]
    refine hB _ _ _ (by (repeat constructor)) ?_
    refine e_ex (A := fun r : Option Addr × Nat => all [pt b6 (.cells #[.slice r.1 k r.2] 62 (0, 0)), Sl 2 69 r.1 r.2 k (((elemsF q e l).take k).flatMap fun w => pChoice (one w).1)]) (by (repeat constructor)) fun r => e_all Pick.here ?_
    obtain ⟨a, c⟩ := r
    (try simp only [List.cons_append, List.nil_append, -eq_self])
    refine e_opN v_fa0 Imp.nil ?_
    refine e_opN (v_ldN (.there (.there .here))) (.pick (by (repeat constructor)) .nil) ?_
    refine e_call (hone w hwl) .nil fun _ => ?_
    (try simp only [List.cons_append, List.nil_append, -eq_self])
    unfold vChoice
    refine e_opN (v_extN (vs := [_, _]) .here) Imp.nil ?_
    refine e_opN (v_extN (vs := [_, _]) (.there .here)) Imp.nil ?_
    refine e_newA fun b8 => ?_
    refine e_stAgg .here (by rfl) (by rfl) (by intro u hu; simp [vChoice] at hu; rcases hu with rfl | rfl <;> rfl) ?_
    refine e_opN v_not Imp.nil ?_
    cases hok : (one w).2 with
    | false =>
      refine e_condT ?_
      refine e_stN (by (repeat constructor)) .here ?_
      refine e_stN (by (repeat constructor)) .here ?_
      refine hJ _ ?_
      refine .pick (by (repeat constructor)) (.all ?_)
      (try simp only [List.cons_append, List.nil_append, -eq_self])
      refine .pu ?_ ?_
      · rw [Bool.eq_false_iff]
        intro hall
        have := List.all_eq_true.1 hall w (by rw [hwe]; exact List.getElem_mem hk)
        rw [hok] at this; cases this
      refine .pick (by (repeat constructor)) (.pick (by (repeat constructor)) ?_)
      (repeat (first | exact Imp.refl | exact Imp.nil | (apply Imp.pick; (focus ((repeat constructor); done))) | refine Imp.drop ?_))
    | true =>
      refine e_condF ?_
      refine e_opN (v_ldN .here) (.pick (by (repeat constructor)) .nil) ?_
      refine e_opN (v_ldAgg (cs := #[txt (one w).1.1, .int .i64 (one w).1.2]) rfl) (.pick (by (repeat constructor)) .nil) ?_
      refine e_bslS (n := 1) (vs := [vChoice (one w).1]) rfl (by omega) rfl (by intro v hv; rw [List.mem_singleton.1 hv]; rfl) (by omega) fun gb => ?_
      refine e_app (m := 1) (news := pChoice (one w).1) (by (repeat constructor)) (src_pt (s := 2) (e' := 69) (by kernel_rfl) .here (by rfl) (by intro u hu; simp [pChoice] at hu; rcases hu with rfl | rfl <;> rfl)) (by omega) (by omega) fun a' c' => ?_
      refine e_stN (by (repeat constructor)) .here ?_
      refine hN _ ?_
      refine .pick (by (repeat constructor)) (.all ?_)
      (try simp only [List.cons_append, List.nil_append, -eq_self])
      refine .pick (by (repeat constructor)) (.pick (by (repeat constructor)) (.all ?_))
      (try simp only [List.cons_append, List.nil_append, -eq_self])
      refine .pu ⟨?_, by omega⟩ ?_
      · rw [htk, List.all_append, hp]
        simp [hok]
      refine .pick (by (repeat constructor)) (.pick (by (repeat constructor)) (.pick (by (repeat constructor)) (.ex (a', c') (.all ?_))))
      (try simp only [List.cons_append, List.nil_append, -eq_self])
      rw [htk, List.flatMap_append, List.flatMap_singleton]
      refine .pick (by (repeat constructor)) (.pick (by (repeat constructor)) ?_)
      (repeat (first | exact Imp.refl | exact Imp.nil | (apply Imp.pick; (focus ((repeat constructor); done))) | refine Imp.drop ?_))
  · intro d
    rw [ewv_len]
    refine e_all (.there .here) ?_
    (try simp only [List.cons_append, List.nil_append, -eq_self])
    refine e_all (.there (.there .here)) ?_
    (try simp only [List.cons_append, List.nil_append, -eq_self])
    refine e_pu .here fun hp => ?_
    obtain ⟨hp, _⟩ := hp
    rw [List.take_length] at hp ⊢
    refine e_ex (A := fun r : Option Addr × Nat => all [pt b6 (.cells #[.slice r.1 (elemsF q e l).length r.2] 62 (0, 0)), Sl 2 69 r.1 r.2 (elemsF q e l).length ((elemsF q e l).flatMap fun w => pChoice (one w).1)]) (by (repeat constructor)) fun r => e_all Pick.here ?_
    obtain ⟨a, c⟩ := r
    (try simp only [List.cons_append, List.nil_append, -eq_self])
    refine e_opN (v_ldN .here) (.pick (by (repeat constructor)) .nil) ?_
    refine e_stN (by (repeat constructor)) .here ?_
    refine e_stN (by (repeat constructor)) .here ?_
    refine e_tk (by (repeat constructor)) ?_
    refine e_stS (v_res1 .here) (.pick (by (repeat constructor)) .nil) ?_
    refine e_stS (v_res1 .here) (.pick (by (repeat constructor)) .nil) ?_
    have e1 : lsF (listF one (elemsF q e l)) = ((elemsF q e l).map fun w => (one w).1, 0) := by
      unfold listF
      rw [if_pos hp]; rfl
    rw [e1]
    refine e_rest (M := [Sl 2 69 a c (elemsF q e l).length ((elemsF q e l).flatMap fun w => pChoice (one w).1)]) (F := F) (by (repeat (first | exact Imp.refl | exact Imp.nil | (apply Imp.pick; (focus ((repeat constructor); done))) | refine Imp.drop ?_))) ?_
    (try simp only [List.cons_append, List.nil_append, -eq_self])
    refine e_ret (a, c) (by simp) ?_
    simp only [List.length_map, List.flatMap_map]
    exact .refl
  · intro d
    refine e_all (.there .here) ?_
    (try simp only [List.cons_append, List.nil_append, -eq_self])
    refine e_pu .here fun hp => ?_
    refine e_tk (by (repeat constructor)) ?_
    refine e_stS (v_res1 .here) (.pick (by (repeat constructor)) .nil) ?_
    refine e_stS (v_res1 .here) (.pick (by (repeat constructor)) .nil) ?_
    have e1 : lsF (listF one (elemsF q e l)) = ([], 42) := by
      unfold listF
      rw [if_neg (by rw [hp]; simp)]; rfl
    rw [e1]
    refine e_rest (M := []) (F := F) (by (repeat (first | exact Imp.refl | exact Imp.nil | (apply Imp.pick; (focus ((repeat constructor); done))) | refine Imp.drop ?_))) ?_
    (try simp only [List.cons_append, List.nil_append, -eq_self])
    refine e_ret (none, 0) rfl ?_
    exact imp_nil .refl
def vDir (x : Dir) : Value := .agg #[txt x.name, txt x.value, .bool x.has]
def pDir (x : Dir) : List Value := [txt x.name, txt x.value, .bool x.has]
theorem list_Dir {W : World} {l : List UInt8} {q e : Bool} {f : FuncId} {one : List UInt8 → (Dir) × Bool} (hl : l.length ≤ 2097152)
    (hone : ∀ w : List UInt8, w.length ≤ l.length → Cn Tryz.prog f [txt w] W [] (fun _ : Unit => .tuple #[vDir (one w).1, .bool (one w).2]) (fun _ => [])) :
    Cn Tryz.prog 18 [txt l, .agg #[.bool q, .bool e, fn f]] W [] (fun r : Option Addr × Nat => .tuple #[.slice r.1 (lsF (listF one (elemsF q e l))).1.length r.2, .int .i64 (lsF (listF one (elemsF q e l))).2])
      (fun r => [Sl 3 44 r.1 r.2 (lsF (listF one (elemsF q e l))).1.length ((lsF (listF one (elemsF q e l))).1.flatMap pDir)]) := by
  have hnum := elems_num (q := q) (e := e) (l := l)
  (refine S.fields_list_fields_Directive_cn fun F => ?_; unfold S.fields_list_fields_Directive; simp only [List.cons_append, List.nil_append])
  refine e_boxA fun b3 => ?_
  refine e_new1 fun b4 => ?_
  refine e_new1 fun b5 => ?_
  refine e_new1 fun b6 => ?_
  refine e_opN (v_ldAgg (cs := #[.bool q, .bool e, fn f]) rfl) (.pick (by (repeat constructor)) .nil) ?_
  refine e_call els_Dir .nil fun c => ?_
  obtain ⟨gs, gk⟩ := c
  (try simp only [List.cons_append, List.nil_append, -eq_self])
  refine e_rf (f := 49) (cap := [.pointer (some ⟨gs, 0, none⟩), .pointer (some ⟨gk, 0, none⟩)]) (ewv q e l)
    (fun k => all [pt gs (.cells #[txt l] 9 (0, 0)), pt gk (.cells #[.bool q, .bool e, fn f] 49 (0, 0)), all [pu (((elemsF q e l).take k).all (fun w => (one w).2) = true ∧ k ≤ (elemsF q e l).length), pt b3 (.cells #[.bool q, .bool e, fn f] 49 (0, 0)), pt b4 (.cells #[.slice none 0 0] 22 (0, 0)), pt b5 (.cells #[.int .i64 0] 23 (0, 0)),
      ex fun r : Option Addr × Nat => all [pt b6 (.cells #[.slice r.1 k r.2] 22 (0, 0)), Sl 3 44 r.1 r.2 k (((elemsF q e l).take k).flatMap fun w => pDir (one w).1)], all F]])
    (all [pu ((elemsF q e l).all (fun w => (one w).2) = false), pt b4 (.cells #[.slice none 0 0] 22 (0, 0)), pt b5 (.cells #[.int .i64 42] 23 (0, 0)), all F]) rfl ?_ ?_ ?_ ?_ ?_ ?_
  · intro x hx
    obtain ⟨w, _, rfl⟩ := List.mem_map.1 hx
    rfl
  · refine .all ?_
    (try simp only [List.cons_append, List.nil_append, -eq_self])
    refine .pick (by (repeat constructor)) (.pick (by (repeat constructor)) (.all ?_))
    (try simp only [List.cons_append, List.nil_append, -eq_self])
    refine .pu ⟨rfl, Nat.zero_le _⟩ ?_
    refine .pick (by (repeat constructor)) (.pick (by (repeat constructor)) (.pick (by (repeat constructor)) (.ex (none, 0) (.all ?_))))
    (try simp only [List.cons_append, List.nil_append, -eq_self])
    refine .pick (by (repeat constructor)) (imp_nil (.all ?_))
    rw [List.append_nil]
    exact .refl
  · intro lp T T' hy
    rw [ewv_len]
    exact els1_Dir (by omega) hy
  · intro k hk F2 T0 T1 B N J hB hN hJ
    rw [ewv_len] at hk
    obtain ⟨w, hwe⟩ : ∃ w, w = (elemsF q e l)[k] := ⟨_, rfl⟩
    have hwl : w.length ≤ l.length := elems_len (by rw [hwe]; exact List.getElem_mem hk)
    have hat : (elemsF q e l)[k]? = some w := by rw [hwe, List.getElem?_eq_getElem hk]
    have e0 : ∀ h, (ewv q e l)[k]'h = [txt w] := fun h => by
      have := ewv_at hat
      rw [List.getElem?_eq_getElem h] at this
      exact Option.some.inj this
    rw [e0]
    simp only [vapp, List.headD_cons, List.tail_cons]
    refine e_all (.there .here) ?_
    (try simp only [List.cons_append, List.nil_append, -eq_self])
    refine e_all (.there (.there .here)) ?_
    (try simp only [List.cons_append, List.nil_append, -eq_self])
    refine e_pu .here fun hp => ?_
    obtain ⟨hp, hkn⟩ := hp
    have htk : (elemsF q e l).take (k + 1) = (elemsF q e l).take k ++ [w] := by rw [List.take_succ_eq_append_getElem hk, hwe]
    refine hB _ _ _ (by (repeat constructor)) ?_
    refine e_ex (A := fun r : Option Addr × Nat => all [pt b6 (.cells #[.slice r.1 k r.2] 22 (0, 0)), Sl 3 44 r.1 r.2 k (((elemsF q e l).take k).flatMap fun w => pDir (one w).1)]) (by (repeat constructor)) fun r => e_all Pick.here ?_
    obtain ⟨a, c⟩ := r
    (try simp only [List.cons_append, List.nil_append, -eq_self])
    refine e_opN v_fa0 Imp.nil ?_
    refine e_opN (v_ldN (.there (.there .here))) (.pick (by (repeat constructor)) .nil) ?_
    refine e_call (hone w hwl) .nil fun _ => ?_
    (try simp only [List.cons_append, List.nil_append, -eq_self])
    unfold vDir
    refine e_opN (v_extN (vs := [_, _]) .here) Imp.nil ?_
    refine e_opN (v_extN (vs := [_, _]) (.there .here)) Imp.nil ?_
    refine e_newA fun b8 => ?_
    refine e_stAgg .here (by rfl) (by rfl) (by intro u hu; simp [vDir] at hu; rcases hu with rfl | rfl | rfl <;> rfl) ?_
    refine e_opN v_not Imp.nil ?_
    cases hok : (one w).2 with
    | false =>
      refine e_condT ?_
      refine e_stN (by (repeat constructor)) .here ?_
      refine e_stN (by (repeat constructor)) .here ?_
      refine hJ _ ?_
      refine .pick (by (repeat constructor)) (.all ?_)
      (try simp only [List.cons_append, List.nil_append, -eq_self])
      refine .pu ?_ ?_
      · rw [Bool.eq_false_iff]
        intro hall
        have := List.all_eq_true.1 hall w (by rw [hwe]; exact List.getElem_mem hk)
        rw [hok] at this; cases this
      refine .pick (by (repeat constructor)) (.pick (by (repeat constructor)) ?_)
      (repeat (first | exact Imp.refl | exact Imp.nil | (apply Imp.pick; (focus ((repeat constructor); done))) | refine Imp.drop ?_))
    | true =>
      refine e_condF ?_
      refine e_opN (v_ldN .here) (.pick (by (repeat constructor)) .nil) ?_
      refine e_opN (v_ldAgg (cs := #[txt (one w).1.name, txt (one w).1.value, .bool (one w).1.has]) rfl) (.pick (by (repeat constructor)) .nil) ?_
      refine e_bslS (n := 1) (vs := [vDir (one w).1]) rfl (by omega) rfl (by intro v hv; rw [List.mem_singleton.1 hv]; rfl) (by omega) fun gb => ?_
      refine e_app (m := 1) (news := pDir (one w).1) (by (repeat constructor)) (src_pt (s := 3) (e' := 44) (by kernel_rfl) .here (by rfl) (by intro u hu; simp [pDir] at hu; rcases hu with rfl | rfl | rfl <;> rfl)) (by omega) (by omega) fun a' c' => ?_
      refine e_stN (by (repeat constructor)) .here ?_
      refine hN _ ?_
      refine .pick (by (repeat constructor)) (.all ?_)
      (try simp only [List.cons_append, List.nil_append, -eq_self])
      refine .pick (by (repeat constructor)) (.pick (by (repeat constructor)) (.all ?_))
      (try simp only [List.cons_append, List.nil_append, -eq_self])
      refine .pu ⟨?_, by omega⟩ ?_
      · rw [htk, List.all_append, hp]
        simp [hok]
      refine .pick (by (repeat constructor)) (.pick (by (repeat constructor)) (.pick (by (repeat constructor)) (.ex (a', c') (.all ?_))))
      (try simp only [List.cons_append, List.nil_append, -eq_self])
      rw [htk, List.flatMap_append, List.flatMap_singleton]
      refine .pick (by (repeat constructor)) (.pick (by (repeat constructor)) ?_)
      (repeat (first | exact Imp.refl | exact Imp.nil | (apply Imp.pick; (focus ((repeat constructor); done))) | refine Imp.drop ?_))
  · intro d
    rw [ewv_len]
    refine e_all (.there .here) ?_
    (try simp only [List.cons_append, List.nil_append, -eq_self])
    refine e_all (.there (.there .here)) ?_
    (try simp only [List.cons_append, List.nil_append, -eq_self])
    refine e_pu .here fun hp => ?_
    obtain ⟨hp, _⟩ := hp
    rw [List.take_length] at hp ⊢
    refine e_ex (A := fun r : Option Addr × Nat => all [pt b6 (.cells #[.slice r.1 (elemsF q e l).length r.2] 22 (0, 0)), Sl 3 44 r.1 r.2 (elemsF q e l).length ((elemsF q e l).flatMap fun w => pDir (one w).1)]) (by (repeat constructor)) fun r => e_all Pick.here ?_
    obtain ⟨a, c⟩ := r
    (try simp only [List.cons_append, List.nil_append, -eq_self])
    refine e_opN (v_ldN .here) (.pick (by (repeat constructor)) .nil) ?_
    refine e_stN (by (repeat constructor)) .here ?_
    refine e_stN (by (repeat constructor)) .here ?_
    refine e_tk (by (repeat constructor)) ?_
    refine e_stS (v_res1 .here) (.pick (by (repeat constructor)) .nil) ?_
    refine e_stS (v_res1 .here) (.pick (by (repeat constructor)) .nil) ?_
    have e1 : lsF (listF one (elemsF q e l)) = ((elemsF q e l).map fun w => (one w).1, 0) := by
      unfold listF
      rw [if_pos hp]; rfl
    rw [e1]
    refine e_rest (M := [Sl 3 44 a c (elemsF q e l).length ((elemsF q e l).flatMap fun w => pDir (one w).1)]) (F := F) (by (repeat (first | exact Imp.refl | exact Imp.nil | (apply Imp.pick; (focus ((repeat constructor); done))) | refine Imp.drop ?_))) ?_
    (try simp only [List.cons_append, List.nil_append, -eq_self])
    refine e_ret (a, c) (by simp) ?_
    simp only [List.length_map, List.flatMap_map]
    exact .refl
  · intro d
    refine e_all (.there .here) ?_
    (try simp only [List.cons_append, List.nil_append, -eq_self])
    refine e_pu .here fun hp => ?_
    refine e_tk (by (repeat constructor)) ?_
    refine e_stS (v_res1 .here) (.pick (by (repeat constructor)) .nil) ?_
    refine e_stS (v_res1 .here) (.pick (by (repeat constructor)) .nil) ?_
    have e1 : lsF (listF one (elemsF q e l)) = ([], 42) := by
      unfold listF
      rw [if_neg (by rw [hp]; simp)]; rfl
    rw [e1]
    refine e_rest (M := []) (F := F) (by (repeat (first | exact Imp.refl | exact Imp.nil | (apply Imp.pick; (focus ((repeat constructor); done))) | refine Imp.drop ?_))) ?_
    (try simp only [List.cons_append, List.nil_append, -eq_self])
    refine e_ret (none, 0) rfl ?_
    exact imp_nil .refl
def vTag (x : Bool × List UInt8) : Value := .agg #[.bool x.1, txt x.2]
def pTag (x : Bool × List UInt8) : List Value := [.bool x.1, txt x.2]
end Go.Proofs.YtcigoifhcfbcdaaGreatDoor.FD
