/- The law BitsReads: what it does. No conditions but those that each names. -/
import Derived.Test.YtpmcokpiplcnjaaBitsRef2
import Derived.Test.YtpmcokpiplcnjaaBitsOpen
set_option linter.unusedVariables false
set_option linter.unusedSimpArgs false
namespace Go.Proofs.Ytpmcokpiplcnjaa.B
open Go Go.Proofs Go.Proofs.Ytpmcokpiplcnjaa.Sh Go.Proofs.Ytpmcokpiplcnjaa.Sl Go.Proofs.Ytpmcokpiplcnjaa.T Go.Proofs.Ytpmcokpiplcnjaa.M Go.Proofs.Ytpmcokpiplcnjaa.K
/-- the i-th call's fields as they lie -/
theorem Ops.fld {W : World} {a : Option Addr} {l : List Opn} (h : Ops W a l) {i : Nat} (hi : i < l.length) : ∃ g o b c, a = some ⟨g, o, none⟩ ∧ g < W.heap.size ∧ (W.cell? ⟨g, o + i * 4 + 0, none⟩ = some (.int .i64 l[i].kind) ∧ W.cell? ⟨g, o + i * 4 + 1, none⟩ = some (.int .i64 l[i].n) ∧ W.cell? ⟨g, o + i * 4 + 2, none⟩ = some (.int .i64 l[i].v) ∧ W.cell? ⟨g, o + i * 4 + 3, none⟩ = some (.slice b l[i].b.length c)) ∧ (b = none → l[i].b.length = 0) ∧ ∀ A, RdB W A b l[i].b.length (l[i].b.map B) := by
  obtain ⟨g, o, rfl, hg, hc⟩ := h.at_ (by omega)
  obtain ⟨cs, h1, ⟨b, c, rfl, r2, r3, r4, r5⟩, h3⟩ := hc i hi
  refine ⟨g, o, b, c, rfl, hg, ⟨?_, ?_, ?_, ?_⟩, r4, r5⟩
  · rw [Nat.add_assoc]; exact h3 0 _ rfl
  · rw [Nat.add_assoc]; exact h3 1 _ rfl
  · rw [Nat.add_assoc]; exact h3 2 _ rfl
  · rw [Nat.add_assoc]; exact h3 3 _ rfl
theorem rrB_le (b : List UInt8) (t : Nat) (n : Int) : (rrB b t n).length ≤ b.length := by
  unfold rrB; split <;> simp <;> omega
theorem bitsReads {W : World} {a a2 : Option Addr} {c c2 : Nat} {b : List UInt8} {l : List Opn} (hr : ∀ A, RdB W A a b.length (b.map B)) (ha : a = none → b.length = 0) (hb : b.length ≤ 1048576) (hl : Ops W a2 l) (m1 : l.length ≤ 1048576) :
    Cn Try.prog 6 [.slice a b.length c, .slice a2 l.length c2] W [] (fun _ : Unit => .bool true) (fun _ => []) := by
  (refine S.law02_BitsReads_cn fun F => ?_; unfold S.law02_BitsReads; simp only [List.cons_append, List.nil_append])
  refine e_imp (M := pu True :: _) (.pu trivial .refl) ?_
  (refine' e_call (lent (hr (pu True)) ha (by omega)) ?hp fun _ => ?_; (case hp => (repeat (first | exact Picks.nil | (apply Picks.cons; (focus (repeat constructor)))))); (try simp only [List.cons_append, List.nil_append, Bool.not_true, Bool.not_false]))
  rename_i q
  obtain ⟨g, gc⟩ := q
  dsimp only
  (refine' e_call (newReader (A := IsL g gc b) rdL (fun c => by cases c) (by omega)) ?hp fun _ => ?_; (case hp => (repeat (first | exact Picks.nil | (apply Picks.cons; (focus (repeat constructor)))))); (try simp only [List.cons_append, List.nil_append, Bool.not_true, Bool.not_false]))
  rename_i p
  (((with_reducible refine e_opN v_eqNil1 Imp.nil ?_))); ((with_reducible refine e_gdT ?_)); ((with_reducible refine e_gdT ?_)); ((with_reducible refine e_gdT ?_))
  (refine' e_call (stays (hr (pu True)) ha (by omega)) ?hp fun _ => ?_; (case hp => (repeat (first | exact Picks.nil | (apply Picks.cons; (focus (repeat constructor)))))); (try simp only [List.cons_append, List.nil_append, Bool.not_true, Bool.not_false]))
  ((with_reducible refine e_gdT ?_)); (((with_reducible refine e_opN v_notT Imp.nil ?_))); (((with_reducible refine e_opN v_pickF Imp.nil ?_))); ((with_reducible refine e_gdT ?_))
  (refine' e_call (knows) ?hp fun _ => ?_; (case hp => (repeat (first | exact Picks.nil | (apply Picks.cons; (focus (repeat constructor)))))); (try simp only [List.cons_append, List.nil_append, Bool.not_true, Bool.not_false]))
  ((with_reducible refine e_gdT ?_)); (((with_reducible refine e_opN v_notT Imp.nil ?_))); (((with_reducible refine e_opN v_pickF Imp.nil ?_))); ((with_reducible refine e_condF ?_))
  unfold IsL
  refine addLoop (N := b.length + 2) (cs := b ++ [201, 202]) (by simp) (by omega) (by omega) fun es hes => ?_
  refine e_imp (M := pu True :: IsR p b 0 :: F) (by (repeat (first | exact Imp.refl | exact Imp.nil | (apply Imp.pick; (focus ((repeat constructor); done))) | refine Imp.drop ?_))) ?_
  (refine' e_call (newQ (hr (pu True)) ha (by omega)) ?hp fun _ => ?_; (case hp => (repeat (first | exact Picks.nil | (apply Picks.cons; (focus (repeat constructor)))))); (try simp only [List.cons_append, List.nil_append, Bool.not_true, Bool.not_false]))
  rename_i q
  refine e_loop1 (fun m y => [ex fun i : Nat => ex fun t : Nat => all [pu (m + i = l.length ∧ y = .int .i64 (i : Int)), IsR p b t, IsQ q b t]] ++ F) l.length ?_ ?_
  · refine Imp.ex 0 (.ex 0 (.all ?_))
    (try simp only [List.cons_append, List.nil_append])
    refine .pu (by refine ⟨by omega, ?_⟩; first | trivial | norm_cast) ?_
    (repeat (first | exact Imp.refl | exact Imp.nil | (apply Imp.pick; (focus ((repeat constructor); done))) | refine Imp.drop ?_))
  · intro m ds y
    (try simp only [List.cons_append, List.nil_append])
    refine e_ex Pick.here fun i => e_ex Pick.here fun t => e_all Pick.here ?_
    (try simp only [List.cons_append, List.nil_append])
    refine e_pu Pick.here fun hi => ?_
    obtain ⟨hmi, rfl⟩ := hi
    (((with_reducible refine e_opN v_len Imp.nil ?_)))
    (refine e_ask v_lss Imp.nil (fun h => ?_) (fun h => ?_))
    · have hil : i < l.length := by omega
      obtain ⟨go, oo, bo, co, rfl, hg, ⟨d0, d1, d2, d3⟩, hbn, hbr⟩ := hl.fld hil
      ((with_reducible refine e_condT ?_))
      refine e_cut0 ((ex fun t : Nat => all [IsR p b t, IsQ q b t]) :: F) ?_ ?_
      · intro ds
        refine e_ex Pick.here fun t => e_all Pick.here ?_
        (try simp only [List.cons_append, List.nil_append])
        (refine' e_call (left) ?hp fun _ => ?_; (case hp => (repeat (first | exact Picks.nil | (apply Picks.cons; (focus (repeat constructor)))))); (try simp only [List.cons_append, List.nil_append, Bool.not_true, Bool.not_false]))
        (refine' e_call (qleft) ?hp fun _ => ?_; (case hp => (repeat (first | exact Picks.nil | (apply Picks.cons; (focus (repeat constructor)))))); (try simp only [List.cons_append, List.nil_append, Bool.not_true, Bool.not_false]))
        refine e_opN v_neq Imp.nil ?_
        rw [decide_eq_false (by simp)]
        ((with_reducible refine e_condF ?_)); (((with_reducible refine e_opN (v_add ?h1 ?h2) Imp.nil ?_); (case h1 => omega); (case h2 => omega)))
        refine e_next1 (m - 1) (by omega) (.ex (i + 1) (.ex t (.all ?_)))
        (try simp only [List.cons_append, List.nil_append])
        refine .pu (by refine ⟨by omega, ?_⟩; first | trivial | norm_cast) ?_
        (repeat (first | exact Imp.refl | exact Imp.nil | (apply Imp.pick; (focus ((repeat constructor); done))) | refine Imp.drop ?_))
      · refine e_opN (v_ia i (by rfl) hil) Imp.nil ?_
        (((with_reducible refine e_opN v_fa Imp.nil ?_)))
        refine e_opN (v_ldOld hg d0) Imp.nil ?_
        (refine e_ask v_eql Imp.nil (fun h => ?_) (fun h => ?_))
        · refine e_condT ?_
          refine e_opN (v_ia i (by rfl) hil) Imp.nil ?_
          (((with_reducible refine e_opN v_fa Imp.nil ?_)))
          refine e_opN (v_ldOld hg d1) Imp.nil ?_
          (refine' e_call (take) ?hp fun _ => ?_; (case hp => (repeat (first | exact Picks.nil | (apply Picks.cons; (focus (repeat constructor)))))); (try simp only [List.cons_append, List.nil_append, Bool.not_true, Bool.not_false]))
          (((with_reducible refine' e_opN (v_ext ?h1) Imp.nil ?_); (case h1 => rfl))); (((with_reducible refine' e_opN (v_ext ?h1) Imp.nil ?_); (case h1 => rfl)))
          refine e_opN (v_ia i (by rfl) hil) Imp.nil ?_
          (((with_reducible refine e_opN v_fa Imp.nil ?_)))
          refine e_opN (v_ldOld hg d1) Imp.nil ?_
          (refine' e_call (qtake) ?hp fun _ => ?_; (case hp => (repeat (first | exact Picks.nil | (apply Picks.cons; (focus (repeat constructor)))))); (try simp only [List.cons_append, List.nil_append, Bool.not_true, Bool.not_false]))
          (((with_reducible refine' e_opN (v_ext ?h1) Imp.nil ?_); (case h1 => rfl))); (((with_reducible refine' e_opN (v_ext ?h1) Imp.nil ?_); (case h1 => rfl)))
          refine e_opN v_neq Imp.nil ?_
          rw [decide_eq_false (by simp)]
          ((with_reducible refine e_gdT ?_)); ((with_reducible refine e_gdT ?_))
          (refine' e_call (num) ?hp fun _ => ?_; (case hp => (repeat (first | exact Picks.nil | (apply Picks.cons; (focus (repeat constructor)))))); (try simp only [List.cons_append, List.nil_append, Bool.not_true, Bool.not_false]))
          ((with_reducible refine e_gdT ?_)); ((with_reducible refine e_gdT ?_))
          refine e_opN v_neq Imp.nil ?_
          rw [decide_eq_false (by simp)]
          (((with_reducible refine e_opN v_pickF Imp.nil ?_))); ((with_reducible refine e_condF ?_))
          refine e_sat (.ex (takAt b t l[i].n) (.all ?_))
          (try simp only [List.cons_append, List.nil_append])
          (repeat (first | exact Imp.refl | exact Imp.nil | (apply Imp.pick; (focus ((repeat constructor); done))) | refine Imp.drop ?_))
        have h1 := h
        ((with_reducible refine e_condF ?_))
        (refine e_ask v_eql Imp.nil (fun h => ?_) (fun h => ?_))
        · ((with_reducible refine e_condT ?_))
          (refine' e_call (ralign) ?hp fun _ => ?_; (case hp => (repeat (first | exact Picks.nil | (apply Picks.cons; (focus (repeat constructor)))))); (try simp only [List.cons_append, List.nil_append, Bool.not_true, Bool.not_false]))
          (refine' e_call (qalign) ?hp fun _ => ?_; (case hp => (repeat (first | exact Picks.nil | (apply Picks.cons; (focus (repeat constructor)))))); (try simp only [List.cons_append, List.nil_append, Bool.not_true, Bool.not_false]))
          refine e_sat (.ex ((t + 7) / 8 * 8) (.all ?_))
          (try simp only [List.cons_append, List.nil_append])
          (repeat (first | exact Imp.refl | exact Imp.nil | (apply Imp.pick; (focus ((repeat constructor); done))) | refine Imp.drop ?_))
        have h2 := h
        refine e_condF ?_
        refine e_opN (v_ia i (by rfl) hil) Imp.nil ?_
        (((with_reducible refine e_opN v_fa Imp.nil ?_)))
        refine e_opN (v_ldOld hg d1) Imp.nil ?_
        (refine' e_call (rraw) ?hp fun _ => ?_; (case hp => (repeat (first | exact Picks.nil | (apply Picks.cons; (focus (repeat constructor)))))); (try simp only [List.cons_append, List.nil_append, Bool.not_true, Bool.not_false]))
        rename_i u
        obtain ⟨ua, uc⟩ := u
        (((with_reducible refine' e_opN (v_ext ?h1) Imp.nil ?_); (case h1 => rfl))); (((with_reducible refine' e_opN (v_ext ?h1) Imp.nil ?_); (case h1 => rfl)))
        refine e_opN (v_ia i (by rfl) hil) Imp.nil ?_
        (((with_reducible refine e_opN v_fa Imp.nil ?_)))
        refine e_opN (v_ldOld hg d1) Imp.nil ?_
        (refine' e_call (qraw) ?hp fun _ => ?_; (case hp => (repeat (first | exact Picks.nil | (apply Picks.cons; (focus (repeat constructor)))))); (try simp only [List.cons_append, List.nil_append, Bool.not_true, Bool.not_false]))
        rename_i v
        obtain ⟨va, vc⟩ := v
        (((with_reducible refine' e_opN (v_ext ?h1) Imp.nil ?_); (case h1 => rfl))); (((with_reducible refine' e_opN (v_ext ?h1) Imp.nil ?_); (case h1 => rfl)))
        dsimp only
        refine e_slfacts .here fun f1 f2 f3 f4 => ?_
        refine e_slfacts (.there (.there .here)) fun g1 g2 g3 g4 => ?_
        refine e_opN (v_str (l := rrB b t l[i].n) (rd_sl (by simp) g4) (pk_none g4)) (.pick (.there (.there .here)) .nil) ?_
        refine e_opN (v_str (l := rrB b t l[i].n) (rd_sl (by simp) f4) (pk_none f4)) (.pick .here .nil) ?_
        refine e_opN v_strne Imp.nil ?_
        rw [decide_eq_false (by simp)]
        ((with_reducible refine e_gdT ?_)); ((with_reducible refine e_gdT ?_))
        (refine' e_call (num) ?hp fun _ => ?_; (case hp => (repeat (first | exact Picks.nil | (apply Picks.cons; (focus (repeat constructor)))))); (try simp only [List.cons_append, List.nil_append, Bool.not_true, Bool.not_false]))
        ((with_reducible refine e_gdT ?_)); ((with_reducible refine e_gdT ?_))
        refine e_opN v_neq Imp.nil ?_
        rw [decide_eq_false (by simp)]
        (((with_reducible refine e_opN v_pickF Imp.nil ?_))); ((with_reducible refine e_condF ?_))
        refine e_imp (M := Sl 1 5 ua uc (rrB b t l[i].n).length ((rrB b t l[i].n).map B) :: IsR p b (rrAt b t l[i].n) :: IsQ q b (rrAt b t l[i].n) :: F) (by (repeat (first | exact Imp.refl | exact Imp.nil | (apply Imp.pick; (focus ((repeat constructor); done))) | refine Imp.drop ?_))) ?_
        refine addLoop rfl (Nat.le_refl _) (by have := rrB_le b t l[i].n; omega) fun es hes => ?_
        refine e_sat (.ex (rrAt b t l[i].n) (.all ?_))
        (try simp only [List.cons_append, List.nil_append])
        (repeat (first | exact Imp.refl | exact Imp.nil | (apply Imp.pick; (focus ((repeat constructor); done))) | refine Imp.drop ?_))
    · ((with_reducible refine e_condF ?_))
      (first | refine e_ret (()) rfl ?_ | refine e_retT (()) ?_)
      (repeat (first | exact Imp.refl | exact Imp.nil | (apply Imp.pick; (focus ((repeat constructor); done))) | refine Imp.drop ?_))
end Go.Proofs.Ytpmcokpiplcnjaa.B
