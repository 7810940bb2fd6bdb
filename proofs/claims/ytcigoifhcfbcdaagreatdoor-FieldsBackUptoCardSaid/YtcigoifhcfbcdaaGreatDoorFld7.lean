/- A span of bytes. The library's own error can be read ('Gl'); a text of at most 4194304 bytes. -/
import Derived.Test.YtcigoifhcfbcdaaGreatDoorFld6
set_option linter.unusedVariables false
set_option linter.unusedSimpArgs false
namespace Go.Proofs.YtcigoifhcfbcdaaGreatDoor.FD
open Go Go.Proofs Go.RowKit Go.Proofs.YtcigoifhcfbcdaaGreatDoor.Sh Go.Proofs.YtcigoifhcfbcdaaGreatDoor.Sl Go.Proofs.YtcigoifhcfbcdaaGreatDoor.T
theorem v_ixAG {P : Program} {W : World} {t e : TypeId} {n s : Nat} {cs : Array Value} {q : IntKind} {i : Int} (j : Nat) [ht : ArrT P t n e s] [ha : AggT P e s] (hi : i = (j : Int)) (hj : j < n) : RunV P W [] (sIx t (.agg cs) (.int q i)) (.agg (cs.extract (j * s) (j * s + s))) := fun w _ => by
  subst hi
  simp [sIx, Instr.index, asIntOf, ht.ut, ht.size, hj, part, ha.agg, ha.size]
def spOk (l : List UInt8) (i : Nat) : Bool := cutS 45 l && (if 0 < i then endOk (cutA 45 l) else true) && (if 1 < i then endOk (cutB 45 l) else true)
def spF (l : List UInt8) (i : Nat) : Int := if 0 < i then endF (cutA 45 l) else -1
def spL (l : List UInt8) (i : Nat) : Int := if 1 < i then endF (cutB 45 l) else -1
theorem endOk_e {s : List UInt8} (h : s = []) : endOk s = true := by subst h; rfl
theorem endF_e {s : List UInt8} (h : s = []) : endF s = -1 := by subst h; rfl
theorem endOk_n {s : List UInt8} (h : s ≠ []) : endOk s = decide ((decF s).2 = 0) := by unfold endOk; simp [h]
theorem endF_n {s : List UInt8} (h : s ≠ []) : endF s = (decF s).1 := by unfold endF; rw [if_neg h]
theorem span {W : World} [hG : Gl W] {l : List UInt8} (hl : l.length ≤ 4194304) : Cn Tryz.prog 46 [txt l] W [] (fun _ : Unit => .tuple #[vSpan (spanF l).1, .bool (spanF l).2]) (fun _ => []) := by
  have hA := cutA_len (c := 45) l
  have hB := cutB_len (c := 45) l
  (refine S.fields_span_cn fun F => ?_; unfold S.fields_span; simp only [List.cons_append, List.nil_append])
  refine e_newA fun b2 => ?_
  (refine' e_call (cut_ (c := 45) (l := l) (by omega)) ?hp fun _ => ?_; (case hp => (repeat (first | exact Picks.nil | (apply Picks.cons; (focus (repeat constructor)))))); (try simp only [List.cons_append, List.nil_append, Bool.not_true, Bool.not_false]))
  refine e_opN (v_extN (vs := [_, _, _]) .here) Imp.nil ?_
  refine e_opN (v_extN (vs := [_, _, _]) (.there .here)) Imp.nil ?_
  refine e_opN (v_extN (vs := [_, _, _]) (.there (.there .here))) Imp.nil ?_
  refine e_opN v_rv Imp.nil ?_
  refine e_newA fun b7 => ?_
  (((with_reducible refine' e_stAgg ?hp ?hn ?hv ?h1 ?_); (case hp => (repeat constructor)); (case hn => rfl); (case hv => rfl); (case h1 => simp [Value.oneCell']))); (((with_reducible refine e_opN v_fa0 Imp.nil ?_))); (((with_reducible refine e_opN v_rv Imp.nil ?_))); (((with_reducible refine e_opN v_fa0 Imp.nil ?_))); (((with_reducible refine e_opN v_rv Imp.nil ?_))); (((with_reducible refine e_opN v_rv Imp.nil ?_)))
  refine e_loop2 (fun m x y => [ex fun i : Nat => all [pu (m + i = 2 ∧ x = .bool (spOk l i) ∧ y = .int .i64 (i : Int)), pt b7 (.cells #[.int .i64 (spF l i), .int .i64 (spL l i)] 71 (0, 0)), pt b2 (.cells #[.int .i64 0, .int .i64 0] 71 (0, 0))]] ++ F) 2 ?_ ?_
  · refine Imp.ex 0 (.all ?_)
    (try simp only [List.cons_append, List.nil_append, -eq_self])
    refine .pu ⟨by omega, by simp [spOk], rfl⟩ ?_
    exact .refl
  intro m ds x y
  (try simp only [List.cons_append, List.nil_append, -eq_self])
  refine e_ex Pick.here fun i => e_all Pick.here ?_
  (try simp only [List.cons_append, List.nil_append, -eq_self])
  refine e_pu Pick.here fun hi => ?_
  obtain ⟨hmi, rfl, rfl⟩ := hi
  refine e_opN v_lss Imp.nil ?_
  have h3 : i = 0 ∨ i = 1 ∨ i = 2 := by omega
  rcases h3 with rfl | rfl | rfl
  · rw [decide_eq_true (by decide)]
    refine e_condT ?_
    refine e_opN (v_ixAG 0 rfl (by decide)) Imp.nil ?_
    rw [show (#[txt (cutA 45 l), Value.pointer (some ⟨b7, 0, none⟩), txt (cutB 45 l), Value.pointer (some ⟨b7, 1, none⟩)] : Array Value).extract (0 * 2) (0 * 2 + 2) = #[txt (cutA 45 l), Value.pointer (some ⟨b7, 0, none⟩)] by simp]
    refine e_newA fun b9 => ?_
    (((with_reducible refine' e_stAgg ?hp ?hn ?hv ?h1 ?_); (case hp => (repeat constructor)); (case hn => rfl); (case hv => rfl); (case h1 => (intro u hu; simp at hu; rcases hu with rfl | rfl <;> rfl)))); (((with_reducible refine e_opN v_fa0 Imp.nil ?_))); (((with_reducible refine' e_opN (v_ldN ?hc) ?hi ?_); (case hi => (repeat (first | exact Imp.refl | exact Imp.nil | (apply Imp.pick; (focus ((repeat constructor); done))) | refine Imp.drop ?_))); (case hc => (repeat (first | exact Nth.here | apply Nth.there)))))
    have e0 : (Value.string ⟨#[]⟩) = txt [] := rfl
    rw [e0]
    refine e_ask v_streq Imp.nil (fun h => ?_) (fun h => ?_)
    · ((with_reducible refine e_condT ?_)); (((with_reducible refine e_opN (v_add ?h1 ?h2) Imp.nil ?_); (case h1 => omega); (case h2 => omega)))
      refine e_next2 1 (by omega) (.ex 1 (.all ?_))
      (try simp only [List.cons_append, List.nil_append, -eq_self])
      refine .pu ⟨rfl, by simp [spOk, endOk_e h], rfl⟩ ?_
      rw [show spF l 1 = spF l 0 by simp [spF, endF_e h], show spL l 1 = spL l 0 by simp [spL]]
      (repeat (first | exact Imp.refl | exact Imp.nil | (apply Imp.pick; (focus ((repeat constructor); done))) | refine Imp.drop ?_))
    · ((with_reducible refine e_condF ?_)); (((with_reducible refine e_opN v_fa0 Imp.nil ?_))); (((with_reducible refine' e_opN (v_ldN ?hc) ?hi ?_); (case hi => (repeat (first | exact Imp.refl | exact Imp.nil | (apply Imp.pick; (focus ((repeat constructor); done))) | refine Imp.drop ?_))); (case hc => (repeat (first | exact Nth.here | apply Nth.there)))))
      refine e_call (decimal (l := cutA 45 l) (by omega)) .nil fun _ => ?_
      (try simp only [List.cons_append, List.nil_append, -eq_self])
      (((with_reducible refine' e_opN (v_extN ?hc) Imp.nil ?_); (case hc => (repeat (first | exact Nth.here | apply Nth.there))))); (((with_reducible refine' e_opN (v_extN ?hc) Imp.nil ?_); (case hc => (repeat (first | exact Nth.here | apply Nth.there)))))
      refine e_and (fun _ => v_eql) ?_
      (((with_reducible refine e_opN v_fa0 Imp.nil ?_))); (((with_reducible refine' e_opN (v_ldN ?hc) ?hi ?_); (case hi => (repeat (first | exact Imp.refl | exact Imp.nil | (apply Imp.pick; (focus ((repeat constructor); done))) | refine Imp.drop ?_))); (case hc => (repeat (first | exact Nth.here | apply Nth.there))))); (((with_reducible refine e_opN v_nil Imp.nil ?_))); (((with_reducible refine' e_stN ?hp ?ho ?_); (case hp => (repeat constructor)); (case ho => (repeat (first | exact Put.here | apply Put.there))))); (((with_reducible refine e_opN (v_add ?h1 ?h2) Imp.nil ?_); (case h1 => omega); (case h2 => omega)))
      refine e_next2 1 (by omega) (.ex 1 (.all ?_))
      (try simp only [List.cons_append, List.nil_append, -eq_self])
      refine .pu ⟨rfl, by simp [spOk, endOk_n h], rfl⟩ ?_
      rw [show spF l 1 = (decF (cutA 45 l)).1 by simp [spF, endF_n h], show spL l 1 = spL l 0 by simp [spL]]
      (repeat (first | exact Imp.refl | exact Imp.nil | (apply Imp.pick; (focus ((repeat constructor); done))) | refine Imp.drop ?_))
  · rw [decide_eq_true (by decide)]
    refine e_condT ?_
    refine e_opN (v_ixAG 1 rfl (by decide)) Imp.nil ?_
    rw [show (#[txt (cutA 45 l), Value.pointer (some ⟨b7, 0, none⟩), txt (cutB 45 l), Value.pointer (some ⟨b7, 1, none⟩)] : Array Value).extract (1 * 2) (1 * 2 + 2) = #[txt (cutB 45 l), Value.pointer (some ⟨b7, 1, none⟩)] by simp]
    refine e_newA fun b9 => ?_
    (((with_reducible refine' e_stAgg ?hp ?hn ?hv ?h1 ?_); (case hp => (repeat constructor)); (case hn => rfl); (case hv => rfl); (case h1 => (intro u hu; simp at hu; rcases hu with rfl | rfl <;> rfl)))); (((with_reducible refine e_opN v_fa0 Imp.nil ?_))); (((with_reducible refine' e_opN (v_ldN ?hc) ?hi ?_); (case hi => (repeat (first | exact Imp.refl | exact Imp.nil | (apply Imp.pick; (focus ((repeat constructor); done))) | refine Imp.drop ?_))); (case hc => (repeat (first | exact Nth.here | apply Nth.there)))))
    have e0 : (Value.string ⟨#[]⟩) = txt [] := rfl
    rw [e0]
    refine e_ask v_streq Imp.nil (fun h => ?_) (fun h => ?_)
    · ((with_reducible refine e_condT ?_)); (((with_reducible refine e_opN (v_add ?h1 ?h2) Imp.nil ?_); (case h1 => omega); (case h2 => omega)))
      refine e_next2 0 (by omega) (.ex 2 (.all ?_))
      (try simp only [List.cons_append, List.nil_append, -eq_self])
      refine .pu ⟨rfl, by simp [spOk, endOk_e h], rfl⟩ ?_
      rw [show spF l 2 = spF l 1 by simp [spF], show spL l 2 = spL l 1 by simp [spL, endF_e h]]
      (repeat (first | exact Imp.refl | exact Imp.nil | (apply Imp.pick; (focus ((repeat constructor); done))) | refine Imp.drop ?_))
    · ((with_reducible refine e_condF ?_)); (((with_reducible refine e_opN v_fa0 Imp.nil ?_))); (((with_reducible refine' e_opN (v_ldN ?hc) ?hi ?_); (case hi => (repeat (first | exact Imp.refl | exact Imp.nil | (apply Imp.pick; (focus ((repeat constructor); done))) | refine Imp.drop ?_))); (case hc => (repeat (first | exact Nth.here | apply Nth.there)))))
      refine e_call (decimal (l := cutB 45 l) (by omega)) .nil fun _ => ?_
      (try simp only [List.cons_append, List.nil_append, -eq_self])
      (((with_reducible refine' e_opN (v_extN ?hc) Imp.nil ?_); (case hc => (repeat (first | exact Nth.here | apply Nth.there))))); (((with_reducible refine' e_opN (v_extN ?hc) Imp.nil ?_); (case hc => (repeat (first | exact Nth.here | apply Nth.there)))))
      refine e_and (fun _ => v_eql) ?_
      (((with_reducible refine e_opN v_fa0 Imp.nil ?_))); (((with_reducible refine' e_opN (v_ldN ?hc) ?hi ?_); (case hi => (repeat (first | exact Imp.refl | exact Imp.nil | (apply Imp.pick; (focus ((repeat constructor); done))) | refine Imp.drop ?_))); (case hc => (repeat (first | exact Nth.here | apply Nth.there))))); (((with_reducible refine e_opN v_nil Imp.nil ?_))); (((with_reducible refine' e_stN ?hp ?ho ?_); (case hp => (repeat constructor)); (case ho => (repeat (first | exact Put.here | apply Put.there))))); (((with_reducible refine e_opN (v_add ?h1 ?h2) Imp.nil ?_); (case h1 => omega); (case h2 => omega)))
      refine e_next2 0 (by omega) (.ex 2 (.all ?_))
      (try simp only [List.cons_append, List.nil_append, -eq_self])
      refine .pu ⟨rfl, by simp [spOk, endOk_n h], rfl⟩ ?_
      rw [show spF l 2 = spF l 1 by simp [spF], show spL l 2 = (decF (cutB 45 l)).1 by simp [spL, endF_n h]]
      (repeat (first | exact Imp.refl | exact Imp.nil | (apply Imp.pick; (focus ((repeat constructor); done))) | refine Imp.drop ?_))
  · rw [decide_eq_false (by decide)]
    refine e_condF ?_
    have hsp : spanF l = ((endF (cutA 45 l), endF (cutB 45 l)), spOk l 2 && decide (¬ (endF (cutA 45 l) = -1 ∧ endF (cutB 45 l) = -1)) && decide (endF (cutA 45 l) < 0 ∨ endF (cutB 45 l) < 0 ∨ endF (cutA 45 l) ≤ endF (cutB 45 l))) := by
      unfold spanF spOk; simp
    rw [show spF l 2 = endF (cutA 45 l) by simp [spF], show spL l 2 = endF (cutB 45 l) by simp [spL], hsp]
    generalize endF (cutA 45 l) = x
    generalize endF (cutB 45 l) = y
    generalize spOk l 2 = ok
    cases ok with
    | false =>
      ((with_reducible refine e_drS ?_)); (((with_reducible refine' e_stS (v_ldAgg ?hn) ?hi ?_); (case hi => (repeat (first | exact Imp.refl | exact Imp.nil | (apply Imp.pick; (focus ((repeat constructor); done))) | refine Imp.drop ?_))); (case hn => rfl))); ((with_reducible refine e_gdF2 ?_)); ((with_reducible refine e_gdF2 ?_)); ((with_reducible refine e_gdF2 ?_)); (((with_reducible refine e_stS v_pickF Imp.nil ?_))); ((with_reducible refine e_gdF2 ?_)); ((with_reducible refine e_gdF2 ?_)); ((with_reducible refine e_gdF2 ?_)); ((with_reducible refine e_gdF2 ?_)); ((with_reducible refine e_gdU ?_)); ((with_reducible refine e_gdU ?_)); ((with_reducible refine e_gdU ?_)); ((with_reducible refine e_gdF2 ?_)); ((with_reducible refine e_gdF2 ?_)); ((with_reducible refine e_gdDU ?_)); ((with_reducible refine e_gdDU ?_)); ((with_reducible refine e_gdDU ?_)); ((with_reducible refine e_gdDU ?_)); ((with_reducible refine e_gdDU ?_)); ((with_reducible refine e_gdDF2 ?_)); (((with_reducible refine e_stD v_pickF Imp.nil ?_))); (((with_reducible refine' e_stAgg ?hp ?hn ?hv ?h1 ?_); (case hp => (repeat constructor)); (case hn => rfl); (case hv => rfl); (case h1 => simp [Value.oneCell']))); (((with_reducible refine e_obl ?hi ?_); (case hi => (repeat (first | exact Imp.refl | exact Imp.nil | (apply Imp.pick; (focus ((repeat constructor); done))) | refine Imp.drop ?_))))); ((with_reducible refine e_oblT ?_)); ((with_reducible refine e_oblT ?_)); ((with_reducible refine e_oblT ?_)); ((with_reducible refine e_oblT ?_)); ((with_reducible refine e_oblT ?_)); ((with_reducible refine e_oblT ?_)); (((with_reducible refine' e_stS (v_resA ?hn) ?hi ?_); (case hi => (repeat (first | exact Imp.refl | exact Imp.nil | (apply Imp.pick; (focus ((repeat constructor); done))) | refine Imp.drop ?_))); (case hn => rfl)))
      (first | refine e_ret (()) rfl ?_ | refine e_retT (()) ?_)
      (repeat (first | exact Imp.refl | exact Imp.nil | (apply Imp.pick; (focus ((repeat constructor); done))) | refine Imp.drop ?_))
    | true =>
      refine e_drS ?_
      refine e_stS (v_ldAgg (cs := #[.int .i64 x, .int .i64 y]) rfl) (.pick (by (repeat constructor)) .nil) ?_
      refine e_gdT ?_
      refine e_stS (v_ldAgg (cs := #[.int .i64 x, .int .i64 y]) rfl) (.pick (by (repeat constructor)) .nil) ?_
      refine e_gdT ?_
      refine e_stS v_rv Imp.nil ?_
      refine e_gdT ?_
      refine e_stS (v_spanNe (x, y) (-1, -1)) Imp.nil ?_
      by_cases hne : x = -1 ∧ y = -1
      · rw [show (decide ((x, y).1 = ((-1 : Int), (-1 : Int)).1 ∧ (x, y).2 = ((-1 : Int), (-1 : Int)).2)) = true from decide_eq_true hne, decide_eq_false (fun c => c hne), Bool.and_false, Bool.false_and, show (!true) = false from rfl]
        (((with_reducible refine e_stS v_pickT Imp.nil ?_))); ((with_reducible refine e_gdF2 ?_)); ((with_reducible refine e_gdF2 ?_)); ((with_reducible refine e_gdF2 ?_)); ((with_reducible refine e_gdF2 ?_)); ((with_reducible refine e_gdU ?_)); ((with_reducible refine e_gdU ?_)); ((with_reducible refine e_gdU ?_)); ((with_reducible refine e_gdF2 ?_)); ((with_reducible refine e_gdF2 ?_)); ((with_reducible refine e_gdDU ?_)); ((with_reducible refine e_gdDU ?_)); ((with_reducible refine e_gdDU ?_)); ((with_reducible refine e_gdDU ?_)); ((with_reducible refine e_gdDU ?_)); ((with_reducible refine e_gdDF2 ?_)); (((with_reducible refine e_stD v_pickF Imp.nil ?_))); (((with_reducible refine' e_stAgg ?hp ?hn ?hv ?h1 ?_); (case hp => (repeat constructor)); (case hn => rfl); (case hv => rfl); (case h1 => simp [Value.oneCell']))); (((with_reducible refine e_obl ?hi ?_); (case hi => (repeat (first | exact Imp.refl | exact Imp.nil | (apply Imp.pick; (focus ((repeat constructor); done))) | refine Imp.drop ?_))))); ((with_reducible refine e_oblT ?_)); ((with_reducible refine e_oblT ?_)); ((with_reducible refine e_oblT ?_)); ((with_reducible refine e_oblT ?_)); ((with_reducible refine e_oblT ?_)); ((with_reducible refine e_oblT ?_)); (((with_reducible refine' e_stS (v_resA ?hn) ?hi ?_); (case hi => (repeat (first | exact Imp.refl | exact Imp.nil | (apply Imp.pick; (focus ((repeat constructor); done))) | refine Imp.drop ?_))); (case hn => rfl)))
        (first | refine e_ret (()) rfl ?_ | refine e_retT (()) ?_)
        (repeat (first | exact Imp.refl | exact Imp.nil | (apply Imp.pick; (focus ((repeat constructor); done))) | refine Imp.drop ?_))
      · rw [show (decide ((x, y).1 = ((-1 : Int), (-1 : Int)).1 ∧ (x, y).2 = ((-1 : Int), (-1 : Int)).2)) = false from decide_eq_false hne, decide_eq_true hne, Bool.and_true, Bool.true_and, show (!false) = true from rfl]
        (((with_reducible refine e_stS v_pickT Imp.nil ?_))); ((with_reducible refine e_gdT ?_)); (((with_reducible refine e_stS v_fa0 Imp.nil ?_))); ((with_reducible refine e_gdT ?_)); (((with_reducible refine' e_stS (v_ldN ?hc) ?hi ?_); (case hi => (repeat (first | exact Imp.refl | exact Imp.nil | (apply Imp.pick; (focus ((repeat constructor); done))) | refine Imp.drop ?_))); (case hc => (repeat (first | exact Nth.here | apply Nth.there))))); ((with_reducible refine e_gdT ?_))
        refine e_askS v_lss Imp.nil (fun h1 => ?_) (fun h1 => ?_)
        · rw [decide_eq_true (.inl h1)]
          ((with_reducible refine e_gdT ?_)); ((with_reducible refine e_gdF1 ?_)); ((with_reducible refine e_gdF1 ?_)); ((with_reducible refine e_gdF1 ?_)); ((with_reducible refine e_gdT ?_)); (((with_reducible refine e_stS v_pickT Imp.nil ?_))); ((with_reducible refine e_gdT ?_)); ((with_reducible refine e_gdDF1 ?_)); ((with_reducible refine e_gdDF1 ?_)); ((with_reducible refine e_gdDF1 ?_)); ((with_reducible refine e_gdDF1 ?_)); ((with_reducible refine e_gdDF1 ?_)); ((with_reducible refine e_gdDT ?_)); (((with_reducible refine e_stD v_pickT Imp.nil ?_))); (((with_reducible refine e_stD v_pickT Imp.nil ?_))); (((with_reducible refine' e_stAgg ?hp ?hn ?hv ?h1 ?_); (case hp => (repeat constructor)); (case hn => rfl); (case hv => rfl); (case h1 => simp [Value.oneCell']))); (((with_reducible refine e_obl ?hi ?_); (case hi => (repeat (first | exact Imp.refl | exact Imp.nil | (apply Imp.pick; (focus ((repeat constructor); done))) | refine Imp.drop ?_))))); (((with_reducible refine e_obl ?hi ?_); (case hi => (repeat (first | exact Imp.refl | exact Imp.nil | (apply Imp.pick; (focus ((repeat constructor); done))) | refine Imp.drop ?_))))); ((with_reducible refine e_oblT ?_)); ((with_reducible refine e_oblT ?_)); ((with_reducible refine e_oblT ?_)); ((with_reducible refine e_oblT ?_)); ((with_reducible refine e_oblT ?_)); (((with_reducible refine' e_stS (v_resA ?hn) ?hi ?_); (case hi => (repeat (first | exact Imp.refl | exact Imp.nil | (apply Imp.pick; (focus ((repeat constructor); done))) | refine Imp.drop ?_))); (case hn => rfl)))
          (first | refine e_ret (()) rfl ?_ | refine e_retT (()) ?_)
          (repeat (first | exact Imp.refl | exact Imp.nil | (apply Imp.pick; (focus ((repeat constructor); done))) | refine Imp.drop ?_))
        · ((with_reducible refine e_gdT ?_)); ((with_reducible refine e_gdT ?_)); (((with_reducible refine e_stS v_fa0 Imp.nil ?_))); ((with_reducible refine e_gdT ?_)); (((with_reducible refine' e_stS (v_ldN ?hc) ?hi ?_); (case hi => (repeat (first | exact Imp.refl | exact Imp.nil | (apply Imp.pick; (focus ((repeat constructor); done))) | refine Imp.drop ?_))); (case hc => (repeat (first | exact Nth.here | apply Nth.there))))); ((with_reducible refine e_gdT ?_))
          refine e_askS v_lss Imp.nil (fun h2 => ?_) (fun h2 => ?_)
          · rw [decide_eq_true (.inr (.inl h2))]
            ((with_reducible refine e_gdT ?_)); (((with_reducible refine e_stS v_pickF Imp.nil ?_))); ((with_reducible refine e_gdT ?_)); ((with_reducible refine e_gdDF1 ?_)); ((with_reducible refine e_gdDF1 ?_)); ((with_reducible refine e_gdDF1 ?_)); ((with_reducible refine e_gdDF1 ?_)); ((with_reducible refine e_gdDF1 ?_)); ((with_reducible refine e_gdDT ?_)); (((with_reducible refine e_stD v_pickT Imp.nil ?_))); (((with_reducible refine e_stD v_pickT Imp.nil ?_))); (((with_reducible refine' e_stAgg ?hp ?hn ?hv ?h1 ?_); (case hp => (repeat constructor)); (case hn => rfl); (case hv => rfl); (case h1 => simp [Value.oneCell']))); (((with_reducible refine e_obl ?hi ?_); (case hi => (repeat (first | exact Imp.refl | exact Imp.nil | (apply Imp.pick; (focus ((repeat constructor); done))) | refine Imp.drop ?_))))); (((with_reducible refine e_obl ?hi ?_); (case hi => (repeat (first | exact Imp.refl | exact Imp.nil | (apply Imp.pick; (focus ((repeat constructor); done))) | refine Imp.drop ?_))))); ((with_reducible refine e_oblT ?_)); ((with_reducible refine e_oblT ?_)); ((with_reducible refine e_oblT ?_)); ((with_reducible refine e_oblT ?_)); ((with_reducible refine e_oblT ?_)); (((with_reducible refine' e_stS (v_resA ?hn) ?hi ?_); (case hi => (repeat (first | exact Imp.refl | exact Imp.nil | (apply Imp.pick; (focus ((repeat constructor); done))) | refine Imp.drop ?_))); (case hn => rfl)))
            (first | refine e_ret (()) rfl ?_ | refine e_retT (()) ?_)
            (repeat (first | exact Imp.refl | exact Imp.nil | (apply Imp.pick; (focus ((repeat constructor); done))) | refine Imp.drop ?_))
          · ((with_reducible refine e_gdT ?_)); (((with_reducible refine e_stS v_pickF Imp.nil ?_))); ((with_reducible refine e_gdT ?_)); ((with_reducible refine e_gdDT ?_)); (((with_reducible refine e_stD v_fa0 Imp.nil ?_))); ((with_reducible refine e_gdDT ?_)); (((with_reducible refine' e_stD (v_ldN ?hc) ?hi ?_); (case hi => (repeat (first | exact Imp.refl | exact Imp.nil | (apply Imp.pick; (focus ((repeat constructor); done))) | refine Imp.drop ?_))); (case hc => (repeat (first | exact Nth.here | apply Nth.there))))); ((with_reducible refine e_gdDT ?_)); (((with_reducible refine e_stD v_fa0 Imp.nil ?_))); ((with_reducible refine e_gdDT ?_)); (((with_reducible refine' e_stD (v_ldN ?hc) ?hi ?_); (case hi => (repeat (first | exact Imp.refl | exact Imp.nil | (apply Imp.pick; (focus ((repeat constructor); done))) | refine Imp.drop ?_))); (case hc => (repeat (first | exact Nth.here | apply Nth.there))))); ((with_reducible refine e_gdDT ?_))
            refine e_askD v_leq Imp.nil (fun h3 => ?_) (fun h3 => ?_)
            · rw [decide_eq_true (.inr (.inr h3))]
              ((with_reducible refine e_gdDT ?_)); (((with_reducible refine e_stD v_pickF Imp.nil ?_))); (((with_reducible refine e_stD v_pickT Imp.nil ?_))); (((with_reducible refine' e_stAgg ?hp ?hn ?hv ?h1 ?_); (case hp => (repeat constructor)); (case hn => rfl); (case hv => rfl); (case h1 => simp [Value.oneCell']))); (((with_reducible refine e_obl ?hi ?_); (case hi => (repeat (first | exact Imp.refl | exact Imp.nil | (apply Imp.pick; (focus ((repeat constructor); done))) | refine Imp.drop ?_))))); (((with_reducible refine e_obl ?hi ?_); (case hi => (repeat (first | exact Imp.refl | exact Imp.nil | (apply Imp.pick; (focus ((repeat constructor); done))) | refine Imp.drop ?_))))); (((with_reducible refine e_obl ?hi ?_); (case hi => (repeat (first | exact Imp.refl | exact Imp.nil | (apply Imp.pick; (focus ((repeat constructor); done))) | refine Imp.drop ?_))))); (((with_reducible refine e_obl ?hi ?_); (case hi => (repeat (first | exact Imp.refl | exact Imp.nil | (apply Imp.pick; (focus ((repeat constructor); done))) | refine Imp.drop ?_))))); (((with_reducible refine e_obl ?hi ?_); (case hi => (repeat (first | exact Imp.refl | exact Imp.nil | (apply Imp.pick; (focus ((repeat constructor); done))) | refine Imp.drop ?_))))); (((with_reducible refine e_obl ?hi ?_); (case hi => (repeat (first | exact Imp.refl | exact Imp.nil | (apply Imp.pick; (focus ((repeat constructor); done))) | refine Imp.drop ?_))))); (((with_reducible refine e_obl ?hi ?_); (case hi => (repeat (first | exact Imp.refl | exact Imp.nil | (apply Imp.pick; (focus ((repeat constructor); done))) | refine Imp.drop ?_))))); (((with_reducible refine' e_stS (v_resA ?hn) ?hi ?_); (case hi => (repeat (first | exact Imp.refl | exact Imp.nil | (apply Imp.pick; (focus ((repeat constructor); done))) | refine Imp.drop ?_))); (case hn => rfl)))
              (first | refine e_ret (()) rfl ?_ | refine e_retT (()) ?_)
              (repeat (first | exact Imp.refl | exact Imp.nil | (apply Imp.pick; (focus ((repeat constructor); done))) | refine Imp.drop ?_))
            · rw [decide_eq_false (by omega)]
              ((with_reducible refine e_gdDT ?_)); (((with_reducible refine e_stD v_pickF Imp.nil ?_))); (((with_reducible refine e_stD v_pickT Imp.nil ?_))); (((with_reducible refine' e_stAgg ?hp ?hn ?hv ?h1 ?_); (case hp => (repeat constructor)); (case hn => rfl); (case hv => rfl); (case h1 => simp [Value.oneCell']))); (((with_reducible refine e_obl ?hi ?_); (case hi => (repeat (first | exact Imp.refl | exact Imp.nil | (apply Imp.pick; (focus ((repeat constructor); done))) | refine Imp.drop ?_))))); (((with_reducible refine e_obl ?hi ?_); (case hi => (repeat (first | exact Imp.refl | exact Imp.nil | (apply Imp.pick; (focus ((repeat constructor); done))) | refine Imp.drop ?_))))); (((with_reducible refine e_obl ?hi ?_); (case hi => (repeat (first | exact Imp.refl | exact Imp.nil | (apply Imp.pick; (focus ((repeat constructor); done))) | refine Imp.drop ?_))))); (((with_reducible refine e_obl ?hi ?_); (case hi => (repeat (first | exact Imp.refl | exact Imp.nil | (apply Imp.pick; (focus ((repeat constructor); done))) | refine Imp.drop ?_))))); (((with_reducible refine e_obl ?hi ?_); (case hi => (repeat (first | exact Imp.refl | exact Imp.nil | (apply Imp.pick; (focus ((repeat constructor); done))) | refine Imp.drop ?_))))); (((with_reducible refine e_obl ?hi ?_); (case hi => (repeat (first | exact Imp.refl | exact Imp.nil | (apply Imp.pick; (focus ((repeat constructor); done))) | refine Imp.drop ?_))))); (((with_reducible refine e_obl ?hi ?_); (case hi => (repeat (first | exact Imp.refl | exact Imp.nil | (apply Imp.pick; (focus ((repeat constructor); done))) | refine Imp.drop ?_))))); (((with_reducible refine' e_stS (v_resA ?hn) ?hi ?_); (case hi => (repeat (first | exact Imp.refl | exact Imp.nil | (apply Imp.pick; (focus ((repeat constructor); done))) | refine Imp.drop ?_))); (case hn => rfl)))
              (first | refine e_ret (()) rfl ?_ | refine e_retT (()) ?_)
              (repeat (first | exact Imp.refl | exact Imp.nil | (apply Imp.pick; (focus ((repeat constructor); done))) | refine Imp.drop ?_))
end Go.Proofs.YtcigoifhcfbcdaaGreatDoor.FD
