/- The document's time of a text. No conditions but those that each names. -/
import Derived.Test.YtcmpkkkigmheoaaDateG3
set_option linter.unusedVariables false
set_option linter.unusedSimpArgs false
namespace Go.Proofs.Ytcmpkkkigmheoaa.D
open Go Go.Proofs Go.RowKit Go.Proofs.Ytcmpkkkigmheoaa.Sh Go.Proofs.Ytcmpkkkigmheoaa.Sl Go.Proofs.Ytcmpkkkigmheoaa.T
theorem cI_ne {l : List UInt8} {i : Nat} (h : i < cI l) : ∃ hi : i < l.length, l[i] ≠ 44 := by
  have hl := cI_le l
  refine ⟨by omega, fun c => ?_⟩
  have := List.not_of_lt_findIdx (p := fun x : UInt8 => x == 44) (xs := l ++ [44]) h
  rw [List.getElem_append_left (by omega), c] at this
  simp at this
theorem cI_at {l : List UInt8} (h : cI l < l.length) : l[cI l] = 44 := by
  have hlt : (l ++ [44]).findIdx (fun x : UInt8 => x == 44) < (l ++ [44]).length := by
    rw [List.length_append]
    show cI l < _
    omega
  have := List.findIdx_getElem (p := fun x : UInt8 => x == 44) (xs := l ++ [44]) (w := hlt)
  have e : (l ++ [44])[(l ++ [44]).findIdx (fun x : UInt8 => x == 44)] = l[cI l] := List.getElem_append_left h
  rw [e] at this
  simpa using this
def x1R (l : List UInt8) : Dt := rdR l 5 8 17 (dgR l 12 4)
def x2R (l : List UInt8) (now : Int) : Dt := rdR l ((cI l : Int) + 2) (cI l + 5) ((cI l : Int) + 12) (cyR (dgR l ((cI l : Int) + 9) 2) now)
def x3R (l : List UInt8) : Dt := if 9 < l.length ∧ l.getD 8 0 = 32 then { rdR l 8 4 11 (dgR l 20 4) with d := dgR l 9 1 } else rdR l 8 4 11 (dgR l 20 4)
def s2R (l : List UInt8) (now : Int) : Option Int := if 0 ≤ dgR l ((cI l : Int) + 9) 2 then smR 2 l (x2R l now) else none
def rpR (now : Int) (l : List UInt8) : Option Int := match smR 1 l (x1R l) with
  | some n => some n
  | none => match s2R l now with
    | some n => some n
    | none => smR 3 l (x3R l)
theorem rparse {W : World} {l : List UInt8} {now : Int} (hl : l.length ≤ 4611686018427300000) : Cn Try.prog 19 [txt l, .int .i64 now] W [] (fun _ : Unit => .tuple #[.int .i64 ((rpR now l).getD 0), .int .i64 (oE (rpR now l))]) (fun _ => []) := by
  have hc := cI_le l
  (refine S.ref09_Parse_cn fun F => ?_; unfold S.ref09_Parse; simp only [List.cons_append, List.nil_append])
  (refine' e_call (rdigits (l := l) (a := 12) 4 (by rfl) (by omega) (by omega)) ?hp fun _ => ?_; (case hp => (repeat (first | exact Picks.nil | (apply Picks.cons; (focus (repeat constructor)))))); (try simp only [List.cons_append, List.nil_append, Bool.not_true, Bool.not_false]))
  (refine' e_call (rread (l := l) (day := 5) (at_ := 17) (year := dgR l 12 4) 8 (by rfl) (by omega) (by omega) (by omega)) ?hp fun _ => ?_; (case hp => (repeat (first | exact Picks.nil | (apply Picks.cons; (focus (repeat constructor)))))); (try simp only [List.cons_append, List.nil_append, Bool.not_true, Bool.not_false]))
  rw [show rdR l 5 8 17 (dgR l 12 4) = x1R l from rfl]
  (refine' e_call (rsame (l := l) (x := x1R l) (f := 1) (.inl rfl)) ?hp fun _ => ?_; (case hp => (repeat (first | exact Picks.nil | (apply Picks.cons; (focus (repeat constructor)))))); (try simp only [List.cons_append, List.nil_append, Bool.not_true, Bool.not_false]))
  (((with_reducible refine' e_opN (v_extN ?hc) Imp.nil ?_); (case hc => (repeat (first | exact Nth.here | apply Nth.there))))); (((with_reducible refine' e_opN (v_extN ?hc) Imp.nil ?_); (case hc => (repeat (first | exact Nth.here | apply Nth.there)))))
  cases hs1 : smR 1 l (x1R l) with
  | some n =>
    have hr : rpR now l = some n := by unfold rpR; rw [hs1]
    rw [hr]
    refine e_opN v_eql Imp.nil ?_
    rw [show decide (oE (some n) = 0) = true from rfl]
    ((with_reducible refine e_condT ?_))
    (first | refine e_ret (()) rfl ?_ | refine e_retT (()) ?_)
    (repeat (first | exact Imp.refl | exact Imp.nil | (apply Imp.pick; (focus ((repeat constructor); done))) | refine Imp.drop ?_))
  | none =>
  refine e_opN v_eql Imp.nil ?_
  rw [show decide (oE (none : Option Int) = 0) = false from rfl]
  ((with_reducible refine e_condF ?_))
  refine e_loop1 (fun m y8 => (ex fun i : Nat => pu (m + i = cI l ∧ y8 = .int .i64 (i : Int))) :: F) (cI l) ?_ ?_
  · refine .ex 0 (.pu ⟨by omega, rfl⟩ ?_)
    (repeat (first | exact Imp.refl | exact Imp.nil | (apply Imp.pick; (focus ((repeat constructor); done))) | refine Imp.drop ?_))
  intro m ds y8
  (try simp only [List.cons_append, List.nil_append, -eq_self])
  refine e_ex Pick.here fun i => e_pu Pick.here fun hi => ?_
  obtain ⟨hmi, rfl⟩ := hi
  refine e_opN v_lent Imp.nil ?_
  by_cases hic : i < cI l
  · obtain ⟨hil, hne⟩ := cI_ne hic
    refine e_opN v_lss Imp.nil ?_
    rw [decide_eq_true (by omega)]
    ((with_reducible refine e_gdT ?_)); ((with_reducible refine e_gdT ?_)); ((with_reducible refine e_gdT ?_))
    refine e_opN (v_ixS i (by rfl) hil) Imp.nil ?_
    ((with_reducible refine e_gdT ?_))
    unfold Sl.B
    refine e_opN v_neq Imp.nil ?_
    have hne2 : ((l[i].toNat : Nat) : Int) ≠ 44 := fun c => hne (UInt8.toNat_inj.1 (Int.ofNat.inj c))
    rw [decide_eq_true hne2]
    (((with_reducible refine e_opN v_pickT Imp.nil ?_))); ((with_reducible refine e_condT ?_)); (((with_reducible refine e_opN (v_add ?h1 ?h2) Imp.nil ?_); (case h1 => omega); (case h2 => omega)))
    refine e_next1 (m - 1) (by omega) (.ex (i + 1) (.pu ⟨by omega, rfl⟩ ?_))
    (repeat (first | exact Imp.refl | exact Imp.nil | (apply Imp.pick; (focus ((repeat constructor); done))) | refine Imp.drop ?_))
  have hie : i = cI l := by omega
  subst hie
  by_cases hlt : cI l < l.length
  · have hat := cI_at hlt
    refine e_opN v_lss Imp.nil ?_
    rw [decide_eq_true (by omega)]
    ((with_reducible refine e_gdT ?_)); ((with_reducible refine e_gdT ?_)); ((with_reducible refine e_gdT ?_))
    refine e_opN (v_ixS (cI l) (by rfl) hlt) Imp.nil ?_
    ((with_reducible refine e_gdT ?_))
    unfold Sl.B
    refine e_opN v_neq Imp.nil ?_
    rw [decide_eq_false (p := ((l[cI l].toNat : Nat) : Int) ≠ 44) (fun c => c (by rw [hat]; rfl))]
    (((with_reducible refine e_opN v_pickT Imp.nil ?_))); ((with_reducible refine e_condF ?_)); (((with_reducible refine e_opN (v_add ?h1 ?h2) Imp.nil ?_); (case h1 => omega); (case h2 => omega)))
    (refine' e_call (rdigits (l := l) (a := (cI l : Int) + 9) 2 (by rfl) (by omega) (by omega)) ?hp fun _ => ?_; (case hp => (repeat (first | exact Picks.nil | (apply Picks.cons; (focus (repeat constructor)))))); (try simp only [List.cons_append, List.nil_append, Bool.not_true, Bool.not_false]))
    refine e_cut0 (pu (s2R l now = none) :: F) ?_ ?_
    rotate_left
    · refine e_ask v_geq Imp.nil (fun hg => ?_) (fun hg => ?_)
      · have hs2 : s2R l now = smR 2 l (x2R l now) := if_pos hg
        ((with_reducible refine e_condT ?_)); (((with_reducible refine e_opN (v_add ?h1 ?h2) Imp.nil ?_); (case h1 => omega); (case h2 => omega))); (((with_reducible refine e_opN (v_add ?h1 ?h2) Imp.nil ?_); (case h1 => omega); (case h2 => omega))); (((with_reducible refine e_opN (v_add ?h1 ?h2) Imp.nil ?_); (case h1 => omega); (case h2 => omega)))
        (refine' e_call (rcentury (two := dgR l ((cI l : Int) + 9) 2) (now := now)) ?hp fun _ => ?_; (case hp => (repeat (first | exact Picks.nil | (apply Picks.cons; (focus (repeat constructor)))))); (try simp only [List.cons_append, List.nil_append, Bool.not_true, Bool.not_false]))
        (refine' e_call (rread (l := l) (day := (cI l : Int) + 2) (at_ := (cI l : Int) + 12) (year := cyR (dgR l ((cI l : Int) + 9) 2) now) (cI l + 5) (by omega) (by omega) (by omega) (by omega)) ?hp fun _ => ?_; (case hp => (repeat (first | exact Picks.nil | (apply Picks.cons; (focus (repeat constructor)))))); (try simp only [List.cons_append, List.nil_append, Bool.not_true, Bool.not_false]))
        rw [show rdR l ((cI l : Int) + 2) (cI l + 5) ((cI l : Int) + 12) (cyR (dgR l ((cI l : Int) + 9) 2) now) = x2R l now from rfl]
        (refine' e_call (rsame (l := l) (x := x2R l now) (f := 2) (.inr (.inl rfl))) ?hp fun _ => ?_; (case hp => (repeat (first | exact Picks.nil | (apply Picks.cons; (focus (repeat constructor)))))); (try simp only [List.cons_append, List.nil_append, Bool.not_true, Bool.not_false]))
        (((with_reducible refine' e_opN (v_extN ?hc) Imp.nil ?_); (case hc => (repeat (first | exact Nth.here | apply Nth.there))))); (((with_reducible refine' e_opN (v_extN ?hc) Imp.nil ?_); (case hc => (repeat (first | exact Nth.here | apply Nth.there)))))
        cases hs : smR 2 l (x2R l now) with
        | some n =>
          have hr : rpR now l = some n := by unfold rpR; rw [hs1, hs2, hs]
          rw [hr]
          refine e_opN v_eql Imp.nil ?_
          rw [show decide (oE (some n) = 0) = true from rfl]
          ((with_reducible refine e_condT ?_))
          (first | refine e_ret (()) rfl ?_ | refine e_retT (()) ?_)
          (repeat (first | exact Imp.refl | exact Imp.nil | (apply Imp.pick; (focus ((repeat constructor); done))) | refine Imp.drop ?_))
        | none =>
          refine e_opN v_eql Imp.nil ?_
          rw [show decide (oE (none : Option Int) = 0) = false from rfl]
          ((with_reducible refine e_condF ?_))
          refine e_sat (.pu (by rw [hs2, hs]) ?_)
          (repeat (first | exact Imp.refl | exact Imp.nil | (apply Imp.pick; (focus ((repeat constructor); done))) | refine Imp.drop ?_))
      · ((with_reducible refine e_condF ?_))
        refine e_sat (.pu (if_neg hg) ?_)
        (repeat (first | exact Imp.refl | exact Imp.nil | (apply Imp.pick; (focus ((repeat constructor); done))) | refine Imp.drop ?_))
    intro ds2
    (try simp only [List.cons_append, List.nil_append, -eq_self])
    refine e_pu .here fun hs2 => ?_
    have hr : rpR now l = smR 3 l (x3R l) := by unfold rpR; rw [hs1, hs2]
    rw [hr]
    (refine' e_call (rdigits (l := l) (a := 20) 4 (by rfl) (by omega) (by omega)) ?hp fun _ => ?_; (case hp => (repeat (first | exact Picks.nil | (apply Picks.cons; (focus (repeat constructor)))))); (try simp only [List.cons_append, List.nil_append, Bool.not_true, Bool.not_false]))
    (refine' e_call (rread (l := l) (day := 8) (at_ := 11) (year := dgR l 20 4) 4 (by rfl) (by omega) (by omega) (by omega)) ?hp fun _ => ?_; (case hp => (repeat (first | exact Picks.nil | (apply Picks.cons; (focus (repeat constructor)))))); (try simp only [List.cons_append, List.nil_append, Bool.not_true, Bool.not_false]))
    have hx3 : x3R l = if 9 < l.length ∧ l.getD 8 0 = 32 then { rdR l 8 4 11 (dgR l 20 4) with d := dgR l 9 1 } else rdR l 8 4 11 (dgR l 20 4) := rfl
    generalize rdR l 8 4 11 (dgR l 20 4) = y3 at hx3 ⊢
    rw [show (Value.agg (dtA y3)) = .agg #[.int .i64 y3.y, .int .i64 y3.m, .int .i64 y3.d, .int .i64 y3.h, .int .i64 y3.mi, .int .i64 y3.s, .int .i64 y3.w] from rfl]
    (((with_reducible refine e_newA fun g => ?_))); (((with_reducible refine' e_stAgg ?hp ?hn ?hv ?h1 ?_); (case hp => (repeat constructor)); (case hn => rfl); (case hv => rfl); (case h1 => simp [Value.oneCell'])))
    rename Nat => b10
    refine e_cut0 (pt b10 (.cells (dtA (x3R l)) 23) :: F) ?_ ?_
    rotate_left
    · refine e_opN v_lent Imp.nil ?_
      refine e_ask v_gtr Imp.nil (fun h9 => ?_) (fun h9 => ?_)
      · have h8 : 8 < l.length := by omega
        have hg8 : l.getD 8 0 = l[8] := by simp [List.getD_eq_getElem?_getD, h8]
        ((with_reducible refine e_gdT ?_)); ((with_reducible refine e_gdT ?_))
        refine e_opN (v_ixS 8 (by rfl) h8) Imp.nil ?_
        unfold Sl.B
        ((with_reducible refine e_gdT ?_))
        refine e_ask v_eql Imp.nil (fun h5 => ?_) (fun h5 => ?_)
        · have hc8 : l[8] = 32 := UInt8.toNat_inj.1 (Int.ofNat.inj h5)
          rw [show x3R l = { y3 with d := dgR l 9 1 } by rw [hx3]; exact if_pos ⟨by omega, by rw [hg8, hc8]⟩]
          (((with_reducible refine e_opN v_pickT Imp.nil ?_))); ((with_reducible refine e_condT ?_))
          (refine' e_call (rdigits (l := l) (a := 9) 1 (by rfl) (by omega) (by omega)) ?hp fun _ => ?_; (case hp => (repeat (first | exact Picks.nil | (apply Picks.cons; (focus (repeat constructor)))))); (try simp only [List.cons_append, List.nil_append, Bool.not_true, Bool.not_false]))
          (((with_reducible refine e_opN v_fa0 Imp.nil ?_))); (((with_reducible refine' e_stN ?hp ?ho ?_); (case hp => (repeat constructor)); (case ho => (repeat (first | exact Put.here | apply Put.there)))))
          refine e_sat ?_
          unfold dtA
          (repeat (first | exact Imp.refl | exact Imp.nil | (apply Imp.pick; (focus ((repeat constructor); done))) | refine Imp.drop ?_))
        · rw [show x3R l = y3 by rw [hx3]; exact if_neg fun c => h5 (by rw [hg8] at c; rw [c.2]; rfl)]
          (((with_reducible refine e_opN v_pickT Imp.nil ?_))); ((with_reducible refine e_condF ?_))
          refine e_sat ?_
          unfold dtA
          (repeat (first | exact Imp.refl | exact Imp.nil | (apply Imp.pick; (focus ((repeat constructor); done))) | refine Imp.drop ?_))
      · rw [show x3R l = y3 by rw [hx3]; exact if_neg fun c => h9 (by omega)]
        ((with_reducible refine e_gdF2 ?_)); ((with_reducible refine e_gdF2 ?_)); ((with_reducible refine e_gdF2 ?_)); (((with_reducible refine e_opN v_pickF Imp.nil ?_))); ((with_reducible refine e_condF ?_))
        refine e_sat ?_
        unfold dtA
        (repeat (first | exact Imp.refl | exact Imp.nil | (apply Imp.pick; (focus ((repeat constructor); done))) | refine Imp.drop ?_))
    intro ds3
    (try simp only [List.cons_append, List.nil_append, -eq_self])
    rw [show dtA (x3R l) = #[.int .i64 (x3R l).y, .int .i64 (x3R l).m, .int .i64 (x3R l).d, .int .i64 (x3R l).h, .int .i64 (x3R l).mi, .int .i64 (x3R l).s, .int .i64 (x3R l).w] from rfl]
    (((with_reducible refine' e_opN (v_ldAgg ?hn) ?hi ?_); (case hi => (repeat (first | exact Imp.refl | exact Imp.nil | (apply Imp.pick; (focus ((repeat constructor); done))) | refine Imp.drop ?_))); (case hn => rfl)))
    (refine' e_call (rsame (l := l) (x := x3R l) (f := 3) (.inr (.inr rfl))) ?hp fun _ => ?_; (case hp => (repeat (first | exact Picks.nil | (apply Picks.cons; (focus (repeat constructor)))))); (try simp only [List.cons_append, List.nil_append, Bool.not_true, Bool.not_false]))
    (((with_reducible refine' e_opN (v_extN ?hc) Imp.nil ?_); (case hc => (repeat (first | exact Nth.here | apply Nth.there))))); (((with_reducible refine' e_opN (v_extN ?hc) Imp.nil ?_); (case hc => (repeat (first | exact Nth.here | apply Nth.there)))))
    (first | refine e_ret (()) rfl ?_ | refine e_retT (()) ?_)
    (repeat (first | exact Imp.refl | exact Imp.nil | (apply Imp.pick; (focus ((repeat constructor); done))) | refine Imp.drop ?_))
  · refine e_opN v_lss Imp.nil ?_
    rw [decide_eq_false (by omega)]
    ((with_reducible refine e_gdF2 ?_)); ((with_reducible refine e_gdF2 ?_)); ((with_reducible refine e_gdF2 ?_)); ((with_reducible refine e_gdF2 ?_)); (((with_reducible refine e_opN v_pickF Imp.nil ?_))); ((with_reducible refine e_condF ?_)); (((with_reducible refine e_opN (v_add ?h1 ?h2) Imp.nil ?_); (case h1 => omega); (case h2 => omega)))
    (refine' e_call (rdigits (l := l) (a := (cI l : Int) + 9) 2 (by rfl) (by omega) (by omega)) ?hp fun _ => ?_; (case hp => (repeat (first | exact Picks.nil | (apply Picks.cons; (focus (repeat constructor)))))); (try simp only [List.cons_append, List.nil_append, Bool.not_true, Bool.not_false]))
    refine e_cut0 (pu (s2R l now = none) :: F) ?_ ?_
    rotate_left
    · refine e_ask v_geq Imp.nil (fun hg => ?_) (fun hg => ?_)
      · have hs2 : s2R l now = smR 2 l (x2R l now) := if_pos hg
        ((with_reducible refine e_condT ?_)); (((with_reducible refine e_opN (v_add ?h1 ?h2) Imp.nil ?_); (case h1 => omega); (case h2 => omega))); (((with_reducible refine e_opN (v_add ?h1 ?h2) Imp.nil ?_); (case h1 => omega); (case h2 => omega))); (((with_reducible refine e_opN (v_add ?h1 ?h2) Imp.nil ?_); (case h1 => omega); (case h2 => omega)))
        (refine' e_call (rcentury (two := dgR l ((cI l : Int) + 9) 2) (now := now)) ?hp fun _ => ?_; (case hp => (repeat (first | exact Picks.nil | (apply Picks.cons; (focus (repeat constructor)))))); (try simp only [List.cons_append, List.nil_append, Bool.not_true, Bool.not_false]))
        (refine' e_call (rread (l := l) (day := (cI l : Int) + 2) (at_ := (cI l : Int) + 12) (year := cyR (dgR l ((cI l : Int) + 9) 2) now) (cI l + 5) (by omega) (by omega) (by omega) (by omega)) ?hp fun _ => ?_; (case hp => (repeat (first | exact Picks.nil | (apply Picks.cons; (focus (repeat constructor)))))); (try simp only [List.cons_append, List.nil_append, Bool.not_true, Bool.not_false]))
        rw [show rdR l ((cI l : Int) + 2) (cI l + 5) ((cI l : Int) + 12) (cyR (dgR l ((cI l : Int) + 9) 2) now) = x2R l now from rfl]
        (refine' e_call (rsame (l := l) (x := x2R l now) (f := 2) (.inr (.inl rfl))) ?hp fun _ => ?_; (case hp => (repeat (first | exact Picks.nil | (apply Picks.cons; (focus (repeat constructor)))))); (try simp only [List.cons_append, List.nil_append, Bool.not_true, Bool.not_false]))
        (((with_reducible refine' e_opN (v_extN ?hc) Imp.nil ?_); (case hc => (repeat (first | exact Nth.here | apply Nth.there))))); (((with_reducible refine' e_opN (v_extN ?hc) Imp.nil ?_); (case hc => (repeat (first | exact Nth.here | apply Nth.there)))))
        cases hs : smR 2 l (x2R l now) with
        | some n =>
          have hr : rpR now l = some n := by unfold rpR; rw [hs1, hs2, hs]
          rw [hr]
          refine e_opN v_eql Imp.nil ?_
          rw [show decide (oE (some n) = 0) = true from rfl]
          ((with_reducible refine e_condT ?_))
          (first | refine e_ret (()) rfl ?_ | refine e_retT (()) ?_)
          (repeat (first | exact Imp.refl | exact Imp.nil | (apply Imp.pick; (focus ((repeat constructor); done))) | refine Imp.drop ?_))
        | none =>
          refine e_opN v_eql Imp.nil ?_
          rw [show decide (oE (none : Option Int) = 0) = false from rfl]
          ((with_reducible refine e_condF ?_))
          refine e_sat (.pu (by rw [hs2, hs]) ?_)
          (repeat (first | exact Imp.refl | exact Imp.nil | (apply Imp.pick; (focus ((repeat constructor); done))) | refine Imp.drop ?_))
      · ((with_reducible refine e_condF ?_))
        refine e_sat (.pu (if_neg hg) ?_)
        (repeat (first | exact Imp.refl | exact Imp.nil | (apply Imp.pick; (focus ((repeat constructor); done))) | refine Imp.drop ?_))
    intro ds2
    (try simp only [List.cons_append, List.nil_append, -eq_self])
    refine e_pu .here fun hs2 => ?_
    have hr : rpR now l = smR 3 l (x3R l) := by unfold rpR; rw [hs1, hs2]
    rw [hr]
    (refine' e_call (rdigits (l := l) (a := 20) 4 (by rfl) (by omega) (by omega)) ?hp fun _ => ?_; (case hp => (repeat (first | exact Picks.nil | (apply Picks.cons; (focus (repeat constructor)))))); (try simp only [List.cons_append, List.nil_append, Bool.not_true, Bool.not_false]))
    (refine' e_call (rread (l := l) (day := 8) (at_ := 11) (year := dgR l 20 4) 4 (by rfl) (by omega) (by omega) (by omega)) ?hp fun _ => ?_; (case hp => (repeat (first | exact Picks.nil | (apply Picks.cons; (focus (repeat constructor)))))); (try simp only [List.cons_append, List.nil_append, Bool.not_true, Bool.not_false]))
    have hx3 : x3R l = if 9 < l.length ∧ l.getD 8 0 = 32 then { rdR l 8 4 11 (dgR l 20 4) with d := dgR l 9 1 } else rdR l 8 4 11 (dgR l 20 4) := rfl
    generalize rdR l 8 4 11 (dgR l 20 4) = y3 at hx3 ⊢
    rw [show (Value.agg (dtA y3)) = .agg #[.int .i64 y3.y, .int .i64 y3.m, .int .i64 y3.d, .int .i64 y3.h, .int .i64 y3.mi, .int .i64 y3.s, .int .i64 y3.w] from rfl]
    (((with_reducible refine e_newA fun g => ?_))); (((with_reducible refine' e_stAgg ?hp ?hn ?hv ?h1 ?_); (case hp => (repeat constructor)); (case hn => rfl); (case hv => rfl); (case h1 => simp [Value.oneCell'])))
    rename Nat => b10
    refine e_cut0 (pt b10 (.cells (dtA (x3R l)) 23) :: F) ?_ ?_
    rotate_left
    · refine e_opN v_lent Imp.nil ?_
      refine e_ask v_gtr Imp.nil (fun h9 => ?_) (fun h9 => ?_)
      · have h8 : 8 < l.length := by omega
        have hg8 : l.getD 8 0 = l[8] := by simp [List.getD_eq_getElem?_getD, h8]
        ((with_reducible refine e_gdT ?_)); ((with_reducible refine e_gdT ?_))
        refine e_opN (v_ixS 8 (by rfl) h8) Imp.nil ?_
        unfold Sl.B
        ((with_reducible refine e_gdT ?_))
        refine e_ask v_eql Imp.nil (fun h5 => ?_) (fun h5 => ?_)
        · have hc8 : l[8] = 32 := UInt8.toNat_inj.1 (Int.ofNat.inj h5)
          rw [show x3R l = { y3 with d := dgR l 9 1 } by rw [hx3]; exact if_pos ⟨by omega, by rw [hg8, hc8]⟩]
          (((with_reducible refine e_opN v_pickT Imp.nil ?_))); ((with_reducible refine e_condT ?_))
          (refine' e_call (rdigits (l := l) (a := 9) 1 (by rfl) (by omega) (by omega)) ?hp fun _ => ?_; (case hp => (repeat (first | exact Picks.nil | (apply Picks.cons; (focus (repeat constructor)))))); (try simp only [List.cons_append, List.nil_append, Bool.not_true, Bool.not_false]))
          (((with_reducible refine e_opN v_fa0 Imp.nil ?_))); (((with_reducible refine' e_stN ?hp ?ho ?_); (case hp => (repeat constructor)); (case ho => (repeat (first | exact Put.here | apply Put.there)))))
          refine e_sat ?_
          unfold dtA
          (repeat (first | exact Imp.refl | exact Imp.nil | (apply Imp.pick; (focus ((repeat constructor); done))) | refine Imp.drop ?_))
        · rw [show x3R l = y3 by rw [hx3]; exact if_neg fun c => h5 (by rw [hg8] at c; rw [c.2]; rfl)]
          (((with_reducible refine e_opN v_pickT Imp.nil ?_))); ((with_reducible refine e_condF ?_))
          refine e_sat ?_
          unfold dtA
          (repeat (first | exact Imp.refl | exact Imp.nil | (apply Imp.pick; (focus ((repeat constructor); done))) | refine Imp.drop ?_))
      · rw [show x3R l = y3 by rw [hx3]; exact if_neg fun c => h9 (by omega)]
        ((with_reducible refine e_gdF2 ?_)); ((with_reducible refine e_gdF2 ?_)); ((with_reducible refine e_gdF2 ?_)); (((with_reducible refine e_opN v_pickF Imp.nil ?_))); ((with_reducible refine e_condF ?_))
        refine e_sat ?_
        unfold dtA
        (repeat (first | exact Imp.refl | exact Imp.nil | (apply Imp.pick; (focus ((repeat constructor); done))) | refine Imp.drop ?_))
    intro ds3
    (try simp only [List.cons_append, List.nil_append, -eq_self])
    rw [show dtA (x3R l) = #[.int .i64 (x3R l).y, .int .i64 (x3R l).m, .int .i64 (x3R l).d, .int .i64 (x3R l).h, .int .i64 (x3R l).mi, .int .i64 (x3R l).s, .int .i64 (x3R l).w] from rfl]
    (((with_reducible refine' e_opN (v_ldAgg ?hn) ?hi ?_); (case hi => (repeat (first | exact Imp.refl | exact Imp.nil | (apply Imp.pick; (focus ((repeat constructor); done))) | refine Imp.drop ?_))); (case hn => rfl)))
    (refine' e_call (rsame (l := l) (x := x3R l) (f := 3) (.inr (.inr rfl))) ?hp fun _ => ?_; (case hp => (repeat (first | exact Picks.nil | (apply Picks.cons; (focus (repeat constructor)))))); (try simp only [List.cons_append, List.nil_append, Bool.not_true, Bool.not_false]))
    (((with_reducible refine' e_opN (v_extN ?hc) Imp.nil ?_); (case hc => (repeat (first | exact Nth.here | apply Nth.there))))); (((with_reducible refine' e_opN (v_extN ?hc) Imp.nil ?_); (case hc => (repeat (first | exact Nth.here | apply Nth.there)))))
    (first | refine e_ret (()) rfl ?_ | refine e_retT (()) ?_)
    (repeat (first | exact Imp.refl | exact Imp.nil | (apply Imp.pick; (focus ((repeat constructor); done))) | refine Imp.drop ?_))
end Go.Proofs.Ytcmpkkkigmheoaa.D
