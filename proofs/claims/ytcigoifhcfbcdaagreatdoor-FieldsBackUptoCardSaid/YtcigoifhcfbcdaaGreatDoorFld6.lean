/- Elements of lists: tokens, weights, choices, spans. The library's own error can be read ('Gl'); a text of at most 4194304 bytes. -/
import Derived.Test.YtcigoifhcfbcdaaGreatDoorFldG
import Derived.Test.YtcigoifhcfbcdaaGreatDoorFld3
set_option linter.unusedVariables false
set_option linter.unusedSimpArgs false
namespace Go.Proofs.YtcigoifhcfbcdaaGreatDoor.FD
open Go Go.Proofs Go.RowKit Go.Proofs.YtcigoifhcfbcdaaGreatDoor.Sh Go.Proofs.YtcigoifhcfbcdaaGreatDoor.Sl Go.Proofs.YtcigoifhcfbcdaaGreatDoor.T
section
variable {P : Program} {W : World} {L L' : List HP} {Kp : PK} {k : Value → WP}
theorem e_or1 {a b : Bool} {y : Value} {s1 : Value → Sem Next} (h1 : a = false → RunV P W [] (s1 y) (.bool b)) (h : Ent W L (k (.bool (a || b)))) :
    Ent W L (gdK (.bool a) false (fun k => k y) fun x1 => gdK (.bool a) false (opN P (s1 x1) Kp) fun x2 => opN P (sPick (.bool a) (.bool true) x2) Kp k) := by
  cases a with
  | true =>
    refine e_gdF1 ?_
    refine e_gdF1 ?_
    refine e_opN v_pickT Imp.nil ?_
    simpa using h
  | false =>
    refine e_gdT ?_
    refine e_gdT ?_
    refine e_opN (h1 rfl) Imp.nil ?_
    refine e_opN v_pickF Imp.nil ?_
    simpa using h
theorem e_or2 {a b : Bool} {y v1 : Value} {s1 s2 : Value → Sem Next} (h1 : a = false → RunV P W [] (s1 y) v1) (h2 : a = false → RunV P W [] (s2 v1) (.bool b)) (h : Ent W L (k (.bool (a || b)))) :
    Ent W L (gdK (.bool a) false (fun k => k y) fun x1 => gdK (.bool a) false (opN P (s1 x1) Kp) fun x2 => gdK (.bool a) false (opN P (s2 x2) Kp) fun x3 => opN P (sPick (.bool a) (.bool true) x3) Kp k) := by
  cases a with
  | true =>
    refine e_gdF1 ?_
    refine e_gdF1 ?_
    refine e_gdF1 ?_
    refine e_opN v_pickT Imp.nil ?_
    simpa using h
  | false =>
    refine e_gdT ?_
    refine e_gdT ?_
    refine e_opN (h1 rfl) Imp.nil ?_
    refine e_gdT ?_
    refine e_opN (h2 rfl) Imp.nil ?_
    refine e_opN v_pickF Imp.nil ?_
    simpa using h
end
theorem cutB_len {c : UInt8} : ∀ s : List UInt8, (cutB c s).length ≤ s.length
  | [] => by simp [cutB]
  | x :: r => by
    have := cutB_len (c := c) r
    unfold cutB
    split <;> simp <;> omega
theorem lowF_len (l : List UInt8) : (lowF l).length = l.length := by simp [lowF]
theorem weight {W : World} [hG : Gl W] {l : List UInt8} (hl : l.length ≤ 4194304) : Cn Tryz.prog 60 [txt l] W [] (fun _ : Unit => .tuple #[.int .i64 (weightF l).1, .bool (weightF l).2]) (fun _ => []) := by
  have hA := cutA_len (c := 46) l
  have hB := cutB_len (c := 46) l
  (refine S.fields_weight_cn fun F => ?_; unfold S.fields_weight; simp only [List.cons_append, List.nil_append])
  (refine' e_call (cut_ (c := 46) (l := l) (by omega)) ?hp fun _ => ?_; (case hp => (repeat (first | exact Picks.nil | (apply Picks.cons; (focus (repeat constructor)))))); (try simp only [List.cons_append, List.nil_append, Bool.not_true, Bool.not_false]))
  refine e_opN (v_extN (vs := [_, _, _]) .here) Imp.nil ?_
  refine e_opN (v_extN (vs := [_, _, _]) (.there .here)) Imp.nil ?_
  refine e_opN (v_extN (vs := [_, _, _]) (.there (.there .here))) Imp.nil ?_
  refine e_opN (v_strne (m := [48])) Imp.nil ?_
  refine e_and (fun _ => v_strne (m := [49])) ?_
  refine e_or2 (fun _ => v_lent) (fun _ => v_gtr) ?_
  refine e_cond (φ := (cutA 46 l ≠ [48] ∧ cutA 46 l ≠ [49]) ∨ 3 < (cutB 46 l).length) (by rw [← Bool.decide_and, ← Bool.decide_or, decide_eq_decide]; exact or_congr_right (by omega)) (fun h => ?_) (fun h => ?_)
  · have e : weightF l = (0, false) := by unfold weightF; rw [if_pos h]
    rw [e]
    (first | refine e_ret (()) rfl ?_ | refine e_retT (()) ?_)
    (repeat (first | exact Imp.refl | exact Imp.nil | (apply Imp.pick; (focus ((repeat constructor); done))) | refine Imp.drop ?_))
  · have e : weightF l = ((decF (cutA 46 l ++ (cutB 46 l ++ [48, 48, 48]).take 3)).1, decide ((decF (cutA 46 l ++ (cutB 46 l ++ [48, 48, 48]).take 3)).2 = 0) && decide ((decF (cutA 46 l ++ (cutB 46 l ++ [48, 48, 48]).take 3)).1 ≤ 1000)) := by
      unfold weightF; rw [if_neg h]
    rw [e]
    refine e_opN (v_cat (b := [48, 48, 48]) (by simp; omega)) Imp.nil ?_
    refine e_opN (v_ssh 3 rfl (by simp)) Imp.nil ?_
    refine e_opN (v_cat (by simp; omega)) Imp.nil ?_
    refine e_call (decimal (l := cutA 46 l ++ (cutB 46 l ++ [48, 48, 48]).take 3) (by simp; omega)) .nil fun _ => ?_
    (try simp only [List.cons_append, List.nil_append, -eq_self])
    refine e_opN (v_extN (vs := [_, _]) .here) Imp.nil ?_
    refine e_opN (v_extN (vs := [_, _]) (.there .here)) Imp.nil ?_
    refine e_opN v_eql Imp.nil ?_
    refine e_and (fun _ => v_leq) ?_
    (first | refine e_ret (()) rfl ?_ | refine e_retT (()) ?_)
    (repeat (first | exact Imp.refl | exact Imp.nil | (apply Imp.pick; (focus ((repeat constructor); done))) | refine Imp.drop ?_))
theorem low_q1 {w : List UInt8} (h : 2 ≤ w.length) : eqlF (w.take 2) [113, 61] = decide (lowF (w.take 2) = [113, 61]) := by
  unfold eqlF
  rw [decide_eq_true (by simp; omega), Bool.true_and]
  rfl
theorem choice {W : World} [hG : Gl W] {l : List UInt8} (hl : l.length ≤ 4194304) : Cn Tryz.prog 43 [txt l] W [] (fun _ : Unit => .tuple #[vChoice (choiceF l).1, .bool (choiceF l).2]) (fun _ => []) := by
  have hA := cutA_len (c := 59) l
  have hB := cutB_len (c := 59) l
  have tA := trim_len (cutA 59 l)
  have tB := trim_len (cutB 59 l)
  (refine S.fields_choice_cn fun F => ?_; unfold S.fields_choice; simp only [List.cons_append, List.nil_append])
  refine e_newA fun b2 => ?_
  (refine' e_call (cut_ (c := 59) (l := l) (by omega)) ?hp fun _ => ?_; (case hp => (repeat (first | exact Picks.nil | (apply Picks.cons; (focus (repeat constructor)))))); (try simp only [List.cons_append, List.nil_append, Bool.not_true, Bool.not_false]))
  refine e_opN (v_extN (vs := [_, _, _]) .here) Imp.nil ?_
  refine e_opN (v_extN (vs := [_, _, _]) (.there .here)) Imp.nil ?_
  refine e_opN (v_extN (vs := [_, _, _]) (.there (.there .here))) Imp.nil ?_
  (refine' e_call (trim (l := cutA 59 l) (by omega)) ?hp fun _ => ?_; (case hp => (repeat (first | exact Picks.nil | (apply Picks.cons; (focus (repeat constructor)))))); (try simp only [List.cons_append, List.nil_append, Bool.not_true, Bool.not_false]))
  (refine' e_call (lower (l := trimB (cutA 59 l)) (by omega)) ?hp fun _ => ?_; (case hp => (repeat (first | exact Picks.nil | (apply Picks.cons; (focus (repeat constructor)))))); (try simp only [List.cons_append, List.nil_append, Bool.not_true, Bool.not_false]))
  (((with_reducible refine e_opN v_rv Imp.nil ?_))); (((with_reducible refine e_newA fun g => ?_))); (((with_reducible refine' e_stAgg ?hp ?hn ?hv ?h1 ?_); (case hp => (repeat constructor)); (case hn => rfl); (case hv => rfl); (case h1 => (intro u hu; simp at hu; rcases hu with rfl | rfl <;> rfl)))); (((with_reducible refine e_opN v_fa0 Imp.nil ?_))); (((with_reducible refine' e_opN (v_ldN ?hc) ?hi ?_); (case hi => (repeat (first | exact Imp.refl | exact Imp.nil | (apply Imp.pick; (focus ((repeat constructor); done))) | refine Imp.drop ?_))); (case hc => (repeat (first | exact Nth.here | apply Nth.there)))))
  (refine' e_call (token (l := lowF (trimB (cutA 59 l))) (by rw [lowF_len]; omega)) ?hp fun _ => ?_; (case hp => (repeat (first | exact Picks.nil | (apply Picks.cons; (focus (repeat constructor)))))); (try simp only [List.cons_append, List.nil_append, Bool.not_true, Bool.not_false]))
  cases hs : cutS 59 l with
  | false =>
    have e : choiceF l = ((lowF (trimB (cutA 59 l)), 1000), tokF (lowF (trimB (cutA 59 l)))) := by unfold choiceF; rw [hs]; rfl
    rw [e]
    ((with_reducible refine e_condF ?_)); (((with_reducible refine' e_opN (v_ldAgg ?hn) ?hi ?_); (case hi => (repeat (first | exact Imp.refl | exact Imp.nil | (apply Imp.pick; (focus ((repeat constructor); done))) | refine Imp.drop ?_))); (case hn => rfl))); (((with_reducible refine' e_stAgg ?hp ?hn ?hv ?h1 ?_); (case hp => (repeat constructor)); (case hn => rfl); (case hv => rfl); (case h1 => (intro u hu; simp at hu; rcases hu with rfl | rfl <;> rfl)))); (((with_reducible refine' e_stS (v_resA ?hn) ?hi ?_); (case hi => (repeat (first | exact Imp.refl | exact Imp.nil | (apply Imp.pick; (focus ((repeat constructor); done))) | refine Imp.drop ?_))); (case hn => rfl)))
    (first | refine e_ret (()) rfl ?_ | refine e_retT (()) ?_)
    (repeat (first | exact Imp.refl | exact Imp.nil | (apply Imp.pick; (focus ((repeat constructor); done))) | refine Imp.drop ?_))
  | true =>
    refine e_condT ?_
    (refine' e_call (trim (l := cutB 59 l) (by omega)) ?hp fun _ => ?_; (case hp => (repeat (first | exact Picks.nil | (apply Picks.cons; (focus (repeat constructor)))))); (try simp only [List.cons_append, List.nil_append, Bool.not_true, Bool.not_false]))
    refine e_opN v_lent Imp.nil ?_
    have bad : ((trimB (cutB 59 l)).length < 2 ∨ lowF ((trimB (cutB 59 l)).take 2) ≠ [113, 61]) → choiceF l = (([], 0), false) := fun h => by
      unfold choiceF; rw [if_pos hs, if_pos h]
    refine e_ask v_lss Imp.nil (fun h => ?_) (fun h => ?_)
    · rw [bad (.inl (by omega))]
      ((with_reducible refine e_gdF1 ?_)); ((with_reducible refine e_gdF1 ?_)); ((with_reducible refine e_gdF1 ?_)); ((with_reducible refine e_gdF1 ?_)); (((with_reducible refine e_opN v_pickT Imp.nil ?_))); ((with_reducible refine e_condT ?_)); (((with_reducible refine e_opN v_rv Imp.nil ?_))); (((with_reducible refine' e_stAgg ?hp ?hn ?hv ?h1 ?_); (case hp => (repeat constructor)); (case hn => rfl); (case hv => rfl); (case h1 => simp [Value.oneCell']))); (((with_reducible refine' e_stS (v_resA ?hn) ?hi ?_); (case hi => (repeat (first | exact Imp.refl | exact Imp.nil | (apply Imp.pick; (focus ((repeat constructor); done))) | refine Imp.drop ?_))); (case hn => rfl)))
      (first | refine e_ret (()) rfl ?_ | refine e_retT (()) ?_)
      (repeat (first | exact Imp.refl | exact Imp.nil | (apply Imp.pick; (focus ((repeat constructor); done))) | refine Imp.drop ?_))
    · have h2 : 2 ≤ (trimB (cutB 59 l)).length := by omega
      ((with_reducible refine e_gdT ?_)); ((with_reducible refine e_gdT ?_))
      refine e_opN (v_ssh 2 rfl h2) Imp.nil ?_
      ((with_reducible refine e_gdT ?_))
      refine e_call (equal (a := (trimB (cutB 59 l)).take 2) (b := [113, 61]) (by simp; omega) (by simp)) .nil fun _ => ?_
      (try simp only [List.cons_append, List.nil_append, -eq_self])
      rw [low_q1 h2]
      refine e_gdT ?_
      refine e_opN v_not Imp.nil ?_
      refine e_opN v_pickF Imp.nil ?_
      by_cases hq : lowF ((trimB (cutB 59 l)).take 2) = [113, 61]
      · have e : choiceF l = ((lowF (trimB (cutA 59 l)), (weightF ((trimB (cutB 59 l)).drop 2)).1), tokF (lowF (trimB (cutA 59 l))) && (weightF ((trimB (cutB 59 l)).drop 2)).2) := by
          unfold choiceF; rw [if_pos hs, if_neg (by rintro (h3 | h3); omega; exact h3 hq)]
        rw [e, decide_eq_true hq]
        refine e_condF ?_
        refine e_opN (v_ssl 2 rfl h2) Imp.nil ?_
        refine e_call (weight (l := (trimB (cutB 59 l)).drop 2) (by rw [List.length_drop]; omega)) .nil fun _ => ?_
        (try simp only [List.cons_append, List.nil_append, -eq_self])
        (((with_reducible refine' e_opN (v_extN ?hc) Imp.nil ?_); (case hc => (repeat (first | exact Nth.here | apply Nth.there))))); (((with_reducible refine' e_opN (v_extN ?hc) Imp.nil ?_); (case hc => (repeat (first | exact Nth.here | apply Nth.there))))); (((with_reducible refine e_opN v_fa0 Imp.nil ?_))); (((with_reducible refine' e_stN ?hp ?ho ?_); (case hp => (repeat constructor)); (case ho => (repeat (first | exact Put.here | apply Put.there)))))
        refine e_and0 ?_
        (((with_reducible refine' e_opN (v_ldAgg ?hn) ?hi ?_); (case hi => (repeat (first | exact Imp.refl | exact Imp.nil | (apply Imp.pick; (focus ((repeat constructor); done))) | refine Imp.drop ?_))); (case hn => rfl))); (((with_reducible refine' e_stAgg ?hp ?hn ?hv ?h1 ?_); (case hp => (repeat constructor)); (case hn => rfl); (case hv => rfl); (case h1 => (intro u hu; simp at hu; rcases hu with rfl | rfl <;> rfl)))); (((with_reducible refine' e_stS (v_resA ?hn) ?hi ?_); (case hi => (repeat (first | exact Imp.refl | exact Imp.nil | (apply Imp.pick; (focus ((repeat constructor); done))) | refine Imp.drop ?_))); (case hn => rfl)))
        (first | refine e_ret (()) rfl ?_ | refine e_retT (()) ?_)
        (repeat (first | exact Imp.refl | exact Imp.nil | (apply Imp.pick; (focus ((repeat constructor); done))) | refine Imp.drop ?_))
      · rw [bad (.inr hq), decide_eq_false hq, show (!false) = true from rfl]
        ((with_reducible refine e_condT ?_)); (((with_reducible refine e_opN v_rv Imp.nil ?_))); (((with_reducible refine' e_stAgg ?hp ?hn ?hv ?h1 ?_); (case hp => (repeat constructor)); (case hn => rfl); (case hv => rfl); (case h1 => simp [Value.oneCell']))); (((with_reducible refine' e_stS (v_resA ?hn) ?hi ?_); (case hi => (repeat (first | exact Imp.refl | exact Imp.nil | (apply Imp.pick; (focus ((repeat constructor); done))) | refine Imp.drop ?_))); (case hn => rfl)))
        (first | refine e_ret (()) rfl ?_ | refine e_retT (()) ?_)
        (repeat (first | exact Imp.refl | exact Imp.nil | (apply Imp.pick; (focus ((repeat constructor); done))) | refine Imp.drop ?_))
end Go.Proofs.YtcigoifhcfbcdaaGreatDoor.FD
