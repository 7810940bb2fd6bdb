/- The document's lists. Printed by a program of mine (d23.py). A text of at most 2097152 bytes. -/
import Derived.Test.YtcigoifhcfbcdaaDoorFldR2
import Derived.Test.YtcigoifhcfbcdaaDoorFldT
import Derived.Test.YtcigoifhcfbcdaaDoorFieldsAlike0
set_option linter.unusedVariables false
set_option linter.unusedSimpArgs false
namespace Go.Proofs.YtcigoifhcfbcdaaDoor.FD
open Go Go.Proofs Go.RowKit Go.Proofs.YtcigoifhcfbcdaaDoor.Sh Go.Proofs.YtcigoifhcfbcdaaDoor.Sl Go.Proofs.YtcigoifhcfbcdaaDoor.T
theorem badT_r (c : UInt8) : badT c = (decide ((c.toNat : Int) < 33) || decide (c = 34) || decide (c = 127)) := by
  rw [badT_i]
  have e : decide ((c.toNat : Int) ≤ 32) = decide ((c.toNat : Int) < 33) := by rw [decide_eq_decide]; omega
  rw [e]
theorem rparseTag {W : World} {l : List UInt8} (hl : l.length ≤ 4611686018427387904) : Cn Tryd.prog 23 [txt l] W [] (fun _ : Unit => .tuple #[vTag (tagF l).1, .int .i64 (if (tagF l).2 then 0 else 42)]) (fun _ => []) := by
  have hvl := tagV_len l
  have bad : tagOk (tagV l) = false → tagF l = ((false, []), false) := fun h => by unfold tagF; rw [h]; rfl
  have e0 : (Value.string ⟨#[]⟩) = txt [] := rfl
  (refine S.ref10_ParseTag_cn fun F => ?_; unfold S.ref10_ParseTag; simp only [List.cons_append, List.nil_append])
  refine e_newA fun b2 => ?_
  refine e_opN v_rv Imp.nil ?_
  refine e_newA fun b4 => ?_
  (((with_reducible refine' e_stAgg ?hp ?hn ?hv ?h1 ?_); (case hp => (repeat constructor)); (case hn => rfl); (case hv => rfl); (case h1 => simp [Value.oneCell'])))
  refine e_cut1 (fun z => pu (z = txt (tagV l)) :: pt b4 (.cells #[.bool (weakF l), .string ⟨#[]⟩] 36 (0, 0)) :: pt b2 (.cells #[.bool false, .string ⟨#[]⟩] 36 (0, 0)) :: F) ?_ ?_
  rotate_left
  · refine e_opN v_lent Imp.nil ?_
    refine e_ask v_geq Imp.nil (fun h => ?_) (fun h => ?_)
    · have h2 : 2 ≤ l.length := by omega
      ((with_reducible refine e_gdT ?_)); ((with_reducible refine e_gdT ?_))
      refine e_opN (v_ssh 2 rfl h2) Imp.nil ?_
      ((with_reducible refine e_gdT ?_))
      refine e_opN (v_streq (m := [87, 47])) Imp.nil ?_
      refine e_opN v_pickT Imp.nil ?_
      have e : decide (l.take 2 = [87, 47]) = weakF l := by
        unfold weakF
        rw [Bool.eq_iff_iff]; simp
      rw [e]
      cases hw : weakF l with
      | true =>
        refine e_condT ?_
        (((with_reducible refine e_opN v_fa0 Imp.nil ?_))); (((with_reducible refine' e_stN ?hp ?ho ?_); (case hp => (repeat constructor)); (case ho => (repeat (first | exact Put.here | apply Put.there)))))
        refine e_opN (v_ssl 2 rfl h2) Imp.nil ?_
        refine e_sat (.pu (by unfold tagV; rw [hw]; rfl) ?_)
        exact .refl
      | false =>
        refine e_condF ?_
        refine e_sat (.pu (by unfold tagV; rw [hw]; rfl) ?_)
        exact .refl
    · have hw : weakF l = false := by
        unfold weakF
        cases hx : (l.take 2 == [87, 47]) with
        | false => rfl
        | true =>
          have := congrArg List.length (by simpa using hx : l.take 2 = [87, 47])
          simp at this; omega
      ((with_reducible refine e_gdF2 ?_)); ((with_reducible refine e_gdF2 ?_)); ((with_reducible refine e_gdF2 ?_)); (((with_reducible refine e_opN v_pickF Imp.nil ?_))); ((with_reducible refine e_condF ?_))
      rw [hw]
      refine e_sat (.pu (by unfold tagV; rw [hw]; rfl) ?_)
      exact .refl
  intro ds z
  refine e_pu .here fun hz => ?_
  subst hz
  obtain ⟨v, hv⟩ : ∃ v, v = tagV l := ⟨_, rfl⟩
  rw [← hv] at hvl bad ⊢
  refine e_opN v_lent Imp.nil ?_
  refine e_opN v_lss Imp.nil ?_
  by_cases h2 : v.length < 2
  · have hno : tagOk v = false := by
      unfold tagOk
      rw [decide_eq_false (fun c => by omega)]; rfl
    rw [bad hno, decide_eq_true (by omega)]
    ((with_reducible refine e_gdF1 ?_)); ((with_reducible refine e_gdF1 ?_)); ((with_reducible refine e_gdF1 ?_)); (((with_reducible refine e_opN v_pickT Imp.nil ?_))); ((with_reducible refine e_gdF1 ?_)); ((with_reducible refine e_gdF1 ?_)); ((with_reducible refine e_gdF1 ?_)); ((with_reducible refine e_gdF1 ?_)); ((with_reducible refine e_gdF1 ?_)); ((with_reducible refine e_gdF1 ?_)); (((with_reducible refine e_opN v_pickT Imp.nil ?_))); ((with_reducible refine e_condT ?_)); (((with_reducible refine e_opN v_rv Imp.nil ?_))); (((with_reducible refine' e_stAgg ?hp ?hn ?hv ?h1 ?_); (case hp => (repeat constructor)); (case hn => rfl); (case hv => rfl); (case h1 => simp [Value.oneCell']))); (((with_reducible refine' e_stS (v_resA ?hn) ?hi ?_); (case hi => (repeat (first | exact Imp.refl | exact Imp.nil | (apply Imp.pick; (focus ((repeat constructor); done))) | refine Imp.drop ?_))); (case hn => rfl)))
    (first | refine e_ret (()) rfl ?_ | refine e_retT (()) ?_)
    (repeat (first | exact Imp.refl | exact Imp.nil | (apply Imp.pick; (focus ((repeat constructor); done))) | refine Imp.drop ?_))
  rw [decide_eq_false (by omega)]
  refine e_or2 (fun _ => v_ixS (l := v) 0 rfl (by omega)) (fun _ => B_ne 34 rfl) ?_
  rw [Bool.false_or]
  by_cases h3 : v[0]'(by omega) = 34
  rotate_left
  · have hno : tagOk v = false := by
      unfold tagOk
      rw [decide_eq_false (fun c => h3 (by have := c.2.1; rw [List.getElem?_eq_getElem (by omega)] at this; exact Option.some.inj this))]; rfl
    rw [bad hno, decide_eq_true h3]
    ((with_reducible refine e_gdF1 ?_)); ((with_reducible refine e_gdF1 ?_)); ((with_reducible refine e_gdF1 ?_)); ((with_reducible refine e_gdF1 ?_)); ((with_reducible refine e_gdF1 ?_)); ((with_reducible refine e_gdF1 ?_)); (((with_reducible refine e_opN v_pickT Imp.nil ?_))); ((with_reducible refine e_condT ?_)); (((with_reducible refine e_opN v_rv Imp.nil ?_))); (((with_reducible refine' e_stAgg ?hp ?hn ?hv ?h1 ?_); (case hp => (repeat constructor)); (case hn => rfl); (case hv => rfl); (case h1 => simp [Value.oneCell']))); (((with_reducible refine' e_stS (v_resA ?hn) ?hi ?_); (case hi => (repeat (first | exact Imp.refl | exact Imp.nil | (apply Imp.pick; (focus ((repeat constructor); done))) | refine Imp.drop ?_))); (case hn => rfl)))
    (first | refine e_ret (()) rfl ?_ | refine e_retT (()) ?_)
    (repeat (first | exact Imp.refl | exact Imp.nil | (apply Imp.pick; (focus ((repeat constructor); done))) | refine Imp.drop ?_))
  rw [decide_eq_false (fun c => c h3)]
  ((with_reducible refine e_gdT ?_)); ((with_reducible refine e_gdT ?_)); ((with_reducible refine e_gdT ?_))
  refine e_opN v_lent Imp.nil ?_
  ((with_reducible refine e_gdT ?_)); (((with_reducible refine e_opN (v_sub ?h1 ?h2) Imp.nil ?_); (case h1 => omega); (case h2 => omega))); ((with_reducible refine e_gdT ?_))
  refine e_opN (v_ixS (v.length - 1) (by omega) (by omega)) Imp.nil ?_
  ((with_reducible refine e_gdT ?_))
  refine e_opN (B_ne 34 rfl) Imp.nil ?_
  (((with_reducible refine e_opN v_pickF Imp.nil ?_)))
  by_cases h4 : v[v.length - 1]'(by omega) = 34
  rotate_left
  · have hno : tagOk v = false := by
      unfold tagOk
      rw [decide_eq_false (fun c => h4 (by have := c.2.2; rw [List.getElem?_eq_getElem (by omega)] at this; exact Option.some.inj this))]; rfl
    rw [bad hno, decide_eq_true h4]
    ((with_reducible refine e_condT ?_)); (((with_reducible refine e_opN v_rv Imp.nil ?_))); (((with_reducible refine' e_stAgg ?hp ?hn ?hv ?h1 ?_); (case hp => (repeat constructor)); (case hn => rfl); (case hv => rfl); (case h1 => simp [Value.oneCell']))); (((with_reducible refine' e_stS (v_resA ?hn) ?hi ?_); (case hi => (repeat (first | exact Imp.refl | exact Imp.nil | (apply Imp.pick; (focus ((repeat constructor); done))) | refine Imp.drop ?_))); (case hn => rfl)))
    (first | refine e_ret (()) rfl ?_ | refine e_retT (()) ?_)
    (repeat (first | exact Imp.refl | exact Imp.nil | (apply Imp.pick; (focus ((repeat constructor); done))) | refine Imp.drop ?_))
  rw [decide_eq_false (fun c => c h4)]
  have hok : tagOk v = !(mid v).any badT := by
    unfold tagOk
    rw [decide_eq_true ⟨by omega, by rw [List.getElem?_eq_getElem (by omega), h3], by rw [List.getElem?_eq_getElem (by omega), h4]⟩, Bool.true_and]
  refine e_condF ?_
  refine e_opN v_lent Imp.nil ?_
  refine e_opN (v_sub (by omega) (by omega)) Imp.nil ?_
  refine e_opN (v_sslh 1 (v.length - 1) rfl (by omega) (by omega) (by omega)) Imp.nil ?_
  rw [show sub v 1 (v.length - 1) = mid v from rfl]
  have hml : (mid v).length ≤ v.length := by simp [mid, sub]; omega
  refine e_opN v_fa0 Imp.nil ?_
  refine e_stN (by (repeat constructor)) (.there .here) ?_
  refine e_loop1 (fun m y => [ex fun i : Nat => all [pu (m + i = (mid v).length ∧ y = .int .i64 (i : Int) ∧ (mid v).any badT = ((mid v).drop i).any badT), pt b4 (.cells #[.bool (weakF l), txt (mid v)] 36 (0, 0)), pt b2 (.cells #[.bool false, .string ⟨#[]⟩] 36 (0, 0))]] ++ F) (mid v).length ?_ ?_
  · refine Imp.ex 0 (.all ?_)
    (try simp only [List.cons_append, List.nil_append, -eq_self])
    exact .pu ⟨by omega, rfl, rfl⟩ .refl
  intro m ds y
  (try simp only [List.cons_append, List.nil_append, -eq_self])
  refine e_ex Pick.here fun i => e_all Pick.here ?_
  (try simp only [List.cons_append, List.nil_append, -eq_self])
  refine e_pu Pick.here fun hi => ?_
  obtain ⟨hmi, rfl, hany⟩ := hi
  refine e_opN v_fa0 Imp.nil ?_
  refine e_opN (v_ldN (.there .here)) (.pick (by (repeat constructor)) .nil) ?_
  refine e_opN v_lent Imp.nil ?_
  refine e_ask v_lss Imp.nil (fun h => ?_) (fun h => ?_)
  · have hil : i < (mid v).length := by omega
    rw [dr hil, List.any_cons] at hany
    refine e_condT ?_
    refine e_opN v_fa0 Imp.nil ?_
    refine e_opN (v_ldN (.there .here)) (.pick (by (repeat constructor)) .nil) ?_
    refine e_opN (v_ixS i rfl hil) Imp.nil ?_
    refine e_opN (v_lss (q := .u8) (a := ((mid v)[i].toNat : Int)) (b := 33)) Imp.nil ?_
    refine e_or1 (fun _ => B_eq 34 rfl) ?_
    refine e_or1 (fun _ => B_eq 127 rfl) ?_
    rw [← badT_r]
    cases hb : badT (mid v)[i] with
    | true =>
      rw [hb, Bool.true_or] at hany
      rw [hany] at hok
      rw [bad hok]
      ((with_reducible refine e_condT ?_)); (((with_reducible refine e_opN v_rv Imp.nil ?_))); (((with_reducible refine' e_stAgg ?hp ?hn ?hv ?h1 ?_); (case hp => (repeat constructor)); (case hn => rfl); (case hv => rfl); (case h1 => simp [Value.oneCell']))); (((with_reducible refine' e_stS (v_resA ?hn) ?hi ?_); (case hi => (repeat (first | exact Imp.refl | exact Imp.nil | (apply Imp.pick; (focus ((repeat constructor); done))) | refine Imp.drop ?_))); (case hn => rfl)))
      (first | refine e_ret (()) rfl ?_ | refine e_retT (()) ?_)
      (repeat (first | exact Imp.refl | exact Imp.nil | (apply Imp.pick; (focus ((repeat constructor); done))) | refine Imp.drop ?_))
    | false =>
      rw [hb, Bool.false_or] at hany
      ((with_reducible refine e_condF ?_)); (((with_reducible refine e_opN (v_add ?h1 ?h2) Imp.nil ?_); (case h1 => omega); (case h2 => omega)))
      refine e_next1 (m - 1) (by omega) (.ex (i + 1) (.all ?_))
      (try simp only [List.cons_append, List.nil_append, -eq_self])
      exact .pu ⟨by omega, rfl, hany⟩ .refl
  · rw [List.drop_of_length_le (by omega), List.any_nil] at hany
    rw [hany] at hok
    have e : tagF l = ((weakF l, mid v), true) := by
      unfold tagF
      rw [← hv, hok]; rfl
    rw [e]
    ((with_reducible refine e_condF ?_)); (((with_reducible refine' e_opN (v_ldAgg ?hn) ?hi ?_); (case hi => (repeat (first | exact Imp.refl | exact Imp.nil | (apply Imp.pick; (focus ((repeat constructor); done))) | refine Imp.drop ?_))); (case hn => rfl))); (((with_reducible refine' e_stAgg ?hp ?hn ?hv ?h1 ?_); (case hp => (repeat constructor)); (case hn => rfl); (case hv => rfl); (case h1 => (intro u hu; simp at hu; rcases hu with rfl | rfl <;> rfl)))); (((with_reducible refine' e_stS (v_resA ?hn) ?hi ?_); (case hi => (repeat (first | exact Imp.refl | exact Imp.nil | (apply Imp.pick; (focus ((repeat constructor); done))) | refine Imp.drop ?_))); (case hn => rfl)))
    (first | refine e_ret (()) rfl ?_ | refine e_retT (()) ?_)
    (repeat (first | exact Imp.refl | exact Imp.nil | (apply Imp.pick; (focus ((repeat constructor); done))) | refine Imp.drop ?_))
theorem rquote {W : World} : Cn Tryd.prog 55 [] W [] (fun _ : Unit => txt [34]) (fun _ => []) := by
  (refine S.ref10_quote_cn fun F => ?_; unfold S.ref10_quote; simp only [List.cons_append, List.nil_append])
  refine e_bsl1 fun g => ?_
  refine e_opN (v_str (l := [34]) (rd_pt (cs := [B 34]) rfl) (by intro h; cases h)) (.pick .here .nil) ?_
  (first | refine e_ret (()) rfl ?_ | refine e_retT (()) ?_)
  (repeat (first | exact Imp.refl | exact Imp.nil | (apply Imp.pick; (focus ((repeat constructor); done))) | refine Imp.drop ?_))
theorem rtagText {W : World} {x : Bool × List UInt8} (hl : x.2.length ≤ 4611686018427387904) : Cn Tryd.prog 28 [vTag x] W [] (fun _ : Unit => txt (tagT x)) (fun _ => []) := by
  (refine S.ref10_TagText_cn fun F => ?_; unfold S.ref10_TagText; simp only [List.cons_append, List.nil_append])
  unfold vTag
  refine e_boxA fun b1 => ?_
  refine e_drS ?_
  refine e_stD v_fa0 Imp.nil ?_
  refine e_stD (v_ldN (.there .here)) (.pick (by (repeat constructor)) .nil) ?_
  refine e_call rquote .nil fun _ => ?_
  (try simp only [List.cons_append, List.nil_append, -eq_self])
  refine e_obl (by (repeat (first | exact Imp.refl | exact Imp.nil | (apply Imp.pick; (focus ((repeat constructor); done))) | refine Imp.drop ?_))) ?_
  refine e_obl (by (repeat (first | exact Imp.refl | exact Imp.nil | (apply Imp.pick; (focus ((repeat constructor); done))) | refine Imp.drop ?_))) ?_
  refine e_stD (v_cat (by simp; omega)) Imp.nil ?_
  refine e_call rquote .nil fun _ => ?_
  (try simp only [List.cons_append, List.nil_append, -eq_self])
  refine e_obl (by (repeat (first | exact Imp.refl | exact Imp.nil | (apply Imp.pick; (focus ((repeat constructor); done))) | refine Imp.drop ?_))) ?_
  refine e_obl (by (repeat (first | exact Imp.refl | exact Imp.nil | (apply Imp.pick; (focus ((repeat constructor); done))) | refine Imp.drop ?_))) ?_
  refine e_obl (by (repeat (first | exact Imp.refl | exact Imp.nil | (apply Imp.pick; (focus ((repeat constructor); done))) | refine Imp.drop ?_))) ?_
  refine e_stS (v_cat (by simp; omega)) Imp.nil ?_
  refine e_opN v_fa0 Imp.nil ?_
  refine e_opN (v_ldN .here) (.pick (by (repeat constructor)) .nil) ?_
  cases hx : x.1 with
  | true =>
    refine e_condT ?_
    refine e_opN (v_cat (a := [87, 47]) (by simp; omega)) Imp.nil ?_
    refine e_ret () (by unfold tagT; rw [hx]; simp) ?_
    (repeat (first | exact Imp.refl | exact Imp.nil | (apply Imp.pick; (focus ((repeat constructor); done))) | refine Imp.drop ?_))
  | false =>
    refine e_condF ?_
    refine e_ret () (by unfold tagT; rw [hx]; simp) ?_
    (repeat (first | exact Imp.refl | exact Imp.nil | (apply Imp.pick; (focus ((repeat constructor); done))) | refine Imp.drop ?_))
theorem rstrong {W : World} {x y : Bool × List UInt8} : Cn Tryd.prog 29 [vTag x, vTag y] W [] (fun _ : Unit => .bool (strF x y)) (fun _ => []) := by
  have e : strF x y = ((!x.1 && !y.1) && decide (x.2 = y.2)) := by
    unfold strF
    cases x.1 <;> cases y.1 <;> by_cases h : x.2 = y.2 <;> simp [h]
  rw [e]
  (refine S.ref10_Strong_cn fun F => ?_; unfold S.ref10_Strong; simp only [List.cons_append, List.nil_append])
  unfold vTag
  refine e_boxA fun b2 => ?_
  refine e_boxA fun b3 => ?_
  cases h1 : x.1 with
  | true =>
    (((with_reducible refine e_opN v_fa0 Imp.nil ?_))); (((with_reducible refine' e_opN (v_ldN ?hc) ?hi ?_); (case hi => (repeat (first | exact Imp.refl | exact Imp.nil | (apply Imp.pick; (focus ((repeat constructor); done))) | refine Imp.drop ?_))); (case hc => (repeat (first | exact Nth.here | apply Nth.there))))); (((with_reducible refine e_opN v_notT Imp.nil ?_))); ((with_reducible refine e_gdF2 ?_)); ((with_reducible refine e_gdF2 ?_)); ((with_reducible refine e_gdF2 ?_)); (((with_reducible refine e_opN v_pickF Imp.nil ?_))); ((with_reducible refine e_gdF2 ?_)); ((with_reducible refine e_gdF2 ?_)); ((with_reducible refine e_gdF2 ?_)); ((with_reducible refine e_gdF2 ?_)); ((with_reducible refine e_gdF2 ?_)); (((with_reducible refine e_opN v_pickF Imp.nil ?_)))
    (first | refine e_ret (()) rfl ?_ | refine e_retT (()) ?_)
    (repeat (first | exact Imp.refl | exact Imp.nil | (apply Imp.pick; (focus ((repeat constructor); done))) | refine Imp.drop ?_))
  | false =>
    cases h2 : y.1 with
    | true =>
      (((with_reducible refine e_opN v_fa0 Imp.nil ?_))); (((with_reducible refine' e_opN (v_ldN ?hc) ?hi ?_); (case hi => (repeat (first | exact Imp.refl | exact Imp.nil | (apply Imp.pick; (focus ((repeat constructor); done))) | refine Imp.drop ?_))); (case hc => (repeat (first | exact Nth.here | apply Nth.there))))); (((with_reducible refine e_opN v_notF Imp.nil ?_))); ((with_reducible refine e_gdT ?_)); (((with_reducible refine e_opN v_fa0 Imp.nil ?_))); ((with_reducible refine e_gdT ?_)); (((with_reducible refine' e_opN (v_ldN ?hc) ?hi ?_); (case hi => (repeat (first | exact Imp.refl | exact Imp.nil | (apply Imp.pick; (focus ((repeat constructor); done))) | refine Imp.drop ?_))); (case hc => (repeat (first | exact Nth.here | apply Nth.there))))); ((with_reducible refine e_gdT ?_)); (((with_reducible refine e_opN v_notT Imp.nil ?_))); (((with_reducible refine e_opN v_pickT Imp.nil ?_))); ((with_reducible refine e_gdF2 ?_)); ((with_reducible refine e_gdF2 ?_)); ((with_reducible refine e_gdF2 ?_)); ((with_reducible refine e_gdF2 ?_)); ((with_reducible refine e_gdF2 ?_)); (((with_reducible refine e_opN v_pickF Imp.nil ?_)))
      (first | refine e_ret (()) rfl ?_ | refine e_retT (()) ?_)
      (repeat (first | exact Imp.refl | exact Imp.nil | (apply Imp.pick; (focus ((repeat constructor); done))) | refine Imp.drop ?_))
    | false =>
      (((with_reducible refine e_opN v_fa0 Imp.nil ?_))); (((with_reducible refine' e_opN (v_ldN ?hc) ?hi ?_); (case hi => (repeat (first | exact Imp.refl | exact Imp.nil | (apply Imp.pick; (focus ((repeat constructor); done))) | refine Imp.drop ?_))); (case hc => (repeat (first | exact Nth.here | apply Nth.there))))); (((with_reducible refine e_opN v_notF Imp.nil ?_))); ((with_reducible refine e_gdT ?_)); (((with_reducible refine e_opN v_fa0 Imp.nil ?_))); ((with_reducible refine e_gdT ?_)); (((with_reducible refine' e_opN (v_ldN ?hc) ?hi ?_); (case hi => (repeat (first | exact Imp.refl | exact Imp.nil | (apply Imp.pick; (focus ((repeat constructor); done))) | refine Imp.drop ?_))); (case hc => (repeat (first | exact Nth.here | apply Nth.there))))); ((with_reducible refine e_gdT ?_)); (((with_reducible refine e_opN v_notF Imp.nil ?_))); (((with_reducible refine e_opN v_pickT Imp.nil ?_))); ((with_reducible refine e_gdT ?_)); (((with_reducible refine e_opN v_fa0 Imp.nil ?_))); ((with_reducible refine e_gdT ?_)); (((with_reducible refine' e_opN (v_ldN ?hc) ?hi ?_); (case hi => (repeat (first | exact Imp.refl | exact Imp.nil | (apply Imp.pick; (focus ((repeat constructor); done))) | refine Imp.drop ?_))); (case hc => (repeat (first | exact Nth.here | apply Nth.there))))); ((with_reducible refine e_gdT ?_)); (((with_reducible refine e_opN v_fa0 Imp.nil ?_))); ((with_reducible refine e_gdT ?_)); (((with_reducible refine' e_opN (v_ldN ?hc) ?hi ?_); (case hi => (repeat (first | exact Imp.refl | exact Imp.nil | (apply Imp.pick; (focus ((repeat constructor); done))) | refine Imp.drop ?_))); (case hc => (repeat (first | exact Nth.here | apply Nth.there))))); ((with_reducible refine e_gdT ?_))
      refine e_opN v_streq Imp.nil ?_
      (((with_reducible refine e_opN v_pickT Imp.nil ?_)))
      (first | refine e_ret (()) rfl ?_ | refine e_retT (()) ?_)
      (repeat (first | exact Imp.refl | exact Imp.nil | (apply Imp.pick; (focus ((repeat constructor); done))) | refine Imp.drop ?_))
theorem rweak {W : World} {x y : Bool × List UInt8} : Cn Tryd.prog 30 [vTag x, vTag y] W [] (fun _ : Unit => .bool (decide (x.2 = y.2))) (fun _ => []) := by
  (refine S.ref10_Weak_cn fun F => ?_; unfold S.ref10_Weak; simp only [List.cons_append, List.nil_append])
  refine e_boxA fun b2 => ?_
  refine e_boxA fun b3 => ?_
  (((with_reducible refine e_opN v_fa0 Imp.nil ?_))); (((with_reducible refine' e_opN (v_ldN ?hc) ?hi ?_); (case hi => (repeat (first | exact Imp.refl | exact Imp.nil | (apply Imp.pick; (focus ((repeat constructor); done))) | refine Imp.drop ?_))); (case hc => (repeat (first | exact Nth.here | apply Nth.there))))); (((with_reducible refine e_opN v_fa0 Imp.nil ?_))); (((with_reducible refine' e_opN (v_ldN ?hc) ?hi ?_); (case hi => (repeat (first | exact Imp.refl | exact Imp.nil | (apply Imp.pick; (focus ((repeat constructor); done))) | refine Imp.drop ?_))); (case hc => (repeat (first | exact Nth.here | apply Nth.there)))))
  refine e_opN v_streq Imp.nil ?_
  (first | refine e_ret (()) rfl ?_ | refine e_retT (()) ?_)
  (repeat (first | exact Imp.refl | exact Imp.nil | (apply Imp.pick; (focus ((repeat constructor); done))) | refine Imp.drop ?_))
theorem same_tags {W : World} {X : List (Bool × List UInt8)} {a1 a2 : Option Addr} {c1 c2 : Nat} (hX : X.length ≤ 4194304) : Cn Tryd.prog 26 [.slice a1 X.length c1, .slice a2 X.length c2] W [Sl 2 37 a1 c1 X.length (X.flatMap pTag), Sl 2 36 a2 c2 X.length (X.flatMap pTag)] (fun _ : Unit => .bool true) (fun _ => []) := by
  (refine S.law10_tags_cn fun F => ?_; unfold S.law10_tags; simp only [List.cons_append, List.nil_append])
  refine e_opN v_len Imp.nil ?_
  refine e_opN v_len Imp.nil ?_
  refine e_opN v_neq Imp.nil ?_
  rw [decide_eq_false (fun c => c rfl)]
  refine e_condF ?_
  refine e_loop1 (fun m y => [ex fun i : Nat => all [pu (m + i = X.length ∧ y = .int .i64 (i : Int)), Sl 2 37 a1 c1 X.length (X.flatMap pTag), Sl 2 36 a2 c2 X.length (X.flatMap pTag)]] ++ F) X.length ?_ ?_
  · refine Imp.ex 0 (.all ?_)
    (try simp only [List.cons_append, List.nil_append, -eq_self])
    exact .pu ⟨rfl, rfl⟩ .refl
  intro m ds y
  (try simp only [List.cons_append, List.nil_append, -eq_self])
  refine e_ex Pick.here fun i => e_all Pick.here ?_
  (try simp only [List.cons_append, List.nil_append, -eq_self])
  refine e_pu Pick.here fun hi => ?_
  obtain ⟨hmi, rfl⟩ := hi
  refine e_opN v_len Imp.nil ?_
  refine e_ask v_lss Imp.nil (fun h => ?_) (fun h => ?_)
  · have hil : i < X.length := by omega
    have hat0 : (X.flatMap pTag)[0 + i * 2 + 0]? = some (.bool X[i].1) := by
      have := flat_get (f := pTag) (s := 2) (fun _ => rfl) X i 0 hil (by omega)
      rw [Nat.zero_add, this]; rfl
    have hat1 : (X.flatMap pTag)[0 + i * 2 + 1]? = some (txt X[i].2) := by
      have := flat_get (f := pTag) (s := 2) (fun _ => rfl) X i 1 hil (by omega)
      rw [Nat.zero_add, this]; rfl
    refine e_condT ?_
    refine e_slsome (a := a1) .here (Nat.zero_lt_of_lt hil) fun g1 h1 => ?_
    subst h1
    refine e_slsome (a := a2) (.there .here) (Nat.zero_lt_of_lt hil) fun g2 h2 => ?_
    subst h2
    refine e_drS ?_
    refine e_stS (v_ia i rfl hil) Imp.nil ?_
    refine e_stS v_fa Imp.nil ?_
    refine e_stS (v_ldSl (v := .bool X[i].1) hat0) (.pick .here .nil) ?_
    refine e_stS (v_ia i rfl hil) Imp.nil ?_
    refine e_stS v_fa Imp.nil ?_
    refine e_stS (v_ldSl (v := .bool X[i].1) hat0) (.pick (.there .here) .nil) ?_
    refine e_stS v_bne Imp.nil ?_
    rw [decide_eq_false (fun c => c rfl)]
    refine e_gdT ?_
    refine e_gdT ?_
    refine e_gdT ?_
    refine e_stS (v_ia i rfl hil) Imp.nil ?_
    refine e_gdT ?_
    refine e_stS v_fa Imp.nil ?_
    refine e_gdT ?_
    refine e_stS (v_ldSl (v := txt X[i].2) hat1) (.pick .here .nil) ?_
    refine e_gdT ?_
    refine e_gdT ?_
    refine e_gdT ?_
    refine e_stS (v_ia i rfl hil) Imp.nil ?_
    refine e_gdT ?_
    refine e_stS v_fa Imp.nil ?_
    refine e_gdT ?_
    refine e_stS (v_ldSl (v := txt X[i].2) hat1) (.pick (.there .here) .nil) ?_
    refine e_gdT ?_
    refine e_stS v_strne Imp.nil ?_
    rw [decide_eq_false (fun c => c rfl)]
    refine e_stS v_pickF Imp.nil ?_
    refine e_condF ?_
    refine e_opN (v_add (by omega) (by omega)) Imp.nil ?_
    refine e_next1 (m - 1) (by omega) (.ex (i + 1) (.all ?_))
    (try simp only [List.cons_append, List.nil_append, -eq_self])
    exact .pu ⟨by omega, rfl⟩ .refl
  · refine e_condF ?_
    (first | refine e_ret (()) rfl ?_ | refine e_retT (()) ?_)
    (repeat (first | exact Imp.refl | exact Imp.nil | (apply Imp.pick; (focus ((repeat constructor); done))) | refine Imp.drop ?_))
theorem tags {W : World} {l : List UInt8} (hl : l.length ≤ 2097152) : Cn Tryd.prog 24 [txt l] W [] (fun r : Option Addr × Nat => .tuple #[.slice r.1 (tagsF l).1.length r.2, .bool (tagsF l).2.1, .int .i64 (tagsF l).2.2])
    (fun r => [Sl 2 37 r.1 r.2 (tagsF l).1.length ((tagsF l).1.flatMap pTag)]) := by
  have hX : (lsF (tagLF l)).1.length ≤ l.length + 1 := by
    have := elems_num (q := true) (e := false) (l := l)
    unfold tagLF listF
    split
    · simp [lsF]; omega
    · simp [lsF]
  (refine S.fields_Tags_cn fun F => ?_; unfold S.fields_Tags; simp only [List.cons_append, List.nil_append])
  refine e_call (trim (l := l) (by omega)) .nil fun _ => ?_
  (try simp only [List.cons_append, List.nil_append, -eq_self])
  refine e_ask (v_streq (m := [42])) Imp.nil (fun h => ?_) (fun h => ?_)
  · have : tagsF l = ([], true, 0) := by unfold tagsF; rw [if_pos h]
    rw [this]
    refine e_condT ?_
    refine e_ret (none, 0) rfl ?_
    exact imp_nil .refl
  · refine e_condF ?_
    refine e_opN v_rv Imp.nil ?_
    refine e_call (list_Tag (q := true) (e := false) (one := tagF) hl fun w hw => tag (by omega)) .nil fun r => ?_
    rw [show listF tagF (elemsF true false l) = tagLF l from rfl]
    (try simp only [List.cons_append, List.nil_append, -eq_self])
    refine e_opN (v_extN (vs := [_, _]) .here) Imp.nil ?_
    refine e_opN (v_extN (vs := [_, _]) (.there .here)) Imp.nil ?_
    have ht : tagsF l = match tagLF l with
      | none => ([], false, 42)
      | some l => if l = [] then ([], false, 42) else (l, false, 0) := by unfold tagsF; rw [if_neg h]; rfl
    cases hx : tagLF l with
    | none =>
      rw [hx] at ht
      rw [ht]
      simp only [lsF]
      refine e_opN v_eql Imp.nil ?_
      rw [decide_eq_false (by decide)]
      ((with_reducible refine e_gdF2 ?_)); ((with_reducible refine e_gdF2 ?_)); ((with_reducible refine e_gdF2 ?_)); (((with_reducible refine e_opN v_pickF Imp.nil ?_))); ((with_reducible refine e_condF ?_))
      (first | refine e_ret (r) rfl ?_ | refine e_retT (r) ?_)
      exact .refl
    | some xs =>
      rw [hx] at ht hX
      simp only [lsF] at ht hX ⊢
      refine e_opN v_eql Imp.nil ?_
      rw [decide_eq_true rfl]
      ((with_reducible refine e_gdT ?_)); ((with_reducible refine e_gdT ?_)); (((with_reducible refine e_opN v_len Imp.nil ?_))); ((with_reducible refine e_gdT ?_))
      refine e_opN v_eql Imp.nil ?_
      by_cases h0 : xs = []
      · rw [ht, if_pos h0, h0]
        rw [show decide ((([] : List (Bool × List UInt8)).length : Int) = 0) = true from rfl]
        (((with_reducible refine e_opN v_pickT Imp.nil ?_))); ((with_reducible refine e_condT ?_))
        (first | refine e_ret (r) rfl ?_ | refine e_retT (r) ?_)
        exact .refl
      · rw [ht, if_neg h0]
        rw [decide_eq_false (fun c => h0 (List.eq_nil_of_length_eq_zero (by omega)))]
        (((with_reducible refine e_opN v_pickT Imp.nil ?_))); ((with_reducible refine e_condF ?_))
        (first | refine e_ret (r) rfl ?_ | refine e_retT (r) ?_)
        exact .refl
theorem rtags {W : World} {l : List UInt8} (hl : l.length ≤ 2097152) : Cn Tryd.prog 25 [txt l] W [] (fun r : Option Addr × Nat => .tuple #[.slice r.1 (tagsF l).1.length r.2, .bool (tagsF l).2.1, .int .i64 (tagsF l).2.2])
    (fun r => [Sl 2 36 r.1 r.2 (tagsF l).1.length ((tagsF l).1.flatMap pTag)]) := by
  have fin : tagsF l = ([], false, 42) → ∀ F : List HP, Ent W F (fun w => ∃ r : Option Addr × Nat, (.tuple #[.slice none 0 0, .bool false, .int .i64 42] : Value) = .tuple #[.slice r.1 (tagsF l).1.length r.2, .bool (tagsF l).2.1, .int .i64 (tagsF l).2.2] ∧ sat W ([Sl 2 36 r.1 r.2 (tagsF l).1.length ((tagsF l).1.flatMap pTag)] ++ F) w) := by
    intro h F
    rw [h]
    refine e_ret (none, 0) rfl ?_
    exact imp_nil .refl
  (refine S.ref10_Tags_cn fun F => ?_; unfold S.ref10_Tags; simp only [List.cons_append, List.nil_append])
  refine e_call (rtrim (l := l) (by omega)) .nil fun _ => ?_
  (try simp only [List.cons_append, List.nil_append, -eq_self])
  refine e_opN (v_streq (m := [42])) Imp.nil ?_
  by_cases hstar : trimB l = [42]
  · have : tagsF l = ([], true, 0) := by unfold tagsF; rw [if_pos hstar]
    rw [this, decide_eq_true hstar]
    refine e_condT ?_
    refine e_ret (none, 0) rfl ?_
    exact imp_nil .refl
  rw [decide_eq_false hstar]
  refine e_condF ?_
  have hts : tagsF l = match tagLF l with
    | none => ([], false, 42)
    | some l => if l = [] then ([], false, 42) else (l, false, 0) := by unfold tagsF; rw [if_neg hstar]; rfl
  have hs : tagLF l = listF tagF (elemsF true false l) := rfl
  have hnum := elems_num (q := true) (e := false) (l := l)
  refine e_call (relements (l := l) (q := true) (e := false) (by omega)) .nil fun r => ?_
  obtain ⟨ea, ec⟩ := r
  (try simp only [List.cons_append, List.nil_append, -eq_self])
  obtain ⟨E, hE⟩ : ∃ E, E = elemsF true false l := ⟨_, rfl⟩
  have hEl : ∀ w ∈ E, w.length ≤ 2097152 := fun w hw => by
    rw [hE] at hw
    have := elems_len hw
    omega
  rw [← hE] at hnum hs ⊢
  refine e_loop2 (fun m y5 y6 => [ex fun st : Nat × Option Addr × Nat => all [pu (m + st.1 = E.length ∧ y5 = .slice st.2.1 st.1 st.2.2 ∧ y6 = .int .i64 (st.1 : Int) ∧ (E.take st.1).all (fun w => (tagF w).2) = true), Sl 2 36 st.2.1 st.2.2 st.1 ((E.take st.1).flatMap fun w => pTag (tagF w).1), Sl 1 9 ea ec E.length (E.map txt)]] ++ F) E.length ?_ ?_
  · refine Imp.ex (0, none, 0) (.all ?_)
    (try simp only [List.cons_append, List.nil_append, -eq_self])
    refine .pu ⟨rfl, rfl, rfl, rfl⟩ ?_
    exact imp_nil .refl
  intro m ds y5 y6
  (try simp only [List.cons_append, List.nil_append, -eq_self])
  refine e_ex Pick.here fun st => e_all Pick.here ?_
  obtain ⟨i, sa, sc⟩ := st
  (try simp only [List.cons_append, List.nil_append, -eq_self])
  refine e_pu Pick.here fun hi => ?_
  (try dsimp only at hi)
  obtain ⟨hmi, rfl, rfl, hok⟩ := hi
  refine e_opN v_len Imp.nil ?_
  refine e_ask v_lss Imp.nil (fun h => ?_) (fun h => ?_)
  · have hil : i < E.length := by omega
    have hwl := hEl _ (List.getElem_mem hil)
    have htk : E.take (i + 1) = E.take i ++ [E[i]] := List.take_succ_eq_append_getElem hil
    refine e_condT ?_
    refine e_slsome (a := ea) (.there .here) (Nat.zero_lt_of_lt hil) fun g hg => ?_
    subst hg
    have ld : RunV Tryd.prog W [Sl 1 9 (some ⟨g, 0, none⟩) ec E.length (E.map txt)] (sLoad 9 (.pointer (some ⟨g, 0 + i, none⟩))) (txt E[i]) := v_ldSl (by rw [Nat.zero_add, List.getElem?_map, List.getElem?_eq_getElem hil]; rfl)
    refine e_opN (v_ia1 i rfl hil) Imp.nil ?_
    refine e_opN ld (.pick (by (repeat constructor)) .nil) ?_
    refine e_call (rparseTag (l := E[i]) (by omega)) .nil fun _ => ?_
    (try simp only [List.cons_append, List.nil_append, -eq_self])
    refine e_opN (v_extN (vs := [_, _]) .here) Imp.nil ?_
    refine e_opN (v_extN (vs := [_, _]) (.there .here)) Imp.nil ?_
    unfold vTag
    refine e_newA fun b8 => ?_
    refine e_stAgg .here (by rfl) (by rfl) (by intro u hu; simp at hu; rcases hu with rfl | rfl <;> rfl) ?_
    refine e_opN v_neq Imp.nil ?_
    cases hk : (tagF E[i]).2 with
    | false =>
      rw [show decide ((if (false : Bool) = true then (0 : Int) else 42) ≠ 0) = true from rfl]
      refine e_condT ?_
      refine e_imp (M := F) (by (repeat (first | exact Imp.refl | exact Imp.nil | (apply Imp.pick; (focus ((repeat constructor); done))) | refine Imp.drop ?_))) ?_
      refine fin ?_ F
      rw [hts, hs]
      unfold listF
      rw [if_neg]
      intro hall
      have := List.all_eq_true.1 hall _ (List.getElem_mem hil)
      rw [hk] at this; cases this
    | true =>
      rw [show decide ((if (true : Bool) = true then (0 : Int) else 42) ≠ 0) = false from rfl]
      refine e_condF ?_
      refine e_opN (v_ldAgg (cs := #[.bool (tagF E[i]).1.1, txt (tagF E[i]).1.2]) rfl) (.pick (by (repeat constructor)) .nil) ?_
      refine e_bslS (n := 1) (vs := [vTag (tagF E[i]).1]) rfl (by omega) rfl (by intro v hv; rw [List.mem_singleton.1 hv]; rfl) (by omega) fun gb => ?_
      refine e_app (m := 1) (news := pTag (tagF E[i]).1) (by (repeat constructor)) (src_pt (s := 2) (e' := 36) (by kernel_rfl) .here (by rfl) (by intro u hu; simp [pTag] at hu; rcases hu with rfl | rfl <;> rfl)) (by omega) (by omega) fun a' c' => ?_
      refine e_opN (v_add (by omega) (by omega)) Imp.nil ?_
      refine e_next2 (m - 1) (by omega) (.ex (i + 1, a', c') (.all ?_))
      (try simp only [List.cons_append, List.nil_append, -eq_self])
      refine .pu ⟨by (try dsimp only); omega, rfl, rfl, ?_⟩ ?_
      · rw [htk, List.all_append, hok]
        simp [hk]
      rw [htk, List.flatMap_append, List.flatMap_singleton]
      refine .pick (by (repeat constructor)) ?_
      (repeat (first | exact Imp.refl | exact Imp.nil | (apply Imp.pick; (focus ((repeat constructor); done))) | refine Imp.drop ?_))
  · have hie : i = E.length := by omega
    subst hie
    rw [List.take_length] at hok ⊢
    have hss : tagLF l = some (E.map fun w => (tagF w).1) := by
      rw [hs]
      unfold listF
      rw [if_pos hok]
    rw [hss] at hts
    simp only [List.map_eq_nil_iff] at hts
    refine e_condF ?_
    refine e_opN v_len Imp.nil ?_
    refine e_ask v_eql Imp.nil (fun h0 => ?_) (fun h0 => ?_)
    · refine e_condT ?_
      refine e_imp (M := F) (by (repeat (first | exact Imp.refl | exact Imp.nil | (apply Imp.pick; (focus ((repeat constructor); done))) | refine Imp.drop ?_))) ?_
      have : E = [] := List.eq_nil_of_length_eq_zero (by omega)
      exact fin (by rw [hts, if_pos this]) F
    · refine e_condF ?_
      have hne : ¬ E = [] := fun c => h0 (by rw [c]; rfl)
      rw [hts, if_neg hne]
      refine e_ret (sa, sc) (by simp) ?_
      simp only [List.length_map, List.flatMap_map]
      (repeat (first | exact Imp.refl | exact Imp.nil | (apply Imp.pick; (focus ((repeat constructor); done))) | refine Imp.drop ?_))
end Go.Proofs.YtcigoifhcfbcdaaDoor.FD
