/- Tags, quoted texts, directives: one element each. The texts' bounds are named. -/
import Derived.Test.YtcigoifhcfbcdaaGreatDoorFld7
import Derived.Test.YtcigoifhcfbcdaaGreatDoorFldP
set_option linter.unusedVariables false
set_option linter.unusedSimpArgs false
namespace Go.Proofs.YtcigoifhcfbcdaaGreatDoor.FD
open Go Go.Proofs Go.RowKit Go.Proofs.YtcigoifhcfbcdaaGreatDoor.Sh Go.Proofs.YtcigoifhcfbcdaaGreatDoor.Sl Go.Proofs.YtcigoifhcfbcdaaGreatDoor.T
theorem badT_i (c : UInt8) : badT c = (decide ((c.toNat : Int) ≤ 32) || decide (c = 34) || decide (c = 127)) := by
  have e : decide ((c.toNat : Int) ≤ 32) = decide (c ≤ 32) := by
    rw [decide_eq_decide, UInt8.le_iff_toNat_le]
    simp only [show (32 : UInt8).toNat = 32 from rfl]
    omega
  rw [e]
  unfold badT
  by_cases h1 : c ≤ 32 <;> by_cases h2 : c = 34 <;> by_cases h3 : c = 127 <;> simp [h1, h2, h3]
theorem tagV_len (l : List UInt8) : (tagV l).length ≤ l.length := by
  unfold tagV
  split
  · simp
  · exact Nat.le_refl _
theorem tag {W : World} {l : List UInt8} (hl : l.length ≤ 4611686018427387904) : Cn Tryz.prog 28 [txt l] W [] (fun _ : Unit => .tuple #[vTag (tagF l).1, .bool (tagF l).2]) (fun _ => []) := by
  have hvl := tagV_len l
  have bad : tagOk (tagV l) = false → tagF l = ((false, []), false) := fun h => by unfold tagF; rw [h]; rfl
  (refine S.fields_tag_cn fun F => ?_; unfold S.fields_tag; simp only [List.cons_append, List.nil_append])
  refine e_newA fun b2 => ?_
  (refine' e_call (cutPre hl) ?hp fun _ => ?_; (case hp => (repeat (first | exact Picks.nil | (apply Picks.cons; (focus (repeat constructor)))))); (try simp only [List.cons_append, List.nil_append, Bool.not_true, Bool.not_false]))
  refine e_opN (v_extN (vs := [_, _]) .here) Imp.nil ?_
  refine e_opN (v_extN (vs := [_, _]) (.there .here)) Imp.nil ?_
  obtain ⟨v, hv⟩ : ∃ v, v = tagV l := ⟨_, rfl⟩
  rw [← hv] at hvl bad ⊢
  refine e_opN v_lent Imp.nil ?_
  refine e_opN v_lss Imp.nil ?_
  by_cases h2 : v.length < 2
  · have hno : tagOk v = false := by
      unfold tagOk
      rw [decide_eq_false (fun c => by omega)]; rfl
    rw [bad hno, decide_eq_true (by omega)]
    ((with_reducible refine e_gdF1 ?_)); ((with_reducible refine e_gdF1 ?_)); ((with_reducible refine e_gdF1 ?_)); (((with_reducible refine e_opN v_pickT Imp.nil ?_))); ((with_reducible refine e_gdF1 ?_)); ((with_reducible refine e_gdF1 ?_)); ((with_reducible refine e_gdF1 ?_)); ((with_reducible refine e_gdF1 ?_)); ((with_reducible refine e_gdF1 ?_)); ((with_reducible refine e_gdF1 ?_)); (((with_reducible refine e_opN v_pickT Imp.nil ?_))); ((with_reducible refine e_condT ?_)); (((with_reducible refine e_opN v_rv Imp.nil ?_))); (((with_reducible refine' e_stAgg ?hp ?hn ?hv ?h1 ?_); (case hp => (repeat constructor)); (case hn => rfl); (case hv => rfl); (case h1 => simp [Value.oneCell']))); (((with_reducible refine' e_stS (v_resA ?hn) ?hi ?_); (case hi => (repeat (first | exact Imp.refl | exact Imp.nil | (apply Imp.pick; (focus ((repeat constructor); done))) | refine Imp.drop ?_))); (case hn => rfl)))
    (first | refine e_ret (()) rfl ?_ | refine e_retT (()) ?_)
    (repeat (first | exact Imp.refl | exact Imp.nil | (apply Imp.pick; (focus ((repeat constructor); done))) | refine Imp.drop ?_))
  · rw [decide_eq_false (by omega)]
    refine e_or2 (fun _ => v_ixS (l := v) 0 rfl (by omega)) (fun _ => B_ne 34 rfl) ?_
    rw [Bool.false_or]
    by_cases h3 : v[0]'(by omega) = 34
    · rw [decide_eq_false (fun c => c h3)]
      ((with_reducible refine e_gdT ?_)); ((with_reducible refine e_gdT ?_)); ((with_reducible refine e_gdT ?_))
      refine e_opN v_lent Imp.nil ?_
      ((with_reducible refine e_gdT ?_)); (((with_reducible refine e_opN (v_sub ?h1 ?h2) Imp.nil ?_); (case h1 => omega); (case h2 => omega))); ((with_reducible refine e_gdT ?_))
      refine e_opN (v_ixS (v.length - 1) (by omega) (by omega)) Imp.nil ?_
      ((with_reducible refine e_gdT ?_))
      refine e_opN (B_ne 34 rfl) Imp.nil ?_
      (((with_reducible refine e_opN v_pickF Imp.nil ?_)))
      by_cases h4 : v[v.length - 1]'(by omega) = 34
      · rw [decide_eq_false (fun c => c h4)]
        have hok : tagOk v = !(mid v).any badT := by
          unfold tagOk
          rw [decide_eq_true ⟨by omega, by rw [List.getElem?_eq_getElem (by omega), h3], by rw [List.getElem?_eq_getElem (by omega), h4]⟩, Bool.true_and]
        refine e_condF ?_
        refine e_opN v_lent Imp.nil ?_
        refine e_opN (v_sub (by omega) (by omega)) Imp.nil ?_
        refine e_opN (v_sslh 1 (v.length - 1) rfl (by omega) (by omega) (by omega)) Imp.nil ?_
        rw [show sub v 1 (v.length - 1) = mid v from rfl]
        have hml : (mid v).length ≤ v.length := by simp [mid, sub]; omega
        refine e_sbytesF Tryz.underlying57 Tryz.underlying5 fun g c rest => ?_
        refine e_opN v_len Imp.nil ?_
        refine e_loop1 (fun m y => [ex fun i : Nat => all [pu (m + i = (mid v).length ∧ y = .int .i64 (i : Int) ∧ (mid v).any badT = ((mid v).drop i).any badT), pt g (.cells ((mid v).map B ++ rest).toArray 5 ((mid v).length + rest.length, (mid v).length + rest.length + 1)), pt b2 (.cells #[.bool false, .string ⟨#[]⟩] 38 (0, 0))]] ++ F) (mid v).length ?_ ?_
        · refine Imp.ex 0 (.all ?_)
          (try simp only [List.cons_append, List.nil_append, -eq_self])
          exact .pu ⟨by omega, rfl, rfl⟩ .refl
        intro m ds y
        (try simp only [List.cons_append, List.nil_append, -eq_self])
        refine e_ex Pick.here fun i => e_all Pick.here ?_
        (try simp only [List.cons_append, List.nil_append, -eq_self])
        refine e_pu Pick.here fun hi => ?_
        obtain ⟨hmi, rfl, hany⟩ := hi
        refine e_ask v_lss Imp.nil (fun h => ?_) (fun h => ?_)
        · have hil : i < (mid v).length := by omega
          rw [dr hil, List.any_cons] at hany
          refine e_condT ?_
          refine e_opN (v_ia1 i rfl hil) Imp.nil ?_
          rw [Nat.zero_add]
          refine e_opN (v_ld (v := B (mid v)[i]) (by simp [List.getElem?_append, hil])) (.pick .here .nil) ?_
          refine e_opN (v_leq (q := .u8) (a := ((mid v)[i].toNat : Int)) (b := 32)) Imp.nil ?_
          refine e_or1 (fun _ => B_eq 34 rfl) ?_
          refine e_or1 (fun _ => B_eq 127 rfl) ?_
          rw [← badT_i]
          cases hb : badT (mid v)[i] with
          | true =>
            rw [hb, Bool.true_or] at hany
            rw [hany] at hok
            rw [bad hok]
            ((with_reducible refine e_condT ?_)); (((with_reducible refine e_opN v_rv Imp.nil ?_))); (((with_reducible refine' e_stAgg ?hp ?hn ?hv ?h1 ?_); (case hp => (repeat constructor)); (case hn => rfl); (case hv => rfl); (case h1 => simp [Value.oneCell']))); (((with_reducible refine' e_stS (v_resA ?hn) ?hi ?_); (case hi => (repeat (first | exact Imp.refl | exact Imp.nil | (apply Imp.pick; (focus ((repeat constructor); done))) | refine Imp.drop ?_))); (case hn => rfl)))
            (first | refine e_ret (()) rfl ?_ | refine e_retT (()) ?_)
            (repeat (first | exact Imp.refl | exact Imp.nil | (apply Imp.pick; (focus ((repeat constructor); done))) | refine Imp.drop ?_))
          | false =>
            rw [hb, Bool.false_or] at hany
            ((with_reducible refine e_condF ?_)); (((with_reducible refine e_opN (v_add ?h1 ?h2) Imp.nil ?_); (case h1 => omega); (case h2 => omega)))
            refine e_next1 (m - 1) (by omega) (.ex (i + 1) (.all ?_))
            (try simp only [List.cons_append, List.nil_append, -eq_self])
            exact .pu ⟨by omega, rfl, hany⟩ .refl
        · rw [List.drop_of_length_le (by omega), List.any_nil] at hany
          rw [hany] at hok
          have e : tagF l = ((weakF l, mid v), true) := by
            unfold tagF
            rw [← hv, hok]; rfl
          rw [e]
          ((with_reducible refine e_condF ?_)); (((with_reducible refine e_opN v_rv Imp.nil ?_))); (((with_reducible refine' e_stAgg ?hp ?hn ?hv ?h1 ?_); (case hp => (repeat constructor)); (case hn => rfl); (case hv => rfl); (case h1 => (intro u hu; simp at hu; rcases hu with rfl | rfl <;> rfl)))); (((with_reducible refine' e_stS (v_resA ?hn) ?hi ?_); (case hi => (repeat (first | exact Imp.refl | exact Imp.nil | (apply Imp.pick; (focus ((repeat constructor); done))) | refine Imp.drop ?_))); (case hn => rfl)))
          (first | refine e_ret (()) rfl ?_ | refine e_retT (()) ?_)
          (repeat (first | exact Imp.refl | exact Imp.nil | (apply Imp.pick; (focus ((repeat constructor); done))) | refine Imp.drop ?_))
      · have hno : tagOk v = false := by
          unfold tagOk
          rw [decide_eq_false (fun c => h4 (by have := c.2.2; rw [List.getElem?_eq_getElem (by omega)] at this; exact Option.some.inj this))]; rfl
        rw [bad hno, decide_eq_true h4]
        ((with_reducible refine e_condT ?_)); (((with_reducible refine e_opN v_rv Imp.nil ?_))); (((with_reducible refine' e_stAgg ?hp ?hn ?hv ?h1 ?_); (case hp => (repeat constructor)); (case hn => rfl); (case hv => rfl); (case h1 => simp [Value.oneCell']))); (((with_reducible refine' e_stS (v_resA ?hn) ?hi ?_); (case hi => (repeat (first | exact Imp.refl | exact Imp.nil | (apply Imp.pick; (focus ((repeat constructor); done))) | refine Imp.drop ?_))); (case hn => rfl)))
        (first | refine e_ret (()) rfl ?_ | refine e_retT (()) ?_)
        (repeat (first | exact Imp.refl | exact Imp.nil | (apply Imp.pick; (focus ((repeat constructor); done))) | refine Imp.drop ?_))
    · have hno : tagOk v = false := by
        unfold tagOk
        rw [decide_eq_false (fun c => h3 (by have := c.2.1; rw [List.getElem?_eq_getElem (by omega)] at this; exact Option.some.inj this))]; rfl
      rw [bad hno, decide_eq_true h3]
      ((with_reducible refine e_gdF1 ?_)); ((with_reducible refine e_gdF1 ?_)); ((with_reducible refine e_gdF1 ?_)); ((with_reducible refine e_gdF1 ?_)); ((with_reducible refine e_gdF1 ?_)); ((with_reducible refine e_gdF1 ?_)); (((with_reducible refine e_opN v_pickT Imp.nil ?_))); ((with_reducible refine e_condT ?_)); (((with_reducible refine e_opN v_rv Imp.nil ?_))); (((with_reducible refine' e_stAgg ?hp ?hn ?hv ?h1 ?_); (case hp => (repeat constructor)); (case hn => rfl); (case hv => rfl); (case h1 => simp [Value.oneCell']))); (((with_reducible refine' e_stS (v_resA ?hn) ?hi ?_); (case hi => (repeat (first | exact Imp.refl | exact Imp.nil | (apply Imp.pick; (focus ((repeat constructor); done))) | refine Imp.drop ?_))); (case hn => rfl)))
      (first | refine e_ret (()) rfl ?_ | refine e_retT (()) ?_)
      (repeat (first | exact Imp.refl | exact Imp.nil | (apply Imp.pick; (focus ((repeat constructor); done))) | refine Imp.drop ?_))
theorem parseTag {W : World} {l : List UInt8} (hl : l.length ≤ 4611686018427387904) : Cn Tryz.prog 14 [txt l] W [] (fun _ : Unit => .tuple #[vTag (tagF l).1, .int .i64 (if (tagF l).2 then 0 else 42)]) (fun _ => []) := by
  have hbad : (tagF l).2 = false → (tagF l).1 = (false, []) := by
    unfold tagF
    split
    · intro h; cases h
    · intro _; rfl
  (refine S.fields_ParseTag_cn fun F => ?_; unfold S.fields_ParseTag; simp only [List.cons_append, List.nil_append])
  refine e_newA fun b2 => ?_
  (refine' e_call (tag hl) ?hp fun _ => ?_; (case hp => (repeat (first | exact Picks.nil | (apply Picks.cons; (focus (repeat constructor)))))); (try simp only [List.cons_append, List.nil_append, Bool.not_true, Bool.not_false]))
  refine e_opN (v_extN (vs := [_, _]) .here) Imp.nil ?_
  refine e_opN (v_extN (vs := [_, _]) (.there .here)) Imp.nil ?_
  refine e_newA fun b4 => ?_
  unfold vTag
  cases h : (tagF l).2 with
  | true =>
    (((with_reducible refine' e_stAgg ?hp ?hn ?hv ?h1 ?_); (case hp => (repeat constructor)); (case hn => rfl); (case hv => rfl); (case h1 => (intro u hu; simp at hu; rcases hu with rfl | rfl <;> rfl)))); (((with_reducible refine e_opN v_notT Imp.nil ?_))); ((with_reducible refine e_condF ?_)); (((with_reducible refine' e_opN (v_ldAgg ?hn) ?hi ?_); (case hi => (repeat (first | exact Imp.refl | exact Imp.nil | (apply Imp.pick; (focus ((repeat constructor); done))) | refine Imp.drop ?_))); (case hn => rfl))); (((with_reducible refine' e_stAgg ?hp ?hn ?hv ?h1 ?_); (case hp => (repeat constructor)); (case hn => rfl); (case hv => rfl); (case h1 => (intro u hu; simp at hu; rcases hu with rfl | rfl <;> rfl)))); (((with_reducible refine' e_stS (v_resA ?hn) ?hi ?_); (case hi => (repeat (first | exact Imp.refl | exact Imp.nil | (apply Imp.pick; (focus ((repeat constructor); done))) | refine Imp.drop ?_))); (case hn => rfl)))
    (first | refine e_ret (()) rfl ?_ | refine e_retT (()) ?_)
    (repeat (first | exact Imp.refl | exact Imp.nil | (apply Imp.pick; (focus ((repeat constructor); done))) | refine Imp.drop ?_))
  | false =>
    rw [hbad h]
    (((with_reducible refine' e_stAgg ?hp ?hn ?hv ?h1 ?_); (case hp => (repeat constructor)); (case hn => rfl); (case hv => rfl); (case h1 => (intro u hu; simp at hu; rcases hu with rfl | rfl <;> rfl)))); (((with_reducible refine e_opN v_notF Imp.nil ?_))); ((with_reducible refine e_condT ?_)); (((with_reducible refine e_opN v_rv Imp.nil ?_))); (((with_reducible refine' e_stAgg ?hp ?hn ?hv ?h1 ?_); (case hp => (repeat constructor)); (case hn => rfl); (case hv => rfl); (case h1 => simp [Value.oneCell']))); (((with_reducible refine' e_stS (v_resA ?hn) ?hi ?_); (case hi => (repeat (first | exact Imp.refl | exact Imp.nil | (apply Imp.pick; (focus ((repeat constructor); done))) | refine Imp.drop ?_))); (case hn => rfl)))
    (first | refine e_ret (()) rfl ?_ | refine e_retT (()) ?_)
    (repeat (first | exact Imp.refl | exact Imp.nil | (apply Imp.pick; (focus ((repeat constructor); done))) | refine Imp.drop ?_))
theorem tagText {W : World} {x : Bool × List UInt8} (hl : x.2.length ≤ 4611686018427387904) : Cn Tryz.prog 15 [vTag x] W [] (fun _ : Unit => txt (tagT x)) (fun _ => []) := by
  (refine S.fields_TagText_cn fun F => ?_; unfold S.fields_TagText; simp only [List.cons_append, List.nil_append])
  unfold vTag
  refine e_boxA fun b1 => ?_
  refine e_cut1 (fun z => pu (z = txt (if x.1 then [87, 47] else [])) :: pt b1 (.cells #[.bool x.1, txt x.2] 38 (0, 0)) :: F) ?_ ?_
  · intro ds z
    refine e_pu .here fun hz => ?_
    subst hz
    have hw : ((if x.1 then [87, 47] else []) : List UInt8).length ≤ 2 := by cases x.1 <;> simp
    refine e_opN (v_cat (b := [34]) (by simp; omega)) Imp.nil ?_
    (((with_reducible refine e_opN v_fa0 Imp.nil ?_))); (((with_reducible refine' e_opN (v_ldN ?hc) ?hi ?_); (case hi => (repeat (first | exact Imp.refl | exact Imp.nil | (apply Imp.pick; (focus ((repeat constructor); done))) | refine Imp.drop ?_))); (case hc => (repeat (first | exact Nth.here | apply Nth.there)))))
    refine e_opN (v_cat (by simp; omega)) Imp.nil ?_
    refine e_opN (v_cat (b := [34]) (by simp; omega)) Imp.nil ?_
    refine e_ret () (by unfold tagT; simp) ?_
    (repeat (first | exact Imp.refl | exact Imp.nil | (apply Imp.pick; (focus ((repeat constructor); done))) | refine Imp.drop ?_))
  · (((with_reducible refine e_opN v_fa0 Imp.nil ?_))); (((with_reducible refine' e_opN (v_ldN ?hc) ?hi ?_); (case hi => (repeat (first | exact Imp.refl | exact Imp.nil | (apply Imp.pick; (focus ((repeat constructor); done))) | refine Imp.drop ?_))); (case hc => (repeat (first | exact Nth.here | apply Nth.there)))))
    cases hx : x.1 with
    | true =>
      refine e_condT ?_
      refine e_sat (.pu rfl ?_)
      exact .refl
    | false =>
      refine e_condF ?_
      refine e_sat (.pu rfl ?_)
      exact .refl
theorem badQ_i (c : UInt8) : badQ c = ((decide ((c.toNat : Int) < 32) && decide (c ≠ 9)) || decide (c = 127)) := by
  have e : decide ((c.toNat : Int) < 32) = decide (c < 32) := by
    rw [decide_eq_decide, UInt8.lt_iff_toNat_lt]
    simp only [show (32 : UInt8).toNat = 32 from rfl]
    omega
  rw [e]
  unfold badQ
  by_cases h1 : c < 32 <;> by_cases h2 : c = 9 <;> by_cases h3 : c = 127 <;> simp [h1, h2, h3]
theorem unq_len : ∀ (n : Nat) (r : List UInt8), r.length ≤ n → ∀ acc, (unqL acc r).1.length ≤ acc.length + r.length
  | _, [], _, acc => by simp [unqL]
  | n + 1, c :: r, hn, acc => by
    have hr : r.length ≤ n := by simpa using hn
    rw [unqL_cons]
    split
    · simp
    · split
      · cases r with
        | nil => simp
        | cons d r' =>
          simp only
          split
          · simp
          · have := unq_len n r' (by simp at hr; omega) (acc ++ [d])
            simp at this ⊢; omega
      · split
        · simp
        · have := unq_len n r hr (acc ++ [c])
          simp at this ⊢; omega
theorem nn_none {a : Option Addr} {n : Nat} (h : 0 < n → ∃ g, a = some ⟨g, 0, none⟩) : a = none → n = 0 := fun e => by
  rcases Nat.eq_zero_or_pos n with c | c
  · exact c
  · obtain ⟨g, hg⟩ := h c
    rw [e] at hg; cases hg
theorem unqF_at {l : List UInt8} (h : 0 < l.length) : unqF l = if l[0] = 34 then unqL [] (l.drop 1) else ([], false) := by
  cases l with
  | nil => simp at h
  | cons c r => rfl
theorem unquote {W : World} {l : List UInt8} (hl : l.length ≤ 4194304) : Cn Tryz.prog 33 [txt l] W [] (fun _ : Unit => .tuple #[txt (unqF l).1, .bool (unqF l).2]) (fun _ => []) := by
  (refine S.fields_unquote_cn fun F => ?_; unfold S.fields_unquote; simp only [List.cons_append, List.nil_append])
  refine e_opN v_lent Imp.nil ?_
  refine e_opN v_lss Imp.nil ?_
  have e0 : (Value.string ⟨#[]⟩) = txt [] := rfl
  rw [e0]
  by_cases h2 : l.length < 2
  · have hno : unqF l = ([], false) := by
      match l, h2 with
      | [], _ => rfl
      | [c], _ =>
        show (if c = 34 then unqL [] [] else ([], false)) = ([], false)
        split <;> rfl
      | _ :: _ :: _, h => exact absurd h (by simp)
    rw [hno, decide_eq_true (by omega)]
    ((with_reducible refine e_gdF1 ?_)); ((with_reducible refine e_gdF1 ?_)); ((with_reducible refine e_gdF1 ?_)); (((with_reducible refine e_opN v_pickT Imp.nil ?_))); ((with_reducible refine e_condT ?_))
    (first | refine e_ret (()) rfl ?_ | refine e_retT (()) ?_)
    (repeat (first | exact Imp.refl | exact Imp.nil | (apply Imp.pick; (focus ((repeat constructor); done))) | refine Imp.drop ?_))
  · rw [decide_eq_false (by omega)]
    refine e_or2 (fun _ => v_ixS (l := l) 0 rfl (by omega)) (fun _ => B_ne 34 rfl) ?_
    rw [Bool.false_or]
    by_cases h3 : l[0]'(by omega) = 34
    · rw [decide_eq_false (fun c => c h3)]
      have hu : unqF l = unqL [] (l.drop 1) := by rw [unqF_at (by omega), if_pos h3]
      rw [hu]
      refine e_condF ?_
      refine e_loop2 (fun m x y => [ex fun st : (List UInt8 × Option Addr × Nat) × Nat => all [pu (m + st.2 = l.length + 1 ∧ st.2 ≤ l.length ∧ x = .slice st.1.2.1 st.1.1.length st.1.2.2 ∧ y = .int .i64 (st.2 : Int) ∧ st.1.1.length ≤ st.2 ∧ unqL [] (l.drop 1) = unqL st.1.1 (l.drop st.2)), Sl 1 5 st.1.2.1 st.1.2.2 st.1.1.length (st.1.1.map B)]] ++ F) l.length ?_ ?_
      · refine Imp.ex (([], none, 0), 1) (.all ?_)
        (try simp only [List.cons_append, List.nil_append, -eq_self])
        refine .pu ⟨rfl, by (try dsimp only); omega, rfl, rfl, by simp, rfl⟩ ?_
        exact imp_nil .refl
      intro m ds x y
      (try simp only [List.cons_append, List.nil_append, -eq_self])
      refine e_ex Pick.here fun st => e_all Pick.here ?_
      obtain ⟨⟨acc, sa, sc⟩, i⟩ := st
      (try simp only [List.cons_append, List.nil_append, -eq_self])
      refine e_pu Pick.here fun hi => ?_
      (try dsimp only at hi)
      obtain ⟨hmi, hil, rfl, rfl, hac, hun⟩ := hi
      refine e_opN v_lent Imp.nil ?_
      refine e_ask v_lss Imp.nil (fun h => ?_) (fun h => ?_)
      rotate_left
      · have hie : i = l.length := by omega
        rw [show l.drop i = [] from List.drop_of_length_le (by omega)] at hun
        have hun : unqL [] (l.drop 1) = ([], false) := by rw [hun]; rfl
        rw [hun]
        refine e_condF ?_
        (first | refine e_ret (()) rfl ?_ | refine e_retT (()) ?_)
        (repeat (first | exact Imp.refl | exact Imp.nil | (apply Imp.pick; (focus ((repeat constructor); done))) | refine Imp.drop ?_))
      have hlt : i < l.length := by omega
      rw [dr hlt, unqL_cons] at hun
      refine e_condT ?_
      refine e_opN (v_ixS i rfl hlt) Imp.nil ?_
      refine e_cut2 (fun z5 z6 => (ex fun st : Nat × UInt8 => pu (z5 = .int .i64 (st.1 : Int) ∧ z6 = B st.2 ∧ i ≤ st.1 ∧ st.1 < l.length ∧ unqL [] (l.drop 1) = if badQ st.2 then ([], false) else unqL (acc ++ [st.2]) (l.drop (st.1 + 1)))) :: Sl 1 5 sa sc acc.length (acc.map B) :: F) ?_ ?_
      · intro ds2 z5 z6
        refine e_ex .here fun st => e_pu .here fun hz => ?_
        obtain ⟨j, d⟩ := st
        (try dsimp only at hz)
        obtain ⟨rfl, rfl, hij, hjl, hun2⟩ := hz
        refine e_opN (v_lss (q := .u8) (a := (d.toNat : Int)) (b := 32)) Imp.nil ?_
        refine e_and (fun _ => B_ne 9 rfl) ?_
        refine e_or1 (fun _ => B_eq 127 rfl) ?_
        rw [← badQ_i]
        cases hb : badQ d with
        | true =>
          rw [hb, if_pos rfl] at hun2
          rw [hun2]
          refine e_condT ?_
          (first | refine e_ret (()) rfl ?_ | refine e_retT (()) ?_)
          (repeat (first | exact Imp.refl | exact Imp.nil | (apply Imp.pick; (focus ((repeat constructor); done))) | refine Imp.drop ?_))
        | false =>
          rw [hb, if_neg (by decide)] at hun2
          refine e_condF ?_
          refine e_bsl1 fun gb => ?_
          refine e_app (m := 1) (news := [B d]) (by (repeat constructor)) (src_pt (e' := 5) (by kernel_rfl) .here (by rfl) (by intro u hu; rw [List.mem_singleton.1 hu]; rfl)) (by omega) (by omega) fun a' c' => ?_
          refine e_opN (v_add (by omega) (by omega)) Imp.nil ?_
          refine e_next2 (m - (j + 1 - i)) (by omega) (.ex ((acc ++ [d], a', c'), j + 1) (.all ?_))
          (try simp only [List.cons_append, List.nil_append, -eq_self])
          refine .pu ⟨by (try dsimp only); omega, by (try dsimp only); omega, by simp, rfl, by simp; omega, hun2⟩ ?_
          rw [List.length_append, List.map_append]
          simp only [List.length_singleton, List.map_cons, List.map_nil]
          (repeat (first | exact Imp.refl | exact Imp.nil | (apply Imp.pick; (focus ((repeat constructor); done))) | refine Imp.drop ?_))
      · refine e_opN (B_eq 34 rfl) Imp.nil ?_
        by_cases h34 : l[i] = 34
        · rw [decide_eq_true h34]
          rw [if_pos h34] at hun
          rw [hun]
          refine e_condT ?_
          refine e_slfacts .here fun f1 f2 f3 f4 => ?_
          refine e_opN (v_str (l := acc) (rd_sl (by simp) f4) (nn_none f4)) (.pick .here .nil) ?_
          refine e_opN (v_add (by omega) (by omega)) Imp.nil ?_
          refine e_opN v_lent Imp.nil ?_
          refine e_opN v_eql Imp.nil ?_
          have e : decide ((i : Int) + 1 = (l.length : Int)) = (l.drop (i + 1)).isEmpty := by
            rw [Bool.eq_iff_iff]
            simp only [decide_eq_true_iff, List.isEmpty_iff, List.drop_eq_nil_iff]
            omega
          rw [e]
          (first | refine e_ret (()) rfl ?_ | refine e_retT (()) ?_)
          (repeat (first | exact Imp.refl | exact Imp.nil | (apply Imp.pick; (focus ((repeat constructor); done))) | refine Imp.drop ?_))
        · rw [decide_eq_false h34]
          rw [if_neg h34] at hun
          refine e_condF ?_
          refine e_opN (B_eq 92 rfl) Imp.nil ?_
          by_cases h92 : l[i] = 92
          · rw [decide_eq_true h92]
            rw [if_pos h92] at hun
            refine e_condT ?_
            refine e_opN (v_add (by omega) (by omega)) Imp.nil ?_
            refine e_opN v_lent Imp.nil ?_
            refine e_ask v_eql Imp.nil (fun h5 => ?_) (fun h5 => ?_)
            · rw [show l.drop (i + 1) = [] from List.drop_of_length_le (by omega)] at hun
              simp only at hun
              rw [hun]
              refine e_condT ?_
              (first | refine e_ret (()) rfl ?_ | refine e_retT (()) ?_)
              (repeat (first | exact Imp.refl | exact Imp.nil | (apply Imp.pick; (focus ((repeat constructor); done))) | refine Imp.drop ?_))
            · have hi1 : i + 1 < l.length := by omega
              rw [dr hi1] at hun
              simp only at hun
              refine e_condF ?_
              refine e_opN (v_ixS (i + 1) rfl hi1) Imp.nil ?_
              refine e_sat (.ex (i + 1, l[i + 1]) (.pu ⟨rfl, rfl, by (try dsimp only); omega, hi1, hun⟩ .refl))
          · rw [decide_eq_false h92]
            rw [if_neg h92] at hun
            refine e_condF ?_
            refine e_sat (.ex (i, l[i]) (.pu ⟨rfl, rfl, Nat.le_refl _, hlt, hun⟩ .refl))
    · rw [decide_eq_true h3]
      have hno : unqF l = ([], false) := by rw [unqF_at (by omega), if_neg h3]
      rw [hno]
      refine e_condT ?_
      (first | refine e_ret (()) rfl ?_ | refine e_retT (()) ?_)
      (repeat (first | exact Imp.refl | exact Imp.nil | (apply Imp.pick; (focus ((repeat constructor); done))) | refine Imp.drop ?_))
end Go.Proofs.YtcigoifhcfbcdaaGreatDoor.FD
