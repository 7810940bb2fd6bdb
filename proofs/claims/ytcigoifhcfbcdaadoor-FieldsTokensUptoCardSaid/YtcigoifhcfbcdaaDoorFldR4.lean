/- The document's weights and choices. A text of at most 4194304 bytes. -/
import Derived.Test.YtcigoifhcfbcdaaDoorFldR3
set_option linter.unusedVariables false
set_option linter.unusedSimpArgs false
namespace Go.Proofs.YtcigoifhcfbcdaaDoor.FD
open Go Go.Proofs Go.RowKit Go.Proofs.YtcigoifhcfbcdaaDoor.Sh Go.Proofs.YtcigoifhcfbcdaaDoor.Sl Go.Proofs.YtcigoifhcfbcdaaDoor.T
section
variable {P : Program} {W : World} {L L' : List HP} {Kp : PK} {k : Value → WP}
/-- a or (b and c), where b is read out of y -/
theorem e_orand2 {a b c : Bool} {y v1 v2 : Value} {s1 s2 s3 s4 : Value → Sem Next} (h1 : a = false → RunV P W [] (s1 y) v1) (h2 : a = false → RunV P W [] (s2 v1) (.bool b)) (h3 : a = false → b = true → RunV P W [] (s3 y) v2) (h4 : a = false → b = true → RunV P W [] (s4 v2) (.bool c))
    (h : Ent W L (k (.bool (a || (b && c))))) :
    Ent W L (gdK (.bool a) false (fun k => k y) fun x1 => gdK (.bool a) false (opN P (s1 x1) Kp) fun x2 => gdK (.bool a) false (opN P (s2 x2) Kp) fun x3 => gdK (.bool a) false (fun k => k x3) fun x4 => gdK x4 true (fun k => k y) fun x5 => gdK x4 true (opN P (s3 x5) Kp) fun x6 => gdK x4 true (opN P (s4 x6) Kp) fun x7 =>
      gdK (.bool a) false (opN P (sPick x4 x7 (.bool false)) Kp) fun x8 => opN P (sPick (.bool a) (.bool true) x8) Kp k) := by
  cases a with
  | true =>
    refine e_gdF1 ?_
    refine e_gdF1 ?_
    refine e_gdF1 ?_
    refine e_gdF1 ?_
    refine e_gdU ?_
    refine e_gdU ?_
    refine e_gdU ?_
    refine e_gdF1 ?_
    refine e_opN v_pickT Imp.nil ?_
    simpa using h
  | false =>
    refine e_gdT ?_
    refine e_gdT ?_
    refine e_opN (h1 rfl) Imp.nil ?_
    refine e_gdT ?_
    refine e_opN (h2 rfl) Imp.nil ?_
    refine e_gdT ?_
    cases b with
    | true =>
      refine e_gdT ?_
      refine e_gdT ?_
      refine e_opN (h3 rfl rfl) Imp.nil ?_
      refine e_gdT ?_
      refine e_opN (h4 rfl rfl) Imp.nil ?_
      refine e_gdT ?_
      refine e_opN v_pickT Imp.nil ?_
      refine e_opN v_pickF Imp.nil ?_
      simpa using h
    | false =>
      refine e_gdF2 ?_
      refine e_gdF2 ?_
      refine e_gdF2 ?_
      refine e_gdT ?_
      refine e_opN v_pickF Imp.nil ?_
      refine e_opN v_pickF Imp.nil ?_
      simpa using h
end
def unitN (i : Nat) : Nat := if i ≤ 2 then 100 else if i = 3 then 10 else if i = 4 then 1 else 0
theorem frac_le : ∀ (p : List UInt8), p.all digB = true → p.length ≤ 3 → fracF p 100 ≤ 999
  | [], _, _ => by simp [fracF]
  | [a], h, _ => by
    simp at h
    have := dg_b h
    simp [fracF]; omega
  | [a, b], h, _ => by
    simp at h
    have h1 := dg_b h.1
    have h2 := dg_b h.2
    simp [fracF]; omega
  | [a, b, c], h, _ => by
    simp at h
    have h1 := dg_b h.1
    have h2 := dg_b h.2.1
    have h3 := dg_b h.2.2
    simp [fracF]; omega
  | _ :: _ :: _ :: _ :: _, _, h => absurd h (by simp)
theorem rweight {W : World} {l : List UInt8} (hl : l.length ≤ 4194304) : Cn Tryd.prog 80 [txt l] W [] (fun _ : Unit => .int .i64 (weightR l)) (fun _ => []) := by
  (refine S.ref10_weight_cn fun F => ?_; unfold S.ref10_weight; simp only [List.cons_append, List.nil_append])
  refine e_opN v_lent Imp.nil ?_
  refine e_opN v_lss Imp.nil ?_
  refine e_or2 (fun _ => v_lent) (fun _ => v_gtr) ?_
  have l1 : (decide ((l.length : Int) < 1) || decide ((5 : Int) < (l.length : Int))) = false → 1 ≤ l.length ∧ l.length ≤ 5 := fun h => by
    simp at h; omega
  have ix0 : (decide ((l.length : Int) < 1) || decide ((5 : Int) < (l.length : Int))) = false → RunV Tryd.prog W [] (sIx 9 (txt l) (.int .i64 0)) (B (gt l 0)) := fun h => v_gt (i := 0) (by have := l1 h; omega)
  refine e_orand2 ix0 (fun _ => B_ne 48 rfl) (fun h _ => ix0 h) (fun _ _ => B_ne 49 rfl) ?_
  obtain ⟨a, ha⟩ : ∃ a, a = ((decide ((l.length : Int) < 1) || decide ((5 : Int) < (l.length : Int))) || (decide (gt l 0 ≠ 48) && decide (gt l 0 ≠ 49))) := ⟨_, rfl⟩
  rw [← ha]
  have af : a = false → (decide ((l.length : Int) < 1) || decide ((5 : Int) < (l.length : Int))) = false := fun h => by
    rw [h] at ha
    have := ha.symm
    simp only [Bool.or_eq_false_iff] at this
    simp only [Bool.or_eq_false_iff]
    exact this.1
  have ix1 : a = false → decide ((1 : Int) < (l.length : Int)) = true → RunV Tryd.prog W [] (sIx 9 (txt l) (.int .i64 1)) (B (gt l 1)) := fun _ h => v_gt (i := 1) (by simp at h; omega)
  refine e_orand2 (fun _ => v_lent) (fun _ => v_gtr) ix1 (fun _ _ => B_ne 46 rfl) ?_
  rw [ha]
  have g0 : 1 ≤ l.length → l[0]? = some (gt l 0) := fun h => by rw [List.getElem?_eq_getElem (by omega), gt_at (by omega)]
  have g1 : 1 < l.length → l[1]? = some (gt l 1) := fun h => by rw [List.getElem?_eq_getElem (by omega), gt_at (by omega)]
  have hcond : (l.length < 1 ∨ 5 < l.length ∨ (l[0]? ≠ some 48 ∧ l[0]? ≠ some 49) ∨ (1 < l.length ∧ l[1]? ≠ some 46)) ↔ (((l.length < 1 ∨ 5 < l.length) ∨ (gt l 0 ≠ 48 ∧ gt l 0 ≠ 49)) ∨ (1 < l.length ∧ gt l 1 ≠ 46)) := by
    by_cases h1 : 1 ≤ l.length
    · rw [g0 h1]
      by_cases h2 : 1 < l.length
      · rw [g1 h2]
        simp only [ne_eq, Option.some.injEq, or_assoc]
      · simp only [h2, false_and, or_false, ne_eq, Option.some.injEq, or_assoc]
    · simp [show l.length < 1 by omega]
  refine e_cond (φ := ((l.length < 1 ∨ 5 < l.length) ∨ (gt l 0 ≠ 48 ∧ gt l 0 ≠ 49)) ∨ (1 < l.length ∧ gt l 1 ≠ 46)) (by
    have e1 : decide ((l.length : Int) < 1) = decide (l.length < 1) := by rw [decide_eq_decide]; omega
    have e2 : decide ((5 : Int) < (l.length : Int)) = decide (5 < l.length) := by rw [decide_eq_decide]; omega
    have e3 : decide ((1 : Int) < (l.length : Int)) = decide (1 < l.length) := by rw [decide_eq_decide]; omega
    rw [e1, e2, e3, Bool.decide_or, Bool.decide_or, Bool.decide_or, Bool.decide_and, Bool.decide_and]) (fun h => ?_) (fun h => ?_)
  · have : weightR l = -1 := by unfold weightR; rw [if_pos (hcond.2 h)]
    rw [this]
    (first | refine e_ret (()) rfl ?_ | refine e_retT (()) ?_)
    (repeat (first | exact Imp.refl | exact Imp.nil | (apply Imp.pick; (focus ((repeat constructor); done))) | refine Imp.drop ?_))
  · have hw : weightR l = if (l.drop 2).all digB = false then -1 else if 1000 < 1000 * ((gt l 0).toNat - 48) + fracF (l.drop 2) 100 then -1 else ((1000 * ((gt l 0).toNat - 48) + fracF (l.drop 2) 100 : Nat) : Int) := by
      have : l.headD 0 = gt l 0 := by cases l <;> rfl
      unfold weightR
      rw [if_neg (fun c => h (hcond.1 c)), this]
    have h1 : 1 ≤ l.length := by
      rcases Nat.lt_or_ge l.length 1 with c | c
      · exact absurd (.inl (.inl (.inl c))) h
      · exact c
    have h5 : l.length ≤ 5 := by
      rcases Nat.lt_or_ge 5 l.length with c | c
      · exact absurd (.inl (.inl (.inr c))) h
      · exact c
    have hc0 : gt l 0 = 48 ∨ gt l 0 = 49 := by
      by_cases c : gt l 0 = 48
      · exact .inl c
      · by_cases c2 : gt l 0 = 49
        · exact .inr c2
        · exact absurd (.inl (.inr ⟨c, c2⟩)) h
    obtain ⟨d0, hd0⟩ : ∃ d0, d0 = (gt l 0).toNat - 48 := ⟨_, rfl⟩
    have hd1 : d0 ≤ 1 ∧ (gt l 0).toNat = d0 + 48 := by
      rcases hc0 with c | c <;> rw [c] at hd0 ⊢ <;> subst hd0 <;> decide
    rw [← hd0] at hw
    refine e_opN (v_gt (i := 0) (by omega)) Imp.nil ?_
    refine e_opN (v_subw (q := .u8) (a := ((gt l 0).toNat : Int)) (b := 48)) Imp.nil ?_
    refine e_opN v_conv Imp.nil ?_
    rw [hd1.2, show IntKind.i64.wrap (IntKind.u8.wrap (((d0 + 48 : Nat) : Int) - 48)) = (d0 : Int) by
      rw [show ((d0 + 48 : Nat) : Int) - 48 = (d0 : Int) by omega]
      have : d0 = 0 ∨ d0 = 1 := by omega
      rcases this with rfl | rfl <;> rfl]
    refine e_opN (v_mul (by omega) (by omega)) Imp.nil ?_
    refine e_loop3 (fun m x y z => (ex fun st : Nat × Nat × Nat => pu (m + st.1 = l.length + 2 ∧ 2 ≤ st.1 ∧ x = .int .i64 ((1000 * d0 + st.2.1 : Nat) : Int) ∧ y = .int .i64 (st.2.2 : Int) ∧ z = .int .i64 (st.1 : Int) ∧ st.2.2 ≤ 100 ∧ st.2.1 ≤ 1000 * st.1 ∧ st.1 ≤ l.length + 2 ∧ fracF (l.drop 2) 100 = st.2.1 + fracF (l.drop st.1) st.2.2 ∧ (l.drop 2).all digB = (l.drop st.1).all digB)) :: F) l.length ?_ ?_
    · refine .ex (2, 0, 100) (.pu ⟨rfl, Nat.le_refl _, by (try dsimp only); congr 1, rfl, rfl, Nat.le_refl _, Nat.zero_le _, by (try dsimp only); omega, by (try dsimp only); omega, rfl⟩ ?_)
      (repeat (first | exact Imp.refl | exact Imp.nil | (apply Imp.pick; (focus ((repeat constructor); done))) | refine Imp.drop ?_))
    intro m ds x y z
    (try simp only [List.cons_append, List.nil_append, -eq_self])
    refine e_ex Pick.here fun st => e_pu Pick.here fun hi => ?_
    obtain ⟨i, p, u⟩ := st
    (try dsimp only at hi)
    obtain ⟨hmi, hi2, rfl, rfl, rfl, hu, hp, hil2, hfr, hall⟩ := hi
    refine e_opN v_lent Imp.nil ?_
    refine e_ask v_lss Imp.nil (fun hlt => ?_) (fun hlt => ?_)
    · have hil : i < l.length := by omega
      have hcl := (gt l i).toNat_lt
      rw [dr hil, List.all_cons, ← gt_at hil] at hall
      rw [dr hil, fracF, ← gt_at hil] at hfr
      refine e_condT ?_
      refine e_opN (v_gt hil) Imp.nil ?_
      refine e_opN (v_lss (q := .u8) (a := ((gt l i).toNat : Int)) (b := 48)) Imp.nil ?_
      have hdi : digB (gt l i) = true ↔ (48 ≤ (gt l i).toNat ∧ (gt l i).toNat ≤ 57) := by
        unfold digB
        rw [decide_eq_true_iff, UInt8.le_iff_toNat_le, UInt8.le_iff_toNat_le]
        exact Iff.rfl
      have bad : ¬ (48 ≤ (gt l i).toNat ∧ (gt l i).toNat ≤ 57) → weightR l = -1 := fun c => by
        have : digB (gt l i) = false := by
          cases hx : digB (gt l i) with
          | false => rfl
          | true => exact absurd (hdi.1 hx) c
        rw [hw, if_pos (by rw [hall, this, Bool.false_and])]
      by_cases k1 : ((gt l i).toNat : Int) < 48
      · rw [decide_eq_true k1, bad (by omega)]
        ((with_reducible refine e_gdF1 ?_)); ((with_reducible refine e_gdF1 ?_)); ((with_reducible refine e_gdF1 ?_)); ((with_reducible refine e_gdF1 ?_)); (((with_reducible refine e_opN v_pickT Imp.nil ?_))); ((with_reducible refine e_condT ?_))
        (first | refine e_ret (()) rfl ?_ | refine e_retT (()) ?_)
        (repeat (first | exact Imp.refl | exact Imp.nil | (apply Imp.pick; (focus ((repeat constructor); done))) | refine Imp.drop ?_))
      · rw [decide_eq_false k1]
        ((with_reducible refine e_gdT ?_)); ((with_reducible refine e_gdT ?_)); ((with_reducible refine e_gdT ?_))
        refine e_opN (v_gt hil) Imp.nil ?_
        ((with_reducible refine e_gdT ?_))
        refine e_opN (v_gtr (q := .u8) (a := ((gt l i).toNat : Int)) (b := 57)) Imp.nil ?_
        by_cases k2 : (57 : Int) < ((gt l i).toNat : Int)
        · rw [decide_eq_true k2, bad (by omega)]
          (((with_reducible refine e_opN v_pickF Imp.nil ?_))); ((with_reducible refine e_condT ?_))
          (first | refine e_ret (()) rfl ?_ | refine e_retT (()) ?_)
          (repeat (first | exact Imp.refl | exact Imp.nil | (apply Imp.pick; (focus ((repeat constructor); done))) | refine Imp.drop ?_))
        · rw [decide_eq_false k2]
          (((with_reducible refine e_opN v_pickF Imp.nil ?_))); ((with_reducible refine e_condF ?_))
          have hd : digB (gt l i) = true := hdi.2 (by omega)
          rw [hd, Bool.true_and] at hall
          obtain ⟨d, hde⟩ : ∃ d, (gt l i).toNat = d + 48 := ⟨(gt l i).toNat - 48, by omega⟩
          rw [hde, Nat.add_sub_cancel] at hfr
          have hd9 : d ≤ 9 := by omega
          have hud : u * d ≤ 900 := Nat.le_trans (Nat.mul_le_mul hu hd9) (by omega)
          refine e_opN (v_gt hil) Imp.nil ?_
          refine e_opN (v_subw (q := .u8) (a := ((gt l i).toNat : Int)) (b := 48)) Imp.nil ?_
          refine e_opN v_conv Imp.nil ?_
          rw [hde, show IntKind.i64.wrap (IntKind.u8.wrap (((d + 48 : Nat) : Int) - 48)) = (d : Int) by
            rw [show ((d + 48 : Nat) : Int) - 48 = (d : Int) by omega]
            rw [show IntKind.u8.wrap (d : Int) = (d : Int) by simp [IntKind.wrap, IntKind.signed, IntKind.bits]; omega]
            simp [IntKind.wrap, IntKind.signed, IntKind.bits]; omega]
          have hm : (u : Int) * (d : Int) = ((u * d : Nat) : Int) := by push_cast; rfl
          refine e_opN (v_mul (by rw [hm]; omega) (by rw [hm]; omega)) Imp.nil ?_
          rw [hm]
          refine e_opN (v_add (by omega) (by omega)) Imp.nil ?_
          refine e_opN (v_quo (by omega) (by omega) (by omega)) Imp.nil ?_
          refine e_opN (v_add (by omega) (by omega)) Imp.nil ?_
          refine e_next3 (m - 1) (by omega) (.ex (i + 1, p + u * d, u / 10) (.pu ⟨by (try dsimp only); omega, by (try dsimp only); omega, by (try dsimp only); congr 1; omega, by (try dsimp only); norm_cast, rfl, by (try dsimp only); omega, by (try dsimp only); omega, by (try dsimp only); omega, by (try dsimp only); omega, hall⟩ ?_))
          (repeat (first | exact Imp.refl | exact Imp.nil | (apply Imp.pick; (focus ((repeat constructor); done))) | refine Imp.drop ?_))
    · have hd : l.drop i = [] := List.drop_of_length_le (by omega)
      rw [hd, List.all_nil] at hall
      rw [hd, fracF, Nat.add_zero] at hfr
      rw [hall, if_neg (by simp), hfr] at hw
      refine e_condF ?_
      refine e_ask v_gtr Imp.nil (fun k => ?_) (fun k => ?_)
      · rw [hw, if_pos (by omega)]
        refine e_condT ?_
        (first | refine e_ret (()) rfl ?_ | refine e_retT (()) ?_)
        (repeat (first | exact Imp.refl | exact Imp.nil | (apply Imp.pick; (focus ((repeat constructor); done))) | refine Imp.drop ?_))
      · rw [hw, if_neg (by omega)]
        refine e_condF ?_
        (first | refine e_ret (()) rfl ?_ | refine e_retT (()) ?_)
        (repeat (first | exact Imp.refl | exact Imp.nil | (apply Imp.pick; (focus ((repeat constructor); done))) | refine Imp.drop ?_))
theorem rchoice {W : World} {l : List UInt8} (hl : l.length ≤ 4194304) : Cn Tryd.prog 48 [txt l] W [] (fun _ : Unit => .tuple #[vChoice (choiceR l).1, .bool (choiceR l).2]) (fun _ => []) := by
  (refine S.ref10_choice_cn fun F => ?_; unfold S.ref10_choice; simp only [List.cons_append, List.nil_append])
  refine e_newA fun b2 => ?_
  refine e_loop1 (fun m y => [ex fun i : Nat => all [pu (m + i = l.length ∧ y = .int .i64 (i : Int) ∧ scn 59 l i), pt b2 (.cells #[.string ⟨#[]⟩, .int .i64 0] 101 (0, 0))]] ++ F) l.length ?_ ?_
  · refine Imp.ex 0 (.all ?_)
    (try simp only [List.cons_append, List.nil_append, -eq_self])
    exact .pu ⟨by omega, rfl, scn0⟩ .refl
  intro m ds y
  (try simp only [List.cons_append, List.nil_append, -eq_self])
  refine e_ex Pick.here fun i => e_all Pick.here ?_
  (try simp only [List.cons_append, List.nil_append, -eq_self])
  refine e_pu Pick.here fun hi => ?_
  obtain ⟨hmi, rfl, hsc⟩ := hi
  refine e_opN v_lent Imp.nil ?_
  refine e_opN v_lss Imp.nil ?_
  refine e_and12 (v := B (gt l i)) (b := decide (gt l i ≠ 59)) (fun h => v_gt (by simp at h; omega)) (fun _ => B_ne 59 rfl) ?_
  refine e_cond (φ := i < l.length ∧ gt l i ≠ 59) (by
    have e3 : decide ((i : Int) < (l.length : Int)) = decide (i < l.length) := by rw [decide_eq_decide]; omega
    rw [e3, ← Bool.decide_and]) (fun h => ?_) (fun h => ?_)
  · refine e_opN (v_add (by omega) (by omega)) Imp.nil ?_
    refine e_next1 (m - 1) (by omega) (.ex (i + 1) (.all ?_))
    (try simp only [List.cons_append, List.nil_append, -eq_self])
    exact .pu ⟨by omega, rfl, scn_next hsc h.1 h.2⟩ .refl
  have hA := cutA_len (c := 59) l
  have hB := cutB_len (c := 59) l
  have tA := trim_len (cutA 59 l)
  have tB := trim_len (cutB 59 l)
  have hcut : l.take i = cutA 59 l ∧ ((i < l.length) ↔ cutS 59 l = true) ∧ (i < l.length → l.drop (i + 1) = cutB 59 l) := by
    by_cases hil : i < l.length
    · have hg : gt l i = 59 := Decidable.byContradiction fun c => h ⟨hil, c⟩
      obtain ⟨ea, eb, es⟩ := scn_hit hsc hil hg
      exact ⟨ea.symm, ⟨fun _ => es, fun _ => hil⟩, fun _ => eb.symm⟩
    · obtain ⟨ea, eb, es⟩ := scn_end hsc (by omega)
      refine ⟨by rw [ea, List.take_of_length_le (by omega)], ⟨fun c => absurd c hil, fun c => by rw [es] at c; cases c⟩, fun c => absurd c hil⟩
  obtain ⟨hta, hts, htb⟩ := hcut
  refine e_opN (v_ssh i rfl (by omega)) Imp.nil ?_
  rw [hta]
  refine e_call (rtrim (l := cutA 59 l) (by omega)) .nil fun _ => ?_
  (try simp only [List.cons_append, List.nil_append, -eq_self])
  refine e_call (rlower (l := trimB (cutA 59 l)) (by omega)) .nil fun _ => ?_
  (try simp only [List.cons_append, List.nil_append, -eq_self])
  refine e_opN v_rv Imp.nil ?_
  refine e_newA fun b5 => ?_
  (((with_reducible refine' e_stAgg ?hp ?hn ?hv ?h1 ?_); (case hp => (repeat constructor)); (case hn => rfl); (case hv => rfl); (case h1 => (intro u hu; simp at hu; rcases hu with rfl | rfl <;> rfl))))
  obtain ⟨v, hv⟩ : ∃ v, v = lowF (trimB (cutA 59 l)) := ⟨_, rfl⟩
  have hvl : v.length ≤ 4194304 := by rw [hv, lowF_len]; omega
  obtain ⟨q, hq⟩ : ∃ q, q = (if cutS 59 l then weightR ((trimB (cutB 59 l)).drop 2) else 1000) := ⟨_, rfl⟩
  rw [← hv]
  refine e_cut0 (pu (choiceR l = ((v, q), tokF v && decide (0 ≤ q))) :: pt b5 (.cells #[txt v, .int .i64 q] 101 (0, 0)) :: pt b2 (.cells #[.string ⟨#[]⟩, .int .i64 0] 101 (0, 0)) :: F) ?_ ?_
  · intro ds2
    refine e_pu .here fun hch => ?_
    rw [hch]
    refine e_drS ?_
    refine e_stD (v_ldAgg (cs := #[txt v, .int .i64 q]) rfl) (.pick (by (repeat constructor)) .nil) ?_
    refine e_stS v_fa0 Imp.nil ?_
    refine e_stS (v_ldN .here) (.pick (by (repeat constructor)) .nil) ?_
    refine e_call (rtoken (l := v) (by omega)) .nil fun _ => ?_
    (try simp only [List.cons_append, List.nil_append, -eq_self])
    refine e_obl (by (repeat (first | exact Imp.refl | exact Imp.nil | (apply Imp.pick; (focus ((repeat constructor); done))) | refine Imp.drop ?_))) ?_
    cases ht : tokF v with
    | true =>
      refine e_gdDT ?_
      refine e_stD v_fa0 Imp.nil ?_
      refine e_gdDT ?_
      refine e_stD (v_ldN (.there .here)) (.pick (by (repeat constructor)) .nil) ?_
      refine e_gdDT ?_
      refine e_stD v_geq Imp.nil ?_
      refine e_stD v_pickT Imp.nil ?_
      refine e_stAgg (cs := #[.string ⟨#[]⟩, .int .i64 0]) (vs := #[txt v, .int .i64 q]) (.there .here) rfl rfl (by intro u hu; simp at hu; rcases hu with rfl | rfl <;> rfl) ?_
      refine e_obl (by (repeat (first | exact Imp.refl | exact Imp.nil | (apply Imp.pick; (focus ((repeat constructor); done))) | refine Imp.drop ?_))) ?_
      refine e_obl (by (repeat (first | exact Imp.refl | exact Imp.nil | (apply Imp.pick; (focus ((repeat constructor); done))) | refine Imp.drop ?_))) ?_
      refine e_obl (by (repeat (first | exact Imp.refl | exact Imp.nil | (apply Imp.pick; (focus ((repeat constructor); done))) | refine Imp.drop ?_))) ?_
      refine e_obl (by (repeat (first | exact Imp.refl | exact Imp.nil | (apply Imp.pick; (focus ((repeat constructor); done))) | refine Imp.drop ?_))) ?_
      refine e_stS (v_resA (cs := #[txt v, .int .i64 q]) rfl) (.pick (by (repeat constructor)) .nil) ?_
      (first | refine e_ret (()) rfl ?_ | refine e_retT (()) ?_)
      (repeat (first | exact Imp.refl | exact Imp.nil | (apply Imp.pick; (focus ((repeat constructor); done))) | refine Imp.drop ?_))
    | false =>
      ((with_reducible refine e_gdDF2 ?_)); ((with_reducible refine e_gdDF2 ?_)); ((with_reducible refine e_gdDF2 ?_)); (((with_reducible refine e_stD v_pickF Imp.nil ?_))); (((with_reducible refine' e_stAgg ?hp ?hn ?hv ?h1 ?_); (case hp => (repeat constructor)); (case hn => rfl); (case hv => rfl); (case h1 => (intro u hu; simp at hu; rcases hu with rfl | rfl <;> rfl)))); (((with_reducible refine e_obl ?hi ?_); (case hi => (repeat (first | exact Imp.refl | exact Imp.nil | (apply Imp.pick; (focus ((repeat constructor); done))) | refine Imp.drop ?_))))); ((with_reducible refine e_oblT ?_)); ((with_reducible refine e_oblT ?_)); ((with_reducible refine e_oblT ?_)); (((with_reducible refine' e_stS (v_resA ?hn) ?hi ?_); (case hi => (repeat (first | exact Imp.refl | exact Imp.nil | (apply Imp.pick; (focus ((repeat constructor); done))) | refine Imp.drop ?_))); (case hn => rfl)))
      (first | refine e_ret (()) rfl ?_ | refine e_retT (()) ?_)
      (repeat (first | exact Imp.refl | exact Imp.nil | (apply Imp.pick; (focus ((repeat constructor); done))) | refine Imp.drop ?_))
  · refine e_opN v_lent Imp.nil ?_
    refine e_ask v_lss Imp.nil (fun h2 => ?_) (fun h2 => ?_)
    rotate_left
    · have hs : cutS 59 l = false := by
        cases hx : cutS 59 l with
        | false => rfl
        | true => exact absurd (hts.2 hx) (by omega)
      have hq2 : q = 1000 := by rw [hq, hs]; rfl
      refine e_condF ?_
      rw [hq2]
      refine e_sat (.pu ?_ .refl)
      unfold choiceR
      rw [hs, ← hv]
      simp
    have hil : i < l.length := by omega
    have hs : cutS 59 l = true := hts.1 hil
    refine e_condT ?_
    refine e_opN (v_add (by omega) (by omega)) Imp.nil ?_
    refine e_opN (v_ssl (i + 1) rfl (by omega)) Imp.nil ?_
    rw [htb hil]
    refine e_call (rtrim (l := cutB 59 l) (by omega)) .nil fun _ => ?_
    (try simp only [List.cons_append, List.nil_append, -eq_self])
    obtain ⟨w, hw⟩ : ∃ w, w = trimB (cutB 59 l) := ⟨_, rfl⟩
    rw [← hw] at tB hq ⊢
    have hch : choiceR l = if w.length < 2 ∨ (w[0]? ≠ some 113 ∧ w[0]? ≠ some 81) ∨ w[1]? ≠ some 61 then ((v, 1000), false) else ((v, weightR (w.drop 2)), tokF v && decide (0 ≤ weightR (w.drop 2))) := by
      unfold choiceR
      rw [if_pos hs, ← hv, ← hw]
    have hq2 : q = weightR (w.drop 2) := by rw [hq, hs]; rfl
    refine e_opN v_lent Imp.nil ?_
    refine e_opN v_lss Imp.nil ?_
    have ix0 : decide ((w.length : Int) < 2) = false → RunV Tryd.prog W [] (sIx 9 (txt w) (.int .i64 0)) (B (gt w 0)) := fun h => v_gt (i := 0) (by simp at h; omega)
    refine e_orand2 ix0 (fun _ => B_ne 113 rfl) (fun h _ => ix0 h) (fun _ _ => B_ne 81 rfl) ?_
    refine e_or2 (v1 := B (gt w 1)) (fun h => v_gt (i := 1) (by simp only [Bool.or_eq_false_iff, decide_eq_false_iff_not] at h; omega)) (fun _ => B_ne 61 rfl) ?_
    refine e_cond (φ := (w.length < 2 ∨ (gt w 0 ≠ 113 ∧ gt w 0 ≠ 81)) ∨ gt w 1 ≠ 61) (by
      have e1 : decide ((w.length : Int) < 2) = decide (w.length < 2) := by rw [decide_eq_decide]; omega
      rw [e1, Bool.decide_or, Bool.decide_or, Bool.decide_and]) (fun h3 => ?_) (fun h3 => ?_)
    · have : choiceR l = ((v, 1000), false) := by
        rw [hch, if_pos]
        by_cases hl2 : w.length < 2
        · exact .inl hl2
        · rw [List.getElem?_eq_getElem (by omega), List.getElem?_eq_getElem (by omega), ← gt_at, ← gt_at]
          simp only [ne_eq, Option.some.injEq]
          rcases h3 with (h3 | h3) | h3
          · exact .inl h3
          · exact .inr (.inl h3)
          · exact .inr (.inr h3)
      rw [this]
      (((with_reducible refine' e_opN (v_ldAgg ?hn) ?hi ?_); (case hi => (repeat (first | exact Imp.refl | exact Imp.nil | (apply Imp.pick; (focus ((repeat constructor); done))) | refine Imp.drop ?_))); (case hn => rfl))); (((with_reducible refine' e_stAgg ?hp ?hn ?hv ?h1 ?_); (case hp => (repeat constructor)); (case hn => rfl); (case hv => rfl); (case h1 => (intro u hu; simp at hu; rcases hu with rfl | rfl <;> rfl)))); (((with_reducible refine' e_stS (v_resA ?hn) ?hi ?_); (case hi => (repeat (first | exact Imp.refl | exact Imp.nil | (apply Imp.pick; (focus ((repeat constructor); done))) | refine Imp.drop ?_))); (case hn => rfl)))
      (first | refine e_ret (()) rfl ?_ | refine e_retT (()) ?_)
      (repeat (first | exact Imp.refl | exact Imp.nil | (apply Imp.pick; (focus ((repeat constructor); done))) | refine Imp.drop ?_))
    · have hl2 : ¬ w.length < 2 := fun c => h3 (.inl (.inl c))
      have : choiceR l = ((v, weightR (w.drop 2)), tokF v && decide (0 ≤ weightR (w.drop 2))) := by
        rw [hch, if_neg]
        rw [List.getElem?_eq_getElem (by omega), List.getElem?_eq_getElem (by omega), ← gt_at, ← gt_at]
        simp only [ne_eq, Option.some.injEq]
        rintro (c | c | c)
        · exact hl2 c
        · exact h3 (.inl (.inr c))
        · exact h3 (.inr c)
      refine e_opN (v_ssl 2 rfl (by omega)) Imp.nil ?_
      refine e_call (rweight (l := w.drop 2) (by rw [List.length_drop]; omega)) .nil fun _ => ?_
      (try simp only [List.cons_append, List.nil_append, -eq_self])
      (((with_reducible refine e_opN v_fa0 Imp.nil ?_))); (((with_reducible refine' e_stN ?hp ?ho ?_); (case hp => (repeat constructor)); (case ho => (repeat (first | exact Put.here | apply Put.there)))))
      rw [hq2]
      refine e_sat (.pu this ?_)
      exact .refl
end Go.Proofs.YtcigoifhcfbcdaaDoor.FD
