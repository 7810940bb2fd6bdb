/- Rows of lengths. No conditions but those that each names. -/
import Derived.Test.YtehfblkpbadikaaInf6
set_option linter.unusedVariables false
set_option linter.unusedSimpArgs false
namespace Go.Proofs.Ytehfblkpbadikaa.IF
open Go Go.Proofs Go.RowKit Go.Proofs.Ytehfblkpbadikaa.Sh Go.Proofs.Ytehfblkpbadikaa.Sl Go.Proofs.Ytehfblkpbadikaa.T Go.Proofs.Ytehfblkpbadikaa.HM Go.Proofs.Ytehfblkpbadikaa.HF Go.Proofs.Ytehfblkpbadikaa.B Go.Proofs.Ytehfblkpbadikaa.M
theorem e_rfactS {W : World} {L L' : List HP} {S : WP} {p at_ : Nat} {b out : List UInt8} {most : Int} (q : Pick L (IsS p b at_ out most) L') (h : at_ ≤ 8 * b.length → Ent W L S) : Ent W L S := fun w hw => by
  have e : Ent W L (fun _ => at_ ≤ 8 * b.length) := e_ex q fun r => e_all .here (e_rfact (.there .here) fun hat => fun _ _ => hat)
  exact h (e w hw) w hw
/-- a run: what stands in it, how often, bits taken -/
def mRun (l : List Int) (b : List UInt8) (at_ : Nat) (acc : List Int) : Except Int (Int × Int × Nat) :=
  let x := nxt l b at_
  if x.2.1 ≠ 0 then .error x.2.1 else
  if x.1 = 16 then (if takR b x.2.2 2 ≠ 0 then .error (takR b x.2.2 2) else if ¬ 0 < acc.length then .error 30 else .ok (acc.getD (acc.length - 1) 0, 3 + (takN b x.2.2 2 : Int), takAt b x.2.2 2)) else
  if x.1 = 17 then (if takR b x.2.2 3 ≠ 0 then .error (takR b x.2.2 3) else .ok (0, 3 + (takN b x.2.2 3 : Int), takAt b x.2.2 3)) else
  if x.1 = 18 then (if takR b x.2.2 7 ≠ 0 then .error (takR b x.2.2 7) else .ok (0, 11 + (takN b x.2.2 7 : Int), takAt b x.2.2 7)) else
  .ok (x.1, 1, x.2.2)
/-- a row of n -/
def mRow (l : List Int) (b : List UInt8) (n : Nat) : Nat → Nat → List Int → Except Int (Nat × List Int)
  | 0, _, _ => .error 20
  | f + 1, at_, acc => if acc.length < n then (match mRun l b at_ acc with
    | .error e => .error e
    | .ok (v, t, a) => if ¬ t ≤ (n : Int) - acc.length then .error 30 else mRow l b n f a (acc ++ List.replicate t.toNat v)) else .ok (at_, acc)
theorem mRun_ok {l : List Int} {b : List UInt8} {at_ : Nat} {acc : List Int} {v t : Int} {a : Nat} {B : Int} (h : mRun l b at_ acc = .ok (v, t, a)) (h0 : ∀ x ∈ acc, 0 ≤ x ∧ x ≤ B) (hl : (l.length : Int) ≤ B) : 0 ≤ v ∧ v ≤ B ∧ 1 ≤ t ∧ at_ < a := by
  have ho : ∀ {v' t' : Int} {a' : Nat}, (Except.ok (v', t', a') : Except Int (Int × Int × Nat)) = .ok (v, t, a) → v' = v ∧ t' = t ∧ a' = a := fun e => by
    have := Prod.mk.inj (Except.ok.inj e)
    have h2 := Prod.mk.inj this.2
    exact ⟨this.1, h2.1, h2.2⟩
  unfold mRun at h
  simp only at h
  obtain ⟨c0, h⟩ := ite_err h
  have hlt := (nxt_at l b at_).2 (Decidable.not_not.1 c0)
  have hv := nxt_val l b at_
  by_cases c1 : (nxt l b at_).1 = 16
  · rw [if_pos c1] at h
    obtain ⟨_, h⟩ := ite_err h
    obtain ⟨c2, h⟩ := ite_err h
    obtain ⟨rfl, rfl, rfl⟩ := ho h
    have c3 : acc.length - 1 < acc.length := by omega
    have hm := h0 _ (List.getElem_mem c3)
    have hle := takAt_le b (nxt l b at_).2.2 2
    rw [List.getD_eq_getElem?_getD, List.getElem?_eq_getElem c3]
    exact ⟨hm.1, hm.2, by omega, by omega⟩
  rw [if_neg c1] at h
  by_cases c2 : (nxt l b at_).1 = 17
  · rw [if_pos c2] at h
    obtain ⟨_, h⟩ := ite_err h
    obtain ⟨rfl, rfl, rfl⟩ := ho h
    have hle := takAt_le b (nxt l b at_).2.2 3
    exact ⟨by omega, by omega, by omega, by omega⟩
  rw [if_neg c2] at h
  by_cases c3 : (nxt l b at_).1 = 18
  · rw [if_pos c3] at h
    obtain ⟨_, h⟩ := ite_err h
    obtain ⟨rfl, rfl, rfl⟩ := ho h
    have hle := takAt_le b (nxt l b at_).2.2 7
    exact ⟨by omega, by omega, by omega, by omega⟩
  rw [if_neg c3] at h
  obtain ⟨rfl, rfl, rfl⟩ := ho h
  exact ⟨by omega, by omega, by omega, by omega⟩
theorem mem_rep {acc : List Int} {v : Int} {k : Nat} {B : Int} (h0 : ∀ x ∈ acc, 0 ≤ x ∧ x ≤ B) (hv : 0 ≤ v ∧ v ≤ B) : ∀ x ∈ acc ++ List.replicate k v, 0 ≤ x ∧ x ≤ B := by
  intro x hx
  rcases List.mem_append.1 hx with h | h
  · exact h0 x h
  · rw [(List.mem_replicate.1 h).2]; exact hv
theorem mRow_ok {l : List Int} {b : List UInt8} {n : Nat} {B : Int} (hl : (l.length : Int) ≤ B) : ∀ (f : Nat) {at_ : Nat} {acc : List Int} {a : Nat} {r : List Int}, mRow l b n f at_ acc = .ok (a, r) → acc.length ≤ n → (∀ x ∈ acc, 0 ≤ x ∧ x ≤ B) → r.length = n ∧ (∀ x ∈ r, 0 ≤ x ∧ x ≤ B)
  | 0, _, _, _, _, h, _, _ => by cases h
  | f + 1, at_, acc, a, r, h, h1, h0 => by
    rw [mRow] at h
    by_cases c : acc.length < n
    · rw [if_pos c] at h
      cases hr : mRun l b at_ acc with
      | error e => rw [hr] at h; cases h
      | ok q =>
        obtain ⟨v, t, a1⟩ := q
        rw [hr] at h
        simp only at h
        obtain ⟨c1, h⟩ := ite_err h
        have ho := mRun_ok hr h0 hl
        refine mRow_ok hl f h ?_ (mem_rep h0 ⟨ho.1, ho.2.1⟩)
        rw [List.length_append, List.length_replicate]; omega
    · rw [if_neg c] at h
      have := Prod.mk.inj (Except.ok.inj h)
      rw [← this.2]
      exact ⟨by omega, h0⟩
/-- the fuel that the bits allow -/
def mRw (l : List Int) (b : List UInt8) (n at_ : Nat) : Except Int (Nat × List Int) := mRow l b n (8 * b.length + 1 - at_) at_ []
theorem row {W : World} {p pd at_ n : Nat} {l : List Int} {b out : List UInt8} {most : Int} (hl : l.length ≤ 320) (hn : n ≤ 1048576) (ho : out.length ≤ 1048576) :
    CnP Try.prog 90 [.pointer (some ⟨p, 0, none⟩), .pointer (some ⟨pd, 0, none⟩), .int .i64 (n : Int)] W [IsS p b at_ out most, IsDec pd l]
      (fun x : Ok (mRw l b n at_) × Option Addr × Nat => .slice x.2.1 n x.2.2) (fun x => [IsS p b x.1.1.1 out most, Sl 1 3 x.2.1 x.2.2 n (x.1.1.2.map I)]) (fun y : Er (mRw l b n at_) => pn y.1) (fun _ => []) := by
  (refine S.inflate_stream_row_cnP fun F => ?_; unfold S.inflate_stream_row; simp only [List.cons_append, List.nil_append, -eq_self])
  obtain ⟨R, hR⟩ : ∃ R, R = mRw l b n at_ := ⟨_, rfl⟩
  rw [← hR]
  refine e_nil (s := 1) (e := 3) ?_
  refine e_rfactS (.there .here) fun hat0 => ?_
  refine e_loop1 (fun m y => [ex fun at1 : Nat => ex fun acc : List Int => ex fun q : Option Addr × Nat => all [pu (8 * b.length + 1 ≤ m + at1 ∧ at1 ≤ 8 * b.length ∧ R = mRow l b n m at1 acc ∧ acc.length ≤ n ∧ (∀ x ∈ acc, 0 ≤ x ∧ x ≤ 320) ∧ y = .slice q.1 acc.length q.2), Sl 1 3 q.1 q.2 acc.length (acc.map I), IsS p b at1 out most, IsDec pd l]] ++ F) (8 * b.length + 1 - at_) ?_ ?_
  · refine .ex at_ (.ex [] (.ex (none, 0) (.all ?_)))
    (try simp only [List.cons_append, List.nil_append, -eq_self])
    refine .pu ⟨by omega, hat0, hR, by simp, by simp, rfl⟩ ?_
    exact .pick (by (repeat constructor)) (.pick (by (repeat constructor)) (.pick (by (repeat constructor)) .refl))
  clear hR hat0
  intro m ds y
  (try simp only [List.cons_append, List.nil_append, -eq_self])
  refine e_ex Pick.here fun at1 => e_ex Pick.here fun acc => e_ex Pick.here fun q => e_all Pick.here ?_
  obtain ⟨qa, qc⟩ := q
  (try simp only [List.cons_append, List.nil_append, -eq_self])
  refine e_pu Pick.here fun hi => ?_
  obtain ⟨hm, hat, hR, h2, h3, rfl⟩ := hi
  obtain ⟨m, rfl⟩ : ∃ m', m = m' + 1 := ⟨m - 1, by omega⟩
  rw [mRow] at hR
  refine e_slfacts .here fun f1 f2 f3 f4 => ?_
  (((with_reducible refine e_opN v_len Imp.nil ?_)))
  (refine e_ask v_lss Imp.nil (fun h => ?_) (fun h => ?_))
  rotate_left
  · rw [if_neg (by omega)] at hR
    have : acc.length = n := by omega
    subst this
    refine e_condF ?_
    refine e_ret ((⟨_, hR⟩ : Ok R), (qa, qc)) rfl ?_
    (repeat (first | exact Imp.refl | exact Imp.nil | (apply Imp.pick; (focus ((repeat constructor); done))) | refine Imp.drop ?_))
  rw [if_pos (by omega)] at hR
  refine e_condT ?_
  have hM : mRun l b at1 acc = mRun l b at1 acc := rfl
  conv at hM => rhs; unfold mRun
  simp only at hM
  refine e_ex (.there .here) fun q => e_all Pick.here ?_
  obtain ⟨r, sa, sc⟩ := q
  (try simp only [List.cons_append, List.nil_append, -eq_self])
  (((with_reducible refine e_opN v_nil Imp.nil ?_))); (((with_reducible refine e_opN v_fa0 Imp.nil ?_))); (((with_reducible refine' e_opN (v_ldN ?hc) ?hi ?_); (case hi => (repeat (first | exact Imp.refl | exact Imp.nil | (apply Imp.pick; (focus ((repeat constructor); done))) | refine Imp.drop ?_))); (case hc => (repeat (first | exact Nth.here | apply Nth.there)))))
  (refine' e_callP (inext) ?hp (fun _ => ?_) (fun _ => ?_); (case hp => (repeat (first | exact Picks.nil | (apply Picks.cons; (focus (repeat constructor)))))); (all_goals (try simp only [List.cons_append, List.nil_append, Bool.not_true, Bool.not_false, -eq_self])))
  rotate_left
  · rename_i y
    rw [if_pos y.2] at hM
    rw [hM] at hR
    refine e_pan ⟨_, hR⟩ rfl ?_
    (repeat (first | exact Imp.refl | exact Imp.nil | (apply Imp.pick; (focus ((repeat constructor); done))) | refine Imp.drop ?_))
  rename_i x1
  rw [if_neg (fun c => c x1.2)] at hM
  have hv := nxt_val l b at1
  have hlt := (nxt_at l b at1).2 x1.2
  obtain ⟨x, hx⟩ : ∃ x, x = (nxt l b at1).1 := ⟨_, rfl⟩
  obtain ⟨a2, ha2⟩ : ∃ a2, a2 = (nxt l b at1).2.2 := ⟨_, rfl⟩
  rw [← hx] at hv
  rw [← ha2] at hlt
  rw [← hx, ← ha2] at hM ⊢
  refine e_imp (M := Sl 1 3 qa qc acc.length (acc.map I) :: IsS p b a2 out most :: IsDec pd l :: F) (.pick (by (repeat constructor)) (.ex (r, (sa, sc)) (.all (.pick (by (repeat constructor)) (.pick (by (repeat constructor)) (.pick (by (repeat constructor)) (by (repeat (first | exact Imp.refl | exact Imp.nil | (apply Imp.pick; (focus ((repeat constructor); done))) | refine Imp.drop ?_))))))))) ?_
  refine e_cut2 (fun z8 z9 => [ex fun v : Int => ex fun t : Int => ex fun a3 : Nat => all [pu (mRun l b at1 acc = .ok (v, t, a3) ∧ z8 = .int .i64 v ∧ z9 = .int .i64 t ∧ t ≤ 1099511627776), Sl 1 3 qa qc acc.length (acc.map I), IsS p b a3 out most, IsDec pd l]] ++ F) ?_ ?_
  rotate_left
  · (refine e_ask v_eql Imp.nil (fun h => ?_) (fun h => ?_))
    · rw [if_pos h] at hM
      refine e_condT ?_
      (refine' e_callP (stake) ?hp (fun _ => ?_) (fun _ => ?_); (case hp => (repeat (first | exact Picks.nil | (apply Picks.cons; (focus (repeat constructor)))))); (all_goals (try simp only [List.cons_append, List.nil_append, Bool.not_true, Bool.not_false, -eq_self])))
      rotate_left
      · rename_i y
        rw [if_pos y.2] at hM
        rw [hM] at hR
        refine e_pan ⟨_, hR⟩ rfl ?_
        (repeat (first | exact Imp.refl | exact Imp.nil | (apply Imp.pick; (focus ((repeat constructor); done))) | refine Imp.drop ?_))
      rename_i x4
      rw [if_neg (fun c => c x4.2)] at hM
      have ht1 := takN32 b a2 2
      (((with_reducible refine e_opN (v_add ?h1 ?h2) Imp.nil ?_); (case h1 => omega); (case h2 => omega))); (((with_reducible refine e_opN v_len Imp.nil ?_)))
      refine e_opN v_gtr Imp.nil ?_
      (refine' e_callP (demand) ?hp (fun _ => ?_) (fun _ => ?_); (case hp => (repeat (first | exact Picks.nil | (apply Picks.cons; (focus (repeat constructor)))))); (all_goals (try simp only [List.cons_append, List.nil_append, Bool.not_true, Bool.not_false, -eq_self])))
      rotate_left
      · rename_i y
        rw [if_pos (by have := of_decide_eq_false y.2; omega)] at hM
        rw [hM] at hR
        refine e_pan ⟨_, hR⟩ rfl ?_
        (repeat (first | exact Imp.refl | exact Imp.nil | (apply Imp.pick; (focus ((repeat constructor); done))) | refine Imp.drop ?_))
      rename_i x5
      have h0 := of_decide_eq_true x5.2
      rw [if_neg (by omega)] at hM
      obtain ⟨gq, rfl⟩ := f4 (by omega)
      have hj : acc.length - 1 < acc.length := by omega
      (((with_reducible refine e_opN v_len Imp.nil ?_))); (((with_reducible refine e_opN (v_sub ?h1 ?h2) Imp.nil ?_); (case h1 => omega); (case h2 => omega)))
      refine e_opN (v_ia1 (acc.length - 1) (by omega) hj) Imp.nil ?_
      refine e_opN (v_ldSl (v := I acc[acc.length - 1]) (by rw [Nat.zero_add]; exact I_get hj)) (.pick (by (repeat constructor)) .nil) ?_
      rw [List.getD_eq_getElem?_getD, List.getElem?_eq_getElem hj] at hM
      refine e_sat (.ex (acc[acc.length - 1]) (.ex (3 + (takN b a2 2 : Int)) (.ex (takAt b a2 2) (.all ?_))))
      (try simp only [List.cons_append, List.nil_append, -eq_self])
      refine .pu ⟨hM, rfl, rfl, by omega⟩ ?_
      exact .pick (by (repeat constructor)) (.pick (by (repeat constructor)) (.pick (by (repeat constructor)) .refl))
    rw [if_neg h] at hM
    refine e_condF ?_
    (refine e_ask v_eql Imp.nil (fun h => ?_) (fun h => ?_))
    · rw [if_pos h] at hM
      refine e_condT ?_
      (refine' e_callP (stake) ?hp (fun _ => ?_) (fun _ => ?_); (case hp => (repeat (first | exact Picks.nil | (apply Picks.cons; (focus (repeat constructor)))))); (all_goals (try simp only [List.cons_append, List.nil_append, Bool.not_true, Bool.not_false, -eq_self])))
      rotate_left
      · rename_i y
        rw [if_pos y.2] at hM
        rw [hM] at hR
        refine e_pan ⟨_, hR⟩ rfl ?_
        (repeat (first | exact Imp.refl | exact Imp.nil | (apply Imp.pick; (focus ((repeat constructor); done))) | refine Imp.drop ?_))
      rename_i x4
      rw [if_neg (fun c => c x4.2)] at hM
      have ht1 := takN32 b a2 3
      (((with_reducible refine e_opN (v_add ?h1 ?h2) Imp.nil ?_); (case h1 => omega); (case h2 => omega)))
      refine e_sat (.ex 0 (.ex (3 + (takN b a2 3 : Int)) (.ex (takAt b a2 3) (.all ?_))))
      (try simp only [List.cons_append, List.nil_append, -eq_self])
      refine .pu ⟨hM, rfl, rfl, by omega⟩ ?_
      exact .pick (by (repeat constructor)) (.pick (by (repeat constructor)) (.pick (by (repeat constructor)) .refl))
    rw [if_neg h] at hM
    refine e_condF ?_
    (refine e_ask v_eql Imp.nil (fun h => ?_) (fun h => ?_))
    · rw [if_pos h] at hM
      refine e_condT ?_
      (refine' e_callP (stake) ?hp (fun _ => ?_) (fun _ => ?_); (case hp => (repeat (first | exact Picks.nil | (apply Picks.cons; (focus (repeat constructor)))))); (all_goals (try simp only [List.cons_append, List.nil_append, Bool.not_true, Bool.not_false, -eq_self])))
      rotate_left
      · rename_i y
        rw [if_pos y.2] at hM
        rw [hM] at hR
        refine e_pan ⟨_, hR⟩ rfl ?_
        (repeat (first | exact Imp.refl | exact Imp.nil | (apply Imp.pick; (focus ((repeat constructor); done))) | refine Imp.drop ?_))
      rename_i x4
      rw [if_neg (fun c => c x4.2)] at hM
      have ht1 := takN32 b a2 7
      (((with_reducible refine e_opN (v_add ?h1 ?h2) Imp.nil ?_); (case h1 => omega); (case h2 => omega)))
      refine e_sat (.ex 0 (.ex (11 + (takN b a2 7 : Int)) (.ex (takAt b a2 7) (.all ?_))))
      (try simp only [List.cons_append, List.nil_append, -eq_self])
      refine .pu ⟨hM, rfl, rfl, by omega⟩ ?_
      exact .pick (by (repeat constructor)) (.pick (by (repeat constructor)) (.pick (by (repeat constructor)) .refl))
    rw [if_neg h] at hM
    refine e_condF ?_
    refine e_sat (.ex x (.ex 1 (.ex a2 (.all ?_))))
    (try simp only [List.cons_append, List.nil_append, -eq_self])
    refine .pu ⟨hM, rfl, rfl, by omega⟩ ?_
    exact .pick (by (repeat constructor)) (.pick (by (repeat constructor)) (.pick (by (repeat constructor)) .refl))
  clear hM hx ha2 hlt hv x1
  intro ds2 z8 z9
  (try simp only [List.cons_append, List.nil_append, -eq_self])
  refine e_ex Pick.here fun v => e_ex Pick.here fun t => e_ex Pick.here fun a3 => e_all Pick.here ?_
  (try simp only [List.cons_append, List.nil_append, -eq_self])
  refine e_pu Pick.here fun hi => ?_
  obtain ⟨hM, rfl, rfl, ht⟩ := hi
  obtain ⟨v0, v1, t1, hlt⟩ := mRun_ok (B := 320) hM h3 (by omega)
  rw [hM] at hR
  simp only at hR
  (((with_reducible refine e_opN v_len Imp.nil ?_))); (((with_reducible refine e_opN (v_sub ?h1 ?h2) Imp.nil ?_); (case h1 => omega); (case h2 => omega)))
  refine e_opN v_leq Imp.nil ?_
  (refine' e_callP (demand) ?hp (fun _ => ?_) (fun _ => ?_); (case hp => (repeat (first | exact Picks.nil | (apply Picks.cons; (focus (repeat constructor)))))); (all_goals (try simp only [List.cons_append, List.nil_append, Bool.not_true, Bool.not_false, -eq_self])))
  rotate_left
  · rename_i y
    rw [if_pos (of_decide_eq_false y.2)] at hR
    refine e_pan ⟨_, hR⟩ rfl ?_
    (repeat (first | exact Imp.refl | exact Imp.nil | (apply Imp.pick; (focus ((repeat constructor); done))) | refine Imp.drop ?_))
  rename_i x5
  have h0 := of_decide_eq_true x5.2
  rw [if_neg (fun c => c h0)] at hR
  obtain ⟨k, rfl⟩ := Int.eq_ofNat_of_zero_le (show 0 ≤ t by omega)
  rw [Int.toNat_natCast] at hR
  refine e_rfactS (.there .here) fun hat3 => ?_
  refine e_loop2 (fun m2 x y => [ex fun i : Nat => ex fun q : Option Addr × Nat => all [pu (m2 + i = k ∧ y = .int .i64 (i : Int) ∧ x = .slice q.1 (acc.length + i) q.2), Sl 1 3 q.1 q.2 (acc.length + i) ((acc ++ List.replicate i v).map I), IsS p b a3 out most, IsDec pd l]] ++ F) k ?_ ?_
  · refine .ex 0 (.ex (qa, qc) (.all ?_))
    (try simp only [List.cons_append, List.nil_append, -eq_self])
    refine .pu ⟨by omega, rfl, rfl⟩ ?_
    rw [List.replicate_zero, List.append_nil]
    exact .pick (by (repeat constructor)) (.pick (by (repeat constructor)) (.pick (by (repeat constructor)) .refl))
  intro m2 ds3 x y
  (try simp only [List.cons_append, List.nil_append, -eq_self])
  refine e_ex Pick.here fun i => e_ex Pick.here fun q => e_all Pick.here ?_
  obtain ⟨qa2, qc2⟩ := q
  (try simp only [List.cons_append, List.nil_append, -eq_self])
  refine e_pu Pick.here fun hi => ?_
  obtain ⟨hmi, rfl, rfl⟩ := hi
  (try dsimp only)
  (refine e_ask v_lss Imp.nil (fun h => ?_) (fun h => ?_))
  · refine e_condT ?_
    refine e_bsl1 fun g => ?_
    refine e_app (m := 1) (news := [I v]) (by (repeat constructor)) (src_pt (e' := 3) (by kernel_rfl) .here (by rfl) (I_one (l := [v]))) (by omega) (by omega) fun a' c' => ?_
    (((with_reducible refine e_opN (v_add ?h1 ?h2) Imp.nil ?_); (case h1 => omega); (case h2 => omega)))
    refine e_next2 (m2 - 1) (by omega) (.ex (i + 1) (.ex (a', c') (.all ?_)))
    (try simp only [List.cons_append, List.nil_append, -eq_self])
    refine .pu ⟨by omega, congrArg (Value.int .i64) (by omega), by rw [Nat.add_assoc]⟩ ?_
    rw [List.replicate_succ', ← List.append_assoc, List.map_append (l₁ := acc ++ List.replicate i v), ← Nat.add_assoc]
    exact .pick (by (repeat constructor)) (.pick (by (repeat constructor)) (.pick (by (repeat constructor)) (by (repeat (first | exact Imp.refl | exact Imp.nil | (apply Imp.pick; (focus ((repeat constructor); done))) | refine Imp.drop ?_)))))
  · have : i = k := by omega
    subst this
    refine e_condF ?_
    refine e_next1 m (by omega) (.ex a3 (.ex (acc ++ List.replicate i v) (.ex (qa2, qc2) (.all ?_))))
    (try simp only [List.cons_append, List.nil_append, -eq_self])
    have hle : (acc ++ List.replicate i v).length = acc.length + i := by rw [List.length_append, List.length_replicate]
    rw [hle]
    refine .pu ⟨by omega, hat3, hR, by omega, mem_rep h3 ⟨v0, v1⟩, rfl⟩ ?_
    exact .pick (by (repeat constructor)) (.pick (by (repeat constructor)) (.pick (by (repeat constructor)) .refl))
end Go.Proofs.Ytehfblkpbadikaa.IF
