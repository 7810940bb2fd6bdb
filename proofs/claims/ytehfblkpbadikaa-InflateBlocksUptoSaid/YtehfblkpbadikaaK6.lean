/- Rows of lengths. No conditions but those that each names. (13 texts made one; each says below what it is.) -/
import Derived.Test.YtehfblkpbadikaaK5
import Derived.Lib.AppendZeros
set_option linter.unusedVariables false
set_option linter.unusedSimpArgs false
set_option linter.unusedSectionVars false
/-! Rows of lengths. No conditions but those that each names. -/
namespace Go.Proofs.Ytehfblkpbadikaa.IF
open Go Go.Proofs Go.RowKit Go.Proofs.Ytehfblkpbadikaa.Sh Go.Proofs.Ytehfblkpbadikaa.Sl Go.Proofs.Ytehfblkpbadikaa.T Go.Proofs.Ytehfblkpbadikaa.HM Go.Proofs.Ytehfblkpbadikaa.HF Go.Proofs.Ytehfblkpbadikaa.B Go.Proofs.Ytehfblkpbadikaa.M
theorem e_rfactS {W : World} {L L' : List HP} {S : WP} {p at_ : Nat} {b out : List UInt8} {most : Int} (q : Pick L (IsS p b at_ out most) L') (h : at_ ≤ 8 * b.length → Ent W L S) : Ent W L S := fun w hw => by
  have e : Ent W L (fun _ => at_ ≤ 8 * b.length) := e_ex q fun r => e_all .here (e_rfact (.there .here) fun hat => fun _ _ => hat)
  exact h (e w hw) w hw
/-- a run: what stands in it, how often, bits taken -/
def mRun (l : List Int) (b : List UInt8) (at_ : Nat) (acc : List Int) : Except Int (Int × Int × Nat) :=
  let x := nxt l b at_
  if x.2.1 ≠ 0 then .error x.2.1 else
  if x.1 = 16 then (if takR b x.2.2 2 ≠ 0 then .error (takR b x.2.2 2) else if ¬ 0 < acc.length then .error 30 else .ok (acc.getD (acc.length - 1) 0, 3 + (takN b x.2.2 2 : Int), takAt b x.2.2 2)) else
  if x.1 = 17 then (if takR b x.2.2 3 ≠ 0 then .error (takR b x.2.2 3) else .ok (0, 3 + (takN b x.2.2 3 : Int), takAt b x.2.2 3)) else
  if x.1 = 18 then (if takR b x.2.2 7 ≠ 0 then .error (takR b x.2.2 7) else .ok (0, 11 + (takN b x.2.2 7 : Int), takAt b x.2.2 7)) else
  .ok (x.1, 1, x.2.2)
/-- a row of n -/
def mRow (l : List Int) (b : List UInt8) (n : Nat) : Nat → Nat → List Int → Except Int (Nat × List Int)
  | 0, _, _ => .error 20
  | f + 1, at_, acc => if acc.length < n then (match mRun l b at_ acc with
    | .error e => .error e
    | .ok (v, t, a) => if ¬ t ≤ (n : Int) - acc.length then .error 30 else mRow l b n f a (acc ++ List.replicate t.toNat v)) else .ok (at_, acc)
theorem mRun_ok {l : List Int} {b : List UInt8} {at_ : Nat} {acc : List Int} {v t : Int} {a : Nat} {B : Int} (h : mRun l b at_ acc = .ok (v, t, a)) (h0 : ∀ x ∈ acc, 0 ≤ x ∧ x ≤ B) (hl : (l.length : Int) ≤ B) : 0 ≤ v ∧ v ≤ B ∧ 1 ≤ t ∧ at_ < a := by
  have ho : ∀ {v' t' : Int} {a' : Nat}, (Except.ok (v', t', a') : Except Int (Int × Int × Nat)) = .ok (v, t, a) → v' = v ∧ t' = t ∧ a' = a := fun e => by
    have := Prod.mk.inj (Except.ok.inj e)
    have h2 := Prod.mk.inj this.2
    exact ⟨this.1, h2.1, h2.2⟩
  unfold mRun at h
  simp only at h
  obtain ⟨c0, h⟩ := ite_err h
  have hlt := (nxt_at l b at_).2 (Decidable.not_not.1 c0)
  have hv := nxt_val l b at_
  by_cases c1 : (nxt l b at_).1 = 16
  · rw [if_pos c1] at h
    obtain ⟨_, h⟩ := ite_err h
    obtain ⟨c2, h⟩ := ite_err h
    obtain ⟨rfl, rfl, rfl⟩ := ho h
    have c3 : acc.length - 1 < acc.length := by omega
    have hm := h0 _ (List.getElem_mem c3)
    have hle := takAt_le b (nxt l b at_).2.2 2
    rw [List.getD_eq_getElem?_getD, List.getElem?_eq_getElem c3]
    exact ⟨hm.1, hm.2, by omega, by omega⟩
  rw [if_neg c1] at h
  by_cases c2 : (nxt l b at_).1 = 17
  · rw [if_pos c2] at h
    obtain ⟨_, h⟩ := ite_err h
    obtain ⟨rfl, rfl, rfl⟩ := ho h
    have hle := takAt_le b (nxt l b at_).2.2 3
    exact ⟨by omega, by omega, by omega, by omega⟩
  rw [if_neg c2] at h
  by_cases c3 : (nxt l b at_).1 = 18
  · rw [if_pos c3] at h
    obtain ⟨_, h⟩ := ite_err h
    obtain ⟨rfl, rfl, rfl⟩ := ho h
    have hle := takAt_le b (nxt l b at_).2.2 7
    exact ⟨by omega, by omega, by omega, by omega⟩
  rw [if_neg c3] at h
  obtain ⟨rfl, rfl, rfl⟩ := ho h
  exact ⟨by omega, by omega, by omega, by omega⟩
theorem mem_rep {acc : List Int} {v : Int} {k : Nat} {B : Int} (h0 : ∀ x ∈ acc, 0 ≤ x ∧ x ≤ B) (hv : 0 ≤ v ∧ v ≤ B) : ∀ x ∈ acc ++ List.replicate k v, 0 ≤ x ∧ x ≤ B := by
  intro x hx
  rcases List.mem_append.1 hx with h | h
  · exact h0 x h
  · rw [(List.mem_replicate.1 h).2]; exact hv
theorem mRow_ok {l : List Int} {b : List UInt8} {n : Nat} {B : Int} (hl : (l.length : Int) ≤ B) : ∀ (f : Nat) {at_ : Nat} {acc : List Int} {a : Nat} {r : List Int}, mRow l b n f at_ acc = .ok (a, r) → acc.length ≤ n → (∀ x ∈ acc, 0 ≤ x ∧ x ≤ B) → r.length = n ∧ (∀ x ∈ r, 0 ≤ x ∧ x ≤ B)
  | 0, _, _, _, _, h, _, _ => by cases h
  | f + 1, at_, acc, a, r, h, h1, h0 => by
    rw [mRow] at h
    by_cases c : acc.length < n
    · rw [if_pos c] at h
      cases hr : mRun l b at_ acc with
      | error e => rw [hr] at h; cases h
      | ok q =>
        obtain ⟨v, t, a1⟩ := q
        rw [hr] at h
        simp only at h
        obtain ⟨c1, h⟩ := ite_err h
        have ho := mRun_ok hr h0 hl
        refine mRow_ok hl f h ?_ (mem_rep h0 ⟨ho.1, ho.2.1⟩)
        rw [List.length_append, List.length_replicate]; omega
    · rw [if_neg c] at h
      have := Prod.mk.inj (Except.ok.inj h)
      rw [← this.2]
      exact ⟨by omega, h0⟩
/-- the fuel that the bits allow -/
def mRw (l : List Int) (b : List UInt8) (n at_ : Nat) : Except Int (Nat × List Int) := mRow l b n (8 * b.length + 1 - at_) at_ []
theorem row {W : World} {p pd at_ n : Nat} {l : List Int} {b out : List UInt8} {most : Int} (hl : l.length ≤ 320) (hn : n ≤ 1048576) (ho : out.length ≤ 1048576) :
    CnP Try.prog 90 [.pointer (some ⟨p, 0, none⟩), .pointer (some ⟨pd, 0, none⟩), .int .i64 (n : Int)] W [IsS p b at_ out most, IsDec pd l]
      (fun x : Ok (mRw l b n at_) × Option Addr × Nat => .slice x.2.1 n x.2.2) (fun x => [IsS p b x.1.1.1 out most, Sl 1 3 x.2.1 x.2.2 n (x.1.1.2.map I)]) (fun y : Er (mRw l b n at_) => pn y.1) (fun _ => []) := by
  (refine S.inflate_stream_row_cnP fun F => ?_; unfold S.inflate_stream_row; simp only [List.cons_append, List.nil_append, -eq_self])
  obtain ⟨R, hR⟩ : ∃ R, R = mRw l b n at_ := ⟨_, rfl⟩
  rw [← hR]
  refine e_nil (s := 1) (e := 3) ?_
  refine e_rfactS (.there .here) fun hat0 => ?_
  refine e_loop1 (fun m y => [ex fun at1 : Nat => ex fun acc : List Int => ex fun q : Option Addr × Nat => all [pu (8 * b.length + 1 ≤ m + at1 ∧ at1 ≤ 8 * b.length ∧ R = mRow l b n m at1 acc ∧ acc.length ≤ n ∧ (∀ x ∈ acc, 0 ≤ x ∧ x ≤ 320) ∧ y = .slice q.1 acc.length q.2), Sl 1 3 q.1 q.2 acc.length (acc.map I), IsS p b at1 out most, IsDec pd l]] ++ F) (8 * b.length + 1 - at_) ?_ ?_
  · refine .ex at_ (.ex [] (.ex (none, 0) (.all ?_)))
    (try simp only [List.cons_append, List.nil_append, -eq_self])
    refine .pu ⟨by omega, hat0, hR, by simp, by simp, rfl⟩ ?_
    exact .pick (by (repeat constructor)) (.pick (by (repeat constructor)) (.pick (by (repeat constructor)) .refl))
  clear hR hat0
  intro m ds y
  (try simp only [List.cons_append, List.nil_append, -eq_self])
  refine e_ex Pick.here fun at1 => e_ex Pick.here fun acc => e_ex Pick.here fun q => e_all Pick.here ?_
  obtain ⟨qa, qc⟩ := q
  (try simp only [List.cons_append, List.nil_append, -eq_self])
  refine e_pu Pick.here fun hi => ?_
  obtain ⟨hm, hat, hR, h2, h3, rfl⟩ := hi
  obtain ⟨m, rfl⟩ : ∃ m', m = m' + 1 := ⟨m - 1, by omega⟩
  rw [mRow] at hR
  refine e_slfacts .here fun f1 f2 f3 f4 => ?_
  (((with_reducible refine e_opN v_len Imp.nil ?_)))
  (refine e_ask v_lss Imp.nil (fun h => ?_) (fun h => ?_))
  rotate_left
  · rw [if_neg (by omega)] at hR
    have : acc.length = n := by omega
    subst this
    refine e_condF ?_
    refine e_ret ((⟨_, hR⟩ : Ok R), (qa, qc)) rfl ?_
    (repeat (first | exact Imp.refl | exact Imp.nil | (apply Imp.pick; (focus ((repeat constructor); done))) | refine Imp.drop ?_))
  rw [if_pos (by omega)] at hR
  refine e_condT ?_
  have hM : mRun l b at1 acc = mRun l b at1 acc := rfl
  conv at hM => rhs; unfold mRun
  simp only at hM
  refine e_ex (.there .here) fun q => e_all Pick.here ?_
  obtain ⟨r, sa, sc⟩ := q
  (try simp only [List.cons_append, List.nil_append, -eq_self])
  (((with_reducible refine e_opN v_nil Imp.nil ?_))); (((with_reducible refine e_opN v_fa0 Imp.nil ?_))); (((with_reducible refine' e_opN (v_ldN ?hc) ?hi ?_); (case hi => (repeat (first | exact Imp.refl | exact Imp.nil | (apply Imp.pick; (focus ((repeat constructor); done))) | refine Imp.drop ?_))); (case hc => (repeat (first | exact Nth.here | apply Nth.there)))))
  (refine' e_callP (inext) ?hp (fun _ => ?_) (fun _ => ?_); (case hp => (repeat (first | exact Picks.nil | (apply Picks.cons; (focus (repeat constructor)))))); (all_goals (try simp only [List.cons_append, List.nil_append, Bool.not_true, Bool.not_false, -eq_self])))
  rotate_left
  · rename_i y
    rw [if_pos y.2] at hM
    rw [hM] at hR
    refine e_pan ⟨_, hR⟩ rfl ?_
    (repeat (first | exact Imp.refl | exact Imp.nil | (apply Imp.pick; (focus ((repeat constructor); done))) | refine Imp.drop ?_))
  rename_i x1
  rw [if_neg (fun c => c x1.2)] at hM
  have hv := nxt_val l b at1
  have hlt := (nxt_at l b at1).2 x1.2
  obtain ⟨x, hx⟩ : ∃ x, x = (nxt l b at1).1 := ⟨_, rfl⟩
  obtain ⟨a2, ha2⟩ : ∃ a2, a2 = (nxt l b at1).2.2 := ⟨_, rfl⟩
  rw [← hx] at hv
  rw [← ha2] at hlt
  rw [← hx, ← ha2] at hM ⊢
  refine e_imp (M := Sl 1 3 qa qc acc.length (acc.map I) :: IsS p b a2 out most :: IsDec pd l :: F) (.pick (by (repeat constructor)) (.ex (r, (sa, sc)) (.all (.pick (by (repeat constructor)) (.pick (by (repeat constructor)) (.pick (by (repeat constructor)) (by (repeat (first | exact Imp.refl | exact Imp.nil | (apply Imp.pick; (focus ((repeat constructor); done))) | refine Imp.drop ?_))))))))) ?_
  refine e_cut2 (fun z8 z9 => [ex fun v : Int => ex fun t : Int => ex fun a3 : Nat => all [pu (mRun l b at1 acc = .ok (v, t, a3) ∧ z8 = .int .i64 v ∧ z9 = .int .i64 t ∧ t ≤ 1099511627776), Sl 1 3 qa qc acc.length (acc.map I), IsS p b a3 out most, IsDec pd l]] ++ F) ?_ ?_
  rotate_left
  · (refine e_ask v_eql Imp.nil (fun h => ?_) (fun h => ?_))
    · rw [if_pos h] at hM
      refine e_condT ?_
      (refine' e_callP (stake) ?hp (fun _ => ?_) (fun _ => ?_); (case hp => (repeat (first | exact Picks.nil | (apply Picks.cons; (focus (repeat constructor)))))); (all_goals (try simp only [List.cons_append, List.nil_append, Bool.not_true, Bool.not_false, -eq_self])))
      rotate_left
      · rename_i y
        rw [if_pos y.2] at hM
        rw [hM] at hR
        refine e_pan ⟨_, hR⟩ rfl ?_
        (repeat (first | exact Imp.refl | exact Imp.nil | (apply Imp.pick; (focus ((repeat constructor); done))) | refine Imp.drop ?_))
      rename_i x4
      rw [if_neg (fun c => c x4.2)] at hM
      have ht1 := takN32 b a2 2
      (((with_reducible refine e_opN (v_add ?h1 ?h2) Imp.nil ?_); (case h1 => omega); (case h2 => omega))); (((with_reducible refine e_opN v_len Imp.nil ?_)))
      refine e_opN v_gtr Imp.nil ?_
      (refine' e_callP (demand) ?hp (fun _ => ?_) (fun _ => ?_); (case hp => (repeat (first | exact Picks.nil | (apply Picks.cons; (focus (repeat constructor)))))); (all_goals (try simp only [List.cons_append, List.nil_append, Bool.not_true, Bool.not_false, -eq_self])))
      rotate_left
      · rename_i y
        rw [if_pos (by have := of_decide_eq_false y.2; omega)] at hM
        rw [hM] at hR
        refine e_pan ⟨_, hR⟩ rfl ?_
        (repeat (first | exact Imp.refl | exact Imp.nil | (apply Imp.pick; (focus ((repeat constructor); done))) | refine Imp.drop ?_))
      rename_i x5
      have h0 := of_decide_eq_true x5.2
      rw [if_neg (by omega)] at hM
      obtain ⟨gq, rfl⟩ := f4 (by omega)
      have hj : acc.length - 1 < acc.length := by omega
      (((with_reducible refine e_opN v_len Imp.nil ?_))); (((with_reducible refine e_opN (v_sub ?h1 ?h2) Imp.nil ?_); (case h1 => omega); (case h2 => omega)))
      refine e_opN (v_ia1 (acc.length - 1) (by omega) hj) Imp.nil ?_
      refine e_opN (v_ldSl (v := I acc[acc.length - 1]) (by rw [Nat.zero_add]; exact I_get hj)) (.pick (by (repeat constructor)) .nil) ?_
      rw [List.getD_eq_getElem?_getD, List.getElem?_eq_getElem hj] at hM
      refine e_sat (.ex (acc[acc.length - 1]) (.ex (3 + (takN b a2 2 : Int)) (.ex (takAt b a2 2) (.all ?_))))
      (try simp only [List.cons_append, List.nil_append, -eq_self])
      refine .pu ⟨hM, rfl, rfl, by omega⟩ ?_
      exact .pick (by (repeat constructor)) (.pick (by (repeat constructor)) (.pick (by (repeat constructor)) .refl))
    rw [if_neg h] at hM
    refine e_condF ?_
    (refine e_ask v_eql Imp.nil (fun h => ?_) (fun h => ?_))
    · rw [if_pos h] at hM
      refine e_condT ?_
      (refine' e_callP (stake) ?hp (fun _ => ?_) (fun _ => ?_); (case hp => (repeat (first | exact Picks.nil | (apply Picks.cons; (focus (repeat constructor)))))); (all_goals (try simp only [List.cons_append, List.nil_append, Bool.not_true, Bool.not_false, -eq_self])))
      rotate_left
      · rename_i y
        rw [if_pos y.2] at hM
        rw [hM] at hR
        refine e_pan ⟨_, hR⟩ rfl ?_
        (repeat (first | exact Imp.refl | exact Imp.nil | (apply Imp.pick; (focus ((repeat constructor); done))) | refine Imp.drop ?_))
      rename_i x4
      rw [if_neg (fun c => c x4.2)] at hM
      have ht1 := takN32 b a2 3
      (((with_reducible refine e_opN (v_add ?h1 ?h2) Imp.nil ?_); (case h1 => omega); (case h2 => omega)))
      refine e_sat (.ex 0 (.ex (3 + (takN b a2 3 : Int)) (.ex (takAt b a2 3) (.all ?_))))
      (try simp only [List.cons_append, List.nil_append, -eq_self])
      refine .pu ⟨hM, rfl, rfl, by omega⟩ ?_
      exact .pick (by (repeat constructor)) (.pick (by (repeat constructor)) (.pick (by (repeat constructor)) .refl))
    rw [if_neg h] at hM
    refine e_condF ?_
    (refine e_ask v_eql Imp.nil (fun h => ?_) (fun h => ?_))
    · rw [if_pos h] at hM
      refine e_condT ?_
      (refine' e_callP (stake) ?hp (fun _ => ?_) (fun _ => ?_); (case hp => (repeat (first | exact Picks.nil | (apply Picks.cons; (focus (repeat constructor)))))); (all_goals (try simp only [List.cons_append, List.nil_append, Bool.not_true, Bool.not_false, -eq_self])))
      rotate_left
      · rename_i y
        rw [if_pos y.2] at hM
        rw [hM] at hR
        refine e_pan ⟨_, hR⟩ rfl ?_
        (repeat (first | exact Imp.refl | exact Imp.nil | (apply Imp.pick; (focus ((repeat constructor); done))) | refine Imp.drop ?_))
      rename_i x4
      rw [if_neg (fun c => c x4.2)] at hM
      have ht1 := takN32 b a2 7
      (((with_reducible refine e_opN (v_add ?h1 ?h2) Imp.nil ?_); (case h1 => omega); (case h2 => omega)))
      refine e_sat (.ex 0 (.ex (11 + (takN b a2 7 : Int)) (.ex (takAt b a2 7) (.all ?_))))
      (try simp only [List.cons_append, List.nil_append, -eq_self])
      refine .pu ⟨hM, rfl, rfl, by omega⟩ ?_
      exact .pick (by (repeat constructor)) (.pick (by (repeat constructor)) (.pick (by (repeat constructor)) .refl))
    rw [if_neg h] at hM
    refine e_condF ?_
    refine e_sat (.ex x (.ex 1 (.ex a2 (.all ?_))))
    (try simp only [List.cons_append, List.nil_append, -eq_self])
    refine .pu ⟨hM, rfl, rfl, by omega⟩ ?_
    exact .pick (by (repeat constructor)) (.pick (by (repeat constructor)) (.pick (by (repeat constructor)) .refl))
  clear hM hx ha2 hlt hv x1
  intro ds2 z8 z9
  (try simp only [List.cons_append, List.nil_append, -eq_self])
  refine e_ex Pick.here fun v => e_ex Pick.here fun t => e_ex Pick.here fun a3 => e_all Pick.here ?_
  (try simp only [List.cons_append, List.nil_append, -eq_self])
  refine e_pu Pick.here fun hi => ?_
  obtain ⟨hM, rfl, rfl, ht⟩ := hi
  obtain ⟨v0, v1, t1, hlt⟩ := mRun_ok (B := 320) hM h3 (by omega)
  rw [hM] at hR
  simp only at hR
  (((with_reducible refine e_opN v_len Imp.nil ?_))); (((with_reducible refine e_opN (v_sub ?h1 ?h2) Imp.nil ?_); (case h1 => omega); (case h2 => omega)))
  refine e_opN v_leq Imp.nil ?_
  (refine' e_callP (demand) ?hp (fun _ => ?_) (fun _ => ?_); (case hp => (repeat (first | exact Picks.nil | (apply Picks.cons; (focus (repeat constructor)))))); (all_goals (try simp only [List.cons_append, List.nil_append, Bool.not_true, Bool.not_false, -eq_self])))
  rotate_left
  · rename_i y
    rw [if_pos (of_decide_eq_false y.2)] at hR
    refine e_pan ⟨_, hR⟩ rfl ?_
    (repeat (first | exact Imp.refl | exact Imp.nil | (apply Imp.pick; (focus ((repeat constructor); done))) | refine Imp.drop ?_))
  rename_i x5
  have h0 := of_decide_eq_true x5.2
  rw [if_neg (fun c => c h0)] at hR
  obtain ⟨k, rfl⟩ := Int.eq_ofNat_of_zero_le (show 0 ≤ t by omega)
  rw [Int.toNat_natCast] at hR
  refine e_rfactS (.there .here) fun hat3 => ?_
  refine e_loop2 (fun m2 x y => [ex fun i : Nat => ex fun q : Option Addr × Nat => all [pu (m2 + i = k ∧ y = .int .i64 (i : Int) ∧ x = .slice q.1 (acc.length + i) q.2), Sl 1 3 q.1 q.2 (acc.length + i) ((acc ++ List.replicate i v).map I), IsS p b a3 out most, IsDec pd l]] ++ F) k ?_ ?_
  · refine .ex 0 (.ex (qa, qc) (.all ?_))
    (try simp only [List.cons_append, List.nil_append, -eq_self])
    refine .pu ⟨by omega, rfl, rfl⟩ ?_
    rw [List.replicate_zero, List.append_nil]
    exact .pick (by (repeat constructor)) (.pick (by (repeat constructor)) (.pick (by (repeat constructor)) .refl))
  intro m2 ds3 x y
  (try simp only [List.cons_append, List.nil_append, -eq_self])
  refine e_ex Pick.here fun i => e_ex Pick.here fun q => e_all Pick.here ?_
  obtain ⟨qa2, qc2⟩ := q
  (try simp only [List.cons_append, List.nil_append, -eq_self])
  refine e_pu Pick.here fun hi => ?_
  obtain ⟨hmi, rfl, rfl⟩ := hi
  (try dsimp only)
  (refine e_ask v_lss Imp.nil (fun h => ?_) (fun h => ?_))
  · refine e_condT ?_
    refine e_bsl1 fun g => ?_
    refine e_app (m := 1) (news := [I v]) (by (repeat constructor)) (src_pt (e' := 3) (by kernel_rfl) .here (by rfl) (I_one (l := [v]))) (by omega) (by omega) fun a' c' => ?_
    (((with_reducible refine e_opN (v_add ?h1 ?h2) Imp.nil ?_); (case h1 => omega); (case h2 => omega)))
    refine e_next2 (m2 - 1) (by omega) (.ex (i + 1) (.ex (a', c') (.all ?_)))
    (try simp only [List.cons_append, List.nil_append, -eq_self])
    refine .pu ⟨by omega, congrArg (Value.int .i64) (by omega), by rw [Nat.add_assoc]⟩ ?_
    rw [List.replicate_succ', ← List.append_assoc, List.map_append (l₁ := acc ++ List.replicate i v), ← Nat.add_assoc]
    exact .pick (by (repeat constructor)) (.pick (by (repeat constructor)) (.pick (by (repeat constructor)) (by (repeat (first | exact Imp.refl | exact Imp.nil | (apply Imp.pick; (focus ((repeat constructor); done))) | refine Imp.drop ?_)))))
  · have : i = k := by omega
    subst this
    refine e_condF ?_
    refine e_next1 m (by omega) (.ex a3 (.ex (acc ++ List.replicate i v) (.ex (qa2, qc2) (.all ?_))))
    (try simp only [List.cons_append, List.nil_append, -eq_self])
    have hle : (acc ++ List.replicate i v).length = acc.length + i := by rw [List.length_append, List.length_replicate]
    rw [hle]
    refine .pu ⟨by omega, hat3, hR, by omega, mem_rep h3 ⟨v0, v1⟩, rfl⟩ ?_
    exact .pick (by (repeat constructor)) (.pick (by (repeat constructor)) (.pick (by (repeat constructor)) .refl))
end Go.Proofs.Ytehfblkpbadikaa.IF
/-! A block with codes of its own. No conditions but those that each names. -/
namespace Go.Proofs.Ytehfblkpbadikaa.Sl
open Go Go.Proofs Go.RowKit Go.Proofs.Ytehfblkpbadikaa.Sh
theorem v_slAh {P : Program} {W : World} {t e : TypeId} {s len : Nat} {g : Nat} {q : IntKind} {j : Int} (h : Nat) [ht : ArrT P t len e s] (hj : j = (h : Int)) (hl : h ≤ len) (h0 : 0 < len) : RunV P W [] (sSl t (.pointer (some ⟨g, 0, none⟩)) none (some (.int q j)) none) (.slice (some ⟨g, 0, none⟩) h len) := fun w _ => by
  have hne : len ≠ 0 := by omega
  simp [sSl, Instr.sliceAt, Instr.sliceBounds, ht.ut, ht.size, run_bound h hj hl, Instr.sureAddr, hne, Addr.add]
end Go.Proofs.Ytehfblkpbadikaa.Sl
namespace Go.Proofs.Ytehfblkpbadikaa.IF
open Go Go.Proofs Go.RowKit Go.Proofs.Ytehfblkpbadikaa.Sh Go.Proofs.Ytehfblkpbadikaa.Sl Go.Proofs.Ytehfblkpbadikaa.T Go.Proofs.Ytehfblkpbadikaa.HM Go.Proofs.Ytehfblkpbadikaa.HF Go.Proofs.Ytehfblkpbadikaa.B Go.Proofs.Ytehfblkpbadikaa.M
def ordL : List Nat := [16, 17, 18, 0, 8, 7, 9, 6, 10, 5, 11, 4, 12, 3, 13, 2, 14, 1, 15]
/-- the lengths of the code of lengths -/
def mCl (b : List UInt8) : List Nat → Nat → List Int → Except Int (Nat × List Int)
  | [], at_, l => .ok (at_, l)
  | k :: ks, at_, l => if takR b at_ 3 ≠ 0 then .error (takR b at_ 3) else mCl b ks (takAt b at_ 3) (l.set k (takN b at_ 3 : Int))
theorem mCl_len (b : List UInt8) : ∀ (ks : List Nat) {at_ a : Nat} {l r : List Int}, mCl b ks at_ l = .ok (a, r) → r.length = l.length
  | [], at_, a, l, r, h => by
    have := Prod.mk.inj (Except.ok.inj h)
    rw [← this.2]
  | k :: ks, at_, a, l, r, h => by
    rw [mCl] at h
    have := mCl_len b ks (ite_err h).2
    rw [this, List.length_set]
def mBoth (b : List UInt8) (most : Int) (h n : Nat) (l : List Int) (at_ : Nat) (out : List UInt8) : Except Int (Nat × List UInt8) :=
  match mRw l b n at_ with
  | .error e => .error e
  | .ok (a5, r) =>
    if ¬ (0 < r.getD 256 0 ∧ enoughB (r.take h) = true ∧ enoughB (r.drop h) = true) then .error 30 else
    if ¬ okL (r.take h) then .error 30 else
    if ¬ okL (r.drop h) then .error 30 else mS (r.take h) (r.drop h) b most a5 out
def mDyn (b : List UInt8) (most : Int) (at_ : Nat) (out : List UInt8) : Except Int (Nat × List UInt8) :=
  if takR b at_ 5 ≠ 0 then .error (takR b at_ 5) else
  if takR b (takAt b at_ 5) 5 ≠ 0 then .error (takR b (takAt b at_ 5) 5) else
  if takR b (takAt b (takAt b at_ 5) 5) 4 ≠ 0 then .error (takR b (takAt b (takAt b at_ 5) 5) 4) else
  if ¬ (takN b at_ 5 ≤ 29 ∧ takN b (takAt b at_ 5) 5 ≤ 29) then .error 31 else
  match mCl b (ordL.take (takN b (takAt b (takAt b at_ 5) 5) 4 + 4)) (takAt b (takAt b (takAt b at_ 5) 5) 4) (List.replicate 19 0) with
  | .error e => .error e
  | .ok (a4, l) => if ¬ fullB l = true then .error 30 else mBoth b most (takN b at_ 5 + 257) (takN b at_ 5 + 257 + takN b (takAt b at_ 5) 5 + 1) l a4 out
theorem takN_lt {b : List UInt8} {at_ : Nat} {k : Nat} : takN b at_ k < 2 ^ k := by
  unfold takN
  split
  · have := tak_lt (ub b) at_ ((k : Int)).toNat
    rwa [Int.toNat_natCast] at this
  · exact Nat.pow_pos (by omega)
theorem dynamic {W : World} {p at_ : Nat} {b out : List UInt8} {most : Int} (h1 : 0 ≤ most ∧ most ≤ 1048576) (h2 : (out.length : Int) ≤ most) :
    CnP Try.prog 69 [.pointer (some ⟨p, 0, none⟩)] W [IsS p b at_ out most] (fun _ : Ok (mDyn b most at_ out) => .tuple #[]) (fun x => [IsS p b x.1.1 x.1.2 most]) (fun y : Er (mDyn b most at_ out) => pn y.1) (fun _ => []) := by
  (refine S.inflate_stream_dynamic_cnP fun F => ?_; unfold S.inflate_stream_dynamic; simp only [List.cons_append, List.nil_append, -eq_self])
  obtain ⟨R, hR⟩ : ∃ R, R = mDyn b most at_ out := ⟨_, rfl⟩
  rw [← hR]
  unfold mDyn at hR
  (refine' e_callP (stake) ?hp (fun _ => ?_) (fun _ => ?_); (case hp => (repeat (first | exact Picks.nil | (apply Picks.cons; (focus (repeat constructor)))))); (all_goals (try simp only [List.cons_append, List.nil_append, Bool.not_true, Bool.not_false, -eq_self])))
  rotate_left
  · rename_i y
    rw [if_pos y.2] at hR
    refine e_pan ⟨_, hR⟩ rfl ?_
    (repeat (first | exact Imp.refl | exact Imp.nil | (apply Imp.pick; (focus ((repeat constructor); done))) | refine Imp.drop ?_))
  rename_i x1
  rw [if_neg (fun c => c x1.2)] at hR
  have hh := takN_lt (b := b) (at_ := at_) (k := 5)
  obtain ⟨nh, hhE⟩ : ∃ h, h = takN b at_ 5 := ⟨_, rfl⟩
  obtain ⟨a1, ha1⟩ : ∃ a, a = takAt b at_ 5 := ⟨_, rfl⟩
  rw [← hhE, ← ha1] at hR
  rw [show (takN b at_ 5) = nh from hhE.symm, ← ha1]
  rw [show takN b at_ ((5 : Nat) : Int) = nh from hhE.symm] at hh
  (refine' e_callP (stake) ?hp (fun _ => ?_) (fun _ => ?_); (case hp => (repeat (first | exact Picks.nil | (apply Picks.cons; (focus (repeat constructor)))))); (all_goals (try simp only [List.cons_append, List.nil_append, Bool.not_true, Bool.not_false, -eq_self])))
  rotate_left
  · rename_i y
    rw [if_pos y.2] at hR
    refine e_pan ⟨_, hR⟩ rfl ?_
    (repeat (first | exact Imp.refl | exact Imp.nil | (apply Imp.pick; (focus ((repeat constructor); done))) | refine Imp.drop ?_))
  rename_i x2
  rw [if_neg (fun c => c x2.2)] at hR
  have hd := takN_lt (b := b) (at_ := a1) (k := 5)
  obtain ⟨nd, hdE⟩ : ∃ h, h = takN b a1 5 := ⟨_, rfl⟩
  obtain ⟨a2, ha2⟩ : ∃ a, a = takAt b a1 5 := ⟨_, rfl⟩
  rw [← hdE, ← ha2] at hR
  rw [show (takN b a1 5) = nd from hdE.symm, ← ha2]
  rw [show takN b a1 ((5 : Nat) : Int) = nd from hdE.symm] at hd
  (refine' e_callP (stake) ?hp (fun _ => ?_) (fun _ => ?_); (case hp => (repeat (first | exact Picks.nil | (apply Picks.cons; (focus (repeat constructor)))))); (all_goals (try simp only [List.cons_append, List.nil_append, Bool.not_true, Bool.not_false, -eq_self])))
  rotate_left
  · rename_i y
    rw [if_pos y.2] at hR
    refine e_pan ⟨_, hR⟩ rfl ?_
    (repeat (first | exact Imp.refl | exact Imp.nil | (apply Imp.pick; (focus ((repeat constructor); done))) | refine Imp.drop ?_))
  rename_i x3
  rw [if_neg (fun c => c x3.2)] at hR
  have hc := takN_lt (b := b) (at_ := a2) (k := 4)
  obtain ⟨c, hcE⟩ : ∃ h, h = takN b a2 4 := ⟨_, rfl⟩
  obtain ⟨a3, ha3⟩ : ∃ a, a = takAt b a2 4 := ⟨_, rfl⟩
  rw [← hcE, ← ha3] at hR
  rw [show (takN b a2 4) = c from hcE.symm, ← ha3]
  rw [show takN b a2 ((4 : Nat) : Int) = c from hcE.symm] at hc
  have hop : (out.length : Int) ≤ 1048576 := by omega
  refine e_opN v_leq Imp.nil ?_
  by_cases hq : nh ≤ 29 ∧ nd ≤ 29
  rotate_left
  · rw [if_pos hq] at hR
    by_cases hq1 : nh ≤ 29
    · rw [decide_eq_true (by omega)]
      ((with_reducible refine e_gdT ?_)); ((with_reducible refine e_gdT ?_))
      refine e_opN v_leq Imp.nil ?_
      rw [decide_eq_false (by omega)]
      (((with_reducible refine e_opN v_pickT Imp.nil ?_)))
      (refine' e_callP (demand) ?hp (fun _ => ?_) (fun _ => ?_); (case hp => (repeat (first | exact Picks.nil | (apply Picks.cons; (focus (repeat constructor)))))); (all_goals (try simp only [List.cons_append, List.nil_append, Bool.not_true, Bool.not_false, -eq_self])))
      · rename_i x
        exact absurd x.2 (by decide)
      · refine e_pan ⟨_, hR⟩ rfl ?_
        (repeat (first | exact Imp.refl | exact Imp.nil | (apply Imp.pick; (focus ((repeat constructor); done))) | refine Imp.drop ?_))
    · rw [decide_eq_false (by omega)]
      ((with_reducible refine e_gdF2 ?_)); ((with_reducible refine e_gdF2 ?_)); (((with_reducible refine e_opN v_pickF Imp.nil ?_)))
      (refine' e_callP (demand) ?hp (fun _ => ?_) (fun _ => ?_); (case hp => (repeat (first | exact Picks.nil | (apply Picks.cons; (focus (repeat constructor)))))); (all_goals (try simp only [List.cons_append, List.nil_append, Bool.not_true, Bool.not_false, -eq_self])))
      · rename_i x
        exact absurd x.2 (by decide)
      · refine e_pan ⟨_, hR⟩ rfl ?_
        (repeat (first | exact Imp.refl | exact Imp.nil | (apply Imp.pick; (focus ((repeat constructor); done))) | refine Imp.drop ?_))
  rw [if_neg (fun c => c hq)] at hR
  obtain ⟨hq1, hq2⟩ := hq
  rw [decide_eq_true (by omega)]
  ((with_reducible refine e_gdT ?_)); ((with_reducible refine e_gdT ?_))
  refine e_opN v_leq Imp.nil ?_
  rw [decide_eq_true (by omega)]
  (((with_reducible refine e_opN v_pickT Imp.nil ?_)))
  (refine' e_callP (demand) ?hp (fun _ => ?_) (fun _ => ?_); (case hp => (repeat (first | exact Picks.nil | (apply Picks.cons; (focus (repeat constructor)))))); (all_goals (try simp only [List.cons_append, List.nil_append, Bool.not_true, Bool.not_false, -eq_self])))
  rotate_left
  · rename_i y
    exact absurd y.2 (by decide)
  refine e_mksl 19 19 (by rfl) (by rfl) (by omega) (by omega) (by decide) fun gl => ?_
  (((with_reducible refine e_opN v_rv Imp.nil ?_))); (((with_reducible refine e_newA fun g => ?_))); (((with_reducible refine' e_stAgg ?hp ?hn ?hv ?h1 ?_); (case hp => (repeat constructor)); (case hn => rfl); (case hv => rfl); (case h1 => simp [Value.oneCell']))); (((with_reducible refine e_opN (v_add ?h1 ?h2) Imp.nil ?_); (case h1 => omega); (case h2 => omega)))
  refine e_opN (v_slAh (c + 4) (by omega) (by omega) (by omega)) Imp.nil ?_
  obtain ⟨K, hK⟩ : ∃ K, K = c + 4 := ⟨_, rfl⟩
  rw [← hK] at hR ⊢
  have hK19 : K ≤ 19 := by omega
  obtain ⟨M, hM⟩ : ∃ M, M = mCl b (ordL.take K) a3 (List.replicate 19 0) := ⟨_, rfl⟩
  rw [← hM] at hR
  (((with_reducible refine e_opN v_len Imp.nil ?_)))
  refine e_loop1 (fun m y => [ex fun i : Nat => ex fun at1 : Nat => ex fun l : List Int => all [pu (m + i = K ∧ y = .int .i64 (i : Int) ∧ M = mCl b ((ordL.take K).drop i) at1 l ∧ l.length = 19), pt g (.cells #[(.int .i64 16), (.int .i64 17), (.int .i64 18), (.int .i64 0), (.int .i64 8), (.int .i64 7), (.int .i64 9), (.int .i64 6), (.int .i64 10), (.int .i64 5), (.int .i64 11), (.int .i64 4), (.int .i64 12), (.int .i64 3), (.int .i64 13), (.int .i64 2), (.int .i64 14), (.int .i64 1), (.int .i64 15)] 148 (0, 0)), Sl 1 3 (some ⟨gl, 0, none⟩) 19 19 (l.map I), IsS p b at1 out most]] ++ F) K ?_ ?_
  · refine .ex 0 (.ex a3 (.ex (List.replicate 19 0) (.all ?_)))
    (try simp only [List.cons_append, List.nil_append, -eq_self])
    refine .pu ⟨by omega, rfl, hM, by simp⟩ ?_
    rw [List.map_replicate]
    exact .pick (by (repeat constructor)) (.pick (by (repeat constructor)) (.pick (by (repeat constructor)) .refl))
  clear hM
  intro m ds y
  (try simp only [List.cons_append, List.nil_append, -eq_self])
  refine e_ex Pick.here fun i => e_ex Pick.here fun at1 => e_ex Pick.here fun l => e_all Pick.here ?_
  (try simp only [List.cons_append, List.nil_append, -eq_self])
  refine e_pu Pick.here fun hi => ?_
  obtain ⟨hmi, rfl, hM, hl19⟩ := hi
  (refine e_ask v_lss Imp.nil (fun h => ?_) (fun h => ?_))
  · have hiK : i < K := by omega
    have hog : (ordL.take K).drop i = ordL.getD i 0 :: (ordL.take K).drop (i + 1) := by
      have hlen : i < (ordL.take K).length := by rw [List.length_take, show ordL.length = 19 from rfl]; omega
      rw [List.drop_eq_getElem_cons hlen, List.getElem_take, List.getD_eq_getElem?_getD, List.getElem?_eq_getElem]
      rfl
    rw [hog, mCl] at hM
    obtain ⟨o, ho⟩ : ∃ o, o = ordL.getD i 0 := ⟨_, rfl⟩
    rw [← ho] at hM
    have hov : (#[(.int .i64 16), (.int .i64 17), (.int .i64 18), (.int .i64 0), (.int .i64 8), (.int .i64 7), (.int .i64 9), (.int .i64 6), (.int .i64 10), (.int .i64 5), (.int .i64 11), (.int .i64 4), (.int .i64 12), (.int .i64 3), (.int .i64 13), (.int .i64 2), (.int .i64 14), (.int .i64 1), (.int .i64 15)] : Array Value)[0 + i]? = some (.int .i64 (o : Int)) ∧ o < 19 := by
      rw [ho]
      have : i = 0 ∨ i = 1 ∨ i = 2 ∨ i = 3 ∨ i = 4 ∨ i = 5 ∨ i = 6 ∨ i = 7 ∨ i = 8 ∨ i = 9 ∨ i = 10 ∨ i = 11 ∨ i = 12 ∨ i = 13 ∨ i = 14 ∨ i = 15 ∨ i = 16 ∨ i = 17 ∨ i = 18 := by omega
      rcases this with rfl | rfl | rfl | rfl | rfl | rfl | rfl | rfl | rfl | rfl | rfl | rfl | rfl | rfl | rfl | rfl | rfl | rfl | rfl <;> exact ⟨rfl, by decide⟩
    refine e_condT ?_
    refine e_opN (v_ia1 i (by rfl) hiK) Imp.nil ?_
    refine e_opN (v_ld hov.1) (.pick (by (repeat constructor)) .nil) ?_
    (refine' e_callP (stake) ?hp (fun _ => ?_) (fun _ => ?_); (case hp => (repeat (first | exact Picks.nil | (apply Picks.cons; (focus (repeat constructor)))))); (all_goals (try simp only [List.cons_append, List.nil_append, Bool.not_true, Bool.not_false, -eq_self])))
    rotate_left
    · rename_i y
      rw [if_pos y.2] at hM
      rw [hM] at hR
      refine e_pan ⟨_, hR⟩ rfl ?_
      (repeat (first | exact Imp.refl | exact Imp.nil | (apply Imp.pick; (focus ((repeat constructor); done))) | refine Imp.drop ?_))
    rename_i x4
    rw [if_neg (fun c => c x4.2)] at hM
    refine e_opN (v_ia1 o (by rfl) (by omega)) Imp.nil ?_
    rw [Nat.zero_add]
    refine e_stSl (by (repeat constructor)) (by rw [List.length_map]; omega) ?_
    (((with_reducible refine e_opN (v_add ?h1 ?h2) Imp.nil ?_); (case h1 => omega); (case h2 => omega)))
    refine e_next1 (m - 1) (by omega) (.ex (i + 1) (.ex (takAt b at1 3) (.ex (l.set o (takN b at1 3 : Int)) (.all ?_))))
    (try simp only [List.cons_append, List.nil_append, -eq_self])
    refine .pu ⟨by omega, rfl, hM, by rw [List.length_set]; omega⟩ ?_
    rw [List.map_set]
    exact .pick (by (repeat constructor)) (.pick (by (repeat constructor)) (.pick (by (repeat constructor)) .refl))
  have hiK : i = K := by omega
  subst hiK
  rw [List.drop_eq_nil_of_le (by rw [List.length_take]; omega), mCl] at hM
  rw [hM] at hR
  simp only at hR
  refine e_condF ?_
  have hsl : RdB W (Sl 1 3 (some ⟨gl, 0, none⟩) 19 19 (l.map I)) (some ⟨gl, 0, none⟩) l.length (l.map I) := by
    rw [hl19]; exact rd_sl (by rw [List.length_map, hl19]) (fun _ => ⟨gl, rfl⟩)
  rw [show (Value.slice (some ⟨gl, 0, none⟩) 19 19) = .slice (some ⟨gl, 0, none⟩) l.length 19 by rw [hl19]]
  (refine' e_call (full hsl (by omega)) ?hp fun _ => ?_; (case hp => (repeat (first | exact Picks.nil | (apply Picks.cons; (focus (repeat constructor)))))); (try simp only [List.cons_append, List.nil_append, Bool.not_true, Bool.not_false]))
  (refine' e_callP (demand) ?hp (fun _ => ?_) (fun _ => ?_); (case hp => (repeat (first | exact Picks.nil | (apply Picks.cons; (focus (repeat constructor)))))); (all_goals (try simp only [List.cons_append, List.nil_append, Bool.not_true, Bool.not_false, -eq_self])))
  rotate_left
  · rename_i y
    rw [if_pos (by rw [y.2]; decide)] at hR
    refine e_pan ⟨_, hR⟩ rfl ?_
    (repeat (first | exact Imp.refl | exact Imp.nil | (apply Imp.pick; (focus ((repeat constructor); done))) | refine Imp.drop ?_))
  rename_i x5
  rw [if_neg (fun c => c x5.2)] at hR
  (refine' e_callP (decoder hsl (by omega)) ?hp (fun _ => ?_) (fun _ => ?_); (case hp => (repeat (first | exact Picks.nil | (apply Picks.cons; (focus (repeat constructor)))))); (all_goals (try simp only [List.cons_append, List.nil_append, Bool.not_true, Bool.not_false, -eq_self])))
  rotate_left
  · rename_i y
    have hf := x5.2
    unfold fullB at hf
    exact absurd (of_decide_eq_true (Bool.and_eq_true _ _ ▸ hf).1) y.2
  rename_i x6
  (((with_reducible refine e_opN (v_add ?h1 ?h2) Imp.nil ?_); (case h1 => omega); (case h2 => omega))); (((with_reducible refine e_opN (v_add ?h1 ?h2) Imp.nil ?_); (case h1 => omega); (case h2 => omega))); (((with_reducible refine e_opN (v_add ?h1 ?h2) Imp.nil ?_); (case h1 => omega); (case h2 => omega)))
  rw [show (nh : Int) + 257 + nd + 1 = ((nh + 257 + nd + 1 : Nat) : Int) by omega]
  unfold mBoth at hR
  (refine' e_callP (row (l := l) (out := out) (by omega) (by omega) (by omega)) ?hp (fun _ => ?_) (fun _ => ?_); (case hp => (repeat (first | exact Picks.nil | (apply Picks.cons; (focus (repeat constructor)))))); (all_goals (try simp only [List.cons_append, List.nil_append, Bool.not_true, Bool.not_false, -eq_self])))
  rotate_left
  · rename_i y
    rw [y.2] at hR
    refine e_pan ⟨_, hR⟩ rfl ?_
    (repeat (first | exact Imp.refl | exact Imp.nil | (apply Imp.pick; (focus ((repeat constructor); done))) | refine Imp.drop ?_))
  rename_i q
  obtain ⟨⟨⟨a5, r⟩, hrow⟩, ra, rc⟩ := q
  rw [hrow] at hR
  simp only at hR
  (try dsimp only)
  obtain ⟨hrl, hrb⟩ := mRow_ok (B := 320) (by omega) _ hrow (by simp) (by simp)
  obtain ⟨n, hn⟩ : ∃ n, n = nh + 257 + nd + 1 := ⟨_, rfl⟩
  obtain ⟨k, hk⟩ : ∃ n, n = nh + 257 := ⟨_, rfl⟩
  rw [← hk] at hR
  rw [← hn] at hrl ⊢
  refine e_slfacts (.there .here) fun f1 f2 f3 f4 => ?_
  obtain ⟨gr, rfl⟩ := f4 (by omega)
  have f4 : 0 < n → ∃ g', some (⟨gr, 0, none⟩ : Addr) = some ⟨g', 0, none⟩ := fun _ => ⟨gr, rfl⟩
  have hrd := rd_sl (W := W) (e := 3) (cap := rc) (cs := r.map I) (n := n) (by rw [List.length_map, hrl]) f4
  have hA0 : Option.map (fun x : Addr => x.add (0 * 1)) (some ⟨gr, 0, none⟩) = some ⟨gr, 0, none⟩ := by simp [addr_add]
  have hAk : Option.map (fun x : Addr => x.add (k * 1)) (some ⟨gr, 0, none⟩) = some ⟨gr, k, none⟩ := by simp [addr_add]
  have hla : (r.take k).length = k := by rw [List.length_take]; omega
  have hlb : (r.drop k).length = n - k := by rw [List.length_drop, hrl]
  have hRa := hrd.cut (l := 0) (h := k) (cap := rc) (by omega) (by omega) f2
  rw [if_neg (by omega), hA0, List.drop_zero, ← List.map_take, Nat.sub_zero] at hRa
  have hRb := hrd.cut (l := k) (h := n) (cap := rc) (by omega) (by omega) f2
  rw [if_neg (by omega), hAk, List.take_of_length_le (by rw [List.length_drop, List.length_map]; omega), ← List.map_drop] at hRb
  have hba : ∀ x ∈ r.take k, x ≤ 1048576 := fun x hx => by have := (hrb x (List.mem_of_mem_take hx)).2; omega
  have hbb : ∀ x ∈ r.drop k, x ≤ 1048576 := fun x hx => by have := (hrb x (List.mem_of_mem_drop hx)).2; omega
  ((with_reducible refine e_drS ?_)); (((with_reducible refine e_stS (v_add ?h1 ?h2) Imp.nil ?_); (case h1 => omega); (case h2 => omega)))
  rw [show (nh : Int) + 257 = (k : Int) by omega]
  refine e_stS (v_slh k (by rfl) (by omega)) Imp.nil ?_
  rw [if_neg (by omega), hA0]
  (((with_reducible refine e_stS (v_add ?h1 ?h2) Imp.nil ?_); (case h1 => omega); (case h2 => omega)))
  rw [show (nh : Int) + 257 = (k : Int) by omega]
  refine e_stS (v_sll k (by rfl) (by omega)) Imp.nil ?_
  rw [if_neg (by omega), hAk]
  have h256 : 256 < r.length := by omega
  refine e_opN (v_ia1 256 (by rfl) (by omega)) Imp.nil ?_
  refine e_opN (v_ldSl (v := I r[256]) (by rw [Nat.zero_add]; exact I_get h256)) (.pick (by (repeat constructor)) .nil) ?_
  refine e_opN v_gtr Imp.nil ?_
  have hg : r.getD 256 0 = r[256] := by rw [List.getD_eq_getElem?_getD, List.getElem?_eq_getElem h256]; rfl
  rw [hg] at hR
  rw [← hlb] at hRb
  have hlbn := hlb
  rw [← hlb]
  obtain ⟨la, hlaE⟩ : ∃ la, la = r.take k := ⟨_, rfl⟩
  obtain ⟨lb, hlbE⟩ : ∃ lb, lb = r.drop k := ⟨_, rfl⟩
  rw [← hlaE] at hR hRa hba hla
  rw [← hlbE] at hR hRb hbb hlbn ⊢
  rw [← hla] at hRa hRb ⊢
  have fin0 : ∀ (L : List HP) (kk : Value → WP), Imp W L F → ¬ ((0 : Int) < r[256] ∧ enoughB la = true ∧ enoughB lb = true) → Ent W L (opN Try.prog (sCall (fn 83) [.bool false, .int .i64 30]) (fun ch w => ∃ y : Er R, ch = pn y.1 ∧ sat W F w) kk) := by
    intro L kk hi hn
    rw [if_pos hn] at hR
    refine e_imp hi ?_
    refine e_callP (A := []) (F := F) demand .nil (fun x => ?_) (fun y => ?_)
    · exact absurd x.2 (by decide)
    · refine e_pan ⟨_, hR⟩ rfl ?_
      exact .refl
  by_cases hc1 : 0 < r[256]
  rotate_left
  · rw [decide_eq_false (by omega)]
    ((with_reducible refine e_gdF2 ?_)); ((with_reducible refine e_gdF2 ?_)); (((with_reducible refine e_opN v_pickF Imp.nil ?_))); ((with_reducible refine e_gdF2 ?_)); ((with_reducible refine e_gdF2 ?_)); (((with_reducible refine e_opN v_pickF Imp.nil ?_)))
    exact fin0 _ _ (by (repeat (first | exact Imp.refl | exact Imp.nil | (apply Imp.pick; (focus ((repeat constructor); done))) | refine Imp.drop ?_))) (fun c => hc1 c.1)
  rw [decide_eq_true (by omega)]
  ((with_reducible refine e_gdT ?_)); ((with_reducible refine e_gdT ?_))
  (refine' e_call (enough hRa (by omega) hba) ?hp fun _ => ?_; (case hp => (repeat (first | exact Picks.nil | (apply Picks.cons; (focus (repeat constructor)))))); (try simp only [List.cons_append, List.nil_append, Bool.not_true, Bool.not_false]))
  by_cases hc2 : enoughB la = true
  rotate_left
  · rw [show enoughB la = false by simpa using hc2]
    (((with_reducible refine e_opN v_pickT Imp.nil ?_))); ((with_reducible refine e_gdF2 ?_)); ((with_reducible refine e_gdF2 ?_)); (((with_reducible refine e_opN v_pickF Imp.nil ?_)))
    exact fin0 _ _ (by (repeat (first | exact Imp.refl | exact Imp.nil | (apply Imp.pick; (focus ((repeat constructor); done))) | refine Imp.drop ?_))) (fun c => hc2 c.2.1)
  rw [hc2]
  (((with_reducible refine e_opN v_pickT Imp.nil ?_))); ((with_reducible refine e_gdT ?_)); ((with_reducible refine e_gdT ?_))
  (refine' e_call (enough hRb (by omega) hbb) ?hp fun _ => ?_; (case hp => (repeat (first | exact Picks.nil | (apply Picks.cons; (focus (repeat constructor)))))); (try simp only [List.cons_append, List.nil_append, Bool.not_true, Bool.not_false]))
  by_cases hc3 : enoughB lb = true
  rotate_left
  · rw [show enoughB lb = false by simpa using hc3]
    (((with_reducible refine e_opN v_pickT Imp.nil ?_)))
    exact fin0 _ _ (by (repeat (first | exact Imp.refl | exact Imp.nil | (apply Imp.pick; (focus ((repeat constructor); done))) | refine Imp.drop ?_))) (fun c => hc3 c.2.2)
  rw [hc3]
  (((with_reducible refine e_opN v_pickT Imp.nil ?_)))
  (refine' e_callP (demand) ?hp (fun _ => ?_) (fun _ => ?_); (case hp => (repeat (first | exact Picks.nil | (apply Picks.cons; (focus (repeat constructor)))))); (all_goals (try simp only [List.cons_append, List.nil_append, Bool.not_true, Bool.not_false, -eq_self])))
  rotate_left
  · rename_i y
    exact absurd y.2 (by decide)
  rw [if_neg (fun c => c ⟨hc1, hc2, hc3⟩)] at hR
  (refine' e_callP (decoder hRa (by omega)) ?hp (fun _ => ?_) (fun _ => ?_); (case hp => (repeat (first | exact Picks.nil | (apply Picks.cons; (focus (repeat constructor)))))); (all_goals (try simp only [List.cons_append, List.nil_append, Bool.not_true, Bool.not_false, -eq_self])))
  rotate_left
  · rename_i y
    rw [if_pos y.2] at hR
    refine e_pan ⟨_, hR⟩ rfl ?_
    (repeat (first | exact Imp.refl | exact Imp.nil | (apply Imp.pick; (focus ((repeat constructor); done))) | refine Imp.drop ?_))
  rename_i x8
  rw [if_neg (fun c => c x8.2)] at hR
  (refine' e_callP (decoder hRb (by omega)) ?hp (fun _ => ?_) (fun _ => ?_); (case hp => (repeat (first | exact Picks.nil | (apply Picks.cons; (focus (repeat constructor)))))); (all_goals (try simp only [List.cons_append, List.nil_append, Bool.not_true, Bool.not_false, -eq_self])))
  rotate_left
  · rename_i y
    rw [if_pos y.2] at hR
    refine e_pan ⟨_, hR⟩ rfl ?_
    (repeat (first | exact Imp.refl | exact Imp.nil | (apply Imp.pick; (focus ((repeat constructor); done))) | refine Imp.drop ?_))
  rename_i x9
  rw [if_neg (fun c => c x9.2)] at hR
  rw [hR]
  (refine' e_callP (symbols (by have := x8.2.len; omega) (by have := x9.2.len; omega) h1 h2) ?hp (fun _ => ?_) (fun _ => ?_); (case hp => (repeat (first | exact Picks.nil | (apply Picks.cons; (focus (repeat constructor)))))); (all_goals (try simp only [List.cons_append, List.nil_append, Bool.not_true, Bool.not_false, -eq_self])))
  · rename_i x
    (first | refine e_ret (x) rfl ?_ | refine e_retT (x) ?_)
    (repeat (first | exact Imp.refl | exact Imp.nil | (apply Imp.pick; (focus ((repeat constructor); done))) | refine Imp.drop ?_))
  · rename_i y
    refine e_pan y rfl ?_
    (repeat (first | exact Imp.refl | exact Imp.nil | (apply Imp.pick; (focus ((repeat constructor); done))) | refine Imp.drop ?_))
end Go.Proofs.Ytehfblkpbadikaa.IF
/-! Interfaces that hold a named number: whether nil, what they hold. No conditions but those that each names. -/
namespace Go.Proofs.Ytehfblkpbadikaa.Sl
open Go Go.Proofs.Ytehfblkpbadikaa.Sh
variable {P : Program} {W : World}
instance {f : FuncId} : OC (fn f) := ⟨rfl⟩
theorem v_neIf {t u : TypeId} {ox oy : Operand} {x : Value} (h : P.underlying t = some (.interface (P.methodsAt t))) : RunV P W [] (sEq .neq t ox oy (.iface u x) .nilIface) (.bool true) := fun w _ => by
  simp [sEq, sv, eqGuard, run_neq_held_nil w t u x h]
theorem v_neIf0 {t : TypeId} {ox : Operand} {c : Value} (h : P.underlying t = some (.interface (P.methodsAt t))) : RunV P W [] (sEq .neq t ox (.const c) .nilIface .nilIface) (.bool false) := fun w _ => by
  simp [sEq, sv, eqGuard, run_neq_nil_nil w t h]
theorem v_ta {t a : TypeId} {k : IntKind} {v : Value} (h : P.underlying a = some (.int k)) : RunV P W [] (sTA (.iface a v) t a false) v := fun w _ => by
  simp [sTA, Instr.typeAssert, run_underlying h]
end Go.Proofs.Ytehfblkpbadikaa.Sl
/-! A stream's blocks, one behind the other; what is given up is told. No conditions but those that each names. -/
namespace Go.Proofs.Ytehfblkpbadikaa.IF
open Go Go.Proofs Go.RowKit Go.Proofs.Ytehfblkpbadikaa.Sh Go.Proofs.Ytehfblkpbadikaa.Sl Go.Proofs.Ytehfblkpbadikaa.T Go.Proofs.Ytehfblkpbadikaa.HM Go.Proofs.Ytehfblkpbadikaa.HF Go.Proofs.Ytehfblkpbadikaa.B Go.Proofs.Ytehfblkpbadikaa.M
/-- a block of a kind -/
def mKind (k : Nat) (b : List UInt8) (most : Int) (at_ : Nat) (out : List UInt8) : Except Int (Nat × List UInt8) :=
  if k = 0 then mStored b most at_ out else if k = 1 then mS litL dstL b most at_ out else if k = 2 then mDyn b most at_ out else .error 31
theorem none_ {W : World} {p at_ : Nat} {b out : List UInt8} {most : Int} : CnP Try.prog 70 [.pointer (some ⟨p, 0, none⟩)] W [IsS p b at_ out most] (fun _ : Ok (mKind 3 b most at_ out) => .tuple #[]) (fun x => [IsS p b x.1.1 x.1.2 most]) (fun y : Er (mKind 3 b most at_ out) => pn y.1) (fun _ => []) := by
  (refine S.inflate_stream_none_cnP fun F => ?_; unfold S.inflate_stream_none; simp only [List.cons_append, List.nil_append, -eq_self])
  refine e_opN v_mkI Imp.nil ?_
  refine e_panic ?_
  refine e_pan ⟨31, rfl⟩ rfl ?_
  (repeat (first | exact Imp.refl | exact Imp.nil | (apply Imp.pick; (focus ((repeat constructor); done))) | refine Imp.drop ?_))
/-- the blocks that are left -/
def mLoop (b : List UInt8) (most : Int) : Nat → Nat → List UInt8 → List (Int × Int) → Except Int (Nat × List UInt8 × List (Int × Int))
  | 0, _, _, _ => .error 20
  | f + 1, at_, out, l =>
    if takR b at_ 1 ≠ 0 then .error (takR b at_ 1) else
    if takR b (takAt b at_ 1) 2 ≠ 0 then .error (takR b (takAt b at_ 1) 2) else
    match mKind (takN b (takAt b at_ 1) 2) b most (takAt b (takAt b at_ 1) 2) out with
    | .error e => .error e
    | .ok (a, o) => if takN b at_ 1 = 0 then mLoop b most f a o (l ++ [((takN b (takAt b at_ 1) 2 : Int), (o.length : Int) - (out.length : Int))]) else .ok (a, o, l ++ [((takN b (takAt b at_ 1) 2 : Int), (o.length : Int) - (out.length : Int))])
/-- all of a stream -/
def mAll (b : List UInt8) (most : Int) : Except Int (Nat × List UInt8 × List (Int × Int)) :=
  if most < 0 ∨ 1048576 < most then .error 1 else if 1048576 < b.length then .error 6 else mLoop b most (8 * b.length + 1) 0 [] []
def aO (b : List UInt8) (most : Int) : List UInt8 := match mAll b most with
  | .ok x => x.2.1
  | .error _ => []
def aL (b : List UInt8) (most : Int) : List (Int × Int) := match mAll b most with
  | .ok x => x.2.2
  | .error _ => []
def aU (b : List UInt8) (most : Int) : Int := match mAll b most with
  | .ok x => (b.length : Int) - (8 * (b.length : Int) - x.1) / 8
  | .error _ => 0
def aE (b : List UInt8) (most : Int) : Int := match mAll b most with
  | .ok _ => 0
  | .error e => e
def blk (x : Int × Int) : List Value := [I x.1, I x.2]
theorem mStored_ok {b : List UInt8} {most : Int} {at_ : Nat} {out : List UInt8} {a : Nat} {o : List UInt8} (h : mStored b most at_ out = .ok (a, o)) (h0 : (out.length : Int) ≤ most) : (o.length : Int) ≤ most := by
  unfold mStored at h
  obtain ⟨_, h⟩ := ite_err h
  obtain ⟨_, h⟩ := ite_err h
  obtain ⟨_, h⟩ := ite_err h
  obtain ⟨c, h⟩ := ite_err h
  obtain ⟨_, h⟩ := ite_err h
  have := (Prod.mk.inj (Except.ok.inj h)).2
  rw [← this, List.length_append]
  have hle : (rrB b (takAt b (takAt b ((at_ + 7) / 8 * 8) 16) 16) (takN b ((at_ + 7) / 8 * 8) 16 : Int)).length ≤ takN b ((at_ + 7) / 8 * 8) 16 := by unfold rrB; split; (rw [List.length_take]; omega); simp
  omega
theorem mDyn_ok {b : List UInt8} {most : Int} {at_ : Nat} {out : List UInt8} {a : Nat} {o : List UInt8} (h : mDyn b most at_ out = .ok (a, o)) (h0 : (out.length : Int) ≤ most) : (o.length : Int) ≤ most := by
  unfold mDyn at h
  obtain ⟨_, h⟩ := ite_err h
  obtain ⟨_, h⟩ := ite_err h
  obtain ⟨_, h⟩ := ite_err h
  obtain ⟨_, h⟩ := ite_err h
  split at h
  · cases h
  · obtain ⟨_, h⟩ := ite_err h
    unfold mBoth at h
    split at h
    · cases h
    · obtain ⟨_, h⟩ := ite_err h
      obtain ⟨_, h⟩ := ite_err h
      obtain ⟨_, h⟩ := ite_err h
      exact mSyms_ok _ h h0
theorem mKind_ok {k : Nat} {b : List UInt8} {most : Int} {at_ : Nat} {out : List UInt8} {a : Nat} {o : List UInt8} (h : mKind k b most at_ out = .ok (a, o)) (h0 : (out.length : Int) ≤ most) : (o.length : Int) ≤ most := by
  unfold mKind at h
  split at h
  · exact mStored_ok h h0
  split at h
  · exact mSyms_ok _ h h0
  split at h
  · exact mDyn_ok h h0
  · cases h
theorem rrAt_le (b : List UInt8) (at_ : Nat) (k : Int) : at_ ≤ rrAt b at_ k := by unfold rrAt; split <;> omega
theorem mStored_at {b : List UInt8} {most : Int} {at_ : Nat} {out : List UInt8} {a : Nat} {o : List UInt8} (h : mStored b most at_ out = .ok (a, o)) : at_ ≤ a := by
  unfold mStored at h
  obtain ⟨_, h⟩ := ite_err h
  obtain ⟨_, h⟩ := ite_err h
  obtain ⟨_, h⟩ := ite_err h
  obtain ⟨c, h⟩ := ite_err h
  obtain ⟨_, h⟩ := ite_err h
  have := (Prod.mk.inj (Except.ok.inj h)).1
  have l1 := takAt_le b ((at_ + 7) / 8 * 8) 16
  have l2 := takAt_le b (takAt b ((at_ + 7) / 8 * 8) 16) 16
  have l3 := rrAt_le b (takAt b (takAt b ((at_ + 7) / 8 * 8) 16) 16) (takN b ((at_ + 7) / 8 * 8) 16 : Int)
  omega
theorem mRound_at {la lb : List Int} {b : List UInt8} {most : Int} {at_ : Nat} {out : List UInt8} {t : Bool} {a : Nat} {o : List UInt8} (h : mRound la lb b most at_ out = .ok (t, a, o)) : at_ ≤ a := by
  have ho : ∀ {t' : Bool} {a' : Nat} {o' : List UInt8}, (Except.ok (t', a', o') : Except Int (Bool × Nat × List UInt8)) = .ok (t, a, o) → a' = a := fun e => (Prod.mk.inj (Prod.mk.inj (Except.ok.inj e)).2).1
  have n1 := (nxt_at la b at_).1
  unfold mRound at h
  simp only at h
  obtain ⟨_, h⟩ := ite_err h
  by_cases c1 : (nxt la b at_).1 = 256
  · rw [if_pos c1] at h
    rw [← ho h]; exact n1
  rw [if_neg c1] at h
  by_cases c2 : (nxt la b at_).1 < 256
  · rw [if_pos c2] at h
    obtain ⟨c3, h⟩ := ite_err h
    rw [← ho h]; exact n1
  rw [if_neg c2] at h
  obtain ⟨_, h⟩ := ite_err h
  obtain ⟨_, h⟩ := ite_err h
  obtain ⟨_, h⟩ := ite_err h
  obtain ⟨_, h⟩ := ite_err h
  obtain ⟨_, h⟩ := ite_err h
  obtain ⟨_, h⟩ := ite_err h
  obtain ⟨c3, h⟩ := ite_err h
  rw [← ho h]
  have l1 := takAt_le b (nxt la b at_).2.2 (bL (nxt la b at_).1).2
  have l2 := (nxt_at lb b (takAt b (nxt la b at_).2.2 (bL (nxt la b at_).1).2)).1
  have l3 := takAt_le b (nxt lb b (takAt b (nxt la b at_).2.2 (bL (nxt la b at_).1).2)).2.2 (bD (nxt lb b (takAt b (nxt la b at_).2.2 (bL (nxt la b at_).1).2)).1).2
  exact Nat.le_trans n1 (Nat.le_trans l1 (Nat.le_trans l2 l3))
theorem mSyms_at {la lb : List Int} {b : List UInt8} {most : Int} : ∀ (f : Nat) {at_ : Nat} {out : List UInt8} {a : Nat} {o : List UInt8}, mSyms la lb b most f at_ out = .ok (a, o) → at_ ≤ a
  | 0, _, _, _, _, h => by cases h
  | f + 1, at_, out, a, o, h => by
    rw [mSyms] at h
    split at h
    · cases h
    · rename_i hr
      cases h
      exact mRound_at hr
    · rename_i hr
      exact Nat.le_trans (mRound_at hr) (mSyms_at f h)
theorem mCl_at (b : List UInt8) : ∀ (ks : List Nat) {at_ a : Nat} {l r : List Int}, mCl b ks at_ l = .ok (a, r) → at_ ≤ a
  | [], at_, a, l, r, h => by
    have := Prod.mk.inj (Except.ok.inj h)
    omega
  | k :: ks, at_, a, l, r, h => by
    rw [mCl] at h
    exact Nat.le_trans (takAt_le b at_ 3) (mCl_at b ks (ite_err h).2)
theorem mRun_at {l : List Int} {b : List UInt8} {at_ : Nat} {acc : List Int} {v t : Int} {a : Nat} (h : mRun l b at_ acc = .ok (v, t, a)) : at_ ≤ a := by
  have ho : ∀ {v' t' : Int} {a' : Nat}, (Except.ok (v', t', a') : Except Int (Int × Int × Nat)) = .ok (v, t, a) → a' = a := fun e => (Prod.mk.inj (Prod.mk.inj (Except.ok.inj e)).2).2
  have n1 := (nxt_at l b at_).1
  unfold mRun at h
  simp only at h
  obtain ⟨c0, h⟩ := ite_err h
  by_cases c1 : (nxt l b at_).1 = 16
  · rw [if_pos c1] at h
    obtain ⟨_, h⟩ := ite_err h
    obtain ⟨c2, h⟩ := ite_err h
    have hle := takAt_le b (nxt l b at_).2.2 2
    rw [← ho h]; omega
  rw [if_neg c1] at h
  by_cases c2 : (nxt l b at_).1 = 17
  · rw [if_pos c2] at h
    obtain ⟨_, h⟩ := ite_err h
    have hle := takAt_le b (nxt l b at_).2.2 3
    rw [← ho h]; omega
  rw [if_neg c2] at h
  by_cases c3 : (nxt l b at_).1 = 18
  · rw [if_pos c3] at h
    obtain ⟨_, h⟩ := ite_err h
    have hle := takAt_le b (nxt l b at_).2.2 7
    rw [← ho h]; omega
  rw [if_neg c3] at h
  rw [← ho h]; omega
theorem mRow_at {l : List Int} {b : List UInt8} {n : Nat} : ∀ (f : Nat) {at_ : Nat} {acc : List Int} {a : Nat} {r : List Int}, mRow l b n f at_ acc = .ok (a, r) → at_ ≤ a
  | 0, _, _, _, _, h => by cases h
  | f + 1, at_, acc, a, r, h => by
    rw [mRow] at h
    by_cases c : acc.length < n
    · rw [if_pos c] at h
      cases hr : mRun l b at_ acc with
      | error e => rw [hr] at h; cases h
      | ok q =>
        obtain ⟨v, t, a1⟩ := q
        rw [hr] at h
        simp only at h
        obtain ⟨c1, h⟩ := ite_err h
        exact Nat.le_trans (mRun_at hr) (mRow_at f h)
    · rw [if_neg c] at h
      have := Prod.mk.inj (Except.ok.inj h)
      omega
theorem mDyn_at {b : List UInt8} {most : Int} {at_ : Nat} {out : List UInt8} {a : Nat} {o : List UInt8} (h : mDyn b most at_ out = .ok (a, o)) : at_ ≤ a := by
  have l1 := takAt_le b at_ 5
  have l2 := takAt_le b (takAt b at_ 5) 5
  have l3 := takAt_le b (takAt b (takAt b at_ 5) 5) 4
  unfold mDyn at h
  obtain ⟨_, h⟩ := ite_err h
  obtain ⟨_, h⟩ := ite_err h
  obtain ⟨_, h⟩ := ite_err h
  obtain ⟨_, h⟩ := ite_err h
  split at h
  · cases h
  · rename_i hc
    have l4 := mCl_at b _ hc
    obtain ⟨_, h⟩ := ite_err h
    unfold mBoth at h
    split at h
    · cases h
    · rename_i hr
      have l5 := mRow_at _ hr
      obtain ⟨_, h⟩ := ite_err h
      obtain ⟨_, h⟩ := ite_err h
      obtain ⟨_, h⟩ := ite_err h
      have l6 := mSyms_at _ h
      omega
theorem mKind_at {k : Nat} {b : List UInt8} {most : Int} {at_ : Nat} {out : List UInt8} {a : Nat} {o : List UInt8} (h : mKind k b most at_ out = .ok (a, o)) : at_ ≤ a := by
  unfold mKind at h
  split at h
  · exact mStored_at h
  split at h
  · exact mSyms_at _ h
  split at h
  · exact mDyn_at h
  · cases h
def kf (k : Nat) : FuncId := if k = 0 then 67 else if k = 1 then 68 else if k = 2 then 69 else 70
theorem kind {W : World} {p at_ k : Nat} {b out : List UInt8} {most : Int} (hk : k < 4) (h1 : 0 ≤ most ∧ most ≤ 1048576) (h2 : (out.length : Int) ≤ most) :
    CnP Try.prog (kf k) [.pointer (some ⟨p, 0, none⟩)] W [IsS p b at_ out most] (fun _ : Ok (mKind k b most at_ out) => .tuple #[]) (fun x => [IsS p b x.1.1 x.1.2 most]) (fun y : Er (mKind k b most at_ out) => pn y.1) (fun _ => []) := by
  have : k = 0 ∨ k = 1 ∨ k = 2 ∨ k = 3 := by omega
  rcases this with rfl | rfl | rfl | rfl
  · exact stored (by omega) (by omega)
  · exact fixed h1 h2
  · exact dynamic h1 h2
  · exact none_
/-- what is given up is told by its number -/
theorem fails {W : World} {F : List HP} {g4 g5 g6 g7 : Nat} {v4 v5 v6 v7 : Value} {e : Int} {K : Value → WP} {Kq : PK}
    (h : Ent W (pt g4 (.cells #[.slice none 0 0] 39) :: pt g5 (.cells #[.slice none 0 0] 46) :: pt g6 (.cells #[.int .i64 0] 3) :: pt g7 (.cells #[.int .i64 e] 23) :: F) (K (.tuple #[.slice none 0 0, .slice none 0 0, .int .i64 0, .int .i64 e]))) :
    Ent W (pt g4 (.cells #[v4] 39) :: pt g5 (.cells #[v5] 46) :: pt g6 (.cells #[v6] 3) :: pt g7 (.cells #[v7] 23) :: F)
      (KpD Try.prog { target := .fn (.func 66) ([.pointer (some ⟨g4, 0, none⟩), .pointer (some ⟨g5, 0, none⟩), .pointer (some ⟨g6, 0, none⟩), .pointer (some ⟨g7, 0, none⟩)] : List Value).toArray, args := ([] : List Value).toArray } (S.inflate_all_ret (.pointer (some ⟨g4, 0, none⟩)) (.pointer (some ⟨g5, 0, none⟩)) (.pointer (some ⟨g6, 0, none⟩)) (.pointer (some ⟨g7, 0, none⟩)) K) Kq (pn e)) := by
  unfold KpD
  refine e_dfS (f := 66) (A := [.pointer (some ⟨g4, 0, none⟩), .pointer (some ⟨g5, 0, none⟩), .pointer (some ⟨g6, 0, none⟩), .pointer (some ⟨g7, 0, none⟩)]) (shape := fun rv => S.inflate_all_1 (.pointer (some ⟨g4, 0, none⟩)) (.pointer (some ⟨g5, 0, none⟩)) (.pointer (some ⟨g6, 0, none⟩)) (.pointer (some ⟨g7, 0, none⟩)) rv) (fun c => by cases c) ⟨_, _, rfl⟩ (inv_closure (cs := [.pointer (some ⟨g4, 0, none⟩), .pointer (some ⟨g5, 0, none⟩), .pointer (some ⟨g6, 0, none⟩), .pointer (some ⟨g7, 0, none⟩)]) (bs := []) Try.call66) (fun h => S.inflate_all_1_d h) ?_
  unfold S.inflate_all_1 pn
  rw [rec_pan, lv_pan]
  refine e_opN (v_neIf (by kernel_rfl)) Imp.nil ?_
  refine e_condT ?_
  refine e_drS ?_
  refine e_stD (v_ta (k := .i64) (by kernel_rfl)) Imp.nil ?_
  (((with_reducible refine' e_stN ?hp ?ho ?_); (case hp => (repeat constructor)); (case ho => (repeat (first | exact Put.here | apply Put.there))))); (((with_reducible refine e_obl ?hi ?_); (case hi => (repeat (first | exact Imp.refl | exact Imp.nil | (apply Imp.pick; (focus ((repeat constructor); done))) | refine Imp.drop ?_))))); (((with_reducible refine' e_stN ?hp ?ho ?_); (case hp => (repeat constructor)); (case ho => (repeat (first | exact Put.here | apply Put.there))))); (((with_reducible refine e_obl ?hi ?_); (case hi => (repeat (first | exact Imp.refl | exact Imp.nil | (apply Imp.pick; (focus ((repeat constructor); done))) | refine Imp.drop ?_))))); (((with_reducible refine' e_stN ?hp ?ho ?_); (case hp => (repeat constructor)); (case ho => (repeat (first | exact Put.here | apply Put.there))))); (((with_reducible refine e_obl ?hi ?_); (case hi => (repeat (first | exact Imp.refl | exact Imp.nil | (apply Imp.pick; (focus ((repeat constructor); done))) | refine Imp.drop ?_))))); (((with_reducible refine' e_stN ?hp ?ho ?_); (case hp => (repeat constructor)); (case ho => (repeat (first | exact Put.here | apply Put.there)))))
  unfold S.inflate_all_ret
  (((with_reducible refine' e_stS (v_res1 ?hc) ?hi ?_); (case hi => (repeat (first | exact Imp.refl | exact Imp.nil | (apply Imp.pick; (focus ((repeat constructor); done))) | refine Imp.drop ?_))); (case hc => (repeat (first | exact Nth.here | apply Nth.there))))); (((with_reducible refine' e_stS (v_res1 ?hc) ?hi ?_); (case hi => (repeat (first | exact Imp.refl | exact Imp.nil | (apply Imp.pick; (focus ((repeat constructor); done))) | refine Imp.drop ?_))); (case hc => (repeat (first | exact Nth.here | apply Nth.there))))); (((with_reducible refine' e_stS (v_res1 ?hc) ?hi ?_); (case hi => (repeat (first | exact Imp.refl | exact Imp.nil | (apply Imp.pick; (focus ((repeat constructor); done))) | refine Imp.drop ?_))); (case hc => (repeat (first | exact Nth.here | apply Nth.there))))); (((with_reducible refine' e_stS (v_res1 ?hc) ?hi ?_); (case hi => (repeat (first | exact Imp.refl | exact Imp.nil | (apply Imp.pick; (focus ((repeat constructor); done))) | refine Imp.drop ?_))); (case hc => (repeat (first | exact Nth.here | apply Nth.there)))))
  exact e_imp (by (repeat (first | exact Imp.refl | exact Imp.nil | (apply Imp.pick; (focus ((repeat constructor); done))) | refine Imp.drop ?_))) h
/-- with the stream's cells in sight -/
theorem stakeX {W : World} {p r at_ : Nat} {b : List UInt8} {v : Value} {most k : Int} : CnP Try.prog 71 [.pointer (some ⟨p, 0, none⟩), .int .i64 k] W [pt p (.cells #[.pointer (some ⟨r, 0, none⟩), v, .int .i64 most] 126), IsR r b at_]
    (fun _ : If (takR b at_ k = 0) => .int .i64 (takN b at_ k : Int)) (fun _ => [pt p (.cells #[.pointer (some ⟨r, 0, none⟩), v, .int .i64 most] 126), IsR r b (takAt b at_ k)]) (fun _ : If (takR b at_ k ≠ 0) => pn (takR b at_ k)) (fun _ => []) := by
  (refine S.inflate_stream_take_cnP fun F => ?_; unfold S.inflate_stream_take; simp only [List.cons_append, List.nil_append, -eq_self])
  (((with_reducible refine e_opN v_nil Imp.nil ?_))); (((with_reducible refine e_opN v_fa0 Imp.nil ?_))); (((with_reducible refine' e_opN (v_ldN ?hc) ?hi ?_); (case hi => (repeat (first | exact Imp.refl | exact Imp.nil | (apply Imp.pick; (focus ((repeat constructor); done))) | refine Imp.drop ?_))); (case hc => (repeat (first | exact Nth.here | apply Nth.there)))))
  (refine' e_call (B.take) ?hp fun _ => ?_; (case hp => (repeat (first | exact Picks.nil | (apply Picks.cons; (focus (repeat constructor)))))); (try simp only [List.cons_append, List.nil_append, Bool.not_true, Bool.not_false]))
  (((with_reducible refine' e_opN (v_extN ?hc) Imp.nil ?_); (case hc => (repeat (first | exact Nth.here | apply Nth.there))))); (((with_reducible refine' e_opN (v_extN ?hc) Imp.nil ?_); (case hc => (repeat (first | exact Nth.here | apply Nth.there)))))
  (refine' e_callP (must) ?hp (fun _ => ?_) (fun _ => ?_); (case hp => (repeat (first | exact Picks.nil | (apply Picks.cons; (focus (repeat constructor)))))); (all_goals (try simp only [List.cons_append, List.nil_append, Bool.not_true, Bool.not_false, -eq_self])))
  · rename_i x
    (first | refine e_ret (yes (x.2)) rfl ?_ | refine e_retT (yes (x.2)) ?_)
    (repeat (first | exact Imp.refl | exact Imp.nil | (apply Imp.pick; (focus ((repeat constructor); done))) | refine Imp.drop ?_))
  · rename_i y
    refine e_pan (yes (y.2)) rfl ?_
    (repeat (first | exact Imp.refl | exact Imp.nil | (apply Imp.pick; (focus ((repeat constructor); done))) | refine Imp.drop ?_))
theorem takN1 (b : List UInt8) (at_ : Nat) : takN b at_ 1 = 0 ∨ takN b at_ 1 = 1 := by
  have := takN_lt (b := b) (at_ := at_) (k := 1)
  have e : takN b at_ ((1 : Nat) : Int) = takN b at_ 1 := rfl
  rw [e] at this
  omega
theorem kf_get {k : Nat} (hk : k < 4) : (#[fn 67, fn 68, fn 69, fn 70] : Array Value)[k]? = some (fn (kf k)) := by
  have : k = 0 ∨ k = 1 ∨ k = 2 ∨ k = 3 := by omega
  rcases this with rfl | rfl | rfl | rfl <;> rfl
/-- a list of blocks takes its rounds -/
theorem blk_app (l : List (Int × Int)) (x : Int × Int) : (l ++ [x]).flatMap blk = l.flatMap blk ++ [I x.1, I x.2] := by simp [blk]
theorem all_ {W : World} {a : Option Addr} {cap : Nat} {b : List UInt8} {A : HP} {most : Int} (hr : RdB W A a b.length (b.map B)) (ha : a = none → b.length = 0) (hb : b.length ≤ 140737488355328) :
    Cn Try.prog 52 [.slice a b.length cap, .int .i64 most] W [A]
      (fun q : (Option Addr × Nat) × (Option Addr × Nat) => .tuple #[.slice q.1.1 (aO b most).length q.1.2, .slice q.2.1 (aL b most).length q.2.2, .int .i64 (aU b most), .int .i64 (aE b most)])
      (fun q => [Sl 1 5 q.1.1 q.1.2 (aO b most).length ((aO b most).map B), Sl 2 53 q.2.1 q.2.2 (aL b most).length ((aL b most).flatMap blk), A]) := by
  (refine S.inflate_all_cn fun F => ?_; unfold S.inflate_all; simp only [List.cons_append, List.nil_append])
  refine e_new1 fun g4 => ?_
  refine e_new1 fun g5 => ?_
  refine e_new1 fun g6 => ?_
  refine e_new1 fun g7 => ?_
  obtain ⟨T, hT⟩ : ∃ T, T = mAll b most := ⟨_, rfl⟩
  have bad : ∀ e : Int, T = .error e → aO b most = [] ∧ aL b most = [] ∧ aU b most = 0 ∧ aE b most = e := by
    intro e he
    rw [hT] at he
    simp [aO, aL, aU, aE, he]
  have good : ∀ (a1 : Nat) (o1 : List UInt8) (l1 : List (Int × Int)), T = .ok (a1, o1, l1) → aO b most = o1 ∧ aL b most = l1 ∧ aU b most = (b.length : Int) - (8 * (b.length : Int) - a1) / 8 ∧ aE b most = 0 := by
    intro a1 o1 l1 he
    rw [hT] at he
    simp [aO, aL, aU, aE, he]
  have fin : ∀ (e : Int) (L : List HP), T = .error e → Imp W L (A :: F) → Ent W L (fun w => ∃ q : (Option Addr × Nat) × (Option Addr × Nat), (.tuple #[.slice none 0 0, .slice none 0 0, .int .i64 0, .int .i64 e] : Value) = .tuple #[.slice q.1.1 (aO b most).length q.1.2, .slice q.2.1 (aL b most).length q.2.2, .int .i64 (aU b most), .int .i64 (aE b most)] ∧ sat W ([Sl 1 5 q.1.1 q.1.2 (aO b most).length ((aO b most).map B), Sl 2 53 q.2.1 q.2.2 (aL b most).length ((aL b most).flatMap blk), A] ++ F) w) := by
    intro e L he hi
    obtain ⟨h1, h2, h3, h4⟩ := bad e he
    rw [h1, h2, h3, h4]
    refine e_imp hi ?_
    refine e_nil (s := 1) (e := 5) ?_
    refine e_nil (s := 2) (e := 53) ?_
    refine e_ret ((none, 0), (none, 0)) rfl ?_
    (repeat (first | exact Imp.refl | exact Imp.nil | (apply Imp.pick; (focus ((repeat constructor); done))) | refine Imp.drop ?_))
  unfold mAll at hT
  refine e_cut1 (fun z => [pu (z = .bool (decide (most < 0 ∨ 1048576 < most))), pt g4 (.cells #[.slice none 0 0] 39), pt g5 (.cells #[.slice none 0 0] 46), pt g6 (.cells #[.int .i64 0] 3), pt g7 (.cells #[.int .i64 0] 23), A] ++ F) ?_ ?_
  rotate_left
  · (refine e_ask v_lss Imp.nil (fun h => ?_) (fun h => ?_))
    · refine e_condT ?_
      refine e_sat (.pu (by rw [decide_eq_true (.inl h)]) ?_)
      (repeat (first | exact Imp.refl | exact Imp.nil | (apply Imp.pick; (focus ((repeat constructor); done))) | refine Imp.drop ?_))
    · refine e_condF ?_
      (refine e_ask v_gtr Imp.nil (fun h => ?_) (fun h => ?_))
      · refine e_sat (.pu (by rw [decide_eq_true (.inr h)]) ?_)
        (repeat (first | exact Imp.refl | exact Imp.nil | (apply Imp.pick; (focus ((repeat constructor); done))) | refine Imp.drop ?_))
      · refine e_sat (.pu (by rw [decide_eq_false (by omega)]) ?_)
        (repeat (first | exact Imp.refl | exact Imp.nil | (apply Imp.pick; (focus ((repeat constructor); done))) | refine Imp.drop ?_))
  intro ds z
  (try simp only [List.cons_append, List.nil_append, -eq_self])
  refine e_pu Pick.here fun hz => ?_
  subst hz
  by_cases hm : most < 0 ∨ 1048576 < most
  · rw [if_pos hm] at hT
    rw [decide_eq_true hm]
    ((with_reducible refine e_condT ?_)); (((with_reducible refine' e_stN ?hp ?ho ?_); (case hp => (repeat constructor)); (case ho => (repeat (first | exact Put.here | apply Put.there))))); (((with_reducible refine' e_stN ?hp ?ho ?_); (case hp => (repeat constructor)); (case ho => (repeat (first | exact Put.here | apply Put.there))))); (((with_reducible refine' e_stN ?hp ?ho ?_); (case hp => (repeat constructor)); (case ho => (repeat (first | exact Put.here | apply Put.there))))); (((with_reducible refine' e_stN ?hp ?ho ?_); (case hp => (repeat constructor)); (case ho => (repeat (first | exact Put.here | apply Put.there))))); (((with_reducible refine' e_stS (v_res1 ?hc) ?hi ?_); (case hi => (repeat (first | exact Imp.refl | exact Imp.nil | (apply Imp.pick; (focus ((repeat constructor); done))) | refine Imp.drop ?_))); (case hc => (repeat (first | exact Nth.here | apply Nth.there))))); (((with_reducible refine' e_stS (v_res1 ?hc) ?hi ?_); (case hi => (repeat (first | exact Imp.refl | exact Imp.nil | (apply Imp.pick; (focus ((repeat constructor); done))) | refine Imp.drop ?_))); (case hc => (repeat (first | exact Nth.here | apply Nth.there))))); (((with_reducible refine' e_stS (v_res1 ?hc) ?hi ?_); (case hi => (repeat (first | exact Imp.refl | exact Imp.nil | (apply Imp.pick; (focus ((repeat constructor); done))) | refine Imp.drop ?_))); (case hc => (repeat (first | exact Nth.here | apply Nth.there))))); (((with_reducible refine' e_stS (v_res1 ?hc) ?hi ?_); (case hi => (repeat (first | exact Imp.refl | exact Imp.nil | (apply Imp.pick; (focus ((repeat constructor); done))) | refine Imp.drop ?_))); (case hc => (repeat (first | exact Nth.here | apply Nth.there)))))
    exact fin 1 _ hT (by (repeat (first | exact Imp.refl | exact Imp.nil | (apply Imp.pick; (focus ((repeat constructor); done))) | refine Imp.drop ?_)))
  rw [if_neg hm] at hT
  rw [decide_eq_false hm]
  ((with_reducible refine e_condF ?_)); (((with_reducible refine e_opN v_len Imp.nil ?_)))
  (refine e_ask v_gtr Imp.nil (fun h => ?_) (fun h => ?_))
  · rw [if_pos (by omega)] at hT
    ((with_reducible refine e_condT ?_)); (((with_reducible refine' e_stN ?hp ?ho ?_); (case hp => (repeat constructor)); (case ho => (repeat (first | exact Put.here | apply Put.there))))); (((with_reducible refine' e_stN ?hp ?ho ?_); (case hp => (repeat constructor)); (case ho => (repeat (first | exact Put.here | apply Put.there))))); (((with_reducible refine' e_stN ?hp ?ho ?_); (case hp => (repeat constructor)); (case ho => (repeat (first | exact Put.here | apply Put.there))))); (((with_reducible refine' e_stN ?hp ?ho ?_); (case hp => (repeat constructor)); (case ho => (repeat (first | exact Put.here | apply Put.there))))); (((with_reducible refine' e_stS (v_res1 ?hc) ?hi ?_); (case hi => (repeat (first | exact Imp.refl | exact Imp.nil | (apply Imp.pick; (focus ((repeat constructor); done))) | refine Imp.drop ?_))); (case hc => (repeat (first | exact Nth.here | apply Nth.there))))); (((with_reducible refine' e_stS (v_res1 ?hc) ?hi ?_); (case hi => (repeat (first | exact Imp.refl | exact Imp.nil | (apply Imp.pick; (focus ((repeat constructor); done))) | refine Imp.drop ?_))); (case hc => (repeat (first | exact Nth.here | apply Nth.there))))); (((with_reducible refine' e_stS (v_res1 ?hc) ?hi ?_); (case hi => (repeat (first | exact Imp.refl | exact Imp.nil | (apply Imp.pick; (focus ((repeat constructor); done))) | refine Imp.drop ?_))); (case hc => (repeat (first | exact Nth.here | apply Nth.there))))); (((with_reducible refine' e_stS (v_res1 ?hc) ?hi ?_); (case hi => (repeat (first | exact Imp.refl | exact Imp.nil | (apply Imp.pick; (focus ((repeat constructor); done))) | refine Imp.drop ?_))); (case hc => (repeat (first | exact Nth.here | apply Nth.there)))))
    exact fin 6 _ hT (by (repeat (first | exact Imp.refl | exact Imp.nil | (apply Imp.pick; (focus ((repeat constructor); done))) | refine Imp.drop ?_)))
  rw [if_neg (by omega)] at hT
  refine e_condF ?_
  refine e_opN v_mkF Imp.nil ?_
  refine e_opDf ?_
  simp only [List.nil_append, Array.append_empty, List.append_toArray]
  (refine' e_call (newReader hr ha hb) ?hp fun _ => ?_; (case hp => (repeat (first | exact Picks.nil | (apply Picks.cons; (focus (repeat constructor)))))); (try simp only [List.cons_append, List.nil_append, Bool.not_true, Bool.not_false]))
  rename_i pr
  refine e_opN v_rv Imp.nil ?_
  refine e_boxA fun gs => ?_
  refine e_opN v_rv Imp.nil ?_
  refine e_newA fun gk => ?_
  refine' e_stAgg ?hp ?hn ?hv ?h1 ?_
  case hp => (repeat constructor)
  case hn => rfl
  case hv => rfl
  case h1 => simp [fn, Value.oneCell']
  have bad2 : ∀ (e : Int) (L : List HP) (q : Option Addr × Nat) (n : Nat), T = .error e → Imp W L ([pt g4 (.cells #[.slice none 0 0] 39), pt g5 (.cells #[.slice q.1 n q.2] 46), pt g6 (.cells #[.int .i64 0] 3), pt g7 (.cells #[.int .i64 0] 23), A] ++ F) → Ent W L (KpD Try.prog { target := .fn (.func 66) ([.pointer (some ⟨g4, 0, none⟩), .pointer (some ⟨g5, 0, none⟩), .pointer (some ⟨g6, 0, none⟩), .pointer (some ⟨g7, 0, none⟩)] : List Value).toArray, args := ([] : List Value).toArray } (S.inflate_all_ret (.pointer (some ⟨g4, 0, none⟩)) (.pointer (some ⟨g5, 0, none⟩)) (.pointer (some ⟨g6, 0, none⟩)) (.pointer (some ⟨g7, 0, none⟩)) (fun v w => ∃ q : (Option Addr × Nat) × (Option Addr × Nat), v = .tuple #[.slice q.1.1 (aO b most).length q.1.2, .slice q.2.1 (aL b most).length q.2.2, .int .i64 (aU b most), .int .i64 (aE b most)] ∧ sat W ([Sl 1 5 q.1.1 q.1.2 (aO b most).length ((aO b most).map B), Sl 2 53 q.2.1 q.2.2 (aL b most).length ((aL b most).flatMap blk), A] ++ F) w)) noP (pn e)) := by
    intro e L q n he hi
    refine e_imp hi ?_
    (try simp only [List.cons_append, List.nil_append, -eq_self])
    refine fails ?_
    exact fin e _ he (by (repeat (first | exact Imp.refl | exact Imp.nil | (apply Imp.pick; (focus ((repeat constructor); done))) | refine Imp.drop ?_)))
  refine e_nil (s := 2) (e := 53) ?_
  refine e_nil (s := 1) (e := 5) ?_
  refine e_imp (M := IsS gs b 0 [] most :: Sl 2 53 none 0 0 [] :: pt gk (.cells #[fn 67, fn 68, fn 69, fn 70] 128) :: pt g4 (.cells #[.slice none 0 0] 39) :: pt g5 (.cells #[.slice none 0 0] 46) :: pt g6 (.cells #[.int .i64 0] 3) :: pt g7 (.cells #[.int .i64 0] 23) :: A :: F) (.ex (pr, (none, 0)) (.all (.pick (by (repeat constructor)) (.pick (by (repeat constructor)) (.pick (by (repeat constructor)) (by (repeat (first | exact Imp.refl | exact Imp.nil | (apply Imp.pick; (focus ((repeat constructor); done))) | refine Imp.drop ?_)))))))) ?_
  have hm0 : 0 ≤ most ∧ most ≤ 1048576 := by omega
  refine e_loop1 (fun m y => [ex fun at1 : Nat => ex fun out : List UInt8 => ex fun l : List (Int × Int) => ex fun q : Option Addr × Nat => all [pu (((y = .int .i64 0 ∧ 8 * b.length + 1 ≤ m + at1 ∧ T = mLoop b most m at1 out l) ∨ (y = .int .i64 1 ∧ T = .ok (at1, out, l))) ∧ (out.length : Int) ≤ most ∧ l.length ≤ at1), IsS gs b at1 out most, Sl 2 53 q.1 q.2 l.length (l.flatMap blk), pt gk (.cells #[fn 67, fn 68, fn 69, fn 70] 128), pt g4 (.cells #[.slice none 0 0] 39), pt g5 (.cells #[.slice q.1 l.length q.2] 46), pt g6 (.cells #[.int .i64 0] 3), pt g7 (.cells #[.int .i64 0] 23), A]] ++ F) (8 * b.length + 1) ?_ ?_
  · refine .ex 0 (.ex [] (.ex [] (.ex (none, 0) (.all ?_))))
    (try simp only [List.cons_append, List.nil_append, -eq_self])
    refine .pu ⟨.inl ⟨rfl, by omega, hT⟩, by simpa using hm0.1, by simp⟩ ?_
    (repeat (first | exact Imp.refl | exact Imp.nil | (apply Imp.pick; (focus ((repeat constructor); done))) | refine Imp.drop ?_))
  clear hT
  intro m ds y
  (try simp only [List.cons_append, List.nil_append, -eq_self])
  refine e_ex Pick.here fun at1 => e_ex Pick.here fun out => e_ex Pick.here fun l => e_ex Pick.here fun q => e_all Pick.here ?_
  obtain ⟨qa, qc⟩ := q
  (try simp only [List.cons_append, List.nil_append, -eq_self])
  refine e_pu Pick.here fun hi => ?_
  obtain ⟨hi, ho, hll⟩ := hi
  refine e_rfactS .here fun hat => ?_
  rcases hi with ⟨rfl, hm, hT⟩ | ⟨rfl, hT⟩
  · refine e_opN v_eql Imp.nil ?_
    rw [decide_eq_true rfl]
    refine e_condT ?_
    obtain ⟨m, rfl⟩ : ∃ m', m = m' + 1 := ⟨m - 1, by omega⟩
    rw [mLoop] at hT
    (refine' e_callP (stake) ?hp (fun _ => ?_) (fun _ => ?_); (case hp => (repeat (first | exact Picks.nil | (apply Picks.cons; (focus (repeat constructor)))))); (all_goals (try simp only [List.cons_append, List.nil_append, Bool.not_true, Bool.not_false, -eq_self])))
    rotate_left
    · rename_i y
      rw [if_pos y.2] at hT
      exact bad2 _ _ (qa, qc) l.length hT (by (repeat (first | exact Imp.refl | exact Imp.nil | (apply Imp.pick; (focus ((repeat constructor); done))) | refine Imp.drop ?_)))
    rename_i x1
    rw [if_neg (fun c => c x1.2)] at hT
    have ha1 : takAt b at1 1 = at1 + 1 := by unfold takAt; rw [if_pos x1.2]; rfl
    have hl1 := takN1 b at1
    obtain ⟨last, hlast⟩ : ∃ l, l = takN b at1 1 := ⟨_, rfl⟩
    rw [← hlast] at hl1
    rw [← hlast, ha1] at hT ⊢
    refine e_drS ?_
    refine e_ex Pick.here fun q => e_all Pick.here ?_
    obtain ⟨r, sa, sc⟩ := q
    (try simp only [List.cons_append, List.nil_append, -eq_self])
    (((with_reducible refine e_stD v_nil Imp.nil ?_))); (((with_reducible refine e_stD v_fa0 Imp.nil ?_))); (((with_reducible refine' e_stD (v_ldN ?hc) ?hi ?_); (case hi => (repeat (first | exact Imp.refl | exact Imp.nil | (apply Imp.pick; (focus ((repeat constructor); done))) | refine Imp.drop ?_))); (case hc => (repeat (first | exact Nth.here | apply Nth.there))))); (((with_reducible refine e_stD v_len Imp.nil ?_)))
    (refine' e_callP (stakeX) ?hp (fun _ => ?_) (fun _ => ?_); (case hp => (repeat (first | exact Picks.nil | (apply Picks.cons; (focus (repeat constructor)))))); (all_goals (try simp only [List.cons_append, List.nil_append, Bool.not_true, Bool.not_false, -eq_self])))
    rotate_left
    · rename_i y
      rw [if_pos y.2] at hT
      exact bad2 _ _ (qa, qc) l.length hT (by (repeat (first | exact Imp.refl | exact Imp.nil | (apply Imp.pick; (focus ((repeat constructor); done))) | refine Imp.drop ?_)))
    rename_i x2
    rw [if_neg (fun c => c x2.2)] at hT
    have hk4 := takN_lt (b := b) (at_ := at1 + 1) (k := 2)
    have hkE : takN b (at1 + 1) ((2 : Nat) : Int) = takN b (at1 + 1) 2 := rfl
    rw [hkE] at hk4
    have hlt2 := takAt_le b (at1 + 1) 2
    obtain ⟨kk, hkk⟩ : ∃ k, k = takN b (at1 + 1) 2 := ⟨_, rfl⟩
    obtain ⟨a2, ha2⟩ : ∃ a, a = takAt b (at1 + 1) 2 := ⟨_, rfl⟩
    rw [← hkk] at hk4
    rw [← ha2] at hlt2
    rw [← hkk, ← ha2] at hT ⊢
    have hk4 : kk < 4 := hk4
    (((with_reducible refine e_obl ?hi ?_); (case hi => (repeat (first | exact Imp.refl | exact Imp.nil | (apply Imp.pick; (focus ((repeat constructor); done))) | refine Imp.drop ?_))))); (((with_reducible refine e_obl ?hi ?_); (case hi => (repeat (first | exact Imp.refl | exact Imp.nil | (apply Imp.pick; (focus ((repeat constructor); done))) | refine Imp.drop ?_))))); (((with_reducible refine e_obl ?hi ?_); (case hi => (repeat (first | exact Imp.refl | exact Imp.nil | (apply Imp.pick; (focus ((repeat constructor); done))) | refine Imp.drop ?_))))); (((with_reducible refine e_obl ?hi ?_); (case hi => (repeat (first | exact Imp.refl | exact Imp.nil | (apply Imp.pick; (focus ((repeat constructor); done))) | refine Imp.drop ?_)))))
    refine e_opN (v_iaA kk (by rfl) hk4) Imp.nil ?_
    refine e_opN (v_ld (v := fn (kf kk)) (by rw [Nat.zero_add, Nat.mul_one]; exact kf_get hk4)) (.pick (by (repeat constructor)) .nil) ?_
    refine e_imp (M := IsS gs b a2 out most :: Sl 2 53 qa qc l.length (l.flatMap blk) :: pt gk (.cells #[fn 67, fn 68, fn 69, fn 70] 128) :: pt g4 (.cells #[.slice none 0 0] 39) :: pt g5 (.cells #[.slice qa l.length qc] 46) :: pt g6 (.cells #[.int .i64 0] 3) :: pt g7 (.cells #[.int .i64 0] 23) :: A :: F) (.ex (r, (sa, sc)) (.all (.pick (by (repeat constructor)) (.pick (by (repeat constructor)) (.pick (by (repeat constructor)) (by (repeat (first | exact Imp.refl | exact Imp.nil | (apply Imp.pick; (focus ((repeat constructor); done))) | refine Imp.drop ?_)))))))) ?_
    (refine' e_callP (kind hk4 hm0 ho) ?hp (fun _ => ?_) (fun _ => ?_); (case hp => (repeat (first | exact Picks.nil | (apply Picks.cons; (focus (repeat constructor)))))); (all_goals (try simp only [List.cons_append, List.nil_append, Bool.not_true, Bool.not_false, -eq_self])))
    rotate_left
    · rename_i y
      have hy := y.2
      rw [hy] at hT
      exact bad2 _ _ (qa, qc) l.length hT (by (repeat (first | exact Imp.refl | exact Imp.nil | (apply Imp.pick; (focus ((repeat constructor); done))) | refine Imp.drop ?_)))
    rename_i x3
    obtain ⟨⟨a3, o3⟩, hx3⟩ := x3
    rw [hx3] at hT
    simp only at hT
    have ho3 := mKind_ok hx3 ho
    have ha3 := mKind_at hx3
    (try dsimp only)
    refine e_drS ?_
    refine e_ex Pick.here fun q => e_all Pick.here ?_
    obtain ⟨r3, sa3, sc3⟩ := q
    (try simp only [List.cons_append, List.nil_append, -eq_self])
    (((with_reducible refine' e_stD (v_ldN ?hc) ?hi ?_); (case hi => (repeat (first | exact Imp.refl | exact Imp.nil | (apply Imp.pick; (focus ((repeat constructor); done))) | refine Imp.drop ?_))); (case hc => (repeat (first | exact Nth.here | apply Nth.there))))); (((with_reducible refine e_stS v_nil Imp.nil ?_))); (((with_reducible refine e_stS v_fa0 Imp.nil ?_))); (((with_reducible refine' e_stS (v_ldN ?hc) ?hi ?_); (case hi => (repeat (first | exact Imp.refl | exact Imp.nil | (apply Imp.pick; (focus ((repeat constructor); done))) | refine Imp.drop ?_))); (case hc => (repeat (first | exact Nth.here | apply Nth.there))))); (((with_reducible refine e_stS v_len Imp.nil ?_))); (((with_reducible refine e_stS (v_sub ?h1 ?h2) Imp.nil ?_); (case h1 => omega); (case h2 => omega))); (((with_reducible refine e_stS v_rv Imp.nil ?_)))
    refine e_bslS (n := 1) (vs := [.agg #[.int .i64 (kk : Int), .int .i64 ((o3.length : Int) - (out.length : Int))]]) rfl (by omega) rfl (by intro v hv; rw [List.mem_singleton.1 hv]; rfl) (by omega) fun gb => ?_
    (((with_reducible refine e_obl ?hi ?_); (case hi => (repeat (first | exact Imp.refl | exact Imp.nil | (apply Imp.pick; (focus ((repeat constructor); done))) | refine Imp.drop ?_)))))
    refine e_app (m := 1) (news := [I (kk : Int), I ((o3.length : Int) - (out.length : Int))]) (by (repeat constructor)) (src_pt (e' := 53) (by kernel_rfl) .here (by rfl) (by simp [Value.cells, I, Value.oneCell'])) (by omega) (by omega) fun a' c' => ?_
    (((with_reducible refine' e_stN ?hp ?ho ?_); (case hp => (repeat constructor)); (case ho => (repeat (first | exact Put.here | apply Put.there)))))
    have hT' : (last = 0 ∧ T = mLoop b most m a3 o3 (l ++ [((kk : Int), (o3.length : Int) - (out.length : Int))])) ∨ (last = 1 ∧ T = .ok (a3, o3, l ++ [((kk : Int), (o3.length : Int) - (out.length : Int))])) := by
      rcases hl1 with h | h
      · exact .inl ⟨h, by rw [hT, if_pos h]⟩
      · exact .inr ⟨h, by rw [hT, if_neg (by omega)]⟩
    refine e_next1 m (by omega) (.ex a3 (.ex o3 (.ex (l ++ [((kk : Int), (o3.length : Int) - (out.length : Int))]) (.ex (a', c') (.all ?_)))))
    (try simp only [List.cons_append, List.nil_append, -eq_self])
    refine .pu ⟨?_, ho3, by rw [List.length_append, List.length_singleton]; omega⟩ ?_
    · rcases hT' with ⟨h, e⟩ | ⟨h, e⟩
      · subst h; exact .inl ⟨rfl, by omega, e⟩
      · subst h; exact .inr ⟨rfl, e⟩
    refine .ex (r3, (sa3, sc3)) (.all ?_)
    (try simp only [List.cons_append, List.nil_append, -eq_self])
    rw [List.length_append, blk_app, List.length_singleton]
    exact .pick (by (repeat constructor)) (.pick (by (repeat constructor)) (.pick (by (repeat constructor)) (.pick (by (repeat constructor)) (.pick (by (repeat constructor)) (.pick (by (repeat constructor)) (.pick (by (repeat constructor)) (.pick (by (repeat constructor)) (.pick (by (repeat constructor)) (.pick (by (repeat constructor)) (by (repeat (first | exact Imp.refl | exact Imp.nil | (apply Imp.pick; (focus ((repeat constructor); done))) | refine Imp.drop ?_))))))))))))
  · refine e_opN v_eql Imp.nil ?_
    rw [decide_eq_false (by omega)]
    refine e_condF ?_
    refine e_drS ?_
    refine e_ex Pick.here fun q => e_all Pick.here ?_
    obtain ⟨r, sa, sc⟩ := q
    (try simp only [List.cons_append, List.nil_append, -eq_self])
    (((with_reducible refine e_stD v_nil Imp.nil ?_))); (((with_reducible refine e_stD v_fa0 Imp.nil ?_))); (((with_reducible refine' e_stD (v_ldN ?hc) ?hi ?_); (case hi => (repeat (first | exact Imp.refl | exact Imp.nil | (apply Imp.pick; (focus ((repeat constructor); done))) | refine Imp.drop ?_))); (case hc => (repeat (first | exact Nth.here | apply Nth.there))))); (((with_reducible refine' e_stD (v_ldN ?hc) ?hi ?_); (case hi => (repeat (first | exact Imp.refl | exact Imp.nil | (apply Imp.pick; (focus ((repeat constructor); done))) | refine Imp.drop ?_))); (case hc => (repeat (first | exact Nth.here | apply Nth.there))))); (((with_reducible refine e_stD v_len Imp.nil ?_))); (((with_reducible refine e_stS v_nil Imp.nil ?_))); (((with_reducible refine e_stS v_fa0 Imp.nil ?_))); (((with_reducible refine' e_stS (v_ldN ?hc) ?hi ?_); (case hi => (repeat (first | exact Imp.refl | exact Imp.nil | (apply Imp.pick; (focus ((repeat constructor); done))) | refine Imp.drop ?_))); (case hc => (repeat (first | exact Nth.here | apply Nth.there)))))
    (refine' e_call (left) ?hp fun _ => ?_; (case hp => (repeat (first | exact Picks.nil | (apply Picks.cons; (focus (repeat constructor)))))); (try simp only [List.cons_append, List.nil_append, Bool.not_true, Bool.not_false]))
    (((with_reducible refine e_obl ?hi ?_); (case hi => (repeat (first | exact Imp.refl | exact Imp.nil | (apply Imp.pick; (focus ((repeat constructor); done))) | refine Imp.drop ?_))))); (((with_reducible refine e_obl ?hi ?_); (case hi => (repeat (first | exact Imp.refl | exact Imp.nil | (apply Imp.pick; (focus ((repeat constructor); done))) | refine Imp.drop ?_))))); (((with_reducible refine e_obl ?hi ?_); (case hi => (repeat (first | exact Imp.refl | exact Imp.nil | (apply Imp.pick; (focus ((repeat constructor); done))) | refine Imp.drop ?_))))); (((with_reducible refine e_obl ?hi ?_); (case hi => (repeat (first | exact Imp.refl | exact Imp.nil | (apply Imp.pick; (focus ((repeat constructor); done))) | refine Imp.drop ?_))))); (((with_reducible refine e_obl ?hi ?_); (case hi => (repeat (first | exact Imp.refl | exact Imp.nil | (apply Imp.pick; (focus ((repeat constructor); done))) | refine Imp.drop ?_))))); (((with_reducible refine e_stD (v_quo ?h1 ?h2 ?h3) Imp.nil ?_); (case h1 => omega); (case h2 => omega); (case h3 => omega))); (((with_reducible refine e_stD (v_sub ?h1 ?h2) Imp.nil ?_); (case h1 => omega); (case h2 => omega))); (((with_reducible refine' e_stN ?hp ?ho ?_); (case hp => (repeat constructor)); (case ho => (repeat (first | exact Put.here | apply Put.there))))); (((with_reducible refine e_obl ?hi ?_); (case hi => (repeat (first | exact Imp.refl | exact Imp.nil | (apply Imp.pick; (focus ((repeat constructor); done))) | refine Imp.drop ?_))))); (((with_reducible refine e_obl ?hi ?_); (case hi => (repeat (first | exact Imp.refl | exact Imp.nil | (apply Imp.pick; (focus ((repeat constructor); done))) | refine Imp.drop ?_))))); (((with_reducible refine e_obl ?hi ?_); (case hi => (repeat (first | exact Imp.refl | exact Imp.nil | (apply Imp.pick; (focus ((repeat constructor); done))) | refine Imp.drop ?_))))); (((with_reducible refine e_obl ?hi ?_); (case hi => (repeat (first | exact Imp.refl | exact Imp.nil | (apply Imp.pick; (focus ((repeat constructor); done))) | refine Imp.drop ?_))))); (((with_reducible refine' e_stN ?hp ?ho ?_); (case hp => (repeat constructor)); (case ho => (repeat (first | exact Put.here | apply Put.there))))); (((with_reducible refine e_obl ?hi ?_); (case hi => (repeat (first | exact Imp.refl | exact Imp.nil | (apply Imp.pick; (focus ((repeat constructor); done))) | refine Imp.drop ?_))))); (((with_reducible refine e_obl ?hi ?_); (case hi => (repeat (first | exact Imp.refl | exact Imp.nil | (apply Imp.pick; (focus ((repeat constructor); done))) | refine Imp.drop ?_))))); (((with_reducible refine e_obl ?hi ?_); (case hi => (repeat (first | exact Imp.refl | exact Imp.nil | (apply Imp.pick; (focus ((repeat constructor); done))) | refine Imp.drop ?_))))); (((with_reducible refine' e_stN ?hp ?ho ?_); (case hp => (repeat constructor)); (case ho => (repeat (first | exact Put.here | apply Put.there))))); (((with_reducible refine' e_stN ?hp ?ho ?_); (case hp => (repeat constructor)); (case ho => (repeat (first | exact Put.here | apply Put.there)))))
    obtain ⟨g1, g2, g3, g4'⟩ := good _ _ _ hT
    rw [g1, g2, g3, g4']
    refine e_dfS (f := 66) (A := [.pointer (some ⟨g4, 0, none⟩), .pointer (some ⟨g5, 0, none⟩), .pointer (some ⟨g6, 0, none⟩), .pointer (some ⟨g7, 0, none⟩)]) (shape := fun rv => S.inflate_all_1 (.pointer (some ⟨g4, 0, none⟩)) (.pointer (some ⟨g5, 0, none⟩)) (.pointer (some ⟨g6, 0, none⟩)) (.pointer (some ⟨g7, 0, none⟩)) rv) (fun c => by cases c) ⟨_, _, rfl⟩ (inv_closure (cs := [.pointer (some ⟨g4, 0, none⟩), .pointer (some ⟨g5, 0, none⟩), .pointer (some ⟨g6, 0, none⟩), .pointer (some ⟨g7, 0, none⟩)]) (bs := []) Try.call66) (fun h => S.inflate_all_1_d h) ?_
    unfold S.inflate_all_1
    rw [rec_ret, lv_ret]
    refine e_opN (v_neIf0 (by kernel_rfl)) Imp.nil ?_
    ((with_reducible refine e_condF ?_))
    unfold S.inflate_all_ret
    (((with_reducible refine' e_stS (v_res1 ?hc) ?hi ?_); (case hi => (repeat (first | exact Imp.refl | exact Imp.nil | (apply Imp.pick; (focus ((repeat constructor); done))) | refine Imp.drop ?_))); (case hc => (repeat (first | exact Nth.here | apply Nth.there))))); (((with_reducible refine' e_stS (v_res1 ?hc) ?hi ?_); (case hi => (repeat (first | exact Imp.refl | exact Imp.nil | (apply Imp.pick; (focus ((repeat constructor); done))) | refine Imp.drop ?_))); (case hc => (repeat (first | exact Nth.here | apply Nth.there))))); (((with_reducible refine' e_stS (v_res1 ?hc) ?hi ?_); (case hi => (repeat (first | exact Imp.refl | exact Imp.nil | (apply Imp.pick; (focus ((repeat constructor); done))) | refine Imp.drop ?_))); (case hc => (repeat (first | exact Nth.here | apply Nth.there))))); (((with_reducible refine' e_stS (v_res1 ?hc) ?hi ?_); (case hi => (repeat (first | exact Imp.refl | exact Imp.nil | (apply Imp.pick; (focus ((repeat constructor); done))) | refine Imp.drop ?_))); (case hc => (repeat (first | exact Nth.here | apply Nth.there)))))
    refine e_ret ((sa, sc), (qa, qc)) rfl ?_
    (try simp only [List.cons_append, List.nil_append, -eq_self])
    exact .pick (by (repeat constructor)) (.pick (by (repeat constructor)) (.pick (by (repeat constructor)) (by (repeat (first | exact Imp.refl | exact Imp.nil | (apply Imp.pick; (focus ((repeat constructor); done))) | refine Imp.drop ?_)))))
end Go.Proofs.Ytehfblkpbadikaa.IF
/-! What a stream inflates to; the law's first answers. No conditions but those that each names. -/
namespace Go.Proofs.Ytehfblkpbadikaa.IF
open Go Go.Proofs Go.RowKit Go.Proofs.Ytehfblkpbadikaa.Sh Go.Proofs.Ytehfblkpbadikaa.Sl Go.Proofs.Ytehfblkpbadikaa.T Go.Proofs.Ytehfblkpbadikaa.HM Go.Proofs.Ytehfblkpbadikaa.HF Go.Proofs.Ytehfblkpbadikaa.B Go.Proofs.Ytehfblkpbadikaa.M
theorem inflate {W : World} {a : Option Addr} {cap : Nat} {b : List UInt8} {A : HP} {most : Int} (hr : RdB W A a b.length (b.map B)) (ha : a = none → b.length = 0) (hb : b.length ≤ 140737488355328) :
    Cn Try.prog 25 [.slice a b.length cap, .int .i64 most] W [A] (fun q : Option Addr × Nat => .tuple #[.slice q.1 (aO b most).length q.2, .int .i64 (aU b most), .int .i64 (aE b most)]) (fun q => [Sl 1 5 q.1 q.2 (aO b most).length ((aO b most).map B), A]) := by
  (refine S.inflate_Inflate_cn fun F => ?_; unfold S.inflate_Inflate; simp only [List.cons_append, List.nil_append])
  (refine' e_call (all_ hr ha hb) ?hp fun _ => ?_; (case hp => (repeat (first | exact Picks.nil | (apply Picks.cons; (focus (repeat constructor)))))); (try simp only [List.cons_append, List.nil_append, Bool.not_true, Bool.not_false]))
  rename_i q
  obtain ⟨⟨oa, oc⟩, ⟨la, lc⟩⟩ := q
  (try dsimp only)
  refine e_opN (v_ext (v := .slice oa (aO b most).length oc) rfl) Imp.nil ?_
  refine e_opN (v_ext (v := .slice la (aL b most).length lc) rfl) Imp.nil ?_
  refine e_opN (v_ext (v := .int .i64 (aU b most)) rfl) Imp.nil ?_
  refine e_opN (v_ext (v := .int .i64 (aE b most)) rfl) Imp.nil ?_
  (first | refine e_ret ((oa, oc)) rfl ?_ | refine e_retT ((oa, oc)) ?_)
  (repeat (first | exact Imp.refl | exact Imp.nil | (apply Imp.pick; (focus ((repeat constructor); done))) | refine Imp.drop ?_))
theorem blocks {W : World} {a : Option Addr} {cap : Nat} {b : List UInt8} {A : HP} {most : Int} (hr : RdB W A a b.length (b.map B)) (ha : a = none → b.length = 0) (hb : b.length ≤ 140737488355328) :
    Cn Try.prog 28 [.slice a b.length cap, .int .i64 most] W [A] (fun q : Option Addr × Nat => .tuple #[.slice q.1 (aL b most).length q.2, .int .i64 (aE b most)]) (fun q => [Sl 2 53 q.1 q.2 (aL b most).length ((aL b most).flatMap blk), A]) := by
  (refine S.inflate_Blocks_cn fun F => ?_; unfold S.inflate_Blocks; simp only [List.cons_append, List.nil_append])
  (refine' e_call (all_ hr ha hb) ?hp fun _ => ?_; (case hp => (repeat (first | exact Picks.nil | (apply Picks.cons; (focus (repeat constructor)))))); (try simp only [List.cons_append, List.nil_append, Bool.not_true, Bool.not_false]))
  rename_i q
  obtain ⟨⟨oa, oc⟩, ⟨la, lc⟩⟩ := q
  (try dsimp only)
  refine e_opN (v_ext (v := .slice oa (aO b most).length oc) rfl) Imp.nil ?_
  refine e_opN (v_ext (v := .slice la (aL b most).length lc) rfl) Imp.nil ?_
  refine e_opN (v_ext (v := .int .i64 (aU b most)) rfl) Imp.nil ?_
  refine e_opN (v_ext (v := .int .i64 (aE b most)) rfl) Imp.nil ?_
  (first | refine e_ret ((la, lc)) rfl ?_ | refine e_retT ((la, lc)) ?_)
  (repeat (first | exact Imp.refl | exact Imp.nil | (apply Imp.pick; (focus ((repeat constructor); done))) | refine Imp.drop ?_))
theorem num5 {W : World} {n : Int} : Cn Try.prog 26 [.int .i64 n] W [] (fun _ : Unit => .int .i64 n) (fun _ => []) := by
  (refine S.law05_num_cn fun F => ?_; unfold S.law05_num; simp only [List.cons_append, List.nil_append])
  (first | refine e_ret (()) rfl ?_ | refine e_retT (()) ?_)
  exact .refl
def kn1 : List UInt8 := [1, 3, 0, 252, 255, 97, 98, 99]
def kn2 : List UInt8 := [75, 76, 74, 6, 0]
theorem kn_1 : aO kn1 10 = [97, 98, 99] ∧ aU kn1 10 = 8 ∧ aE kn1 10 = 0 := by
  have : decide (aO kn1 10 = [97, 98, 99] ∧ aU kn1 10 = 8 ∧ aE kn1 10 = 0) = true := by decide +kernel
  exact of_decide_eq_true this
theorem kn_2 : aO kn2 10 = [97, 98, 99] ∧ aU kn2 10 = 5 ∧ aE kn2 10 = 0 := by
  have : decide (aO kn2 10 = [97, 98, 99] ∧ aU kn2 10 = 5 ∧ aE kn2 10 = 0) = true := by decide +kernel
  exact of_decide_eq_true this
theorem knows5 {W : World} : Cn Try.prog 27 [] W [] (fun _ : Unit => .bool true) (fun _ => []) := by
  (refine S.law05_knows_cn fun F => ?_; unfold S.law05_knows; simp only [List.cons_append, List.nil_append])
  refine e_bslN (vs := kn1.map B) rfl rfl (by intro v hv; obtain ⟨c, _, rfl⟩ := List.mem_map.1 hv; rfl) (by omega) fun g => ?_
  (refine' e_call (inflate (b := kn1) (rd_pt (by rfl)) (fun c => by cases c) (by decide)) ?hp fun _ => ?_; (case hp => (repeat (first | exact Picks.nil | (apply Picks.cons; (focus (repeat constructor)))))); (try simp only [List.cons_append, List.nil_append, Bool.not_true, Bool.not_false]))
  rename_i q
  obtain ⟨qa, qc⟩ := q
  rw [kn_1.1, kn_1.2.1, kn_1.2.2]
  (try dsimp only)
  (((with_reducible refine' e_opN (v_extN ?hc) Imp.nil ?_); (case hc => (repeat (first | exact Nth.here | apply Nth.there))))); (((with_reducible refine' e_opN (v_extN ?hc) Imp.nil ?_); (case hc => (repeat (first | exact Nth.here | apply Nth.there))))); (((with_reducible refine' e_opN (v_extN ?hc) Imp.nil ?_); (case hc => (repeat (first | exact Nth.here | apply Nth.there)))))
  refine e_bslN (vs := kn2.map B) rfl rfl (by intro v hv; obtain ⟨c, _, rfl⟩ := List.mem_map.1 hv; rfl) (by omega) fun g2 => ?_
  (refine' e_call (inflate (b := kn2) (rd_pt (by rfl)) (fun c => by cases c) (by decide)) ?hp fun _ => ?_; (case hp => (repeat (first | exact Picks.nil | (apply Picks.cons; (focus (repeat constructor)))))); (try simp only [List.cons_append, List.nil_append, Bool.not_true, Bool.not_false]))
  rename_i q2
  obtain ⟨qa2, qc2⟩ := q2
  rw [kn_2.1, kn_2.2.1, kn_2.2.2]
  (try dsimp only)
  (((with_reducible refine' e_opN (v_extN ?hc) Imp.nil ?_); (case hc => (repeat (first | exact Nth.here | apply Nth.there))))); (((with_reducible refine' e_opN (v_extN ?hc) Imp.nil ?_); (case hc => (repeat (first | exact Nth.here | apply Nth.there))))); (((with_reducible refine' e_opN (v_extN ?hc) Imp.nil ?_); (case hc => (repeat (first | exact Nth.here | apply Nth.there)))))
  (refine' e_call (num5) ?hp fun _ => ?_; (case hp => (repeat (first | exact Picks.nil | (apply Picks.cons; (focus (repeat constructor)))))); (try simp only [List.cons_append, List.nil_append, Bool.not_true, Bool.not_false]))
  (refine' e_call (num5) ?hp fun _ => ?_; (case hp => (repeat (first | exact Picks.nil | (apply Picks.cons; (focus (repeat constructor)))))); (try simp only [List.cons_append, List.nil_append, Bool.not_true, Bool.not_false]))
  (((with_reducible refine e_opN (v_add ?h1 ?h2) Imp.nil ?_); (case h1 => omega); (case h2 => omega)))
  refine e_slsome .here (by decide) fun h2 hg2 => ?_
  subst hg2
  refine e_slsome (.there (.there .here)) (by decide) fun h1 hg1 => ?_
  subst hg1
  refine e_opN v_eql Imp.nil ?_
  rw [decide_eq_true (by decide)]
  ((with_reducible refine e_gdT ?_)); ((with_reducible refine e_gdT ?_))
  refine e_opN (v_str (l := [97, 98, 99]) (rd_sl (by decide) (fun _ => ⟨h1, rfl⟩)) (fun c => by cases c)) (.pick (by (repeat constructor)) .nil) ?_
  ((with_reducible refine e_gdT ?_))
  refine e_opN (v_streq (l := [97, 98, 99]) (m := [97, 98, 99])) Imp.nil ?_
  rw [decide_eq_true rfl]
  (((with_reducible refine e_opN v_pickT Imp.nil ?_))); ((with_reducible refine e_gdT ?_)); ((with_reducible refine e_gdT ?_))
  refine e_opN v_eql Imp.nil ?_
  rw [decide_eq_true (by decide)]
  (((with_reducible refine e_opN v_pickT Imp.nil ?_))); ((with_reducible refine e_gdT ?_)); ((with_reducible refine e_gdT ?_))
  refine e_opN (v_str (l := [97, 98, 99]) (rd_sl (by decide) (fun _ => ⟨h2, rfl⟩)) (fun c => by cases c)) (.pick (by (repeat constructor)) .nil) ?_
  ((with_reducible refine e_gdT ?_))
  refine e_opN (v_streq (l := [97, 98, 99]) (m := [97, 98, 99])) Imp.nil ?_
  rw [decide_eq_true rfl]
  (((with_reducible refine e_opN v_pickT Imp.nil ?_))); ((with_reducible refine e_gdT ?_)); ((with_reducible refine e_gdT ?_))
  refine e_opN v_eql Imp.nil ?_
  rw [decide_eq_true (by decide)]
  (((with_reducible refine e_opN v_pickT Imp.nil ?_)))
  (first | refine e_ret (()) rfl ?_ | refine e_retT (()) ?_)
  (repeat (first | exact Imp.refl | exact Imp.nil | (apply Imp.pick; (focus ((repeat constructor); done))) | refine Imp.drop ?_))
end Go.Proofs.Ytehfblkpbadikaa.IF
/-! Items of a weight: how they lie, compared, sorted (few of them). No conditions but those that each names. -/
namespace Go.Proofs.Ytehfblkpbadikaa.HF
open Go Go.Proofs Go.RowKit Go.Proofs.Ytehfblkpbadikaa.Sh Go.Proofs.Ytehfblkpbadikaa.Sl Go.Proofs.Ytehfblkpbadikaa.T Go.Proofs.Ytehfblkpbadikaa.HM
section rules
variable {P : Program} {W : World} {L L' : List HP} {Kp : PK} {k : Value → WP} {A : HP}
theorem v_cap {t e ty : TypeId} {s b : Nat} {a : Option Addr} {n cap : Nat} [ht : SlT P t e s b] : RunV P W [] (sCap #[t] ty [.slice a n cap]) (.int .i64 (cap : Int)) := fun w _ => by
  simp [sCap, Builtin.cap_, run_underlying ht.ut, goInt]
theorem v_ldRdA {t : TypeId} {n m g o j : Nat} {cs vs : List Value} [ht : AggT P t n] (H : RdB W A (some ⟨g, o, none⟩) m cs) (hn : vs.length = n) (hc : ∀ i, i < n → cs[j + i]? = vs[i]?) : RunV P W [A] (sLoad t (.pointer (some ⟨g, o + j, none⟩))) (.agg vs.toArray) := fun w hw => by
  have h : (loadCells ⟨g, o + j, none⟩ n).run P w = .ok vs.toArray w := by
    subst hn
    refine run_loadCells_list (P := P) w ⟨g, o + j, none⟩ vs (fun i v hv => ?_)
    have hi : i < vs.length := by
      rcases Nat.lt_or_ge i vs.length with c | c
      · exact c
      · rw [List.getElem?_eq_none c] at hv; cases hv
    have hcv := hc i hi
    rw [hv] at hcv
    have hl := H.len
    have hlt : j + i < cs.length := by
      rcases Nat.lt_or_ge (j + i) cs.length with c | c
      · exact c
      · rw [List.getElem?_eq_none c] at hcv; cases hcv
    obtain ⟨g', o', e, hcell⟩ := H.at_ (by omega)
    injection e with e; injection e with e1 e2; subst e1; subst e2
    rw [addr_add, Nat.add_assoc]
    exact hcell w [] hw (j + i) v hcv
  simp [sLoad, Instr.loadAt, Instr.sureAddr, loadVar, ht.agg, ht.size, h]
theorem put_get {cs rest vs : List Value} {o n j : Nat} (hn : vs.length = n) (ho : o + n ≤ cs.length) : (cs.take o ++ vs ++ cs.drop (o + n) ++ rest)[j]? = if o ≤ j ∧ j < o + n then vs[j - o]? else (cs ++ rest)[j]? := by
  simp only [List.getElem?_append, List.length_append, List.length_take, List.length_drop, hn, Nat.min_eq_left (show o ≤ cs.length by omega), List.getElem?_take, List.getElem?_drop]
  repeat' split
  all_goals first | rfl | omega | (congr 1; omega)
theorem e_stSlA {t e : TypeId} {s n g o cap m : Nat} {cs : List Value} {vs : Array Value} [ht : AggT P t n] (p : Pick L (Sl s e (some ⟨g, 0, none⟩) cap m cs) L') (hv : vs.size = n) (ho : o + n ≤ cs.length) (h1 : ∀ u ∈ vs.toList, u.oneCell' = true)
    (h : Ent W (Sl s e (some ⟨g, 0, none⟩) cap m (cs.take o ++ vs.toList ++ cs.drop (o + n)) :: L') (k undef)) : Ent W L (opN P (sStore t (.pointer (some ⟨g, o, none⟩)) (.agg vs)) Kp k) := fun w hw => by
  obtain ⟨rest, r1, r2, r3, r4, hp⟩ := sl_row (hw.pick p)
  have hst := run_storeCells_cells (P := P) g o vs.toList 0 w (fun j hj => by
    rw [hp.cell, Array.getElem?_eq_getElem (by simp at hj ⊢; omega)]; rfl) (fun j _ => hp.free) h1
  obtain ⟨cs', c1, c2, c3⟩ := setCells_world g (o + 0) vs.toList w _ _ hp
  refine ⟨?_⟩
  have hvl : vs.toList.length = n := by simp [hv]
  have : (sStore t (.pointer (some ⟨g, o, none⟩)) (.agg vs)).run P w = .ok .skip (w.setCells g (o + 0) vs.toList) := by
    simp [sStore, Instr.storeAt, Instr.sureAddr, storeVar, ht.size, Value.cells, hv, hst]
  rw [this]
  refine h _ (sl_back r1 (by simp [hv]; omega) r3 r4 ?_)
  have he : cs' = (cs.take o ++ vs.toList ++ cs.drop (o + n) ++ rest).toArray := by
    apply Array.ext_getElem?
    intro j
    rw [c3]
    simp only [Nat.add_zero, List.size_toArray, List.length_append, List.getElem?_toArray, hvl]
    rw [put_get hvl ho]
    by_cases hj : o ≤ j ∧ j < o + n
    · rw [if_pos hj, if_pos ⟨hj.1, hj.2, by omega⟩]
    · rw [if_neg hj, if_neg (fun c => hj ⟨c.1, c.2.1⟩)]
  rwa [he] at c1
theorem sl_shrink {s : Nat} {e : TypeId} {a : Option Addr} {cap n : Nat} {cs : List Value} (h : Frag) (H : Sl s e a cap n cs W h) : Sl s e a cap 0 [] W h := by
  obtain ⟨h1, h2, h3, h4⟩ := H
  refine ⟨by simp, by omega, h3, ?_⟩
  rcases h4 with h4 | ⟨g, rest, e1, e2, e3⟩
  · exact .inl h4
  · refine .inr ⟨g, cs ++ rest, e1, ?_, by simpa using e3⟩
    rw [List.length_append, h1, e2, Nat.sub_zero, ← Nat.add_mul]; congr 1; omega
theorem e_appZ {t tn ty e : TypeId} {s b n : Nat} [ht : SlT P t e s b] (htn : P.underlying tn = some (.int .i64)) (h0 : 0 < n) (hs : 0 < s) (h1 : n * b ≤ 140737488355328) (h2 : n ≤ 4611686018427387904)
    (h : ∀ g cap, n ≤ cap → Ent W (Sl s e (some ⟨g, 0, none⟩) cap 0 [] :: L) (k (.slice (some ⟨g, 0, none⟩) n cap))) : Ent W L (opN P (sApp #[t, tn] ty [.slice none 0 0, .int .i64 (n : Int)]) Kp k) := fun w hw => by
  obtain ⟨i, z, hi, hz, hs', hb, hzs⟩ := ht.info
  subst hs'; subst hb
  refine ⟨?_⟩
  have hr := Lib.run_append_nil_zeros (P := P) w t tn ty e i z .i64 .i64 ht.ut htn hi hz n h0 hs (by omega) (by omega)
  have : (sApp #[t, tn] ty [.slice none 0 0, .int .i64 (n : Int)]).run P w = .ok (.value (.slice (some ⟨w.heap.size, 0, none⟩) n (grownCap w n 0 e))) (w.drew.alloc (.cells (Builtin.zeroCells z.cells n ++ Builtin.zeroCells z.cells (grownCap w n 0 e - n)) e)) := by simp [sApp, hr]
  rw [this]
  have hge := grownCap_ge w n 0 e
  have hle := grownCap_le_maxLen w n 0 e (by unfold maxLen; omega)
  refine h _ _ hge _ ?_
  have ha := (hw.drew).alloc (.cells (Builtin.zeroCells z.cells n ++ Builtin.zeroCells z.cells (grownCap w n 0 e - n)) e)
  have he : (Builtin.zeroCells z.cells n ++ Builtin.zeroCells z.cells (grownCap w n 0 e - n)) = ([] ++ (Builtin.zeroCells z.cells n ++ Builtin.zeroCells z.cells (grownCap w n 0 e - n)).toList).toArray := by simp
  rw [he] at ha ⊢
  refine sl_back (g := w.heap.size) ?_ (by simp) (by omega) hle ha
  simp only [Array.toList_append, List.length_append, Array.length_toList, size_zeroCells, hzs, Nat.sub_zero]
  rw [← Nat.add_mul]; congr 1; omega
end rules
structure It where
  n : Int
  g : Nat
  c : Nat
  w : List Int
def ic (x : It) : List Value := [I x.n, .slice (some ⟨x.g, 0, none⟩) x.w.length x.c]
theorem ic_len (x : It) : (ic x).length = 2 := rfl
def er (x : It) : Int × List Int := (x.n, x.w)
def av (x : It) : Value := .agg #[I x.n, .slice (some ⟨x.g, 0, none⟩) x.w.length x.c]
theorem ic_one (x : It) : ∀ u ∈ ic x, u.oneCell' = true := by
  intro u hu; simp [ic] at hu; rcases hu with rfl | rfl <;> rfl
theorem ics_one (xs : List It) : ∀ u ∈ xs.flatMap ic, u.oneCell' = true := by
  intro u hu
  obtain ⟨x, _, hx⟩ := List.mem_flatMap.1 hu
  exact ic_one x u hx
theorem ics_len (xs : List It) : (xs.flatMap ic).length = xs.length * 2 := flat_len ic_len xs
theorem ics_set (xs : List It) (j : Nat) (y : It) (h : j < xs.length) : (xs.flatMap ic).take (j * 2) ++ ic y ++ (xs.flatMap ic).drop (j * 2 + 2) = (xs.set j y).flatMap ic := by
  induction xs generalizing j with
  | nil => simp at h
  | cons x xs ih =>
    cases j with
    | zero => simp [ic]
    | succ j =>
      have := ih j (by simpa using h)
      rw [List.set_cons_succ, List.flatMap_cons, List.flatMap_cons, ← this, show (j + 1) * 2 = j * 2 + 1 + 1 by omega, show j * 2 + 1 + 1 + 2 = (j * 2 + 2) + 1 + 1 by omega]
      simp [ic]
theorem cmpInt {W : World} {a b : Int} : Cn Try.prog 45 [.int .i64 a, .int .i64 b] W [] (fun _ : Unit => .int .i64 (if a < b then -1 else if b < a then 1 else 0)) (fun _ => []) := by
  have nan : ∀ x : Int, Cn Try.prog 64 [.int .i64 x] W [] (fun _ : Unit => .bool false) (fun _ => []) := fun x => by
    (refine S.cmp_isNaN_int_cn fun F => ?_; unfold S.cmp_isNaN_int; simp only [List.cons_append, List.nil_append])
    refine e_opN v_neq Imp.nil ?_
    rw [decide_eq_false (by simp)]
    (first | refine e_ret (()) rfl ?_ | refine e_retT (()) ?_)
    exact .refl
  (refine S.cmp_Compare_int_cn fun F => ?_; unfold S.cmp_Compare_int; simp only [List.cons_append, List.nil_append])
  (refine' e_call (nan a) ?hp fun _ => ?_; (case hp => (repeat (first | exact Picks.nil | (apply Picks.cons; (focus (repeat constructor)))))); (try simp only [List.cons_append, List.nil_append, Bool.not_true, Bool.not_false]))
  (refine' e_call (nan b) ?hp fun _ => ?_; (case hp => (repeat (first | exact Picks.nil | (apply Picks.cons; (focus (repeat constructor)))))); (try simp only [List.cons_append, List.nil_append, Bool.not_true, Bool.not_false]))
  ((with_reducible refine e_condF ?_)); ((with_reducible refine e_condF ?_))
  (refine e_ask v_lss Imp.nil (fun h => ?_) (fun h => ?_))
  · rw [if_pos h]
    ((with_reducible refine e_condT ?_))
    (first | refine e_ret (()) rfl ?_ | refine e_retT (()) ?_)
    exact .refl
  rw [if_neg h]
  ((with_reducible refine e_condF ?_))
  (refine e_ask v_gtr Imp.nil (fun h => ?_) (fun h => ?_))
  · rw [if_pos h]
    ((with_reducible refine e_condT ?_))
    (first | refine e_ret (()) rfl ?_ | refine e_retT (()) ?_)
    exact .refl
  · rw [if_neg h]
    ((with_reducible refine e_condF ?_))
    (first | refine e_ret (()) rfl ?_ | refine e_retT (()) ?_)
    exact .refl
theorem cmpIt {W : World} {x y : It} : Cn Try.prog 44 [av x, av y] W [] (fun _ : Unit => .int .i64 (if x.n < y.n then -1 else if y.n < x.n then 1 else 0)) (fun _ => []) := by
  (refine S.huff_Lengths_1_cn fun F => ?_; unfold S.huff_Lengths_1; simp only [List.cons_append, List.nil_append])
  unfold av I
  (((with_reducible refine e_boxA fun g => ?_))); (((with_reducible refine e_boxA fun g => ?_))); (((with_reducible refine e_opN v_fa0 Imp.nil ?_))); (((with_reducible refine' e_opN (v_ldN ?hc) ?hi ?_); (case hi => (repeat (first | exact Imp.refl | exact Imp.nil | (apply Imp.pick; (focus ((repeat constructor); done))) | refine Imp.drop ?_))); (case hc => (repeat (first | exact Nth.here | apply Nth.there))))); (((with_reducible refine e_opN v_fa0 Imp.nil ?_))); (((with_reducible refine' e_opN (v_ldN ?hc) ?hi ?_); (case hi => (repeat (first | exact Imp.refl | exact Imp.nil | (apply Imp.pick; (focus ((repeat constructor); done))) | refine Imp.drop ?_))); (case hc => (repeat (first | exact Nth.here | apply Nth.there)))))
  (refine' e_call (cmpInt) ?hp fun _ => ?_; (case hp => (repeat (first | exact Picks.nil | (apply Picks.cons; (focus (repeat constructor)))))); (try simp only [List.cons_append, List.nil_append, Bool.not_true, Bool.not_false]))
  (first | refine e_ret (()) rfl ?_ | refine e_retT (()) ?_)
  (repeat (first | exact Imp.refl | exact Imp.nil | (apply Imp.pick; (focus ((repeat constructor); done))) | refine Imp.drop ?_))
end Go.Proofs.Ytehfblkpbadikaa.HF
/-! Few items sorted, as they come. No conditions but those that each names. -/
namespace Go.Proofs.Ytehfblkpbadikaa.HF
open Go Go.Proofs Go.RowKit Go.Proofs.Ytehfblkpbadikaa.Sh Go.Proofs.Ytehfblkpbadikaa.Sl Go.Proofs.Ytehfblkpbadikaa.T Go.Proofs.Ytehfblkpbadikaa.HM
theorem rd_slS {P : Program} {W : World} {s : Nat} {e : TypeId} {a : Option Addr} {cap n : Nat} {cs : List Value} (hl : cs.length = n * s) (ha : 0 < n → ∃ g, a = some ⟨g, 0, none⟩) : RdB W (Sl s e a cap n cs) a (n * s) cs := ⟨hl, fun hn => by
  have hn0 : 0 < n := Nat.pos_of_mul_pos_right hn
  obtain ⟨g, rfl⟩ := ha hn0
  refine ⟨g, 0, rfl, fun w L hw j v hv => ?_⟩
  obtain ⟨rest, r1, r2, r3, r4, hp⟩ := sl_row hw
  rw [Nat.zero_add, hp.cell]
  have hj : j < cs.length := by
    rcases Nat.lt_or_ge j cs.length with c | c
    · exact c
    · rw [List.getElem?_eq_none c] at hv; cases hv
  simpa [List.getElem?_append_left hj] using hv⟩
/-- an item loaded whole -/
theorem v_ldIt {W : World} {A : HP} {g o j : Nat} {ys : List It} (H : RdB W A (some ⟨g, o, none⟩) (ys.length * 2) (ys.flatMap ic)) (hj : j < ys.length) : RunV Try.prog W [A] (sLoad 86 (.pointer (some ⟨g, o + j * 2, none⟩))) (av ys[j]) :=
  v_ldRdA (vs := ic ys[j]) H (by rfl) fun i hi => flat_get ic_len ys j i hj hi
section spec
variable {α : Type} (key : α → Int)
def insAt (acc : List α) (x : α) : Nat → List α
  | 0 => x :: acc
  | j + 1 => match acc[j]? with
    | some y => if key x < key y then insAt acc x j else acc.take (j + 1) ++ x :: acc.drop (j + 1)
    | none => acc ++ [x]
def insR (acc : List α) (x : α) : List α := insAt key acc x acc.length
def isort (xs : List α) : List α := xs.foldl (insR key) []
theorem length_insAt (acc : List α) (x : α) : ∀ j, (insAt key acc x j).length = acc.length + 1
  | 0 => by simp [insAt]
  | j + 1 => by
    unfold insAt
    split
    · split
      · exact length_insAt acc x j
      · simp; omega
    · simp
theorem isort_snoc (xs : List α) (x : α) : isort key (xs ++ [x]) = insR key (isort key xs) x := by simp [isort]
theorem length_isort (xs : List α) : (isort key xs).length = xs.length := by
  have : ∀ n, ∀ xs : List α, xs.length = n → (isort key xs).length = n := by
    intro n
    induction n with
    | zero => intro xs h; rw [List.eq_nil_of_length_eq_zero h]; rfl
    | succ n ih =>
      intro xs h
      have e := List.take_append_drop n xs
      obtain ⟨x, hx⟩ : ∃ x, xs.drop n = [x] := List.length_eq_one_iff.1 (by simp; omega)
      rw [hx] at e
      rw [← e, isort_snoc, insR, length_insAt, ih _ (by simp; omega)]
  exact this _ xs rfl
theorem insAt_map {β : Type} (k2 : β → Int) (f : α → β) (hk : ∀ x, k2 (f x) = key x) (acc : List α) (x : α) : ∀ j, (insAt key acc x j).map f = insAt k2 (acc.map f) (f x) j
  | 0 => by simp [insAt]
  | j + 1 => by
    unfold insAt
    rw [List.getElem?_map]
    cases h : acc[j]? with
    | none => simp
    | some y =>
      simp only [Option.map_some, hk]
      split
      · exact insAt_map k2 f hk acc x j
      · simp [List.map_take, List.map_drop]
theorem isort_map {β : Type} (k2 : β → Int) (f : α → β) (hk : ∀ x, k2 (f x) = key x) (xs : List α) : (isort key xs).map f = isort k2 (xs.map f) := by
  have : ∀ (xs acc : List α), (xs.foldl (insR key) acc).map f = (xs.map f).foldl (insR k2) (acc.map f) := by
    intro xs
    induction xs with
    | nil => intro acc; rfl
    | cons x xs ih =>
      intro acc
      rw [List.foldl_cons, ih, List.map_cons, List.foldl_cons]
      congr 1
      unfold insR
      rw [insAt_map key k2 f hk, List.length_map]
  exact this xs []
theorem mem_insAt (acc : List α) (x y : α) : ∀ j, y ∈ insAt key acc x j → y = x ∨ y ∈ acc
  | 0, h => by simpa [insAt] using h
  | j + 1, h => by
    unfold insAt at h
    split at h
    · split at h
      · exact mem_insAt acc x y j h
      · rcases List.mem_append.1 h with c | c
        · exact .inr (List.mem_of_mem_take c)
        · rcases List.mem_cons.1 c with c | c
          · exact .inl c
          · exact .inr (List.mem_of_mem_drop c)
    · rcases List.mem_append.1 h with c | c
      · exact .inr c
      · exact .inl (by simpa using c)
theorem mem_isort (xs : List α) (y : α) (h : y ∈ isort key xs) : y ∈ xs := by
  have : ∀ (xs acc : List α), y ∈ xs.foldl (insR key) acc → y ∈ xs ∨ y ∈ acc := by
    intro xs
    induction xs with
    | nil => intro acc h; exact .inr h
    | cons x xs ih =>
      intro acc h
      rw [List.foldl_cons] at h
      rcases ih _ h with c | c
      · exact .inl (List.mem_cons_of_mem _ c)
      · rcases mem_insAt key acc x y _ c with d | d
        · exact .inl (by rw [d]; exact List.mem_cons_self)
        · exact .inr d
  rcases this xs [] h with c | c
  · exact c
  · cases c
end spec
theorem swap_lem {α : Type} (p q : List α) (y x : α) : ((p ++ y :: x :: q).set (p.length + 1) y).set p.length x = p ++ x :: y :: q := by
  rw [List.set_append_right _ _ (by omega), List.set_append_right _ _ (by omega), show p.length + 1 - p.length = 1 by omega, Nat.sub_self]; rfl
theorem insertion {W : World} {a : Option Addr} {cap c : Nat} {xs : List It} (hx : xs.length ≤ 1099511627776) :
    Cn Try.prog 80 [.slice a xs.length c, .int .i64 0, .int .i64 (xs.length : Int), fn 44] W [Sl 2 86 a cap xs.length (xs.flatMap ic)] (fun _ : Unit => .tuple #[]) (fun _ => [Sl 2 86 a cap xs.length ((isort It.n xs).flatMap ic)]) := by
  (refine S.slices_insertionSortCmpFunc_huff_weighed_int_cn fun F => ?_; unfold S.slices_insertionSortCmpFunc_huff_weighed_int; simp only [List.cons_append, List.nil_append])
  (((with_reducible refine e_opN (v_add ?h1 ?h2) Imp.nil ?_); (case h1 => omega); (case h2 => omega)))
  refine e_slfacts .here fun f1 f2 f3 f4 => ?_
  refine e_loop1 (fun m y => [ex fun i : Nat => all [pu (m + i = xs.length + 1 ∧ 1 ≤ i ∧ y = .int .i64 (i : Int)), Sl 2 86 a cap xs.length ((isort It.n (xs.take i) ++ xs.drop i).flatMap ic)]] ++ F) xs.length ?_ ?_
  · refine Imp.ex 1 (.all ?_)
    (try simp only [List.cons_append, List.nil_append, -eq_self])
    refine .pu ⟨by omega, by omega, by rfl⟩ ?_
    have e : isort It.n (xs.take 1) ++ xs.drop 1 = xs := by
      cases xs with
      | nil => rfl
      | cons x xs => rfl
    rw [e]
    (repeat (first | exact Imp.refl | exact Imp.nil | (apply Imp.pick; (focus ((repeat constructor); done))) | refine Imp.drop ?_))
  intro m ds y
  (try simp only [List.cons_append, List.nil_append, -eq_self])
  refine e_ex Pick.here fun i => e_all Pick.here ?_
  (try simp only [List.cons_append, List.nil_append, -eq_self])
  refine e_pu Pick.here fun hi => ?_
  obtain ⟨hmi, hi1, rfl⟩ := hi
  (refine e_ask v_lss Imp.nil (fun h => ?_) (fun h => ?_))
  · have hil : i < xs.length := by omega
    obtain ⟨g, rfl⟩ := f4 (by omega)
    obtain ⟨acc, hacc⟩ : ∃ acc, acc = isort It.n (xs.take i) := ⟨_, rfl⟩
    have hal : acc.length = i := by rw [hacc, length_isort, List.length_take]; omega
    have hdrop : xs.drop i = xs[i] :: xs.drop (i + 1) := List.drop_eq_getElem_cons hil
    have hnext : isort It.n (xs.take (i + 1)) = insR It.n acc xs[i] := by rw [List.take_succ_eq_append_getElem hil, isort_snoc, hacc]
    rw [← hacc, hdrop]
    refine e_condT ?_
    refine e_loop1 (fun m y => [ex fun j : Nat => all [pu (m = j ∧ j ≤ i ∧ y = .int .i64 (j : Int) ∧ insR It.n acc xs[i] = insAt It.n acc xs[i] j), Sl 2 86 (some ⟨g, 0, none⟩) cap xs.length ((acc.take j ++ xs[i] :: (acc.drop j ++ xs.drop (i + 1))).flatMap ic)]] ++ F) i ?_ ?_
    · refine Imp.ex i (.all ?_)
      (try simp only [List.cons_append, List.nil_append, -eq_self])
      refine .pu ⟨rfl, by omega, rfl, by unfold insR; rw [hal]⟩ ?_
      rw [List.take_of_length_le (by omega), List.drop_eq_nil_of_le (show acc.length ≤ i by omega), List.nil_append]
      (repeat (first | exact Imp.refl | exact Imp.nil | (apply Imp.pick; (focus ((repeat constructor); done))) | refine Imp.drop ?_))
    intro m2 ds y
    (try simp only [List.cons_append, List.nil_append, -eq_self])
    refine e_ex Pick.here fun j => e_all Pick.here ?_
    (try simp only [List.cons_append, List.nil_append, -eq_self])
    refine e_pu Pick.here fun hj => ?_
    obtain ⟨rfl, hji, rfl, hins⟩ := hj
    have done : insR It.n acc xs[i] = acc.take m2 ++ xs[i] :: acc.drop m2 → Ent W (Sl 2 86 (some ⟨g, 0, none⟩) cap xs.length ((acc.take m2 ++ xs[i] :: (acc.drop m2 ++ xs.drop (i + 1))).flatMap ic) :: F) (next1 (fun m y w => sat W ([ex fun i : Nat => all [pu (m + i = xs.length + 1 ∧ 1 ≤ i ∧ y = .int .i64 (i : Int)), Sl 2 86 (some ⟨g, 0, none⟩) cap xs.length ((isort It.n (xs.take i) ++ xs.drop i).flatMap ic)]] ++ F) w) m (.int .i64 ((i : Int) + 1))) := by
      intro he
      refine e_next1 (m - 1) (by omega) (.ex (i + 1) (.all ?_))
      (try simp only [List.cons_append, List.nil_append, -eq_self])
      refine .pu ⟨by omega, by omega, by norm_cast⟩ ?_
      rw [hnext, he, List.append_assoc, List.cons_append]
      (repeat (first | exact Imp.refl | exact Imp.nil | (apply Imp.pick; (focus ((repeat constructor); done))) | refine Imp.drop ?_))
    ((with_reducible refine e_drS ?_))
    refine e_askS v_gtr Imp.nil (fun h => ?_) (fun h => ?_)
    · obtain ⟨j, rfl⟩ : ∃ j, m2 = j + 1 := ⟨m2 - 1, by omega⟩
      have hja : j < acc.length := by omega
      obtain ⟨p, hp⟩ : ∃ p, p = acc.take j := ⟨_, rfl⟩
      obtain ⟨q, hq⟩ : ∃ q, q = acc.drop (j + 1) ++ xs.drop (i + 1) := ⟨_, rfl⟩
      have hpl : p.length = j := by rw [hp, List.length_take]; omega
      have htk : acc.take (j + 1) = p ++ [acc[j]] := by rw [hp, List.take_succ_eq_append_getElem hja]
      have hys : acc.take (j + 1) ++ xs[i] :: (acc.drop (j + 1) ++ xs.drop (i + 1)) = p ++ acc[j] :: xs[i] :: q := by rw [htk, hq]; simp
      rw [hys] at done
      rw [hys]
      have hyl : (p ++ acc[j] :: xs[i] :: q).length = xs.length := by
        rw [← hys]; simp; omega
      have hrd : RdB W (Sl 2 86 (some ⟨g, 0, none⟩) cap xs.length ((p ++ acc[j] :: xs[i] :: q).flatMap ic)) (some ⟨g, 0, none⟩) ((p ++ acc[j] :: xs[i] :: q).length * 2) ((p ++ acc[j] :: xs[i] :: q).flatMap ic) := by
        rw [hyl]; exact rd_slS (P := Try.prog) (by rw [ics_len, hyl]) (fun _ => ⟨g, rfl⟩)
      have g1 : (p ++ acc[j] :: xs[i] :: q)[j + 1]'(by omega) = xs[i] := by
        rw [List.getElem_append_right (by omega)]; simp [hpl]
      have g0 : (p ++ acc[j] :: xs[i] :: q)[j]'(by omega) = acc[j] := by
        rw [List.getElem_append_right (by omega)]; simp [hpl]
      have ld1 := v_ldIt hrd (j := j + 1) (by omega)
      have ld0 := v_ldIt hrd (j := j) (by omega)
      rw [g1] at ld1
      rw [g0] at ld0
      ((with_reducible refine e_gdT ?_)); ((with_reducible refine e_gdT ?_)); ((with_reducible refine e_gdT ?_)); ((with_reducible refine e_gdT ?_))
      refine e_stS (v_ia (j + 1) (by rfl) (by omega)) Imp.nil ?_
      ((with_reducible refine e_gdT ?_))
      refine e_stS ld1 (.pick .here .nil) ?_
      ((with_reducible refine e_gdT ?_)); ((with_reducible refine e_gdT ?_)); ((with_reducible refine e_gdT ?_)); (((with_reducible refine e_stS (v_sub ?h1 ?h2) Imp.nil ?_); (case h1 => omega); (case h2 => omega))); ((with_reducible refine e_gdT ?_))
      refine e_stS (v_ia j (by omega) (by omega)) Imp.nil ?_
      ((with_reducible refine e_gdT ?_))
      refine e_stS ld0 (.pick .here .nil) ?_
      ((with_reducible refine e_gdT ?_))
      (refine' e_call (cmpIt) ?hp fun _ => ?_; (case hp => (repeat (first | exact Picks.nil | (apply Picks.cons; (focus (repeat constructor)))))); (try simp only [List.cons_append, List.nil_append, Bool.not_true, Bool.not_false]))
      ((with_reducible refine e_gdT ?_))
      refine e_askS v_lss Imp.nil (fun h2 => ?_) (fun h2 => ?_)
      · have hlt : xs[i].n < acc[j].n := by
          by_cases c : xs[i].n < acc[j].n
          · exact c
          · rw [if_neg c] at h2; split at h2 <;> omega
        (((with_reducible refine e_stS v_pickT Imp.nil ?_))); ((with_reducible refine e_condT ?_)); ((with_reducible refine e_drS ?_)); (((with_reducible refine e_stD (v_sub ?h1 ?h2) Imp.nil ?_); (case h1 => omega); (case h2 => omega))); (((with_reducible refine e_stS (v_sub ?h1 ?h2) Imp.nil ?_); (case h1 => omega); (case h2 => omega)))
        refine e_stS (v_ia j (by omega) (by omega)) Imp.nil ?_
        refine e_stS ld0 (.pick .here .nil) ?_
        refine e_stS (v_ia (j + 1) (by rfl) (by omega)) Imp.nil ?_
        refine e_stS ld1 (.pick .here .nil) ?_
        refine e_stS (v_ia (j + 1) (by rfl) (by omega)) Imp.nil ?_
        rw [Nat.zero_add]
        refine e_stSlA .here (by rfl) (by rw [ics_len]; omega) (ic_one acc[j]) ?_
        rw [show ((p ++ acc[j] :: xs[i] :: q).flatMap ic).take ((j + 1) * 2) ++ (#[I acc[j].n, Value.slice (some ⟨acc[j].g, 0, none⟩) acc[j].w.length acc[j].c] : Array Value).toList ++ ((p ++ acc[j] :: xs[i] :: q).flatMap ic).drop ((j + 1) * 2 + 2) = ((p ++ acc[j] :: xs[i] :: q).set (j + 1) acc[j]).flatMap ic from ics_set _ (j + 1) acc[j] (by omega)]
        (((with_reducible refine e_obl ?hi ?_); (case hi => (repeat (first | exact Imp.refl | exact Imp.nil | (apply Imp.pick; (focus ((repeat constructor); done))) | refine Imp.drop ?_)))))
        refine e_stS (v_ia j (by omega) (by omega)) Imp.nil ?_
        rw [Nat.zero_add]
        refine e_stSlA .here (by rfl) (by rw [ics_len, List.length_set]; omega) (ic_one xs[i]) ?_
        rw [show (((p ++ acc[j] :: xs[i] :: q).set (j + 1) acc[j]).flatMap ic).take (j * 2) ++ (#[I xs[i].n, Value.slice (some ⟨xs[i].g, 0, none⟩) xs[i].w.length xs[i].c] : Array Value).toList ++ (((p ++ acc[j] :: xs[i] :: q).set (j + 1) acc[j]).flatMap ic).drop (j * 2 + 2) = (((p ++ acc[j] :: xs[i] :: q).set (j + 1) acc[j]).set j xs[i]).flatMap ic from ics_set _ j xs[i] (by rw [List.length_set]; omega)]
        have hsw := swap_lem p q acc[j] xs[i]
        rw [hpl] at hsw
        rw [hsw]
        (((with_reducible refine e_opN (v_sub ?h1 ?h2) Imp.nil ?_); (case h1 => omega); (case h2 => omega)))
        refine e_next1 j (by omega) (.ex j (.all ?_))
        (try simp only [List.cons_append, List.nil_append, -eq_self])
        refine .pu ⟨rfl, by omega, by congr 1; omega, ?_⟩ ?_
        · rw [hins]
          conv => lhs; unfold insAt
          rw [List.getElem?_eq_getElem hja]
          simp only
          rw [if_pos hlt]
        · rw [show acc.take j ++ xs[i] :: (acc.drop j ++ xs.drop (i + 1)) = p ++ xs[i] :: acc[j] :: q by rw [hp, hq, List.drop_eq_getElem_cons hja]; rfl]
          (repeat (first | exact Imp.refl | exact Imp.nil | (apply Imp.pick; (focus ((repeat constructor); done))) | refine Imp.drop ?_))
      · have hge : ¬ xs[i].n < acc[j].n := fun c => h2 (by rw [if_pos c]; omega)
        (((with_reducible refine e_stS v_pickT Imp.nil ?_))); ((with_reducible refine e_condF ?_)); (((with_reducible refine e_opN (v_add ?h1 ?h2) Imp.nil ?_); (case h1 => omega); (case h2 => omega)))
        refine done ?_
        rw [hins]
        conv => lhs; unfold insAt
        rw [List.getElem?_eq_getElem hja]
        simp only
        rw [if_neg hge]
    · have : m2 = 0 := by omega
      subst this
      ((with_reducible refine e_gdF2 ?_)); ((with_reducible refine e_gdF2 ?_)); ((with_reducible refine e_gdF2 ?_)); ((with_reducible refine e_gdF2 ?_)); ((with_reducible refine e_gdF2 ?_)); ((with_reducible refine e_gdF2 ?_)); ((with_reducible refine e_gdF2 ?_)); ((with_reducible refine e_gdF2 ?_)); ((with_reducible refine e_gdF2 ?_)); ((with_reducible refine e_gdF2 ?_)); ((with_reducible refine e_gdF2 ?_)); ((with_reducible refine e_gdF2 ?_)); (((with_reducible refine e_stS v_pickF Imp.nil ?_))); ((with_reducible refine e_condF ?_)); (((with_reducible refine e_opN (v_add ?h1 ?h2) Imp.nil ?_); (case h1 => omega); (case h2 => omega)))
      exact done (by rw [hins]; rfl)
  · refine e_condF ?_
    rw [List.take_of_length_le (by omega), List.drop_eq_nil_of_le (by omega), List.append_nil]
    (first | refine e_ret (()) rfl ?_ | refine e_retT (()) ?_)
    (repeat (first | exact Imp.refl | exact Imp.nil | (apply Imp.pick; (focus ((repeat constructor); done))) | refine Imp.drop ?_))
theorem sorted {W : World} {a : Option Addr} {cap c : Nat} {xs : List It} (hx : xs.length < 20) :
    Cn Try.prog 43 [.slice a xs.length c, fn 44] W [Sl 2 86 a cap xs.length (xs.flatMap ic)] (fun _ : Unit => .tuple #[]) (fun _ => [Sl 2 86 a cap xs.length ((isort It.n xs).flatMap ic)]) := by
  have inner : Cn Try.prog 63 [.slice a xs.length c, .int .i64 (xs.length : Int), fn 44] W [Sl 2 86 a cap xs.length (xs.flatMap ic)] (fun _ : Unit => .tuple #[]) (fun _ => [Sl 2 86 a cap xs.length ((isort It.n xs).flatMap ic)]) := by
    (refine S.slices_stableCmpFunc_huff_weighed_int_cn fun F => ?_; unfold S.slices_stableCmpFunc_huff_weighed_int; simp only [List.cons_append, List.nil_append])
    refine e_loop2 (fun m x y => [pu (x = .int .i64 0 ∧ y = .int .i64 20), Sl 2 86 a cap xs.length (xs.flatMap ic)] ++ F) 1 ?_ ?_
    · (try simp only [List.cons_append, List.nil_append, -eq_self])
      exact .pu ⟨rfl, rfl⟩ .refl
    intro m ds x y
    (try simp only [List.cons_append, List.nil_append, -eq_self])
    refine e_pu Pick.here fun hxy => ?_
    obtain ⟨rfl, rfl⟩ := hxy
    refine e_opN v_leq Imp.nil ?_
    rw [decide_eq_false (by omega)]
    ((with_reducible refine e_condF ?_))
    (refine' e_call (insertion (by omega)) ?hp fun _ => ?_; (case hp => (repeat (first | exact Picks.nil | (apply Picks.cons; (focus (repeat constructor)))))); (try simp only [List.cons_append, List.nil_append, Bool.not_true, Bool.not_false]))
    refine e_loop1 (fun m y => [pu (y = .int .i64 20), Sl 2 86 a cap xs.length ((isort It.n xs).flatMap ic)] ++ F) 1 ?_ ?_
    · (try simp only [List.cons_append, List.nil_append, -eq_self])
      exact .pu rfl .refl
    intro m ds y
    (try simp only [List.cons_append, List.nil_append, -eq_self])
    refine e_pu Pick.here fun hy => ?_
    subst hy
    refine e_opN v_lss Imp.nil ?_
    rw [decide_eq_false (by omega)]
    ((with_reducible refine e_condF ?_))
    (first | refine e_ret (()) rfl ?_ | refine e_retT (()) ?_)
    (repeat (first | exact Imp.refl | exact Imp.nil | (apply Imp.pick; (focus ((repeat constructor); done))) | refine Imp.drop ?_))
  (refine S.slices_SortStableFunc_huff_weighed_int_huff_weighed_int_cn fun F => ?_; unfold S.slices_SortStableFunc_huff_weighed_int_huff_weighed_int; simp only [List.cons_append, List.nil_append])
  (((with_reducible refine e_opN v_len Imp.nil ?_)))
  (refine' e_call (inner) ?hp fun _ => ?_; (case hp => (repeat (first | exact Picks.nil | (apply Picks.cons; (focus (repeat constructor)))))); (try simp only [List.cons_append, List.nil_append, Bool.not_true, Bool.not_false]))
  (first | refine e_ret (()) rfl ?_ | refine e_retT (()) ?_)
  (repeat (first | exact Imp.refl | exact Imp.nil | (apply Imp.pick; (focus ((repeat constructor); done))) | refine Imp.drop ?_))
end Go.Proofs.Ytehfblkpbadikaa.HF
/-! Joined lists, merged rows. No conditions but those that each names. -/
namespace Go.Proofs.Ytehfblkpbadikaa.HF
open Go Go.Proofs Go.RowKit Go.Proofs.Ytehfblkpbadikaa.Sh Go.Proofs.Ytehfblkpbadikaa.Sl Go.Proofs.Ytehfblkpbadikaa.T Go.Proofs.Ytehfblkpbadikaa.HM
section rules
variable {P : Program} {W : World} {L L' L'' : List HP} {Kp : PK} {k : Value → WP} {A : HP}
theorem rd_none {a : Option Addr} {n : Nat} {cs : List Value} (h : RdB W A a n cs) (c : a = none) : n = 0 := by
  rcases Nat.eq_zero_or_pos n with z | z
  · exact z
  · obtain ⟨_, _, e, _⟩ := h.at_ z
    rw [c] at e; cases e
theorem no_none {n : Nat} {a : Option Addr} (h : 0 < n → ∃ g, a = some ⟨g, 0, none⟩) (c : a = none) : n = 0 := by
  rcases Nat.eq_zero_or_pos n with z | z
  · exact z
  · obtain ⟨_, e⟩ := h z
    rw [c] at e; cases e
theorem e_mksl0 {t e : TypeId} {s b : Nat} {q r : IntKind} {c : Int} (m : Nat) [ht : SlT P t e s b] (hcm : c = (m : Int)) (h2 : b * m ≤ 281474976710656) (h3 : m ≤ maxLen)
    (h : ∀ g, Ent W (Sl s e (some ⟨g, 0, none⟩) m 0 [] :: L) (k (.slice (some ⟨g, 0, none⟩) 0 m))) : Ent W L (opN P (sMkSl t (.int q 0) (.int r c)) Kp k) := fun w hw => by
  refine ⟨?_⟩
  obtain ⟨i, z, hi, hz, hs, hb, hzs⟩ := ht.info
  subst hcm
  have hbm : (i.bytes : Int) * (m : Int) ≤ 281474976710656 := by
    rw [hb]
    obtain ⟨X, hX⟩ : ∃ X, X = b * m := ⟨_, rfl⟩
    have h4 : (X : Int) ≤ 281474976710656 := by omega
    rw [hX, Int.natCast_mul] at h4
    exact h4
  have hr := run_make (P := P) (w := w) t e i z ht.ut hi hz q r 0 m (by omega) (by omega) hbm (by unfold maxLen at h3; omega)
  simp only [Int.toNat_natCast, hs] at hr
  have : (sMkSl t (.int q 0) (.int r m)).run P w = .ok (.value (.slice (some ⟨w.heap.size, 0, none⟩) 0 m)) (w.alloc (.cells (madeCells z.cells (m * s)) e)) := by
    simp [sMkSl, hr]
  rw [this]
  refine h _ _ ?_
  have ha := hw.alloc (.cells (madeCells z.cells (m * s)) e)
  have he : madeCells z.cells (m * s) = ([] ++ (madeCells z.cells (m * s)).toList).toArray := by simp
  rw [he] at ha ⊢
  exact sl_back (by simp [madeCells]) (by simp) (by omega) h3 ha
end rules
/-- what items' lists are: they stay -/
def Arena (xs : List It) : HP := fun _ h => ∀ x ∈ xs, ∃ rest : List Value, h x.g = some (.cells (x.w.map I ++ rest).toArray 3 (0, 0))
theorem rd_ar {W : World} {xs : List It} {x : It} (hx : x ∈ xs) : RdB W (Arena xs) (some ⟨x.g, 0, none⟩) x.w.length (x.w.map I) := ⟨by simp, fun hn => ⟨x.g, 0, rfl, fun w L hw j v hv => by
  obtain ⟨f, ⟨h1, h2, ha, hl, d, s1, s2⟩, b⟩ := hw.heap
  obtain ⟨rest, hr⟩ := ha x hx
  have hg := (b x.g _ (s1 x.g _ hr)).2
  rw [Nat.zero_add]
  have hj : j < (x.w.map I).length := by
    rcases Nat.lt_or_ge j (x.w.map I).length with c | c
    · exact c
    · rw [List.getElem?_eq_none c] at hv; cases hv
  have hv2 : (x.w.map I ++ rest)[j]? = some v := by rw [List.getElem?_append_left hj]; exact hv
  simp [World.cell?, hg, hv2]⟩⟩
theorem e_ar {W : World} {L L' L'' : List HP} {S : WP} {g cap n : Nat} {xs : List It} {x : It} (hx : x.g = g) (p : Pick L (Sl 1 3 (some ⟨g, 0, none⟩) cap n (x.w.map I)) L') (p' : Pick L' (Arena xs) L'') (h : Ent W (Arena (x :: xs) :: L'') S) : Ent W L S := fun w hw => by
  have h1 := hw.pick p
  refine h w (sat.map (L := Sl 1 3 (some ⟨g, 0, none⟩) cap n (x.w.map I) :: L') (fun f hf => ?_) h1)
  have h2 := star_assoc' (star_mono (fun _ => p'.all) hf)
  obtain ⟨f1, f2, ⟨u1, u2, ha, hb, hd, t1, t2⟩, r⟩ := h2
  refine ⟨f1, f2, fun y hy => ?_, r⟩
  rcases List.mem_cons.1 hy with rfl | hy
  · obtain ⟨q1, q2, q3, q4⟩ := ha
    rcases q4 with ⟨c, _⟩ | ⟨g', rest, c, e1, e2⟩
    · cases c
    · injection c with c; injection c with c; subst c
      exact ⟨rest, by rw [hx]; exact t1 _ _ e2⟩
  · obtain ⟨rest, hr⟩ := hb y hy
    exact ⟨rest, t2 _ _ hr⟩
theorem imp_ar0 {W : World} {L M : List HP} (h : Imp W L M) : Imp W L (Arena [] :: M) := .conv (B := pu True) (fun f _ x hx => by cases hx) (.pu trivial h)
theorem grow {W : World} {n : Nat} (h0 : 0 < n) (hn : n ≤ 1099511627776) :
    Cn Try.prog 65 [.slice none 0 0, .int .i64 (n : Int)] W [] (fun q : Nat × Nat => .slice (some ⟨q.1, 0, none⟩) 0 q.2) (fun q => [Sl 1 3 (some ⟨q.1, 0, none⟩) q.2 0 []]) := by
  (refine S.slices_Grow_int_int_cn fun F => ?_; unfold S.slices_Grow_int_int; simp only [List.cons_append, List.nil_append])
  refine e_cut0 F ?_ ?_
  · intro ds
    refine e_opN v_cap Imp.nil ?_
    (((with_reducible refine e_opN v_len Imp.nil ?_))); (((with_reducible refine e_opN (v_sub ?h1 ?h2) Imp.nil ?_); (case h1 => omega); (case h2 => omega))); (((with_reducible refine e_opN (v_sub ?h1 ?h2) Imp.nil ?_); (case h1 => omega); (case h2 => omega)))
    refine e_opN v_gtr Imp.nil ?_
    rw [decide_eq_true (by omega)]
    refine e_condT ?_
    refine e_opN v_cap Imp.nil ?_
    refine e_opN (v_slh 0 (by rfl) (by omega)) Imp.nil ?_
    rw [if_pos rfl, show (n : Int) - (((0 : Nat) : Int) - ((0 : Nat) : Int)) = (n : Int) by omega]
    refine e_appZ (by kernel_rfl) h0 (by omega) (by omega) (by omega) fun g cap hc => ?_
    (((with_reducible refine e_opN v_len Imp.nil ?_)))
    refine e_opN (v_slh 0 (by rfl) (by omega)) Imp.nil ?_
    rw [if_neg (by omega), show (Option.map (fun x : Addr => x.add (0 * 1)) (some ⟨g, 0, none⟩)) = some ⟨g, 0, none⟩ by simp [addr_add]]
    refine e_ret (g, cap) rfl ?_
    (repeat (first | exact Imp.refl | exact Imp.nil | (apply Imp.pick; (focus ((repeat constructor); done))) | refine Imp.drop ?_))
  · (refine e_ask v_lss Imp.nil (fun h => ?_) (fun h => ?_))
    · omega
    ((with_reducible refine e_condF ?_))
    refine e_sat ?_
    (repeat (first | exact Imp.refl | exact Imp.nil | (apply Imp.pick; (focus ((repeat constructor); done))) | refine Imp.drop ?_))
def sz (m n : Nat) : Nat → Nat
  | 0 => 0
  | 1 => m
  | _ => m + n
def ac (x y : List Int) : Nat → List Int
  | 0 => []
  | 1 => x
  | _ => x ++ y
theorem ac_len (x y : List Int) : ∀ i, (ac x y i).length = sz x.length y.length i
  | 0 => rfl
  | 1 => rfl
  | i + 2 => by simp [ac, sz]
theorem concat {W : World} {A : HP} {g c1 c2 : Nat} {a1 a2 : Option Addr} {x y : List Int} {T : TypeId} (h1 : RdB W A a1 x.length (x.map I)) (h2 : RdB W A a2 y.length (y.map I)) (hx : 0 < x.length) (b1 : x.length ≤ 1073741824) (b2 : y.length ≤ 1073741824) :
    Cn Try.prog 46 [.slice (some ⟨g, 0, none⟩) 2 2] W [pt g (.cells #[.slice a1 x.length c1, .slice a2 y.length c2] T (0, 0)), A] (fun q : Nat × Nat => .slice (some ⟨q.1, 0, none⟩) (x.length + y.length) q.2) (fun q => [Sl 1 3 (some ⟨q.1, 0, none⟩) q.2 (x.length + y.length) ((x ++ y).map I), A]) := by
  (refine S.slices_Concat_int_int_cn fun F => ?_; unfold S.slices_Concat_int_int; simp only [List.cons_append, List.nil_append])
  (((with_reducible refine e_opN v_len Imp.nil ?_)))
  refine e_loop2 (fun m u v => [pu (∃ i : Nat, m + i = 2 ∧ v = .int .i64 (i : Int) ∧ u = .int .i64 (sz x.length y.length i : Int)), pt g (.cells #[.slice a1 x.length c1, .slice a2 y.length c2] T (0, 0)), A] ++ F) 2 ?_ ?_
  · (try simp only [List.cons_append, List.nil_append, -eq_self])
    exact .pu ⟨0, by omega, rfl, rfl⟩ .refl
  intro m ds u v
  (try simp only [List.cons_append, List.nil_append, -eq_self])
  refine e_pu Pick.here fun hi => ?_
  obtain ⟨i, hmi, rfl, rfl⟩ := hi
  have hszi : sz x.length y.length i ≤ 2147483648 := by unfold sz; split <;> omega
  (refine e_ask v_lss Imp.nil (fun h => ?_) (fun h => ?_))
  · have hi2 : i = 0 ∨ i = 1 := by omega
    obtain ⟨ai, ni, ci, hcell, hni, hsz⟩ : ∃ (ai : Option Addr) (ni ci : Nat), (#[.slice a1 x.length c1, .slice a2 y.length c2] : Array Value)[0 + i]? = some (.slice ai ni ci) ∧ ni ≤ 1073741824 ∧ sz x.length y.length i + ni = sz x.length y.length (i + 1) := by
      rcases hi2 with rfl | rfl
      · exact ⟨a1, x.length, c1, rfl, b1, by simp [sz]⟩
      · exact ⟨a2, y.length, c2, rfl, b2, by simp [sz]⟩
    refine e_condT ?_
    refine e_opN (v_ia1 i (by rfl) (by omega)) Imp.nil ?_
    refine e_opN (v_ld hcell) (.pick .here .nil) ?_
    (((with_reducible refine e_opN v_len Imp.nil ?_))); (((with_reducible refine e_opN (v_add ?h1 ?h2) Imp.nil ?_); (case h1 => omega); (case h2 => omega)))
    (refine e_ask v_lss Imp.nil (fun h => ?_) (fun h => ?_))
    · omega
    ((with_reducible refine e_condF ?_)); (((with_reducible refine e_opN (v_add ?h1 ?h2) Imp.nil ?_); (case h1 => omega); (case h2 => omega)))
    refine e_next2 (m - 1) (by omega) ?_
    (try simp only [List.cons_append, List.nil_append, -eq_self])
    exact .pu ⟨i + 1, by omega, by norm_cast, by rw [← hsz]; norm_cast⟩ .refl
  · have hi2 : i = 2 := by omega
    subst hi2
    refine e_condF ?_
    (refine' e_call (grow (n := x.length + y.length) (by omega) (by omega)) ?hp fun _ => ?_; (case hp => (repeat (first | exact Picks.nil | (apply Picks.cons; (focus (repeat constructor)))))); (try simp only [List.cons_append, List.nil_append, Bool.not_true, Bool.not_false]))
    rename_i q
    obtain ⟨qg, qc⟩ := q
    (((with_reducible refine e_opN v_len Imp.nil ?_)))
    refine e_loop2 (fun m u v => [ex fun q : Option Addr × Nat => all [pu (∃ i : Nat, m + i = 2 ∧ v = .int .i64 (i : Int) ∧ u = .slice q.1 (sz x.length y.length i) q.2), ex fun i : Nat => all [pu (m + i = 2), Sl 1 3 q.1 q.2 (sz x.length y.length i) ((ac x y i).map I)]], pt g (.cells #[.slice a1 x.length c1, .slice a2 y.length c2] T (0, 0)), A] ++ F) 2 ?_ ?_
    · refine .ex (some ⟨qg, 0, none⟩, qc) (.all ?_)
      (try simp only [List.cons_append, List.nil_append, -eq_self])
      refine .pu ⟨0, by omega, rfl, rfl⟩ (.ex 0 (.all ?_))
      (try simp only [List.cons_append, List.nil_append, -eq_self])
      exact .pu (by omega) (.pick .here .refl)
    intro m ds u v
    (try simp only [List.cons_append, List.nil_append, -eq_self])
    refine e_ex Pick.here fun q => e_all Pick.here ?_
    obtain ⟨ua, uc⟩ := q
    (try simp only [List.cons_append, List.nil_append, -eq_self])
    refine e_pu Pick.here fun hi => ?_
    obtain ⟨i, hmi, rfl, rfl⟩ := hi
    refine e_ex Pick.here fun i' => e_all Pick.here ?_
    (try simp only [List.cons_append, List.nil_append, -eq_self])
    refine e_pu Pick.here fun hi' => ?_
    obtain rfl : i' = i := by omega
    have hszi : sz x.length y.length i' ≤ 2147483648 := by unfold sz; split <;> omega
    (try dsimp only)
    (refine e_ask v_lss Imp.nil (fun h => ?_) (fun h => ?_))
    · have hi2 : i' = 0 ∨ i' = 1 := by omega
      obtain ⟨ai, ni, ci, z, hcell, hni, hsz, hrd, hac⟩ : ∃ (ai : Option Addr) (ni ci : Nat) (z : List Int), (#[.slice a1 x.length c1, .slice a2 y.length c2] : Array Value)[0 + i']? = some (.slice ai ni ci) ∧ ni ≤ 1073741824 ∧ sz x.length y.length i' + ni = sz x.length y.length (i' + 1) ∧ RdB W A ai ni (z.map I) ∧ ac x y i' ++ z = ac x y (i' + 1) := by
        rcases hi2 with rfl | rfl
        · exact ⟨a1, x.length, c1, x, rfl, b1, by simp [sz], h1, rfl⟩
        · exact ⟨a2, y.length, c2, y, rfl, b2, by simp [sz], h2, rfl⟩
      refine e_condT ?_
      refine e_opN (v_ia1 i' (by rfl) (by omega)) Imp.nil ?_
      refine e_opN (v_ld hcell) (.pick (.there .here) .nil) ?_
      refine e_app (m := ni) .here (src_rd (e' := 3) (by kernel_rfl) (.there (.there .here)) hrd (rd_none hrd) I_one) (by omega) (by omega) fun a' c' => ?_
      rw [hsz, ← List.map_append, hac]
      (((with_reducible refine e_opN (v_add ?h1 ?h2) Imp.nil ?_); (case h1 => omega); (case h2 => omega)))
      refine e_next2 (m - 1) (by omega) (.ex (a', c') (.all ?_))
      (try simp only [List.cons_append, List.nil_append, -eq_self])
      refine .pu ⟨i' + 1, by omega, by norm_cast, rfl⟩ (.ex (i' + 1) (.all ?_))
      (try simp only [List.cons_append, List.nil_append, -eq_self])
      exact .pu (by omega) (.pick .here .refl)
    · have hi2 : i' = 2 := by omega
      subst hi2
      refine e_condF ?_
      refine e_slsome .here (by show 0 < x.length + y.length; omega) fun gg hgg => ?_
      subst hgg
      refine e_ret (gg, uc) rfl ?_
      exact .pick .here (.drop .refl)
section spec
variable {α : Type} (key : α → Int)
def mrg : List α → List α → List α
  | [], bs => bs
  | a :: us, bs => bs.takeWhile (fun b => decide (key b < key a)) ++ a :: mrg us (bs.dropWhile fun b => decide (key b < key a))
theorem mrg_nil (us : List α) : mrg key us [] = us := by
  induction us with
  | nil => rfl
  | cons a us ih => simp [mrg, ih]
theorem mrg_lt {a b : α} {us bs : List α} (h : key b < key a) : mrg key (a :: us) (b :: bs) = b :: mrg key (a :: us) bs := by simp [mrg, h]
theorem mrg_ge {a b : α} {us bs : List α} (h : ¬ key b < key a) : mrg key (a :: us) (b :: bs) = a :: mrg key us (b :: bs) := by simp [mrg, h]
theorem mrg_a {a : α} {us : List α} : mrg key (a :: us) [] = a :: mrg key us [] := by simp [mrg]
theorem mrg_map {β : Type} (k2 : β → Int) (f : α → β) (hk : ∀ x, k2 (f x) = key x) : ∀ us bs : List α, (mrg key us bs).map f = mrg k2 (us.map f) (bs.map f)
  | [], bs => rfl
  | a :: us, bs => by
    have h1 : (bs.takeWhile fun b => decide (key b < key a)).map f = (bs.map f).takeWhile fun b => decide (k2 b < k2 (f a)) := by
      rw [List.takeWhile_map]; congr 2; funext b; simp [hk]
    have h2 : (bs.dropWhile fun b => decide (key b < key a)).map f = (bs.map f).dropWhile fun b => decide (k2 b < k2 (f a)) := by
      rw [List.dropWhile_map]; congr 2; funext b; simp [hk]
    simp only [mrg, List.map_append, List.map_cons, h1, mrg_map k2 f hk us, h2]
theorem mrg_mem {y : α} : ∀ us bs : List α, y ∈ mrg key us bs → y ∈ us ∨ y ∈ bs
  | [], bs, h => .inr h
  | a :: us, bs, h => by
    simp only [mrg, List.mem_append, List.mem_cons] at h
    rcases h with c | c | c
    · exact .inr ((List.takeWhile_sublist _).mem c)
    · exact .inl (by rw [c]; exact List.mem_cons_self)
    · rcases mrg_mem us _ c with d | d
      · exact .inl (List.mem_cons_of_mem _ d)
      · exact .inr ((List.dropWhile_sublist _).mem d)
end spec
def RdL (W : World) (A : HP) (a : Option Addr) (xs : List It) : Prop := RdB W A a (xs.length * 2) (xs.flatMap ic)
theorem RdL.tail {W : World} {A : HP} {a : Option Addr} {x : It} {xs : List It} {c : Nat} (h : RdL W A a (x :: xs)) (hc : xs.length + 1 ≤ c) : RdL W A (if c = 1 then a else a.map (·.add (1 * 2))) xs := by
  refine ⟨ics_len xs, fun hn => ?_⟩
  obtain ⟨g, o, rfl, hcell⟩ := h.at_ (by rw [List.length_cons]; omega)
  rw [if_neg (by omega)]
  refine ⟨g, o + 2, by simp [addr_add], fun w L hw j v hv => ?_⟩
  rw [Nat.add_assoc]
  refine hcell w L hw (2 + j) v ?_
  rw [List.flatMap_cons, List.getElem?_append_right (by rw [ic_len]; omega), ic_len, show 2 + j - 2 = j by omega]; exact hv
theorem src_rdS {P : Program} {W : World} {L L' : List HP} {A : HP} {s : Nat} {tx e' : TypeId} {a : Option Addr} {n cap : Nat} {cs : List Value} (hk : P.underlying tx = some (.slice e')) (hs : 0 < s) (p : Pick L A L') (H : RdB W A a (n * s) cs) (h1 : ∀ u ∈ cs, u.oneCell' = true) :
    ∀ w, sat W L w → Src P s tx (.slice a n cap) n cs w := fun w hw => by
  have hl := H.len
  rcases Nat.eq_zero_or_pos n with h0 | hn
  · subst h0
    have hcs : cs = [] := List.eq_nil_of_length_eq_zero (by simpa using hl)
    subst hcs
    cases a with
    | none => exact Src.ofNil w hk cap
    | some ad => exact Src.ofSlice w hk ad 0 cap [] (by simp) (fun j u hu => by simp at hu) (by simp)
  · obtain ⟨g, o, rfl, hc⟩ := H.at_ (Nat.mul_pos hn hs)
    exact Src.ofSlice w hk _ _ _ _ (by omega) (fun j u hu => by rw [addr_add]; exact hc w L' (hw.pick p) j u hu) h1
theorem v_ldIt0 {W : World} {A : HP} {g o : Nat} {y : It} {ys : List It} (H : RdL W A (some ⟨g, o, none⟩) (y :: ys)) : RunV Try.prog W [A] (sLoad 86 (.pointer (some ⟨g, o + 0 * 2, none⟩))) (av y) := v_ldIt H (j := 0) (by simp)
theorem v_ldN0 {W : World} {A : HP} {g o : Nat} {y : It} {ys : List It} (H : RdL W A (some ⟨g, o, none⟩) (y :: ys)) : RunV Try.prog W [A] (sLoad 3 (.pointer (some ⟨g, o + 0 * 2 + 0, none⟩))) (.int .i64 y.n) := by
  have := v_ldRd (P := Try.prog) (t := 3) (j := 0) H (v := I y.n) rfl
  exact this
theorem mergeC {W : World} {A B : HP} {xs ys : List It} {va vb : Option Addr} {ca cb : Nat} (ha : RdL W A va xs) (hb : RdL W B vb ys) (hca : xs.length ≤ ca) (hcb : ys.length ≤ cb) (n1 : xs.length ≤ 1073741824) (n2 : ys.length ≤ 1073741824) :
    Cn Try.prog 47 [.slice va xs.length ca, .slice vb ys.length cb] W [A, B] (fun q : Option Addr × Nat => .slice q.1 (xs.length + ys.length) q.2) (fun q => [Sl 2 86 q.1 q.2 (xs.length + ys.length) ((mrg It.n xs ys).flatMap ic), A, B]) := by
  (refine S.huff_merge_int_cn fun F => ?_; unfold S.huff_merge_int; simp only [List.cons_append, List.nil_append])
  (((with_reducible refine e_opN v_len Imp.nil ?_))); (((with_reducible refine e_opN v_len Imp.nil ?_))); (((with_reducible refine e_opN (v_add ?h1 ?h2) Imp.nil ?_); (case h1 => omega); (case h2 => omega)))
  refine e_mksl0 (xs.length + ys.length) (by norm_cast) (by omega) (by unfold maxLen; omega) fun g0 => ?_
  refine e_loop3 (fun m x y z => [ex fun q : Option Addr × Nat => ex fun out : List It => all [pu (∃ (us vs : List It) (a1 a2 : Option Addr) (c1 c2 : Nat), m = us.length + vs.length ∧ x = .slice a1 us.length c1 ∧ y = .slice a2 vs.length c2 ∧ z = .slice q.1 out.length q.2 ∧ RdL W A a1 us ∧ RdL W B a2 vs ∧ us.length ≤ c1 ∧ vs.length ≤ c2 ∧ out ++ mrg It.n us vs = mrg It.n xs ys ∧ out.length + us.length + vs.length = xs.length + ys.length), Sl 2 86 q.1 q.2 out.length (out.flatMap ic)], A, B] ++ F) (xs.length + ys.length) ?_ ?_
  · refine .ex (some ⟨g0, 0, none⟩, xs.length + ys.length) (.ex [] (.all ?_))
    (try simp only [List.cons_append, List.nil_append, -eq_self])
    exact .pu ⟨xs, ys, va, vb, ca, cb, rfl, rfl, rfl, rfl, ha, hb, hca, hcb, rfl, by simp⟩ (.pick .here .refl)
  intro m ds x y z
  (try simp only [List.cons_append, List.nil_append, -eq_self])
  refine e_ex Pick.here fun q => e_ex Pick.here fun out => e_all Pick.here ?_
  obtain ⟨qa, qc⟩ := q
  (try simp only [List.cons_append, List.nil_append, -eq_self])
  refine e_pu Pick.here fun hi => ?_
  obtain ⟨us, vs, a1, a2, c1, c2, rfl, rfl, rfl, rfl, hu, hv, hc1, hc2, hout, hlen⟩ := hi
  (try dsimp only)
  cases us with
  | nil =>
    (((with_reducible refine e_opN v_len Imp.nil ?_)))
    refine e_opN v_eql Imp.nil ?_
    rw [decide_eq_true (by rfl)]
    refine e_condT ?_
    refine e_app (m := vs.length) .here (src_rdS (e' := 86) (by kernel_rfl) (by omega) (.there (.there .here)) hv (ics_one vs)) (by omega) (by omega) fun a' c' => ?_
    rw [← List.flatMap_append, show out ++ vs = mrg It.n xs ys from hout]
    simp only [List.length_nil, Nat.add_zero] at hlen
    rw [hlen]
    refine e_ret (a', c') rfl ?_
    (repeat (first | exact Imp.refl | exact Imp.nil | (apply Imp.pick; (focus ((repeat constructor); done))) | refine Imp.drop ?_))
  | cons u us =>
    rw [List.length_cons] at hlen hc1
    (((with_reducible refine e_opN v_len Imp.nil ?_)))
    refine e_opN v_eql Imp.nil ?_
    rw [decide_eq_false (by rw [List.length_cons]; omega)]
    ((with_reducible refine e_condF ?_)); ((with_reducible refine e_drS ?_)); (((with_reducible refine e_stS v_len Imp.nil ?_)))
    obtain ⟨gu, ou, rfl, _⟩ := hu.at_ (by rw [List.length_cons]; omega)
    have ldu := v_ldIt0 hu
    have ldn := v_ldN0 hu
    have tu := hu.tail hc1
    have goA : (∀ v vs', vs = v :: vs' → ¬ v.n < u.n) → Ent W (Sl 2 86 qa qc out.length (out.flatMap ic) :: A :: B :: F) (stS Try.prog (sIA 84 (.slice (some ⟨gu, ou, none⟩) (u :: us).length c1) (.int .i64 0)) fun x14 =>
       stS Try.prog (sLoad 86 x14) fun x15 =>
       stD Try.prog (sSl 84 (.slice (some ⟨gu, ou, none⟩) (u :: us).length c1) (some (.int .i64 1)) none none) fun D7 x19 =>
       opN Try.prog (sBuildSl 84 1 [(0, x15)]) noP fun x16 =>
       (fun w => D7 w ∧ (opN Try.prog (sApp #[84, 84] 84 [.slice qa out.length qc, x16]) noP fun x17 =>
         (fun w => D7 w ∧ (next3 (fun m x y z w => sat W ([ex fun q : Option Addr × Nat => ex fun out : List It => all [pu (∃ (us vs : List It) (a1 a2 : Option Addr) (c1 c2 : Nat), m = us.length + vs.length ∧ x = .slice a1 us.length c1 ∧ y = .slice a2 vs.length c2 ∧ z = .slice q.1 out.length q.2 ∧ RdL W A a1 us ∧ RdL W B a2 vs ∧ us.length ≤ c1 ∧ vs.length ≤ c2 ∧ out ++ mrg It.n us vs = mrg It.n xs ys ∧ out.length + us.length + vs.length = xs.length + ys.length), Sl 2 86 q.1 q.2 out.length (out.flatMap ic)], A, B] ++ F) w) ((u :: us).length + vs.length) x19 (.slice a2 vs.length c2) x17) w)) w)) := by
      intro hge
      refine e_stS (v_ia 0 (by rfl) (by rw [List.length_cons]; omega)) Imp.nil ?_
      refine e_stS ldu (.pick (.there .here) .nil) ?_
      refine e_stD (v_sll 1 (by rfl) (by rw [List.length_cons]; omega)) Imp.nil ?_
      refine e_bslS (s := 2) (vs := [av u]) rfl (by omega) rfl (by intro v hv; simp at hv; subst hv; rfl) (by omega) fun g => ?_
      (((with_reducible refine e_obl ?hi ?_); (case hi => (repeat (first | exact Imp.refl | exact Imp.nil | (apply Imp.pick; (focus ((repeat constructor); done))) | refine Imp.drop ?_)))))
      refine e_app (m := 1) (news := ic u) (.there .here) (src_pt (s := 2) (e' := 86) (by kernel_rfl) .here (by rfl) (ic_one u)) (by omega) (by omega) fun a' c' => ?_
      (((with_reducible refine e_obl ?hi ?_); (case hi => (repeat (first | exact Imp.refl | exact Imp.nil | (apply Imp.pick; (focus ((repeat constructor); done))) | refine Imp.drop ?_)))))
      refine e_next3 (us.length + vs.length) (by rw [List.length_cons]; omega) (.ex (a', c') (.ex (out ++ [u]) (.all ?_)))
      (try simp only [List.cons_append, List.nil_append, -eq_self])
      refine .pu ⟨us, vs, _, a2, _, c2, rfl, by rw [List.length_cons, Nat.add_sub_cancel], rfl, by rw [List.length_append]; rfl, tu, hv, by omega, hc2, ?_, by simp; omega⟩ ?_
      · rw [← hout, List.append_assoc]
        congr 1
        cases vs with
        | nil => rw [mrg_a]; rfl
        | cons v vs' => rw [mrg_ge It.n (hge v vs' rfl)]; rfl
      · rw [List.flatMap_append, List.length_append, List.length_singleton, List.flatMap_singleton]
        (repeat (first | exact Imp.refl | exact Imp.nil | (apply Imp.pick; (focus ((repeat constructor); done))) | refine Imp.drop ?_))
    refine e_stS v_gtr Imp.nil ?_
    cases vs with
    | nil =>
      rw [decide_eq_false (by simp)]
      ((with_reducible refine e_gdF2 ?_)); ((with_reducible refine e_gdF2 ?_)); ((with_reducible refine e_gdF2 ?_)); ((with_reducible refine e_gdF2 ?_)); ((with_reducible refine e_gdF2 ?_)); ((with_reducible refine e_gdF2 ?_)); ((with_reducible refine e_gdF2 ?_)); ((with_reducible refine e_gdF2 ?_)); ((with_reducible refine e_gdF2 ?_)); (((with_reducible refine e_stS v_pickF Imp.nil ?_))); ((with_reducible refine e_condF ?_)); ((with_reducible refine e_drS ?_))
      exact goA (fun v vs' c => by cases c)
    | cons v vs =>
      rw [List.length_cons] at hlen hc2
      obtain ⟨gv, ov, rfl, _⟩ := hv.at_ (by rw [List.length_cons]; omega)
      have ldv := v_ldIt0 hv
      have ldvn := v_ldN0 hv
      have tv := hv.tail hc2
      rw [decide_eq_true (by rw [List.length_cons]; omega)]
      ((with_reducible refine e_gdT ?_)); ((with_reducible refine e_gdT ?_))
      refine e_stS (v_ia 0 (by rfl) (by rw [List.length_cons]; omega)) Imp.nil ?_
      ((with_reducible refine e_gdT ?_)); (((with_reducible refine e_stS v_fa Imp.nil ?_))); ((with_reducible refine e_gdT ?_))
      refine e_stS ldvn (.pick (.there (.there .here)) .nil) ?_
      ((with_reducible refine e_gdT ?_)); ((with_reducible refine e_gdT ?_))
      refine e_stS (v_ia 0 (by rfl) (by rw [List.length_cons]; omega)) Imp.nil ?_
      ((with_reducible refine e_gdT ?_)); (((with_reducible refine e_stS v_fa Imp.nil ?_))); ((with_reducible refine e_gdT ?_))
      refine e_stS ldn (.pick (.there .here) .nil) ?_
      ((with_reducible refine e_gdT ?_))
      refine e_askS v_lss Imp.nil (fun h => ?_) (fun h => ?_)
      · (((with_reducible refine e_stS v_pickT Imp.nil ?_))); ((with_reducible refine e_condT ?_)); ((with_reducible refine e_drS ?_))
        refine e_stS (v_ia 0 (by rfl) (by rw [List.length_cons]; omega)) Imp.nil ?_
        refine e_stS ldv (.pick (.there (.there .here)) .nil) ?_
        refine e_stD (v_sll 1 (by rfl) (by rw [List.length_cons]; omega)) Imp.nil ?_
        refine e_bslS (s := 2) (vs := [av v]) rfl (by omega) rfl (by intro v hv; simp at hv; subst hv; rfl) (by omega) fun g => ?_
        (((with_reducible refine e_obl ?hi ?_); (case hi => (repeat (first | exact Imp.refl | exact Imp.nil | (apply Imp.pick; (focus ((repeat constructor); done))) | refine Imp.drop ?_)))))
        refine e_app (m := 1) (news := ic v) (.there .here) (src_pt (s := 2) (e' := 86) (by kernel_rfl) .here (by rfl) (ic_one v)) (by omega) (by omega) fun a' c' => ?_
        (((with_reducible refine e_obl ?hi ?_); (case hi => (repeat (first | exact Imp.refl | exact Imp.nil | (apply Imp.pick; (focus ((repeat constructor); done))) | refine Imp.drop ?_)))))
        refine e_next3 ((u :: us).length + vs.length) (by rw [List.length_cons]; simp) (.ex (a', c') (.ex (out ++ [v]) (.all ?_)))
        (try simp only [List.cons_append, List.nil_append, -eq_self])
        refine .pu ⟨u :: us, vs, _, _, c1, _, rfl, rfl, by rw [List.length_cons, Nat.add_sub_cancel], by rw [List.length_append]; rfl, hu, tv, by rw [List.length_cons]; omega, by omega, ?_, by simp; omega⟩ ?_
        · rw [← hout, List.append_assoc, mrg_lt It.n h]; rfl
        · rw [List.flatMap_append, List.length_append, List.length_singleton, List.flatMap_singleton]
          (repeat (first | exact Imp.refl | exact Imp.nil | (apply Imp.pick; (focus ((repeat constructor); done))) | refine Imp.drop ?_))
      · (((with_reducible refine e_stS v_pickT Imp.nil ?_))); ((with_reducible refine e_condF ?_)); ((with_reducible refine e_drS ?_))
        exact goA (fun v' vs' c => by injection c with c1 c2; subst c1; exact h)
end Go.Proofs.Ytehfblkpbadikaa.HF
/-! Pairs of a row's items; how often symbols stand in a row's beginning. No conditions but those that each names. -/
namespace Go.Proofs.Ytehfblkpbadikaa.HF
open Go Go.Proofs Go.RowKit Go.Proofs.Ytehfblkpbadikaa.Sh Go.Proofs.Ytehfblkpbadikaa.Sl Go.Proofs.Ytehfblkpbadikaa.T Go.Proofs.Ytehfblkpbadikaa.HM
abbrev E := Int × List Int
def pairs : List E → List E
  | a :: b :: r => (a.1 + b.1, a.2 ++ b.2) :: pairs r
  | _ => []
def rows (cs : List E) : Nat → List E
  | 0 => cs
  | k + 1 => mrg Prod.fst cs (pairs (rows cs k))
theorem v_itN {W : World} {A : HP} {g o j : Nat} {ys : List It} (H : RdL W A (some ⟨g, o, none⟩) ys) (hj : j < ys.length) : RunV Try.prog W [A] (sLoad 3 (.pointer (some ⟨g, o + j * 2 + 0, none⟩))) (.int .i64 ys[j].n) := by
  rw [Nat.add_assoc]
  exact v_ldRd (P := Try.prog) (t := 3) (j := j * 2 + 0) H (v := I ys[j].n) (by rw [flat_get ic_len ys j 0 hj (by omega)]; rfl)
theorem v_itW {W : World} {A : HP} {g o j : Nat} {ys : List It} (H : RdL W A (some ⟨g, o, none⟩) ys) (hj : j < ys.length) : RunV Try.prog W [A] (sLoad 22 (.pointer (some ⟨g, o + j * 2 + 1, none⟩))) (.slice (some ⟨ys[j].g, 0, none⟩) ys[j].w.length ys[j].c) := by
  rw [Nat.add_assoc]
  exact v_ldRd (P := Try.prog) (t := 22) (j := j * 2 + 1) H (v := .slice (some ⟨ys[j].g, 0, none⟩) ys[j].w.length ys[j].c) (by rw [flat_get ic_len ys j 1 hj (by omega)]; rfl)
theorem pairs_drop {rw_ : List E} {i : Nat} (h : i + 1 < rw_.length) : pairs (rw_.drop i) = (rw_[i].1 + rw_[i + 1].1, rw_[i].2 ++ rw_[i + 1].2) :: pairs (rw_.drop (i + 2)) := by
  rw [List.drop_eq_getElem_cons (show i < rw_.length by omega), List.drop_eq_getElem_cons h, pairs]
theorem pairs_end {rw_ : List E} {i : Nat} (h : ¬ i + 1 < rw_.length) : pairs (rw_.drop i) = [] := by
  have hl : (rw_.drop i).length ≤ 1 := by rw [List.length_drop]; omega
  match hd : rw_.drop i with
  | [] => rfl
  | [x] => rfl
  | x :: y :: r => rw [hd] at hl; simp at hl
theorem pairsLoop {W : World} {A : HP} {F : List HP} {ra : Option Addr} {rc : Nat} {rs ar : List It} {K : Value → WP} (hA : RdL W A ra rs) (hm : ∀ y ∈ rs, y ∈ ar) (hl : rs.length ≤ 1073741824)
    (hb : ∀ y ∈ rs, 0 ≤ y.n ∧ y.n ≤ 1152921504606846976 ∧ 0 < y.w.length ∧ y.w.length ≤ 1073741824)
    (hK : ∀ (q : Option Addr × Nat) (ps ar' : List It), ps.map er = pairs (rs.map er) → (∀ y ∈ ps, y ∈ ar') → (∀ y ∈ ar, y ∈ ar') → Ent W (Sl 2 86 q.1 q.2 ps.length (ps.flatMap ic) :: Arena ar' :: A :: F) (K (.slice q.1 ps.length q.2))) :
    Ent W (A :: Arena ar :: F) (loop2 (fun I3 m3 _ y12 y13 =>
          opN Try.prog (sBin .add 3 y13 (.int .i64 1)) noP fun x80 =>
          opN Try.prog (sLen #[84] 3 [.slice ra rs.length rc]) noP fun x82 =>
          opN Try.prog (sBin .lss 3 x80 x82) noP fun x83 =>
          condS x83
          (drS (stD Try.prog (sIA 84 (.slice ra rs.length rc) y13) fun D3 x89 =>
            stD Try.prog (sFA 86 x89 0) fun D4 x90 =>
            stD Try.prog (sLoad 3 x90) fun D5 x91 =>
            stD Try.prog (sBin .add 3 y13 (.int .i64 1)) fun D8 x94 =>
            stD Try.prog (sIA 84 (.slice ra rs.length rc) x94) fun D9 x95 =>
            stD Try.prog (sFA 86 x95 0) fun D10 x96 =>
            stD Try.prog (sLoad 3 x96) fun D11 x97 =>
            stD Try.prog (sBin .add 3 x91 x97) fun D12 x98 =>
            stS Try.prog (sIA 84 (.slice ra rs.length rc) y13) fun x101 =>
            stS Try.prog (sFA 86 x101 1) fun x102 =>
            stS Try.prog (sLoad 22 x102) fun x103 =>
            stS Try.prog (sBin .add 3 y13 (.int .i64 1)) fun x106 =>
            stS Try.prog (sIA 84 (.slice ra rs.length rc) x106) fun x107 =>
            stS Try.prog (sFA 86 x107 1) fun x108 =>
            stS Try.prog (sLoad 22 x108) fun x109 =>
            opN Try.prog (sBuildSl 122 2 [(0, x103), (1, x109)]) noP fun x110 =>
            (fun w => D12 w ∧ (fun w => D11 w ∧ (fun w => D10 w ∧ (fun w => D9 w ∧ (fun w => D8 w ∧ (fun w => D5 w ∧ (fun w => D4 w ∧ (fun w => D3 w ∧ (opN Try.prog (sCall (fn 46) [x110]) noP fun x111 =>
                     (fun w => D12 w ∧ (fun w => D11 w ∧ (fun w => D10 w ∧ (fun w => D9 w ∧ (fun w => D8 w ∧ (fun w => D5 w ∧ (fun w => D4 w ∧ (fun w => D3 w ∧ (stS Try.prog (sBuild 86 [(0, x98), (1, x111)]) fun x112 =>
                      opN Try.prog (sBuildSl 84 1 [(0, x112)]) noP fun x113 =>
                      opN Try.prog (sApp #[84, 84] 84 [y12, x113]) noP fun x114 =>
                      opN Try.prog (sBin .add 3 y13 (.int .i64 2)) noP fun x85 =>
                      next2 I3 m3 x114 x85) w) w) w) w) w) w) w) w)) w) w) w) w) w) w) w) w)))
          (K y12)) (.slice none 0 0) (.int .i64 0)) := by
  refine e_loop2 (fun m x y => [ex fun q : Option Addr × Nat => ex fun ps : List It => ex fun ar' : List It => all [pu (∃ i : Nat, m + i = rs.length ∧ y = .int .i64 (i : Int) ∧ x = .slice q.1 ps.length q.2 ∧ ps.map er ++ pairs ((rs.map er).drop i) = pairs (rs.map er) ∧ (∀ y ∈ ps, y ∈ ar') ∧ (∀ y ∈ ar, y ∈ ar') ∧ ps.length ≤ i), Sl 2 86 q.1 q.2 ps.length (ps.flatMap ic), Arena ar', A]] ++ F) rs.length ?_ ?_
  · refine .ex (none, 0) (.ex [] (.ex ar (.all ?_)))
    (try simp only [List.cons_append, List.nil_append, -eq_self])
    refine .pu ⟨0, by omega, rfl, rfl, rfl, (fun y hy => (by cases hy)), (fun y hy => hy), Nat.le_refl _⟩ (imp_nil ?_)
    (repeat (first | exact Imp.refl | exact Imp.nil | (apply Imp.pick; (focus ((repeat constructor); done))) | refine Imp.drop ?_))
  intro m ds x y
  (try simp only [List.cons_append, List.nil_append, -eq_self])
  refine e_ex Pick.here fun q => e_ex Pick.here fun ps => e_ex Pick.here fun ar' => e_all Pick.here ?_
  obtain ⟨qa, qc⟩ := q
  (try simp only [List.cons_append, List.nil_append, -eq_self])
  refine e_pu Pick.here fun hi => ?_
  obtain ⟨i, hmi, rfl, rfl, hps, hpa, haa, hpl⟩ := hi
  (try dsimp only)
  (((with_reducible refine e_opN (v_add ?h1 ?h2) Imp.nil ?_); (case h1 => omega); (case h2 => omega))); (((with_reducible refine e_opN v_len Imp.nil ?_)))
  (refine e_ask v_lss Imp.nil (fun h => ?_) (fun h => ?_))
  · have h1 : i + 1 < rs.length := by omega
    have h0 : i < rs.length := by omega
    obtain ⟨g, o, rfl, _⟩ := hA.at_ (by omega)
    obtain ⟨u, hu⟩ : ∃ u, u = rs[i] := ⟨_, rfl⟩
    obtain ⟨v, hv⟩ : ∃ v, v = rs[i + 1] := ⟨_, rfl⟩
    have n0 := v_itN hA h0
    have n1 := v_itN hA h1
    have w0 := v_itW hA h0
    have w1 := v_itW hA h1
    rw [← hu] at n0 w0
    rw [← hv] at n1 w1
    have hum : u ∈ rs := by rw [hu]; exact List.getElem_mem h0
    have hvm : v ∈ rs := by rw [hv]; exact List.getElem_mem h1
    have bu := hb u hum
    have bv := hb v hvm
    have ru := rd_ar (W := W) (haa u (hm u hum))
    have rv := rd_ar (W := W) (haa v (hm v hvm))
    ((with_reducible refine e_condT ?_)); ((with_reducible refine e_drS ?_))
    refine e_stD (v_ia i (by rfl) h0) Imp.nil ?_
    (((with_reducible refine e_stD v_fa Imp.nil ?_)))
    refine e_stD n0 (.pick (by (repeat constructor)) .nil) ?_
    (((with_reducible refine e_stD (v_add ?h1 ?h2) Imp.nil ?_); (case h1 => omega); (case h2 => omega)))
    refine e_stD (v_ia (i + 1) (by rfl) h1) Imp.nil ?_
    (((with_reducible refine e_stD v_fa Imp.nil ?_)))
    refine e_stD n1 (.pick (by (repeat constructor)) .nil) ?_
    (((with_reducible refine e_stD (v_add ?h1 ?h2) Imp.nil ?_); (case h1 => omega); (case h2 => omega)))
    refine e_stS (v_ia i (by rfl) h0) Imp.nil ?_
    (((with_reducible refine e_stS v_fa Imp.nil ?_)))
    refine e_stS w0 (.pick (by (repeat constructor)) .nil) ?_
    (((with_reducible refine e_stS (v_add ?h1 ?h2) Imp.nil ?_); (case h1 => omega); (case h2 => omega)))
    refine e_stS (v_ia (i + 1) (by rfl) h1) Imp.nil ?_
    (((with_reducible refine e_stS v_fa Imp.nil ?_)))
    refine e_stS w1 (.pick (by (repeat constructor)) .nil) ?_
    refine e_bslN (vs := [.slice (some ⟨u.g, 0, none⟩) u.w.length u.c, .slice (some ⟨v.g, 0, none⟩) v.w.length v.c]) rfl rfl (by intro z hz; simp at hz; rcases hz with rfl | rfl <;> rfl) (by omega) fun g2 => ?_
    (((with_reducible refine e_obl ?hi ?_); (case hi => (repeat (first | exact Imp.refl | exact Imp.nil | (apply Imp.pick; (focus ((repeat constructor); done))) | refine Imp.drop ?_))))); (((with_reducible refine e_obl ?hi ?_); (case hi => (repeat (first | exact Imp.refl | exact Imp.nil | (apply Imp.pick; (focus ((repeat constructor); done))) | refine Imp.drop ?_))))); (((with_reducible refine e_obl ?hi ?_); (case hi => (repeat (first | exact Imp.refl | exact Imp.nil | (apply Imp.pick; (focus ((repeat constructor); done))) | refine Imp.drop ?_))))); (((with_reducible refine e_obl ?hi ?_); (case hi => (repeat (first | exact Imp.refl | exact Imp.nil | (apply Imp.pick; (focus ((repeat constructor); done))) | refine Imp.drop ?_))))); (((with_reducible refine e_obl ?hi ?_); (case hi => (repeat (first | exact Imp.refl | exact Imp.nil | (apply Imp.pick; (focus ((repeat constructor); done))) | refine Imp.drop ?_))))); (((with_reducible refine e_obl ?hi ?_); (case hi => (repeat (first | exact Imp.refl | exact Imp.nil | (apply Imp.pick; (focus ((repeat constructor); done))) | refine Imp.drop ?_))))); (((with_reducible refine e_obl ?hi ?_); (case hi => (repeat (first | exact Imp.refl | exact Imp.nil | (apply Imp.pick; (focus ((repeat constructor); done))) | refine Imp.drop ?_))))); (((with_reducible refine e_obl ?hi ?_); (case hi => (repeat (first | exact Imp.refl | exact Imp.nil | (apply Imp.pick; (focus ((repeat constructor); done))) | refine Imp.drop ?_)))))
    (refine' e_call (concat ru rv bu.2.2.1 bu.2.2.2 bv.2.2.2) ?hp fun _ => ?_; (case hp => (repeat (first | exact Picks.nil | (apply Picks.cons; (focus (repeat constructor)))))); (try simp only [List.cons_append, List.nil_append, Bool.not_true, Bool.not_false]))
    rename_i q2
    obtain ⟨g3, c3⟩ := q2
    (try dsimp only)
    rw [← List.length_append]
    refine e_ar (x := ⟨u.n + v.n, g3, c3, u.w ++ v.w⟩) rfl .here .here ?_
    (((with_reducible refine e_obl ?hi ?_); (case hi => (repeat (first | exact Imp.refl | exact Imp.nil | (apply Imp.pick; (focus ((repeat constructor); done))) | refine Imp.drop ?_))))); (((with_reducible refine e_obl ?hi ?_); (case hi => (repeat (first | exact Imp.refl | exact Imp.nil | (apply Imp.pick; (focus ((repeat constructor); done))) | refine Imp.drop ?_))))); (((with_reducible refine e_obl ?hi ?_); (case hi => (repeat (first | exact Imp.refl | exact Imp.nil | (apply Imp.pick; (focus ((repeat constructor); done))) | refine Imp.drop ?_))))); (((with_reducible refine e_obl ?hi ?_); (case hi => (repeat (first | exact Imp.refl | exact Imp.nil | (apply Imp.pick; (focus ((repeat constructor); done))) | refine Imp.drop ?_))))); (((with_reducible refine e_obl ?hi ?_); (case hi => (repeat (first | exact Imp.refl | exact Imp.nil | (apply Imp.pick; (focus ((repeat constructor); done))) | refine Imp.drop ?_))))); (((with_reducible refine e_obl ?hi ?_); (case hi => (repeat (first | exact Imp.refl | exact Imp.nil | (apply Imp.pick; (focus ((repeat constructor); done))) | refine Imp.drop ?_))))); (((with_reducible refine e_obl ?hi ?_); (case hi => (repeat (first | exact Imp.refl | exact Imp.nil | (apply Imp.pick; (focus ((repeat constructor); done))) | refine Imp.drop ?_))))); (((with_reducible refine e_obl ?hi ?_); (case hi => (repeat (first | exact Imp.refl | exact Imp.nil | (apply Imp.pick; (focus ((repeat constructor); done))) | refine Imp.drop ?_))))); (((with_reducible refine e_stS v_rv Imp.nil ?_)))
    refine e_bslS (s := 2) (vs := [av ⟨u.n + v.n, g3, c3, u.w ++ v.w⟩]) rfl (by omega) rfl (by intro z hz; simp at hz; subst hz; rfl) (by omega) fun g4 => ?_
    refine e_app (m := 1) (news := ic ⟨u.n + v.n, g3, c3, u.w ++ v.w⟩) (by (repeat constructor)) (src_pt (s := 2) (e' := 86) (by kernel_rfl) .here (by rfl) (ic_one _)) (by omega) (by omega) fun a' c' => ?_
    (((with_reducible refine e_opN (v_add ?h1 ?h2) Imp.nil ?_); (case h1 => omega); (case h2 => omega)))
    refine e_next2 (m - 2) (by omega) (.ex (a', c') (.ex (ps ++ [⟨u.n + v.n, g3, c3, u.w ++ v.w⟩]) (.ex (⟨u.n + v.n, g3, c3, u.w ++ v.w⟩ :: ar') (.all ?_))))
    (try simp only [List.cons_append, List.nil_append, -eq_self])
    refine .pu ⟨i + 2, by omega, by norm_cast, by rw [List.length_append]; rfl, ?_, ?_, fun y hy => List.mem_cons_of_mem _ (haa y hy), by simp; omega⟩ ?_
    · rw [← hps, pairs_drop (i := i) (by simpa using h1), List.map_append, List.append_assoc]
      simp [er, hu, hv]
    · intro y hy
      rcases List.mem_append.1 hy with c | c
      · exact List.mem_cons_of_mem _ (hpa y c)
      · rw [List.mem_singleton.1 c]; exact List.mem_cons_self
    · rw [List.flatMap_append, List.length_append, List.length_singleton, List.flatMap_singleton]
      (repeat (first | exact Imp.refl | exact Imp.nil | (apply Imp.pick; (focus ((repeat constructor); done))) | refine Imp.drop ?_))
  · refine e_condF ?_
    rw [pairs_end (by simp; omega), List.append_nil] at hps
    exact hK (qa, qc) ps ar' hps hpa haa
theorem histLoop {W : World} {A : HP} {F : List HP} {ra : Option Addr} {rc go len k : Nat} {rs ar : List It} {K : WP} (hA : RdL W A ra rs) (hm : ∀ y ∈ rs, y ∈ ar) (hl : 2 * k - 2 ≤ rs.length) (hk : 1 ≤ k ∧ k ≤ 1048576) (hlen : len ≤ 1048576)
    (hb : ∀ y ∈ rs, y.w.length ≤ 1073741824 ∧ ∀ s ∈ y.w, 0 ≤ s ∧ s < len)
    (hK : Ent W (Sl 1 3 (some ⟨go, 0, none⟩) len len (Ln len fun s => (cnt (((rs.map er).take (2 * k - 2)).flatMap fun e => e.2) s : Int)) :: F) K) :
    Ent W (Sl 1 3 (some ⟨go, 0, none⟩) len len (Ln len fun _ => 0) :: A :: Arena ar :: F) (loop1 (fun I4 m4 _ y14 =>
          opN Try.prog (sBin .mul 3 (.int .i64 2) (.int .i64 (k : Int))) noP fun x121 =>
          opN Try.prog (sBin .sub 3 x121 (.int .i64 2)) noP fun x122 =>
          opN Try.prog (sBin .lss 3 y14 x122) noP fun x123 =>
          condS x123
          (opN Try.prog (sIA 84 (.slice ra rs.length rc) y14) noP fun x128 =>
           opN Try.prog (sFA 86 x128 1) noP fun x129 =>
           opN Try.prog (sLoad 22 x129) noP fun x130 =>
           opN Try.prog (sLen #[22] 3 [x130]) noP fun x131 =>
           loop1 (fun I5 m5 _ y132 =>
            opN Try.prog (sBin .lss 3 y132 x131) noP fun x133 =>
            condS x133
            (opN Try.prog (sIA 22 x130 y132) noP fun x134 =>
             opN Try.prog (sLoad 3 x134) noP fun x135 =>
             opN Try.prog (sIA 22 (.slice (some ⟨go, 0, none⟩) len len) x135) noP fun x138 =>
             opN Try.prog (sLoad 3 x138) noP fun x139 =>
             opN Try.prog (sBin .add 3 x139 (.int .i64 1)) noP fun x140 =>
             opN Try.prog (sIA 22 (.slice (some ⟨go, 0, none⟩) len len) x135) noP fun x141 =>
             opN Try.prog (sStore 3 x141 x140) noP fun _ =>
             opN Try.prog (sBin .add 3 y132 (.int .i64 1)) noP fun x142 =>
             next1 I5 m5 x142)
            (opN Try.prog (sBin .add 3 y14 (.int .i64 1)) noP fun x125 =>
             next1 I4 m4 x125)) (.int .i64 0))
          K) (.int .i64 0)) := by
  obtain ⟨P, hP⟩ : ∃ P : Nat → List Int, P = fun i => ((rs.map er).take i).flatMap fun e => e.2 := ⟨_, rfl⟩
  have hPb : ∀ i, i ≤ 2097152 → (P i).length ≤ 1073741824 * i := by
    intro i hi
    rw [hP]
    clear hi
    induction i with
    | zero => simp
    | succ i ih =>
      by_cases c : i < rs.length
      · simp only [] at ih ⊢
        rw [List.take_succ_eq_append_getElem (by simpa using c), List.flatMap_append, List.length_append]
        have := (hb rs[i] (List.getElem_mem c)).1
        simp only [List.flatMap_singleton, List.getElem_map, er]
        omega
      · simp only [] at ih ⊢
        rw [List.take_of_length_le (by simp; omega)]
        rw [List.take_of_length_le (by simp; omega)] at ih
        omega
  refine e_loop1 (fun m y => [ex fun i : Nat => all [pu (m + i = 2 * k - 2 ∧ y = .int .i64 (i : Int)), Sl 1 3 (some ⟨go, 0, none⟩) len len (Ln len fun s => (cnt (P i) s : Int)), A, Arena ar]] ++ F) (2 * k - 2) ?_ ?_
  · refine .ex 0 (.all ?_)
    (try simp only [List.cons_append, List.nil_append, -eq_self])
    refine .pu ⟨by omega, rfl⟩ ?_
    rw [show P 0 = [] by rw [hP]; rfl]
    exact .pick .here (by (repeat (first | exact Imp.refl | exact Imp.nil | (apply Imp.pick; (focus ((repeat constructor); done))) | refine Imp.drop ?_)))
  intro m ds y
  (try simp only [List.cons_append, List.nil_append, -eq_self])
  refine e_ex Pick.here fun i => e_all Pick.here ?_
  (try simp only [List.cons_append, List.nil_append, -eq_self])
  refine e_pu Pick.here fun hi => ?_
  obtain ⟨hmi, rfl⟩ := hi
  (((with_reducible refine e_opN (v_mul ?h1 ?h2) Imp.nil ?_); (case h1 => omega); (case h2 => omega))); (((with_reducible refine e_opN (v_sub ?h1 ?h2) Imp.nil ?_); (case h1 => omega); (case h2 => omega)))
  (refine e_ask v_lss Imp.nil (fun h => ?_) (fun h => ?_))
  · have hik : i < rs.length := by omega
    obtain ⟨g, o, rfl, _⟩ := hA.at_ (by omega)
    have hmem : rs[i] ∈ rs := List.getElem_mem hik
    have w0 := v_itW hA hik
    have r0 := rd_ar (W := W) (hm _ hmem)
    have b0 := hb _ hmem
    have hP1 : P (i + 1) = P i ++ rs[i].w := by
      rw [hP]; simp only []
      rw [List.take_succ_eq_append_getElem (by simpa using hik), List.flatMap_append]; simp [er]
    obtain ⟨u, hu⟩ : ∃ u, u = rs[i] := ⟨_, rfl⟩
    rw [← hu] at w0 r0 b0 hP1
    refine e_condT ?_
    refine e_opN (v_ia i (by rfl) hik) Imp.nil ?_
    (((with_reducible refine e_opN v_fa Imp.nil ?_)))
    refine e_opN w0 (.pick (by (repeat constructor)) .nil) ?_
    (((with_reducible refine e_opN v_len Imp.nil ?_)))
    refine e_loop1 (fun m y => [ex fun j : Nat => all [pu (m + j = u.w.length ∧ y = .int .i64 (j : Int)), Sl 1 3 (some ⟨go, 0, none⟩) len len (Ln len fun s => (cnt (P i ++ u.w.take j) s : Int)), A, Arena ar]] ++ F) u.w.length ?_ ?_
    · refine .ex 0 (.all ?_)
      (try simp only [List.cons_append, List.nil_append, -eq_self])
      refine .pu ⟨by omega, rfl⟩ ?_
      rw [List.take_zero, List.append_nil]
      (repeat (first | exact Imp.refl | exact Imp.nil | (apply Imp.pick; (focus ((repeat constructor); done))) | refine Imp.drop ?_))
    intro m2 ds y
    (try simp only [List.cons_append, List.nil_append, -eq_self])
    refine e_ex Pick.here fun j => e_all Pick.here ?_
    (try simp only [List.cons_append, List.nil_append, -eq_self])
    refine e_pu Pick.here fun hj => ?_
    obtain ⟨hmj, rfl⟩ := hj
    (refine e_ask v_lss Imp.nil (fun h => ?_) (fun h => ?_))
    · have hjl : j < u.w.length := by omega
      obtain ⟨s0, s1⟩ := b0.2 u.w[j] (List.getElem_mem hjl)
      obtain ⟨s, hs⟩ := Int.eq_ofNat_of_zero_le s0
      have hsl : s < len := by omega
      have hc1 := cnt_le s (P i ++ u.w.take j)
      have hc2 := hPb i (by omega)
      rw [List.length_append, List.length_take] at hc1
      refine e_condT ?_
      refine e_opN (v_ia1 j (by rfl) hjl) Imp.nil ?_
      refine e_opN (v_ldRd r0 (I_get hjl)) (.pick (by (repeat constructor)) .nil) ?_
      refine e_opN (v_ia1 s hs hsl) Imp.nil ?_
      refine e_opN (v_ldSl (v := I (cnt (P i ++ u.w.take j) s)) (by rw [Nat.zero_add]; exact Ln_get hsl)) (.pick .here .nil) ?_
      have hi2 : 1073741824 * i ≤ 1073741824 * 2097152 := Nat.mul_le_mul_left _ (by omega)
      refine e_opN (v_add (by omega) (by omega)) Imp.nil ?_
      refine e_opN (v_ia1 s hs hsl) Imp.nil ?_
      refine e_stSl .here (by rw [Ln_len]; omega) ?_
      rw [show (Ln len fun s => (cnt (P i ++ u.w.take j) s : Int)).set (0 + s) (.int .i64 ((cnt (P i ++ u.w.take j) s : Int) + 1)) = Ln len (fun s => (cnt (P i ++ u.w.take (j + 1)) s : Int)) from by
        rw [Nat.zero_add]
        refine Ln_set.trans (Ln_congr fun z hz => ?_)
        rw [List.take_succ_eq_append_getElem hjl, ← List.append_assoc, cnt_append (l := P i ++ u.w.take j)]
        by_cases e : z = s
        · subst e; rw [if_pos rfl]; simp [cnt, hs]
        · have hne : ¬ (u.w[j] = (z : Int)) := by omega
          rw [if_neg e]; simp [cnt, hne]]
      (((with_reducible refine e_opN (v_add ?h1 ?h2) Imp.nil ?_); (case h1 => omega); (case h2 => omega)))
      refine e_next1 (m2 - 1) (by omega) (.ex (j + 1) (.all ?_))
      (try simp only [List.cons_append, List.nil_append, -eq_self])
      exact .pu ⟨by omega, by norm_cast⟩ .refl
    · have : j = u.w.length := by omega
      subst this
      ((with_reducible refine e_condF ?_)); (((with_reducible refine e_opN (v_add ?h1 ?h2) Imp.nil ?_); (case h1 => omega); (case h2 => omega)))
      rw [List.take_length, ← hP1]
      refine e_next1 (m - 1) (by omega) (.ex (i + 1) (.all ?_))
      (try simp only [List.cons_append, List.nil_append, -eq_self])
      exact .pu ⟨by omega, by norm_cast⟩ .refl
  · have hie : i = 2 * k - 2 := by omega
    subst hie
    refine e_condF ?_
    refine e_imp (.pick .here (.drop (.drop .refl))) ?_
    rw [hP]
    exact hK
end Go.Proofs.Ytehfblkpbadikaa.HF
/-! The lengths of few frequencies, as the rows give them. Conditions: what lengths_ names. -/
namespace Go.Proofs.Ytehfblkpbadikaa.HF
open Go Go.Proofs Go.RowKit Go.Proofs.Ytehfblkpbadikaa.Sh Go.Proofs.Ytehfblkpbadikaa.Sl Go.Proofs.Ytehfblkpbadikaa.T Go.Proofs.Ytehfblkpbadikaa.HM
def coinsF : Int → List Int → List E
  | _, [] => []
  | s, x :: l => if 0 < x then (x, [s]) :: coinsF (s + 1) l else coinsF (s + 1) l
theorem coinsF_snoc (x : Int) : ∀ (s : Int) (l : List Int), coinsF s (l ++ [x]) = coinsF s l ++ if 0 < x then [(x, [s + l.length])] else []
  | s, [] => by simp [coinsF]
  | s, y :: l => by
    have ih := coinsF_snoc x (s + 1) l
    have e : s + 1 + (l.length : Int) = s + ((l.length + 1 : Nat) : Int) := by push_cast; omega
    rw [e] at ih
    simp only [List.cons_append, coinsF, ih, List.length_cons]
    split <;> simp
theorem mrg_len {α : Type} (key : α → Int) : ∀ us bs : List α, (mrg key us bs).length = us.length + bs.length
  | [], bs => by simp [mrg]
  | a :: us, bs => by
    have ih := mrg_len key us (bs.dropWhile fun b => decide (key b < key a))
    have h : bs.length = (bs.takeWhile fun b => decide (key b < key a)).length + (bs.dropWhile fun b => decide (key b < key a)).length := by
      rw [← List.length_append, List.takeWhile_append_dropWhile]
    simp only [mrg, List.length_append, List.length_cons, ih]
    omega
/-- how often a symbol stands in the first items -/
def hist (cs : List E) (L : Nat) (s : Nat) : Int := (cnt (((rows cs (L - 1)).take (2 * cs.length - 2)).flatMap fun e => e.2) s : Int)
theorem lengths_ {W : World} {a : Option Addr} {cap : Nat} {freq : List Int} {A : HP} {L : Nat} {cs : List E} (hr : RdB W A a freq.length (freq.map I)) (hf : ∀ x ∈ freq, 0 ≤ x ∧ x ≤ 1099511627776) (hl : freq.length ≤ 320) (h1 : 1 ≤ L) (h15 : L ≤ 15)
    (hcs : cs = isort Prod.fst (coinsF 0 freq)) (hk2 : 2 ≤ cs.length) (hk20 : cs.length < 20) (hkL : cs.length ≤ 2 ^ L)
    (hrows : ∀ j, j < L → (rows cs j).length ≤ 1073741824 ∧ ∀ e ∈ rows cs j, 0 ≤ e.1 ∧ e.1 ≤ 1152921504606846976 ∧ 0 < e.2.length ∧ e.2.length ≤ 1073741824)
    (hlast : 2 * cs.length - 2 ≤ (rows cs (L - 1)).length ∧ ∀ e ∈ rows cs (L - 1), ∀ s ∈ e.2, 0 ≤ s ∧ s < (freq.length : Int)) :
    Cn Try.prog 15 [.slice a freq.length cap, .int .i64 (L : Int)] W [A] (fun q : Option Addr × Nat => .tuple #[.slice q.1 freq.length q.2, .int .i64 0]) (fun q => [Sl 1 3 q.1 q.2 freq.length (Ln freq.length (hist cs L)), A]) := by
  (refine S.huff_Lengths_cn fun F => ?_; unfold S.huff_Lengths; simp only [List.cons_append, List.nil_append])
  (((with_reducible refine e_opN v_len Imp.nil ?_)))
  refine e_opN v_gtr Imp.nil ?_
  rw [decide_eq_false (by omega)]
  ((with_reducible refine e_gdT ?_)); ((with_reducible refine e_gdT ?_))
  refine e_opN v_lss Imp.nil ?_
  rw [decide_eq_false (by omega)]
  (((with_reducible refine e_opN v_pickF Imp.nil ?_))); ((with_reducible refine e_gdT ?_)); ((with_reducible refine e_gdT ?_))
  refine e_opN v_gtr Imp.nil ?_
  rw [decide_eq_false (by omega)]
  (((with_reducible refine e_opN v_pickF Imp.nil ?_))); ((with_reducible refine e_condF ?_)); (((with_reducible refine e_opN v_len Imp.nil ?_)))
  refine e_loop2 (fun m x y => [ex fun q : Option Addr × Nat => ex fun xs : List It => all [pu (∃ i : Nat, m + i = freq.length ∧ y = .int .i64 (i : Int) ∧ x = .slice q.1 xs.length q.2 ∧ xs.map er = coinsF 0 (freq.take i) ∧ xs.length ≤ i), Sl 2 86 q.1 q.2 xs.length (xs.flatMap ic), Arena xs, A]] ++ F) freq.length ?_ ?_
  · refine .ex (none, 0) (.ex [] (.all ?_))
    (try simp only [List.cons_append, List.nil_append, -eq_self])
    exact .pu ⟨0, by omega, rfl, rfl, rfl, Nat.le_refl _⟩ (imp_nil (imp_ar0 .refl))
  intro m ds x y
  (try simp only [List.cons_append, List.nil_append, -eq_self])
  refine e_ex Pick.here fun q => e_ex Pick.here fun xs => e_all Pick.here ?_
  obtain ⟨qa, qc⟩ := q
  (try simp only [List.cons_append, List.nil_append, -eq_self])
  refine e_pu Pick.here fun hi => ?_
  obtain ⟨i, hmi, rfl, rfl, hxs, hxl⟩ := hi
  (try dsimp only)
  (refine e_ask v_lss Imp.nil (fun h => ?_) (fun h => ?_))
  · have hil : i < freq.length := by omega
    obtain ⟨ga, oa, rfl, _⟩ := hr.at_ (by omega)
    have hfi := hf freq[i] (List.getElem_mem hil)
    have hsn : coinsF 0 (freq.take (i + 1)) = coinsF 0 (freq.take i) ++ if 0 < freq[i] then [(freq[i], [(i : Int)])] else [] := by
      rw [List.take_succ_eq_append_getElem hil, coinsF_snoc, List.length_take, Nat.min_eq_left (by omega), Int.zero_add]
    refine e_condT ?_
    refine e_opN (v_ia1 i (by rfl) hil) Imp.nil ?_
    refine e_opN (v_ldRd hr (I_get hil)) (.pick (by (repeat constructor)) .nil) ?_
    refine e_opN v_lss Imp.nil ?_
    rw [decide_eq_false (by omega)]
    ((with_reducible refine e_gdT ?_)); ((with_reducible refine e_gdT ?_))
    refine e_opN v_gtr Imp.nil ?_
    rw [decide_eq_false (by omega)]
    (((with_reducible refine e_opN v_pickF Imp.nil ?_))); ((with_reducible refine e_condF ?_))
    (refine e_ask v_gtr Imp.nil (fun h => ?_) (fun h => ?_))
    · refine e_condT ?_
      refine e_bsl1 fun g => ?_
      refine e_own (s := 1) (n := 1) (cs := [.int .i64 (i : Int)]) .here (by rfl) (by unfold maxLen; omega) ?_
      refine e_ar (x := ⟨freq[i], g, 1, [(i : Int)]⟩) rfl .here (.there .here) ?_
      (((with_reducible refine e_opN v_rv Imp.nil ?_)))
      refine e_bslS (s := 2) (vs := [av ⟨freq[i], g, 1, [(i : Int)]⟩]) rfl (by omega) rfl (by intro z hz; simp at hz; subst hz; rfl) (by omega) fun g4 => ?_
      refine e_app (m := 1) (news := ic ⟨freq[i], g, 1, [(i : Int)]⟩) (by (repeat constructor)) (src_pt (s := 2) (e' := 86) (by kernel_rfl) .here (by rfl) (ic_one _)) (by omega) (by omega) fun a' c' => ?_
      (((with_reducible refine e_opN (v_add ?h1 ?h2) Imp.nil ?_); (case h1 => omega); (case h2 => omega)))
      refine e_next2 (m - 1) (by omega) (.ex (a', c') (.ex (xs ++ [⟨freq[i], g, 1, [(i : Int)]⟩]) (.all ?_)))
      (try simp only [List.cons_append, List.nil_append, -eq_self])
      refine .pu ⟨i + 1, by omega, by norm_cast, by rw [List.length_append]; rfl, by rw [hsn, if_pos h, List.map_append, hxs]; rfl, by simp; omega⟩ ?_
      rw [List.flatMap_append, List.length_append, List.length_singleton, List.flatMap_singleton]
      refine .pick (by (repeat constructor)) (.convL (A := Arena (⟨freq[i], g, 1, [(i : Int)]⟩ :: xs)) (B := Arena (xs ++ [⟨freq[i], g, 1, [(i : Int)]⟩])) (by (repeat constructor)) (fun f hf y hy => hf y (by simp at hy ⊢; rcases hy with c | c; exact .inr c; exact .inl c)) ?_)
      (repeat (first | exact Imp.refl | exact Imp.nil | (apply Imp.pick; (focus ((repeat constructor); done))) | refine Imp.drop ?_))
    · refine e_condF ?_
      (((with_reducible refine e_opN (v_add ?h1 ?h2) Imp.nil ?_); (case h1 => omega); (case h2 => omega)))
      refine e_next2 (m - 1) (by omega) (.ex (qa, qc) (.ex xs (.all ?_)))
      (try simp only [List.cons_append, List.nil_append, -eq_self])
      refine .pu ⟨i + 1, by omega, by norm_cast, rfl, by rw [hsn, if_neg h, List.append_nil, hxs], by omega⟩ ?_
      (repeat (first | exact Imp.refl | exact Imp.nil | (apply Imp.pick; (focus ((repeat constructor); done))) | refine Imp.drop ?_))
  · have hie : i = freq.length := by omega
    subst hie
    rw [List.take_length] at hxs
    have hcx : cs.length = xs.length := by rw [hcs, length_isort, ← hxs, List.length_map]
    obtain ⟨ci, hci⟩ : ∃ ci, ci = isort It.n xs := ⟨_, rfl⟩
    have hcil : ci.length = xs.length := by rw [hci, length_isort]
    have hce : ci.map er = cs := by rw [hci, isort_map It.n Prod.fst er (fun _ => rfl), hxs, hcs]
    have hcm : ∀ y ∈ ci, y ∈ xs := fun y hy => by rw [hci] at hy; exact mem_isort It.n xs y hy
    ((with_reducible refine e_condF ?_)); (((with_reducible refine e_opN v_len Imp.nil ?_)))
    refine e_opN v_conv Imp.nil ?_
    rw [wrapu64' (by omega) (by omega)]
    refine e_opN (v_shl (by omega)) Imp.nil ?_
    rw [shl64 (by omega) (by omega) (by omega)]
    refine e_opN v_gtr Imp.nil ?_
    rw [decide_eq_false (by
      obtain ⟨Z, hZ⟩ : ∃ Z : Nat, Z = 2 ^ L := ⟨_, rfl⟩
      rw [← hZ] at hkL ⊢
      omega)]
    ((with_reducible refine e_condF ?_)); (((with_reducible refine e_opN v_len Imp.nil ?_)))
    refine e_mksl freq.length freq.length (by rfl) (by rfl) (by omega) (by omega) (by unfold maxLen; omega) fun go => ?_
    rw [Ln_zero]
    refine e_opN v_eql Imp.nil ?_
    rw [decide_eq_false (by omega)]
    ((with_reducible refine e_condF ?_))
    (refine' e_call (sorted (by omega)) ?hp fun _ => ?_; (case hp => (repeat (first | exact Picks.nil | (apply Picks.cons; (focus (repeat constructor)))))); (try simp only [List.cons_append, List.nil_append, Bool.not_true, Bool.not_false]))
    rw [← hci]
    (((with_reducible refine e_opN (v_sub ?h1 ?h2) Imp.nil ?_); (case h1 => omega); (case h2 => omega)))
    refine e_slfacts .here fun f1 f2 f3 f4 => ?_
    have rdc : RdL W (Sl 2 86 qa qc xs.length (ci.flatMap ic)) qa ci := by
      unfold RdL
      rw [hcil]
      exact rd_slS (P := Try.prog) (by rw [ics_len, hcil]) f4
    refine e_loop2 (fun m x y => [ex fun j : Nat => ex fun q : Option Addr × Nat => ex fun rs : List It => ex fun ar : List It => all [pu (m + j = L - 1 ∧ y = .int .i64 (j : Int) ∧ x = .slice q.1 rs.length q.2 ∧ rs.map er = rows cs j ∧ (∀ y ∈ rs, y ∈ ar) ∧ (∀ y ∈ ci, y ∈ ar) ∧ (j = 0 → q = (qa, qc) ∧ rs = ci)), (if j = 0 then pu True else Sl 2 86 q.1 q.2 rs.length (rs.flatMap ic)), Arena ar, Sl 2 86 qa qc xs.length (ci.flatMap ic), Sl 1 3 (some ⟨go, 0, none⟩) freq.length freq.length (Ln freq.length fun _ => 0), A]] ++ F) (L - 1) ?_ ?_
    · refine .ex 0 (.ex (qa, qc) (.ex ci (.ex xs (.all ?_))))
      (try simp only [List.cons_append, List.nil_append, -eq_self])
      refine .pu ⟨by omega, rfl, by rw [hcil], hce, hcm, hcm, fun _ => ⟨rfl, rfl⟩⟩ ?_
      rw [if_pos rfl]
      refine .pu trivial ?_
      exact .pick (by (repeat constructor)) (.pick (by (repeat constructor)) (.pick (by (repeat constructor)) (.pick (by (repeat constructor)) .refl)))
    intro m2 ds x y
    (try simp only [List.cons_append, List.nil_append, -eq_self])
    refine e_ex Pick.here fun j => e_ex Pick.here fun q => e_ex Pick.here fun rs => e_ex Pick.here fun ar => e_all Pick.here ?_
    obtain ⟨ra, rc⟩ := q
    (try simp only [List.cons_append, List.nil_append, -eq_self])
    refine e_pu Pick.here fun hj => ?_
    obtain ⟨hmj, rfl, rfl, hrs, hra, hca, hj0⟩ := hj
    (try dsimp only)
    have hrl : rs.length = (rows cs j).length := by rw [← hrs, List.length_map]
    have hmem : ∀ y ∈ rs, er y ∈ rows cs j := fun y hy => by rw [← hrs]; exact List.mem_map.2 ⟨y, hy, rfl⟩
    have hbj := hrows j (by omega)
    have hb1 : ∀ y ∈ rs, 0 ≤ y.n ∧ y.n ≤ 1152921504606846976 ∧ 0 < y.w.length ∧ y.w.length ≤ 1073741824 := fun y hy => hbj.2 (er y) (hmem y hy)
    (refine e_ask v_lss Imp.nil (fun h => ?_) (fun h => ?_))
    · have hjL : j < L - 1 := by omega
      refine e_condT ?_
      have step : ∀ (q : Option Addr × Nat) (ps ar' : List It), ps.map er = pairs (rs.map er) → (∀ y ∈ ps, y ∈ ar') → (∀ y ∈ ar, y ∈ ar') → Ent W (Sl 2 86 q.1 q.2 ps.length (ps.flatMap ic) :: Arena ar' :: Sl 2 86 qa qc xs.length (ci.flatMap ic) :: Sl 1 3 (some ⟨go, 0, none⟩) freq.length freq.length (Ln freq.length fun _ => 0) :: A :: F) (opN Try.prog (sCall (fn 47) [.slice qa xs.length qc, .slice q.1 ps.length q.2]) noP fun x117 =>
           opN Try.prog (sBin .add 3 (.int .i64 (j : Int)) (.int .i64 1)) noP fun x118 =>
           next2 (fun m x y w => sat W ([ex fun j : Nat => ex fun q : Option Addr × Nat => ex fun rs : List It => ex fun ar : List It => all [pu (m + j = L - 1 ∧ y = .int .i64 (j : Int) ∧ x = .slice q.1 rs.length q.2 ∧ rs.map er = rows cs j ∧ (∀ y ∈ rs, y ∈ ar) ∧ (∀ y ∈ ci, y ∈ ar) ∧ (j = 0 → q = (qa, qc) ∧ rs = ci)), (if j = 0 then pu True else Sl 2 86 q.1 q.2 rs.length (rs.flatMap ic)), Arena ar, Sl 2 86 qa qc xs.length (ci.flatMap ic), Sl 1 3 (some ⟨go, 0, none⟩) freq.length freq.length (Ln freq.length fun _ => 0), A]] ++ F) w) m2 x117 x118) := by
        intro q ps ar' hps hpa haa
        obtain ⟨pa, pc⟩ := q
        (try dsimp only)
        have hpl : ps.length ≤ 1073741824 := by
          have e1 : ps.length = (pairs (rs.map er)).length := by rw [← hps, List.length_map]
          have e2 : ∀ n, ∀ l : List E, l.length ≤ n → (pairs l).length ≤ l.length := by
            intro n
            induction n with
            | zero =>
              intro l hl
              have hl0 : l = [] := List.eq_nil_of_length_eq_zero (by omega)
              subst hl0
              simp [pairs]
            | succ n ih =>
              intro l hl
              match l, hl with
              | [], _ => simp [pairs]
              | [x], _ => simp [pairs]
              | x :: y :: r, hl => have := ih r (by simp at hl; omega); simp [pairs]; omega
          have := e2 _ (rs.map er) (Nat.le_refl _)
          rw [List.length_map] at this
          omega
        refine e_slfacts .here fun g1 g2 g3 g4 => ?_
        have rdp : RdL W (Sl 2 86 pa pc ps.length (ps.flatMap ic)) pa ps := rd_slS (P := Try.prog) (by rw [ics_len]) g4
        rw [← hcil]
        rw [← hcil] at rdc f2
        (refine' e_call (mergeC rdc rdp f2 g2 (by omega) hpl) ?hp fun _ => ?_; (case hp => (repeat (first | exact Picks.nil | (apply Picks.cons; (focus (repeat constructor)))))); (try simp only [List.cons_append, List.nil_append, Bool.not_true, Bool.not_false]))
        rename_i q3
        obtain ⟨ma, mc⟩ := q3
        (try dsimp only)
        (((with_reducible refine e_opN (v_add ?h1 ?h2) Imp.nil ?_); (case h1 => omega); (case h2 => omega)))
        refine e_next2 (m2 - 1) (by omega) (.ex (j + 1) (.ex (ma, mc) (.ex (mrg It.n ci ps) (.ex ar' (.all ?_)))))
        (try simp only [List.cons_append, List.nil_append, -eq_self])
        refine .pu ⟨by omega, by norm_cast, by rw [mrg_len], ?_, fun y hy => ?_, fun y hy => haa y (hca y hy), fun c => by omega⟩ ?_
        · rw [mrg_map It.n Prod.fst er (fun _ => rfl), hce, hps, hrs]; rfl
        · rcases mrg_mem It.n ci ps hy with c | c
          · exact haa y (hca y c)
          · exact hpa y c
        · rw [if_neg (by omega), mrg_len]
          exact .pick (by (repeat constructor)) (.pick (by (repeat constructor)) (.pick (by (repeat constructor)) (.pick (by (repeat constructor)) (.pick (by (repeat constructor)) (by (repeat (first | exact Imp.refl | exact Imp.nil | (apply Imp.pick; (focus ((repeat constructor); done))) | refine Imp.drop ?_)))))))
      by_cases c0 : j = 0
      · rw [if_pos c0]
        obtain ⟨e1, e2⟩ := hj0 c0
        injection e1 with e1 e3
        subst e1; subst e3
        refine e_imp (M := Sl 2 86 ra rc xs.length (ci.flatMap ic) :: Arena ar :: Sl 1 3 (some ⟨go, 0, none⟩) freq.length freq.length (Ln freq.length fun _ => 0) :: A :: F) (by (repeat (first | exact Imp.refl | exact Imp.nil | (apply Imp.pick; (focus ((repeat constructor); done))) | refine Imp.drop ?_))) ?_
        rw [e2]
        rw [e2] at step hra hb1
        refine pairsLoop rdc hra (by omega) hb1 fun q ps ar' k1 k2 k3 => ?_
        exact e_imp (by (repeat (first | exact Imp.refl | exact Imp.nil | (apply Imp.pick; (focus ((repeat constructor); done))) | refine Imp.drop ?_))) (step q ps ar' k1 k2 k3)
      · rw [if_neg c0]
        refine e_slfacts .here fun g1 g2 g3 g4 => ?_
        have rdr : RdL W (Sl 2 86 ra rc rs.length (rs.flatMap ic)) ra rs := rd_slS (P := Try.prog) (by rw [ics_len]) g4
        refine pairsLoop rdr hra (by omega) hb1 fun q ps ar' k1 k2 k3 => ?_
        exact e_imp (by (repeat (first | exact Imp.refl | exact Imp.nil | (apply Imp.pick; (focus ((repeat constructor); done))) | refine Imp.drop ?_))) (step q ps ar' k1 k2 k3)
    · have hjL : j = L - 1 := by omega
      subst hjL
      refine e_condF ?_
      have hb2 : ∀ y ∈ rs, y.w.length ≤ 1073741824 ∧ ∀ s ∈ y.w, 0 ≤ s ∧ s < (freq.length : Int) := fun y hy => ⟨(hb1 y hy).2.2.2, hlast.2 (er y) (hmem y hy)⟩
      have fin : Ent W (Sl 1 3 (some ⟨go, 0, none⟩) freq.length freq.length (Ln freq.length fun s => (cnt (((rs.map er).take (2 * xs.length - 2)).flatMap fun e => e.2) s : Int)) :: A :: F) (fun w => ∃ x : Option Addr × Nat, (.tuple #[.slice (some ⟨go, 0, none⟩) freq.length freq.length, .int .i64 0] : Value) = .tuple #[.slice x.1 freq.length x.2, .int .i64 0] ∧ sat W ([Sl 1 3 x.1 x.2 freq.length (Ln freq.length (hist cs L)), A] ++ F) w) := by
        refine e_ret (some ⟨go, 0, none⟩, freq.length) rfl ?_
        rw [hrs, ← hcx]
        exact .refl
      by_cases c0 : L - 1 = 0
      · rw [if_pos c0]
        obtain ⟨e1, e2⟩ := hj0 c0
        injection e1 with e1 e3
        subst e1; subst e3
        refine e_imp (M := Sl 1 3 (some ⟨go, 0, none⟩) freq.length freq.length (Ln freq.length fun _ => 0) :: Sl 2 86 ra rc xs.length (ci.flatMap ic) :: Arena ar :: A :: F) (by (repeat (first | exact Imp.refl | exact Imp.nil | (apply Imp.pick; (focus ((repeat constructor); done))) | refine Imp.drop ?_))) ?_
        subst e2
        refine histLoop rdc hra (by omega) ⟨by omega, by omega⟩ (by omega) hb2 ?_
        exact fin
      · rw [if_neg c0]
        refine e_slfacts .here fun g1 g2 g3 g4 => ?_
        have rdr : RdL W (Sl 2 86 ra rc rs.length (rs.flatMap ic)) ra rs := rd_slS (P := Try.prog) (by rw [ics_len]) g4
        refine e_imp (M := Sl 1 3 (some ⟨go, 0, none⟩) freq.length freq.length (Ln freq.length fun _ => 0) :: Sl 2 86 ra rc rs.length (rs.flatMap ic) :: Arena ar :: A :: F) (by (repeat (first | exact Imp.refl | exact Imp.nil | (apply Imp.pick; (focus ((repeat constructor); done))) | refine Imp.drop ?_))) ?_
        refine histLoop rdr hra (by omega) ⟨by omega, by omega⟩ (by omega) hb2 ?_
        exact fin
end Go.Proofs.Ytehfblkpbadikaa.HF
/-! The first answers that are known of huff. No conditions. -/
namespace Go.Proofs.Ytehfblkpbadikaa.HF
open Go Go.Proofs Go.RowKit Go.Proofs.Ytehfblkpbadikaa.Sh Go.Proofs.Ytehfblkpbadikaa.Sl Go.Proofs.Ytehfblkpbadikaa.T Go.Proofs.Ytehfblkpbadikaa.HM
def kc : List E := isort Prod.fst (coinsF 0 [1, 1, 2, 4])
theorem kh : Ln 4 (hist kc 15) = ([3, 3, 2, 1] : List Int).map I := Ln_ext (by rfl) fun j hj => by
  have h : ∀ j, j < 4 → ([3, 3, 2, 1] : List Int)[j]? = some (hist kc 15 j) := by decide +kernel
  rw [List.getElem?_map, h j hj]; rfl
theorem knows {W : World} : Cn Try.prog 19 [] W [] (fun _ : Unit => .bool true) (fun _ => []) := by
  (refine S.law03_knows_cn fun F => ?_; unfold S.law03_knows; simp only [List.cons_append, List.nil_append])
  refine e_bslN (vs := ([3, 3, 3, 3, 3, 2, 4, 4] : List Int).map I) rfl rfl (by intro v hv; obtain ⟨c, _, rfl⟩ := List.mem_map.1 hv; rfl) (by omega) fun g => ?_
  (refine' e_call (codes_ (l := [3, 3, 3, 3, 3, 2, 4, 4]) (rd_pt (by rfl)) (by decide)) ?hp fun _ => ?_; (case hp => (repeat (first | exact Picks.nil | (apply Picks.cons; (focus (repeat constructor)))))); (try simp only [List.cons_append, List.nil_append, Bool.not_true, Bool.not_false]))
  rename_i q
  obtain ⟨qa, qc⟩ := q
  rw [show cdL [3, 3, 3, 3, 3, 2, 4, 4] = [2, 3, 4, 5, 6, 0, 14, 15] by decide +kernel, show cdR [3, 3, 3, 3, 3, 2, 4, 4] = 0 by decide +kernel]
  (try dsimp only)
  (((with_reducible refine' e_opN (v_extN ?hc) Imp.nil ?_); (case hc => (repeat (first | exact Nth.here | apply Nth.there))))); (((with_reducible refine' e_opN (v_extN ?hc) Imp.nil ?_); (case hc => (repeat (first | exact Nth.here | apply Nth.there)))))
  refine e_slfacts .here fun f1 f2 f3 f4 => ?_
  refine e_bslN (vs := ([1, 1, 2, 4] : List Int).map I) rfl rfl (by intro v hv; obtain ⟨c, _, rfl⟩ := List.mem_map.1 hv; rfl) (by omega) fun g2 => ?_
  (refine' e_call (lengths_ (freq := [1, 1, 2, 4]) (L := 15) (cs := kc) (rd_pt (by rfl)) (by decide) (by decide) (by omega) (by omega) rfl (by decide +kernel) (by decide +kernel) (by decide +kernel) (by decide +kernel) (by decide +kernel)) ?hp fun _ => ?_; (case hp => (repeat (first | exact Picks.nil | (apply Picks.cons; (focus (repeat constructor)))))); (try simp only [List.cons_append, List.nil_append, Bool.not_true, Bool.not_false]))
  rename_i r
  obtain ⟨ra, rc⟩ := r
  (try dsimp only)
  rw [show ([1, 1, 2, 4] : List Int).length = 4 from rfl, kh]
  (((with_reducible refine' e_opN (v_extN ?hc) Imp.nil ?_); (case hc => (repeat (first | exact Nth.here | apply Nth.there))))); (((with_reducible refine' e_opN (v_extN ?hc) Imp.nil ?_); (case hc => (repeat (first | exact Nth.here | apply Nth.there)))))
  refine e_slfacts .here fun g1 g2 g3 g4 => ?_
  (refine' e_call (num) ?hp fun _ => ?_; (case hp => (repeat (first | exact Picks.nil | (apply Picks.cons; (focus (repeat constructor)))))); (try simp only [List.cons_append, List.nil_append, Bool.not_true, Bool.not_false]))
  (refine' e_call (num) ?hp fun _ => ?_; (case hp => (repeat (first | exact Picks.nil | (apply Picks.cons; (focus (repeat constructor)))))); (try simp only [List.cons_append, List.nil_append, Bool.not_true, Bool.not_false]))
  (((with_reducible refine e_opN (v_add ?h1 ?h2) Imp.nil ?_); (case h1 => omega); (case h2 => omega)))
  refine e_opN v_eql Imp.nil ?_
  rw [decide_eq_true (by omega)]
  ((with_reducible refine e_gdT ?_)); ((with_reducible refine e_gdT ?_))
  refine e_bslN (vs := ([2, 3, 4, 5, 6, 0, 14, 15] : List Int).map I) rfl rfl (by intro v hv; obtain ⟨c, _, rfl⟩ := List.mem_map.1 hv; rfl) (by omega) fun g5 => ?_
  ((with_reducible refine e_gdT ?_))
  (refine' e_call (sameInts (x := [2, 3, 4, 5, 6, 0, 14, 15]) (y := [2, 3, 4, 5, 6, 0, 14, 15]) (rd_sl (by rfl) f4) (rd_pt (by rfl)) (by decide)) ?hp fun _ => ?_; (case hp => (repeat (first | exact Picks.nil | (apply Picks.cons; (focus (repeat constructor)))))); (try simp only [List.cons_append, List.nil_append, Bool.not_true, Bool.not_false]))
  (first | rw [decide_eq_true rfl] | simp only [decide_true])
  (((with_reducible refine e_opN v_pickT Imp.nil ?_))); ((with_reducible refine e_gdT ?_)); ((with_reducible refine e_gdT ?_))
  refine e_bslN (vs := ([3, 3, 2, 1] : List Int).map I) rfl rfl (by intro v hv; obtain ⟨c, _, rfl⟩ := List.mem_map.1 hv; rfl) (by omega) fun g6 => ?_
  ((with_reducible refine e_gdT ?_))
  (refine' e_call (sameInts (x := [3, 3, 2, 1]) (y := [3, 3, 2, 1]) (rd_sl (by rfl) g4) (rd_pt (by rfl)) (by decide)) ?hp fun _ => ?_; (case hp => (repeat (first | exact Picks.nil | (apply Picks.cons; (focus (repeat constructor)))))); (try simp only [List.cons_append, List.nil_append, Bool.not_true, Bool.not_false]))
  (first | rw [decide_eq_true rfl] | simp only [decide_true])
  (((with_reducible refine e_opN v_pickT Imp.nil ?_)))
  (first | refine e_ret (()) rfl ?_ | refine e_retT (()) ?_)
  (repeat (first | exact Imp.refl | exact Imp.nil | (apply Imp.pick; (focus ((repeat constructor); done))) | refine Imp.drop ?_))
end Go.Proofs.Ytehfblkpbadikaa.HF
/-! The law HuffReads: what it does. No conditions but those that each names. -/
namespace Go.Proofs.Ytehfblkpbadikaa.HF
open Go Go.Proofs Go.RowKit Go.Proofs.Ytehfblkpbadikaa.Sh Go.Proofs.Ytehfblkpbadikaa.Sl Go.Proofs.Ytehfblkpbadikaa.T Go.Proofs.Ytehfblkpbadikaa.HM Go.Proofs.Ytehfblkpbadikaa.B Go.Proofs.Ytehfblkpbadikaa.M
theorem v_bneq {P : Program} {W : World} {t : TypeId} {ox oy : Operand} {a b : Bool} (ht : P.underlying t = some .bool) : RunV P W [] (sEq .neq t ox oy (.bool a) (.bool b)) (.bool (decide (a ≠ b))) := fun w _ => by
  have h : (Op.equal t (.bool a) (.bool b)).run P w = .ok (a == b) w := by
    unfold Op.equal Op.maxDepth Op.equalIn
    simp only [Sem.run_bind, run_underlying ht, Result.andThen_ok]
    rfl
  simp [sEq, sv, eqGuard, binOp, h, Result.andThen]
  cases a <;> cases b <;> rfl
theorem huffReads {W : World} {a a2 : Option Addr} {cap c2 : Nat} {l : List Int} {b : List UInt8} {n : Int} (hr : ∀ A, RdB W A a l.length (l.map I)) (hl : l.length ≤ 1048576) (hb : ∀ A, RdB W A a2 b.length (b.map Sl.B)) (hbl : b.length ≤ 1048576) :
    Cn Try.prog 12 [.slice a l.length cap, .slice a2 b.length c2, .int .i64 n] W [] (fun _ : Unit => .bool true) (fun _ => []) := by
  (refine S.law03_HuffReads_cn fun F => ?_; unfold S.law03_HuffReads; simp only [List.cons_append, List.nil_append])
  refine e_imp (M := pu True :: _) (.pu trivial .refl) ?_
  refine e_bslN (vs := []) rfl rfl (by simp) (by omega) fun g0 => ?_
  refine e_own (s := 1) (n := 0) .here (by rfl) (by unfold maxLen; omega) ?_
  refine e_app (m := l.length) (news := l.map I) .here (src_rd (e' := 3) (by kernel_rfl) (.there .here) (hr (pu True)) (rd_none (hr (pu True))) I_one) (by omega) (by omega) fun a1 c1 => ?_
  rw [Nat.zero_add, List.nil_append]
  refine e_slfacts .here fun f1 f2 f3 f4 => ?_
  have rdx : RdB W (Sl 1 3 a1 c1 l.length (l.map I)) a1 l.length (l.map I) := rd_sl (by simp) f4
  by_cases hok : ¬ okL l
  · (refine' e_call (newDec0 rdx (by omega) hok) ?hp fun _ => ?_; (case hp => (repeat (first | exact Picks.nil | (apply Picks.cons; (focus (repeat constructor)))))); (try simp only [List.cons_append, List.nil_append, Bool.not_true, Bool.not_false]))
    (((with_reducible refine' e_opN (v_extN ?hc) Imp.nil ?_); (case hc => (repeat (first | exact Nth.here | apply Nth.there))))); (((with_reducible refine' e_opN (v_extN ?hc) Imp.nil ?_); (case hc => (repeat (first | exact Nth.here | apply Nth.there)))))
    refine e_imp (M := pu True :: Sl 1 3 a1 c1 l.length (l.map I) :: F) (.pu trivial (by (repeat (first | exact Imp.refl | exact Imp.nil | (apply Imp.pick; (focus ((repeat constructor); done))) | refine Imp.drop ?_)))) ?_
    (refine' e_call (newDoc0 (hr (pu True)) (by omega) hok) ?hp fun _ => ?_; (case hp => (repeat (first | exact Picks.nil | (apply Picks.cons; (focus (repeat constructor)))))); (try simp only [List.cons_append, List.nil_append, Bool.not_true, Bool.not_false]))
    (((with_reducible refine' e_opN (v_extN ?hc) Imp.nil ?_); (case hc => (repeat (first | exact Nth.here | apply Nth.there))))); (((with_reducible refine' e_opN (v_extN ?hc) Imp.nil ?_); (case hc => (repeat (first | exact Nth.here | apply Nth.there)))))
    (refine' e_call (num) ?hp fun _ => ?_; (case hp => (repeat (first | exact Picks.nil | (apply Picks.cons; (focus (repeat constructor)))))); (try simp only [List.cons_append, List.nil_append, Bool.not_true, Bool.not_false]))
    refine e_opN v_neq Imp.nil ?_
    rw [decide_eq_false (by simp)]
    ((with_reducible refine e_gdT ?_)); ((with_reducible refine e_gdT ?_)); (((with_reducible refine e_opN v_eqNil0 Imp.nil ?_))); ((with_reducible refine e_gdT ?_)); ((with_reducible refine e_gdT ?_)); (((with_reducible refine e_opN v_eqNil0 Imp.nil ?_))); ((with_reducible refine e_gdT ?_))
    refine e_opN (v_bneq (by kernel_rfl)) Imp.nil ?_
    rw [decide_eq_false (by simp)]
    (((with_reducible refine e_opN v_pickF Imp.nil ?_))); ((with_reducible refine e_gdT ?_)); ((with_reducible refine e_gdT ?_)); ((with_reducible refine e_gdT ?_))
    (refine' e_call (sameInts (x := l) (y := l) rdx (hr (pu True)) (by omega)) ?hp fun _ => ?_; (case hp => (repeat (first | exact Picks.nil | (apply Picks.cons; (focus (repeat constructor)))))); (try simp only [List.cons_append, List.nil_append, Bool.not_true, Bool.not_false]))
    (first | rw [decide_eq_true rfl] | simp only [decide_true])
    ((with_reducible refine e_gdT ?_)); (((with_reducible refine e_opN v_notT Imp.nil ?_))); (((with_reducible refine e_opN v_pickF Imp.nil ?_))); ((with_reducible refine e_gdT ?_))
    (refine' e_call (knows) ?hp fun _ => ?_; (case hp => (repeat (first | exact Picks.nil | (apply Picks.cons; (focus (repeat constructor)))))); (try simp only [List.cons_append, List.nil_append, Bool.not_true, Bool.not_false]))
    ((with_reducible refine e_gdT ?_)); (((with_reducible refine e_opN v_notT Imp.nil ?_))); (((with_reducible refine e_opN v_pickF Imp.nil ?_))); ((with_reducible refine e_condF ?_)); (((with_reducible refine e_opN v_eqNil0 Imp.nil ?_))); ((with_reducible refine e_condT ?_))
    (first | refine e_ret (()) rfl ?_ | refine e_retT (()) ?_)
    (repeat (first | exact Imp.refl | exact Imp.nil | (apply Imp.pick; (focus ((repeat constructor); done))) | refine Imp.drop ?_))
  have hok := Decidable.not_not.1 hok
  (refine' e_call (newDec rdx hok) ?hp fun _ => ?_; (case hp => (repeat (first | exact Picks.nil | (apply Picks.cons; (focus (repeat constructor)))))); (try simp only [List.cons_append, List.nil_append, Bool.not_true, Bool.not_false]))
  rename_i d
  refine e_opN (v_ext (v := .pointer (some ⟨d, 0, none⟩)) rfl) Imp.nil ?_
  refine e_opN (v_ext (v := .int .i64 0) rfl) Imp.nil ?_
  refine e_imp (M := pu True :: IsDec d l :: Sl 1 3 a1 c1 l.length (l.map I) :: F) (.pu trivial (by (repeat (first | exact Imp.refl | exact Imp.nil | (apply Imp.pick; (focus ((repeat constructor); done))) | refine Imp.drop ?_)))) ?_
  (refine' e_call (newDoc (hr (pu True)) hok) ?hp fun _ => ?_; (case hp => (repeat (first | exact Picks.nil | (apply Picks.cons; (focus (repeat constructor)))))); (try simp only [List.cons_append, List.nil_append, Bool.not_true, Bool.not_false]))
  rename_i dd
  refine e_opN (v_ext (v := .pointer (some ⟨dd, 0, none⟩)) rfl) Imp.nil ?_
  refine e_opN (v_ext (v := .int .i64 0) rfl) Imp.nil ?_
  (refine' e_call (num) ?hp fun _ => ?_; (case hp => (repeat (first | exact Picks.nil | (apply Picks.cons; (focus (repeat constructor)))))); (try simp only [List.cons_append, List.nil_append, Bool.not_true, Bool.not_false]))
  refine e_opN v_neq Imp.nil ?_
  rw [decide_eq_false (by simp)]
  ((with_reducible refine e_gdT ?_)); ((with_reducible refine e_gdT ?_)); (((with_reducible refine e_opN v_eqNil1 Imp.nil ?_))); ((with_reducible refine e_gdT ?_)); ((with_reducible refine e_gdT ?_)); (((with_reducible refine e_opN v_eqNil1 Imp.nil ?_))); ((with_reducible refine e_gdT ?_))
  refine e_opN (v_bneq (by kernel_rfl)) Imp.nil ?_
  rw [decide_eq_false (by simp)]
  (((with_reducible refine e_opN v_pickF Imp.nil ?_))); ((with_reducible refine e_gdT ?_)); ((with_reducible refine e_gdT ?_)); ((with_reducible refine e_gdT ?_))
  (refine' e_call (sameInts (x := l) (y := l) rdx (hr (pu True)) (by omega)) ?hp fun _ => ?_; (case hp => (repeat (first | exact Picks.nil | (apply Picks.cons; (focus (repeat constructor)))))); (try simp only [List.cons_append, List.nil_append, Bool.not_true, Bool.not_false]))
  (first | rw [decide_eq_true rfl] | simp only [decide_true])
  ((with_reducible refine e_gdT ?_)); (((with_reducible refine e_opN v_notT Imp.nil ?_))); (((with_reducible refine e_opN v_pickF Imp.nil ?_))); ((with_reducible refine e_gdT ?_))
  (refine' e_call (knows) ?hp fun _ => ?_; (case hp => (repeat (first | exact Picks.nil | (apply Picks.cons; (focus (repeat constructor)))))); (try simp only [List.cons_append, List.nil_append, Bool.not_true, Bool.not_false]))
  ((with_reducible refine e_gdT ?_)); (((with_reducible refine e_opN v_notT Imp.nil ?_))); (((with_reducible refine e_opN v_pickF Imp.nil ?_))); ((with_reducible refine e_condF ?_)); (((with_reducible refine e_opN v_eqNil1 Imp.nil ?_))); ((with_reducible refine e_condF ?_))
  refine e_loop1 (fun m y => [ex fun i : Nat => ex fun xs : List Value => all [pu (m + i = l.length ∧ y = .int .i64 (i : Int) ∧ xs.length = l.length), Sl 1 3 a1 c1 l.length xs, IsDec d l, IsDoc dd l, pu True]] ++ F) l.length ?_ ?_
  · refine .ex 0 (.ex (l.map I) (.all ?_))
    (try simp only [List.cons_append, List.nil_append, -eq_self])
    refine .pu ⟨by omega, rfl, by simp⟩ ?_
    exact .pick (by (repeat constructor)) (.pick (by (repeat constructor)) (.pick (by (repeat constructor)) (.pu trivial (by (repeat (first | exact Imp.refl | exact Imp.nil | (apply Imp.pick; (focus ((repeat constructor); done))) | refine Imp.drop ?_))))))
  intro m ds y
  (try simp only [List.cons_append, List.nil_append, -eq_self])
  refine e_ex Pick.here fun i => e_ex Pick.here fun xs => e_all Pick.here ?_
  (try simp only [List.cons_append, List.nil_append, -eq_self])
  refine e_pu Pick.here fun hi => ?_
  obtain ⟨hmi, rfl, hxs⟩ := hi
  (((with_reducible refine e_opN v_len Imp.nil ?_)))
  (refine e_ask v_lss Imp.nil (fun h => ?_) (fun h => ?_))
  · have hil : i < l.length := by omega
    obtain ⟨g, rfl⟩ := f4 (by omega)
    refine e_condT ?_
    refine e_opN (v_ia1 i (by rfl) hil) Imp.nil ?_
    refine e_stSl (by (repeat constructor)) (by omega) ?_
    (((with_reducible refine e_opN (v_add ?h1 ?h2) Imp.nil ?_); (case h1 => omega); (case h2 => omega)))
    refine e_next1 (m - 1) (by omega) (.ex (i + 1) (.ex (xs.set (0 + i) (.int .i64 9)) (.all ?_)))
    (try simp only [List.cons_append, List.nil_append, -eq_self])
    exact .pu ⟨by omega, by norm_cast, by simp [hxs]⟩ .refl
  refine e_condF ?_
  refine e_imp (M := pu True :: IsDec d l :: IsDoc dd l :: F) (by (repeat (first | exact Imp.refl | exact Imp.nil | (apply Imp.pick; (focus ((repeat constructor); done))) | refine Imp.drop ?_))) ?_
  (refine' e_call (newReader (hb (pu True)) (RdB.none (hb (pu True))) (by omega)) ?hp fun _ => ?_; (case hp => (repeat (first | exact Picks.nil | (apply Picks.cons; (focus (repeat constructor)))))); (try simp only [List.cons_append, List.nil_append, Bool.not_true, Bool.not_false]))
  rename_i r
  (refine' e_call (newQ (hb (pu True)) (RdB.none (hb (pu True))) (by omega)) ?hp fun _ => ?_; (case hp => (repeat (first | exact Picks.nil | (apply Picks.cons; (focus (repeat constructor)))))); (try simp only [List.cons_append, List.nil_append, Bool.not_true, Bool.not_false]))
  rename_i q
  clear hmi h
  refine e_loop1 (fun m y => [ex fun i : Nat => ex fun at_ : Nat => all [pu (m + i = 60 ∧ y = .int .i64 (i : Int)), IsDec d l, IsDoc dd l, IsR r b at_, IsQ q b at_]] ++ F) 60 ?_ ?_
  · refine .ex 0 (.ex 0 (.all ?_))
    (try simp only [List.cons_append, List.nil_append, -eq_self])
    refine .pu ⟨by omega, rfl⟩ ?_
    exact .pick (by (repeat constructor)) (.pick (by (repeat constructor)) (.pick (by (repeat constructor)) (.pick (by (repeat constructor)) (by (repeat (first | exact Imp.refl | exact Imp.nil | (apply Imp.pick; (focus ((repeat constructor); done))) | refine Imp.drop ?_))))))
  intro m ds y
  (try simp only [List.cons_append, List.nil_append, -eq_self])
  refine e_ex Pick.here fun i => e_ex Pick.here fun at_ => e_all Pick.here ?_
  (try simp only [List.cons_append, List.nil_append, -eq_self])
  refine e_pu Pick.here fun hi => ?_
  obtain ⟨hmi, rfl⟩ := hi
  (refine e_ask v_lss Imp.nil (fun h => ?_) (fun h => ?_))
  · ((with_reducible refine e_gdT ?_)); ((with_reducible refine e_gdT ?_))
    (refine e_ask v_lss Imp.nil (fun h => ?_) (fun h => ?_))
    · (((with_reducible refine e_opN v_pickT Imp.nil ?_))); ((with_reducible refine e_condT ?_))
      (refine' e_call (next) ?hp fun _ => ?_; (case hp => (repeat (first | exact Picks.nil | (apply Picks.cons; (focus (repeat constructor)))))); (try simp only [List.cons_append, List.nil_append, Bool.not_true, Bool.not_false]))
      refine e_opN (v_ext (v := .int .i64 (nxt l b at_).1) rfl) Imp.nil ?_
      refine e_opN (v_ext (v := .int .i64 (nxt l b at_).2.1) rfl) Imp.nil ?_
      (refine' e_call (docNext (l := l) (by omega)) ?hp fun _ => ?_; (case hp => (repeat (first | exact Picks.nil | (apply Picks.cons; (focus (repeat constructor)))))); (try simp only [List.cons_append, List.nil_append, Bool.not_true, Bool.not_false]))
      refine e_opN (v_ext (v := .int .i64 (nxt l b at_).1) rfl) Imp.nil ?_
      refine e_opN (v_ext (v := .int .i64 (nxt l b at_).2.1) rfl) Imp.nil ?_
      refine e_opN v_neq Imp.nil ?_
      rw [decide_eq_false (by simp)]
      ((with_reducible refine e_gdT ?_)); ((with_reducible refine e_gdT ?_))
      (refine' e_call (num) ?hp fun _ => ?_; (case hp => (repeat (first | exact Picks.nil | (apply Picks.cons; (focus (repeat constructor)))))); (try simp only [List.cons_append, List.nil_append, Bool.not_true, Bool.not_false]))
      ((with_reducible refine e_gdT ?_)); ((with_reducible refine e_gdT ?_))
      refine e_opN v_neq Imp.nil ?_
      rw [decide_eq_false (by simp)]
      (((with_reducible refine e_opN v_pickF Imp.nil ?_))); ((with_reducible refine e_gdT ?_)); ((with_reducible refine e_gdT ?_))
      (refine' e_call (B.left) ?hp fun _ => ?_; (case hp => (repeat (first | exact Picks.nil | (apply Picks.cons; (focus (repeat constructor)))))); (try simp only [List.cons_append, List.nil_append, Bool.not_true, Bool.not_false]))
      ((with_reducible refine e_gdT ?_)); ((with_reducible refine e_gdT ?_))
      (refine' e_call (qleft) ?hp fun _ => ?_; (case hp => (repeat (first | exact Picks.nil | (apply Picks.cons; (focus (repeat constructor)))))); (try simp only [List.cons_append, List.nil_append, Bool.not_true, Bool.not_false]))
      ((with_reducible refine e_gdT ?_))
      refine e_opN v_neq Imp.nil ?_
      rw [decide_eq_false (by simp)]
      (((with_reducible refine e_opN v_pickF Imp.nil ?_))); ((with_reducible refine e_condF ?_)); (((with_reducible refine e_opN (v_add ?h1 ?h2) Imp.nil ?_); (case h1 => omega); (case h2 => omega)))
      refine e_next1 (m - 1) (by omega) (.ex (i + 1) (.ex (nxt l b at_).2.2 (.all ?_)))
      (try simp only [List.cons_append, List.nil_append, -eq_self])
      refine .pu ⟨by omega, by norm_cast⟩ ?_
      exact .pick (by (repeat constructor)) (.pick (by (repeat constructor)) (.pick (by (repeat constructor)) (.pick (by (repeat constructor)) .refl)))
    · (((with_reducible refine e_opN v_pickT Imp.nil ?_))); ((with_reducible refine e_condF ?_))
      (first | refine e_ret (()) rfl ?_ | refine e_retT (()) ?_)
      (repeat (first | exact Imp.refl | exact Imp.nil | (apply Imp.pick; (focus ((repeat constructor); done))) | refine Imp.drop ?_))
  · ((with_reducible refine e_gdF2 ?_)); ((with_reducible refine e_gdF2 ?_)); (((with_reducible refine e_opN v_pickF Imp.nil ?_))); ((with_reducible refine e_condF ?_))
    (first | refine e_ret (()) rfl ?_ | refine e_retT (()) ?_)
    (repeat (first | exact Imp.refl | exact Imp.nil | (apply Imp.pick; (focus ((repeat constructor); done))) | refine Imp.drop ?_))
end Go.Proofs.Ytehfblkpbadikaa.HF
/-! The document's base lengths and distances. Symbols within their range. -/
namespace Go.Proofs.Ytehfblkpbadikaa.IF
open Go Go.Proofs Go.RowKit Go.Proofs.Ytehfblkpbadikaa.Sh Go.Proofs.Ytehfblkpbadikaa.Sl Go.Proofs.Ytehfblkpbadikaa.T Go.Proofs.Ytehfblkpbadikaa.HM Go.Proofs.Ytehfblkpbadikaa.HF Go.Proofs.Ytehfblkpbadikaa.B Go.Proofs.Ytehfblkpbadikaa.M
def smL : Nat → Nat
  | 0 => 11
  | j + 1 => smL j + 2 ^ ((265 + j - 261) / 4)
def smD : Nat → Nat
  | 0 => 5
  | j + 1 => smD j + 2 ^ ((4 + j - 2) / 2)
theorem smL_ok : ∀ j : Fin 20, bL ((265 + j.1 : Nat) : Int) = ((smL j.1 : Int), (((265 + j.1 - 261) / 4 : Nat) : Int)) := by decide
theorem smD_ok : ∀ j : Fin 26, bD ((4 + j.1 : Nat) : Int) = ((smD j.1 : Int), (((4 + j.1 - 2) / 2 : Nat) : Int)) := by decide
theorem smL_b : ∀ j : Fin 20, smL j.1 ≤ 258 := by decide
theorem smD_b : ∀ j : Fin 26, smD j.1 ≤ 32768 := by decide
end Go.Proofs.Ytehfblkpbadikaa.IF
