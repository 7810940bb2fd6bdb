/- Symbols up to the end of a block: the walk. No conditions but those that each names. -/
import Derived.Test.YtehfblkpbadikaaInf4
set_option linter.unusedVariables false
set_option linter.unusedSimpArgs false
namespace Go.Proofs.Ytehfblkpbadikaa.IF
open Go Go.Proofs Go.RowKit Go.Proofs.Ytehfblkpbadikaa.Sh Go.Proofs.Ytehfblkpbadikaa.Sl Go.Proofs.Ytehfblkpbadikaa.T Go.Proofs.Ytehfblkpbadikaa.HM Go.Proofs.Ytehfblkpbadikaa.HF Go.Proofs.Ytehfblkpbadikaa.B Go.Proofs.Ytehfblkpbadikaa.M
theorem ite_err {α : Type} {c : Prop} [Decidable c] {e : Int} {x : Except Int α} {v : α} (h : (if c then .error e else x) = .ok v) : ¬ c ∧ x = .ok v := by
  by_cases hc : c
  · rw [if_pos hc] at h; cases h
  · rw [if_neg hc] at h; exact ⟨hc, h⟩
theorem mRound_ok {la lb : List Int} {b : List UInt8} {most : Int} {at_ : Nat} {out : List UInt8} {t : Bool} {a : Nat} {o : List UInt8} (h : mRound la lb b most at_ out = .ok (t, a, o)) (h0 : (out.length : Int) ≤ most) : (o.length : Int) ≤ most := by
  have ho : ∀ {t' : Bool} {a' : Nat} {o' : List UInt8}, (Except.ok (t', a', o') : Except Int (Bool × Nat × List UInt8)) = .ok (t, a, o) → o' = o := fun e => (Prod.mk.inj (Prod.mk.inj (Except.ok.inj e)).2).2
  unfold mRound at h
  simp only at h
  obtain ⟨_, h⟩ := ite_err h
  by_cases c1 : (nxt la b at_).1 = 256
  · rw [if_pos c1] at h
    rw [← ho h]; exact h0
  rw [if_neg c1] at h
  by_cases c2 : (nxt la b at_).1 < 256
  · rw [if_pos c2] at h
    obtain ⟨c3, h⟩ := ite_err h
    rw [← ho h, List.length_append, List.length_singleton]; omega
  rw [if_neg c2] at h
  obtain ⟨_, h⟩ := ite_err h
  obtain ⟨_, h⟩ := ite_err h
  obtain ⟨_, h⟩ := ite_err h
  obtain ⟨_, h⟩ := ite_err h
  obtain ⟨_, h⟩ := ite_err h
  obtain ⟨_, h⟩ := ite_err h
  obtain ⟨c3, h⟩ := ite_err h
  rw [← ho h, copyL_len]
  generalize (bL (nxt la b at_).1).1 + (takN b (nxt la b at_).2.2 (bL (nxt la b at_).1).2 : Int) = E at c3 ⊢
  omega
theorem mSyms_ok {la lb : List Int} {b : List UInt8} {most : Int} : ∀ (f : Nat) {at_ : Nat} {out : List UInt8} {a : Nat} {o : List UInt8}, mSyms la lb b most f at_ out = .ok (a, o) → (out.length : Int) ≤ most → (o.length : Int) ≤ most
  | 0, _, _, _, _, h, _ => by cases h
  | f + 1, at_, out, a, o, h, h0 => by
    rw [mSyms] at h
    split at h
    · cases h
    · rename_i hr
      cases h
      exact mRound_ok hr h0
    · rename_i hr
      exact mSyms_ok f h (mRound_ok hr h0)
/-- the fuel that the bits allow -/
def mS (la lb : List Int) (b : List UInt8) (most : Int) (at_ : Nat) (out : List UInt8) : Except Int (Nat × List UInt8) := mSyms la lb b most (8 * b.length + 1 - at_) at_ out
theorem symbols {W : World} {p pa pb at_ : Nat} {la lb : List Int} {b out : List UInt8} {most : Int} (hla : la.length ≤ 320) (hlb : lb.length ≤ 320) (h1 : 0 ≤ most ∧ most ≤ 1048576) (h2 : (out.length : Int) ≤ most) :
    CnP Try.prog 88 [.pointer (some ⟨p, 0, none⟩), .pointer (some ⟨pa, 0, none⟩), .pointer (some ⟨pb, 0, none⟩)] W [IsS p b at_ out most, IsDec pa la, IsDec pb lb]
      (fun _ : Ok (mS la lb b most at_ out) => .tuple #[]) (fun x => [IsS p b x.1.1 x.1.2 most]) (fun y : Er (mS la lb b most at_ out) => pn y.1) (fun _ => []) := by
  (refine S.inflate_stream_symbols_cnP fun F => ?_; unfold S.inflate_stream_symbols; simp only [List.cons_append, List.nil_append, -eq_self])
  obtain ⟨R, hR⟩ : ∃ R, R = mS la lb b most at_ out := ⟨_, rfl⟩
  rw [← hR]
  refine e_loop0 (fun m => [ex fun at1 : Nat => ex fun o1 : List UInt8 => all [pu (8 * b.length + 1 ≤ m + at1 ∧ R = mSyms la lb b most m at1 o1 ∧ (o1.length : Int) ≤ most), IsS p b at1 o1 most, IsDec pa la, IsDec pb lb]] ++ F) (8 * b.length + 1 - at_) ?_ ?_
  · refine .ex at_ (.ex out (.all ?_))
    (try simp only [List.cons_append, List.nil_append, -eq_self])
    refine .pu ⟨by omega, hR, h2⟩ ?_
    exact .pick (by (repeat constructor)) (.pick (by (repeat constructor)) (.pick (by (repeat constructor)) .refl))
  clear hR h2
  intro m ds
  (try simp only [List.cons_append, List.nil_append, -eq_self])
  refine e_ex Pick.here fun at1 => e_ex Pick.here fun o1 => e_all Pick.here ?_
  (try simp only [List.cons_append, List.nil_append, -eq_self])
  refine e_pu Pick.here fun hi => ?_
  obtain ⟨hm, hR, h2⟩ := hi
  refine e_ex Pick.here fun q => e_all Pick.here ?_
  obtain ⟨r, qa, qc⟩ := q
  (try simp only [List.cons_append, List.nil_append, -eq_self])
  refine e_rfact (.there .here) fun hat => ?_
  obtain ⟨m, rfl⟩ : ∃ m', m = m' + 1 := ⟨m - 1, by omega⟩
  rw [mSyms] at hR
  have hM : mRound la lb b most at1 o1 = mRound la lb b most at1 o1 := rfl
  conv at hM => rhs; unfold mRound
  simp only at hM
  (((with_reducible refine e_opN v_nil Imp.nil ?_))); (((with_reducible refine e_opN v_fa0 Imp.nil ?_))); (((with_reducible refine' e_opN (v_ldN ?hc) ?hi ?_); (case hi => (repeat (first | exact Imp.refl | exact Imp.nil | (apply Imp.pick; (focus ((repeat constructor); done))) | refine Imp.drop ?_))); (case hc => (repeat (first | exact Nth.here | apply Nth.there)))))
  (refine' e_callP (inext) ?hp (fun _ => ?_) (fun _ => ?_); (case hp => (repeat (first | exact Picks.nil | (apply Picks.cons; (focus (repeat constructor)))))); (all_goals (try simp only [List.cons_append, List.nil_append, Bool.not_true, Bool.not_false, -eq_self])))
  rotate_left
  · rename_i y
    rw [if_pos y.2] at hM
    rw [hM] at hR
    refine e_pan ⟨_, hR⟩ rfl ?_
    (repeat (first | exact Imp.refl | exact Imp.nil | (apply Imp.pick; (focus ((repeat constructor); done))) | refine Imp.drop ?_))
  rename_i x1
  rw [if_neg (fun c => c x1.2)] at hM
  have hv := nxt_val la b at1
  have hlt := (nxt_at la b at1).2 x1.2
  obtain ⟨x, hx⟩ : ∃ x, x = (nxt la b at1).1 := ⟨_, rfl⟩
  obtain ⟨a2, ha2⟩ : ∃ a2, a2 = (nxt la b at1).2.2 := ⟨_, rfl⟩
  rw [← hx] at hv
  rw [← ha2] at hlt
  rw [← hx, ← ha2] at hM ⊢
  refine e_imp (M := IsS p b a2 o1 most :: IsDec pa la :: IsDec pb lb :: F) (.ex (r, (qa, qc)) (.all (.pick (by (repeat constructor)) (.pick (by (repeat constructor)) (.pick (by (repeat constructor)) (by (repeat (first | exact Imp.refl | exact Imp.nil | (apply Imp.pick; (focus ((repeat constructor); done))) | refine Imp.drop ?_)))))))) ?_
  (refine e_ask v_eql Imp.nil (fun h => ?_) (fun h => ?_))
  · rw [if_pos h] at hM
    rw [hM] at hR
    refine e_condT ?_
    (first | refine e_ret ((⟨_, hR⟩ : Ok R)) rfl ?_ | refine e_retT ((⟨_, hR⟩ : Ok R)) ?_)
    (repeat (first | exact Imp.refl | exact Imp.nil | (apply Imp.pick; (focus ((repeat constructor); done))) | refine Imp.drop ?_))
  rw [if_neg h] at hM
  refine e_condF ?_
  (refine e_ask v_lss Imp.nil (fun h => ?_) (fun h => ?_))
  · rw [if_pos h] at hM
    refine e_condT ?_
    (refine' e_callP (room (most := most) (out := o1) (by omega) (by omega)) ?hp (fun _ => ?_) (fun _ => ?_); (case hp => (repeat (first | exact Picks.nil | (apply Picks.cons; (focus (repeat constructor)))))); (all_goals (try simp only [List.cons_append, List.nil_append, Bool.not_true, Bool.not_false, -eq_self])))
    rotate_left
    · rename_i y
      rw [if_pos y.2] at hM
      rw [hM] at hR
      refine e_pan ⟨_, hR⟩ rfl ?_
      (repeat (first | exact Imp.refl | exact Imp.nil | (apply Imp.pick; (focus ((repeat constructor); done))) | refine Imp.drop ?_))
    rename_i x2
    have h3 := x2.2
    rw [if_neg (fun c => c x2.2)] at hM
    rw [hM] at hR
    simp only at hR
    refine e_ex Pick.here fun q => e_all Pick.here ?_
    obtain ⟨r, qa, qc⟩ := q
    (try simp only [List.cons_append, List.nil_append, -eq_self])
    obtain ⟨X, rfl⟩ := Int.eq_ofNat_of_zero_le hv.1
    (((with_reducible refine e_opN v_nil Imp.nil ?_))); (((with_reducible refine e_opN v_fa0 Imp.nil ?_))); (((with_reducible refine' e_opN (v_ldN ?hc) ?hi ?_); (case hi => (repeat (first | exact Imp.refl | exact Imp.nil | (apply Imp.pick; (focus ((repeat constructor); done))) | refine Imp.drop ?_))); (case hc => (repeat (first | exact Nth.here | apply Nth.there)))))
    refine e_opN v_conv Imp.nil ?_
    rw [wrap8 (by omega), ← B_ofNat (by omega)]
    refine e_bsl1 fun g => ?_
    refine e_app (m := 1) (news := [Sl.B (UInt8.ofNat X)]) (by (repeat constructor)) (src_pt (e' := 5) (by kernel_rfl) .here (by rfl) (B_one (l := [UInt8.ofNat X]))) (by omega) (by omega) fun a' c' => ?_
    (((with_reducible refine e_opN v_nil Imp.nil ?_))); (((with_reducible refine e_opN v_fa0 Imp.nil ?_))); (((with_reducible refine' e_stN ?hp ?ho ?_); (case hp => (repeat constructor)); (case ho => (repeat (first | exact Put.here | apply Put.there)))))
    refine e_next0 m (by omega) (.ex a2 (.ex (o1 ++ [UInt8.ofNat X]) (.all ?_)))
    (try simp only [List.cons_append, List.nil_append, -eq_self])
    refine .pu ⟨by omega, hR, by rw [List.length_append, List.length_singleton]; omega⟩ ?_
    refine .ex (r, (a', c')) (.all ?_)
    (try simp only [List.cons_append, List.nil_append, -eq_self])
    rw [List.length_append, List.map_append, List.length_singleton]
    exact .pick (by (repeat constructor)) (.pick (by (repeat constructor)) (.pick (by (repeat constructor)) (.pick (by (repeat constructor)) (.pick (by (repeat constructor)) (by (repeat (first | exact Imp.refl | exact Imp.nil | (apply Imp.pick; (focus ((repeat constructor); done))) | refine Imp.drop ?_)))))))
  rw [if_neg h] at hM
  refine e_condF ?_
  have hbl := bL_b x (by omega)
  (refine' e_call (baseLength (by omega)) ?hp fun _ => ?_; (case hp => (repeat (first | exact Picks.nil | (apply Picks.cons; (focus (repeat constructor)))))); (try simp only [List.cons_append, List.nil_append, Bool.not_true, Bool.not_false]))
  obtain ⟨base, hbase⟩ : ∃ base, base = (bL x).1 := ⟨_, rfl⟩
  obtain ⟨n, hn⟩ : ∃ n, n = (bL x).2 := ⟨_, rfl⟩
  rw [← hbase, ← hn] at hM hbl ⊢
  refine e_opN (v_ext (v := .int .i64 base) rfl) Imp.nil ?_
  refine e_opN (v_ext (v := .int .i64 n) rfl) Imp.nil ?_
  refine e_opN v_gtr Imp.nil ?_
  (refine' e_callP (demand) ?hp (fun _ => ?_) (fun _ => ?_); (case hp => (repeat (first | exact Picks.nil | (apply Picks.cons; (focus (repeat constructor)))))); (all_goals (try simp only [List.cons_append, List.nil_append, Bool.not_true, Bool.not_false, -eq_self])))
  rotate_left
  · rename_i y
    rw [if_pos (of_decide_eq_false y.2)] at hM
    rw [hM] at hR
    refine e_pan ⟨_, hR⟩ rfl ?_
    (repeat (first | exact Imp.refl | exact Imp.nil | (apply Imp.pick; (focus ((repeat constructor); done))) | refine Imp.drop ?_))
  rename_i x3
  rw [if_neg (fun c => c (of_decide_eq_true x3.2))] at hM
  (refine' e_callP (stake) ?hp (fun _ => ?_) (fun _ => ?_); (case hp => (repeat (first | exact Picks.nil | (apply Picks.cons; (focus (repeat constructor)))))); (all_goals (try simp only [List.cons_append, List.nil_append, Bool.not_true, Bool.not_false, -eq_self])))
  rotate_left
  · rename_i y
    rw [if_pos y.2] at hM
    rw [hM] at hR
    refine e_pan ⟨_, hR⟩ rfl ?_
    (repeat (first | exact Imp.refl | exact Imp.nil | (apply Imp.pick; (focus ((repeat constructor); done))) | refine Imp.drop ?_))
  rename_i x4
  rw [if_neg (fun c => c x4.2)] at hM
  have ht1 := takN32 b a2 n
  obtain ⟨t1, ht⟩ : ∃ t1, t1 = takN b a2 n := ⟨_, rfl⟩
  have hlt3 := takAt_le b a2 n
  obtain ⟨a3, ha3⟩ : ∃ a3, a3 = takAt b a2 n := ⟨_, rfl⟩
  rw [← ht] at ht1
  rw [← ha3] at hlt3
  rw [← ht, ← ha3] at hM ⊢
  (((with_reducible refine e_opN (v_add ?h1 ?h2) Imp.nil ?_); (case h1 => omega); (case h2 => omega))); (((with_reducible refine e_opN v_nil Imp.nil ?_))); (((with_reducible refine e_opN v_fa0 Imp.nil ?_)))
  refine e_ex Pick.here fun q => e_all Pick.here ?_
  obtain ⟨r, qa, qc⟩ := q
  (try simp only [List.cons_append, List.nil_append, -eq_self])
  (((with_reducible refine' e_opN (v_ldN ?hc) ?hi ?_); (case hi => (repeat (first | exact Imp.refl | exact Imp.nil | (apply Imp.pick; (focus ((repeat constructor); done))) | refine Imp.drop ?_))); (case hc => (repeat (first | exact Nth.here | apply Nth.there)))))
  (refine' e_callP (inext) ?hp (fun _ => ?_) (fun _ => ?_); (case hp => (repeat (first | exact Picks.nil | (apply Picks.cons; (focus (repeat constructor)))))); (all_goals (try simp only [List.cons_append, List.nil_append, Bool.not_true, Bool.not_false, -eq_self])))
  rotate_left
  · rename_i y
    rw [if_pos y.2] at hM
    rw [hM] at hR
    refine e_pan ⟨_, hR⟩ rfl ?_
    (repeat (first | exact Imp.refl | exact Imp.nil | (apply Imp.pick; (focus ((repeat constructor); done))) | refine Imp.drop ?_))
  rename_i x5
  rw [if_neg (fun c => c x5.2)] at hM
  have hv5 := nxt_val lb b a3
  have hlt5 := (nxt_at lb b a3).2 x5.2
  obtain ⟨y1, hy1⟩ : ∃ x, x = (nxt lb b a3).1 := ⟨_, rfl⟩
  obtain ⟨a4, ha4⟩ : ∃ a2, a2 = (nxt lb b a3).2.2 := ⟨_, rfl⟩
  rw [← hy1] at hv5
  rw [← ha4] at hlt5
  rw [← hy1, ← ha4] at hM ⊢
  refine e_imp (M := IsS p b a4 o1 most :: IsDec pa la :: IsDec pb lb :: F) (.ex (r, (qa, qc)) (.all (.pick (by (repeat constructor)) (.pick (by (repeat constructor)) (.pick (by (repeat constructor)) (by (repeat (first | exact Imp.refl | exact Imp.nil | (apply Imp.pick; (focus ((repeat constructor); done))) | refine Imp.drop ?_)))))))) ?_
  have hbd := bD_b y1 (by omega)
  (refine' e_call (baseDistance) ?hp fun _ => ?_; (case hp => (repeat (first | exact Picks.nil | (apply Picks.cons; (focus (repeat constructor)))))); (try simp only [List.cons_append, List.nil_append, Bool.not_true, Bool.not_false]))
  obtain ⟨dist, hdist⟩ : ∃ base, base = (bD y1).1 := ⟨_, rfl⟩
  obtain ⟨k, hk⟩ : ∃ n, n = (bD y1).2 := ⟨_, rfl⟩
  rw [← hdist, ← hk] at hM hbd ⊢
  refine e_opN (v_ext (v := .int .i64 dist) rfl) Imp.nil ?_
  refine e_opN (v_ext (v := .int .i64 k) rfl) Imp.nil ?_
  refine e_opN v_gtr Imp.nil ?_
  (refine' e_callP (demand) ?hp (fun _ => ?_) (fun _ => ?_); (case hp => (repeat (first | exact Picks.nil | (apply Picks.cons; (focus (repeat constructor)))))); (all_goals (try simp only [List.cons_append, List.nil_append, Bool.not_true, Bool.not_false, -eq_self])))
  rotate_left
  · rename_i y
    rw [if_pos (of_decide_eq_false y.2)] at hM
    rw [hM] at hR
    refine e_pan ⟨_, hR⟩ rfl ?_
    (repeat (first | exact Imp.refl | exact Imp.nil | (apply Imp.pick; (focus ((repeat constructor); done))) | refine Imp.drop ?_))
  rename_i x6
  have hd0 := of_decide_eq_true x6.2
  rw [if_neg (fun c => c (of_decide_eq_true x6.2))] at hM
  (refine' e_callP (stake) ?hp (fun _ => ?_) (fun _ => ?_); (case hp => (repeat (first | exact Picks.nil | (apply Picks.cons; (focus (repeat constructor)))))); (all_goals (try simp only [List.cons_append, List.nil_append, Bool.not_true, Bool.not_false, -eq_self])))
  rotate_left
  · rename_i y
    rw [if_pos y.2] at hM
    rw [hM] at hR
    refine e_pan ⟨_, hR⟩ rfl ?_
    (repeat (first | exact Imp.refl | exact Imp.nil | (apply Imp.pick; (focus ((repeat constructor); done))) | refine Imp.drop ?_))
  rename_i x7
  rw [if_neg (fun c => c x7.2)] at hM
  have ht7 := takN32 b a4 k
  obtain ⟨t2, htt⟩ : ∃ t1, t1 = takN b a4 k := ⟨_, rfl⟩
  have hlt7 := takAt_le b a4 k
  obtain ⟨a5, ha5⟩ : ∃ a3, a3 = takAt b a4 k := ⟨_, rfl⟩
  rw [← htt] at ht7
  rw [← ha5] at hlt7
  rw [← htt, ← ha5] at hM ⊢
  (((with_reducible refine e_opN (v_add ?h1 ?h2) Imp.nil ?_); (case h1 => omega); (case h2 => omega))); (((with_reducible refine e_opN v_nil Imp.nil ?_))); (((with_reducible refine e_opN v_fa0 Imp.nil ?_)))
  refine e_ex Pick.here fun q => e_all Pick.here ?_
  obtain ⟨r, qa, qc⟩ := q
  (try simp only [List.cons_append, List.nil_append, -eq_self])
  (((with_reducible refine' e_opN (v_ldN ?hc) ?hi ?_); (case hi => (repeat (first | exact Imp.refl | exact Imp.nil | (apply Imp.pick; (focus ((repeat constructor); done))) | refine Imp.drop ?_))); (case hc => (repeat (first | exact Nth.here | apply Nth.there))))); (((with_reducible refine e_opN v_len Imp.nil ?_)))
  refine e_opN v_leq Imp.nil ?_
  (refine' e_callP (demand) ?hp (fun _ => ?_) (fun _ => ?_); (case hp => (repeat (first | exact Picks.nil | (apply Picks.cons; (focus (repeat constructor)))))); (all_goals (try simp only [List.cons_append, List.nil_append, Bool.not_true, Bool.not_false, -eq_self])))
  rotate_left
  · rename_i y
    rw [if_pos (of_decide_eq_false y.2)] at hM
    rw [hM] at hR
    refine e_pan ⟨_, hR⟩ rfl ?_
    (repeat (first | exact Imp.refl | exact Imp.nil | (apply Imp.pick; (focus ((repeat constructor); done))) | refine Imp.drop ?_))
  rename_i x8
  have hfar := of_decide_eq_true x8.2
  rw [if_neg (fun c => c (of_decide_eq_true x8.2))] at hM
  refine e_imp (M := IsS p b a5 o1 most :: IsDec pa la :: IsDec pb lb :: F) (.ex (r, (qa, qc)) (.all (.pick (by (repeat constructor)) (.pick (by (repeat constructor)) (.pick (by (repeat constructor)) (by (repeat (first | exact Imp.refl | exact Imp.nil | (apply Imp.pick; (focus ((repeat constructor); done))) | refine Imp.drop ?_)))))))) ?_
  (refine' e_callP (room (most := most) (out := o1) (by omega) (by omega)) ?hp (fun _ => ?_) (fun _ => ?_); (case hp => (repeat (first | exact Picks.nil | (apply Picks.cons; (focus (repeat constructor)))))); (all_goals (try simp only [List.cons_append, List.nil_append, Bool.not_true, Bool.not_false, -eq_self])))
  rotate_left
  · rename_i y
    rw [if_pos y.2] at hM
    rw [hM] at hR
    refine e_pan ⟨_, hR⟩ rfl ?_
    (repeat (first | exact Imp.refl | exact Imp.nil | (apply Imp.pick; (focus ((repeat constructor); done))) | refine Imp.drop ?_))
  rename_i x9
  have hroom := x9.2
  rw [if_neg (fun c => c x9.2)] at hM
  rw [hM] at hR
  simp only at hR
  obtain ⟨far, hfarE⟩ : ∃ far : Nat, far = (dist + (t2 : Int)).toNat := ⟨_, rfl⟩
  obtain ⟨len, hlenE⟩ : ∃ len : Nat, len = (base + (t1 : Int)).toNat := ⟨_, rfl⟩
  rw [← hfarE, ← hlenE] at hR
  rw [show dist + (t2 : Int) = (far : Int) by omega, show base + (t1 : Int) = (len : Int) by omega]
  refine e_loop1 (fun m2 y => [ex fun i : Nat => all [pu (m2 + i = len ∧ y = .int .i64 (i : Int)), IsS p b a5 (copyL o1 far i) most, IsDec pa la, IsDec pb lb]] ++ F) len ?_ ?_
  · refine .ex 0 (.all ?_)
    (try simp only [List.cons_append, List.nil_append, -eq_self])
    refine .pu ⟨by omega, rfl⟩ ?_
    exact .pick (by (repeat constructor)) (.pick (by (repeat constructor)) (.pick (by (repeat constructor)) .refl))
  intro m2 ds y
  (try simp only [List.cons_append, List.nil_append, -eq_self])
  refine e_ex Pick.here fun i => e_all Pick.here ?_
  (try simp only [List.cons_append, List.nil_append, -eq_self])
  refine e_pu Pick.here fun hi => ?_
  obtain ⟨hmi, rfl⟩ := hi
  have hcl := copyL_len o1 far i
  (refine e_ask v_lss Imp.nil (fun h => ?_) (fun h => ?_))
  · refine e_condT ?_
    refine e_ex Pick.here fun q => e_all Pick.here ?_
    obtain ⟨r, qa, qc⟩ := q
    (try simp only [List.cons_append, List.nil_append, -eq_self])
    refine e_slfacts (.there (.there .here)) fun f1 f2 f3 f4 => ?_
    obtain ⟨C, hC⟩ : ∃ C, C = copyL o1 far i := ⟨_, rfl⟩
    rw [← hC] at hcl f4 ⊢
    obtain ⟨gq, rfl⟩ := f4 (by omega)
    have hj : C.length - far < C.length := by omega
    ((with_reducible refine e_drS ?_)); (((with_reducible refine e_stD v_nil Imp.nil ?_))); (((with_reducible refine e_stD v_fa0 Imp.nil ?_))); (((with_reducible refine' e_stD (v_ldN ?hc) ?hi ?_); (case hi => (repeat (first | exact Imp.refl | exact Imp.nil | (apply Imp.pick; (focus ((repeat constructor); done))) | refine Imp.drop ?_))); (case hc => (repeat (first | exact Nth.here | apply Nth.there))))); (((with_reducible refine e_stS v_nil Imp.nil ?_))); (((with_reducible refine e_stS v_fa0 Imp.nil ?_))); (((with_reducible refine' e_stS (v_ldN ?hc) ?hi ?_); (case hi => (repeat (first | exact Imp.refl | exact Imp.nil | (apply Imp.pick; (focus ((repeat constructor); done))) | refine Imp.drop ?_))); (case hc => (repeat (first | exact Nth.here | apply Nth.there))))); (((with_reducible refine e_stS v_nil Imp.nil ?_))); (((with_reducible refine e_stS v_fa0 Imp.nil ?_))); (((with_reducible refine' e_stS (v_ldN ?hc) ?hi ?_); (case hi => (repeat (first | exact Imp.refl | exact Imp.nil | (apply Imp.pick; (focus ((repeat constructor); done))) | refine Imp.drop ?_))); (case hc => (repeat (first | exact Nth.here | apply Nth.there))))); (((with_reducible refine e_stS v_len Imp.nil ?_))); (((with_reducible refine e_stS (v_sub ?h1 ?h2) Imp.nil ?_); (case h1 => omega); (case h2 => omega)))
    refine e_stS (v_ia1 (C.length - far) (by omega) hj) Imp.nil ?_
    refine e_stS (v_ldSl (v := Sl.B C[C.length - far]) (by rw [Nat.zero_add]; exact B_get hj)) (.pick (by (repeat constructor)) .nil) ?_
    refine e_bsl1 fun g => ?_
    (((with_reducible refine e_obl ?hi ?_); (case hi => (repeat (first | exact Imp.refl | exact Imp.nil | (apply Imp.pick; (focus ((repeat constructor); done))) | refine Imp.drop ?_))))); (((with_reducible refine e_obl ?hi ?_); (case hi => (repeat (first | exact Imp.refl | exact Imp.nil | (apply Imp.pick; (focus ((repeat constructor); done))) | refine Imp.drop ?_))))); (((with_reducible refine e_obl ?hi ?_); (case hi => (repeat (first | exact Imp.refl | exact Imp.nil | (apply Imp.pick; (focus ((repeat constructor); done))) | refine Imp.drop ?_)))))
    refine e_app (m := 1) (news := [Sl.B C[C.length - far]]) (by (repeat constructor)) (src_pt (e' := 5) (by kernel_rfl) .here (by rfl) (B_one (l := [C[C.length - far]]))) (by omega) (by omega) fun a' c' => ?_
    (((with_reducible refine e_stS v_nil Imp.nil ?_))); (((with_reducible refine e_stS v_fa0 Imp.nil ?_))); (((with_reducible refine' e_stN ?hp ?ho ?_); (case hp => (repeat constructor)); (case ho => (repeat (first | exact Put.here | apply Put.there))))); (((with_reducible refine e_opN (v_add ?h1 ?h2) Imp.nil ?_); (case h1 => omega); (case h2 => omega)))
    refine e_next1 (m2 - 1) (by omega) (.ex (i + 1) (.all ?_))
    (try simp only [List.cons_append, List.nil_append, -eq_self])
    refine .pu ⟨by omega, congrArg (Value.int .i64) (by omega)⟩ ?_
    refine .ex (r, (a', c')) (.all ?_)
    (try simp only [List.cons_append, List.nil_append, -eq_self])
    rw [show copyL o1 far (i + 1) = C ++ [C[C.length - far]] by rw [copyL, ← hC, List.getD_eq_getElem?_getD, List.getElem?_eq_getElem hj]; rfl]
    rw [List.length_append, List.map_append, List.length_singleton]
    exact .pick (by (repeat constructor)) (.pick (by (repeat constructor)) (.pick (by (repeat constructor)) (.pick (by (repeat constructor)) (.pick (by (repeat constructor)) (by (repeat (first | exact Imp.refl | exact Imp.nil | (apply Imp.pick; (focus ((repeat constructor); done))) | refine Imp.drop ?_)))))))
  · have : i = len := by omega
    subst this
    refine e_condF ?_
    refine e_next0 m (by omega) (.ex a5 (.ex (copyL o1 far i) (.all ?_)))
    (try simp only [List.cons_append, List.nil_append, -eq_self])
    refine .pu ⟨by omega, hR, by omega⟩ ?_
    exact .pick (by (repeat constructor)) (.pick (by (repeat constructor)) (.pick (by (repeat constructor)) .refl))
end Go.Proofs.Ytehfblkpbadikaa.IF
