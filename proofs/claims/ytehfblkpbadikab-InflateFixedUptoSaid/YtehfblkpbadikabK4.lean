/- Symbols up to the end of a block: the walk. No conditions but those that each names. (14 texts made one; each says below what it is.) -/
import Derived.Test.YtehfblkpbadikabK3
import Derived.Test.YtehfblkpbadikabK2
import Derived.Test.YtehfblkpbadikabK1
set_option linter.unusedVariables false
set_option linter.unusedSimpArgs false
set_option linter.unusedSectionVars false
/-! Symbols up to the end of a block: the walk. No conditions but those that each names. -/
namespace Go.Proofs.Ytehfblkpbadikab.IF
open Go Go.Proofs Go.RowKit Go.Proofs.Ytehfblkpbadikab.Sh Go.Proofs.Ytehfblkpbadikab.Sl Go.Proofs.Ytehfblkpbadikab.T Go.Proofs.Ytehfblkpbadikab.HM Go.Proofs.Ytehfblkpbadikab.HF Go.Proofs.Ytehfblkpbadikab.B Go.Proofs.Ytehfblkpbadikab.M
theorem ite_err {α : Type} {c : Prop} [Decidable c] {e : Int} {x : Except Int α} {v : α} (h : (if c then .error e else x) = .ok v) : ¬ c ∧ x = .ok v := by
  by_cases hc : c
  · rw [if_pos hc] at h; cases h
  · rw [if_neg hc] at h; exact ⟨hc, h⟩
theorem mRound_ok {la lb : List Int} {b : List UInt8} {most : Int} {at_ : Nat} {out : List UInt8} {t : Bool} {a : Nat} {o : List UInt8} (h : mRound la lb b most at_ out = .ok (t, a, o)) (h0 : (out.length : Int) ≤ most) : (o.length : Int) ≤ most := by
  have ho : ∀ {t' : Bool} {a' : Nat} {o' : List UInt8}, (Except.ok (t', a', o') : Except Int (Bool × Nat × List UInt8)) = .ok (t, a, o) → o' = o := fun e => (Prod.mk.inj (Prod.mk.inj (Except.ok.inj e)).2).2
  unfold mRound at h
  simp only at h
  obtain ⟨_, h⟩ := ite_err h
  by_cases c1 : (nxt la b at_).1 = 256
  · rw [if_pos c1] at h
    rw [← ho h]; exact h0
  rw [if_neg c1] at h
  by_cases c2 : (nxt la b at_).1 < 256
  · rw [if_pos c2] at h
    obtain ⟨c3, h⟩ := ite_err h
    rw [← ho h, List.length_append, List.length_singleton]; omega
  rw [if_neg c2] at h
  obtain ⟨_, h⟩ := ite_err h
  obtain ⟨_, h⟩ := ite_err h
  obtain ⟨_, h⟩ := ite_err h
  obtain ⟨_, h⟩ := ite_err h
  obtain ⟨_, h⟩ := ite_err h
  obtain ⟨_, h⟩ := ite_err h
  obtain ⟨c3, h⟩ := ite_err h
  rw [← ho h, copyL_len]
  generalize (bL (nxt la b at_).1).1 + (takN b (nxt la b at_).2.2 (bL (nxt la b at_).1).2 : Int) = E at c3 ⊢
  omega
theorem mSyms_ok {la lb : List Int} {b : List UInt8} {most : Int} : ∀ (f : Nat) {at_ : Nat} {out : List UInt8} {a : Nat} {o : List UInt8}, mSyms la lb b most f at_ out = .ok (a, o) → (out.length : Int) ≤ most → (o.length : Int) ≤ most
  | 0, _, _, _, _, h, _ => by cases h
  | f + 1, at_, out, a, o, h, h0 => by
    rw [mSyms] at h
    split at h
    · cases h
    · rename_i hr
      cases h
      exact mRound_ok hr h0
    · rename_i hr
      exact mSyms_ok f h (mRound_ok hr h0)
/-- the fuel that the bits allow -/
def mS (la lb : List Int) (b : List UInt8) (most : Int) (at_ : Nat) (out : List UInt8) : Except Int (Nat × List UInt8) := mSyms la lb b most (8 * b.length + 1 - at_) at_ out
theorem symbols {W : World} {p pa pb at_ : Nat} {la lb : List Int} {b out : List UInt8} {most : Int} (hla : la.length ≤ 320) (hlb : lb.length ≤ 320) (h1 : 0 ≤ most ∧ most ≤ 1048576) (h2 : (out.length : Int) ≤ most) :
    CnP Try.prog 39 [.pointer (some ⟨p, 0, none⟩), .pointer (some ⟨pa, 0, none⟩), .pointer (some ⟨pb, 0, none⟩)] W [IsS p b at_ out most, IsDec pa la, IsDec pb lb]
      (fun _ : Ok (mS la lb b most at_ out) => .tuple #[]) (fun x => [IsS p b x.1.1 x.1.2 most]) (fun y : Er (mS la lb b most at_ out) => pn y.1) (fun _ => []) := by
  (refine S.inflate_stream_symbols_cnP fun F => ?_; unfold S.inflate_stream_symbols; simp only [List.cons_append, List.nil_append, -eq_self])
  obtain ⟨R, hR⟩ : ∃ R, R = mS la lb b most at_ out := ⟨_, rfl⟩
  rw [← hR]
  refine e_loop0 (fun m => [ex fun at1 : Nat => ex fun o1 : List UInt8 => all [pu (8 * b.length + 1 ≤ m + at1 ∧ R = mSyms la lb b most m at1 o1 ∧ (o1.length : Int) ≤ most), IsS p b at1 o1 most, IsDec pa la, IsDec pb lb]] ++ F) (8 * b.length + 1 - at_) ?_ ?_
  · refine .ex at_ (.ex out (.all ?_))
    (try simp only [List.cons_append, List.nil_append, -eq_self])
    refine .pu ⟨by omega, hR, h2⟩ ?_
    exact .pick (by (repeat constructor)) (.pick (by (repeat constructor)) (.pick (by (repeat constructor)) .refl))
  clear hR h2
  intro m ds
  (try simp only [List.cons_append, List.nil_append, -eq_self])
  refine e_ex Pick.here fun at1 => e_ex Pick.here fun o1 => e_all Pick.here ?_
  (try simp only [List.cons_append, List.nil_append, -eq_self])
  refine e_pu Pick.here fun hi => ?_
  obtain ⟨hm, hR, h2⟩ := hi
  refine e_ex Pick.here fun q => e_all Pick.here ?_
  obtain ⟨r, qa, qc⟩ := q
  (try simp only [List.cons_append, List.nil_append, -eq_self])
  refine e_rfact (.there .here) fun hat => ?_
  obtain ⟨m, rfl⟩ : ∃ m', m = m' + 1 := ⟨m - 1, by omega⟩
  rw [mSyms] at hR
  have hM : mRound la lb b most at1 o1 = mRound la lb b most at1 o1 := rfl
  conv at hM => rhs; unfold mRound
  simp only at hM
  (((with_reducible refine e_opN v_nil Imp.nil ?_))); (((with_reducible refine e_opN v_fa0 Imp.nil ?_))); (((with_reducible refine' e_opN (v_ldN ?hc) ?hi ?_); (case hi => (repeat (first | exact Imp.refl | exact Imp.nil | (apply Imp.pick; (focus ((repeat constructor); done))) | refine Imp.drop ?_))); (case hc => (repeat (first | exact Nth.here | apply Nth.there)))))
  (refine' e_callP (inext) ?hp (fun _ => ?_) (fun _ => ?_); (case hp => (repeat (first | exact Picks.nil | (apply Picks.cons; (focus (repeat constructor)))))); (all_goals (try simp only [List.cons_append, List.nil_append, Bool.not_true, Bool.not_false, -eq_self])))
  rotate_left
  · rename_i y
    rw [if_pos y.2] at hM
    rw [hM] at hR
    refine e_pan ⟨_, hR⟩ rfl ?_
    (repeat (first | exact Imp.refl | exact Imp.nil | (apply Imp.pick; (focus ((repeat constructor); done))) | refine Imp.drop ?_))
  rename_i x1
  rw [if_neg (fun c => c x1.2)] at hM
  have hv := nxt_val la b at1
  have hlt := (nxt_at la b at1).2 x1.2
  obtain ⟨x, hx⟩ : ∃ x, x = (nxt la b at1).1 := ⟨_, rfl⟩
  obtain ⟨a2, ha2⟩ : ∃ a2, a2 = (nxt la b at1).2.2 := ⟨_, rfl⟩
  rw [← hx] at hv
  rw [← ha2] at hlt
  rw [← hx, ← ha2] at hM ⊢
  refine e_imp (M := IsS p b a2 o1 most :: IsDec pa la :: IsDec pb lb :: F) (.ex (r, (qa, qc)) (.all (.pick (by (repeat constructor)) (.pick (by (repeat constructor)) (.pick (by (repeat constructor)) (by (repeat (first | exact Imp.refl | exact Imp.nil | (apply Imp.pick; (focus ((repeat constructor); done))) | refine Imp.drop ?_)))))))) ?_
  (refine e_ask v_eql Imp.nil (fun h => ?_) (fun h => ?_))
  · rw [if_pos h] at hM
    rw [hM] at hR
    refine e_condT ?_
    (first | refine e_ret ((⟨_, hR⟩ : Ok R)) rfl ?_ | refine e_retT ((⟨_, hR⟩ : Ok R)) ?_)
    (repeat (first | exact Imp.refl | exact Imp.nil | (apply Imp.pick; (focus ((repeat constructor); done))) | refine Imp.drop ?_))
  rw [if_neg h] at hM
  refine e_condF ?_
  (refine e_ask v_lss Imp.nil (fun h => ?_) (fun h => ?_))
  · rw [if_pos h] at hM
    refine e_condT ?_
    (refine' e_callP (room (most := most) (out := o1) (by omega) (by omega)) ?hp (fun _ => ?_) (fun _ => ?_); (case hp => (repeat (first | exact Picks.nil | (apply Picks.cons; (focus (repeat constructor)))))); (all_goals (try simp only [List.cons_append, List.nil_append, Bool.not_true, Bool.not_false, -eq_self])))
    rotate_left
    · rename_i y
      rw [if_pos y.2] at hM
      rw [hM] at hR
      refine e_pan ⟨_, hR⟩ rfl ?_
      (repeat (first | exact Imp.refl | exact Imp.nil | (apply Imp.pick; (focus ((repeat constructor); done))) | refine Imp.drop ?_))
    rename_i x2
    have h3 := x2.2
    rw [if_neg (fun c => c x2.2)] at hM
    rw [hM] at hR
    simp only at hR
    refine e_ex Pick.here fun q => e_all Pick.here ?_
    obtain ⟨r, qa, qc⟩ := q
    (try simp only [List.cons_append, List.nil_append, -eq_self])
    obtain ⟨X, rfl⟩ := Int.eq_ofNat_of_zero_le hv.1
    (((with_reducible refine e_opN v_nil Imp.nil ?_))); (((with_reducible refine e_opN v_fa0 Imp.nil ?_))); (((with_reducible refine' e_opN (v_ldN ?hc) ?hi ?_); (case hi => (repeat (first | exact Imp.refl | exact Imp.nil | (apply Imp.pick; (focus ((repeat constructor); done))) | refine Imp.drop ?_))); (case hc => (repeat (first | exact Nth.here | apply Nth.there)))))
    refine e_opN v_conv Imp.nil ?_
    rw [wrap8 (by omega), ← B_ofNat (by omega)]
    refine e_bsl1 fun g => ?_
    refine e_app (m := 1) (news := [Sl.B (UInt8.ofNat X)]) (by (repeat constructor)) (src_pt (e' := 5) (by kernel_rfl) .here (by rfl) (B_one (l := [UInt8.ofNat X]))) (by omega) (by omega) fun a' c' => ?_
    (((with_reducible refine e_opN v_nil Imp.nil ?_))); (((with_reducible refine e_opN v_fa0 Imp.nil ?_))); (((with_reducible refine' e_stN ?hp ?ho ?_); (case hp => (repeat constructor)); (case ho => (repeat (first | exact Put.here | apply Put.there)))))
    refine e_next0 m (by omega) (.ex a2 (.ex (o1 ++ [UInt8.ofNat X]) (.all ?_)))
    (try simp only [List.cons_append, List.nil_append, -eq_self])
    refine .pu ⟨by omega, hR, by rw [List.length_append, List.length_singleton]; omega⟩ ?_
    refine .ex (r, (a', c')) (.all ?_)
    (try simp only [List.cons_append, List.nil_append, -eq_self])
    rw [List.length_append, List.map_append, List.length_singleton]
    exact .pick (by (repeat constructor)) (.pick (by (repeat constructor)) (.pick (by (repeat constructor)) (.pick (by (repeat constructor)) (.pick (by (repeat constructor)) (by (repeat (first | exact Imp.refl | exact Imp.nil | (apply Imp.pick; (focus ((repeat constructor); done))) | refine Imp.drop ?_)))))))
  rw [if_neg h] at hM
  refine e_condF ?_
  have hbl := bL_b x (by omega)
  (refine' e_call (baseLength (by omega)) ?hp fun _ => ?_; (case hp => (repeat (first | exact Picks.nil | (apply Picks.cons; (focus (repeat constructor)))))); (try simp only [List.cons_append, List.nil_append, Bool.not_true, Bool.not_false]))
  obtain ⟨base, hbase⟩ : ∃ base, base = (bL x).1 := ⟨_, rfl⟩
  obtain ⟨n, hn⟩ : ∃ n, n = (bL x).2 := ⟨_, rfl⟩
  rw [← hbase, ← hn] at hM hbl ⊢
  refine e_opN (v_ext (v := .int .i64 base) rfl) Imp.nil ?_
  refine e_opN (v_ext (v := .int .i64 n) rfl) Imp.nil ?_
  refine e_opN v_gtr Imp.nil ?_
  (refine' e_callP (demand) ?hp (fun _ => ?_) (fun _ => ?_); (case hp => (repeat (first | exact Picks.nil | (apply Picks.cons; (focus (repeat constructor)))))); (all_goals (try simp only [List.cons_append, List.nil_append, Bool.not_true, Bool.not_false, -eq_self])))
  rotate_left
  · rename_i y
    rw [if_pos (of_decide_eq_false y.2)] at hM
    rw [hM] at hR
    refine e_pan ⟨_, hR⟩ rfl ?_
    (repeat (first | exact Imp.refl | exact Imp.nil | (apply Imp.pick; (focus ((repeat constructor); done))) | refine Imp.drop ?_))
  rename_i x3
  rw [if_neg (fun c => c (of_decide_eq_true x3.2))] at hM
  (refine' e_callP (stake) ?hp (fun _ => ?_) (fun _ => ?_); (case hp => (repeat (first | exact Picks.nil | (apply Picks.cons; (focus (repeat constructor)))))); (all_goals (try simp only [List.cons_append, List.nil_append, Bool.not_true, Bool.not_false, -eq_self])))
  rotate_left
  · rename_i y
    rw [if_pos y.2] at hM
    rw [hM] at hR
    refine e_pan ⟨_, hR⟩ rfl ?_
    (repeat (first | exact Imp.refl | exact Imp.nil | (apply Imp.pick; (focus ((repeat constructor); done))) | refine Imp.drop ?_))
  rename_i x4
  rw [if_neg (fun c => c x4.2)] at hM
  have ht1 := takN32 b a2 n
  obtain ⟨t1, ht⟩ : ∃ t1, t1 = takN b a2 n := ⟨_, rfl⟩
  have hlt3 := takAt_le b a2 n
  obtain ⟨a3, ha3⟩ : ∃ a3, a3 = takAt b a2 n := ⟨_, rfl⟩
  rw [← ht] at ht1
  rw [← ha3] at hlt3
  rw [← ht, ← ha3] at hM ⊢
  (((with_reducible refine e_opN (v_add ?h1 ?h2) Imp.nil ?_); (case h1 => omega); (case h2 => omega))); (((with_reducible refine e_opN v_nil Imp.nil ?_))); (((with_reducible refine e_opN v_fa0 Imp.nil ?_)))
  refine e_ex Pick.here fun q => e_all Pick.here ?_
  obtain ⟨r, qa, qc⟩ := q
  (try simp only [List.cons_append, List.nil_append, -eq_self])
  (((with_reducible refine' e_opN (v_ldN ?hc) ?hi ?_); (case hi => (repeat (first | exact Imp.refl | exact Imp.nil | (apply Imp.pick; (focus ((repeat constructor); done))) | refine Imp.drop ?_))); (case hc => (repeat (first | exact Nth.here | apply Nth.there)))))
  (refine' e_callP (inext) ?hp (fun _ => ?_) (fun _ => ?_); (case hp => (repeat (first | exact Picks.nil | (apply Picks.cons; (focus (repeat constructor)))))); (all_goals (try simp only [List.cons_append, List.nil_append, Bool.not_true, Bool.not_false, -eq_self])))
  rotate_left
  · rename_i y
    rw [if_pos y.2] at hM
    rw [hM] at hR
    refine e_pan ⟨_, hR⟩ rfl ?_
    (repeat (first | exact Imp.refl | exact Imp.nil | (apply Imp.pick; (focus ((repeat constructor); done))) | refine Imp.drop ?_))
  rename_i x5
  rw [if_neg (fun c => c x5.2)] at hM
  have hv5 := nxt_val lb b a3
  have hlt5 := (nxt_at lb b a3).2 x5.2
  obtain ⟨y1, hy1⟩ : ∃ x, x = (nxt lb b a3).1 := ⟨_, rfl⟩
  obtain ⟨a4, ha4⟩ : ∃ a2, a2 = (nxt lb b a3).2.2 := ⟨_, rfl⟩
  rw [← hy1] at hv5
  rw [← ha4] at hlt5
  rw [← hy1, ← ha4] at hM ⊢
  refine e_imp (M := IsS p b a4 o1 most :: IsDec pa la :: IsDec pb lb :: F) (.ex (r, (qa, qc)) (.all (.pick (by (repeat constructor)) (.pick (by (repeat constructor)) (.pick (by (repeat constructor)) (by (repeat (first | exact Imp.refl | exact Imp.nil | (apply Imp.pick; (focus ((repeat constructor); done))) | refine Imp.drop ?_)))))))) ?_
  have hbd := bD_b y1 (by omega)
  (refine' e_call (baseDistance) ?hp fun _ => ?_; (case hp => (repeat (first | exact Picks.nil | (apply Picks.cons; (focus (repeat constructor)))))); (try simp only [List.cons_append, List.nil_append, Bool.not_true, Bool.not_false]))
  obtain ⟨dist, hdist⟩ : ∃ base, base = (bD y1).1 := ⟨_, rfl⟩
  obtain ⟨k, hk⟩ : ∃ n, n = (bD y1).2 := ⟨_, rfl⟩
  rw [← hdist, ← hk] at hM hbd ⊢
  refine e_opN (v_ext (v := .int .i64 dist) rfl) Imp.nil ?_
  refine e_opN (v_ext (v := .int .i64 k) rfl) Imp.nil ?_
  refine e_opN v_gtr Imp.nil ?_
  (refine' e_callP (demand) ?hp (fun _ => ?_) (fun _ => ?_); (case hp => (repeat (first | exact Picks.nil | (apply Picks.cons; (focus (repeat constructor)))))); (all_goals (try simp only [List.cons_append, List.nil_append, Bool.not_true, Bool.not_false, -eq_self])))
  rotate_left
  · rename_i y
    rw [if_pos (of_decide_eq_false y.2)] at hM
    rw [hM] at hR
    refine e_pan ⟨_, hR⟩ rfl ?_
    (repeat (first | exact Imp.refl | exact Imp.nil | (apply Imp.pick; (focus ((repeat constructor); done))) | refine Imp.drop ?_))
  rename_i x6
  have hd0 := of_decide_eq_true x6.2
  rw [if_neg (fun c => c (of_decide_eq_true x6.2))] at hM
  (refine' e_callP (stake) ?hp (fun _ => ?_) (fun _ => ?_); (case hp => (repeat (first | exact Picks.nil | (apply Picks.cons; (focus (repeat constructor)))))); (all_goals (try simp only [List.cons_append, List.nil_append, Bool.not_true, Bool.not_false, -eq_self])))
  rotate_left
  · rename_i y
    rw [if_pos y.2] at hM
    rw [hM] at hR
    refine e_pan ⟨_, hR⟩ rfl ?_
    (repeat (first | exact Imp.refl | exact Imp.nil | (apply Imp.pick; (focus ((repeat constructor); done))) | refine Imp.drop ?_))
  rename_i x7
  rw [if_neg (fun c => c x7.2)] at hM
  have ht7 := takN32 b a4 k
  obtain ⟨t2, htt⟩ : ∃ t1, t1 = takN b a4 k := ⟨_, rfl⟩
  have hlt7 := takAt_le b a4 k
  obtain ⟨a5, ha5⟩ : ∃ a3, a3 = takAt b a4 k := ⟨_, rfl⟩
  rw [← htt] at ht7
  rw [← ha5] at hlt7
  rw [← htt, ← ha5] at hM ⊢
  (((with_reducible refine e_opN (v_add ?h1 ?h2) Imp.nil ?_); (case h1 => omega); (case h2 => omega))); (((with_reducible refine e_opN v_nil Imp.nil ?_))); (((with_reducible refine e_opN v_fa0 Imp.nil ?_)))
  refine e_ex Pick.here fun q => e_all Pick.here ?_
  obtain ⟨r, qa, qc⟩ := q
  (try simp only [List.cons_append, List.nil_append, -eq_self])
  (((with_reducible refine' e_opN (v_ldN ?hc) ?hi ?_); (case hi => (repeat (first | exact Imp.refl | exact Imp.nil | (apply Imp.pick; (focus ((repeat constructor); done))) | refine Imp.drop ?_))); (case hc => (repeat (first | exact Nth.here | apply Nth.there))))); (((with_reducible refine e_opN v_len Imp.nil ?_)))
  refine e_opN v_leq Imp.nil ?_
  (refine' e_callP (demand) ?hp (fun _ => ?_) (fun _ => ?_); (case hp => (repeat (first | exact Picks.nil | (apply Picks.cons; (focus (repeat constructor)))))); (all_goals (try simp only [List.cons_append, List.nil_append, Bool.not_true, Bool.not_false, -eq_self])))
  rotate_left
  · rename_i y
    rw [if_pos (of_decide_eq_false y.2)] at hM
    rw [hM] at hR
    refine e_pan ⟨_, hR⟩ rfl ?_
    (repeat (first | exact Imp.refl | exact Imp.nil | (apply Imp.pick; (focus ((repeat constructor); done))) | refine Imp.drop ?_))
  rename_i x8
  have hfar := of_decide_eq_true x8.2
  rw [if_neg (fun c => c (of_decide_eq_true x8.2))] at hM
  refine e_imp (M := IsS p b a5 o1 most :: IsDec pa la :: IsDec pb lb :: F) (.ex (r, (qa, qc)) (.all (.pick (by (repeat constructor)) (.pick (by (repeat constructor)) (.pick (by (repeat constructor)) (by (repeat (first | exact Imp.refl | exact Imp.nil | (apply Imp.pick; (focus ((repeat constructor); done))) | refine Imp.drop ?_)))))))) ?_
  (refine' e_callP (room (most := most) (out := o1) (by omega) (by omega)) ?hp (fun _ => ?_) (fun _ => ?_); (case hp => (repeat (first | exact Picks.nil | (apply Picks.cons; (focus (repeat constructor)))))); (all_goals (try simp only [List.cons_append, List.nil_append, Bool.not_true, Bool.not_false, -eq_self])))
  rotate_left
  · rename_i y
    rw [if_pos y.2] at hM
    rw [hM] at hR
    refine e_pan ⟨_, hR⟩ rfl ?_
    (repeat (first | exact Imp.refl | exact Imp.nil | (apply Imp.pick; (focus ((repeat constructor); done))) | refine Imp.drop ?_))
  rename_i x9
  have hroom := x9.2
  rw [if_neg (fun c => c x9.2)] at hM
  rw [hM] at hR
  simp only at hR
  obtain ⟨far, hfarE⟩ : ∃ far : Nat, far = (dist + (t2 : Int)).toNat := ⟨_, rfl⟩
  obtain ⟨len, hlenE⟩ : ∃ len : Nat, len = (base + (t1 : Int)).toNat := ⟨_, rfl⟩
  rw [← hfarE, ← hlenE] at hR
  rw [show dist + (t2 : Int) = (far : Int) by omega, show base + (t1 : Int) = (len : Int) by omega]
  refine e_loop1 (fun m2 y => [ex fun i : Nat => all [pu (m2 + i = len ∧ y = .int .i64 (i : Int)), IsS p b a5 (copyL o1 far i) most, IsDec pa la, IsDec pb lb]] ++ F) len ?_ ?_
  · refine .ex 0 (.all ?_)
    (try simp only [List.cons_append, List.nil_append, -eq_self])
    refine .pu ⟨by omega, rfl⟩ ?_
    exact .pick (by (repeat constructor)) (.pick (by (repeat constructor)) (.pick (by (repeat constructor)) .refl))
  intro m2 ds y
  (try simp only [List.cons_append, List.nil_append, -eq_self])
  refine e_ex Pick.here fun i => e_all Pick.here ?_
  (try simp only [List.cons_append, List.nil_append, -eq_self])
  refine e_pu Pick.here fun hi => ?_
  obtain ⟨hmi, rfl⟩ := hi
  have hcl := copyL_len o1 far i
  (refine e_ask v_lss Imp.nil (fun h => ?_) (fun h => ?_))
  · refine e_condT ?_
    refine e_ex Pick.here fun q => e_all Pick.here ?_
    obtain ⟨r, qa, qc⟩ := q
    (try simp only [List.cons_append, List.nil_append, -eq_self])
    refine e_slfacts (.there (.there .here)) fun f1 f2 f3 f4 => ?_
    obtain ⟨C, hC⟩ : ∃ C, C = copyL o1 far i := ⟨_, rfl⟩
    rw [← hC] at hcl f4 ⊢
    obtain ⟨gq, rfl⟩ := f4 (by omega)
    have hj : C.length - far < C.length := by omega
    ((with_reducible refine e_drS ?_)); (((with_reducible refine e_stD v_nil Imp.nil ?_))); (((with_reducible refine e_stD v_fa0 Imp.nil ?_))); (((with_reducible refine' e_stD (v_ldN ?hc) ?hi ?_); (case hi => (repeat (first | exact Imp.refl | exact Imp.nil | (apply Imp.pick; (focus ((repeat constructor); done))) | refine Imp.drop ?_))); (case hc => (repeat (first | exact Nth.here | apply Nth.there))))); (((with_reducible refine e_stS v_nil Imp.nil ?_))); (((with_reducible refine e_stS v_fa0 Imp.nil ?_))); (((with_reducible refine' e_stS (v_ldN ?hc) ?hi ?_); (case hi => (repeat (first | exact Imp.refl | exact Imp.nil | (apply Imp.pick; (focus ((repeat constructor); done))) | refine Imp.drop ?_))); (case hc => (repeat (first | exact Nth.here | apply Nth.there))))); (((with_reducible refine e_stS v_nil Imp.nil ?_))); (((with_reducible refine e_stS v_fa0 Imp.nil ?_))); (((with_reducible refine' e_stS (v_ldN ?hc) ?hi ?_); (case hi => (repeat (first | exact Imp.refl | exact Imp.nil | (apply Imp.pick; (focus ((repeat constructor); done))) | refine Imp.drop ?_))); (case hc => (repeat (first | exact Nth.here | apply Nth.there))))); (((with_reducible refine e_stS v_len Imp.nil ?_))); (((with_reducible refine e_stS (v_sub ?h1 ?h2) Imp.nil ?_); (case h1 => omega); (case h2 => omega)))
    refine e_stS (v_ia1 (C.length - far) (by omega) hj) Imp.nil ?_
    refine e_stS (v_ldSl (v := Sl.B C[C.length - far]) (by rw [Nat.zero_add]; exact B_get hj)) (.pick (by (repeat constructor)) .nil) ?_
    refine e_bsl1 fun g => ?_
    (((with_reducible refine e_obl ?hi ?_); (case hi => (repeat (first | exact Imp.refl | exact Imp.nil | (apply Imp.pick; (focus ((repeat constructor); done))) | refine Imp.drop ?_))))); (((with_reducible refine e_obl ?hi ?_); (case hi => (repeat (first | exact Imp.refl | exact Imp.nil | (apply Imp.pick; (focus ((repeat constructor); done))) | refine Imp.drop ?_))))); (((with_reducible refine e_obl ?hi ?_); (case hi => (repeat (first | exact Imp.refl | exact Imp.nil | (apply Imp.pick; (focus ((repeat constructor); done))) | refine Imp.drop ?_)))))
    refine e_app (m := 1) (news := [Sl.B C[C.length - far]]) (by (repeat constructor)) (src_pt (e' := 5) (by kernel_rfl) .here (by rfl) (B_one (l := [C[C.length - far]]))) (by omega) (by omega) fun a' c' => ?_
    (((with_reducible refine e_stS v_nil Imp.nil ?_))); (((with_reducible refine e_stS v_fa0 Imp.nil ?_))); (((with_reducible refine' e_stN ?hp ?ho ?_); (case hp => (repeat constructor)); (case ho => (repeat (first | exact Put.here | apply Put.there))))); (((with_reducible refine e_opN (v_add ?h1 ?h2) Imp.nil ?_); (case h1 => omega); (case h2 => omega)))
    refine e_next1 (m2 - 1) (by omega) (.ex (i + 1) (.all ?_))
    (try simp only [List.cons_append, List.nil_append, -eq_self])
    refine .pu ⟨by omega, congrArg (Value.int .i64) (by omega)⟩ ?_
    refine .ex (r, (a', c')) (.all ?_)
    (try simp only [List.cons_append, List.nil_append, -eq_self])
    rw [show copyL o1 far (i + 1) = C ++ [C[C.length - far]] by rw [copyL, ← hC, List.getD_eq_getElem?_getD, List.getElem?_eq_getElem hj]; rfl]
    rw [List.length_append, List.map_append, List.length_singleton]
    exact .pick (by (repeat constructor)) (.pick (by (repeat constructor)) (.pick (by (repeat constructor)) (.pick (by (repeat constructor)) (.pick (by (repeat constructor)) (by (repeat (first | exact Imp.refl | exact Imp.nil | (apply Imp.pick; (focus ((repeat constructor); done))) | refine Imp.drop ?_)))))))
  · have : i = len := by omega
    subst this
    refine e_condF ?_
    refine e_next0 m (by omega) (.ex a5 (.ex (copyL o1 far i) (.all ?_)))
    (try simp only [List.cons_append, List.nil_append, -eq_self])
    refine .pu ⟨by omega, hR, by omega⟩ ?_
    exact .pick (by (repeat constructor)) (.pick (by (repeat constructor)) (.pick (by (repeat constructor)) .refl))
end Go.Proofs.Ytehfblkpbadikab.IF
/-! A symbol is put: the program's way and the document's. No conditions but those that each names. -/
namespace Go.Proofs.Ytehfblkpbadikab.HF
open Go Go.Proofs Go.RowKit Go.Proofs.Ytehfblkpbadikab.Sh Go.Proofs.Ytehfblkpbadikab.Sl Go.Proofs.Ytehfblkpbadikab.T Go.Proofs.Ytehfblkpbadikab.HM Go.Proofs.Ytehfblkpbadikab.B Go.Proofs.Ytehfblkpbadikab.M
/-- a symbol's code and length, if it has one -/
def sym (cs ls : List Int) (s : Int) : Option (Int × Nat) :=
  if s < 0 then none else match cs[s.toNat]?, ls[s.toNat]? with
  | some c, some n => if 1 ≤ n ∧ n ≤ 15 ∧ 0 ≤ c ∧ c < 2 ^ n.toNat then some (c, n.toNat) else none
  | _, _ => none
def phR (cs ls : List Int) (s : Int) (L : List Bool) : Int := match sym cs ls s with
  | some p => putR L (rv p.1 p.2) p.2
  | none => 1
def phL (cs ls : List Int) (s : Int) (L : List Bool) : List Bool := match sym cs ls s with
  | some p => putL L (rv p.1 p.2) p.2
  | none => L
theorem sym_at {cs ls : List Int} {N : Nat} (h1 : N < cs.length) (h2 : N < ls.length) : sym cs ls N = if 1 ≤ ls[N] ∧ ls[N] ≤ 15 ∧ 0 ≤ cs[N] ∧ cs[N] < 2 ^ ls[N].toNat then some (cs[N], ls[N].toNat) else none := by
  unfold sym
  rw [if_neg (by omega), Int.toNat_natCast, List.getElem?_eq_getElem h1, List.getElem?_eq_getElem h2]
theorem sym_out {cs ls : List Int} {s : Int} (h : s < 0 ∨ (cs.length : Int) ≤ s ∨ (ls.length : Int) ≤ s) : sym cs ls s = none := by
  unfold sym
  by_cases h0 : s < 0
  · rw [if_pos h0]
  · rw [if_neg h0]
    rcases h with h | h | h
    · exact absurd h h0
    · rw [List.getElem?_eq_none (by omega)]
    · rw [List.getElem?_eq_none (l := ls) (by omega)]
      cases cs[s.toNat]? <;> rfl
theorem lim_nat {n : Nat} (h : n ≤ 15) : lim (n : Int) = n := by unfold lim; rw [if_neg (by omega)]; simp
section
variable {W : World} {A A2 : HP} {a1 a2 : Option Addr} {c1 c2 : Nat} {cs ls : List Int} {s : Int}
theorem hput {p : Nat} {L : List Bool} (h1 : RdB W A a1 cs.length (cs.map I)) (h2 : RdB W A2 a2 ls.length (ls.map I)) :
    Cn Try.prog 20 [.pointer (some ⟨p, 0, none⟩), .slice a1 cs.length c1, .slice a2 ls.length c2, .int .i64 s] W [IsW p L, A, A2] (fun _ : Unit => .int .i64 (phR cs ls s L)) (fun _ => [IsW p (phL cs ls s L), A, A2]) := by
  (refine S.huff_Put_cn fun F => ?_; unfold S.huff_Put; simp only [List.cons_append, List.nil_append])
  have bad : sym cs ls s = none → Ent W (IsW p L :: A :: A2 :: F) (fun w => ∃ x : Unit, (Value.int .i64 1) = .int .i64 (phR cs ls s L) ∧ sat W ([IsW p (phL cs ls s L), A, A2] ++ F) w) := fun hn => by
    refine e_ret () (by unfold phR; rw [hn]) ?_
    unfold phL
    rw [hn]
    exact .refl
  (refine e_ask v_lss Imp.nil (fun h => ?_) (fun h => ?_))
  · ((with_reducible refine e_gdF1 ?_)); ((with_reducible refine e_gdF1 ?_)); ((with_reducible refine e_gdF1 ?_)); ((with_reducible refine e_gdF1 ?_)); ((with_reducible refine e_gdF1 ?_)); ((with_reducible refine e_gdF1 ?_)); ((with_reducible refine e_gdF1 ?_)); (((with_reducible refine e_opN v_pickT Imp.nil ?_))); ((with_reducible refine e_condT ?_))
    exact bad (sym_out (.inl h))
  have h0 := h
  ((with_reducible refine e_gdT ?_)); ((with_reducible refine e_gdT ?_)); ((with_reducible refine e_gdT ?_)); (((with_reducible refine e_opN v_len Imp.nil ?_))); ((with_reducible refine e_gdT ?_)); ((with_reducible refine e_gdT ?_)); (((with_reducible refine e_opN v_len Imp.nil ?_))); ((with_reducible refine e_gdT ?_))
  refine e_opN v_min Imp.nil ?_
  ((with_reducible refine e_gdT ?_))
  (refine e_ask v_geq Imp.nil (fun h => ?_) (fun h => ?_))
  · (((with_reducible refine e_opN v_pickF Imp.nil ?_))); ((with_reducible refine e_condT ?_))
    exact bad (sym_out (by split at h <;> omega))
  obtain ⟨N, rfl⟩ := Int.eq_ofNat_of_zero_le (show 0 ≤ s by omega)
  have hN1 : N < cs.length := by split at h <;> omega
  have hN2 : N < ls.length := by split at h <;> omega
  have hsym := sym_at hN1 hN2
  obtain ⟨g1, o1, rfl, _⟩ := h1.at_ (by omega)
  obtain ⟨g2, o2, rfl, _⟩ := h2.at_ (by omega)
  obtain ⟨c, hc⟩ : ∃ c, c = cs[N] := ⟨_, rfl⟩
  obtain ⟨n, hn⟩ : ∃ n, n = ls[N] := ⟨_, rfl⟩
  have g1' := I_get hN1
  have g2' := I_get hN2
  rw [← hc] at hsym g1'
  rw [← hn] at hsym g2'
  (((with_reducible refine e_opN v_pickF Imp.nil ?_))); ((with_reducible refine e_condF ?_)); ((with_reducible refine e_drS ?_))
  refine e_stS (v_ia1 N (by rfl) hN1) Imp.nil ?_
  refine e_stS (v_ldRd h1 g1') (.pick (by (repeat constructor)) .nil) ?_
  refine e_stS (v_ia1 N (by rfl) hN2) Imp.nil ?_
  refine e_stS (v_ldRd h2 g2') (.pick (by (repeat constructor)) .nil) ?_
  (refine e_ask v_lss Imp.nil (fun h => ?_) (fun h => ?_))
  · ((with_reducible refine e_gdF1 ?_)); ((with_reducible refine e_gdF1 ?_)); (((with_reducible refine e_opN v_pickT Imp.nil ?_))); ((with_reducible refine e_gdF1 ?_)); ((with_reducible refine e_gdF1 ?_)); (((with_reducible refine e_opN v_pickT Imp.nil ?_))); ((with_reducible refine e_gdF1 ?_)); ((with_reducible refine e_gdF1 ?_)); ((with_reducible refine e_gdF1 ?_)); ((with_reducible refine e_gdF1 ?_)); ((with_reducible refine e_gdF1 ?_)); (((with_reducible refine e_opN v_pickT Imp.nil ?_))); ((with_reducible refine e_condT ?_))
    exact bad (by rw [hsym, if_neg (by omega)])
  have i1 := h
  ((with_reducible refine e_gdT ?_)); ((with_reducible refine e_gdT ?_))
  (refine e_ask v_gtr Imp.nil (fun h => ?_) (fun h => ?_))
  · (((with_reducible refine e_opN v_pickF Imp.nil ?_))); ((with_reducible refine e_gdF1 ?_)); ((with_reducible refine e_gdF1 ?_)); (((with_reducible refine e_opN v_pickT Imp.nil ?_))); ((with_reducible refine e_gdF1 ?_)); ((with_reducible refine e_gdF1 ?_)); ((with_reducible refine e_gdF1 ?_)); ((with_reducible refine e_gdF1 ?_)); ((with_reducible refine e_gdF1 ?_)); (((with_reducible refine e_opN v_pickT Imp.nil ?_))); ((with_reducible refine e_condT ?_))
    exact bad (by rw [hsym, if_neg (by omega)])
  have i2 := h
  (((with_reducible refine e_opN v_pickF Imp.nil ?_))); ((with_reducible refine e_gdT ?_)); ((with_reducible refine e_gdT ?_))
  (refine e_ask v_lss Imp.nil (fun h => ?_) (fun h => ?_))
  · (((with_reducible refine e_opN v_pickF Imp.nil ?_))); ((with_reducible refine e_gdF1 ?_)); ((with_reducible refine e_gdF1 ?_)); ((with_reducible refine e_gdF1 ?_)); ((with_reducible refine e_gdF1 ?_)); ((with_reducible refine e_gdF1 ?_)); (((with_reducible refine e_opN v_pickT Imp.nil ?_))); ((with_reducible refine e_condT ?_))
    exact bad (by rw [hsym, if_neg (by omega)])
  have i3 := h
  obtain ⟨m, rfl⟩ := Int.eq_ofNat_of_zero_le (show 0 ≤ n by omega)
  rw [Int.toNat_natCast] at hsym
  (((with_reducible refine e_opN v_pickF Imp.nil ?_))); ((with_reducible refine e_gdT ?_)); ((with_reducible refine e_gdT ?_)); ((with_reducible refine e_gdT ?_))
  refine e_opN v_conv Imp.nil ?_
  rw [wrapu64' (by omega) (by omega)]
  ((with_reducible refine e_gdT ?_))
  refine e_opN (v_shl (by omega)) Imp.nil ?_
  rw [shl64 (by omega) (by omega) (by omega), Int.one_mul]
  have e2 : ((2 ^ m : Nat) : Int) = (2 : Int) ^ m := Int.natCast_pow 2 m
  rw [e2]
  ((with_reducible refine e_gdT ?_))
  (refine e_ask v_geq Imp.nil (fun h => ?_) (fun h => ?_))
  · (((with_reducible refine e_opN v_pickF Imp.nil ?_))); ((with_reducible refine e_condT ?_))
    exact bad (by rw [hsym, if_neg (fun c => by have := c.2.2.2; omega)])
  have hs : sym cs ls N = some (c, m) := by rw [hsym, if_pos ⟨by omega, by omega, by omega, by omega⟩]
  (((with_reducible refine e_opN v_pickF Imp.nil ?_))); ((with_reducible refine e_condF ?_))
  (refine' e_call (reverse) ?hp fun _ => ?_; (case hp => (repeat (first | exact Picks.nil | (apply Picks.cons; (focus (repeat constructor)))))); (try simp only [List.cons_append, List.nil_append, Bool.not_true, Bool.not_false]))
  rw [lim_nat (show m ≤ 15 by omega)]
  (refine' e_call (put) ?hp fun _ => ?_; (case hp => (repeat (first | exact Picks.nil | (apply Picks.cons; (focus (repeat constructor)))))); (try simp only [List.cons_append, List.nil_append, Bool.not_true, Bool.not_false]))
  refine e_ret () (by unfold phR; rw [hs]) ?_
  unfold phL
  rw [hs]
  (repeat (first | exact Imp.refl | exact Imp.nil | (apply Imp.pick; (focus ((repeat constructor); done))) | refine Imp.drop ?_))
end
end Go.Proofs.Ytehfblkpbadikab.HF
/-! The bits of packed bits: they, and noughts. No conditions; no program in sight. -/
namespace Go.Proofs.Ytehfblkpbadikab.B
open Go Go.Proofs.Ytehfblkpbadikab.Sl Go.Proofs.Ytehfblkpbadikab.M
theorem testBit_val : ∀ (l : List Bool) (i : Nat), (val l).testBit i = l.getD i false
  | [], i => by simp [val]
  | b :: l, 0 => by
    rw [Nat.testBit_zero]
    cases b <;> simp [val] <;> omega
  | b :: l, i + 1 => by
    have : val (b :: l) / 2 = val l := by cases b <;> simp [val] <;> omega
    rw [Nat.testBit_succ, this, testBit_val l i]; simp
theorem ub_pk (L : List Bool) : ub (pk L) = padTo8 L := by
  have hl : (ub (pk L)).length = (padTo8 L).length := by rw [length_ub, length_pk, length_pad]
  apply List.ext_getElem? 
  intro i
  by_cases h : i / 8 < (pk L).length
  · rw [ub_get h]
    have h2 : (pk L)[i / 8] = UInt8.ofNat (byteAt L (i / 8)) := by simp [pk, pkn]
    rw [h2, UInt8.toNat_ofNat', Nat.mod_eq_of_lt (byteAt_lt _ _)]
    unfold byteAt
    rw [testBit_val]
    have h3 : i < (padTo8 L).length := by rw [length_pad]; rw [length_pk] at h; omega
    rw [List.getD_eq_getElem?_getD, List.getElem?_take, if_pos (by omega), List.getElem?_drop, show 8 * (i / 8) + i % 8 = i by omega]
    rw [length_pad] at h3
    unfold padTo8
    by_cases c : i < L.length
    · rw [List.getElem?_append_left c, List.getElem?_eq_getElem c]; rfl
    · rw [List.getElem?_eq_none (by omega), List.getElem?_append_right (by omega), List.getElem?_replicate, if_pos (by omega)]; rfl
  · have h1 : (ub (pk L)).length ≤ i := by rw [length_ub]; omega
    rw [List.getElem?_eq_none h1, List.getElem?_eq_none (by rw [← hl]; exact h1)]
end Go.Proofs.Ytehfblkpbadikab.B
/-! What was written by a set of codes is read as the symbols that it was: the plain law. No conditions but those that each names; no program in sight. -/
namespace Go.Proofs.Ytehfblkpbadikab.HF
open Go Go.Proofs Go.RowKit Go.Proofs.Ytehfblkpbadikab.Sh Go.Proofs.Ytehfblkpbadikab.Sl Go.Proofs.Ytehfblkpbadikab.HM Go.Proofs.Ytehfblkpbadikab.B Go.Proofs.Ytehfblkpbadikab.M
theorem bitsOf_val : ∀ x : List Bool, bitsOf (val x) x.length = x := fun x => by
  apply List.ext_getElem?
  intro j
  by_cases h : j < x.length
  · rw [List.getElem?_eq_getElem h]
    unfold bitsOf
    rw [List.getElem?_map, List.getElem?_range h, Option.map_some, testBit_val, List.getD_eq_getElem?_getD, List.getElem?_eq_getElem h]; rfl
  · rw [List.getElem?_eq_none (by rw [length_bitsOf]; omega), List.getElem?_eq_none (by omega)]
theorem bitsOf_rv (c : Int) (n : Nat) : bitsOf (rv c n) n = (bl c n).reverse := by
  have := bitsOf_val (bl c n).reverse
  rw [List.length_reverse, length_bl] at this
  exact this
theorem rv_get {c n k : Nat} (h : k < n) : (bitsOf (rv (c : Int) n) n)[k]? = some (decide (c / 2 ^ (n - 1 - k) % 2 = 1)) := by
  rw [bitsOf_rv, List.getElem?_reverse (by rw [length_bl]; exact h), length_bl]
  unfold bl
  rw [List.getElem?_map, List.getElem?_range (by omega), Option.map_some]
  unfold bitI
  congr 1
  refine decide_eq_decide.2 ?_
  have e : (2 : Int) ^ (n - 1 - k) = ((2 ^ (n - 1 - k) : Nat) : Int) := (Int.natCast_pow 2 _).symm
  rw [e]
  constructor
  · intro h; exact_mod_cast h
  · intro h; exact_mod_cast h
theorem fL_at {l : List Int} (hok : okL l) {N n : Nat} (hN : N < l.length) (hln : l[N] = (n : Int)) (h1 : 1 ≤ n) : fL l (n : Int) (codeAt l N : Int) l.length = some N := by
  cases h : fL l (n : Int) (codeAt l N : Int) l.length with
  | none => exact absurd ⟨by omega, by rw [List.getElem?_eq_getElem hN, hln], rfl⟩ (fL_none h N hN)
  | some j =>
    obtain ⟨h1', h2, h3, h4⟩ := fL_sound h
    rw [List.getElem?_eq_getElem h1'] at h3
    by_cases c : j = N
    · rw [c]
    · have := apart h1' hN c (Option.some.inj h3) hln h1 (Nat.le_refl n)
      rw [Nat.sub_self, Nat.pow_zero, Nat.div_one] at this
      exact absurd (by exact_mod_cast h4.symm) this
theorem fL_before {l : List Int} (hok : okL l) {N n a : Nat} (hN : N < l.length) (hln : l[N] = (n : Int)) (h1 : 1 ≤ a) (ha : a < n) : fL l (a : Int) ((codeAt l N / 2 ^ (n - a) : Nat) : Int) l.length = none := by
  cases h : fL l (a : Int) ((codeAt l N / 2 ^ (n - a) : Nat) : Int) l.length with
  | none => rfl
  | some j =>
    obtain ⟨h1', h2, h3, h4⟩ := fL_sound h
    rw [List.getElem?_eq_getElem h1'] at h3
    have h3 := Option.some.inj h3
    have := apart h1' hN (fun c => by subst c; omega) h3 hln h1 (by omega)
    exact absurd (by exact_mod_cast h4.symm) this
theorem half (c d : Nat) : 2 * (c / 2 ^ (d + 1)) + c / 2 ^ d % 2 = c / 2 ^ d := by
  rw [Nat.pow_succ, ← Nat.div_div_eq_div_mul]; omega
theorem dec_code {l : List Int} {b : List UInt8} {at_ N n : Nat} (hok : okL l) (hN : N < l.length) (hln : l[N] = (n : Int)) (h1 : 1 ≤ n) (h15 : n ≤ 15)
    (hu : ∀ k, k < n → (ub b)[at_ + k]? = some (decide (codeAt l N / 2 ^ (n - 1 - k) % 2 = 1))) : ∀ d k, k + (d + 1) = n → dec l b (15 - k) k (codeAt l N / 2 ^ (d + 1)) (at_ + k) = ((N : Int), 0, at_ + n)
  | d, k, hk => by
    have hb := hu k (by omega)
    rw [show n - 1 - k = d by omega] at hb
    have hlt : at_ + k < 8 * b.length := by
      rw [← length_ub]
      rcases Nat.lt_or_ge (at_ + k) (ub b).length with h | h
      · exact h
      · rw [List.getElem?_eq_none h] at hb; cases hb
    have hR : takR b (at_ + k) 1 = 0 := by unfold takR; rw [if_neg (by omega), if_neg (by omega)]
    have hT : takN b (at_ + k) 1 = (decide (codeAt l N / 2 ^ d % 2 = 1)).toNat := by
      unfold takN
      rw [if_pos hR]
      have := tak_succ (L := ub b) (at_ := at_ + k) (k := 0) (b := decide (codeAt l N / 2 ^ d % 2 = 1)) hb
      rw [tak_zero] at this
      simpa using this
    have hT2 : takN b (at_ + k) 1 = codeAt l N / 2 ^ d % 2 := by
      rw [hT]
      rcases Nat.mod_two_eq_zero_or_one (codeAt l N / 2 ^ d) with e | e <;> simp [e]
    have hA : takAt b (at_ + k) 1 = at_ + k + 1 := by unfold takAt; rw [if_pos hR]; rfl
    rw [show 15 - k = (14 - k) + 1 by omega, dec, if_pos hR, hT2, half, hA]
    match d, hk with
    | 0, hk =>
      have hf := fL_at hok hN hln h1
      rw [Nat.pow_zero, Nat.div_one, show k + 1 = n by omega, hf]
      simp only
      rw [show at_ + k + 1 = at_ + n by omega]
    | d + 1, hk =>
      have hf := fL_before hok hN hln (a := k + 1) (by omega) (by omega)
      rw [show n - (k + 1) = d + 1 by omega] at hf
      rw [hf]
      simp only
      have ih := dec_code hok hN hln h1 h15 hu d (k + 1) (by omega)
      rw [show 14 - k = 15 - (k + 1) by omega, Nat.add_assoc]
      exact ih
/-- a symbol's bits -/
def cw (l : List Int) (s : Int) : List Bool := match sym (codes l) l s with
  | some p => bitsOf (rv p.1 p.2) p.2
  | none => []
theorem nxt_cw {l : List Int} {b : List UInt8} {at_ : Nat} {s : Int} {p : Int × Nat} {rest : List Bool} (hok : okL l) (hs : sym (codes l) l s = some p) (hu : (ub b).drop at_ = cw l s ++ rest) : nxt l b at_ = (s, 0, at_ + (cw l s).length) := by
  have h0 : ¬ s < 0 := fun c => by rw [sym_out (.inl c)] at hs; cases hs
  obtain ⟨N, rfl⟩ := Int.eq_ofNat_of_zero_le (show 0 ≤ s by omega)
  have hN : N < l.length := by
    rcases Nat.lt_or_ge N l.length with c | c
    · exact c
    · rw [sym_out (.inr (.inr (by omega)))] at hs; cases hs
  have hNc : N < (codes l).length := by rw [length_codes]; exact hN
  have hs2 := sym_at hNc hN
  rw [hs2] at hs
  by_cases hc : 1 ≤ l[N] ∧ l[N] ≤ 15 ∧ 0 ≤ (codes l)[N] ∧ (codes l)[N] < 2 ^ l[N].toNat
  · rw [if_pos hc] at hs
    have hp := Option.some.inj hs
    obtain ⟨n, hn⟩ := Int.eq_ofNat_of_zero_le (show 0 ≤ l[N] by omega)
    have hcode : (codes l)[N] = (codeAt l N : Int) := by simp [codes]
    have hcw : cw l N = bitsOf (rv (codeAt l N : Int) n) n := by
      unfold cw
      rw [hs2, if_pos hc, hcode, hn, Int.toNat_natCast]
    have hl : (cw l N).length = n := by rw [hcw, length_bitsOf]
    have hpos : pos l := ⟨l[N], List.getElem_mem hN, by omega⟩
    have hlt : codeAt l N < 2 ^ n := by
      rw [codeAt_pos hN hn (by omega)]
      exact hok.cur_lt' hN hn (by omega) (by omega)
    unfold nxt
    rw [if_pos hpos, hl]
    have := dec_code hok hN hn (by omega) (by omega) (b := b) (at_ := at_) (fun k hk => by
      have e : ((ub b).drop at_)[k]? = some (decide (codeAt l N / 2 ^ (n - 1 - k) % 2 = 1)) := by
        rw [hu, List.getElem?_append_left (by rw [hl]; exact hk), hcw, rv_get hk]
      rwa [List.getElem?_drop] at e) (n - 1) 0 (by omega)
    rw [show n - 1 + 1 = n by omega, Nat.div_eq_of_lt hlt] at this
    exact this
  · rw [if_neg hc] at hs; cases hs
end Go.Proofs.Ytehfblkpbadikab.HF
/-! Pieces written symbol by symbol are read as what they are. Plain; no program in sight. No conditions but those that each names. -/
namespace Go.Proofs.Ytehfblkpbadikab.IF
open Go Go.Proofs Go.RowKit Go.Proofs.Ytehfblkpbadikab.HM Go.Proofs.Ytehfblkpbadikab.HF Go.Proofs.Ytehfblkpbadikab.B Go.Proofs.Ytehfblkpbadikab.M
/-- a byte, or a copy -/
structure Pc where
  len : Nat
  dist : Nat
  c : UInt8
def lit (p : Pc) : Prop := p.len = 0 ∧ p.dist = 0
instance (p : Pc) : Decidable (lit p) := by unfold lit; infer_instance
/-- a piece that may stand where so many bytes are out -/
def okP (n : Nat) (p : Pc) : Prop := lit p ∨ (3 ≤ p.len ∧ p.len ≤ 258 ∧ 1 ≤ p.dist ∧ p.dist ≤ 32768 ∧ p.dist ≤ n ∧ p.c = 0)
instance (n : Nat) (p : Pc) : Decidable (okP n p) := by unfold okP; infer_instance
def expP (out : List UInt8) (p : Pc) : List UInt8 := if p.len = 0 then out ++ [p.c] else copyL out p.dist p.len
theorem expP_len (out : List UInt8) (p : Pc) : (expP out p).length = out.length + max 1 p.len := by
  unfold expP
  split
  · rename_i h; rw [h]; simp
  · rw [copyL_len]; omega
def okPs : List UInt8 → List Pc → Prop
  | _, [] => True
  | out, p :: r => okP out.length p ∧ okPs (expP out p) r
/-- the last symbol whose base is at most n -/
def lastF (base : Int → Int × Int) (n : Int) (first : Int) : Nat → Int × Int × Int
  | 0 => (-1, 0, 0)
  | k + 1 => if (base (first + k)).1 ≤ n then (first + k, (base (first + k)).2, n - (base (first + k)).1) else lastF base n first k
def lenS (n : Int) : Int × Int × Int := if 258 < n then (-1, 0, 0) else lastF bL n 257 29
def disS (n : Int) : Int × Int × Int := if 32768 < n then (-1, 0, 0) else lastF bD n 0 30
theorem lastF_ok {base : Int → Int × Int} {n first : Int} : ∀ (k : Nat), (∃ j : Nat, j < k ∧ (base (first + j)).1 ≤ n) → ∃ j : Nat, j < k ∧ lastF base n first k = (first + j, (base (first + j)).2, n - (base (first + j)).1) ∧ (base (first + j)).1 ≤ n ∧ (j + 1 < k → n < (base (first + (j + 1 : Nat))).1)
  | 0, h => by obtain ⟨j, hj, _⟩ := h; omega
  | k + 1, h => by
    unfold lastF
    by_cases c : (base (first + k)).1 ≤ n
    · rw [if_pos c]
      exact ⟨k, by omega, rfl, c, fun h => by omega⟩
    · rw [if_neg c]
      obtain ⟨j, hj, hb⟩ := h
      have hjk : j < k := by
        rcases Nat.lt_or_ge j k with d | d
        · exact d
        · exact absurd (by rw [show k = j by omega]; exact hb) c
      obtain ⟨i, h1, h2, h3, h4⟩ := lastF_ok k ⟨j, hjk, hb⟩
      refine ⟨i, by omega, h2, h3, fun h => ?_⟩
      by_cases d : i + 1 < k
      · exact h4 d
      · rw [show i + 1 = k by omega]; omega
theorem bL_steps : ∀ j : Fin 28, (bL (257 + (j.1 : Nat))).1 + ((2 ^ (bL (257 + (j.1 : Nat))).2.toNat : Nat) : Int) ≥ (bL (257 + ((j.1 + 1 : Nat) : Int))).1 ∧ 0 ≤ (bL (257 + (j.1 : Nat))).2 ∧ (bL (257 + (j.1 : Nat))).2 ≤ 5 ∧ 0 < (bL (257 + (j.1 : Nat))).1 := by decide
theorem bD_steps : ∀ j : Fin 29, (bD (0 + (j.1 : Nat))).1 + ((2 ^ (bD (0 + (j.1 : Nat))).2.toNat : Nat) : Int) ≥ (bD (0 + ((j.1 + 1 : Nat) : Int))).1 ∧ 0 ≤ (bD (0 + (j.1 : Nat))).2 ∧ (bD (0 + (j.1 : Nat))).2 ≤ 13 ∧ 0 < (bD (0 + (j.1 : Nat))).1 := by decide
theorem lenS_ok {n : Int} (h1 : 3 ≤ n) (h2 : n ≤ 258) : ∃ (s : Nat) (e k : Nat), lenS n = ((s : Int), (k : Int), (e : Int)) ∧ 257 ≤ s ∧ s ≤ 285 ∧ (bL s).1 + e = n ∧ (bL s).2 = k ∧ e < 2 ^ k ∧ k ≤ 5 ∧ 0 < (bL s).1 := by
  unfold lenS
  rw [if_neg (by omega)]
  obtain ⟨j, hj, e1, e2, e3⟩ := lastF_ok (base := bL) (n := n) (first := 257) 29 ⟨0, by omega, by rw [show bL (257 + ((0 : Nat) : Int)) = (3, 0) from rfl]; exact h1⟩
  rw [e1]
  have es : (257 : Int) + (j : Int) = ((257 + j : Nat) : Int) := by omega
  rcases Nat.lt_or_ge j 28 with c | c
  · obtain ⟨s1, s2, s3, s4⟩ := bL_steps ⟨j, c⟩
    have e4 := e3 (by omega)
    simp only at s1 s2 s3 s4
    obtain ⟨k, hk⟩ := Int.eq_ofNat_of_zero_le s2
    obtain ⟨e, he⟩ := Int.eq_ofNat_of_zero_le (show 0 ≤ n - (bL (257 + (j : Int))).1 by omega)
    rw [hk, Int.toNat_natCast] at s1
    refine ⟨257 + j, e, k, by rw [he, hk, es], by omega, by omega, by rw [← es]; omega, by rw [← es, hk], ?_, by omega, by rw [← es]; exact s4⟩
    have : (e : Int) < ((2 ^ k : Nat) : Int) := by omega
    exact Int.ofNat_lt.1 this
  · have hj8 : j = 28 := by omega
    subst hj8
    have hb : bL (257 + ((28 : Nat) : Int)) = (258, 0) := rfl
    rw [hb] at e2 ⊢
    refine ⟨285, 0, 0, ?_, by omega, by omega, ?_, rfl, by decide, by omega, by decide⟩
    · simp only at e2; rw [show n - 258 = 0 by omega]; rfl
    · show (258 : Int) + 0 = n
      simp only at e2; omega
theorem disS_ok {n : Int} (h1 : 1 ≤ n) (h2 : n ≤ 32768) : ∃ (s : Nat) (e k : Nat), disS n = ((s : Int), (k : Int), (e : Int)) ∧ s ≤ 29 ∧ (bD s).1 + e = n ∧ (bD s).2 = k ∧ e < 2 ^ k ∧ k ≤ 13 ∧ 0 < (bD s).1 := by
  unfold disS
  rw [if_neg (by omega)]
  obtain ⟨j, hj, e1, e2, e3⟩ := lastF_ok (base := bD) (n := n) (first := 0) 30 ⟨0, by omega, by rw [show bD (0 + ((0 : Nat) : Int)) = (1, 0) from rfl]; exact h1⟩
  rw [e1]
  have es : (0 : Int) + (j : Int) = ((j : Nat) : Int) := by omega
  rcases Nat.lt_or_ge j 29 with c | c
  · obtain ⟨s1, s2, s3, s4⟩ := bD_steps ⟨j, c⟩
    have e4 := e3 (by omega)
    simp only at s1 s2 s3 s4
    obtain ⟨k, hk⟩ := Int.eq_ofNat_of_zero_le s2
    obtain ⟨e, he⟩ := Int.eq_ofNat_of_zero_le (show 0 ≤ n - (bD (0 + (j : Int))).1 by omega)
    rw [hk, Int.toNat_natCast] at s1
    refine ⟨j, e, k, by rw [he, hk, es], by omega, by rw [← es]; omega, by rw [← es, hk], ?_, by omega, by rw [← es]; exact s4⟩
    have : (e : Int) < ((2 ^ k : Nat) : Int) := by omega
    exact Int.ofNat_lt.1 this
  · have hj8 : j = 29 := by omega
    subst hj8
    have hb : bD (0 + ((29 : Nat) : Int)) = (24577, 13) := rfl
    rw [hb] at e2 ⊢
    simp only at e2
    obtain ⟨e, he⟩ := Int.eq_ofNat_of_zero_le (show 0 ≤ n - 24577 by omega)
    refine ⟨29, e, 13, by rw [he]; rfl, by omega, ?_, rfl, ?_, by omega, by decide⟩
    · show (24577 : Int) + e = n
      omega
    · have : (2 : Nat) ^ 13 = 8192 := rfl
      omega
/-- a piece's bits -/
def encP (la lb : List Int) (p : Pc) : List Bool := if p.len = 0 then cw la p.c.toNat else
  (cw la (lenS p.len).1 ++ bitsOf (lenS p.len).2.2.toNat (lenS p.len).2.1.toNat) ++ (cw lb (disS p.dist).1 ++ bitsOf (disS p.dist).2.2.toNat (disS p.dist).2.1.toNat)
/-- has a symbol a code? -/
def hasC (l : List Int) (s : Int) : Prop := ∃ p, sym (codes l) l s = some p
def hasP (la lb : List Int) (p : Pc) : Prop := if p.len = 0 then hasC la p.c.toNat else hasC la (lenS p.len).1 ∧ hasC lb (disS p.dist).1
theorem sym_pos {cs ls : List Int} {s : Int} {p : Int × Nat} (h : sym cs ls s = some p) : 1 ≤ p.2 ∧ p.2 ≤ 15 := by
  unfold sym at h
  split at h
  · cases h
  · split at h
    · rename_i c n _ _
      by_cases hc : 1 ≤ n ∧ n ≤ 15 ∧ 0 ≤ c ∧ c < 2 ^ n.toNat
      · rw [if_pos hc] at h
        have hp := Option.some.inj h
        rw [← hp]
        simp only
        omega
      · rw [if_neg hc] at h; cases h
    · cases h
theorem cw_len {l : List Int} {s : Int} (h : hasC l s) : 1 ≤ (cw l s).length ∧ (cw l s).length ≤ 15 := by
  obtain ⟨p, hp⟩ := h
  unfold cw
  rw [hp]
  simp only [length_bitsOf]
  exact sym_pos hp
theorem drop_at {L X Y : List Bool} {a : Nat} (h : L.drop a = X ++ Y) : L.drop (a + X.length) = Y := by
  rw [← List.drop_drop, h, List.drop_left]
theorem left_at {b : List UInt8} {at_ : Nat} {X Y : List Bool} (hat : at_ ≤ 8 * b.length) (h : (ub b).drop at_ = X ++ Y) : at_ + X.length ≤ 8 * b.length := by
  have hl := congrArg List.length h
  rw [List.length_drop, length_ub, List.length_append] at hl
  omega
/-- bits that are taken as they were put -/
theorem take_bits {b : List UInt8} {at_ e k : Nat} {Y : List Bool} (hk : k ≤ 32) (he : e < 2 ^ k) (hat : at_ ≤ 8 * b.length) (h : (ub b).drop at_ = bitsOf e k ++ Y) : takR b at_ k = 0 ∧ takN b at_ k = e ∧ takAt b at_ k = at_ + k := by
  have hl := left_at hat h
  rw [length_bitsOf] at hl
  have hr : takR b at_ k = 0 := by
    unfold takR
    rw [if_neg (by omega), if_neg (by omega)]
  refine ⟨hr, ?_, ?_⟩
  · unfold takN
    rw [if_pos hr, Int.toNat_natCast]
    unfold tak
    rw [h, List.take_left' (length_bitsOf _ _), val_bitsOf, Nat.mod_eq_of_lt he]
  · unfold takAt
    rw [if_pos hr, Int.toNat_natCast]
theorem round_enc {la lb : List Int} {b out : List UInt8} {most : Int} {at_ : Nat} {p : Pc} {Y : List Bool} (ha : okL la) (hb : okL lb) (hp : okP out.length p) (hc : hasP la lb p) (hm : ((out.length + max 1 p.len : Nat) : Int) ≤ most)
    (hat : at_ ≤ 8 * b.length) (h : (ub b).drop at_ = encP la lb p ++ Y) : mRound la lb b most at_ out = .ok (false, at_ + (encP la lb p).length, expP out p) := by
  unfold encP expP at *
  unfold hasP at hc
  by_cases h0 : p.len = 0
  · rw [if_pos h0] at h hc ⊢
    rw [if_pos h0]
    obtain ⟨q, hq⟩ := hc
    have hx := nxt_cw ha hq h
    have h256 : p.c.toNat < 256 := p.c.toNat_lt
    unfold mRound
    simp only
    rw [hx]
    simp only
    rw [if_neg (fun c => c rfl), if_neg (by omega), if_pos (by omega), if_neg (by omega)]
    congr 3
    simp
  · rw [if_neg h0] at h hc ⊢
    rw [if_neg h0]
    rcases hp with hl | ⟨c1, c2, c3, c4, c5, c6⟩
    · exact absurd hl.1 h0
    obtain ⟨s, e, k, hs, hs1, hs2, hbase, hbits, hlt, hk5, hb0⟩ := lenS_ok (n := (p.len : Int)) (by omega) (by omega)
    obtain ⟨t, e', k', ht, ht1, hbase', hbits', hlt', hk13, hb0'⟩ := disS_ok (n := (p.dist : Int)) (by omega) (by omega)
    obtain ⟨⟨q, hq⟩, ⟨q', hq'⟩⟩ := hc
    rw [hs] at h hq ⊢
    rw [ht] at h hq' ⊢
    simp only [Int.toNat_natCast] at h hq hq' ⊢
    simp only [List.append_assoc] at h
    have hx := nxt_cw ha hq h
    have hat1 := left_at hat h
    have d1 := drop_at h
    obtain ⟨r1, r2, r3⟩ := take_bits (by omega) hlt hat1 d1
    have hat2 := left_at hat1 d1
    have d2 := drop_at d1
    rw [length_bitsOf] at d2 hat2
    have hy := nxt_cw hb hq' d2
    have hat3 := left_at hat2 d2
    have d3 := drop_at d2
    obtain ⟨r4, r5, r6⟩ := take_bits (by omega) hlt' hat3 d3
    have hpos : (out.length : Int) + p.len ≤ most := by
      have : max 1 p.len = p.len := by omega
      rw [this] at hm
      push_cast at hm
      exact hm
    unfold mRound
    simp only
    rw [hx]
    simp only
    rw [if_neg (fun c => c rfl), if_neg (by omega), if_neg (by omega), if_neg (by omega), hbits, r1, if_neg (fun c => c rfl), r3, hy]
    simp only
    rw [if_neg (fun c => c rfl), if_neg (by omega), hbits', r4, if_neg (fun c => c rfl), r5, r2, hbase', hbase, if_neg (by omega), if_neg (by omega), r6]
    congr 3
    simp only [List.length_append, length_bitsOf]
    omega
/-- pieces, one behind the other, and the end of the block -/
theorem syms_enc {la lb : List Int} {b : List UInt8} {most : Int} (ha : okL la) (hb : okL lb) (h256 : hasC la 256) : ∀ (ps : List Pc) (f : Nat) {out : List UInt8} {at_ : Nat} {Y : List Bool}, okPs out ps → (∀ p ∈ ps, hasP la lb p) → ((ps.foldl expP out).length : Int) ≤ most →
    at_ ≤ 8 * b.length → (ub b).drop at_ = ps.flatMap (encP la lb) ++ (cw la 256 ++ Y) → ps.length < f → mSyms la lb b most f at_ out = .ok (at_ + (ps.flatMap (encP la lb)).length + (cw la 256).length, ps.foldl expP out)
  | [], f, out, at_, Y, _, _, _, hat, h, hf => by
    obtain ⟨f, rfl⟩ : ∃ f', f = f' + 1 := ⟨f - 1, by omega⟩
    obtain ⟨q, hq⟩ := h256
    rw [List.flatMap_nil, List.nil_append] at h
    have hx := nxt_cw ha hq h
    have hr : mRound la lb b most at_ out = .ok (true, at_ + (cw la 256).length, out) := by
      unfold mRound
      simp only
      rw [hx]
      simp only
      rw [if_neg (fun c => c rfl), if_pos trivial]
    rw [mSyms, hr]
    simp
  | p :: ps, f, out, at_, Y, hok, hhas, hm, hat, h, hf => by
    obtain ⟨f, rfl⟩ : ∃ f', f = f' + 1 := ⟨f - 1, by omega⟩
    have hmono : ∀ (qs : List Pc) (o : List UInt8), o.length ≤ (qs.foldl expP o).length := by
      intro qs
      induction qs with
      | nil => intro o; exact Nat.le_refl _
      | cons q qs ih =>
        intro o
        have := ih (expP o q)
        rw [expP_len] at this
        rw [List.foldl_cons]
        omega
    have hm1 := hmono ps (expP out p)
    rw [expP_len] at hm1
    rw [List.foldl_cons] at hm ⊢
    rw [List.flatMap_cons, List.append_assoc] at h
    have hr := round_enc (most := most) ha hb hok.1 (hhas p (by simp)) (by omega) hat h
    rw [mSyms, hr]
    simp only
    rw [syms_enc ha hb h256 ps f hok.2 (fun q hq => hhas q (by simp [hq])) hm (left_at hat h) (drop_at h) (by simp at hf; omega)]
    rw [List.flatMap_cons, List.length_append]
    congr 2
    omega
theorem encP_pos {la lb : List Int} {p : Pc} (h : hasP la lb p) : 1 ≤ (encP la lb p).length := by
  unfold hasP at h
  unfold encP
  by_cases h0 : p.len = 0
  · rw [if_pos h0] at h ⊢
    exact (cw_len h).1
  · rw [if_neg h0] at h ⊢
    have := (cw_len h.1).1
    simp only [List.length_append]
    omega
theorem enc_many {la lb : List Int} : ∀ {ps : List Pc}, (∀ p ∈ ps, hasP la lb p) → ps.length ≤ (ps.flatMap (encP la lb)).length
  | [], _ => Nat.le_refl _
  | p :: ps, h => by
    have := enc_many (ps := ps) fun q hq => h q (by simp [hq])
    have := encP_pos (h p (by simp))
    rw [List.flatMap_cons, List.length_append, List.length_cons]
    omega
/-- a block's symbols -/
theorem mS_enc {la lb : List Int} {b : List UInt8} {most : Int} {ps : List Pc} {out : List UInt8} {at_ : Nat} {Y : List Bool} (ha : okL la) (hb : okL lb) (h256 : hasC la 256) (hok : okPs out ps) (hhas : ∀ p ∈ ps, hasP la lb p) (hm : ((ps.foldl expP out).length : Int) ≤ most)
    (hat : at_ ≤ 8 * b.length) (h : (ub b).drop at_ = ps.flatMap (encP la lb) ++ (cw la 256 ++ Y)) : mS la lb b most at_ out = .ok (at_ + (ps.flatMap (encP la lb)).length + (cw la 256).length, ps.foldl expP out) := by
  unfold mS
  refine syms_enc ha hb h256 ps _ hok hhas hm hat h ?_
  have h1 := enc_many hhas
  have h2 := left_at hat h
  have h3 := left_at h2 (drop_at h)
  have h4 := (cw_len h256).1
  omega
end Go.Proofs.Ytehfblkpbadikab.IF
/-! As many assertions as there are numbers below n; shorter slices. No conditions but those that each names. -/
namespace Go.Proofs.Ytehfblkpbadikab.Sl
open Go Go.RowKit Go.Proofs.Ytehfblkpbadikab.Sh
variable {P : Program} {W : World} {L L' L'' : List HP} {Kp : PK} {k : Value → WP}
theorem big_out {F : Nat → HP} {i : Nat} : ∀ (l : List Nat), i ∈ l → l.Nodup → ∀ {h : Frag}, all (l.map F) W h → star (F i) (all ((l.filter fun j => decide (j ≠ i)).map F)) W h
  | [], hi, _, _, _ => by simp at hi
  | j :: l, hi, hn, h, H => by
    rw [List.nodup_cons] at hn
    by_cases c : j = i
    · subst c
      have e : (List.filter (fun x => decide (x ≠ j)) (j :: l)) = l := by
        rw [List.filter_cons_of_neg (by simp)]
        exact List.filter_eq_self.2 fun x hx => by
          simp only [ne_eq, decide_not, Bool.not_eq_eq_eq_not, Bool.not_true, decide_eq_false_iff_not]
          rintro rfl
          exact hn.1 hx
      rw [e]
      exact H
    · have hi' : i ∈ l := by
        rcases List.mem_cons.1 hi with e | e
        · exact absurd e.symm c
        · exact e
      rw [List.filter_cons_of_pos (by simpa using c), List.map_cons]
      have := star_mono (fun h => big_out (i := i) l hi' hn.2 (h := h)) H
      exact star_swap this
theorem big_in {F : Nat → HP} {i : Nat} : ∀ (l : List Nat), i ∈ l → l.Nodup → ∀ {h : Frag}, star (F i) (all ((l.filter fun j => decide (j ≠ i)).map F)) W h → all (l.map F) W h
  | [], hi, _, _, _ => by simp at hi
  | j :: l, hi, hn, h, H => by
    rw [List.nodup_cons] at hn
    by_cases c : j = i
    · subst c
      have e : (List.filter (fun x => decide (x ≠ j)) (j :: l)) = l := by
        rw [List.filter_cons_of_neg (by simp)]
        exact List.filter_eq_self.2 fun x hx => by
          simp only [ne_eq, decide_not, Bool.not_eq_eq_eq_not, Bool.not_true, decide_eq_false_iff_not]
          rintro rfl
          exact hn.1 hx
      rw [e] at H
      exact H
    · have hi' : i ∈ l := by
        rcases List.mem_cons.1 hi with e | e
        · exact absurd e.symm c
        · exact e
      rw [List.filter_cons_of_pos (by simpa using c), List.map_cons] at H
      exact star_mono (fun h => big_in (i := i) l hi' hn.2 (h := h)) (star_swap H)
def BS (n : Nat) (F : Nat → HP) : HP := all ((List.range n).map F)
/-- all but one -/
def BH (n : Nat) (F : Nat → HP) (i : Nat) : HP := all (((List.range n).filter fun j => decide (j ≠ i)).map F)
theorem BH.congr {n i : Nat} {F F' : Nat → HP} (h : ∀ j, j < n → j ≠ i → F j = F' j) : BH n F i = BH n F' i := by
  unfold BH
  congr 1
  exact List.map_congr_left fun j hj => by
    rw [List.mem_filter] at hj
    exact h j (List.mem_range.1 hj.1) (by simpa using hj.2)
theorem e_big {n : Nat} {F : Nat → HP} {S : WP} (p : Pick L (BS n F) L') (i : Nat) (hi : i < n) (h : Ent W (F i :: BH n F i :: L') S) : Ent W L S := fun w hw => by
  refine h w (sat.map (L := BS n F :: L') (fun f H => ?_) (hw.pick p))
  have H2 : star (all [F i, BH n F i]) (all L') W f := by
    obtain ⟨h1, h2, ha, r⟩ := H
    refine ⟨h1, h2, ?_, r⟩
    obtain ⟨k1, k2, b1, b2, d, t1, t2⟩ := big_out (List.range n) (List.mem_range.2 hi) List.nodup_range ha
    exact ⟨k1, k2, b1, ⟨k2, fun _ => none, b2, trivial, fun _ => .inr rfl, fun _ _ c => c, fun _ _ c => by cases c⟩, d, t1, t2⟩
  exact all_append' H2
theorem imp_big {n : Nat} {F F' : Nat → HP} {M : List HP} (i : Nat) (hi : i < n) (hF : ∀ j, j < n → j ≠ i → F j = F' j) (h : Imp W L (F' i :: BH n F i :: M)) : Imp W L (BS n F' :: M) := by
  refine .conv (B := all [F' i, BH n F i]) (fun f H => ?_) (.all h)
  refine big_in (List.range n) (List.mem_range.2 hi) List.nodup_range ?_
  have e := BH.congr hF
  obtain ⟨k1, k2, b1, ⟨k3, k4, b2, _, _, t3, _⟩, d, t1, t2⟩ := H
  rw [e] at b2
  refine ⟨k1, k3, b1, b2, fun j => ?_, t1, fun j o c => t2 j o (t3 j o c)⟩
  rcases d j with c | c
  · exact .inl c
  · right
    cases c' : k3 j with
    | none => rfl
    | some o => rw [t3 j o c'] at c; cases c
theorem imp_bs0 {F : Nat → HP} {M : List HP} (h : Imp W L M) : Imp W L (BS 0 F :: M) := .all (M := M) (N := []) h
theorem imp_bsS {n : Nat} {F F' : Nat → HP} {M : List HP} (hF : ∀ j, j < n → F j = F' j) (h : Imp W L (BS n F :: F' n :: M)) : Imp W L (BS (n + 1) F' :: M) := by
  refine .conv (B := all [BS n F, F' n]) (fun f H => ?_) (.all h)
  unfold BS
  rw [List.range_succ, List.map_append]
  refine all_append' ?_
  obtain ⟨k1, k2, b1, b2, d, t1, t2⟩ := H
  refine ⟨k1, k2, ?_, b2, d, t1, t2⟩
  have e : (List.range n).map F' = (List.range n).map F := List.map_congr_left fun j hj => (hF j (List.mem_range.1 hj)).symm
  rw [e]; exact b1
/-- a slice's first elements -/
theorem e_slcut {s : Nat} {e : TypeId} {a : Option Addr} {cap n m : Nat} {cs : List Value} {S : WP} (p : Pick L (Sl s e a cap n cs) L') (hm : m ≤ n) (h : Ent W (Sl s e a cap m (cs.take (m * s)) :: L') S) : Ent W L S := by
  refine e_conv p (fun f H => ?_) h
  obtain ⟨h1, h2, h3, h4⟩ := H
  have hms : m * s ≤ n * s := Nat.mul_le_mul_right _ hm
  refine ⟨by rw [List.length_take]; omega, by omega, h3, ?_⟩
  rcases h4 with ⟨rfl, rfl⟩ | ⟨g, rest, rfl, hr, hg⟩
  · exact .inl ⟨rfl, rfl⟩
  · refine .inr ⟨g, cs.drop (m * s) ++ rest, rfl, ?_, ?_⟩
    · rw [List.length_append, List.length_drop, hr, h1, ← Nat.sub_mul, ← Nat.add_mul]; congr 1; omega
    · rw [← List.append_assoc, List.take_append_drop]; exact hg
theorem v_slh0 {t e : TypeId} {s b n cap : Nat} {g : Nat} {r : IntKind} {j : Int} (h : Nat) [ht : SlT P t e s b] (hj : j = (h : Int)) (h2 : h ≤ cap) :
    RunV P W [] (sSl t (.slice (some ⟨g, 0, none⟩) n cap) none (some (.int r j)) none) (.slice (some ⟨g, 0, none⟩) h cap) := by
  have := v_slh (P := P) (W := W) (t := t) (n := n) (a := some ⟨g, 0, none⟩) (r := r) h hj h2
  have e : (if cap = 0 then some (⟨g, 0, none⟩ : Addr) else (some (⟨g, 0, none⟩ : Addr)).map (·.add (0 * s))) = some ⟨g, 0, none⟩ := by
    split
    · rfl
    · simp [addr_add]
  rwa [e] at this
theorem v_ldRd2 {t : TypeId} {g o n i j : Nat} {cs : List Value} {v : Value} {A : HP} [ht : OneT P t] (H : RdB W A (some ⟨g, o, none⟩) n cs) (hv : cs[i + j]? = some v) : RunV P W [A] (sLoad t (.pointer (some ⟨g, o + i + j, none⟩))) v := by
  rw [Nat.add_assoc]; exact v_ldRd H hv
end Go.Proofs.Ytehfblkpbadikab.Sl
/-! Structs in slices: read, written whole. No conditions but those that each names. -/
namespace Go.Proofs.Ytehfblkpbadikab.Sl
open Go Go.RowKit Go.Proofs.Ytehfblkpbadikab.Sh
variable {P : Program} {W : World} {L L' : List HP} {Kp : PK} {k : Value → WP} {A : HP}
theorem v_capG {t e ty : TypeId} {s b : Nat} {a : Option Addr} {n cap : Nat} [ht : SlT P t e s b] : RunV P W [] (sCap #[t] ty [.slice a n cap]) (.int .i64 (cap : Int)) := fun w _ => by
  simp [sCap, Builtin.cap_, run_underlying ht.ut, goInt]
theorem v_ldRdG {t : TypeId} {n m g o j : Nat} {cs vs : List Value} [ht : AggT P t n] (H : RdB W A (some ⟨g, o, none⟩) m cs) (hn : vs.length = n) (hc : ∀ i, i < n → cs[j + i]? = vs[i]?) : RunV P W [A] (sLoad t (.pointer (some ⟨g, o + j, none⟩))) (.agg vs.toArray) := fun w hw => by
  have h : (loadCells ⟨g, o + j, none⟩ n).run P w = .ok vs.toArray w := by
    subst hn
    refine run_loadCells_list (P := P) w ⟨g, o + j, none⟩ vs (fun i v hv => ?_)
    have hi : i < vs.length := by
      rcases Nat.lt_or_ge i vs.length with c | c
      · exact c
      · rw [List.getElem?_eq_none c] at hv; cases hv
    have hcv := hc i hi
    rw [hv] at hcv
    have hl := H.len
    have hlt : j + i < cs.length := by
      rcases Nat.lt_or_ge (j + i) cs.length with c | c
      · exact c
      · rw [List.getElem?_eq_none c] at hcv; cases hcv
    obtain ⟨g', o', e, hcell⟩ := H.at_ (by omega)
    injection e with e; injection e with e1 e2; subst e1; subst e2
    rw [addr_add, Nat.add_assoc]
    exact hcell w [] hw (j + i) v hcv
  simp [sLoad, Instr.loadAt, Instr.sureAddr, loadVar, ht.agg, ht.size, h]
theorem put_getG {cs rest vs : List Value} {o n j : Nat} (hn : vs.length = n) (ho : o + n ≤ cs.length) : (cs.take o ++ vs ++ cs.drop (o + n) ++ rest)[j]? = if o ≤ j ∧ j < o + n then vs[j - o]? else (cs ++ rest)[j]? := by
  simp only [List.getElem?_append, List.length_append, List.length_take, List.length_drop, hn, Nat.min_eq_left (show o ≤ cs.length by omega), List.getElem?_take, List.getElem?_drop]
  repeat' split
  all_goals first | rfl | omega | (congr 1; omega)
theorem e_stSlG {t e : TypeId} {s n g o cap m : Nat} {cs : List Value} {vs : Array Value} [ht : AggT P t n] (p : Pick L (Sl s e (some ⟨g, 0, none⟩) cap m cs) L') (hv : vs.size = n) (ho : o + n ≤ cs.length) (h1 : ∀ u ∈ vs.toList, u.oneCell' = true)
    (h : Ent W (Sl s e (some ⟨g, 0, none⟩) cap m (cs.take o ++ vs.toList ++ cs.drop (o + n)) :: L') (k undef)) : Ent W L (opN P (sStore t (.pointer (some ⟨g, o, none⟩)) (.agg vs)) Kp k) := fun w hw => by
  obtain ⟨rest, r1, r2, r3, r4, hp⟩ := sl_row (hw.pick p)
  have hst := run_storeCells_cells (P := P) g o vs.toList 0 w (fun j hj => by
    rw [hp.cell, Array.getElem?_eq_getElem (by simp at hj ⊢; omega)]; rfl) (fun j _ => hp.free) h1
  obtain ⟨cs', c1, c2, c3⟩ := setCells_world g (o + 0) vs.toList w _ _ hp
  refine ⟨?_⟩
  have hvl : vs.toList.length = n := by simp [hv]
  have : (sStore t (.pointer (some ⟨g, o, none⟩)) (.agg vs)).run P w = .ok .skip (w.setCells g (o + 0) vs.toList) := by
    simp [sStore, Instr.storeAt, Instr.sureAddr, storeVar, ht.size, Value.cells, hv, hst]
  rw [this]
  refine h _ (sl_back r1 (by simp [hv]; omega) r3 r4 ?_)
  have he : cs' = (cs.take o ++ vs.toList ++ cs.drop (o + n) ++ rest).toArray := by
    apply Array.ext_getElem?
    intro j
    rw [c3]
    simp only [Nat.add_zero, List.size_toArray, List.length_append, List.getElem?_toArray, hvl]
    rw [put_getG hvl ho]
    by_cases hj : o ≤ j ∧ j < o + n
    · rw [if_pos hj, if_pos ⟨hj.1, hj.2, by omega⟩]
    · rw [if_neg hj, if_neg (fun c => hj ⟨c.1, c.2.1⟩)]
  rwa [he] at c1
theorem rd_slG {s : Nat} {e : TypeId} {a : Option Addr} {cap n : Nat} {cs : List Value} (hl : cs.length = n * s) (ha : 0 < n → ∃ g, a = some ⟨g, 0, none⟩) : RdB W (Sl s e a cap n cs) a (n * s) cs := ⟨hl, fun hn => by
  obtain ⟨g, rfl⟩ := ha (by
    rcases Nat.eq_zero_or_pos n with z | z
    · subst z; simp at hn
    · exact z)
  refine ⟨g, 0, rfl, fun w L hw j v hv => ?_⟩
  obtain ⟨rest, r1, r2, r3, r4, hp⟩ := sl_row hw
  rw [Nat.zero_add, hp.cell]
  have hj : j < cs.length := by
    rcases Nat.lt_or_ge j cs.length with c | c
    · exact c
    · rw [List.getElem?_eq_none c] at hv; cases hv
  simpa [List.getElem?_append_left hj] using hv⟩
theorem rd_pre {a : Option Addr} {n m : Nat} {cs : List Value} (H : RdB W A a n cs) (hm : m ≤ n) : RdB W A a m (cs.take m) := by
  refine ⟨by rw [List.length_take, H.len]; omega, fun h0 => ?_⟩
  obtain ⟨g, o, e, hc⟩ := H.at_ (by omega)
  refine ⟨g, o, e, fun w L hw j v hv => hc w L hw j v ?_⟩
  rw [List.getElem?_take] at hv
  split at hv
  · exact hv
  · cases hv
theorem e_bsl0 {t e : TypeId} {s b : Nat} [ht : SlT P t e s b] (h : ∀ g, Ent W (Sl s e (some ⟨g, 0, none⟩) 0 0 [] :: L) (k (.slice (some ⟨g, 0, none⟩) 0 0))) : Ent W L (opN P (sBuildSl t 0 []) Kp k) := fun w hw => by
  refine ⟨?_⟩
  obtain ⟨i, z, hi, hz, hs, hb, hzs⟩ := ht.info
  have e0 : (Array.range 0).map (fun _ => (default : Value)) = #[] := Array.eq_empty_of_size_eq_zero (by simp)
  have : (sBuildSl t 0 []).run P w = .ok (.value (.slice (some ⟨w.heap.size, 0, none⟩) 0 0)) (w.alloc (.cells #[] e)) := by
    simp [sBuildSl, Instr.buildSlice, run_underlying ht.ut, sizeOf_run hi, newRow, Instr.fill]
    rw [e0]
  rw [this]
  exact h _ _ ((imp_new (cs := []) .here (by simp) (by unfold maxLen; omega) .refl).sat (hw.alloc (.cells #[] e)))
theorem src_rdG {tx e' : TypeId} {s : Nat} {a : Option Addr} {n cap : Nat} {cs : List Value} (hk : P.underlying tx = some (.slice e')) (hs : 0 < s) (p : Pick L A L') (H : RdB W A a (n * s) cs) (ha : a = none → n = 0) (h1 : ∀ u ∈ cs, u.oneCell' = true) :
    ∀ w, sat W L w → Src P s tx (.slice a n cap) n cs w := fun w hw => by
  have hl := H.len
  rcases Nat.eq_zero_or_pos n with h0 | hn
  · subst h0
    have hcs : cs = [] := List.eq_nil_of_length_eq_zero (by simpa using hl)
    subst hcs
    cases a with
    | none => exact Src.ofNil w hk cap
    | some ad => exact Src.ofSlice w hk ad 0 cap [] (by simp) (fun j u hu => by simp at hu) (by simp)
  · obtain ⟨g, o, rfl, hc⟩ := H.at_ (Nat.mul_pos hn hs)
    exact Src.ofSlice w hk _ _ _ _ hl (fun j u hu => by rw [addr_add]; exact hc w L' (hw.pick p) j u hu) h1
/-- the rest of a slice, as a source -/
theorem src_tail {tx e' : TypeId} {s : Nat} {g : Nat} {n l cap : Nat} {cs : List Value} (hk : P.underlying tx = some (.slice e')) (hs : 0 < s) (p : Pick L A L') (H : RdB W A (some ⟨g, 0, none⟩) (n * s) cs) (hl : l ≤ n) (hc : n ≤ cap) (h1 : ∀ u ∈ cs, u.oneCell' = true) :
    ∀ w, sat W L w → Src P s tx (.slice (if cap = l then some ⟨g, 0, none⟩ else (some (⟨g, 0, none⟩ : Addr)).map (·.add (l * s))) (n - l) (cap - l)) (n - l) (cs.drop (l * s)) w := fun w hw => by
  have hlen := H.len
  have one : ∀ u ∈ cs.drop (l * s), u.oneCell' = true := fun u hu => h1 u (List.mem_of_mem_drop hu)
  by_cases c : cap = l
  · rw [if_pos c]
    have h0 : n - l = 0 := by omega
    have hcs : cs.drop (l * s) = [] := List.drop_eq_nil_of_le (by rw [hlen]; exact Nat.mul_le_mul_right _ (by omega))
    rw [h0, hcs]
    exact Src.ofSlice w hk _ 0 _ [] (by simp) (fun j u hu => by simp at hu) (by simp)
  · rw [if_neg c]
    simp only [Option.map_some, addr_add, Nat.zero_add]
    refine Src.ofSlice w hk _ _ _ _ (by rw [List.length_drop, hlen, ← Nat.sub_mul]) (fun j u hu => ?_) one
    rw [addr_add]
    rw [List.getElem?_drop] at hu
    have hj : l * s + j < cs.length := by
      rcases Nat.lt_or_ge (l * s + j) cs.length with x | x
      · exact x
      · rw [List.getElem?_eq_none x] at hu; cases hu
    obtain ⟨g', o', e, hcell⟩ := H.at_ (by rw [← hlen]; omega)
    injection e with e; injection e with e1 e2; subst e1; subst e2
    have := hcell w L' (hw.pick p) (l * s + j) u hu
    rwa [Nat.zero_add] at this
theorem v_beqlG {t : TypeId} {ox oy : Operand} {a b : Bool} (ht : P.underlying t = some .bool) : RunV P W [] (sEq .eql t ox oy (.bool a) (.bool b)) (.bool (decide (a = b))) := fun w _ => by
  have h : (Op.equal t (.bool a) (.bool b)).run P w = .ok (a == b) w := by
    unfold Op.equal Op.maxDepth Op.equalIn
    simp only [Sem.run_bind, run_underlying ht, Result.andThen_ok]
    rfl
  simp [sEq, sv, eqGuard, binOp, h, Result.andThen]
  cases a <;> cases b <;> rfl
end Go.Proofs.Ytehfblkpbadikab.Sl
/-! The symbols of lengths and distances; pieces expanded. No conditions but those that each names. -/
namespace Go.Proofs.Ytehfblkpbadikab.IF
open Go Go.Proofs Go.RowKit Go.Proofs.Ytehfblkpbadikab.Sh Go.Proofs.Ytehfblkpbadikab.Sl Go.Proofs.Ytehfblkpbadikab.T Go.Proofs.Ytehfblkpbadikab.HM Go.Proofs.Ytehfblkpbadikab.HF Go.Proofs.Ytehfblkpbadikab.B Go.Proofs.Ytehfblkpbadikab.M
theorem last_ {W : World} {f : FuncId} {base : Int → Int × Int} {n first : Int} {N : Nat} (hf : ∀ s : Int, first ≤ s → s < first + N → Cn Try.prog f [.int .i64 s] W [] (fun _ : Unit => .tuple #[.int .i64 (base s).1, .int .i64 (base s).2]) (fun _ => []))
    (h1 : -1000000 ≤ first ∧ first ≤ 1000000) (hN : 0 < N ∧ N ≤ 1000) (hn : -9223372036854000000 ≤ n ∧ n ≤ 9223372036854000000) (hb : ∀ s : Int, first ≤ s → s < first + N → 0 ≤ (base s).1 ∧ (base s).1 ≤ 100000) :
    Cn Try.prog 21 [.int .i64 n, .int .i64 first, .int .i64 (first + N - 1), fn f] W [] (fun _ : Unit => .tuple #[.int .i64 (lastF base n first N).1, .int .i64 (lastF base n first N).2.1, .int .i64 (lastF base n first N).2.2]) (fun _ => []) := by
  (refine S.lz_last_cn fun F => ?_; unfold S.lz_last; simp only [List.cons_append, List.nil_append])
  refine e_loop1 (fun m y => (ex fun k : Nat => pu (m = k ∧ k ≤ N ∧ y = .int .i64 (first + k - 1) ∧ lastF base n first N = lastF base n first k)) :: F) N ?_ ?_
  · exact .ex N (.pu ⟨rfl, Nat.le_refl _, rfl, rfl⟩ .refl)
  intro m ds y
  refine e_ex .here fun k => e_pu .here fun hk => ?_
  obtain ⟨rfl, hkN, rfl, hl⟩ := hk
  refine e_ask v_geq Imp.nil (fun h => ?_) (fun h => ?_)
  · obtain ⟨j, rfl⟩ : ∃ j, m = j + 1 := ⟨m - 1, by omega⟩
    have hs : first + ((j + 1 : Nat) : Int) - 1 = first + (j : Int) := by push_cast; omega
    have hbb := hb (first + j) (by omega) (by omega)
    rw [hs]
    refine e_condT ?_
    refine e_call (hf (first + j) (by omega) (by omega)) .nil fun _ => ?_
    (try simp only [List.cons_append, List.nil_append, -eq_self])
    refine e_opN (v_extN (vs := [_, _]) .here) Imp.nil ?_
    refine e_opN (v_extN (vs := [_, _]) (.there .here)) Imp.nil ?_
    refine e_ask v_leq Imp.nil (fun h2 => ?_) (fun h2 => ?_)
    · rw [hl, lastF, if_pos h2]
      refine e_condT ?_
      refine e_opN (v_sub (by omega) (by omega)) Imp.nil ?_
      (first | refine e_ret (()) rfl ?_ | refine e_retT (()) ?_)
      exact .refl
    · refine e_condF ?_
      refine e_opN (v_sub (by omega) (by omega)) Imp.nil ?_
      refine e_next1 j (by omega) (.ex j (.pu ⟨rfl, by omega, rfl, by rw [hl, lastF, if_neg h2]⟩ ?_))
      exact .refl
  · have hm0 : m = 0 := by omega
    subst hm0
    rw [hl]
    refine e_condF ?_
    (first | refine e_ret (()) rfl ?_ | refine e_retT (()) ?_)
    exact .refl
theorem bL_c : ∀ j : Fin 29, 0 ≤ (bL (257 + (j.1 : Nat))).1 ∧ (bL (257 + (j.1 : Nat))).1 ≤ 100000 := by decide
theorem bD_c : ∀ j : Fin 30, 0 ≤ (bD (0 + (j.1 : Nat))).1 ∧ (bD (0 + (j.1 : Nat))).1 ≤ 100000 := by decide
theorem lzLength {W : World} {n : Int} (hn : -9223372036854000000 ≤ n) : Cn Try.prog 12 [.int .i64 n] W [] (fun _ : Unit => .tuple #[.int .i64 (lenS n).1, .int .i64 (lenS n).2.1, .int .i64 (lenS n).2.2]) (fun _ => []) := by
  unfold lenS
  (refine S.lz_Length_cn fun F => ?_; unfold S.lz_Length; simp only [List.cons_append, List.nil_append])
  refine e_ask v_gtr Imp.nil (fun h => ?_) (fun h => ?_)
  · rw [if_pos h]
    refine e_condT ?_
    (first | refine e_ret (()) rfl ?_ | refine e_retT (()) ?_)
    exact .refl
  · rw [if_neg h]
    refine e_condF ?_
    refine e_call (last_ (base := bL) (n := n) (first := 257) (N := 29) (fun s h1 h2 => baseLength (by omega)) (by omega) (by omega) (by omega) (fun s h1 h2 => by
      obtain ⟨j, hj⟩ := Int.eq_ofNat_of_zero_le (show 0 ≤ s - 257 by omega)
      have := bL_c ⟨j, by omega⟩
      simp only at this
      rw [show s = 257 + (j : Int) by omega]
      exact this)) .nil fun _ => ?_
    (try simp only [List.cons_append, List.nil_append, -eq_self])
    refine e_opN (v_extN (vs := [_, _, _]) .here) Imp.nil ?_
    refine e_opN (v_extN (vs := [_, _, _]) (.there .here)) Imp.nil ?_
    refine e_opN (v_extN (vs := [_, _, _]) (.there (.there .here))) Imp.nil ?_
    (first | refine e_ret (()) rfl ?_ | refine e_retT (()) ?_)
    exact .refl
theorem lzDistance {W : World} {n : Int} (hn : -9223372036854000000 ≤ n) : Cn Try.prog 13 [.int .i64 n] W [] (fun _ : Unit => .tuple #[.int .i64 (disS n).1, .int .i64 (disS n).2.1, .int .i64 (disS n).2.2]) (fun _ => []) := by
  unfold disS
  (refine S.lz_Distance_cn fun F => ?_; unfold S.lz_Distance; simp only [List.cons_append, List.nil_append])
  refine e_ask v_gtr Imp.nil (fun h => ?_) (fun h => ?_)
  · rw [if_pos h]
    refine e_condT ?_
    (first | refine e_ret (()) rfl ?_ | refine e_retT (()) ?_)
    exact .refl
  · rw [if_neg h]
    refine e_condF ?_
    refine e_call (last_ (base := bD) (n := n) (first := 0) (N := 30) (fun s h1 h2 => baseDistance) (by omega) (by omega) (by omega) (fun s h1 h2 => by
      obtain ⟨j, hj⟩ := Int.eq_ofNat_of_zero_le (show 0 ≤ s by omega)
      have := bD_c ⟨j, by omega⟩
      simp only at this
      rw [show s = 0 + (j : Int) by omega]
      exact this)) .nil fun _ => ?_
    (try simp only [List.cons_append, List.nil_append, -eq_self])
    refine e_opN (v_extN (vs := [_, _, _]) .here) Imp.nil ?_
    refine e_opN (v_extN (vs := [_, _, _]) (.there .here)) Imp.nil ?_
    refine e_opN (v_extN (vs := [_, _, _]) (.there (.there .here))) Imp.nil ?_
    (first | refine e_ret (()) rfl ?_ | refine e_retT (()) ?_)
    exact .refl
/-- a piece as it comes -/
structure Pz where
  len : Int
  dist : Int
  c : UInt8
def vPz (p : Pz) : Value := .agg #[I p.len, I p.dist, Sl.B p.c]
def pPz (p : Pz) : List Value := [I p.len, I p.dist, Sl.B p.c]
def badZ (n : Nat) (p : Pz) : Prop := (((p.len < 3 ∨ 258 < p.len) ∨ p.dist < 1) ∨ (if (n : Int) < 32768 then (n : Int) else 32768) < p.dist) ∨ p.c ≠ 0
instance (n : Nat) (p : Pz) : Decidable (badZ n p) := by unfold badZ; infer_instance
def exF (most : Int) : List Pz → List UInt8 → Except Int (List UInt8)
  | [], out => .ok out
  | p :: r, out => if p.len = 0 ∧ p.dist = 0 then (if (out.length : Int) = most then .error 6 else exF most r (out ++ [p.c])) else
    if badZ out.length p then .error 31 else if most - out.length < p.len then .error 6 else exF most r (copyL out p.dist.toNat p.len.toNat)
def exO (most : Int) (l : List Pz) : List UInt8 := match exF most l [] with
  | .ok o => o
  | .error _ => []
def exE (most : Int) (l : List Pz) : Int := match exF most l [] with
  | .ok _ => 0
  | .error e => e
theorem v_minI {P : Program} {W : World} {ts : Array TypeId} {t : TypeId} {a b : Int} : RunV P W [] (sMin ts t [.int .i64 a, .int .i64 b]) (.int .i64 (if b < a then b else a)) := by
  have h := v_min (P := P) (W := W) (ts := ts) (t := t) (q := .i64) (r := .i64) (a := a) (b := b)
  exact h
theorem pz_get {l : List Pz} {i : Nat} (h : i < l.length) : ∀ j, j < 3 → (l.flatMap pPz)[i * 3 + j]? = (pPz l[i])[j]? := fun j hj => flat_get (f := pPz) (s := 3) (fun _ => rfl) l i j h hj
theorem expand {W : World} {a : Option Addr} {c : Nat} {l : List Pz} {most : Int} {A : HP} (hA : RdB W A a (l.length * 3) (l.flatMap pPz)) (hl : l.length ≤ 1099511627776) (hm : 0 ≤ most ∧ most ≤ 1048576) :
    Cn Try.prog 4 [.slice a l.length c, .int .i64 most] W [A] (fun q : Option Addr × Nat => .tuple #[.slice q.1 (exO most l).length q.2, .int .i64 (exE most l)]) (fun q => [Sl 1 5 q.1 q.2 (exO most l).length ((exO most l).map B), A]) := by
  have bad : ∀ e : Int, exF most l [] = .error e → ∀ L : List HP, Ent W (A :: L) (fun w => ∃ q : Option Addr × Nat, (.tuple #[.slice none 0 0, .int .i64 e] : Value) = .tuple #[.slice q.1 (exO most l).length q.2, .int .i64 (exE most l)] ∧ sat W ([Sl 1 5 q.1 q.2 (exO most l).length ((exO most l).map B), A] ++ L) w) := by
    intro e he L
    have h1 : exO most l = [] := by unfold exO; rw [he]
    have h2 : exE most l = e := by unfold exE; rw [he]
    rw [h1, h2]
    refine e_ret (none, 0) rfl ?_
    exact imp_nil .refl
  (refine S.lz_Expand_cn fun F => ?_; unfold S.lz_Expand; simp only [List.cons_append, List.nil_append])
  refine e_opN v_lss Imp.nil ?_
  rw [decide_eq_false (by omega)]
  refine e_gdT ?_
  refine e_gdT ?_
  refine e_opN v_gtr Imp.nil ?_
  rw [decide_eq_false (by omega)]
  refine e_opN v_pickF Imp.nil ?_
  refine e_condF ?_
  refine e_opN v_len Imp.nil ?_
  refine e_loop2 (fun m x y => (ex fun st : (Option Addr × Nat) × Nat => ex fun o : List UInt8 => all [pu (m + st.2 = l.length ∧ x = .slice st.1.1 o.length st.1.2 ∧ y = .int .i64 (st.2 : Int) ∧ exF most l [] = exF most (l.drop st.2) o ∧ (o.length : Int) ≤ most), Sl 1 5 st.1.1 st.1.2 o.length (o.map Sl.B)]) :: A :: F) l.length ?_ ?_
  · refine .ex ((none, 0), 0) (.ex [] (.all ?_))
    (try simp only [List.cons_append, List.nil_append, -eq_self])
    refine .pu ⟨rfl, rfl, rfl, rfl, by simp; omega⟩ ?_
    exact imp_nil .refl
  intro m ds x y
  refine e_ex .here fun st => e_ex .here fun o => e_all .here ?_
  obtain ⟨⟨sa, sc⟩, i⟩ := st
  (try simp only [List.cons_append, List.nil_append, -eq_self])
  refine e_pu .here fun hi => ?_
  (try dsimp only at hi)
  obtain ⟨hmi, rfl, rfl, hex, hol⟩ := hi
  (try dsimp only)
  refine e_ask v_lss Imp.nil (fun h => ?_) (fun h => ?_)
  · have hil : i < l.length := by omega
    rw [List.drop_eq_getElem_cons hil, exF] at hex
    refine e_condT ?_
    obtain ⟨g, of, rfl, _⟩ := hA.at_ (by omega)
    refine e_opN (v_ia i rfl hil) Imp.nil ?_
    have ld : RunV Try.prog W [A] (sLoad 26 (.pointer (some ⟨g, of + i * 3, none⟩))) (vPz l[i]) := v_ldRdG (vs := pPz l[i]) hA rfl (fun j hj => pz_get hil j hj)
    refine e_opN ld (.pick (by (repeat constructor)) .nil) ?_
    generalize l[i] = p at hex ⊢
    unfold vPz
    refine e_newA fun b8 => ?_
    refine e_stAgg .here (by rfl) (by rfl) (by intro u hu; simp at hu; rcases hu with rfl | rfl | rfl <;> rfl) ?_
    have lf0 : RunV Try.prog W [pt b8 (.cells #[I p.len, I p.dist, Sl.B p.c] 26 (0, 0))] (sLoad 3 (.pointer (some ⟨b8, 0, none⟩))) (.int .i64 p.len) := v_ld rfl
    have lf1 : RunV Try.prog W [pt b8 (.cells #[I p.len, I p.dist, Sl.B p.c] 26 (0, 0))] (sLoad 3 (.pointer (some ⟨b8, 1, none⟩))) (.int .i64 p.dist) := v_ld rfl
    have lf2 : RunV Try.prog W [pt b8 (.cells #[I p.len, I p.dist, Sl.B p.c] 26 (0, 0))] (sLoad 5 (.pointer (some ⟨b8, 2, none⟩))) (Sl.B p.c) := v_ld rfl
    refine e_opN v_fa0 Imp.nil ?_
    refine e_opN lf0 (.pick .here .nil) ?_
    refine e_opN v_eql Imp.nil ?_
    have b31 : ¬ (p.len = 0 ∧ p.dist = 0) → badZ o.length p → exF most l [] = .error 31 := fun h1 h2 => by rw [hex, if_neg h1, if_pos h2]
    by_cases l0 : p.len = 0
    · rw [decide_eq_true l0]
      refine e_gdT ?_
      refine e_opN v_fa0 Imp.nil ?_
      refine e_gdT ?_
      refine e_opN lf1 (.pick .here .nil) ?_
      refine e_gdT ?_
      refine e_opN v_eql Imp.nil ?_
      refine e_opN v_pickT Imp.nil ?_
      by_cases d0 : p.dist = 0
      · rw [if_pos ⟨l0, d0⟩] at hex
        rw [decide_eq_true d0]
        refine e_condT ?_
        refine e_opN v_len Imp.nil ?_
        refine e_ask v_eql Imp.nil (fun h2 => ?_) (fun h2 => ?_)
        · rw [if_pos h2] at hex
          refine e_condT ?_
          exact e_imp (by (repeat (first | exact Imp.refl | exact Imp.nil | (apply Imp.pick; (focus ((repeat constructor); done))) | refine Imp.drop ?_))) (bad 6 hex F)
        · rw [if_neg h2] at hex
          refine e_condF ?_
          refine e_opN v_fa0 Imp.nil ?_
          refine e_opN lf2 (.pick .here .nil) ?_
          refine e_bsl1 fun gb => ?_
          refine e_app (m := 1) (news := [Sl.B p.c]) (by (repeat constructor)) (src_pt (e' := 5) (by kernel_rfl) .here (by rfl) (by intro u hu; rw [List.mem_singleton.1 hu]; rfl)) (by omega) (by omega) fun a' c' => ?_
          refine e_opN (v_add (by omega) (by omega)) Imp.nil ?_
          refine e_next2 (m - 1) (by omega) (.ex ((a', c'), i + 1) (.ex (o ++ [p.c]) (.all ?_)))
          (try simp only [List.cons_append, List.nil_append, -eq_self])
          (try dsimp only)
          rw [List.length_append, List.map_append]
          refine .pu ⟨by omega, rfl, by norm_cast, hex, by simp; omega⟩ ?_
          refine .pick .here ?_
          (repeat (first | exact Imp.refl | exact Imp.nil | (apply Imp.pick; (focus ((repeat constructor); done))) | refine Imp.drop ?_))
      · rw [decide_eq_false d0]
        refine e_condF ?_
        refine e_opN v_fa0 Imp.nil ?_
        refine e_opN lf0 (.pick .here .nil) ?_
        refine e_opN v_lss Imp.nil ?_
        rw [decide_eq_true (by omega)]
        ((with_reducible refine e_gdF1 ?_)); ((with_reducible refine e_gdF1 ?_)); ((with_reducible refine e_gdF1 ?_)); (((with_reducible refine e_opN v_pickT Imp.nil ?_))); ((with_reducible refine e_gdF1 ?_)); ((with_reducible refine e_gdF1 ?_)); ((with_reducible refine e_gdF1 ?_)); (((with_reducible refine e_opN v_pickT Imp.nil ?_))); ((with_reducible refine e_gdF1 ?_)); ((with_reducible refine e_gdF1 ?_)); ((with_reducible refine e_gdF1 ?_)); ((with_reducible refine e_gdF1 ?_)); ((with_reducible refine e_gdF1 ?_)); ((with_reducible refine e_gdF1 ?_)); (((with_reducible refine e_opN v_pickT Imp.nil ?_))); ((with_reducible refine e_gdF1 ?_)); ((with_reducible refine e_gdF1 ?_)); ((with_reducible refine e_gdF1 ?_)); (((with_reducible refine e_opN v_pickT Imp.nil ?_))); ((with_reducible refine e_condT ?_))
        exact e_imp (by (repeat (first | exact Imp.refl | exact Imp.nil | (apply Imp.pick; (focus ((repeat constructor); done))) | refine Imp.drop ?_))) (bad 31 (b31 (fun c => d0 c.2) (.inl (.inl (.inl (.inl (by omega)))))) F)
    rw [decide_eq_false l0]
    have nl : ¬ (p.len = 0 ∧ p.dist = 0) := fun c => l0 c.1
    rw [if_neg nl] at hex
    ((with_reducible refine e_gdF2 ?_)); ((with_reducible refine e_gdF2 ?_)); ((with_reducible refine e_gdF2 ?_)); (((with_reducible refine e_opN v_pickF Imp.nil ?_))); ((with_reducible refine e_condF ?_)); (((with_reducible refine e_opN v_fa0 Imp.nil ?_))); (((with_reducible refine' e_opN (v_ldN ?hc) ?hi ?_); (case hi => (repeat (first | exact Imp.refl | exact Imp.nil | (apply Imp.pick; (focus ((repeat constructor); done))) | refine Imp.drop ?_))); (case hc => (repeat (first | exact Nth.here | apply Nth.there)))))
    refine e_opN v_lss Imp.nil ?_
    by_cases b1 : p.len < 3
    · rw [decide_eq_true b1]
      ((with_reducible refine e_gdF1 ?_)); ((with_reducible refine e_gdF1 ?_)); ((with_reducible refine e_gdF1 ?_)); (((with_reducible refine e_opN v_pickT Imp.nil ?_))); ((with_reducible refine e_gdF1 ?_)); ((with_reducible refine e_gdF1 ?_)); ((with_reducible refine e_gdF1 ?_)); (((with_reducible refine e_opN v_pickT Imp.nil ?_))); ((with_reducible refine e_gdF1 ?_)); ((with_reducible refine e_gdF1 ?_)); ((with_reducible refine e_gdF1 ?_)); ((with_reducible refine e_gdF1 ?_)); ((with_reducible refine e_gdF1 ?_)); ((with_reducible refine e_gdF1 ?_)); (((with_reducible refine e_opN v_pickT Imp.nil ?_))); ((with_reducible refine e_gdF1 ?_)); ((with_reducible refine e_gdF1 ?_)); ((with_reducible refine e_gdF1 ?_)); (((with_reducible refine e_opN v_pickT Imp.nil ?_))); ((with_reducible refine e_condT ?_))
      exact e_imp (by (repeat (first | exact Imp.refl | exact Imp.nil | (apply Imp.pick; (focus ((repeat constructor); done))) | refine Imp.drop ?_))) (bad 31 (b31 nl (.inl (.inl (.inl (.inl b1))))) F)
    rw [decide_eq_false b1]
    refine e_gdT ?_
    refine e_opN v_fa0 Imp.nil ?_
    refine e_gdT ?_
    refine e_opN lf0 (.pick .here .nil) ?_
    refine e_gdT ?_
    refine e_opN v_gtr Imp.nil ?_
    refine e_opN v_pickF Imp.nil ?_
    by_cases b2 : 258 < p.len
    · rw [decide_eq_true b2]
      ((with_reducible refine e_gdF1 ?_)); ((with_reducible refine e_gdF1 ?_)); ((with_reducible refine e_gdF1 ?_)); (((with_reducible refine e_opN v_pickT Imp.nil ?_))); ((with_reducible refine e_gdF1 ?_)); ((with_reducible refine e_gdF1 ?_)); ((with_reducible refine e_gdF1 ?_)); ((with_reducible refine e_gdF1 ?_)); ((with_reducible refine e_gdF1 ?_)); ((with_reducible refine e_gdF1 ?_)); (((with_reducible refine e_opN v_pickT Imp.nil ?_))); ((with_reducible refine e_gdF1 ?_)); ((with_reducible refine e_gdF1 ?_)); ((with_reducible refine e_gdF1 ?_)); (((with_reducible refine e_opN v_pickT Imp.nil ?_))); ((with_reducible refine e_condT ?_))
      exact e_imp (by (repeat (first | exact Imp.refl | exact Imp.nil | (apply Imp.pick; (focus ((repeat constructor); done))) | refine Imp.drop ?_))) (bad 31 (b31 nl (.inl (.inl (.inl (.inr b2))))) F)
    rw [decide_eq_false b2]
    refine e_gdT ?_
    refine e_opN v_fa0 Imp.nil ?_
    refine e_gdT ?_
    refine e_opN lf1 (.pick .here .nil) ?_
    refine e_gdT ?_
    refine e_opN v_lss Imp.nil ?_
    refine e_opN v_pickF Imp.nil ?_
    by_cases b3 : p.dist < 1
    · rw [decide_eq_true b3]
      ((with_reducible refine e_gdF1 ?_)); ((with_reducible refine e_gdF1 ?_)); ((with_reducible refine e_gdF1 ?_)); ((with_reducible refine e_gdF1 ?_)); ((with_reducible refine e_gdF1 ?_)); ((with_reducible refine e_gdF1 ?_)); (((with_reducible refine e_opN v_pickT Imp.nil ?_))); ((with_reducible refine e_gdF1 ?_)); ((with_reducible refine e_gdF1 ?_)); ((with_reducible refine e_gdF1 ?_)); (((with_reducible refine e_opN v_pickT Imp.nil ?_))); ((with_reducible refine e_condT ?_))
      exact e_imp (by (repeat (first | exact Imp.refl | exact Imp.nil | (apply Imp.pick; (focus ((repeat constructor); done))) | refine Imp.drop ?_))) (bad 31 (b31 nl (.inl (.inl (.inr b3)))) F)
    rw [decide_eq_false b3]
    refine e_gdT ?_
    refine e_opN v_fa0 Imp.nil ?_
    refine e_gdT ?_
    refine e_opN lf1 (.pick .here .nil) ?_
    refine e_gdT ?_
    refine e_gdT ?_
    refine e_opN v_len Imp.nil ?_
    refine e_gdT ?_
    refine e_opN v_minI Imp.nil ?_
    refine e_gdT ?_
    refine e_opN v_gtr Imp.nil ?_
    refine e_opN v_pickF Imp.nil ?_
    by_cases b4 : (if (o.length : Int) < 32768 then (o.length : Int) else 32768) < p.dist
    · rw [decide_eq_true b4]
      ((with_reducible refine e_gdF1 ?_)); ((with_reducible refine e_gdF1 ?_)); ((with_reducible refine e_gdF1 ?_)); (((with_reducible refine e_opN v_pickT Imp.nil ?_))); ((with_reducible refine e_condT ?_))
      exact e_imp (by (repeat (first | exact Imp.refl | exact Imp.nil | (apply Imp.pick; (focus ((repeat constructor); done))) | refine Imp.drop ?_))) (bad 31 (b31 nl (.inl (.inr b4))) F)
    rw [decide_eq_false b4]
    refine e_gdT ?_
    refine e_opN v_fa0 Imp.nil ?_
    refine e_gdT ?_
    refine e_opN lf2 (.pick .here .nil) ?_
    refine e_gdT ?_
    refine e_opN v_neq Imp.nil ?_
    refine e_opN v_pickF Imp.nil ?_
    by_cases b5 : (p.c.toNat : Int) ≠ 0
    · rw [decide_eq_true b5]
      refine e_condT ?_
      exact e_imp (by (repeat (first | exact Imp.refl | exact Imp.nil | (apply Imp.pick; (focus ((repeat constructor); done))) | refine Imp.drop ?_))) (bad 31 (b31 nl (.inr (fun c => b5 (by rw [c]; rfl)))) F)
    rw [decide_eq_false b5]
    have c0 : p.c = 0 := by
      have : p.c.toNat = 0 := by omega
      exact UInt8.toNat_inj.1 (by rw [this]; rfl)
    have ng : ¬ badZ o.length p := by
      rintro ((((c | c) | c) | c) | c)
      · exact b1 c
      · exact b2 c
      · exact b3 c
      · exact b4 c
      · exact c c0
    rw [if_neg ng] at hex
    have hd : p.dist ≤ o.length := by
      have := b4
      split at this <;> omega
    refine e_condF ?_
    refine e_opN v_fa0 Imp.nil ?_
    refine e_opN lf0 (.pick .here .nil) ?_
    refine e_opN v_len Imp.nil ?_
    refine e_opN (v_sub (by omega) (by omega)) Imp.nil ?_
    refine e_ask v_gtr Imp.nil (fun h2 => ?_) (fun h2 => ?_)
    · rw [if_pos h2] at hex
      refine e_condT ?_
      exact e_imp (by (repeat (first | exact Imp.refl | exact Imp.nil | (apply Imp.pick; (focus ((repeat constructor); done))) | refine Imp.drop ?_))) (bad 6 hex F)
    rw [if_neg h2] at hex
    refine e_condF ?_
    refine e_opN v_fa0 Imp.nil ?_
    refine e_opN lf0 (.pick .here .nil) ?_
    obtain ⟨N, hN⟩ := Int.eq_ofNat_of_zero_le (show 0 ≤ p.len by omega)
    obtain ⟨D, hD⟩ := Int.eq_ofNat_of_zero_le (show 0 ≤ p.dist by omega)
    rw [hN, hD, Int.toNat_natCast, Int.toNat_natCast] at hex
    refine e_loop2 (fun m2 x y => (ex fun st : (Option Addr × Nat) × Nat => all [pu (m2 + st.2 = N ∧ x = .slice st.1.1 (copyL o D st.2).length st.1.2 ∧ y = .int .i64 (st.2 : Int)), Sl 1 5 st.1.1 st.1.2 (copyL o D st.2).length ((copyL o D st.2).map Sl.B)]) :: A :: pt b8 (.cells #[I p.len, I p.dist, Sl.B p.c] 26 (0, 0)) :: F) N ?_ ?_
    · refine .ex ((sa, sc), 0) (.all ?_)
      (try simp only [List.cons_append, List.nil_append, -eq_self])
      refine .pu ⟨rfl, rfl, rfl⟩ ?_
      exact .pick (by (repeat constructor)) (by (repeat (first | exact Imp.refl | exact Imp.nil | (apply Imp.pick; (focus ((repeat constructor); done))) | refine Imp.drop ?_)))
    intro m2 ds2 x y
    refine e_ex .here fun st => e_all .here ?_
    obtain ⟨⟨ta, tc⟩, k⟩ := st
    (try simp only [List.cons_append, List.nil_append, -eq_self])
    refine e_pu .here fun hk => ?_
    (try dsimp only at hk)
    obtain ⟨hmk, rfl, rfl⟩ := hk
    (try dsimp only)
    have hcl := copyL_len o D k
    refine e_ask v_lss Imp.nil (fun h3 => ?_) (fun h3 => ?_)
    · have hkN : k < N := by omega
      refine e_condT ?_
      refine e_opN v_len Imp.nil ?_
      refine e_opN v_fa0 Imp.nil ?_
      refine e_opN lf1 (.pick (by (repeat constructor)) .nil) ?_
      refine e_opN (v_sub (by omega) (by omega)) Imp.nil ?_
      refine e_slsome (a := ta) .here (by omega) fun gt hgt => ?_
      subst hgt
      have hidx : (copyL o D k).length - D < (copyL o D k).length := by omega
      have lb : RunV Try.prog W [Sl 1 5 (some ⟨gt, 0, none⟩) tc (copyL o D k).length ((copyL o D k).map Sl.B)] (sLoad 5 (.pointer (some ⟨gt, 0 + ((copyL o D k).length - D), none⟩))) (Sl.B ((copyL o D k).getD ((copyL o D k).length - D) 0)) := v_ldSl (by
        rw [Nat.zero_add, List.getElem?_map, List.getElem?_eq_getElem hidx, List.getD_eq_getElem?_getD, List.getElem?_eq_getElem hidx]; rfl)
      refine e_opN (v_ia1 ((copyL o D k).length - D) (by omega) hidx) Imp.nil ?_
      refine e_opN lb (.pick .here .nil) ?_
      refine e_bsl1 fun gb => ?_
      refine e_app (m := 1) (news := [Sl.B ((copyL o D k).getD ((copyL o D k).length - D) 0)]) (.there .here) (src_pt (e' := 5) (by kernel_rfl) .here (by rfl) (by intro u hu; rw [List.mem_singleton.1 hu]; rfl)) (by omega) (by omega) fun a' c' => ?_
      refine e_opN (v_add (by omega) (by omega)) Imp.nil ?_
      have e1 : (copyL o D k).length + 1 = (copyL o D (k + 1)).length := by rw [copyL, List.length_append]; rfl
      have e2 : (copyL o D k).map Sl.B ++ [Sl.B ((copyL o D k).getD ((copyL o D k).length - D) 0)] = (copyL o D (k + 1)).map Sl.B := by rw [copyL, List.map_append]; rfl
      rw [e1, e2]
      refine e_next2 (m2 - 1) (by omega) (.ex ((a', c'), k + 1) (.all ?_))
      (try simp only [List.cons_append, List.nil_append, -eq_self])
      refine .pu ⟨by omega, rfl, rfl⟩ ?_
      refine .pick .here ?_
      (repeat (first | exact Imp.refl | exact Imp.nil | (apply Imp.pick; (focus ((repeat constructor); done))) | refine Imp.drop ?_))
    · have hke : k = N := by omega
      subst hke
      refine e_condF ?_
      refine e_opN (v_add (by omega) (by omega)) Imp.nil ?_
      refine e_next2 (m - 1) (by omega) (.ex ((ta, tc), i + 1) (.ex (copyL o D k) (.all ?_)))
      (try simp only [List.cons_append, List.nil_append, -eq_self])
      refine .pu ⟨by omega, rfl, rfl, hex, by omega⟩ ?_
      refine .pick .here ?_
      (repeat (first | exact Imp.refl | exact Imp.nil | (apply Imp.pick; (focus ((repeat constructor); done))) | refine Imp.drop ?_))
  · have hie : i = l.length := by omega
    subst hie
    rw [List.drop_length, exF] at hex
    have h1 : exO most l = o := by unfold exO; rw [hex]
    have h2 : exE most l = 0 := by unfold exE; rw [hex]
    rw [h1, h2]
    refine e_condF ?_
    refine e_ret (sa, sc) rfl ?_
    (repeat (first | exact Imp.refl | exact Imp.nil | (apply Imp.pick; (focus ((repeat constructor); done))) | refine Imp.drop ?_))
end Go.Proofs.Ytehfblkpbadikab.IF
/-! Whether lengths are enough; a fixed block; rows of lengths. No conditions but those that each names. -/
namespace Go.Proofs.Ytehfblkpbadikab.IF
open Go Go.Proofs Go.RowKit Go.Proofs.Ytehfblkpbadikab.Sh Go.Proofs.Ytehfblkpbadikab.Sl Go.Proofs.Ytehfblkpbadikab.T Go.Proofs.Ytehfblkpbadikab.HM Go.Proofs.Ytehfblkpbadikab.HF Go.Proofs.Ytehfblkpbadikab.B Go.Proofs.Ytehfblkpbadikab.M
/-- how many are not nought -/
def cntP : List Int → Int
  | [] => 0
  | x :: l => (if 0 < x then 1 else 0) + cntP l
/-- their sum -/
def sumP : List Int → Int
  | [] => 0
  | x :: l => (if 0 < x then x else 0) + sumP l
theorem cntP_append : ∀ l m : List Int, cntP (l ++ m) = cntP l + cntP m
  | [], m => by simp [cntP]
  | x :: l, m => by simp only [List.cons_append, cntP, cntP_append l m]; omega
theorem sumP_append : ∀ l m : List Int, sumP (l ++ m) = sumP l + sumP m
  | [], m => by simp [sumP]
  | x :: l, m => by simp only [List.cons_append, sumP, sumP_append l m]; omega
theorem cntP_b : ∀ l : List Int, 0 ≤ cntP l ∧ cntP l ≤ l.length
  | [] => by simp [cntP]
  | x :: l => by
    have := cntP_b l
    simp only [cntP, List.length_cons]
    split <;> omega
theorem sumP_b {B : Int} : ∀ l : List Int, (∀ x ∈ l, x ≤ B) → 0 ≤ B → 0 ≤ sumP l ∧ sumP l ≤ B * l.length
  | [], _, _ => by simp [sumP]
  | x :: l, h, hB => by
    have := sumP_b l (fun y hy => h y (.tail _ hy)) hB
    have hx := h x (.head _)
    simp only [sumP, List.length_cons]
    have e : B * ((l.length + 1 : Nat) : Int) = B * l.length + B := by rw [Int.natCast_add, Int.mul_add]; simp
    rw [e]
    generalize B * (l.length : Int) = E at this ⊢
    split <;> omega
def enoughB (l : List Int) : Bool := decide (cntP l = 0) || (decide (cntP l = 1) && decide (sumP l = 1)) || fullB l
theorem enough {W : World} {a : Option Addr} {cap : Nat} {l : List Int} {A : HP} (hr : RdB W A a l.length (l.map I)) (hl : l.length ≤ 1048576) (hb : ∀ x ∈ l, x ≤ 1048576) :
    Cn Try.prog 43 [.slice a l.length cap] W [A] (fun _ : Unit => .bool (enoughB l)) (fun _ => [A]) := by
  (refine S.inflate_enough_cn fun F => ?_; unfold S.inflate_enough; simp only [List.cons_append, List.nil_append])
  (((with_reducible refine e_opN v_len Imp.nil ?_)))
  refine e_loop3 (fun m x y z => [ex fun i : Nat => pu (m + i = l.length ∧ x = .int .i64 (cntP (l.take i)) ∧ y = .int .i64 (sumP (l.take i)) ∧ z = .int .i64 (i : Int)), A] ++ F) l.length ?_ ?_
  · refine .ex 0 ?_
    exact .pu ⟨by omega, rfl, rfl, rfl⟩ .refl
  intro m ds x y z
  (try simp only [List.cons_append, List.nil_append, -eq_self])
  refine e_ex Pick.here fun i => e_pu Pick.here fun hi => ?_
  obtain ⟨hmi, rfl, rfl, rfl⟩ := hi
  have c1 := cntP_b (l.take i)
  have c2 := sumP_b (B := 1048576) (l.take i) (fun x hx => hb x (List.mem_of_mem_take hx)) (by omega)
  rw [List.length_take] at c1 c2
  (refine e_ask v_lss Imp.nil (fun h => ?_) (fun h => ?_))
  · have hil : i < l.length := by omega
    obtain ⟨g, o, rfl, _⟩ := hr.at_ (by omega)
    have hx := hb l[i] (List.getElem_mem hil)
    have t1 : l.take (i + 1) = l.take i ++ [l[i]] := by rw [List.take_add_one, List.getElem?_eq_getElem hil]; rfl
    refine e_condT ?_
    refine e_opN (v_ia1 i (by rfl) hil) Imp.nil ?_
    refine e_opN (v_ldRd hr (v := I l[i]) (I_get hil)) (.pick (by (repeat constructor)) .nil) ?_
    unfold I
    (refine e_ask v_gtr Imp.nil (fun h => ?_) (fun h => ?_))
    · have s1 : cntP (l.take (i + 1)) = cntP (l.take i) + 1 := by rw [t1, cntP_append]; simp only [cntP]; rw [if_pos (by omega)]; omega
      have s2 : sumP (l.take (i + 1)) = sumP (l.take i) + l[i] := by rw [t1, sumP_append]; simp only [sumP]; rw [if_pos (by omega)]; omega
      ((with_reducible refine e_condT ?_)); (((with_reducible refine e_opN (v_add ?h1 ?h2) Imp.nil ?_); (case h1 => omega); (case h2 => omega))); (((with_reducible refine e_opN (v_add ?h1 ?h2) Imp.nil ?_); (case h1 => omega); (case h2 => omega))); (((with_reducible refine e_opN (v_add ?h1 ?h2) Imp.nil ?_); (case h1 => omega); (case h2 => omega)))
      refine e_next3 (m - 1) (by omega) (.ex (i + 1) (.pu ⟨by omega, by rw [s1], by rw [s2], rfl⟩ ?_))
      exact .refl
    · have s1 : cntP (l.take (i + 1)) = cntP (l.take i) := by rw [t1, cntP_append]; simp only [cntP]; rw [if_neg (by omega)]; omega
      have s2 : sumP (l.take (i + 1)) = sumP (l.take i) := by rw [t1, sumP_append]; simp only [sumP]; rw [if_neg (by omega)]; omega
      ((with_reducible refine e_condF ?_)); (((with_reducible refine e_opN (v_add ?h1 ?h2) Imp.nil ?_); (case h1 => omega); (case h2 => omega)))
      refine e_next3 (m - 1) (by omega) (.ex (i + 1) (.pu ⟨by omega, by rw [s1], by rw [s2], rfl⟩ ?_))
      exact .refl
  · have : i = l.length := by omega
    subst this
    rw [List.take_length]
    refine e_condF ?_
    have fin : ∀ v : Bool, v = enoughB l → Ent W (A :: F) (fun w => ∃ x : Unit, (.bool v : Value) = .bool (enoughB l) ∧ sat W ([A] ++ F) w) := by
      intro v hv
      rw [hv]
      refine e_ret () rfl ?_
      exact .refl
    (refine e_ask v_eql Imp.nil (fun h => ?_) (fun h => ?_))
    · ((with_reducible refine e_gdF1 ?_)); ((with_reducible refine e_gdF1 ?_)); ((with_reducible refine e_gdF1 ?_)); ((with_reducible refine e_gdU ?_)); ((with_reducible refine e_gdU ?_)); ((with_reducible refine e_gdF1 ?_)); (((with_reducible refine e_opN v_pickT Imp.nil ?_))); ((with_reducible refine e_gdF1 ?_)); ((with_reducible refine e_gdF1 ?_)); (((with_reducible refine e_opN v_pickT Imp.nil ?_)))
      exact fin true (by simp [enoughB, h])
    · have h0 := h
      ((with_reducible refine e_gdT ?_)); ((with_reducible refine e_gdT ?_))
      (refine e_ask v_eql Imp.nil (fun h => ?_) (fun h => ?_))
      · have h1 := h
        ((with_reducible refine e_gdT ?_)); ((with_reducible refine e_gdT ?_)); ((with_reducible refine e_gdT ?_))
        (refine e_ask v_eql Imp.nil (fun h => ?_) (fun h => ?_))
        · ((with_reducible refine e_gdT ?_)); (((with_reducible refine e_opN v_pickT Imp.nil ?_))); (((with_reducible refine e_opN v_pickF Imp.nil ?_))); ((with_reducible refine e_gdF1 ?_)); ((with_reducible refine e_gdF1 ?_)); (((with_reducible refine e_opN v_pickT Imp.nil ?_)))
          exact fin true (by simp [enoughB, h1, h])
        · ((with_reducible refine e_gdT ?_)); (((with_reducible refine e_opN v_pickT Imp.nil ?_))); (((with_reducible refine e_opN v_pickF Imp.nil ?_))); ((with_reducible refine e_gdT ?_)); ((with_reducible refine e_gdT ?_))
          (refine' e_call (full hr (by omega)) ?hp fun _ => ?_; (case hp => (repeat (first | exact Picks.nil | (apply Picks.cons; (focus (repeat constructor)))))); (try simp only [List.cons_append, List.nil_append, Bool.not_true, Bool.not_false]))
          (((with_reducible refine e_opN v_pickF Imp.nil ?_)))
          exact fin _ (by simp [enoughB, h0, h])
      · ((with_reducible refine e_gdT ?_)); ((with_reducible refine e_gdF2 ?_)); ((with_reducible refine e_gdF2 ?_)); ((with_reducible refine e_gdT ?_)); (((with_reducible refine e_opN v_pickF Imp.nil ?_))); (((with_reducible refine e_opN v_pickF Imp.nil ?_))); ((with_reducible refine e_gdT ?_)); ((with_reducible refine e_gdT ?_))
        (refine' e_call (full hr (by omega)) ?hp fun _ => ?_; (case hp => (repeat (first | exact Picks.nil | (apply Picks.cons; (focus (repeat constructor)))))); (try simp only [List.cons_append, List.nil_append, Bool.not_true, Bool.not_false]))
        (((with_reducible refine e_opN v_pickF Imp.nil ?_)))
        exact fin _ (by simp [enoughB, h0, h])
theorem ok_lit : okL litL := by
  have : decide (okL litL) = true := by decide +kernel
  exact of_decide_eq_true this
theorem ok_dst : okL dstL := by
  have : decide (okL dstL) = true := by decide +kernel
  exact of_decide_eq_true this
theorem fixed {W : World} {p at_ : Nat} {b out : List UInt8} {most : Int} (h1 : 0 ≤ most ∧ most ≤ 1048576) (h2 : (out.length : Int) ≤ most) :
    CnP Try.prog 29 [.pointer (some ⟨p, 0, none⟩)] W [IsS p b at_ out most] (fun _ : Ok (mS litL dstL b most at_ out) => .tuple #[]) (fun x => [IsS p b x.1.1 x.1.2 most]) (fun y : Er (mS litL dstL b most at_ out) => pn y.1) (fun _ => []) := by
  (refine S.inflate_stream_fixed_cnP fun F => ?_; unfold S.inflate_stream_fixed; simp only [List.cons_append, List.nil_append, -eq_self])
  (refine' e_call (fixedL) ?hp fun _ => ?_; (case hp => (repeat (first | exact Picks.nil | (apply Picks.cons; (focus (repeat constructor)))))); (try simp only [List.cons_append, List.nil_append, Bool.not_true, Bool.not_false]))
  rename_i q
  obtain ⟨⟨la, lc⟩, ⟨da, dc⟩⟩ := q
  (try dsimp only)
  refine e_slfacts (.here) fun f1 f2 f3 f4 => ?_
  refine e_slfacts (.there .here) fun g1 g2 g3 g4 => ?_
  refine e_opN (v_ext (v := .slice la litL.length lc) rfl) Imp.nil ?_
  refine e_opN (v_ext (v := .slice da dstL.length dc) rfl) Imp.nil ?_
  (refine' e_callP (decoder (rd_sl (by rw [List.length_map]) f4) (by rw [lit_len]; omega)) ?hp (fun _ => ?_) (fun _ => ?_); (case hp => (repeat (first | exact Picks.nil | (apply Picks.cons; (focus (repeat constructor)))))); (all_goals (try simp only [List.cons_append, List.nil_append, Bool.not_true, Bool.not_false, -eq_self])))
  rotate_left
  · rename_i y
    exact absurd ok_lit y.2
  rename_i x1
  (refine' e_callP (decoder (rd_sl (by rw [List.length_map]) g4) (by rw [dst_len]; omega)) ?hp (fun _ => ?_) (fun _ => ?_); (case hp => (repeat (first | exact Picks.nil | (apply Picks.cons; (focus (repeat constructor)))))); (all_goals (try simp only [List.cons_append, List.nil_append, Bool.not_true, Bool.not_false, -eq_self])))
  rotate_left
  · rename_i y
    exact absurd ok_dst y.2
  rename_i x2
  (refine' e_callP (symbols (by rw [lit_len]; omega) (by rw [dst_len]; omega) h1 h2) ?hp (fun _ => ?_) (fun _ => ?_); (case hp => (repeat (first | exact Picks.nil | (apply Picks.cons; (focus (repeat constructor)))))); (all_goals (try simp only [List.cons_append, List.nil_append, Bool.not_true, Bool.not_false, -eq_self])))
  · rename_i x
    (first | refine e_ret (x) rfl ?_ | refine e_retT (x) ?_)
    (repeat (first | exact Imp.refl | exact Imp.nil | (apply Imp.pick; (focus ((repeat constructor); done))) | refine Imp.drop ?_))
  · rename_i y
    refine e_pan y rfl ?_
    (repeat (first | exact Imp.refl | exact Imp.nil | (apply Imp.pick; (focus ((repeat constructor); done))) | refine Imp.drop ?_))
end Go.Proofs.Ytehfblkpbadikab.IF
/-! Rows of lengths. No conditions but those that each names. -/
namespace Go.Proofs.Ytehfblkpbadikab.IF
open Go Go.Proofs Go.RowKit Go.Proofs.Ytehfblkpbadikab.Sh Go.Proofs.Ytehfblkpbadikab.Sl Go.Proofs.Ytehfblkpbadikab.T Go.Proofs.Ytehfblkpbadikab.HM Go.Proofs.Ytehfblkpbadikab.HF Go.Proofs.Ytehfblkpbadikab.B Go.Proofs.Ytehfblkpbadikab.M
theorem e_rfactS {W : World} {L L' : List HP} {S : WP} {p at_ : Nat} {b out : List UInt8} {most : Int} (q : Pick L (IsS p b at_ out most) L') (h : at_ ≤ 8 * b.length → Ent W L S) : Ent W L S := fun w hw => by
  have e : Ent W L (fun _ => at_ ≤ 8 * b.length) := e_ex q fun r => e_all .here (e_rfact (.there .here) fun hat => fun _ _ => hat)
  exact h (e w hw) w hw
/-- a run: what stands in it, how often, bits taken -/
def mRun (l : List Int) (b : List UInt8) (at_ : Nat) (acc : List Int) : Except Int (Int × Int × Nat) :=
  let x := nxt l b at_
  if x.2.1 ≠ 0 then .error x.2.1 else
  if x.1 = 16 then (if takR b x.2.2 2 ≠ 0 then .error (takR b x.2.2 2) else if ¬ 0 < acc.length then .error 30 else .ok (acc.getD (acc.length - 1) 0, 3 + (takN b x.2.2 2 : Int), takAt b x.2.2 2)) else
  if x.1 = 17 then (if takR b x.2.2 3 ≠ 0 then .error (takR b x.2.2 3) else .ok (0, 3 + (takN b x.2.2 3 : Int), takAt b x.2.2 3)) else
  if x.1 = 18 then (if takR b x.2.2 7 ≠ 0 then .error (takR b x.2.2 7) else .ok (0, 11 + (takN b x.2.2 7 : Int), takAt b x.2.2 7)) else
  .ok (x.1, 1, x.2.2)
/-- a row of n -/
def mRow (l : List Int) (b : List UInt8) (n : Nat) : Nat → Nat → List Int → Except Int (Nat × List Int)
  | 0, _, _ => .error 20
  | f + 1, at_, acc => if acc.length < n then (match mRun l b at_ acc with
    | .error e => .error e
    | .ok (v, t, a) => if ¬ t ≤ (n : Int) - acc.length then .error 30 else mRow l b n f a (acc ++ List.replicate t.toNat v)) else .ok (at_, acc)
theorem mRun_ok {l : List Int} {b : List UInt8} {at_ : Nat} {acc : List Int} {v t : Int} {a : Nat} {B : Int} (h : mRun l b at_ acc = .ok (v, t, a)) (h0 : ∀ x ∈ acc, 0 ≤ x ∧ x ≤ B) (hl : (l.length : Int) ≤ B) : 0 ≤ v ∧ v ≤ B ∧ 1 ≤ t ∧ at_ < a := by
  have ho : ∀ {v' t' : Int} {a' : Nat}, (Except.ok (v', t', a') : Except Int (Int × Int × Nat)) = .ok (v, t, a) → v' = v ∧ t' = t ∧ a' = a := fun e => by
    have := Prod.mk.inj (Except.ok.inj e)
    have h2 := Prod.mk.inj this.2
    exact ⟨this.1, h2.1, h2.2⟩
  unfold mRun at h
  simp only at h
  obtain ⟨c0, h⟩ := ite_err h
  have hlt := (nxt_at l b at_).2 (Decidable.not_not.1 c0)
  have hv := nxt_val l b at_
  by_cases c1 : (nxt l b at_).1 = 16
  · rw [if_pos c1] at h
    obtain ⟨_, h⟩ := ite_err h
    obtain ⟨c2, h⟩ := ite_err h
    obtain ⟨rfl, rfl, rfl⟩ := ho h
    have c3 : acc.length - 1 < acc.length := by omega
    have hm := h0 _ (List.getElem_mem c3)
    have hle := takAt_le b (nxt l b at_).2.2 2
    rw [List.getD_eq_getElem?_getD, List.getElem?_eq_getElem c3]
    exact ⟨hm.1, hm.2, by omega, by omega⟩
  rw [if_neg c1] at h
  by_cases c2 : (nxt l b at_).1 = 17
  · rw [if_pos c2] at h
    obtain ⟨_, h⟩ := ite_err h
    obtain ⟨rfl, rfl, rfl⟩ := ho h
    have hle := takAt_le b (nxt l b at_).2.2 3
    exact ⟨by omega, by omega, by omega, by omega⟩
  rw [if_neg c2] at h
  by_cases c3 : (nxt l b at_).1 = 18
  · rw [if_pos c3] at h
    obtain ⟨_, h⟩ := ite_err h
    obtain ⟨rfl, rfl, rfl⟩ := ho h
    have hle := takAt_le b (nxt l b at_).2.2 7
    exact ⟨by omega, by omega, by omega, by omega⟩
  rw [if_neg c3] at h
  obtain ⟨rfl, rfl, rfl⟩ := ho h
  exact ⟨by omega, by omega, by omega, by omega⟩
theorem mem_rep {acc : List Int} {v : Int} {k : Nat} {B : Int} (h0 : ∀ x ∈ acc, 0 ≤ x ∧ x ≤ B) (hv : 0 ≤ v ∧ v ≤ B) : ∀ x ∈ acc ++ List.replicate k v, 0 ≤ x ∧ x ≤ B := by
  intro x hx
  rcases List.mem_append.1 hx with h | h
  · exact h0 x h
  · rw [(List.mem_replicate.1 h).2]; exact hv
theorem mRow_ok {l : List Int} {b : List UInt8} {n : Nat} {B : Int} (hl : (l.length : Int) ≤ B) : ∀ (f : Nat) {at_ : Nat} {acc : List Int} {a : Nat} {r : List Int}, mRow l b n f at_ acc = .ok (a, r) → acc.length ≤ n → (∀ x ∈ acc, 0 ≤ x ∧ x ≤ B) → r.length = n ∧ (∀ x ∈ r, 0 ≤ x ∧ x ≤ B)
  | 0, _, _, _, _, h, _, _ => by cases h
  | f + 1, at_, acc, a, r, h, h1, h0 => by
    rw [mRow] at h
    by_cases c : acc.length < n
    · rw [if_pos c] at h
      cases hr : mRun l b at_ acc with
      | error e => rw [hr] at h; cases h
      | ok q =>
        obtain ⟨v, t, a1⟩ := q
        rw [hr] at h
        simp only at h
        obtain ⟨c1, h⟩ := ite_err h
        have ho := mRun_ok hr h0 hl
        refine mRow_ok hl f h ?_ (mem_rep h0 ⟨ho.1, ho.2.1⟩)
        rw [List.length_append, List.length_replicate]; omega
    · rw [if_neg c] at h
      have := Prod.mk.inj (Except.ok.inj h)
      rw [← this.2]
      exact ⟨by omega, h0⟩
/-- the fuel that the bits allow -/
def mRw (l : List Int) (b : List UInt8) (n at_ : Nat) : Except Int (Nat × List Int) := mRow l b n (8 * b.length + 1 - at_) at_ []
theorem row {W : World} {p pd at_ n : Nat} {l : List Int} {b out : List UInt8} {most : Int} (hl : l.length ≤ 320) (hn : n ≤ 1048576) (ho : out.length ≤ 1048576) :
    CnP Try.prog 42 [.pointer (some ⟨p, 0, none⟩), .pointer (some ⟨pd, 0, none⟩), .int .i64 (n : Int)] W [IsS p b at_ out most, IsDec pd l]
      (fun x : Ok (mRw l b n at_) × Option Addr × Nat => .slice x.2.1 n x.2.2) (fun x => [IsS p b x.1.1.1 out most, Sl 1 3 x.2.1 x.2.2 n (x.1.1.2.map I)]) (fun y : Er (mRw l b n at_) => pn y.1) (fun _ => []) := by
  (refine S.inflate_stream_row_cnP fun F => ?_; unfold S.inflate_stream_row; simp only [List.cons_append, List.nil_append, -eq_self])
  obtain ⟨R, hR⟩ : ∃ R, R = mRw l b n at_ := ⟨_, rfl⟩
  rw [← hR]
  refine e_nil (s := 1) (e := 3) ?_
  refine e_rfactS (.there .here) fun hat0 => ?_
  refine e_loop1 (fun m y => [ex fun at1 : Nat => ex fun acc : List Int => ex fun q : Option Addr × Nat => all [pu (8 * b.length + 1 ≤ m + at1 ∧ at1 ≤ 8 * b.length ∧ R = mRow l b n m at1 acc ∧ acc.length ≤ n ∧ (∀ x ∈ acc, 0 ≤ x ∧ x ≤ 320) ∧ y = .slice q.1 acc.length q.2), Sl 1 3 q.1 q.2 acc.length (acc.map I), IsS p b at1 out most, IsDec pd l]] ++ F) (8 * b.length + 1 - at_) ?_ ?_
  · refine .ex at_ (.ex [] (.ex (none, 0) (.all ?_)))
    (try simp only [List.cons_append, List.nil_append, -eq_self])
    refine .pu ⟨by omega, hat0, hR, by simp, by simp, rfl⟩ ?_
    exact .pick (by (repeat constructor)) (.pick (by (repeat constructor)) (.pick (by (repeat constructor)) .refl))
  clear hR hat0
  intro m ds y
  (try simp only [List.cons_append, List.nil_append, -eq_self])
  refine e_ex Pick.here fun at1 => e_ex Pick.here fun acc => e_ex Pick.here fun q => e_all Pick.here ?_
  obtain ⟨qa, qc⟩ := q
  (try simp only [List.cons_append, List.nil_append, -eq_self])
  refine e_pu Pick.here fun hi => ?_
  obtain ⟨hm, hat, hR, h2, h3, rfl⟩ := hi
  obtain ⟨m, rfl⟩ : ∃ m', m = m' + 1 := ⟨m - 1, by omega⟩
  rw [mRow] at hR
  refine e_slfacts .here fun f1 f2 f3 f4 => ?_
  (((with_reducible refine e_opN v_len Imp.nil ?_)))
  (refine e_ask v_lss Imp.nil (fun h => ?_) (fun h => ?_))
  rotate_left
  · rw [if_neg (by omega)] at hR
    have : acc.length = n := by omega
    subst this
    refine e_condF ?_
    refine e_ret ((⟨_, hR⟩ : Ok R), (qa, qc)) rfl ?_
    (repeat (first | exact Imp.refl | exact Imp.nil | (apply Imp.pick; (focus ((repeat constructor); done))) | refine Imp.drop ?_))
  rw [if_pos (by omega)] at hR
  refine e_condT ?_
  have hM : mRun l b at1 acc = mRun l b at1 acc := rfl
  conv at hM => rhs; unfold mRun
  simp only at hM
  refine e_ex (.there .here) fun q => e_all Pick.here ?_
  obtain ⟨r, sa, sc⟩ := q
  (try simp only [List.cons_append, List.nil_append, -eq_self])
  (((with_reducible refine e_opN v_nil Imp.nil ?_))); (((with_reducible refine e_opN v_fa0 Imp.nil ?_))); (((with_reducible refine' e_opN (v_ldN ?hc) ?hi ?_); (case hi => (repeat (first | exact Imp.refl | exact Imp.nil | (apply Imp.pick; (focus ((repeat constructor); done))) | refine Imp.drop ?_))); (case hc => (repeat (first | exact Nth.here | apply Nth.there)))))
  (refine' e_callP (inext) ?hp (fun _ => ?_) (fun _ => ?_); (case hp => (repeat (first | exact Picks.nil | (apply Picks.cons; (focus (repeat constructor)))))); (all_goals (try simp only [List.cons_append, List.nil_append, Bool.not_true, Bool.not_false, -eq_self])))
  rotate_left
  · rename_i y
    rw [if_pos y.2] at hM
    rw [hM] at hR
    refine e_pan ⟨_, hR⟩ rfl ?_
    (repeat (first | exact Imp.refl | exact Imp.nil | (apply Imp.pick; (focus ((repeat constructor); done))) | refine Imp.drop ?_))
  rename_i x1
  rw [if_neg (fun c => c x1.2)] at hM
  have hv := nxt_val l b at1
  have hlt := (nxt_at l b at1).2 x1.2
  obtain ⟨x, hx⟩ : ∃ x, x = (nxt l b at1).1 := ⟨_, rfl⟩
  obtain ⟨a2, ha2⟩ : ∃ a2, a2 = (nxt l b at1).2.2 := ⟨_, rfl⟩
  rw [← hx] at hv
  rw [← ha2] at hlt
  rw [← hx, ← ha2] at hM ⊢
  refine e_imp (M := Sl 1 3 qa qc acc.length (acc.map I) :: IsS p b a2 out most :: IsDec pd l :: F) (.pick (by (repeat constructor)) (.ex (r, (sa, sc)) (.all (.pick (by (repeat constructor)) (.pick (by (repeat constructor)) (.pick (by (repeat constructor)) (by (repeat (first | exact Imp.refl | exact Imp.nil | (apply Imp.pick; (focus ((repeat constructor); done))) | refine Imp.drop ?_))))))))) ?_
  refine e_cut2 (fun z8 z9 => [ex fun v : Int => ex fun t : Int => ex fun a3 : Nat => all [pu (mRun l b at1 acc = .ok (v, t, a3) ∧ z8 = .int .i64 v ∧ z9 = .int .i64 t ∧ t ≤ 1099511627776), Sl 1 3 qa qc acc.length (acc.map I), IsS p b a3 out most, IsDec pd l]] ++ F) ?_ ?_
  rotate_left
  · (refine e_ask v_eql Imp.nil (fun h => ?_) (fun h => ?_))
    · rw [if_pos h] at hM
      refine e_condT ?_
      (refine' e_callP (stake) ?hp (fun _ => ?_) (fun _ => ?_); (case hp => (repeat (first | exact Picks.nil | (apply Picks.cons; (focus (repeat constructor)))))); (all_goals (try simp only [List.cons_append, List.nil_append, Bool.not_true, Bool.not_false, -eq_self])))
      rotate_left
      · rename_i y
        rw [if_pos y.2] at hM
        rw [hM] at hR
        refine e_pan ⟨_, hR⟩ rfl ?_
        (repeat (first | exact Imp.refl | exact Imp.nil | (apply Imp.pick; (focus ((repeat constructor); done))) | refine Imp.drop ?_))
      rename_i x4
      rw [if_neg (fun c => c x4.2)] at hM
      have ht1 := takN32 b a2 2
      (((with_reducible refine e_opN (v_add ?h1 ?h2) Imp.nil ?_); (case h1 => omega); (case h2 => omega))); (((with_reducible refine e_opN v_len Imp.nil ?_)))
      refine e_opN v_gtr Imp.nil ?_
      (refine' e_callP (demand) ?hp (fun _ => ?_) (fun _ => ?_); (case hp => (repeat (first | exact Picks.nil | (apply Picks.cons; (focus (repeat constructor)))))); (all_goals (try simp only [List.cons_append, List.nil_append, Bool.not_true, Bool.not_false, -eq_self])))
      rotate_left
      · rename_i y
        rw [if_pos (by have := of_decide_eq_false y.2; omega)] at hM
        rw [hM] at hR
        refine e_pan ⟨_, hR⟩ rfl ?_
        (repeat (first | exact Imp.refl | exact Imp.nil | (apply Imp.pick; (focus ((repeat constructor); done))) | refine Imp.drop ?_))
      rename_i x5
      have h0 := of_decide_eq_true x5.2
      rw [if_neg (by omega)] at hM
      obtain ⟨gq, rfl⟩ := f4 (by omega)
      have hj : acc.length - 1 < acc.length := by omega
      (((with_reducible refine e_opN v_len Imp.nil ?_))); (((with_reducible refine e_opN (v_sub ?h1 ?h2) Imp.nil ?_); (case h1 => omega); (case h2 => omega)))
      refine e_opN (v_ia1 (acc.length - 1) (by omega) hj) Imp.nil ?_
      refine e_opN (v_ldSl (v := I acc[acc.length - 1]) (by rw [Nat.zero_add]; exact I_get hj)) (.pick (by (repeat constructor)) .nil) ?_
      rw [List.getD_eq_getElem?_getD, List.getElem?_eq_getElem hj] at hM
      refine e_sat (.ex (acc[acc.length - 1]) (.ex (3 + (takN b a2 2 : Int)) (.ex (takAt b a2 2) (.all ?_))))
      (try simp only [List.cons_append, List.nil_append, -eq_self])
      refine .pu ⟨hM, rfl, rfl, by omega⟩ ?_
      exact .pick (by (repeat constructor)) (.pick (by (repeat constructor)) (.pick (by (repeat constructor)) .refl))
    rw [if_neg h] at hM
    refine e_condF ?_
    (refine e_ask v_eql Imp.nil (fun h => ?_) (fun h => ?_))
    · rw [if_pos h] at hM
      refine e_condT ?_
      (refine' e_callP (stake) ?hp (fun _ => ?_) (fun _ => ?_); (case hp => (repeat (first | exact Picks.nil | (apply Picks.cons; (focus (repeat constructor)))))); (all_goals (try simp only [List.cons_append, List.nil_append, Bool.not_true, Bool.not_false, -eq_self])))
      rotate_left
      · rename_i y
        rw [if_pos y.2] at hM
        rw [hM] at hR
        refine e_pan ⟨_, hR⟩ rfl ?_
        (repeat (first | exact Imp.refl | exact Imp.nil | (apply Imp.pick; (focus ((repeat constructor); done))) | refine Imp.drop ?_))
      rename_i x4
      rw [if_neg (fun c => c x4.2)] at hM
      have ht1 := takN32 b a2 3
      (((with_reducible refine e_opN (v_add ?h1 ?h2) Imp.nil ?_); (case h1 => omega); (case h2 => omega)))
      refine e_sat (.ex 0 (.ex (3 + (takN b a2 3 : Int)) (.ex (takAt b a2 3) (.all ?_))))
      (try simp only [List.cons_append, List.nil_append, -eq_self])
      refine .pu ⟨hM, rfl, rfl, by omega⟩ ?_
      exact .pick (by (repeat constructor)) (.pick (by (repeat constructor)) (.pick (by (repeat constructor)) .refl))
    rw [if_neg h] at hM
    refine e_condF ?_
    (refine e_ask v_eql Imp.nil (fun h => ?_) (fun h => ?_))
    · rw [if_pos h] at hM
      refine e_condT ?_
      (refine' e_callP (stake) ?hp (fun _ => ?_) (fun _ => ?_); (case hp => (repeat (first | exact Picks.nil | (apply Picks.cons; (focus (repeat constructor)))))); (all_goals (try simp only [List.cons_append, List.nil_append, Bool.not_true, Bool.not_false, -eq_self])))
      rotate_left
      · rename_i y
        rw [if_pos y.2] at hM
        rw [hM] at hR
        refine e_pan ⟨_, hR⟩ rfl ?_
        (repeat (first | exact Imp.refl | exact Imp.nil | (apply Imp.pick; (focus ((repeat constructor); done))) | refine Imp.drop ?_))
      rename_i x4
      rw [if_neg (fun c => c x4.2)] at hM
      have ht1 := takN32 b a2 7
      (((with_reducible refine e_opN (v_add ?h1 ?h2) Imp.nil ?_); (case h1 => omega); (case h2 => omega)))
      refine e_sat (.ex 0 (.ex (11 + (takN b a2 7 : Int)) (.ex (takAt b a2 7) (.all ?_))))
      (try simp only [List.cons_append, List.nil_append, -eq_self])
      refine .pu ⟨hM, rfl, rfl, by omega⟩ ?_
      exact .pick (by (repeat constructor)) (.pick (by (repeat constructor)) (.pick (by (repeat constructor)) .refl))
    rw [if_neg h] at hM
    refine e_condF ?_
    refine e_sat (.ex x (.ex 1 (.ex a2 (.all ?_))))
    (try simp only [List.cons_append, List.nil_append, -eq_self])
    refine .pu ⟨hM, rfl, rfl, by omega⟩ ?_
    exact .pick (by (repeat constructor)) (.pick (by (repeat constructor)) (.pick (by (repeat constructor)) .refl))
  clear hM hx ha2 hlt hv x1
  intro ds2 z8 z9
  (try simp only [List.cons_append, List.nil_append, -eq_self])
  refine e_ex Pick.here fun v => e_ex Pick.here fun t => e_ex Pick.here fun a3 => e_all Pick.here ?_
  (try simp only [List.cons_append, List.nil_append, -eq_self])
  refine e_pu Pick.here fun hi => ?_
  obtain ⟨hM, rfl, rfl, ht⟩ := hi
  obtain ⟨v0, v1, t1, hlt⟩ := mRun_ok (B := 320) hM h3 (by omega)
  rw [hM] at hR
  simp only at hR
  (((with_reducible refine e_opN v_len Imp.nil ?_))); (((with_reducible refine e_opN (v_sub ?h1 ?h2) Imp.nil ?_); (case h1 => omega); (case h2 => omega)))
  refine e_opN v_leq Imp.nil ?_
  (refine' e_callP (demand) ?hp (fun _ => ?_) (fun _ => ?_); (case hp => (repeat (first | exact Picks.nil | (apply Picks.cons; (focus (repeat constructor)))))); (all_goals (try simp only [List.cons_append, List.nil_append, Bool.not_true, Bool.not_false, -eq_self])))
  rotate_left
  · rename_i y
    rw [if_pos (of_decide_eq_false y.2)] at hR
    refine e_pan ⟨_, hR⟩ rfl ?_
    (repeat (first | exact Imp.refl | exact Imp.nil | (apply Imp.pick; (focus ((repeat constructor); done))) | refine Imp.drop ?_))
  rename_i x5
  have h0 := of_decide_eq_true x5.2
  rw [if_neg (fun c => c h0)] at hR
  obtain ⟨k, rfl⟩ := Int.eq_ofNat_of_zero_le (show 0 ≤ t by omega)
  rw [Int.toNat_natCast] at hR
  refine e_rfactS (.there .here) fun hat3 => ?_
  refine e_loop2 (fun m2 x y => [ex fun i : Nat => ex fun q : Option Addr × Nat => all [pu (m2 + i = k ∧ y = .int .i64 (i : Int) ∧ x = .slice q.1 (acc.length + i) q.2), Sl 1 3 q.1 q.2 (acc.length + i) ((acc ++ List.replicate i v).map I), IsS p b a3 out most, IsDec pd l]] ++ F) k ?_ ?_
  · refine .ex 0 (.ex (qa, qc) (.all ?_))
    (try simp only [List.cons_append, List.nil_append, -eq_self])
    refine .pu ⟨by omega, rfl, rfl⟩ ?_
    rw [List.replicate_zero, List.append_nil]
    exact .pick (by (repeat constructor)) (.pick (by (repeat constructor)) (.pick (by (repeat constructor)) .refl))
  intro m2 ds3 x y
  (try simp only [List.cons_append, List.nil_append, -eq_self])
  refine e_ex Pick.here fun i => e_ex Pick.here fun q => e_all Pick.here ?_
  obtain ⟨qa2, qc2⟩ := q
  (try simp only [List.cons_append, List.nil_append, -eq_self])
  refine e_pu Pick.here fun hi => ?_
  obtain ⟨hmi, rfl, rfl⟩ := hi
  (try dsimp only)
  (refine e_ask v_lss Imp.nil (fun h => ?_) (fun h => ?_))
  · refine e_condT ?_
    refine e_bsl1 fun g => ?_
    refine e_app (m := 1) (news := [I v]) (by (repeat constructor)) (src_pt (e' := 3) (by kernel_rfl) .here (by rfl) (I_one (l := [v]))) (by omega) (by omega) fun a' c' => ?_
    (((with_reducible refine e_opN (v_add ?h1 ?h2) Imp.nil ?_); (case h1 => omega); (case h2 => omega)))
    refine e_next2 (m2 - 1) (by omega) (.ex (i + 1) (.ex (a', c') (.all ?_)))
    (try simp only [List.cons_append, List.nil_append, -eq_self])
    refine .pu ⟨by omega, congrArg (Value.int .i64) (by omega), by rw [Nat.add_assoc]⟩ ?_
    rw [List.replicate_succ', ← List.append_assoc, List.map_append (l₁ := acc ++ List.replicate i v), ← Nat.add_assoc]
    exact .pick (by (repeat constructor)) (.pick (by (repeat constructor)) (.pick (by (repeat constructor)) (by (repeat (first | exact Imp.refl | exact Imp.nil | (apply Imp.pick; (focus ((repeat constructor); done))) | refine Imp.drop ?_)))))
  · have : i = k := by omega
    subst this
    refine e_condF ?_
    refine e_next1 m (by omega) (.ex a3 (.ex (acc ++ List.replicate i v) (.ex (qa2, qc2) (.all ?_))))
    (try simp only [List.cons_append, List.nil_append, -eq_self])
    have hle : (acc ++ List.replicate i v).length = acc.length + i := by rw [List.length_append, List.length_replicate]
    rw [hle]
    refine .pu ⟨by omega, hat3, hR, by omega, mem_rep h3 ⟨v0, v1⟩, rfl⟩ ?_
    exact .pick (by (repeat constructor)) (.pick (by (repeat constructor)) (.pick (by (repeat constructor)) .refl))
end Go.Proofs.Ytehfblkpbadikab.IF
/-! A block with codes of its own. No conditions but those that each names. -/
namespace Go.Proofs.Ytehfblkpbadikab.Sl
open Go Go.Proofs Go.RowKit Go.Proofs.Ytehfblkpbadikab.Sh
theorem v_slAh {P : Program} {W : World} {t e : TypeId} {s len : Nat} {g : Nat} {q : IntKind} {j : Int} (h : Nat) [ht : ArrT P t len e s] (hj : j = (h : Int)) (hl : h ≤ len) (h0 : 0 < len) : RunV P W [] (sSl t (.pointer (some ⟨g, 0, none⟩)) none (some (.int q j)) none) (.slice (some ⟨g, 0, none⟩) h len) := fun w _ => by
  have hne : len ≠ 0 := by omega
  simp [sSl, Instr.sliceAt, Instr.sliceBounds, ht.ut, ht.size, run_bound h hj hl, Instr.sureAddr, hne, Addr.add]
end Go.Proofs.Ytehfblkpbadikab.Sl
namespace Go.Proofs.Ytehfblkpbadikab.IF
open Go Go.Proofs Go.RowKit Go.Proofs.Ytehfblkpbadikab.Sh Go.Proofs.Ytehfblkpbadikab.Sl Go.Proofs.Ytehfblkpbadikab.T Go.Proofs.Ytehfblkpbadikab.HM Go.Proofs.Ytehfblkpbadikab.HF Go.Proofs.Ytehfblkpbadikab.B Go.Proofs.Ytehfblkpbadikab.M
def ordL : List Nat := [16, 17, 18, 0, 8, 7, 9, 6, 10, 5, 11, 4, 12, 3, 13, 2, 14, 1, 15]
/-- the lengths of the code of lengths -/
def mCl (b : List UInt8) : List Nat → Nat → List Int → Except Int (Nat × List Int)
  | [], at_, l => .ok (at_, l)
  | k :: ks, at_, l => if takR b at_ 3 ≠ 0 then .error (takR b at_ 3) else mCl b ks (takAt b at_ 3) (l.set k (takN b at_ 3 : Int))
theorem mCl_len (b : List UInt8) : ∀ (ks : List Nat) {at_ a : Nat} {l r : List Int}, mCl b ks at_ l = .ok (a, r) → r.length = l.length
  | [], at_, a, l, r, h => by
    have := Prod.mk.inj (Except.ok.inj h)
    rw [← this.2]
  | k :: ks, at_, a, l, r, h => by
    rw [mCl] at h
    have := mCl_len b ks (ite_err h).2
    rw [this, List.length_set]
def mBoth (b : List UInt8) (most : Int) (h n : Nat) (l : List Int) (at_ : Nat) (out : List UInt8) : Except Int (Nat × List UInt8) :=
  match mRw l b n at_ with
  | .error e => .error e
  | .ok (a5, r) =>
    if ¬ (0 < r.getD 256 0 ∧ enoughB (r.take h) = true ∧ enoughB (r.drop h) = true) then .error 30 else
    if ¬ okL (r.take h) then .error 30 else
    if ¬ okL (r.drop h) then .error 30 else mS (r.take h) (r.drop h) b most a5 out
def mDyn (b : List UInt8) (most : Int) (at_ : Nat) (out : List UInt8) : Except Int (Nat × List UInt8) :=
  if takR b at_ 5 ≠ 0 then .error (takR b at_ 5) else
  if takR b (takAt b at_ 5) 5 ≠ 0 then .error (takR b (takAt b at_ 5) 5) else
  if takR b (takAt b (takAt b at_ 5) 5) 4 ≠ 0 then .error (takR b (takAt b (takAt b at_ 5) 5) 4) else
  if ¬ (takN b at_ 5 ≤ 29 ∧ takN b (takAt b at_ 5) 5 ≤ 29) then .error 31 else
  match mCl b (ordL.take (takN b (takAt b (takAt b at_ 5) 5) 4 + 4)) (takAt b (takAt b (takAt b at_ 5) 5) 4) (List.replicate 19 0) with
  | .error e => .error e
  | .ok (a4, l) => if ¬ fullB l = true then .error 30 else mBoth b most (takN b at_ 5 + 257) (takN b at_ 5 + 257 + takN b (takAt b at_ 5) 5 + 1) l a4 out
theorem takN_lt {b : List UInt8} {at_ : Nat} {k : Nat} : takN b at_ k < 2 ^ k := by
  unfold takN
  split
  · have := tak_lt (ub b) at_ ((k : Int)).toNat
    rwa [Int.toNat_natCast] at this
  · exact Nat.pow_pos (by omega)
theorem dynamic {W : World} {p at_ : Nat} {b out : List UInt8} {most : Int} (h1 : 0 ≤ most ∧ most ≤ 1048576) (h2 : (out.length : Int) ≤ most) :
    CnP Try.prog 30 [.pointer (some ⟨p, 0, none⟩)] W [IsS p b at_ out most] (fun _ : Ok (mDyn b most at_ out) => .tuple #[]) (fun x => [IsS p b x.1.1 x.1.2 most]) (fun y : Er (mDyn b most at_ out) => pn y.1) (fun _ => []) := by
  (refine S.inflate_stream_dynamic_cnP fun F => ?_; unfold S.inflate_stream_dynamic; simp only [List.cons_append, List.nil_append, -eq_self])
  obtain ⟨R, hR⟩ : ∃ R, R = mDyn b most at_ out := ⟨_, rfl⟩
  rw [← hR]
  unfold mDyn at hR
  (refine' e_callP (stake) ?hp (fun _ => ?_) (fun _ => ?_); (case hp => (repeat (first | exact Picks.nil | (apply Picks.cons; (focus (repeat constructor)))))); (all_goals (try simp only [List.cons_append, List.nil_append, Bool.not_true, Bool.not_false, -eq_self])))
  rotate_left
  · rename_i y
    rw [if_pos y.2] at hR
    refine e_pan ⟨_, hR⟩ rfl ?_
    (repeat (first | exact Imp.refl | exact Imp.nil | (apply Imp.pick; (focus ((repeat constructor); done))) | refine Imp.drop ?_))
  rename_i x1
  rw [if_neg (fun c => c x1.2)] at hR
  have hh := takN_lt (b := b) (at_ := at_) (k := 5)
  obtain ⟨nh, hhE⟩ : ∃ h, h = takN b at_ 5 := ⟨_, rfl⟩
  obtain ⟨a1, ha1⟩ : ∃ a, a = takAt b at_ 5 := ⟨_, rfl⟩
  rw [← hhE, ← ha1] at hR
  rw [show (takN b at_ 5) = nh from hhE.symm, ← ha1]
  rw [show takN b at_ ((5 : Nat) : Int) = nh from hhE.symm] at hh
  (refine' e_callP (stake) ?hp (fun _ => ?_) (fun _ => ?_); (case hp => (repeat (first | exact Picks.nil | (apply Picks.cons; (focus (repeat constructor)))))); (all_goals (try simp only [List.cons_append, List.nil_append, Bool.not_true, Bool.not_false, -eq_self])))
  rotate_left
  · rename_i y
    rw [if_pos y.2] at hR
    refine e_pan ⟨_, hR⟩ rfl ?_
    (repeat (first | exact Imp.refl | exact Imp.nil | (apply Imp.pick; (focus ((repeat constructor); done))) | refine Imp.drop ?_))
  rename_i x2
  rw [if_neg (fun c => c x2.2)] at hR
  have hd := takN_lt (b := b) (at_ := a1) (k := 5)
  obtain ⟨nd, hdE⟩ : ∃ h, h = takN b a1 5 := ⟨_, rfl⟩
  obtain ⟨a2, ha2⟩ : ∃ a, a = takAt b a1 5 := ⟨_, rfl⟩
  rw [← hdE, ← ha2] at hR
  rw [show (takN b a1 5) = nd from hdE.symm, ← ha2]
  rw [show takN b a1 ((5 : Nat) : Int) = nd from hdE.symm] at hd
  (refine' e_callP (stake) ?hp (fun _ => ?_) (fun _ => ?_); (case hp => (repeat (first | exact Picks.nil | (apply Picks.cons; (focus (repeat constructor)))))); (all_goals (try simp only [List.cons_append, List.nil_append, Bool.not_true, Bool.not_false, -eq_self])))
  rotate_left
  · rename_i y
    rw [if_pos y.2] at hR
    refine e_pan ⟨_, hR⟩ rfl ?_
    (repeat (first | exact Imp.refl | exact Imp.nil | (apply Imp.pick; (focus ((repeat constructor); done))) | refine Imp.drop ?_))
  rename_i x3
  rw [if_neg (fun c => c x3.2)] at hR
  have hc := takN_lt (b := b) (at_ := a2) (k := 4)
  obtain ⟨c, hcE⟩ : ∃ h, h = takN b a2 4 := ⟨_, rfl⟩
  obtain ⟨a3, ha3⟩ : ∃ a, a = takAt b a2 4 := ⟨_, rfl⟩
  rw [← hcE, ← ha3] at hR
  rw [show (takN b a2 4) = c from hcE.symm, ← ha3]
  rw [show takN b a2 ((4 : Nat) : Int) = c from hcE.symm] at hc
  have hop : (out.length : Int) ≤ 1048576 := by omega
  refine e_opN v_leq Imp.nil ?_
  by_cases hq : nh ≤ 29 ∧ nd ≤ 29
  rotate_left
  · rw [if_pos hq] at hR
    by_cases hq1 : nh ≤ 29
    · rw [decide_eq_true (by omega)]
      ((with_reducible refine e_gdT ?_)); ((with_reducible refine e_gdT ?_))
      refine e_opN v_leq Imp.nil ?_
      rw [decide_eq_false (by omega)]
      (((with_reducible refine e_opN v_pickT Imp.nil ?_)))
      (refine' e_callP (demand) ?hp (fun _ => ?_) (fun _ => ?_); (case hp => (repeat (first | exact Picks.nil | (apply Picks.cons; (focus (repeat constructor)))))); (all_goals (try simp only [List.cons_append, List.nil_append, Bool.not_true, Bool.not_false, -eq_self])))
      · rename_i x
        exact absurd x.2 (by decide)
      · refine e_pan ⟨_, hR⟩ rfl ?_
        (repeat (first | exact Imp.refl | exact Imp.nil | (apply Imp.pick; (focus ((repeat constructor); done))) | refine Imp.drop ?_))
    · rw [decide_eq_false (by omega)]
      ((with_reducible refine e_gdF2 ?_)); ((with_reducible refine e_gdF2 ?_)); (((with_reducible refine e_opN v_pickF Imp.nil ?_)))
      (refine' e_callP (demand) ?hp (fun _ => ?_) (fun _ => ?_); (case hp => (repeat (first | exact Picks.nil | (apply Picks.cons; (focus (repeat constructor)))))); (all_goals (try simp only [List.cons_append, List.nil_append, Bool.not_true, Bool.not_false, -eq_self])))
      · rename_i x
        exact absurd x.2 (by decide)
      · refine e_pan ⟨_, hR⟩ rfl ?_
        (repeat (first | exact Imp.refl | exact Imp.nil | (apply Imp.pick; (focus ((repeat constructor); done))) | refine Imp.drop ?_))
  rw [if_neg (fun c => c hq)] at hR
  obtain ⟨hq1, hq2⟩ := hq
  rw [decide_eq_true (by omega)]
  ((with_reducible refine e_gdT ?_)); ((with_reducible refine e_gdT ?_))
  refine e_opN v_leq Imp.nil ?_
  rw [decide_eq_true (by omega)]
  (((with_reducible refine e_opN v_pickT Imp.nil ?_)))
  (refine' e_callP (demand) ?hp (fun _ => ?_) (fun _ => ?_); (case hp => (repeat (first | exact Picks.nil | (apply Picks.cons; (focus (repeat constructor)))))); (all_goals (try simp only [List.cons_append, List.nil_append, Bool.not_true, Bool.not_false, -eq_self])))
  rotate_left
  · rename_i y
    exact absurd y.2 (by decide)
  refine e_mksl 19 19 (by rfl) (by rfl) (by omega) (by omega) (by decide) fun gl => ?_
  (((with_reducible refine e_opN v_rv Imp.nil ?_))); (((with_reducible refine e_newA fun g => ?_))); (((with_reducible refine' e_stAgg ?hp ?hn ?hv ?h1 ?_); (case hp => (repeat constructor)); (case hn => rfl); (case hv => rfl); (case h1 => simp [Value.oneCell']))); (((with_reducible refine e_opN (v_add ?h1 ?h2) Imp.nil ?_); (case h1 => omega); (case h2 => omega)))
  refine e_opN (v_slAh (c + 4) (by omega) (by omega) (by omega)) Imp.nil ?_
  obtain ⟨K, hK⟩ : ∃ K, K = c + 4 := ⟨_, rfl⟩
  rw [← hK] at hR ⊢
  have hK19 : K ≤ 19 := by omega
  obtain ⟨M, hM⟩ : ∃ M, M = mCl b (ordL.take K) a3 (List.replicate 19 0) := ⟨_, rfl⟩
  rw [← hM] at hR
  (((with_reducible refine e_opN v_len Imp.nil ?_)))
  refine e_loop1 (fun m y => [ex fun i : Nat => ex fun at1 : Nat => ex fun l : List Int => all [pu (m + i = K ∧ y = .int .i64 (i : Int) ∧ M = mCl b ((ordL.take K).drop i) at1 l ∧ l.length = 19), pt g (.cells #[(.int .i64 16), (.int .i64 17), (.int .i64 18), (.int .i64 0), (.int .i64 8), (.int .i64 7), (.int .i64 9), (.int .i64 6), (.int .i64 10), (.int .i64 5), (.int .i64 11), (.int .i64 4), (.int .i64 12), (.int .i64 3), (.int .i64 13), (.int .i64 2), (.int .i64 14), (.int .i64 1), (.int .i64 15)] 87 (0, 0)), Sl 1 3 (some ⟨gl, 0, none⟩) 19 19 (l.map I), IsS p b at1 out most]] ++ F) K ?_ ?_
  · refine .ex 0 (.ex a3 (.ex (List.replicate 19 0) (.all ?_)))
    (try simp only [List.cons_append, List.nil_append, -eq_self])
    refine .pu ⟨by omega, rfl, hM, by simp⟩ ?_
    rw [List.map_replicate]
    exact .pick (by (repeat constructor)) (.pick (by (repeat constructor)) (.pick (by (repeat constructor)) .refl))
  clear hM
  intro m ds y
  (try simp only [List.cons_append, List.nil_append, -eq_self])
  refine e_ex Pick.here fun i => e_ex Pick.here fun at1 => e_ex Pick.here fun l => e_all Pick.here ?_
  (try simp only [List.cons_append, List.nil_append, -eq_self])
  refine e_pu Pick.here fun hi => ?_
  obtain ⟨hmi, rfl, hM, hl19⟩ := hi
  (refine e_ask v_lss Imp.nil (fun h => ?_) (fun h => ?_))
  · have hiK : i < K := by omega
    have hog : (ordL.take K).drop i = ordL.getD i 0 :: (ordL.take K).drop (i + 1) := by
      have hlen : i < (ordL.take K).length := by rw [List.length_take, show ordL.length = 19 from rfl]; omega
      rw [List.drop_eq_getElem_cons hlen, List.getElem_take, List.getD_eq_getElem?_getD, List.getElem?_eq_getElem]
      rfl
    rw [hog, mCl] at hM
    obtain ⟨o, ho⟩ : ∃ o, o = ordL.getD i 0 := ⟨_, rfl⟩
    rw [← ho] at hM
    have hov : (#[(.int .i64 16), (.int .i64 17), (.int .i64 18), (.int .i64 0), (.int .i64 8), (.int .i64 7), (.int .i64 9), (.int .i64 6), (.int .i64 10), (.int .i64 5), (.int .i64 11), (.int .i64 4), (.int .i64 12), (.int .i64 3), (.int .i64 13), (.int .i64 2), (.int .i64 14), (.int .i64 1), (.int .i64 15)] : Array Value)[0 + i]? = some (.int .i64 (o : Int)) ∧ o < 19 := by
      rw [ho]
      have : i = 0 ∨ i = 1 ∨ i = 2 ∨ i = 3 ∨ i = 4 ∨ i = 5 ∨ i = 6 ∨ i = 7 ∨ i = 8 ∨ i = 9 ∨ i = 10 ∨ i = 11 ∨ i = 12 ∨ i = 13 ∨ i = 14 ∨ i = 15 ∨ i = 16 ∨ i = 17 ∨ i = 18 := by omega
      rcases this with rfl | rfl | rfl | rfl | rfl | rfl | rfl | rfl | rfl | rfl | rfl | rfl | rfl | rfl | rfl | rfl | rfl | rfl | rfl <;> exact ⟨rfl, by decide⟩
    refine e_condT ?_
    refine e_opN (v_ia1 i (by rfl) hiK) Imp.nil ?_
    refine e_opN (v_ld hov.1) (.pick (by (repeat constructor)) .nil) ?_
    (refine' e_callP (stake) ?hp (fun _ => ?_) (fun _ => ?_); (case hp => (repeat (first | exact Picks.nil | (apply Picks.cons; (focus (repeat constructor)))))); (all_goals (try simp only [List.cons_append, List.nil_append, Bool.not_true, Bool.not_false, -eq_self])))
    rotate_left
    · rename_i y
      rw [if_pos y.2] at hM
      rw [hM] at hR
      refine e_pan ⟨_, hR⟩ rfl ?_
      (repeat (first | exact Imp.refl | exact Imp.nil | (apply Imp.pick; (focus ((repeat constructor); done))) | refine Imp.drop ?_))
    rename_i x4
    rw [if_neg (fun c => c x4.2)] at hM
    refine e_opN (v_ia1 o (by rfl) (by omega)) Imp.nil ?_
    rw [Nat.zero_add]
    refine e_stSl (by (repeat constructor)) (by rw [List.length_map]; omega) ?_
    (((with_reducible refine e_opN (v_add ?h1 ?h2) Imp.nil ?_); (case h1 => omega); (case h2 => omega)))
    refine e_next1 (m - 1) (by omega) (.ex (i + 1) (.ex (takAt b at1 3) (.ex (l.set o (takN b at1 3 : Int)) (.all ?_))))
    (try simp only [List.cons_append, List.nil_append, -eq_self])
    refine .pu ⟨by omega, rfl, hM, by rw [List.length_set]; omega⟩ ?_
    rw [List.map_set]
    exact .pick (by (repeat constructor)) (.pick (by (repeat constructor)) (.pick (by (repeat constructor)) .refl))
  have hiK : i = K := by omega
  subst hiK
  rw [List.drop_eq_nil_of_le (by rw [List.length_take]; omega), mCl] at hM
  rw [hM] at hR
  simp only at hR
  refine e_condF ?_
  have hsl : RdB W (Sl 1 3 (some ⟨gl, 0, none⟩) 19 19 (l.map I)) (some ⟨gl, 0, none⟩) l.length (l.map I) := by
    rw [hl19]; exact rd_sl (by rw [List.length_map, hl19]) (fun _ => ⟨gl, rfl⟩)
  rw [show (Value.slice (some ⟨gl, 0, none⟩) 19 19) = .slice (some ⟨gl, 0, none⟩) l.length 19 by rw [hl19]]
  (refine' e_call (full hsl (by omega)) ?hp fun _ => ?_; (case hp => (repeat (first | exact Picks.nil | (apply Picks.cons; (focus (repeat constructor)))))); (try simp only [List.cons_append, List.nil_append, Bool.not_true, Bool.not_false]))
  (refine' e_callP (demand) ?hp (fun _ => ?_) (fun _ => ?_); (case hp => (repeat (first | exact Picks.nil | (apply Picks.cons; (focus (repeat constructor)))))); (all_goals (try simp only [List.cons_append, List.nil_append, Bool.not_true, Bool.not_false, -eq_self])))
  rotate_left
  · rename_i y
    rw [if_pos (by rw [y.2]; decide)] at hR
    refine e_pan ⟨_, hR⟩ rfl ?_
    (repeat (first | exact Imp.refl | exact Imp.nil | (apply Imp.pick; (focus ((repeat constructor); done))) | refine Imp.drop ?_))
  rename_i x5
  rw [if_neg (fun c => c x5.2)] at hR
  (refine' e_callP (decoder hsl (by omega)) ?hp (fun _ => ?_) (fun _ => ?_); (case hp => (repeat (first | exact Picks.nil | (apply Picks.cons; (focus (repeat constructor)))))); (all_goals (try simp only [List.cons_append, List.nil_append, Bool.not_true, Bool.not_false, -eq_self])))
  rotate_left
  · rename_i y
    have hf := x5.2
    unfold fullB at hf
    exact absurd (of_decide_eq_true (Bool.and_eq_true _ _ ▸ hf).1) y.2
  rename_i x6
  (((with_reducible refine e_opN (v_add ?h1 ?h2) Imp.nil ?_); (case h1 => omega); (case h2 => omega))); (((with_reducible refine e_opN (v_add ?h1 ?h2) Imp.nil ?_); (case h1 => omega); (case h2 => omega))); (((with_reducible refine e_opN (v_add ?h1 ?h2) Imp.nil ?_); (case h1 => omega); (case h2 => omega)))
  rw [show (nh : Int) + 257 + nd + 1 = ((nh + 257 + nd + 1 : Nat) : Int) by omega]
  unfold mBoth at hR
  (refine' e_callP (row (l := l) (out := out) (by omega) (by omega) (by omega)) ?hp (fun _ => ?_) (fun _ => ?_); (case hp => (repeat (first | exact Picks.nil | (apply Picks.cons; (focus (repeat constructor)))))); (all_goals (try simp only [List.cons_append, List.nil_append, Bool.not_true, Bool.not_false, -eq_self])))
  rotate_left
  · rename_i y
    rw [y.2] at hR
    refine e_pan ⟨_, hR⟩ rfl ?_
    (repeat (first | exact Imp.refl | exact Imp.nil | (apply Imp.pick; (focus ((repeat constructor); done))) | refine Imp.drop ?_))
  rename_i q
  obtain ⟨⟨⟨a5, r⟩, hrow⟩, ra, rc⟩ := q
  rw [hrow] at hR
  simp only at hR
  (try dsimp only)
  obtain ⟨hrl, hrb⟩ := mRow_ok (B := 320) (by omega) _ hrow (by simp) (by simp)
  obtain ⟨n, hn⟩ : ∃ n, n = nh + 257 + nd + 1 := ⟨_, rfl⟩
  obtain ⟨k, hk⟩ : ∃ n, n = nh + 257 := ⟨_, rfl⟩
  rw [← hk] at hR
  rw [← hn] at hrl ⊢
  refine e_slfacts (.there .here) fun f1 f2 f3 f4 => ?_
  obtain ⟨gr, rfl⟩ := f4 (by omega)
  have f4 : 0 < n → ∃ g', some (⟨gr, 0, none⟩ : Addr) = some ⟨g', 0, none⟩ := fun _ => ⟨gr, rfl⟩
  have hrd := rd_sl (W := W) (e := 3) (cap := rc) (cs := r.map I) (n := n) (by rw [List.length_map, hrl]) f4
  have hA0 : Option.map (fun x : Addr => x.add (0 * 1)) (some ⟨gr, 0, none⟩) = some ⟨gr, 0, none⟩ := by simp [addr_add]
  have hAk : Option.map (fun x : Addr => x.add (k * 1)) (some ⟨gr, 0, none⟩) = some ⟨gr, k, none⟩ := by simp [addr_add]
  have hla : (r.take k).length = k := by rw [List.length_take]; omega
  have hlb : (r.drop k).length = n - k := by rw [List.length_drop, hrl]
  have hRa := hrd.cut (l := 0) (h := k) (cap := rc) (by omega) (by omega) f2
  rw [if_neg (by omega), hA0, List.drop_zero, ← List.map_take, Nat.sub_zero] at hRa
  have hRb := hrd.cut (l := k) (h := n) (cap := rc) (by omega) (by omega) f2
  rw [if_neg (by omega), hAk, List.take_of_length_le (by rw [List.length_drop, List.length_map]; omega), ← List.map_drop] at hRb
  have hba : ∀ x ∈ r.take k, x ≤ 1048576 := fun x hx => by have := (hrb x (List.mem_of_mem_take hx)).2; omega
  have hbb : ∀ x ∈ r.drop k, x ≤ 1048576 := fun x hx => by have := (hrb x (List.mem_of_mem_drop hx)).2; omega
  ((with_reducible refine e_drS ?_)); (((with_reducible refine e_stS (v_add ?h1 ?h2) Imp.nil ?_); (case h1 => omega); (case h2 => omega)))
  rw [show (nh : Int) + 257 = (k : Int) by omega]
  refine e_stS (v_slh k (by rfl) (by omega)) Imp.nil ?_
  rw [if_neg (by omega), hA0]
  (((with_reducible refine e_stS (v_add ?h1 ?h2) Imp.nil ?_); (case h1 => omega); (case h2 => omega)))
  rw [show (nh : Int) + 257 = (k : Int) by omega]
  refine e_stS (v_sll k (by rfl) (by omega)) Imp.nil ?_
  rw [if_neg (by omega), hAk]
  have h256 : 256 < r.length := by omega
  refine e_opN (v_ia1 256 (by rfl) (by omega)) Imp.nil ?_
  refine e_opN (v_ldSl (v := I r[256]) (by rw [Nat.zero_add]; exact I_get h256)) (.pick (by (repeat constructor)) .nil) ?_
  refine e_opN v_gtr Imp.nil ?_
  have hg : r.getD 256 0 = r[256] := by rw [List.getD_eq_getElem?_getD, List.getElem?_eq_getElem h256]; rfl
  rw [hg] at hR
  rw [← hlb] at hRb
  have hlbn := hlb
  rw [← hlb]
  obtain ⟨la, hlaE⟩ : ∃ la, la = r.take k := ⟨_, rfl⟩
  obtain ⟨lb, hlbE⟩ : ∃ lb, lb = r.drop k := ⟨_, rfl⟩
  rw [← hlaE] at hR hRa hba hla
  rw [← hlbE] at hR hRb hbb hlbn ⊢
  rw [← hla] at hRa hRb ⊢
  have fin0 : ∀ (L : List HP) (kk : Value → WP), Imp W L F → ¬ ((0 : Int) < r[256] ∧ enoughB la = true ∧ enoughB lb = true) → Ent W L (opN Try.prog (sCall (fn 35) [.bool false, .int .i64 30]) (fun ch w => ∃ y : Er R, ch = pn y.1 ∧ sat W F w) kk) := by
    intro L kk hi hn
    rw [if_pos hn] at hR
    refine e_imp hi ?_
    refine e_callP (A := []) (F := F) demand .nil (fun x => ?_) (fun y => ?_)
    · exact absurd x.2 (by decide)
    · refine e_pan ⟨_, hR⟩ rfl ?_
      exact .refl
  by_cases hc1 : 0 < r[256]
  rotate_left
  · rw [decide_eq_false (by omega)]
    ((with_reducible refine e_gdF2 ?_)); ((with_reducible refine e_gdF2 ?_)); (((with_reducible refine e_opN v_pickF Imp.nil ?_))); ((with_reducible refine e_gdF2 ?_)); ((with_reducible refine e_gdF2 ?_)); (((with_reducible refine e_opN v_pickF Imp.nil ?_)))
    exact fin0 _ _ (by (repeat (first | exact Imp.refl | exact Imp.nil | (apply Imp.pick; (focus ((repeat constructor); done))) | refine Imp.drop ?_))) (fun c => hc1 c.1)
  rw [decide_eq_true (by omega)]
  ((with_reducible refine e_gdT ?_)); ((with_reducible refine e_gdT ?_))
  (refine' e_call (enough hRa (by omega) hba) ?hp fun _ => ?_; (case hp => (repeat (first | exact Picks.nil | (apply Picks.cons; (focus (repeat constructor)))))); (try simp only [List.cons_append, List.nil_append, Bool.not_true, Bool.not_false]))
  by_cases hc2 : enoughB la = true
  rotate_left
  · rw [show enoughB la = false by simpa using hc2]
    (((with_reducible refine e_opN v_pickT Imp.nil ?_))); ((with_reducible refine e_gdF2 ?_)); ((with_reducible refine e_gdF2 ?_)); (((with_reducible refine e_opN v_pickF Imp.nil ?_)))
    exact fin0 _ _ (by (repeat (first | exact Imp.refl | exact Imp.nil | (apply Imp.pick; (focus ((repeat constructor); done))) | refine Imp.drop ?_))) (fun c => hc2 c.2.1)
  rw [hc2]
  (((with_reducible refine e_opN v_pickT Imp.nil ?_))); ((with_reducible refine e_gdT ?_)); ((with_reducible refine e_gdT ?_))
  (refine' e_call (enough hRb (by omega) hbb) ?hp fun _ => ?_; (case hp => (repeat (first | exact Picks.nil | (apply Picks.cons; (focus (repeat constructor)))))); (try simp only [List.cons_append, List.nil_append, Bool.not_true, Bool.not_false]))
  by_cases hc3 : enoughB lb = true
  rotate_left
  · rw [show enoughB lb = false by simpa using hc3]
    (((with_reducible refine e_opN v_pickT Imp.nil ?_)))
    exact fin0 _ _ (by (repeat (first | exact Imp.refl | exact Imp.nil | (apply Imp.pick; (focus ((repeat constructor); done))) | refine Imp.drop ?_))) (fun c => hc3 c.2.2)
  rw [hc3]
  (((with_reducible refine e_opN v_pickT Imp.nil ?_)))
  (refine' e_callP (demand) ?hp (fun _ => ?_) (fun _ => ?_); (case hp => (repeat (first | exact Picks.nil | (apply Picks.cons; (focus (repeat constructor)))))); (all_goals (try simp only [List.cons_append, List.nil_append, Bool.not_true, Bool.not_false, -eq_self])))
  rotate_left
  · rename_i y
    exact absurd y.2 (by decide)
  rw [if_neg (fun c => c ⟨hc1, hc2, hc3⟩)] at hR
  (refine' e_callP (decoder hRa (by omega)) ?hp (fun _ => ?_) (fun _ => ?_); (case hp => (repeat (first | exact Picks.nil | (apply Picks.cons; (focus (repeat constructor)))))); (all_goals (try simp only [List.cons_append, List.nil_append, Bool.not_true, Bool.not_false, -eq_self])))
  rotate_left
  · rename_i y
    rw [if_pos y.2] at hR
    refine e_pan ⟨_, hR⟩ rfl ?_
    (repeat (first | exact Imp.refl | exact Imp.nil | (apply Imp.pick; (focus ((repeat constructor); done))) | refine Imp.drop ?_))
  rename_i x8
  rw [if_neg (fun c => c x8.2)] at hR
  (refine' e_callP (decoder hRb (by omega)) ?hp (fun _ => ?_) (fun _ => ?_); (case hp => (repeat (first | exact Picks.nil | (apply Picks.cons; (focus (repeat constructor)))))); (all_goals (try simp only [List.cons_append, List.nil_append, Bool.not_true, Bool.not_false, -eq_self])))
  rotate_left
  · rename_i y
    rw [if_pos y.2] at hR
    refine e_pan ⟨_, hR⟩ rfl ?_
    (repeat (first | exact Imp.refl | exact Imp.nil | (apply Imp.pick; (focus ((repeat constructor); done))) | refine Imp.drop ?_))
  rename_i x9
  rw [if_neg (fun c => c x9.2)] at hR
  rw [hR]
  (refine' e_callP (symbols (by have := x8.2.len; omega) (by have := x9.2.len; omega) h1 h2) ?hp (fun _ => ?_) (fun _ => ?_); (case hp => (repeat (first | exact Picks.nil | (apply Picks.cons; (focus (repeat constructor)))))); (all_goals (try simp only [List.cons_append, List.nil_append, Bool.not_true, Bool.not_false, -eq_self])))
  · rename_i x
    (first | refine e_ret (x) rfl ?_ | refine e_retT (x) ?_)
    (repeat (first | exact Imp.refl | exact Imp.nil | (apply Imp.pick; (focus ((repeat constructor); done))) | refine Imp.drop ?_))
  · rename_i y
    refine e_pan y rfl ?_
    (repeat (first | exact Imp.refl | exact Imp.nil | (apply Imp.pick; (focus ((repeat constructor); done))) | refine Imp.drop ?_))
end Go.Proofs.Ytehfblkpbadikab.IF
/-! Interfaces that hold a named number: whether nil, what they hold. No conditions but those that each names. -/
namespace Go.Proofs.Ytehfblkpbadikab.Sl
open Go Go.Proofs.Ytehfblkpbadikab.Sh
variable {P : Program} {W : World}
instance {f : FuncId} : OC (fn f) := ⟨rfl⟩
theorem v_neIf {t u : TypeId} {ox oy : Operand} {x : Value} (h : P.underlying t = some (.interface (P.methodsAt t))) : RunV P W [] (sEq .neq t ox oy (.iface u x) .nilIface) (.bool true) := fun w _ => by
  simp [sEq, sv, eqGuard, run_neq_held_nil w t u x h]
theorem v_neIf0 {t : TypeId} {ox : Operand} {c : Value} (h : P.underlying t = some (.interface (P.methodsAt t))) : RunV P W [] (sEq .neq t ox (.const c) .nilIface .nilIface) (.bool false) := fun w _ => by
  simp [sEq, sv, eqGuard, run_neq_nil_nil w t h]
theorem v_ta {t a : TypeId} {k : IntKind} {v : Value} (h : P.underlying a = some (.int k)) : RunV P W [] (sTA (.iface a v) t a false) v := fun w _ => by
  simp [sTA, Instr.typeAssert, run_underlying h]
end Go.Proofs.Ytehfblkpbadikab.Sl
/-! A stream's blocks, one behind the other; what is given up is told. No conditions but those that each names. -/
namespace Go.Proofs.Ytehfblkpbadikab.IF
open Go Go.Proofs Go.RowKit Go.Proofs.Ytehfblkpbadikab.Sh Go.Proofs.Ytehfblkpbadikab.Sl Go.Proofs.Ytehfblkpbadikab.T Go.Proofs.Ytehfblkpbadikab.HM Go.Proofs.Ytehfblkpbadikab.HF Go.Proofs.Ytehfblkpbadikab.B Go.Proofs.Ytehfblkpbadikab.M
/-- a block of a kind -/
def mKind (k : Nat) (b : List UInt8) (most : Int) (at_ : Nat) (out : List UInt8) : Except Int (Nat × List UInt8) :=
  if k = 0 then mStored b most at_ out else if k = 1 then mS litL dstL b most at_ out else if k = 2 then mDyn b most at_ out else .error 31
theorem none_ {W : World} {p at_ : Nat} {b out : List UInt8} {most : Int} : CnP Try.prog 31 [.pointer (some ⟨p, 0, none⟩)] W [IsS p b at_ out most] (fun _ : Ok (mKind 3 b most at_ out) => .tuple #[]) (fun x => [IsS p b x.1.1 x.1.2 most]) (fun y : Er (mKind 3 b most at_ out) => pn y.1) (fun _ => []) := by
  (refine S.inflate_stream_none_cnP fun F => ?_; unfold S.inflate_stream_none; simp only [List.cons_append, List.nil_append, -eq_self])
  refine e_opN v_mkI Imp.nil ?_
  refine e_panic ?_
  refine e_pan ⟨31, rfl⟩ rfl ?_
  (repeat (first | exact Imp.refl | exact Imp.nil | (apply Imp.pick; (focus ((repeat constructor); done))) | refine Imp.drop ?_))
/-- the blocks that are left -/
def mLoop (b : List UInt8) (most : Int) : Nat → Nat → List UInt8 → List (Int × Int) → Except Int (Nat × List UInt8 × List (Int × Int))
  | 0, _, _, _ => .error 20
  | f + 1, at_, out, l =>
    if takR b at_ 1 ≠ 0 then .error (takR b at_ 1) else
    if takR b (takAt b at_ 1) 2 ≠ 0 then .error (takR b (takAt b at_ 1) 2) else
    match mKind (takN b (takAt b at_ 1) 2) b most (takAt b (takAt b at_ 1) 2) out with
    | .error e => .error e
    | .ok (a, o) => if takN b at_ 1 = 0 then mLoop b most f a o (l ++ [((takN b (takAt b at_ 1) 2 : Int), (o.length : Int) - (out.length : Int))]) else .ok (a, o, l ++ [((takN b (takAt b at_ 1) 2 : Int), (o.length : Int) - (out.length : Int))])
/-- all of a stream -/
def mAll (b : List UInt8) (most : Int) : Except Int (Nat × List UInt8 × List (Int × Int)) :=
  if most < 0 ∨ 1048576 < most then .error 1 else if 1048576 < b.length then .error 6 else mLoop b most (8 * b.length + 1) 0 [] []
def aO (b : List UInt8) (most : Int) : List UInt8 := match mAll b most with
  | .ok x => x.2.1
  | .error _ => []
def aL (b : List UInt8) (most : Int) : List (Int × Int) := match mAll b most with
  | .ok x => x.2.2
  | .error _ => []
def aU (b : List UInt8) (most : Int) : Int := match mAll b most with
  | .ok x => (b.length : Int) - (8 * (b.length : Int) - x.1) / 8
  | .error _ => 0
def aE (b : List UInt8) (most : Int) : Int := match mAll b most with
  | .ok _ => 0
  | .error e => e
def blk (x : Int × Int) : List Value := [I x.1, I x.2]
theorem mStored_ok {b : List UInt8} {most : Int} {at_ : Nat} {out : List UInt8} {a : Nat} {o : List UInt8} (h : mStored b most at_ out = .ok (a, o)) (h0 : (out.length : Int) ≤ most) : (o.length : Int) ≤ most := by
  unfold mStored at h
  obtain ⟨_, h⟩ := ite_err h
  obtain ⟨_, h⟩ := ite_err h
  obtain ⟨_, h⟩ := ite_err h
  obtain ⟨c, h⟩ := ite_err h
  obtain ⟨_, h⟩ := ite_err h
  have := (Prod.mk.inj (Except.ok.inj h)).2
  rw [← this, List.length_append]
  have hle : (rrB b (takAt b (takAt b ((at_ + 7) / 8 * 8) 16) 16) (takN b ((at_ + 7) / 8 * 8) 16 : Int)).length ≤ takN b ((at_ + 7) / 8 * 8) 16 := by unfold rrB; split; (rw [List.length_take]; omega); simp
  omega
theorem mDyn_ok {b : List UInt8} {most : Int} {at_ : Nat} {out : List UInt8} {a : Nat} {o : List UInt8} (h : mDyn b most at_ out = .ok (a, o)) (h0 : (out.length : Int) ≤ most) : (o.length : Int) ≤ most := by
  unfold mDyn at h
  obtain ⟨_, h⟩ := ite_err h
  obtain ⟨_, h⟩ := ite_err h
  obtain ⟨_, h⟩ := ite_err h
  obtain ⟨_, h⟩ := ite_err h
  split at h
  · cases h
  · obtain ⟨_, h⟩ := ite_err h
    unfold mBoth at h
    split at h
    · cases h
    · obtain ⟨_, h⟩ := ite_err h
      obtain ⟨_, h⟩ := ite_err h
      obtain ⟨_, h⟩ := ite_err h
      exact mSyms_ok _ h h0
theorem mKind_ok {k : Nat} {b : List UInt8} {most : Int} {at_ : Nat} {out : List UInt8} {a : Nat} {o : List UInt8} (h : mKind k b most at_ out = .ok (a, o)) (h0 : (out.length : Int) ≤ most) : (o.length : Int) ≤ most := by
  unfold mKind at h
  split at h
  · exact mStored_ok h h0
  split at h
  · exact mSyms_ok _ h h0
  split at h
  · exact mDyn_ok h h0
  · cases h
theorem rrAt_le (b : List UInt8) (at_ : Nat) (k : Int) : at_ ≤ rrAt b at_ k := by unfold rrAt; split <;> omega
theorem mStored_at {b : List UInt8} {most : Int} {at_ : Nat} {out : List UInt8} {a : Nat} {o : List UInt8} (h : mStored b most at_ out = .ok (a, o)) : at_ ≤ a := by
  unfold mStored at h
  obtain ⟨_, h⟩ := ite_err h
  obtain ⟨_, h⟩ := ite_err h
  obtain ⟨_, h⟩ := ite_err h
  obtain ⟨c, h⟩ := ite_err h
  obtain ⟨_, h⟩ := ite_err h
  have := (Prod.mk.inj (Except.ok.inj h)).1
  have l1 := takAt_le b ((at_ + 7) / 8 * 8) 16
  have l2 := takAt_le b (takAt b ((at_ + 7) / 8 * 8) 16) 16
  have l3 := rrAt_le b (takAt b (takAt b ((at_ + 7) / 8 * 8) 16) 16) (takN b ((at_ + 7) / 8 * 8) 16 : Int)
  omega
theorem mRound_at {la lb : List Int} {b : List UInt8} {most : Int} {at_ : Nat} {out : List UInt8} {t : Bool} {a : Nat} {o : List UInt8} (h : mRound la lb b most at_ out = .ok (t, a, o)) : at_ ≤ a := by
  have ho : ∀ {t' : Bool} {a' : Nat} {o' : List UInt8}, (Except.ok (t', a', o') : Except Int (Bool × Nat × List UInt8)) = .ok (t, a, o) → a' = a := fun e => (Prod.mk.inj (Prod.mk.inj (Except.ok.inj e)).2).1
  have n1 := (nxt_at la b at_).1
  unfold mRound at h
  simp only at h
  obtain ⟨_, h⟩ := ite_err h
  by_cases c1 : (nxt la b at_).1 = 256
  · rw [if_pos c1] at h
    rw [← ho h]; exact n1
  rw [if_neg c1] at h
  by_cases c2 : (nxt la b at_).1 < 256
  · rw [if_pos c2] at h
    obtain ⟨c3, h⟩ := ite_err h
    rw [← ho h]; exact n1
  rw [if_neg c2] at h
  obtain ⟨_, h⟩ := ite_err h
  obtain ⟨_, h⟩ := ite_err h
  obtain ⟨_, h⟩ := ite_err h
  obtain ⟨_, h⟩ := ite_err h
  obtain ⟨_, h⟩ := ite_err h
  obtain ⟨_, h⟩ := ite_err h
  obtain ⟨c3, h⟩ := ite_err h
  rw [← ho h]
  have l1 := takAt_le b (nxt la b at_).2.2 (bL (nxt la b at_).1).2
  have l2 := (nxt_at lb b (takAt b (nxt la b at_).2.2 (bL (nxt la b at_).1).2)).1
  have l3 := takAt_le b (nxt lb b (takAt b (nxt la b at_).2.2 (bL (nxt la b at_).1).2)).2.2 (bD (nxt lb b (takAt b (nxt la b at_).2.2 (bL (nxt la b at_).1).2)).1).2
  exact Nat.le_trans n1 (Nat.le_trans l1 (Nat.le_trans l2 l3))
theorem mSyms_at {la lb : List Int} {b : List UInt8} {most : Int} : ∀ (f : Nat) {at_ : Nat} {out : List UInt8} {a : Nat} {o : List UInt8}, mSyms la lb b most f at_ out = .ok (a, o) → at_ ≤ a
  | 0, _, _, _, _, h => by cases h
  | f + 1, at_, out, a, o, h => by
    rw [mSyms] at h
    split at h
    · cases h
    · rename_i hr
      cases h
      exact mRound_at hr
    · rename_i hr
      exact Nat.le_trans (mRound_at hr) (mSyms_at f h)
theorem mCl_at (b : List UInt8) : ∀ (ks : List Nat) {at_ a : Nat} {l r : List Int}, mCl b ks at_ l = .ok (a, r) → at_ ≤ a
  | [], at_, a, l, r, h => by
    have := Prod.mk.inj (Except.ok.inj h)
    omega
  | k :: ks, at_, a, l, r, h => by
    rw [mCl] at h
    exact Nat.le_trans (takAt_le b at_ 3) (mCl_at b ks (ite_err h).2)
theorem mRun_at {l : List Int} {b : List UInt8} {at_ : Nat} {acc : List Int} {v t : Int} {a : Nat} (h : mRun l b at_ acc = .ok (v, t, a)) : at_ ≤ a := by
  have ho : ∀ {v' t' : Int} {a' : Nat}, (Except.ok (v', t', a') : Except Int (Int × Int × Nat)) = .ok (v, t, a) → a' = a := fun e => (Prod.mk.inj (Prod.mk.inj (Except.ok.inj e)).2).2
  have n1 := (nxt_at l b at_).1
  unfold mRun at h
  simp only at h
  obtain ⟨c0, h⟩ := ite_err h
  by_cases c1 : (nxt l b at_).1 = 16
  · rw [if_pos c1] at h
    obtain ⟨_, h⟩ := ite_err h
    obtain ⟨c2, h⟩ := ite_err h
    have hle := takAt_le b (nxt l b at_).2.2 2
    rw [← ho h]; omega
  rw [if_neg c1] at h
  by_cases c2 : (nxt l b at_).1 = 17
  · rw [if_pos c2] at h
    obtain ⟨_, h⟩ := ite_err h
    have hle := takAt_le b (nxt l b at_).2.2 3
    rw [← ho h]; omega
  rw [if_neg c2] at h
  by_cases c3 : (nxt l b at_).1 = 18
  · rw [if_pos c3] at h
    obtain ⟨_, h⟩ := ite_err h
    have hle := takAt_le b (nxt l b at_).2.2 7
    rw [← ho h]; omega
  rw [if_neg c3] at h
  rw [← ho h]; omega
theorem mRow_at {l : List Int} {b : List UInt8} {n : Nat} : ∀ (f : Nat) {at_ : Nat} {acc : List Int} {a : Nat} {r : List Int}, mRow l b n f at_ acc = .ok (a, r) → at_ ≤ a
  | 0, _, _, _, _, h => by cases h
  | f + 1, at_, acc, a, r, h => by
    rw [mRow] at h
    by_cases c : acc.length < n
    · rw [if_pos c] at h
      cases hr : mRun l b at_ acc with
      | error e => rw [hr] at h; cases h
      | ok q =>
        obtain ⟨v, t, a1⟩ := q
        rw [hr] at h
        simp only at h
        obtain ⟨c1, h⟩ := ite_err h
        exact Nat.le_trans (mRun_at hr) (mRow_at f h)
    · rw [if_neg c] at h
      have := Prod.mk.inj (Except.ok.inj h)
      omega
theorem mDyn_at {b : List UInt8} {most : Int} {at_ : Nat} {out : List UInt8} {a : Nat} {o : List UInt8} (h : mDyn b most at_ out = .ok (a, o)) : at_ ≤ a := by
  have l1 := takAt_le b at_ 5
  have l2 := takAt_le b (takAt b at_ 5) 5
  have l3 := takAt_le b (takAt b (takAt b at_ 5) 5) 4
  unfold mDyn at h
  obtain ⟨_, h⟩ := ite_err h
  obtain ⟨_, h⟩ := ite_err h
  obtain ⟨_, h⟩ := ite_err h
  obtain ⟨_, h⟩ := ite_err h
  split at h
  · cases h
  · rename_i hc
    have l4 := mCl_at b _ hc
    obtain ⟨_, h⟩ := ite_err h
    unfold mBoth at h
    split at h
    · cases h
    · rename_i hr
      have l5 := mRow_at _ hr
      obtain ⟨_, h⟩ := ite_err h
      obtain ⟨_, h⟩ := ite_err h
      obtain ⟨_, h⟩ := ite_err h
      have l6 := mSyms_at _ h
      omega
theorem mKind_at {k : Nat} {b : List UInt8} {most : Int} {at_ : Nat} {out : List UInt8} {a : Nat} {o : List UInt8} (h : mKind k b most at_ out = .ok (a, o)) : at_ ≤ a := by
  unfold mKind at h
  split at h
  · exact mStored_at h
  split at h
  · exact mSyms_at _ h
  split at h
  · exact mDyn_at h
  · cases h
def kf (k : Nat) : FuncId := if k = 0 then 28 else if k = 1 then 29 else if k = 2 then 30 else 31
theorem kind {W : World} {p at_ k : Nat} {b out : List UInt8} {most : Int} (hk : k < 4) (h1 : 0 ≤ most ∧ most ≤ 1048576) (h2 : (out.length : Int) ≤ most) :
    CnP Try.prog (kf k) [.pointer (some ⟨p, 0, none⟩)] W [IsS p b at_ out most] (fun _ : Ok (mKind k b most at_ out) => .tuple #[]) (fun x => [IsS p b x.1.1 x.1.2 most]) (fun y : Er (mKind k b most at_ out) => pn y.1) (fun _ => []) := by
  have : k = 0 ∨ k = 1 ∨ k = 2 ∨ k = 3 := by omega
  rcases this with rfl | rfl | rfl | rfl
  · exact stored (by omega) (by omega)
  · exact fixed h1 h2
  · exact dynamic h1 h2
  · exact none_
/-- what is given up is told by its number -/
theorem fails {W : World} {F : List HP} {g4 g5 g6 g7 : Nat} {v4 v5 v6 v7 : Value} {e : Int} {K : Value → WP} {Kq : PK}
    (h : Ent W (pt g4 (.cells #[.slice none 0 0] 27) :: pt g5 (.cells #[.slice none 0 0] 60) :: pt g6 (.cells #[.int .i64 0] 3) :: pt g7 (.cells #[.int .i64 e] 28) :: F) (K (.tuple #[.slice none 0 0, .slice none 0 0, .int .i64 0, .int .i64 e]))) :
    Ent W (pt g4 (.cells #[v4] 27) :: pt g5 (.cells #[v5] 60) :: pt g6 (.cells #[v6] 3) :: pt g7 (.cells #[v7] 28) :: F)
      (KpD Try.prog { target := .fn (.func 26) ([.pointer (some ⟨g4, 0, none⟩), .pointer (some ⟨g5, 0, none⟩), .pointer (some ⟨g6, 0, none⟩), .pointer (some ⟨g7, 0, none⟩)] : List Value).toArray, args := ([] : List Value).toArray } (S.inflate_all_ret (.pointer (some ⟨g4, 0, none⟩)) (.pointer (some ⟨g5, 0, none⟩)) (.pointer (some ⟨g6, 0, none⟩)) (.pointer (some ⟨g7, 0, none⟩)) K) Kq (pn e)) := by
  unfold KpD
  refine e_dfS (f := 26) (A := [.pointer (some ⟨g4, 0, none⟩), .pointer (some ⟨g5, 0, none⟩), .pointer (some ⟨g6, 0, none⟩), .pointer (some ⟨g7, 0, none⟩)]) (shape := fun rv => S.inflate_all_1 (.pointer (some ⟨g4, 0, none⟩)) (.pointer (some ⟨g5, 0, none⟩)) (.pointer (some ⟨g6, 0, none⟩)) (.pointer (some ⟨g7, 0, none⟩)) rv) (fun c => by cases c) ⟨_, _, rfl⟩ (inv_closure (cs := [.pointer (some ⟨g4, 0, none⟩), .pointer (some ⟨g5, 0, none⟩), .pointer (some ⟨g6, 0, none⟩), .pointer (some ⟨g7, 0, none⟩)]) (bs := []) Try.call26) (fun h => S.inflate_all_1_d h) ?_
  unfold S.inflate_all_1 pn
  rw [rec_pan, lv_pan]
  refine e_opN (v_neIf (by kernel_rfl)) Imp.nil ?_
  refine e_condT ?_
  refine e_drS ?_
  refine e_stD (v_ta (k := .i64) (by kernel_rfl)) Imp.nil ?_
  (((with_reducible refine' e_stN ?hp ?ho ?_); (case hp => (repeat constructor)); (case ho => (repeat (first | exact Put.here | apply Put.there))))); (((with_reducible refine e_obl ?hi ?_); (case hi => (repeat (first | exact Imp.refl | exact Imp.nil | (apply Imp.pick; (focus ((repeat constructor); done))) | refine Imp.drop ?_))))); (((with_reducible refine' e_stN ?hp ?ho ?_); (case hp => (repeat constructor)); (case ho => (repeat (first | exact Put.here | apply Put.there))))); (((with_reducible refine e_obl ?hi ?_); (case hi => (repeat (first | exact Imp.refl | exact Imp.nil | (apply Imp.pick; (focus ((repeat constructor); done))) | refine Imp.drop ?_))))); (((with_reducible refine' e_stN ?hp ?ho ?_); (case hp => (repeat constructor)); (case ho => (repeat (first | exact Put.here | apply Put.there))))); (((with_reducible refine e_obl ?hi ?_); (case hi => (repeat (first | exact Imp.refl | exact Imp.nil | (apply Imp.pick; (focus ((repeat constructor); done))) | refine Imp.drop ?_))))); (((with_reducible refine' e_stN ?hp ?ho ?_); (case hp => (repeat constructor)); (case ho => (repeat (first | exact Put.here | apply Put.there)))))
  unfold S.inflate_all_ret
  (((with_reducible refine' e_stS (v_res1 ?hc) ?hi ?_); (case hi => (repeat (first | exact Imp.refl | exact Imp.nil | (apply Imp.pick; (focus ((repeat constructor); done))) | refine Imp.drop ?_))); (case hc => (repeat (first | exact Nth.here | apply Nth.there))))); (((with_reducible refine' e_stS (v_res1 ?hc) ?hi ?_); (case hi => (repeat (first | exact Imp.refl | exact Imp.nil | (apply Imp.pick; (focus ((repeat constructor); done))) | refine Imp.drop ?_))); (case hc => (repeat (first | exact Nth.here | apply Nth.there))))); (((with_reducible refine' e_stS (v_res1 ?hc) ?hi ?_); (case hi => (repeat (first | exact Imp.refl | exact Imp.nil | (apply Imp.pick; (focus ((repeat constructor); done))) | refine Imp.drop ?_))); (case hc => (repeat (first | exact Nth.here | apply Nth.there))))); (((with_reducible refine' e_stS (v_res1 ?hc) ?hi ?_); (case hi => (repeat (first | exact Imp.refl | exact Imp.nil | (apply Imp.pick; (focus ((repeat constructor); done))) | refine Imp.drop ?_))); (case hc => (repeat (first | exact Nth.here | apply Nth.there)))))
  exact e_imp (by (repeat (first | exact Imp.refl | exact Imp.nil | (apply Imp.pick; (focus ((repeat constructor); done))) | refine Imp.drop ?_))) h
/-- with the stream's cells in sight -/
theorem stakeX {W : World} {p r at_ : Nat} {b : List UInt8} {v : Value} {most k : Int} : CnP Try.prog 32 [.pointer (some ⟨p, 0, none⟩), .int .i64 k] W [pt p (.cells #[.pointer (some ⟨r, 0, none⟩), v, .int .i64 most] 69), IsR r b at_]
    (fun _ : If (takR b at_ k = 0) => .int .i64 (takN b at_ k : Int)) (fun _ => [pt p (.cells #[.pointer (some ⟨r, 0, none⟩), v, .int .i64 most] 69), IsR r b (takAt b at_ k)]) (fun _ : If (takR b at_ k ≠ 0) => pn (takR b at_ k)) (fun _ => []) := by
  (refine S.inflate_stream_take_cnP fun F => ?_; unfold S.inflate_stream_take; simp only [List.cons_append, List.nil_append, -eq_self])
  (((with_reducible refine e_opN v_nil Imp.nil ?_))); (((with_reducible refine e_opN v_fa0 Imp.nil ?_))); (((with_reducible refine' e_opN (v_ldN ?hc) ?hi ?_); (case hi => (repeat (first | exact Imp.refl | exact Imp.nil | (apply Imp.pick; (focus ((repeat constructor); done))) | refine Imp.drop ?_))); (case hc => (repeat (first | exact Nth.here | apply Nth.there)))))
  (refine' e_call (B.take) ?hp fun _ => ?_; (case hp => (repeat (first | exact Picks.nil | (apply Picks.cons; (focus (repeat constructor)))))); (try simp only [List.cons_append, List.nil_append, Bool.not_true, Bool.not_false]))
  (((with_reducible refine' e_opN (v_extN ?hc) Imp.nil ?_); (case hc => (repeat (first | exact Nth.here | apply Nth.there))))); (((with_reducible refine' e_opN (v_extN ?hc) Imp.nil ?_); (case hc => (repeat (first | exact Nth.here | apply Nth.there)))))
  (refine' e_callP (must) ?hp (fun _ => ?_) (fun _ => ?_); (case hp => (repeat (first | exact Picks.nil | (apply Picks.cons; (focus (repeat constructor)))))); (all_goals (try simp only [List.cons_append, List.nil_append, Bool.not_true, Bool.not_false, -eq_self])))
  · rename_i x
    (first | refine e_ret (yes (x.2)) rfl ?_ | refine e_retT (yes (x.2)) ?_)
    (repeat (first | exact Imp.refl | exact Imp.nil | (apply Imp.pick; (focus ((repeat constructor); done))) | refine Imp.drop ?_))
  · rename_i y
    refine e_pan (yes (y.2)) rfl ?_
    (repeat (first | exact Imp.refl | exact Imp.nil | (apply Imp.pick; (focus ((repeat constructor); done))) | refine Imp.drop ?_))
theorem takN1 (b : List UInt8) (at_ : Nat) : takN b at_ 1 = 0 ∨ takN b at_ 1 = 1 := by
  have := takN_lt (b := b) (at_ := at_) (k := 1)
  have e : takN b at_ ((1 : Nat) : Int) = takN b at_ 1 := rfl
  rw [e] at this
  omega
theorem kf_get {k : Nat} (hk : k < 4) : (#[fn 28, fn 29, fn 30, fn 31] : Array Value)[k]? = some (fn (kf k)) := by
  have : k = 0 ∨ k = 1 ∨ k = 2 ∨ k = 3 := by omega
  rcases this with rfl | rfl | rfl | rfl <;> rfl
/-- a list of blocks takes its rounds -/
theorem blk_app (l : List (Int × Int)) (x : Int × Int) : (l ++ [x]).flatMap blk = l.flatMap blk ++ [I x.1, I x.2] := by simp [blk]
theorem all_ {W : World} {a : Option Addr} {cap : Nat} {b : List UInt8} {A : HP} {most : Int} (hr : RdB W A a b.length (b.map B)) (ha : a = none → b.length = 0) (hb : b.length ≤ 140737488355328) :
    Cn Try.prog 24 [.slice a b.length cap, .int .i64 most] W [A]
      (fun q : (Option Addr × Nat) × (Option Addr × Nat) => .tuple #[.slice q.1.1 (aO b most).length q.1.2, .slice q.2.1 (aL b most).length q.2.2, .int .i64 (aU b most), .int .i64 (aE b most)])
      (fun q => [Sl 1 5 q.1.1 q.1.2 (aO b most).length ((aO b most).map B), Sl 2 74 q.2.1 q.2.2 (aL b most).length ((aL b most).flatMap blk), A]) := by
  (refine S.inflate_all_cn fun F => ?_; unfold S.inflate_all; simp only [List.cons_append, List.nil_append])
  refine e_new1 fun g4 => ?_
  refine e_new1 fun g5 => ?_
  refine e_new1 fun g6 => ?_
  refine e_new1 fun g7 => ?_
  obtain ⟨T, hT⟩ : ∃ T, T = mAll b most := ⟨_, rfl⟩
  have bad : ∀ e : Int, T = .error e → aO b most = [] ∧ aL b most = [] ∧ aU b most = 0 ∧ aE b most = e := by
    intro e he
    rw [hT] at he
    simp [aO, aL, aU, aE, he]
  have good : ∀ (a1 : Nat) (o1 : List UInt8) (l1 : List (Int × Int)), T = .ok (a1, o1, l1) → aO b most = o1 ∧ aL b most = l1 ∧ aU b most = (b.length : Int) - (8 * (b.length : Int) - a1) / 8 ∧ aE b most = 0 := by
    intro a1 o1 l1 he
    rw [hT] at he
    simp [aO, aL, aU, aE, he]
  have fin : ∀ (e : Int) (L : List HP), T = .error e → Imp W L (A :: F) → Ent W L (fun w => ∃ q : (Option Addr × Nat) × (Option Addr × Nat), (.tuple #[.slice none 0 0, .slice none 0 0, .int .i64 0, .int .i64 e] : Value) = .tuple #[.slice q.1.1 (aO b most).length q.1.2, .slice q.2.1 (aL b most).length q.2.2, .int .i64 (aU b most), .int .i64 (aE b most)] ∧ sat W ([Sl 1 5 q.1.1 q.1.2 (aO b most).length ((aO b most).map B), Sl 2 74 q.2.1 q.2.2 (aL b most).length ((aL b most).flatMap blk), A] ++ F) w) := by
    intro e L he hi
    obtain ⟨h1, h2, h3, h4⟩ := bad e he
    rw [h1, h2, h3, h4]
    refine e_imp hi ?_
    refine e_nil (s := 1) (e := 5) ?_
    refine e_nil (s := 2) (e := 74) ?_
    refine e_ret ((none, 0), (none, 0)) rfl ?_
    (repeat (first | exact Imp.refl | exact Imp.nil | (apply Imp.pick; (focus ((repeat constructor); done))) | refine Imp.drop ?_))
  unfold mAll at hT
  refine e_cut1 (fun z => [pu (z = .bool (decide (most < 0 ∨ 1048576 < most))), pt g4 (.cells #[.slice none 0 0] 27), pt g5 (.cells #[.slice none 0 0] 60), pt g6 (.cells #[.int .i64 0] 3), pt g7 (.cells #[.int .i64 0] 28), A] ++ F) ?_ ?_
  rotate_left
  · (refine e_ask v_lss Imp.nil (fun h => ?_) (fun h => ?_))
    · refine e_condT ?_
      refine e_sat (.pu (by rw [decide_eq_true (.inl h)]) ?_)
      (repeat (first | exact Imp.refl | exact Imp.nil | (apply Imp.pick; (focus ((repeat constructor); done))) | refine Imp.drop ?_))
    · refine e_condF ?_
      (refine e_ask v_gtr Imp.nil (fun h => ?_) (fun h => ?_))
      · refine e_sat (.pu (by rw [decide_eq_true (.inr h)]) ?_)
        (repeat (first | exact Imp.refl | exact Imp.nil | (apply Imp.pick; (focus ((repeat constructor); done))) | refine Imp.drop ?_))
      · refine e_sat (.pu (by rw [decide_eq_false (by omega)]) ?_)
        (repeat (first | exact Imp.refl | exact Imp.nil | (apply Imp.pick; (focus ((repeat constructor); done))) | refine Imp.drop ?_))
  intro ds z
  (try simp only [List.cons_append, List.nil_append, -eq_self])
  refine e_pu Pick.here fun hz => ?_
  subst hz
  by_cases hm : most < 0 ∨ 1048576 < most
  · rw [if_pos hm] at hT
    rw [decide_eq_true hm]
    ((with_reducible refine e_condT ?_)); (((with_reducible refine' e_stN ?hp ?ho ?_); (case hp => (repeat constructor)); (case ho => (repeat (first | exact Put.here | apply Put.there))))); (((with_reducible refine' e_stN ?hp ?ho ?_); (case hp => (repeat constructor)); (case ho => (repeat (first | exact Put.here | apply Put.there))))); (((with_reducible refine' e_stN ?hp ?ho ?_); (case hp => (repeat constructor)); (case ho => (repeat (first | exact Put.here | apply Put.there))))); (((with_reducible refine' e_stN ?hp ?ho ?_); (case hp => (repeat constructor)); (case ho => (repeat (first | exact Put.here | apply Put.there))))); (((with_reducible refine' e_stS (v_res1 ?hc) ?hi ?_); (case hi => (repeat (first | exact Imp.refl | exact Imp.nil | (apply Imp.pick; (focus ((repeat constructor); done))) | refine Imp.drop ?_))); (case hc => (repeat (first | exact Nth.here | apply Nth.there))))); (((with_reducible refine' e_stS (v_res1 ?hc) ?hi ?_); (case hi => (repeat (first | exact Imp.refl | exact Imp.nil | (apply Imp.pick; (focus ((repeat constructor); done))) | refine Imp.drop ?_))); (case hc => (repeat (first | exact Nth.here | apply Nth.there))))); (((with_reducible refine' e_stS (v_res1 ?hc) ?hi ?_); (case hi => (repeat (first | exact Imp.refl | exact Imp.nil | (apply Imp.pick; (focus ((repeat constructor); done))) | refine Imp.drop ?_))); (case hc => (repeat (first | exact Nth.here | apply Nth.there))))); (((with_reducible refine' e_stS (v_res1 ?hc) ?hi ?_); (case hi => (repeat (first | exact Imp.refl | exact Imp.nil | (apply Imp.pick; (focus ((repeat constructor); done))) | refine Imp.drop ?_))); (case hc => (repeat (first | exact Nth.here | apply Nth.there)))))
    exact fin 1 _ hT (by (repeat (first | exact Imp.refl | exact Imp.nil | (apply Imp.pick; (focus ((repeat constructor); done))) | refine Imp.drop ?_)))
  rw [if_neg hm] at hT
  rw [decide_eq_false hm]
  ((with_reducible refine e_condF ?_)); (((with_reducible refine e_opN v_len Imp.nil ?_)))
  (refine e_ask v_gtr Imp.nil (fun h => ?_) (fun h => ?_))
  · rw [if_pos (by omega)] at hT
    ((with_reducible refine e_condT ?_)); (((with_reducible refine' e_stN ?hp ?ho ?_); (case hp => (repeat constructor)); (case ho => (repeat (first | exact Put.here | apply Put.there))))); (((with_reducible refine' e_stN ?hp ?ho ?_); (case hp => (repeat constructor)); (case ho => (repeat (first | exact Put.here | apply Put.there))))); (((with_reducible refine' e_stN ?hp ?ho ?_); (case hp => (repeat constructor)); (case ho => (repeat (first | exact Put.here | apply Put.there))))); (((with_reducible refine' e_stN ?hp ?ho ?_); (case hp => (repeat constructor)); (case ho => (repeat (first | exact Put.here | apply Put.there))))); (((with_reducible refine' e_stS (v_res1 ?hc) ?hi ?_); (case hi => (repeat (first | exact Imp.refl | exact Imp.nil | (apply Imp.pick; (focus ((repeat constructor); done))) | refine Imp.drop ?_))); (case hc => (repeat (first | exact Nth.here | apply Nth.there))))); (((with_reducible refine' e_stS (v_res1 ?hc) ?hi ?_); (case hi => (repeat (first | exact Imp.refl | exact Imp.nil | (apply Imp.pick; (focus ((repeat constructor); done))) | refine Imp.drop ?_))); (case hc => (repeat (first | exact Nth.here | apply Nth.there))))); (((with_reducible refine' e_stS (v_res1 ?hc) ?hi ?_); (case hi => (repeat (first | exact Imp.refl | exact Imp.nil | (apply Imp.pick; (focus ((repeat constructor); done))) | refine Imp.drop ?_))); (case hc => (repeat (first | exact Nth.here | apply Nth.there))))); (((with_reducible refine' e_stS (v_res1 ?hc) ?hi ?_); (case hi => (repeat (first | exact Imp.refl | exact Imp.nil | (apply Imp.pick; (focus ((repeat constructor); done))) | refine Imp.drop ?_))); (case hc => (repeat (first | exact Nth.here | apply Nth.there)))))
    exact fin 6 _ hT (by (repeat (first | exact Imp.refl | exact Imp.nil | (apply Imp.pick; (focus ((repeat constructor); done))) | refine Imp.drop ?_)))
  rw [if_neg (by omega)] at hT
  refine e_condF ?_
  refine e_opN v_mkF Imp.nil ?_
  refine e_opDf ?_
  simp only [List.nil_append, Array.append_empty, List.append_toArray]
  (refine' e_call (newReader hr ha hb) ?hp fun _ => ?_; (case hp => (repeat (first | exact Picks.nil | (apply Picks.cons; (focus (repeat constructor)))))); (try simp only [List.cons_append, List.nil_append, Bool.not_true, Bool.not_false]))
  rename_i pr
  refine e_opN v_rv Imp.nil ?_
  refine e_boxA fun gs => ?_
  refine e_opN v_rv Imp.nil ?_
  refine e_newA fun gk => ?_
  refine' e_stAgg ?hp ?hn ?hv ?h1 ?_
  case hp => (repeat constructor)
  case hn => rfl
  case hv => rfl
  case h1 => simp [fn, Value.oneCell']
  have bad2 : ∀ (e : Int) (L : List HP) (q : Option Addr × Nat) (n : Nat), T = .error e → Imp W L ([pt g4 (.cells #[.slice none 0 0] 27), pt g5 (.cells #[.slice q.1 n q.2] 60), pt g6 (.cells #[.int .i64 0] 3), pt g7 (.cells #[.int .i64 0] 28), A] ++ F) → Ent W L (KpD Try.prog { target := .fn (.func 26) ([.pointer (some ⟨g4, 0, none⟩), .pointer (some ⟨g5, 0, none⟩), .pointer (some ⟨g6, 0, none⟩), .pointer (some ⟨g7, 0, none⟩)] : List Value).toArray, args := ([] : List Value).toArray } (S.inflate_all_ret (.pointer (some ⟨g4, 0, none⟩)) (.pointer (some ⟨g5, 0, none⟩)) (.pointer (some ⟨g6, 0, none⟩)) (.pointer (some ⟨g7, 0, none⟩)) (fun v w => ∃ q : (Option Addr × Nat) × (Option Addr × Nat), v = .tuple #[.slice q.1.1 (aO b most).length q.1.2, .slice q.2.1 (aL b most).length q.2.2, .int .i64 (aU b most), .int .i64 (aE b most)] ∧ sat W ([Sl 1 5 q.1.1 q.1.2 (aO b most).length ((aO b most).map B), Sl 2 74 q.2.1 q.2.2 (aL b most).length ((aL b most).flatMap blk), A] ++ F) w)) noP (pn e)) := by
    intro e L q n he hi
    refine e_imp hi ?_
    (try simp only [List.cons_append, List.nil_append, -eq_self])
    refine fails ?_
    exact fin e _ he (by (repeat (first | exact Imp.refl | exact Imp.nil | (apply Imp.pick; (focus ((repeat constructor); done))) | refine Imp.drop ?_)))
  refine e_nil (s := 2) (e := 74) ?_
  refine e_nil (s := 1) (e := 5) ?_
  refine e_imp (M := IsS gs b 0 [] most :: Sl 2 74 none 0 0 [] :: pt gk (.cells #[fn 28, fn 29, fn 30, fn 31] 71) :: pt g4 (.cells #[.slice none 0 0] 27) :: pt g5 (.cells #[.slice none 0 0] 60) :: pt g6 (.cells #[.int .i64 0] 3) :: pt g7 (.cells #[.int .i64 0] 28) :: A :: F) (.ex (pr, (none, 0)) (.all (.pick (by (repeat constructor)) (.pick (by (repeat constructor)) (.pick (by (repeat constructor)) (by (repeat (first | exact Imp.refl | exact Imp.nil | (apply Imp.pick; (focus ((repeat constructor); done))) | refine Imp.drop ?_)))))))) ?_
  have hm0 : 0 ≤ most ∧ most ≤ 1048576 := by omega
  refine e_loop1 (fun m y => [ex fun at1 : Nat => ex fun out : List UInt8 => ex fun l : List (Int × Int) => ex fun q : Option Addr × Nat => all [pu (((y = .int .i64 0 ∧ 8 * b.length + 1 ≤ m + at1 ∧ T = mLoop b most m at1 out l) ∨ (y = .int .i64 1 ∧ T = .ok (at1, out, l))) ∧ (out.length : Int) ≤ most ∧ l.length ≤ at1), IsS gs b at1 out most, Sl 2 74 q.1 q.2 l.length (l.flatMap blk), pt gk (.cells #[fn 28, fn 29, fn 30, fn 31] 71), pt g4 (.cells #[.slice none 0 0] 27), pt g5 (.cells #[.slice q.1 l.length q.2] 60), pt g6 (.cells #[.int .i64 0] 3), pt g7 (.cells #[.int .i64 0] 28), A]] ++ F) (8 * b.length + 1) ?_ ?_
  · refine .ex 0 (.ex [] (.ex [] (.ex (none, 0) (.all ?_))))
    (try simp only [List.cons_append, List.nil_append, -eq_self])
    refine .pu ⟨.inl ⟨rfl, by omega, hT⟩, by simpa using hm0.1, by simp⟩ ?_
    (repeat (first | exact Imp.refl | exact Imp.nil | (apply Imp.pick; (focus ((repeat constructor); done))) | refine Imp.drop ?_))
  clear hT
  intro m ds y
  (try simp only [List.cons_append, List.nil_append, -eq_self])
  refine e_ex Pick.here fun at1 => e_ex Pick.here fun out => e_ex Pick.here fun l => e_ex Pick.here fun q => e_all Pick.here ?_
  obtain ⟨qa, qc⟩ := q
  (try simp only [List.cons_append, List.nil_append, -eq_self])
  refine e_pu Pick.here fun hi => ?_
  obtain ⟨hi, ho, hll⟩ := hi
  refine e_rfactS .here fun hat => ?_
  rcases hi with ⟨rfl, hm, hT⟩ | ⟨rfl, hT⟩
  · refine e_opN v_eql Imp.nil ?_
    rw [decide_eq_true rfl]
    refine e_condT ?_
    obtain ⟨m, rfl⟩ : ∃ m', m = m' + 1 := ⟨m - 1, by omega⟩
    rw [mLoop] at hT
    (refine' e_callP (stake) ?hp (fun _ => ?_) (fun _ => ?_); (case hp => (repeat (first | exact Picks.nil | (apply Picks.cons; (focus (repeat constructor)))))); (all_goals (try simp only [List.cons_append, List.nil_append, Bool.not_true, Bool.not_false, -eq_self])))
    rotate_left
    · rename_i y
      rw [if_pos y.2] at hT
      exact bad2 _ _ (qa, qc) l.length hT (by (repeat (first | exact Imp.refl | exact Imp.nil | (apply Imp.pick; (focus ((repeat constructor); done))) | refine Imp.drop ?_)))
    rename_i x1
    rw [if_neg (fun c => c x1.2)] at hT
    have ha1 : takAt b at1 1 = at1 + 1 := by unfold takAt; rw [if_pos x1.2]; rfl
    have hl1 := takN1 b at1
    obtain ⟨last, hlast⟩ : ∃ l, l = takN b at1 1 := ⟨_, rfl⟩
    rw [← hlast] at hl1
    rw [← hlast, ha1] at hT ⊢
    refine e_drS ?_
    refine e_ex Pick.here fun q => e_all Pick.here ?_
    obtain ⟨r, sa, sc⟩ := q
    (try simp only [List.cons_append, List.nil_append, -eq_self])
    (((with_reducible refine e_stD v_nil Imp.nil ?_))); (((with_reducible refine e_stD v_fa0 Imp.nil ?_))); (((with_reducible refine' e_stD (v_ldN ?hc) ?hi ?_); (case hi => (repeat (first | exact Imp.refl | exact Imp.nil | (apply Imp.pick; (focus ((repeat constructor); done))) | refine Imp.drop ?_))); (case hc => (repeat (first | exact Nth.here | apply Nth.there))))); (((with_reducible refine e_stD v_len Imp.nil ?_)))
    (refine' e_callP (stakeX) ?hp (fun _ => ?_) (fun _ => ?_); (case hp => (repeat (first | exact Picks.nil | (apply Picks.cons; (focus (repeat constructor)))))); (all_goals (try simp only [List.cons_append, List.nil_append, Bool.not_true, Bool.not_false, -eq_self])))
    rotate_left
    · rename_i y
      rw [if_pos y.2] at hT
      exact bad2 _ _ (qa, qc) l.length hT (by (repeat (first | exact Imp.refl | exact Imp.nil | (apply Imp.pick; (focus ((repeat constructor); done))) | refine Imp.drop ?_)))
    rename_i x2
    rw [if_neg (fun c => c x2.2)] at hT
    have hk4 := takN_lt (b := b) (at_ := at1 + 1) (k := 2)
    have hkE : takN b (at1 + 1) ((2 : Nat) : Int) = takN b (at1 + 1) 2 := rfl
    rw [hkE] at hk4
    have hlt2 := takAt_le b (at1 + 1) 2
    obtain ⟨kk, hkk⟩ : ∃ k, k = takN b (at1 + 1) 2 := ⟨_, rfl⟩
    obtain ⟨a2, ha2⟩ : ∃ a, a = takAt b (at1 + 1) 2 := ⟨_, rfl⟩
    rw [← hkk] at hk4
    rw [← ha2] at hlt2
    rw [← hkk, ← ha2] at hT ⊢
    have hk4 : kk < 4 := hk4
    (((with_reducible refine e_obl ?hi ?_); (case hi => (repeat (first | exact Imp.refl | exact Imp.nil | (apply Imp.pick; (focus ((repeat constructor); done))) | refine Imp.drop ?_))))); (((with_reducible refine e_obl ?hi ?_); (case hi => (repeat (first | exact Imp.refl | exact Imp.nil | (apply Imp.pick; (focus ((repeat constructor); done))) | refine Imp.drop ?_))))); (((with_reducible refine e_obl ?hi ?_); (case hi => (repeat (first | exact Imp.refl | exact Imp.nil | (apply Imp.pick; (focus ((repeat constructor); done))) | refine Imp.drop ?_))))); (((with_reducible refine e_obl ?hi ?_); (case hi => (repeat (first | exact Imp.refl | exact Imp.nil | (apply Imp.pick; (focus ((repeat constructor); done))) | refine Imp.drop ?_)))))
    refine e_opN (v_iaA kk (by rfl) hk4) Imp.nil ?_
    refine e_opN (v_ld (v := fn (kf kk)) (by rw [Nat.zero_add, Nat.mul_one]; exact kf_get hk4)) (.pick (by (repeat constructor)) .nil) ?_
    refine e_imp (M := IsS gs b a2 out most :: Sl 2 74 qa qc l.length (l.flatMap blk) :: pt gk (.cells #[fn 28, fn 29, fn 30, fn 31] 71) :: pt g4 (.cells #[.slice none 0 0] 27) :: pt g5 (.cells #[.slice qa l.length qc] 60) :: pt g6 (.cells #[.int .i64 0] 3) :: pt g7 (.cells #[.int .i64 0] 28) :: A :: F) (.ex (r, (sa, sc)) (.all (.pick (by (repeat constructor)) (.pick (by (repeat constructor)) (.pick (by (repeat constructor)) (by (repeat (first | exact Imp.refl | exact Imp.nil | (apply Imp.pick; (focus ((repeat constructor); done))) | refine Imp.drop ?_)))))))) ?_
    (refine' e_callP (kind hk4 hm0 ho) ?hp (fun _ => ?_) (fun _ => ?_); (case hp => (repeat (first | exact Picks.nil | (apply Picks.cons; (focus (repeat constructor)))))); (all_goals (try simp only [List.cons_append, List.nil_append, Bool.not_true, Bool.not_false, -eq_self])))
    rotate_left
    · rename_i y
      have hy := y.2
      rw [hy] at hT
      exact bad2 _ _ (qa, qc) l.length hT (by (repeat (first | exact Imp.refl | exact Imp.nil | (apply Imp.pick; (focus ((repeat constructor); done))) | refine Imp.drop ?_)))
    rename_i x3
    obtain ⟨⟨a3, o3⟩, hx3⟩ := x3
    rw [hx3] at hT
    simp only at hT
    have ho3 := mKind_ok hx3 ho
    have ha3 := mKind_at hx3
    (try dsimp only)
    refine e_drS ?_
    refine e_ex Pick.here fun q => e_all Pick.here ?_
    obtain ⟨r3, sa3, sc3⟩ := q
    (try simp only [List.cons_append, List.nil_append, -eq_self])
    (((with_reducible refine' e_stD (v_ldN ?hc) ?hi ?_); (case hi => (repeat (first | exact Imp.refl | exact Imp.nil | (apply Imp.pick; (focus ((repeat constructor); done))) | refine Imp.drop ?_))); (case hc => (repeat (first | exact Nth.here | apply Nth.there))))); (((with_reducible refine e_stS v_nil Imp.nil ?_))); (((with_reducible refine e_stS v_fa0 Imp.nil ?_))); (((with_reducible refine' e_stS (v_ldN ?hc) ?hi ?_); (case hi => (repeat (first | exact Imp.refl | exact Imp.nil | (apply Imp.pick; (focus ((repeat constructor); done))) | refine Imp.drop ?_))); (case hc => (repeat (first | exact Nth.here | apply Nth.there))))); (((with_reducible refine e_stS v_len Imp.nil ?_))); (((with_reducible refine e_stS (v_sub ?h1 ?h2) Imp.nil ?_); (case h1 => omega); (case h2 => omega))); (((with_reducible refine e_stS v_rv Imp.nil ?_)))
    refine e_bslS (n := 1) (vs := [.agg #[.int .i64 (kk : Int), .int .i64 ((o3.length : Int) - (out.length : Int))]]) rfl (by omega) rfl (by intro v hv; rw [List.mem_singleton.1 hv]; rfl) (by omega) fun gb => ?_
    (((with_reducible refine e_obl ?hi ?_); (case hi => (repeat (first | exact Imp.refl | exact Imp.nil | (apply Imp.pick; (focus ((repeat constructor); done))) | refine Imp.drop ?_)))))
    refine e_app (m := 1) (news := [I (kk : Int), I ((o3.length : Int) - (out.length : Int))]) (by (repeat constructor)) (src_pt (e' := 74) (by kernel_rfl) .here (by rfl) (by simp [Value.cells, I, Value.oneCell'])) (by omega) (by omega) fun a' c' => ?_
    (((with_reducible refine' e_stN ?hp ?ho ?_); (case hp => (repeat constructor)); (case ho => (repeat (first | exact Put.here | apply Put.there)))))
    have hT' : (last = 0 ∧ T = mLoop b most m a3 o3 (l ++ [((kk : Int), (o3.length : Int) - (out.length : Int))])) ∨ (last = 1 ∧ T = .ok (a3, o3, l ++ [((kk : Int), (o3.length : Int) - (out.length : Int))])) := by
      rcases hl1 with h | h
      · exact .inl ⟨h, by rw [hT, if_pos h]⟩
      · exact .inr ⟨h, by rw [hT, if_neg (by omega)]⟩
    refine e_next1 m (by omega) (.ex a3 (.ex o3 (.ex (l ++ [((kk : Int), (o3.length : Int) - (out.length : Int))]) (.ex (a', c') (.all ?_)))))
    (try simp only [List.cons_append, List.nil_append, -eq_self])
    refine .pu ⟨?_, ho3, by rw [List.length_append, List.length_singleton]; omega⟩ ?_
    · rcases hT' with ⟨h, e⟩ | ⟨h, e⟩
      · subst h; exact .inl ⟨rfl, by omega, e⟩
      · subst h; exact .inr ⟨rfl, e⟩
    refine .ex (r3, (sa3, sc3)) (.all ?_)
    (try simp only [List.cons_append, List.nil_append, -eq_self])
    rw [List.length_append, blk_app, List.length_singleton]
    exact .pick (by (repeat constructor)) (.pick (by (repeat constructor)) (.pick (by (repeat constructor)) (.pick (by (repeat constructor)) (.pick (by (repeat constructor)) (.pick (by (repeat constructor)) (.pick (by (repeat constructor)) (.pick (by (repeat constructor)) (.pick (by (repeat constructor)) (.pick (by (repeat constructor)) (by (repeat (first | exact Imp.refl | exact Imp.nil | (apply Imp.pick; (focus ((repeat constructor); done))) | refine Imp.drop ?_))))))))))))
  · refine e_opN v_eql Imp.nil ?_
    rw [decide_eq_false (by omega)]
    refine e_condF ?_
    refine e_drS ?_
    refine e_ex Pick.here fun q => e_all Pick.here ?_
    obtain ⟨r, sa, sc⟩ := q
    (try simp only [List.cons_append, List.nil_append, -eq_self])
    (((with_reducible refine e_stD v_nil Imp.nil ?_))); (((with_reducible refine e_stD v_fa0 Imp.nil ?_))); (((with_reducible refine' e_stD (v_ldN ?hc) ?hi ?_); (case hi => (repeat (first | exact Imp.refl | exact Imp.nil | (apply Imp.pick; (focus ((repeat constructor); done))) | refine Imp.drop ?_))); (case hc => (repeat (first | exact Nth.here | apply Nth.there))))); (((with_reducible refine' e_stD (v_ldN ?hc) ?hi ?_); (case hi => (repeat (first | exact Imp.refl | exact Imp.nil | (apply Imp.pick; (focus ((repeat constructor); done))) | refine Imp.drop ?_))); (case hc => (repeat (first | exact Nth.here | apply Nth.there))))); (((with_reducible refine e_stD v_len Imp.nil ?_))); (((with_reducible refine e_stS v_nil Imp.nil ?_))); (((with_reducible refine e_stS v_fa0 Imp.nil ?_))); (((with_reducible refine' e_stS (v_ldN ?hc) ?hi ?_); (case hi => (repeat (first | exact Imp.refl | exact Imp.nil | (apply Imp.pick; (focus ((repeat constructor); done))) | refine Imp.drop ?_))); (case hc => (repeat (first | exact Nth.here | apply Nth.there)))))
    (refine' e_call (left) ?hp fun _ => ?_; (case hp => (repeat (first | exact Picks.nil | (apply Picks.cons; (focus (repeat constructor)))))); (try simp only [List.cons_append, List.nil_append, Bool.not_true, Bool.not_false]))
    (((with_reducible refine e_obl ?hi ?_); (case hi => (repeat (first | exact Imp.refl | exact Imp.nil | (apply Imp.pick; (focus ((repeat constructor); done))) | refine Imp.drop ?_))))); (((with_reducible refine e_obl ?hi ?_); (case hi => (repeat (first | exact Imp.refl | exact Imp.nil | (apply Imp.pick; (focus ((repeat constructor); done))) | refine Imp.drop ?_))))); (((with_reducible refine e_obl ?hi ?_); (case hi => (repeat (first | exact Imp.refl | exact Imp.nil | (apply Imp.pick; (focus ((repeat constructor); done))) | refine Imp.drop ?_))))); (((with_reducible refine e_obl ?hi ?_); (case hi => (repeat (first | exact Imp.refl | exact Imp.nil | (apply Imp.pick; (focus ((repeat constructor); done))) | refine Imp.drop ?_))))); (((with_reducible refine e_obl ?hi ?_); (case hi => (repeat (first | exact Imp.refl | exact Imp.nil | (apply Imp.pick; (focus ((repeat constructor); done))) | refine Imp.drop ?_))))); (((with_reducible refine e_stD (v_quo ?h1 ?h2 ?h3) Imp.nil ?_); (case h1 => omega); (case h2 => omega); (case h3 => omega))); (((with_reducible refine e_stD (v_sub ?h1 ?h2) Imp.nil ?_); (case h1 => omega); (case h2 => omega))); (((with_reducible refine' e_stN ?hp ?ho ?_); (case hp => (repeat constructor)); (case ho => (repeat (first | exact Put.here | apply Put.there))))); (((with_reducible refine e_obl ?hi ?_); (case hi => (repeat (first | exact Imp.refl | exact Imp.nil | (apply Imp.pick; (focus ((repeat constructor); done))) | refine Imp.drop ?_))))); (((with_reducible refine e_obl ?hi ?_); (case hi => (repeat (first | exact Imp.refl | exact Imp.nil | (apply Imp.pick; (focus ((repeat constructor); done))) | refine Imp.drop ?_))))); (((with_reducible refine e_obl ?hi ?_); (case hi => (repeat (first | exact Imp.refl | exact Imp.nil | (apply Imp.pick; (focus ((repeat constructor); done))) | refine Imp.drop ?_))))); (((with_reducible refine e_obl ?hi ?_); (case hi => (repeat (first | exact Imp.refl | exact Imp.nil | (apply Imp.pick; (focus ((repeat constructor); done))) | refine Imp.drop ?_))))); (((with_reducible refine' e_stN ?hp ?ho ?_); (case hp => (repeat constructor)); (case ho => (repeat (first | exact Put.here | apply Put.there))))); (((with_reducible refine e_obl ?hi ?_); (case hi => (repeat (first | exact Imp.refl | exact Imp.nil | (apply Imp.pick; (focus ((repeat constructor); done))) | refine Imp.drop ?_))))); (((with_reducible refine e_obl ?hi ?_); (case hi => (repeat (first | exact Imp.refl | exact Imp.nil | (apply Imp.pick; (focus ((repeat constructor); done))) | refine Imp.drop ?_))))); (((with_reducible refine e_obl ?hi ?_); (case hi => (repeat (first | exact Imp.refl | exact Imp.nil | (apply Imp.pick; (focus ((repeat constructor); done))) | refine Imp.drop ?_))))); (((with_reducible refine' e_stN ?hp ?ho ?_); (case hp => (repeat constructor)); (case ho => (repeat (first | exact Put.here | apply Put.there))))); (((with_reducible refine' e_stN ?hp ?ho ?_); (case hp => (repeat constructor)); (case ho => (repeat (first | exact Put.here | apply Put.there)))))
    obtain ⟨g1, g2, g3, g4'⟩ := good _ _ _ hT
    rw [g1, g2, g3, g4']
    refine e_dfS (f := 26) (A := [.pointer (some ⟨g4, 0, none⟩), .pointer (some ⟨g5, 0, none⟩), .pointer (some ⟨g6, 0, none⟩), .pointer (some ⟨g7, 0, none⟩)]) (shape := fun rv => S.inflate_all_1 (.pointer (some ⟨g4, 0, none⟩)) (.pointer (some ⟨g5, 0, none⟩)) (.pointer (some ⟨g6, 0, none⟩)) (.pointer (some ⟨g7, 0, none⟩)) rv) (fun c => by cases c) ⟨_, _, rfl⟩ (inv_closure (cs := [.pointer (some ⟨g4, 0, none⟩), .pointer (some ⟨g5, 0, none⟩), .pointer (some ⟨g6, 0, none⟩), .pointer (some ⟨g7, 0, none⟩)]) (bs := []) Try.call26) (fun h => S.inflate_all_1_d h) ?_
    unfold S.inflate_all_1
    rw [rec_ret, lv_ret]
    refine e_opN (v_neIf0 (by kernel_rfl)) Imp.nil ?_
    ((with_reducible refine e_condF ?_))
    unfold S.inflate_all_ret
    (((with_reducible refine' e_stS (v_res1 ?hc) ?hi ?_); (case hi => (repeat (first | exact Imp.refl | exact Imp.nil | (apply Imp.pick; (focus ((repeat constructor); done))) | refine Imp.drop ?_))); (case hc => (repeat (first | exact Nth.here | apply Nth.there))))); (((with_reducible refine' e_stS (v_res1 ?hc) ?hi ?_); (case hi => (repeat (first | exact Imp.refl | exact Imp.nil | (apply Imp.pick; (focus ((repeat constructor); done))) | refine Imp.drop ?_))); (case hc => (repeat (first | exact Nth.here | apply Nth.there))))); (((with_reducible refine' e_stS (v_res1 ?hc) ?hi ?_); (case hi => (repeat (first | exact Imp.refl | exact Imp.nil | (apply Imp.pick; (focus ((repeat constructor); done))) | refine Imp.drop ?_))); (case hc => (repeat (first | exact Nth.here | apply Nth.there))))); (((with_reducible refine' e_stS (v_res1 ?hc) ?hi ?_); (case hi => (repeat (first | exact Imp.refl | exact Imp.nil | (apply Imp.pick; (focus ((repeat constructor); done))) | refine Imp.drop ?_))); (case hc => (repeat (first | exact Nth.here | apply Nth.there)))))
    refine e_ret ((sa, sc), (qa, qc)) rfl ?_
    (try simp only [List.cons_append, List.nil_append, -eq_self])
    exact .pick (by (repeat constructor)) (.pick (by (repeat constructor)) (.pick (by (repeat constructor)) (by (repeat (first | exact Imp.refl | exact Imp.nil | (apply Imp.pick; (focus ((repeat constructor); done))) | refine Imp.drop ?_)))))
end Go.Proofs.Ytehfblkpbadikab.IF
/-! What a stream inflates to; the law's first answers. No conditions but those that each names. -/
namespace Go.Proofs.Ytehfblkpbadikab.IF
open Go Go.Proofs Go.RowKit Go.Proofs.Ytehfblkpbadikab.Sh Go.Proofs.Ytehfblkpbadikab.Sl Go.Proofs.Ytehfblkpbadikab.T Go.Proofs.Ytehfblkpbadikab.HM Go.Proofs.Ytehfblkpbadikab.HF Go.Proofs.Ytehfblkpbadikab.B Go.Proofs.Ytehfblkpbadikab.M
theorem inflate {W : World} {a : Option Addr} {cap : Nat} {b : List UInt8} {A : HP} {most : Int} (hr : RdB W A a b.length (b.map B)) (ha : a = none → b.length = 0) (hb : b.length ≤ 140737488355328) :
    Cn Try.prog 14 [.slice a b.length cap, .int .i64 most] W [A] (fun q : Option Addr × Nat => .tuple #[.slice q.1 (aO b most).length q.2, .int .i64 (aU b most), .int .i64 (aE b most)]) (fun q => [Sl 1 5 q.1 q.2 (aO b most).length ((aO b most).map B), A]) := by
  (refine S.inflate_Inflate_cn fun F => ?_; unfold S.inflate_Inflate; simp only [List.cons_append, List.nil_append])
  (refine' e_call (all_ hr ha hb) ?hp fun _ => ?_; (case hp => (repeat (first | exact Picks.nil | (apply Picks.cons; (focus (repeat constructor)))))); (try simp only [List.cons_append, List.nil_append, Bool.not_true, Bool.not_false]))
  rename_i q
  obtain ⟨⟨oa, oc⟩, ⟨la, lc⟩⟩ := q
  (try dsimp only)
  refine e_opN (v_ext (v := .slice oa (aO b most).length oc) rfl) Imp.nil ?_
  refine e_opN (v_ext (v := .slice la (aL b most).length lc) rfl) Imp.nil ?_
  refine e_opN (v_ext (v := .int .i64 (aU b most)) rfl) Imp.nil ?_
  refine e_opN (v_ext (v := .int .i64 (aE b most)) rfl) Imp.nil ?_
  (first | refine e_ret ((oa, oc)) rfl ?_ | refine e_retT ((oa, oc)) ?_)
  (repeat (first | exact Imp.refl | exact Imp.nil | (apply Imp.pick; (focus ((repeat constructor); done))) | refine Imp.drop ?_))
theorem num5 {W : World} {n : Int} : Cn Try.prog 8 [.int .i64 n] W [] (fun _ : Unit => .int .i64 n) (fun _ => []) := by
  (refine S.law05_num_cn fun F => ?_; unfold S.law05_num; simp only [List.cons_append, List.nil_append])
  (first | refine e_ret (()) rfl ?_ | refine e_retT (()) ?_)
  exact .refl
def kn1 : List UInt8 := [1, 3, 0, 252, 255, 97, 98, 99]
def kn2 : List UInt8 := [75, 76, 74, 6, 0]
theorem kn_1 : aO kn1 10 = [97, 98, 99] ∧ aU kn1 10 = 8 ∧ aE kn1 10 = 0 := by
  have : decide (aO kn1 10 = [97, 98, 99] ∧ aU kn1 10 = 8 ∧ aE kn1 10 = 0) = true := by decide +kernel
  exact of_decide_eq_true this
theorem kn_2 : aO kn2 10 = [97, 98, 99] ∧ aU kn2 10 = 5 ∧ aE kn2 10 = 0 := by
  have : decide (aO kn2 10 = [97, 98, 99] ∧ aU kn2 10 = 5 ∧ aE kn2 10 = 0) = true := by decide +kernel
  exact of_decide_eq_true this
theorem knows5 {W : World} : Cn Try.prog 9 [] W [] (fun _ : Unit => .bool true) (fun _ => []) := by
  (refine S.law05_knows_cn fun F => ?_; unfold S.law05_knows; simp only [List.cons_append, List.nil_append])
  refine e_bslN (vs := kn1.map B) rfl rfl (by intro v hv; obtain ⟨c, _, rfl⟩ := List.mem_map.1 hv; rfl) (by omega) fun g => ?_
  (refine' e_call (inflate (b := kn1) (rd_pt (by rfl)) (fun c => by cases c) (by decide)) ?hp fun _ => ?_; (case hp => (repeat (first | exact Picks.nil | (apply Picks.cons; (focus (repeat constructor)))))); (try simp only [List.cons_append, List.nil_append, Bool.not_true, Bool.not_false]))
  rename_i q
  obtain ⟨qa, qc⟩ := q
  rw [kn_1.1, kn_1.2.1, kn_1.2.2]
  (try dsimp only)
  (((with_reducible refine' e_opN (v_extN ?hc) Imp.nil ?_); (case hc => (repeat (first | exact Nth.here | apply Nth.there))))); (((with_reducible refine' e_opN (v_extN ?hc) Imp.nil ?_); (case hc => (repeat (first | exact Nth.here | apply Nth.there))))); (((with_reducible refine' e_opN (v_extN ?hc) Imp.nil ?_); (case hc => (repeat (first | exact Nth.here | apply Nth.there)))))
  refine e_bslN (vs := kn2.map B) rfl rfl (by intro v hv; obtain ⟨c, _, rfl⟩ := List.mem_map.1 hv; rfl) (by omega) fun g2 => ?_
  (refine' e_call (inflate (b := kn2) (rd_pt (by rfl)) (fun c => by cases c) (by decide)) ?hp fun _ => ?_; (case hp => (repeat (first | exact Picks.nil | (apply Picks.cons; (focus (repeat constructor)))))); (try simp only [List.cons_append, List.nil_append, Bool.not_true, Bool.not_false]))
  rename_i q2
  obtain ⟨qa2, qc2⟩ := q2
  rw [kn_2.1, kn_2.2.1, kn_2.2.2]
  (try dsimp only)
  (((with_reducible refine' e_opN (v_extN ?hc) Imp.nil ?_); (case hc => (repeat (first | exact Nth.here | apply Nth.there))))); (((with_reducible refine' e_opN (v_extN ?hc) Imp.nil ?_); (case hc => (repeat (first | exact Nth.here | apply Nth.there))))); (((with_reducible refine' e_opN (v_extN ?hc) Imp.nil ?_); (case hc => (repeat (first | exact Nth.here | apply Nth.there)))))
  (refine' e_call (num5) ?hp fun _ => ?_; (case hp => (repeat (first | exact Picks.nil | (apply Picks.cons; (focus (repeat constructor)))))); (try simp only [List.cons_append, List.nil_append, Bool.not_true, Bool.not_false]))
  (refine' e_call (num5) ?hp fun _ => ?_; (case hp => (repeat (first | exact Picks.nil | (apply Picks.cons; (focus (repeat constructor)))))); (try simp only [List.cons_append, List.nil_append, Bool.not_true, Bool.not_false]))
  (((with_reducible refine e_opN (v_add ?h1 ?h2) Imp.nil ?_); (case h1 => omega); (case h2 => omega)))
  refine e_slsome .here (by decide) fun h2 hg2 => ?_
  subst hg2
  refine e_slsome (.there (.there .here)) (by decide) fun h1 hg1 => ?_
  subst hg1
  refine e_opN v_eql Imp.nil ?_
  rw [decide_eq_true (by decide)]
  ((with_reducible refine e_gdT ?_)); ((with_reducible refine e_gdT ?_))
  refine e_opN (v_str (l := [97, 98, 99]) (rd_sl (by decide) (fun _ => ⟨h1, rfl⟩)) (fun c => by cases c)) (.pick (by (repeat constructor)) .nil) ?_
  ((with_reducible refine e_gdT ?_))
  refine e_opN (v_streq (l := [97, 98, 99]) (m := [97, 98, 99])) Imp.nil ?_
  rw [decide_eq_true rfl]
  (((with_reducible refine e_opN v_pickT Imp.nil ?_))); ((with_reducible refine e_gdT ?_)); ((with_reducible refine e_gdT ?_))
  refine e_opN v_eql Imp.nil ?_
  rw [decide_eq_true (by decide)]
  (((with_reducible refine e_opN v_pickT Imp.nil ?_))); ((with_reducible refine e_gdT ?_)); ((with_reducible refine e_gdT ?_))
  refine e_opN (v_str (l := [97, 98, 99]) (rd_sl (by decide) (fun _ => ⟨h2, rfl⟩)) (fun c => by cases c)) (.pick (by (repeat constructor)) .nil) ?_
  ((with_reducible refine e_gdT ?_))
  refine e_opN (v_streq (l := [97, 98, 99]) (m := [97, 98, 99])) Imp.nil ?_
  rw [decide_eq_true rfl]
  (((with_reducible refine e_opN v_pickT Imp.nil ?_))); ((with_reducible refine e_gdT ?_)); ((with_reducible refine e_gdT ?_))
  refine e_opN v_eql Imp.nil ?_
  rw [decide_eq_true (by decide)]
  (((with_reducible refine e_opN v_pickT Imp.nil ?_)))
  (first | refine e_ret (()) rfl ?_ | refine e_retT (()) ?_)
  (repeat (first | exact Imp.refl | exact Imp.nil | (apply Imp.pick; (focus ((repeat constructor); done))) | refine Imp.drop ?_))
end Go.Proofs.Ytehfblkpbadikab.IF
