/- A stream's blocks, one behind the other; what is given up is told. No conditions but those that each names. -/
import Derived.Test.YtehfblkpbadikaaInf8
import Derived.Test.YtehfblkpbadikaaIface
set_option linter.unusedVariables false
set_option linter.unusedSimpArgs false
namespace Go.Proofs.Ytehfblkpbadikaa.IF
open Go Go.Proofs Go.RowKit Go.Proofs.Ytehfblkpbadikaa.Sh Go.Proofs.Ytehfblkpbadikaa.Sl Go.Proofs.Ytehfblkpbadikaa.T Go.Proofs.Ytehfblkpbadikaa.HM Go.Proofs.Ytehfblkpbadikaa.HF Go.Proofs.Ytehfblkpbadikaa.B Go.Proofs.Ytehfblkpbadikaa.M
/-- a block of a kind -/
def mKind (k : Nat) (b : List UInt8) (most : Int) (at_ : Nat) (out : List UInt8) : Except Int (Nat × List UInt8) :=
  if k = 0 then mStored b most at_ out else if k = 1 then mS litL dstL b most at_ out else if k = 2 then mDyn b most at_ out else .error 31
theorem none_ {W : World} {p at_ : Nat} {b out : List UInt8} {most : Int} : CnP Try.prog 70 [.pointer (some ⟨p, 0, none⟩)] W [IsS p b at_ out most] (fun _ : Ok (mKind 3 b most at_ out) => .tuple #[]) (fun x => [IsS p b x.1.1 x.1.2 most]) (fun y : Er (mKind 3 b most at_ out) => pn y.1) (fun _ => []) := by
  (refine S.inflate_stream_none_cnP fun F => ?_; unfold S.inflate_stream_none; simp only [List.cons_append, List.nil_append, -eq_self])
  refine e_opN v_mkI Imp.nil ?_
  refine e_panic ?_
  refine e_pan ⟨31, rfl⟩ rfl ?_
  (repeat (first | exact Imp.refl | exact Imp.nil | (apply Imp.pick; (focus ((repeat constructor); done))) | refine Imp.drop ?_))
/-- the blocks that are left -/
def mLoop (b : List UInt8) (most : Int) : Nat → Nat → List UInt8 → List (Int × Int) → Except Int (Nat × List UInt8 × List (Int × Int))
  | 0, _, _, _ => .error 20
  | f + 1, at_, out, l =>
    if takR b at_ 1 ≠ 0 then .error (takR b at_ 1) else
    if takR b (takAt b at_ 1) 2 ≠ 0 then .error (takR b (takAt b at_ 1) 2) else
    match mKind (takN b (takAt b at_ 1) 2) b most (takAt b (takAt b at_ 1) 2) out with
    | .error e => .error e
    | .ok (a, o) => if takN b at_ 1 = 0 then mLoop b most f a o (l ++ [((takN b (takAt b at_ 1) 2 : Int), (o.length : Int) - (out.length : Int))]) else .ok (a, o, l ++ [((takN b (takAt b at_ 1) 2 : Int), (o.length : Int) - (out.length : Int))])
/-- all of a stream -/
def mAll (b : List UInt8) (most : Int) : Except Int (Nat × List UInt8 × List (Int × Int)) :=
  if most < 0 ∨ 1048576 < most then .error 1 else if 1048576 < b.length then .error 6 else mLoop b most (8 * b.length + 1) 0 [] []
def aO (b : List UInt8) (most : Int) : List UInt8 := match mAll b most with
  | .ok x => x.2.1
  | .error _ => []
def aL (b : List UInt8) (most : Int) : List (Int × Int) := match mAll b most with
  | .ok x => x.2.2
  | .error _ => []
def aU (b : List UInt8) (most : Int) : Int := match mAll b most with
  | .ok x => (b.length : Int) - (8 * (b.length : Int) - x.1) / 8
  | .error _ => 0
def aE (b : List UInt8) (most : Int) : Int := match mAll b most with
  | .ok _ => 0
  | .error e => e
def blk (x : Int × Int) : List Value := [I x.1, I x.2]
theorem mStored_ok {b : List UInt8} {most : Int} {at_ : Nat} {out : List UInt8} {a : Nat} {o : List UInt8} (h : mStored b most at_ out = .ok (a, o)) (h0 : (out.length : Int) ≤ most) : (o.length : Int) ≤ most := by
  unfold mStored at h
  obtain ⟨_, h⟩ := ite_err h
  obtain ⟨_, h⟩ := ite_err h
  obtain ⟨_, h⟩ := ite_err h
  obtain ⟨c, h⟩ := ite_err h
  obtain ⟨_, h⟩ := ite_err h
  have := (Prod.mk.inj (Except.ok.inj h)).2
  rw [← this, List.length_append]
  have hle : (rrB b (takAt b (takAt b ((at_ + 7) / 8 * 8) 16) 16) (takN b ((at_ + 7) / 8 * 8) 16 : Int)).length ≤ takN b ((at_ + 7) / 8 * 8) 16 := by unfold rrB; split; (rw [List.length_take]; omega); simp
  omega
theorem mDyn_ok {b : List UInt8} {most : Int} {at_ : Nat} {out : List UInt8} {a : Nat} {o : List UInt8} (h : mDyn b most at_ out = .ok (a, o)) (h0 : (out.length : Int) ≤ most) : (o.length : Int) ≤ most := by
  unfold mDyn at h
  obtain ⟨_, h⟩ := ite_err h
  obtain ⟨_, h⟩ := ite_err h
  obtain ⟨_, h⟩ := ite_err h
  obtain ⟨_, h⟩ := ite_err h
  split at h
  · cases h
  · obtain ⟨_, h⟩ := ite_err h
    unfold mBoth at h
    split at h
    · cases h
    · obtain ⟨_, h⟩ := ite_err h
      obtain ⟨_, h⟩ := ite_err h
      obtain ⟨_, h⟩ := ite_err h
      exact mSyms_ok _ h h0
theorem mKind_ok {k : Nat} {b : List UInt8} {most : Int} {at_ : Nat} {out : List UInt8} {a : Nat} {o : List UInt8} (h : mKind k b most at_ out = .ok (a, o)) (h0 : (out.length : Int) ≤ most) : (o.length : Int) ≤ most := by
  unfold mKind at h
  split at h
  · exact mStored_ok h h0
  split at h
  · exact mSyms_ok _ h h0
  split at h
  · exact mDyn_ok h h0
  · cases h
theorem rrAt_le (b : List UInt8) (at_ : Nat) (k : Int) : at_ ≤ rrAt b at_ k := by unfold rrAt; split <;> omega
theorem mStored_at {b : List UInt8} {most : Int} {at_ : Nat} {out : List UInt8} {a : Nat} {o : List UInt8} (h : mStored b most at_ out = .ok (a, o)) : at_ ≤ a := by
  unfold mStored at h
  obtain ⟨_, h⟩ := ite_err h
  obtain ⟨_, h⟩ := ite_err h
  obtain ⟨_, h⟩ := ite_err h
  obtain ⟨c, h⟩ := ite_err h
  obtain ⟨_, h⟩ := ite_err h
  have := (Prod.mk.inj (Except.ok.inj h)).1
  have l1 := takAt_le b ((at_ + 7) / 8 * 8) 16
  have l2 := takAt_le b (takAt b ((at_ + 7) / 8 * 8) 16) 16
  have l3 := rrAt_le b (takAt b (takAt b ((at_ + 7) / 8 * 8) 16) 16) (takN b ((at_ + 7) / 8 * 8) 16 : Int)
  omega
theorem mRound_at {la lb : List Int} {b : List UInt8} {most : Int} {at_ : Nat} {out : List UInt8} {t : Bool} {a : Nat} {o : List UInt8} (h : mRound la lb b most at_ out = .ok (t, a, o)) : at_ ≤ a := by
  have ho : ∀ {t' : Bool} {a' : Nat} {o' : List UInt8}, (Except.ok (t', a', o') : Except Int (Bool × Nat × List UInt8)) = .ok (t, a, o) → a' = a := fun e => (Prod.mk.inj (Prod.mk.inj (Except.ok.inj e)).2).1
  have n1 := (nxt_at la b at_).1
  unfold mRound at h
  simp only at h
  obtain ⟨_, h⟩ := ite_err h
  by_cases c1 : (nxt la b at_).1 = 256
  · rw [if_pos c1] at h
    rw [← ho h]; exact n1
  rw [if_neg c1] at h
  by_cases c2 : (nxt la b at_).1 < 256
  · rw [if_pos c2] at h
    obtain ⟨c3, h⟩ := ite_err h
    rw [← ho h]; exact n1
  rw [if_neg c2] at h
  obtain ⟨_, h⟩ := ite_err h
  obtain ⟨_, h⟩ := ite_err h
  obtain ⟨_, h⟩ := ite_err h
  obtain ⟨_, h⟩ := ite_err h
  obtain ⟨_, h⟩ := ite_err h
  obtain ⟨_, h⟩ := ite_err h
  obtain ⟨c3, h⟩ := ite_err h
  rw [← ho h]
  have l1 := takAt_le b (nxt la b at_).2.2 (bL (nxt la b at_).1).2
  have l2 := (nxt_at lb b (takAt b (nxt la b at_).2.2 (bL (nxt la b at_).1).2)).1
  have l3 := takAt_le b (nxt lb b (takAt b (nxt la b at_).2.2 (bL (nxt la b at_).1).2)).2.2 (bD (nxt lb b (takAt b (nxt la b at_).2.2 (bL (nxt la b at_).1).2)).1).2
  exact Nat.le_trans n1 (Nat.le_trans l1 (Nat.le_trans l2 l3))
theorem mSyms_at {la lb : List Int} {b : List UInt8} {most : Int} : ∀ (f : Nat) {at_ : Nat} {out : List UInt8} {a : Nat} {o : List UInt8}, mSyms la lb b most f at_ out = .ok (a, o) → at_ ≤ a
  | 0, _, _, _, _, h => by cases h
  | f + 1, at_, out, a, o, h => by
    rw [mSyms] at h
    split at h
    · cases h
    · rename_i hr
      cases h
      exact mRound_at hr
    · rename_i hr
      exact Nat.le_trans (mRound_at hr) (mSyms_at f h)
theorem mCl_at (b : List UInt8) : ∀ (ks : List Nat) {at_ a : Nat} {l r : List Int}, mCl b ks at_ l = .ok (a, r) → at_ ≤ a
  | [], at_, a, l, r, h => by
    have := Prod.mk.inj (Except.ok.inj h)
    omega
  | k :: ks, at_, a, l, r, h => by
    rw [mCl] at h
    exact Nat.le_trans (takAt_le b at_ 3) (mCl_at b ks (ite_err h).2)
theorem mRun_at {l : List Int} {b : List UInt8} {at_ : Nat} {acc : List Int} {v t : Int} {a : Nat} (h : mRun l b at_ acc = .ok (v, t, a)) : at_ ≤ a := by
  have ho : ∀ {v' t' : Int} {a' : Nat}, (Except.ok (v', t', a') : Except Int (Int × Int × Nat)) = .ok (v, t, a) → a' = a := fun e => (Prod.mk.inj (Prod.mk.inj (Except.ok.inj e)).2).2
  have n1 := (nxt_at l b at_).1
  unfold mRun at h
  simp only at h
  obtain ⟨c0, h⟩ := ite_err h
  by_cases c1 : (nxt l b at_).1 = 16
  · rw [if_pos c1] at h
    obtain ⟨_, h⟩ := ite_err h
    obtain ⟨c2, h⟩ := ite_err h
    have hle := takAt_le b (nxt l b at_).2.2 2
    rw [← ho h]; omega
  rw [if_neg c1] at h
  by_cases c2 : (nxt l b at_).1 = 17
  · rw [if_pos c2] at h
    obtain ⟨_, h⟩ := ite_err h
    have hle := takAt_le b (nxt l b at_).2.2 3
    rw [← ho h]; omega
  rw [if_neg c2] at h
  by_cases c3 : (nxt l b at_).1 = 18
  · rw [if_pos c3] at h
    obtain ⟨_, h⟩ := ite_err h
    have hle := takAt_le b (nxt l b at_).2.2 7
    rw [← ho h]; omega
  rw [if_neg c3] at h
  rw [← ho h]; omega
theorem mRow_at {l : List Int} {b : List UInt8} {n : Nat} : ∀ (f : Nat) {at_ : Nat} {acc : List Int} {a : Nat} {r : List Int}, mRow l b n f at_ acc = .ok (a, r) → at_ ≤ a
  | 0, _, _, _, _, h => by cases h
  | f + 1, at_, acc, a, r, h => by
    rw [mRow] at h
    by_cases c : acc.length < n
    · rw [if_pos c] at h
      cases hr : mRun l b at_ acc with
      | error e => rw [hr] at h; cases h
      | ok q =>
        obtain ⟨v, t, a1⟩ := q
        rw [hr] at h
        simp only at h
        obtain ⟨c1, h⟩ := ite_err h
        exact Nat.le_trans (mRun_at hr) (mRow_at f h)
    · rw [if_neg c] at h
      have := Prod.mk.inj (Except.ok.inj h)
      omega
theorem mDyn_at {b : List UInt8} {most : Int} {at_ : Nat} {out : List UInt8} {a : Nat} {o : List UInt8} (h : mDyn b most at_ out = .ok (a, o)) : at_ ≤ a := by
  have l1 := takAt_le b at_ 5
  have l2 := takAt_le b (takAt b at_ 5) 5
  have l3 := takAt_le b (takAt b (takAt b at_ 5) 5) 4
  unfold mDyn at h
  obtain ⟨_, h⟩ := ite_err h
  obtain ⟨_, h⟩ := ite_err h
  obtain ⟨_, h⟩ := ite_err h
  obtain ⟨_, h⟩ := ite_err h
  split at h
  · cases h
  · rename_i hc
    have l4 := mCl_at b _ hc
    obtain ⟨_, h⟩ := ite_err h
    unfold mBoth at h
    split at h
    · cases h
    · rename_i hr
      have l5 := mRow_at _ hr
      obtain ⟨_, h⟩ := ite_err h
      obtain ⟨_, h⟩ := ite_err h
      obtain ⟨_, h⟩ := ite_err h
      have l6 := mSyms_at _ h
      omega
theorem mKind_at {k : Nat} {b : List UInt8} {most : Int} {at_ : Nat} {out : List UInt8} {a : Nat} {o : List UInt8} (h : mKind k b most at_ out = .ok (a, o)) : at_ ≤ a := by
  unfold mKind at h
  split at h
  · exact mStored_at h
  split at h
  · exact mSyms_at _ h
  split at h
  · exact mDyn_at h
  · cases h
def kf (k : Nat) : FuncId := if k = 0 then 67 else if k = 1 then 68 else if k = 2 then 69 else 70
theorem kind {W : World} {p at_ k : Nat} {b out : List UInt8} {most : Int} (hk : k < 4) (h1 : 0 ≤ most ∧ most ≤ 1048576) (h2 : (out.length : Int) ≤ most) :
    CnP Try.prog (kf k) [.pointer (some ⟨p, 0, none⟩)] W [IsS p b at_ out most] (fun _ : Ok (mKind k b most at_ out) => .tuple #[]) (fun x => [IsS p b x.1.1 x.1.2 most]) (fun y : Er (mKind k b most at_ out) => pn y.1) (fun _ => []) := by
  have : k = 0 ∨ k = 1 ∨ k = 2 ∨ k = 3 := by omega
  rcases this with rfl | rfl | rfl | rfl
  · exact stored (by omega) (by omega)
  · exact fixed h1 h2
  · exact dynamic h1 h2
  · exact none_
/-- what is given up is told by its number -/
theorem fails {W : World} {F : List HP} {g4 g5 g6 g7 : Nat} {v4 v5 v6 v7 : Value} {e : Int} {K : Value → WP} {Kq : PK}
    (h : Ent W (pt g4 (.cells #[.slice none 0 0] 39) :: pt g5 (.cells #[.slice none 0 0] 46) :: pt g6 (.cells #[.int .i64 0] 3) :: pt g7 (.cells #[.int .i64 e] 23) :: F) (K (.tuple #[.slice none 0 0, .slice none 0 0, .int .i64 0, .int .i64 e]))) :
    Ent W (pt g4 (.cells #[v4] 39) :: pt g5 (.cells #[v5] 46) :: pt g6 (.cells #[v6] 3) :: pt g7 (.cells #[v7] 23) :: F)
      (KpD Try.prog { target := .fn (.func 66) ([.pointer (some ⟨g4, 0, none⟩), .pointer (some ⟨g5, 0, none⟩), .pointer (some ⟨g6, 0, none⟩), .pointer (some ⟨g7, 0, none⟩)] : List Value).toArray, args := ([] : List Value).toArray } (S.inflate_all_ret (.pointer (some ⟨g4, 0, none⟩)) (.pointer (some ⟨g5, 0, none⟩)) (.pointer (some ⟨g6, 0, none⟩)) (.pointer (some ⟨g7, 0, none⟩)) K) Kq (pn e)) := by
  unfold KpD
  refine e_dfS (f := 66) (A := [.pointer (some ⟨g4, 0, none⟩), .pointer (some ⟨g5, 0, none⟩), .pointer (some ⟨g6, 0, none⟩), .pointer (some ⟨g7, 0, none⟩)]) (shape := fun rv => S.inflate_all_1 (.pointer (some ⟨g4, 0, none⟩)) (.pointer (some ⟨g5, 0, none⟩)) (.pointer (some ⟨g6, 0, none⟩)) (.pointer (some ⟨g7, 0, none⟩)) rv) (fun c => by cases c) ⟨_, _, rfl⟩ (inv_closure (cs := [.pointer (some ⟨g4, 0, none⟩), .pointer (some ⟨g5, 0, none⟩), .pointer (some ⟨g6, 0, none⟩), .pointer (some ⟨g7, 0, none⟩)]) (bs := []) Try.call66) (fun h => S.inflate_all_1_d h) ?_
  unfold S.inflate_all_1 pn
  rw [rec_pan, lv_pan]
  refine e_opN (v_neIf (by kernel_rfl)) Imp.nil ?_
  refine e_condT ?_
  refine e_drS ?_
  refine e_stD (v_ta (k := .i64) (by kernel_rfl)) Imp.nil ?_
  (((with_reducible refine' e_stN ?hp ?ho ?_); (case hp => (repeat constructor)); (case ho => (repeat (first | exact Put.here | apply Put.there))))); (((with_reducible refine e_obl ?hi ?_); (case hi => (repeat (first | exact Imp.refl | exact Imp.nil | (apply Imp.pick; (focus ((repeat constructor); done))) | refine Imp.drop ?_))))); (((with_reducible refine' e_stN ?hp ?ho ?_); (case hp => (repeat constructor)); (case ho => (repeat (first | exact Put.here | apply Put.there))))); (((with_reducible refine e_obl ?hi ?_); (case hi => (repeat (first | exact Imp.refl | exact Imp.nil | (apply Imp.pick; (focus ((repeat constructor); done))) | refine Imp.drop ?_))))); (((with_reducible refine' e_stN ?hp ?ho ?_); (case hp => (repeat constructor)); (case ho => (repeat (first | exact Put.here | apply Put.there))))); (((with_reducible refine e_obl ?hi ?_); (case hi => (repeat (first | exact Imp.refl | exact Imp.nil | (apply Imp.pick; (focus ((repeat constructor); done))) | refine Imp.drop ?_))))); (((with_reducible refine' e_stN ?hp ?ho ?_); (case hp => (repeat constructor)); (case ho => (repeat (first | exact Put.here | apply Put.there)))))
  unfold S.inflate_all_ret
  (((with_reducible refine' e_stS (v_res1 ?hc) ?hi ?_); (case hi => (repeat (first | exact Imp.refl | exact Imp.nil | (apply Imp.pick; (focus ((repeat constructor); done))) | refine Imp.drop ?_))); (case hc => (repeat (first | exact Nth.here | apply Nth.there))))); (((with_reducible refine' e_stS (v_res1 ?hc) ?hi ?_); (case hi => (repeat (first | exact Imp.refl | exact Imp.nil | (apply Imp.pick; (focus ((repeat constructor); done))) | refine Imp.drop ?_))); (case hc => (repeat (first | exact Nth.here | apply Nth.there))))); (((with_reducible refine' e_stS (v_res1 ?hc) ?hi ?_); (case hi => (repeat (first | exact Imp.refl | exact Imp.nil | (apply Imp.pick; (focus ((repeat constructor); done))) | refine Imp.drop ?_))); (case hc => (repeat (first | exact Nth.here | apply Nth.there))))); (((with_reducible refine' e_stS (v_res1 ?hc) ?hi ?_); (case hi => (repeat (first | exact Imp.refl | exact Imp.nil | (apply Imp.pick; (focus ((repeat constructor); done))) | refine Imp.drop ?_))); (case hc => (repeat (first | exact Nth.here | apply Nth.there)))))
  exact e_imp (by (repeat (first | exact Imp.refl | exact Imp.nil | (apply Imp.pick; (focus ((repeat constructor); done))) | refine Imp.drop ?_))) h
/-- with the stream's cells in sight -/
theorem stakeX {W : World} {p r at_ : Nat} {b : List UInt8} {v : Value} {most k : Int} : CnP Try.prog 71 [.pointer (some ⟨p, 0, none⟩), .int .i64 k] W [pt p (.cells #[.pointer (some ⟨r, 0, none⟩), v, .int .i64 most] 126), IsR r b at_]
    (fun _ : If (takR b at_ k = 0) => .int .i64 (takN b at_ k : Int)) (fun _ => [pt p (.cells #[.pointer (some ⟨r, 0, none⟩), v, .int .i64 most] 126), IsR r b (takAt b at_ k)]) (fun _ : If (takR b at_ k ≠ 0) => pn (takR b at_ k)) (fun _ => []) := by
  (refine S.inflate_stream_take_cnP fun F => ?_; unfold S.inflate_stream_take; simp only [List.cons_append, List.nil_append, -eq_self])
  (((with_reducible refine e_opN v_nil Imp.nil ?_))); (((with_reducible refine e_opN v_fa0 Imp.nil ?_))); (((with_reducible refine' e_opN (v_ldN ?hc) ?hi ?_); (case hi => (repeat (first | exact Imp.refl | exact Imp.nil | (apply Imp.pick; (focus ((repeat constructor); done))) | refine Imp.drop ?_))); (case hc => (repeat (first | exact Nth.here | apply Nth.there)))))
  (refine' e_call (B.take) ?hp fun _ => ?_; (case hp => (repeat (first | exact Picks.nil | (apply Picks.cons; (focus (repeat constructor)))))); (try simp only [List.cons_append, List.nil_append, Bool.not_true, Bool.not_false]))
  (((with_reducible refine' e_opN (v_ext ?h1) Imp.nil ?_); (case h1 => rfl))); (((with_reducible refine' e_opN (v_ext ?h1) Imp.nil ?_); (case h1 => rfl)))
  (refine' e_callP (must) ?hp (fun _ => ?_) (fun _ => ?_); (case hp => (repeat (first | exact Picks.nil | (apply Picks.cons; (focus (repeat constructor)))))); (all_goals (try simp only [List.cons_append, List.nil_append, Bool.not_true, Bool.not_false, -eq_self])))
  · rename_i x
    (first | refine e_ret (yes (x.2)) rfl ?_ | refine e_retT (yes (x.2)) ?_)
    (repeat (first | exact Imp.refl | exact Imp.nil | (apply Imp.pick; (focus ((repeat constructor); done))) | refine Imp.drop ?_))
  · rename_i y
    refine e_pan (yes (y.2)) rfl ?_
    (repeat (first | exact Imp.refl | exact Imp.nil | (apply Imp.pick; (focus ((repeat constructor); done))) | refine Imp.drop ?_))
theorem takN1 (b : List UInt8) (at_ : Nat) : takN b at_ 1 = 0 ∨ takN b at_ 1 = 1 := by
  have := takN_lt (b := b) (at_ := at_) (k := 1)
  have e : takN b at_ ((1 : Nat) : Int) = takN b at_ 1 := rfl
  rw [e] at this
  omega
theorem kf_get {k : Nat} (hk : k < 4) : (#[fn 67, fn 68, fn 69, fn 70] : Array Value)[k]? = some (fn (kf k)) := by
  have : k = 0 ∨ k = 1 ∨ k = 2 ∨ k = 3 := by omega
  rcases this with rfl | rfl | rfl | rfl <;> rfl
/-- a list of blocks takes its rounds -/
theorem blk_app (l : List (Int × Int)) (x : Int × Int) : (l ++ [x]).flatMap blk = l.flatMap blk ++ [I x.1, I x.2] := by simp [blk]
theorem all_ {W : World} {a : Option Addr} {cap : Nat} {b : List UInt8} {A : HP} {most : Int} (hr : RdB W A a b.length (b.map B)) (ha : a = none → b.length = 0) (hb : b.length ≤ 140737488355328) :
    Cn Try.prog 52 [.slice a b.length cap, .int .i64 most] W [A]
      (fun q : (Option Addr × Nat) × (Option Addr × Nat) => .tuple #[.slice q.1.1 (aO b most).length q.1.2, .slice q.2.1 (aL b most).length q.2.2, .int .i64 (aU b most), .int .i64 (aE b most)])
      (fun q => [Sl 1 5 q.1.1 q.1.2 (aO b most).length ((aO b most).map B), Sl 2 53 q.2.1 q.2.2 (aL b most).length ((aL b most).flatMap blk), A]) := by
  (refine S.inflate_all_cn fun F => ?_; unfold S.inflate_all; simp only [List.cons_append, List.nil_append])
  refine e_new1 fun g4 => ?_
  refine e_new1 fun g5 => ?_
  refine e_new1 fun g6 => ?_
  refine e_new1 fun g7 => ?_
  obtain ⟨T, hT⟩ : ∃ T, T = mAll b most := ⟨_, rfl⟩
  have bad : ∀ e : Int, T = .error e → aO b most = [] ∧ aL b most = [] ∧ aU b most = 0 ∧ aE b most = e := by
    intro e he
    rw [hT] at he
    simp [aO, aL, aU, aE, he]
  have good : ∀ (a1 : Nat) (o1 : List UInt8) (l1 : List (Int × Int)), T = .ok (a1, o1, l1) → aO b most = o1 ∧ aL b most = l1 ∧ aU b most = (b.length : Int) - (8 * (b.length : Int) - a1) / 8 ∧ aE b most = 0 := by
    intro a1 o1 l1 he
    rw [hT] at he
    simp [aO, aL, aU, aE, he]
  have fin : ∀ (e : Int) (L : List HP), T = .error e → Imp W L (A :: F) → Ent W L (fun w => ∃ q : (Option Addr × Nat) × (Option Addr × Nat), (.tuple #[.slice none 0 0, .slice none 0 0, .int .i64 0, .int .i64 e] : Value) = .tuple #[.slice q.1.1 (aO b most).length q.1.2, .slice q.2.1 (aL b most).length q.2.2, .int .i64 (aU b most), .int .i64 (aE b most)] ∧ sat W ([Sl 1 5 q.1.1 q.1.2 (aO b most).length ((aO b most).map B), Sl 2 53 q.2.1 q.2.2 (aL b most).length ((aL b most).flatMap blk), A] ++ F) w) := by
    intro e L he hi
    obtain ⟨h1, h2, h3, h4⟩ := bad e he
    rw [h1, h2, h3, h4]
    refine e_imp hi ?_
    refine e_nil (s := 1) (e := 5) ?_
    refine e_nil (s := 2) (e := 53) ?_
    refine e_ret ((none, 0), (none, 0)) rfl ?_
    (repeat (first | exact Imp.refl | exact Imp.nil | (apply Imp.pick; (focus ((repeat constructor); done))) | refine Imp.drop ?_))
  unfold mAll at hT
  refine e_cut1 (fun z => [pu (z = .bool (decide (most < 0 ∨ 1048576 < most))), pt g4 (.cells #[.slice none 0 0] 39), pt g5 (.cells #[.slice none 0 0] 46), pt g6 (.cells #[.int .i64 0] 3), pt g7 (.cells #[.int .i64 0] 23), A] ++ F) ?_ ?_
  rotate_left
  · (refine e_ask v_lss Imp.nil (fun h => ?_) (fun h => ?_))
    · refine e_condT ?_
      refine e_sat (.pu (by rw [decide_eq_true (.inl h)]) ?_)
      (repeat (first | exact Imp.refl | exact Imp.nil | (apply Imp.pick; (focus ((repeat constructor); done))) | refine Imp.drop ?_))
    · refine e_condF ?_
      (refine e_ask v_gtr Imp.nil (fun h => ?_) (fun h => ?_))
      · refine e_sat (.pu (by rw [decide_eq_true (.inr h)]) ?_)
        (repeat (first | exact Imp.refl | exact Imp.nil | (apply Imp.pick; (focus ((repeat constructor); done))) | refine Imp.drop ?_))
      · refine e_sat (.pu (by rw [decide_eq_false (by omega)]) ?_)
        (repeat (first | exact Imp.refl | exact Imp.nil | (apply Imp.pick; (focus ((repeat constructor); done))) | refine Imp.drop ?_))
  intro ds z
  (try simp only [List.cons_append, List.nil_append, -eq_self])
  refine e_pu Pick.here fun hz => ?_
  subst hz
  by_cases hm : most < 0 ∨ 1048576 < most
  · rw [if_pos hm] at hT
    rw [decide_eq_true hm]
    ((with_reducible refine e_condT ?_)); (((with_reducible refine' e_stN ?hp ?ho ?_); (case hp => (repeat constructor)); (case ho => (repeat (first | exact Put.here | apply Put.there))))); (((with_reducible refine' e_stN ?hp ?ho ?_); (case hp => (repeat constructor)); (case ho => (repeat (first | exact Put.here | apply Put.there))))); (((with_reducible refine' e_stN ?hp ?ho ?_); (case hp => (repeat constructor)); (case ho => (repeat (first | exact Put.here | apply Put.there))))); (((with_reducible refine' e_stN ?hp ?ho ?_); (case hp => (repeat constructor)); (case ho => (repeat (first | exact Put.here | apply Put.there))))); (((with_reducible refine' e_stS (v_res1 ?hc) ?hi ?_); (case hi => (repeat (first | exact Imp.refl | exact Imp.nil | (apply Imp.pick; (focus ((repeat constructor); done))) | refine Imp.drop ?_))); (case hc => (repeat (first | exact Nth.here | apply Nth.there))))); (((with_reducible refine' e_stS (v_res1 ?hc) ?hi ?_); (case hi => (repeat (first | exact Imp.refl | exact Imp.nil | (apply Imp.pick; (focus ((repeat constructor); done))) | refine Imp.drop ?_))); (case hc => (repeat (first | exact Nth.here | apply Nth.there))))); (((with_reducible refine' e_stS (v_res1 ?hc) ?hi ?_); (case hi => (repeat (first | exact Imp.refl | exact Imp.nil | (apply Imp.pick; (focus ((repeat constructor); done))) | refine Imp.drop ?_))); (case hc => (repeat (first | exact Nth.here | apply Nth.there))))); (((with_reducible refine' e_stS (v_res1 ?hc) ?hi ?_); (case hi => (repeat (first | exact Imp.refl | exact Imp.nil | (apply Imp.pick; (focus ((repeat constructor); done))) | refine Imp.drop ?_))); (case hc => (repeat (first | exact Nth.here | apply Nth.there)))))
    exact fin 1 _ hT (by (repeat (first | exact Imp.refl | exact Imp.nil | (apply Imp.pick; (focus ((repeat constructor); done))) | refine Imp.drop ?_)))
  rw [if_neg hm] at hT
  rw [decide_eq_false hm]
  ((with_reducible refine e_condF ?_)); (((with_reducible refine e_opN v_len Imp.nil ?_)))
  (refine e_ask v_gtr Imp.nil (fun h => ?_) (fun h => ?_))
  · rw [if_pos (by omega)] at hT
    ((with_reducible refine e_condT ?_)); (((with_reducible refine' e_stN ?hp ?ho ?_); (case hp => (repeat constructor)); (case ho => (repeat (first | exact Put.here | apply Put.there))))); (((with_reducible refine' e_stN ?hp ?ho ?_); (case hp => (repeat constructor)); (case ho => (repeat (first | exact Put.here | apply Put.there))))); (((with_reducible refine' e_stN ?hp ?ho ?_); (case hp => (repeat constructor)); (case ho => (repeat (first | exact Put.here | apply Put.there))))); (((with_reducible refine' e_stN ?hp ?ho ?_); (case hp => (repeat constructor)); (case ho => (repeat (first | exact Put.here | apply Put.there))))); (((with_reducible refine' e_stS (v_res1 ?hc) ?hi ?_); (case hi => (repeat (first | exact Imp.refl | exact Imp.nil | (apply Imp.pick; (focus ((repeat constructor); done))) | refine Imp.drop ?_))); (case hc => (repeat (first | exact Nth.here | apply Nth.there))))); (((with_reducible refine' e_stS (v_res1 ?hc) ?hi ?_); (case hi => (repeat (first | exact Imp.refl | exact Imp.nil | (apply Imp.pick; (focus ((repeat constructor); done))) | refine Imp.drop ?_))); (case hc => (repeat (first | exact Nth.here | apply Nth.there))))); (((with_reducible refine' e_stS (v_res1 ?hc) ?hi ?_); (case hi => (repeat (first | exact Imp.refl | exact Imp.nil | (apply Imp.pick; (focus ((repeat constructor); done))) | refine Imp.drop ?_))); (case hc => (repeat (first | exact Nth.here | apply Nth.there))))); (((with_reducible refine' e_stS (v_res1 ?hc) ?hi ?_); (case hi => (repeat (first | exact Imp.refl | exact Imp.nil | (apply Imp.pick; (focus ((repeat constructor); done))) | refine Imp.drop ?_))); (case hc => (repeat (first | exact Nth.here | apply Nth.there)))))
    exact fin 6 _ hT (by (repeat (first | exact Imp.refl | exact Imp.nil | (apply Imp.pick; (focus ((repeat constructor); done))) | refine Imp.drop ?_)))
  rw [if_neg (by omega)] at hT
  refine e_condF ?_
  refine e_opN v_mkF Imp.nil ?_
  refine e_opDf ?_
  simp only [List.nil_append, Array.append_empty, List.append_toArray]
  (refine' e_call (newReader hr ha hb) ?hp fun _ => ?_; (case hp => (repeat (first | exact Picks.nil | (apply Picks.cons; (focus (repeat constructor)))))); (try simp only [List.cons_append, List.nil_append, Bool.not_true, Bool.not_false]))
  rename_i pr
  refine e_opN v_rv Imp.nil ?_
  refine e_boxA fun gs => ?_
  refine e_opN v_rv Imp.nil ?_
  refine e_newA fun gk => ?_
  refine' e_stAgg ?hp ?hn ?hv ?h1 ?_
  case hp => (repeat constructor)
  case hn => rfl
  case hv => rfl
  case h1 => simp [fn, Value.oneCell']
  have bad2 : ∀ (e : Int) (L : List HP) (q : Option Addr × Nat) (n : Nat), T = .error e → Imp W L ([pt g4 (.cells #[.slice none 0 0] 39), pt g5 (.cells #[.slice q.1 n q.2] 46), pt g6 (.cells #[.int .i64 0] 3), pt g7 (.cells #[.int .i64 0] 23), A] ++ F) → Ent W L (KpD Try.prog { target := .fn (.func 66) ([.pointer (some ⟨g4, 0, none⟩), .pointer (some ⟨g5, 0, none⟩), .pointer (some ⟨g6, 0, none⟩), .pointer (some ⟨g7, 0, none⟩)] : List Value).toArray, args := ([] : List Value).toArray } (S.inflate_all_ret (.pointer (some ⟨g4, 0, none⟩)) (.pointer (some ⟨g5, 0, none⟩)) (.pointer (some ⟨g6, 0, none⟩)) (.pointer (some ⟨g7, 0, none⟩)) (fun v w => ∃ q : (Option Addr × Nat) × (Option Addr × Nat), v = .tuple #[.slice q.1.1 (aO b most).length q.1.2, .slice q.2.1 (aL b most).length q.2.2, .int .i64 (aU b most), .int .i64 (aE b most)] ∧ sat W ([Sl 1 5 q.1.1 q.1.2 (aO b most).length ((aO b most).map B), Sl 2 53 q.2.1 q.2.2 (aL b most).length ((aL b most).flatMap blk), A] ++ F) w)) noP (pn e)) := by
    intro e L q n he hi
    refine e_imp hi ?_
    (try simp only [List.cons_append, List.nil_append, -eq_self])
    refine fails ?_
    exact fin e _ he (by (repeat (first | exact Imp.refl | exact Imp.nil | (apply Imp.pick; (focus ((repeat constructor); done))) | refine Imp.drop ?_)))
  refine e_nil (s := 2) (e := 53) ?_
  refine e_nil (s := 1) (e := 5) ?_
  refine e_imp (M := IsS gs b 0 [] most :: Sl 2 53 none 0 0 [] :: pt gk (.cells #[fn 67, fn 68, fn 69, fn 70] 128) :: pt g4 (.cells #[.slice none 0 0] 39) :: pt g5 (.cells #[.slice none 0 0] 46) :: pt g6 (.cells #[.int .i64 0] 3) :: pt g7 (.cells #[.int .i64 0] 23) :: A :: F) (.ex (pr, (none, 0)) (.all (.pick (by (repeat constructor)) (.pick (by (repeat constructor)) (.pick (by (repeat constructor)) (by (repeat (first | exact Imp.refl | exact Imp.nil | (apply Imp.pick; (focus ((repeat constructor); done))) | refine Imp.drop ?_)))))))) ?_
  have hm0 : 0 ≤ most ∧ most ≤ 1048576 := by omega
  refine e_loop1 (fun m y => [ex fun at1 : Nat => ex fun out : List UInt8 => ex fun l : List (Int × Int) => ex fun q : Option Addr × Nat => all [pu (((y = .int .i64 0 ∧ 8 * b.length + 1 ≤ m + at1 ∧ T = mLoop b most m at1 out l) ∨ (y = .int .i64 1 ∧ T = .ok (at1, out, l))) ∧ (out.length : Int) ≤ most ∧ l.length ≤ at1), IsS gs b at1 out most, Sl 2 53 q.1 q.2 l.length (l.flatMap blk), pt gk (.cells #[fn 67, fn 68, fn 69, fn 70] 128), pt g4 (.cells #[.slice none 0 0] 39), pt g5 (.cells #[.slice q.1 l.length q.2] 46), pt g6 (.cells #[.int .i64 0] 3), pt g7 (.cells #[.int .i64 0] 23), A]] ++ F) (8 * b.length + 1) ?_ ?_
  · refine .ex 0 (.ex [] (.ex [] (.ex (none, 0) (.all ?_))))
    (try simp only [List.cons_append, List.nil_append, -eq_self])
    refine .pu ⟨.inl ⟨rfl, by omega, hT⟩, by simpa using hm0.1, by simp⟩ ?_
    (repeat (first | exact Imp.refl | exact Imp.nil | (apply Imp.pick; (focus ((repeat constructor); done))) | refine Imp.drop ?_))
  clear hT
  intro m ds y
  (try simp only [List.cons_append, List.nil_append, -eq_self])
  refine e_ex Pick.here fun at1 => e_ex Pick.here fun out => e_ex Pick.here fun l => e_ex Pick.here fun q => e_all Pick.here ?_
  obtain ⟨qa, qc⟩ := q
  (try simp only [List.cons_append, List.nil_append, -eq_self])
  refine e_pu Pick.here fun hi => ?_
  obtain ⟨hi, ho, hll⟩ := hi
  refine e_rfactS .here fun hat => ?_
  rcases hi with ⟨rfl, hm, hT⟩ | ⟨rfl, hT⟩
  · refine e_opN v_eql Imp.nil ?_
    rw [decide_eq_true rfl]
    refine e_condT ?_
    obtain ⟨m, rfl⟩ : ∃ m', m = m' + 1 := ⟨m - 1, by omega⟩
    rw [mLoop] at hT
    (refine' e_callP (stake) ?hp (fun _ => ?_) (fun _ => ?_); (case hp => (repeat (first | exact Picks.nil | (apply Picks.cons; (focus (repeat constructor)))))); (all_goals (try simp only [List.cons_append, List.nil_append, Bool.not_true, Bool.not_false, -eq_self])))
    rotate_left
    · rename_i y
      rw [if_pos y.2] at hT
      exact bad2 _ _ (qa, qc) l.length hT (by (repeat (first | exact Imp.refl | exact Imp.nil | (apply Imp.pick; (focus ((repeat constructor); done))) | refine Imp.drop ?_)))
    rename_i x1
    rw [if_neg (fun c => c x1.2)] at hT
    have ha1 : takAt b at1 1 = at1 + 1 := by unfold takAt; rw [if_pos x1.2]; rfl
    have hl1 := takN1 b at1
    obtain ⟨last, hlast⟩ : ∃ l, l = takN b at1 1 := ⟨_, rfl⟩
    rw [← hlast] at hl1
    rw [← hlast, ha1] at hT ⊢
    refine e_drS ?_
    refine e_ex Pick.here fun q => e_all Pick.here ?_
    obtain ⟨r, sa, sc⟩ := q
    (try simp only [List.cons_append, List.nil_append, -eq_self])
    (((with_reducible refine e_stD v_nil Imp.nil ?_))); (((with_reducible refine e_stD v_fa0 Imp.nil ?_))); (((with_reducible refine' e_stD (v_ldN ?hc) ?hi ?_); (case hi => (repeat (first | exact Imp.refl | exact Imp.nil | (apply Imp.pick; (focus ((repeat constructor); done))) | refine Imp.drop ?_))); (case hc => (repeat (first | exact Nth.here | apply Nth.there))))); (((with_reducible refine e_stD v_len Imp.nil ?_)))
    (refine' e_callP (stakeX) ?hp (fun _ => ?_) (fun _ => ?_); (case hp => (repeat (first | exact Picks.nil | (apply Picks.cons; (focus (repeat constructor)))))); (all_goals (try simp only [List.cons_append, List.nil_append, Bool.not_true, Bool.not_false, -eq_self])))
    rotate_left
    · rename_i y
      rw [if_pos y.2] at hT
      exact bad2 _ _ (qa, qc) l.length hT (by (repeat (first | exact Imp.refl | exact Imp.nil | (apply Imp.pick; (focus ((repeat constructor); done))) | refine Imp.drop ?_)))
    rename_i x2
    rw [if_neg (fun c => c x2.2)] at hT
    have hk4 := takN_lt (b := b) (at_ := at1 + 1) (k := 2)
    have hkE : takN b (at1 + 1) ((2 : Nat) : Int) = takN b (at1 + 1) 2 := rfl
    rw [hkE] at hk4
    have hlt2 := takAt_le b (at1 + 1) 2
    obtain ⟨kk, hkk⟩ : ∃ k, k = takN b (at1 + 1) 2 := ⟨_, rfl⟩
    obtain ⟨a2, ha2⟩ : ∃ a, a = takAt b (at1 + 1) 2 := ⟨_, rfl⟩
    rw [← hkk] at hk4
    rw [← ha2] at hlt2
    rw [← hkk, ← ha2] at hT ⊢
    have hk4 : kk < 4 := hk4
    (((with_reducible refine e_obl ?hi ?_); (case hi => (repeat (first | exact Imp.refl | exact Imp.nil | (apply Imp.pick; (focus ((repeat constructor); done))) | refine Imp.drop ?_))))); (((with_reducible refine e_obl ?hi ?_); (case hi => (repeat (first | exact Imp.refl | exact Imp.nil | (apply Imp.pick; (focus ((repeat constructor); done))) | refine Imp.drop ?_))))); (((with_reducible refine e_obl ?hi ?_); (case hi => (repeat (first | exact Imp.refl | exact Imp.nil | (apply Imp.pick; (focus ((repeat constructor); done))) | refine Imp.drop ?_))))); (((with_reducible refine e_obl ?hi ?_); (case hi => (repeat (first | exact Imp.refl | exact Imp.nil | (apply Imp.pick; (focus ((repeat constructor); done))) | refine Imp.drop ?_)))))
    refine e_opN (v_iaA kk (by rfl) hk4) Imp.nil ?_
    refine e_opN (v_ld (v := fn (kf kk)) (by rw [Nat.zero_add, Nat.mul_one]; exact kf_get hk4)) (.pick (by (repeat constructor)) .nil) ?_
    refine e_imp (M := IsS gs b a2 out most :: Sl 2 53 qa qc l.length (l.flatMap blk) :: pt gk (.cells #[fn 67, fn 68, fn 69, fn 70] 128) :: pt g4 (.cells #[.slice none 0 0] 39) :: pt g5 (.cells #[.slice qa l.length qc] 46) :: pt g6 (.cells #[.int .i64 0] 3) :: pt g7 (.cells #[.int .i64 0] 23) :: A :: F) (.ex (r, (sa, sc)) (.all (.pick (by (repeat constructor)) (.pick (by (repeat constructor)) (.pick (by (repeat constructor)) (by (repeat (first | exact Imp.refl | exact Imp.nil | (apply Imp.pick; (focus ((repeat constructor); done))) | refine Imp.drop ?_)))))))) ?_
    (refine' e_callP (kind hk4 hm0 ho) ?hp (fun _ => ?_) (fun _ => ?_); (case hp => (repeat (first | exact Picks.nil | (apply Picks.cons; (focus (repeat constructor)))))); (all_goals (try simp only [List.cons_append, List.nil_append, Bool.not_true, Bool.not_false, -eq_self])))
    rotate_left
    · rename_i y
      have hy := y.2
      rw [hy] at hT
      exact bad2 _ _ (qa, qc) l.length hT (by (repeat (first | exact Imp.refl | exact Imp.nil | (apply Imp.pick; (focus ((repeat constructor); done))) | refine Imp.drop ?_)))
    rename_i x3
    obtain ⟨⟨a3, o3⟩, hx3⟩ := x3
    rw [hx3] at hT
    simp only at hT
    have ho3 := mKind_ok hx3 ho
    have ha3 := mKind_at hx3
    (try dsimp only)
    refine e_drS ?_
    refine e_ex Pick.here fun q => e_all Pick.here ?_
    obtain ⟨r3, sa3, sc3⟩ := q
    (try simp only [List.cons_append, List.nil_append, -eq_self])
    (((with_reducible refine' e_stD (v_ldN ?hc) ?hi ?_); (case hi => (repeat (first | exact Imp.refl | exact Imp.nil | (apply Imp.pick; (focus ((repeat constructor); done))) | refine Imp.drop ?_))); (case hc => (repeat (first | exact Nth.here | apply Nth.there))))); (((with_reducible refine e_stS v_nil Imp.nil ?_))); (((with_reducible refine e_stS v_fa0 Imp.nil ?_))); (((with_reducible refine' e_stS (v_ldN ?hc) ?hi ?_); (case hi => (repeat (first | exact Imp.refl | exact Imp.nil | (apply Imp.pick; (focus ((repeat constructor); done))) | refine Imp.drop ?_))); (case hc => (repeat (first | exact Nth.here | apply Nth.there))))); (((with_reducible refine e_stS v_len Imp.nil ?_))); (((with_reducible refine e_stS (v_sub ?h1 ?h2) Imp.nil ?_); (case h1 => omega); (case h2 => omega))); (((with_reducible refine e_stS v_rv Imp.nil ?_)))
    refine e_bslS (n := 1) (vs := [.agg #[.int .i64 (kk : Int), .int .i64 ((o3.length : Int) - (out.length : Int))]]) rfl (by omega) rfl (by intro v hv; rw [List.mem_singleton.1 hv]; rfl) (by omega) fun gb => ?_
    (((with_reducible refine e_obl ?hi ?_); (case hi => (repeat (first | exact Imp.refl | exact Imp.nil | (apply Imp.pick; (focus ((repeat constructor); done))) | refine Imp.drop ?_)))))
    refine e_app (m := 1) (news := [I (kk : Int), I ((o3.length : Int) - (out.length : Int))]) (by (repeat constructor)) (src_pt (e' := 53) (by kernel_rfl) .here (by rfl) (by simp [Value.cells, I, Value.oneCell'])) (by omega) (by omega) fun a' c' => ?_
    (((with_reducible refine' e_stN ?hp ?ho ?_); (case hp => (repeat constructor)); (case ho => (repeat (first | exact Put.here | apply Put.there)))))
    have hT' : (last = 0 ∧ T = mLoop b most m a3 o3 (l ++ [((kk : Int), (o3.length : Int) - (out.length : Int))])) ∨ (last = 1 ∧ T = .ok (a3, o3, l ++ [((kk : Int), (o3.length : Int) - (out.length : Int))])) := by
      rcases hl1 with h | h
      · exact .inl ⟨h, by rw [hT, if_pos h]⟩
      · exact .inr ⟨h, by rw [hT, if_neg (by omega)]⟩
    refine e_next1 m (by omega) (.ex a3 (.ex o3 (.ex (l ++ [((kk : Int), (o3.length : Int) - (out.length : Int))]) (.ex (a', c') (.all ?_)))))
    (try simp only [List.cons_append, List.nil_append, -eq_self])
    refine .pu ⟨?_, ho3, by rw [List.length_append, List.length_singleton]; omega⟩ ?_
    · rcases hT' with ⟨h, e⟩ | ⟨h, e⟩
      · subst h; exact .inl ⟨rfl, by omega, e⟩
      · subst h; exact .inr ⟨rfl, e⟩
    refine .ex (r3, (sa3, sc3)) (.all ?_)
    (try simp only [List.cons_append, List.nil_append, -eq_self])
    rw [List.length_append, blk_app, List.length_singleton]
    exact .pick (by (repeat constructor)) (.pick (by (repeat constructor)) (.pick (by (repeat constructor)) (.pick (by (repeat constructor)) (.pick (by (repeat constructor)) (.pick (by (repeat constructor)) (.pick (by (repeat constructor)) (.pick (by (repeat constructor)) (.pick (by (repeat constructor)) (.pick (by (repeat constructor)) (by (repeat (first | exact Imp.refl | exact Imp.nil | (apply Imp.pick; (focus ((repeat constructor); done))) | refine Imp.drop ?_))))))))))))
  · refine e_opN v_eql Imp.nil ?_
    rw [decide_eq_false (by omega)]
    refine e_condF ?_
    refine e_drS ?_
    refine e_ex Pick.here fun q => e_all Pick.here ?_
    obtain ⟨r, sa, sc⟩ := q
    (try simp only [List.cons_append, List.nil_append, -eq_self])
    (((with_reducible refine e_stD v_nil Imp.nil ?_))); (((with_reducible refine e_stD v_fa0 Imp.nil ?_))); (((with_reducible refine' e_stD (v_ldN ?hc) ?hi ?_); (case hi => (repeat (first | exact Imp.refl | exact Imp.nil | (apply Imp.pick; (focus ((repeat constructor); done))) | refine Imp.drop ?_))); (case hc => (repeat (first | exact Nth.here | apply Nth.there))))); (((with_reducible refine' e_stD (v_ldN ?hc) ?hi ?_); (case hi => (repeat (first | exact Imp.refl | exact Imp.nil | (apply Imp.pick; (focus ((repeat constructor); done))) | refine Imp.drop ?_))); (case hc => (repeat (first | exact Nth.here | apply Nth.there))))); (((with_reducible refine e_stD v_len Imp.nil ?_))); (((with_reducible refine e_stS v_nil Imp.nil ?_))); (((with_reducible refine e_stS v_fa0 Imp.nil ?_))); (((with_reducible refine' e_stS (v_ldN ?hc) ?hi ?_); (case hi => (repeat (first | exact Imp.refl | exact Imp.nil | (apply Imp.pick; (focus ((repeat constructor); done))) | refine Imp.drop ?_))); (case hc => (repeat (first | exact Nth.here | apply Nth.there)))))
    (refine' e_call (left) ?hp fun _ => ?_; (case hp => (repeat (first | exact Picks.nil | (apply Picks.cons; (focus (repeat constructor)))))); (try simp only [List.cons_append, List.nil_append, Bool.not_true, Bool.not_false]))
    (((with_reducible refine e_obl ?hi ?_); (case hi => (repeat (first | exact Imp.refl | exact Imp.nil | (apply Imp.pick; (focus ((repeat constructor); done))) | refine Imp.drop ?_))))); (((with_reducible refine e_obl ?hi ?_); (case hi => (repeat (first | exact Imp.refl | exact Imp.nil | (apply Imp.pick; (focus ((repeat constructor); done))) | refine Imp.drop ?_))))); (((with_reducible refine e_obl ?hi ?_); (case hi => (repeat (first | exact Imp.refl | exact Imp.nil | (apply Imp.pick; (focus ((repeat constructor); done))) | refine Imp.drop ?_))))); (((with_reducible refine e_obl ?hi ?_); (case hi => (repeat (first | exact Imp.refl | exact Imp.nil | (apply Imp.pick; (focus ((repeat constructor); done))) | refine Imp.drop ?_))))); (((with_reducible refine e_obl ?hi ?_); (case hi => (repeat (first | exact Imp.refl | exact Imp.nil | (apply Imp.pick; (focus ((repeat constructor); done))) | refine Imp.drop ?_))))); (((with_reducible refine e_stD (v_quo ?h1 ?h2 ?h3) Imp.nil ?_); (case h1 => omega); (case h2 => omega); (case h3 => omega))); (((with_reducible refine e_stD (v_sub ?h1 ?h2) Imp.nil ?_); (case h1 => omega); (case h2 => omega))); (((with_reducible refine' e_stN ?hp ?ho ?_); (case hp => (repeat constructor)); (case ho => (repeat (first | exact Put.here | apply Put.there))))); (((with_reducible refine e_obl ?hi ?_); (case hi => (repeat (first | exact Imp.refl | exact Imp.nil | (apply Imp.pick; (focus ((repeat constructor); done))) | refine Imp.drop ?_))))); (((with_reducible refine e_obl ?hi ?_); (case hi => (repeat (first | exact Imp.refl | exact Imp.nil | (apply Imp.pick; (focus ((repeat constructor); done))) | refine Imp.drop ?_))))); (((with_reducible refine e_obl ?hi ?_); (case hi => (repeat (first | exact Imp.refl | exact Imp.nil | (apply Imp.pick; (focus ((repeat constructor); done))) | refine Imp.drop ?_))))); (((with_reducible refine e_obl ?hi ?_); (case hi => (repeat (first | exact Imp.refl | exact Imp.nil | (apply Imp.pick; (focus ((repeat constructor); done))) | refine Imp.drop ?_))))); (((with_reducible refine' e_stN ?hp ?ho ?_); (case hp => (repeat constructor)); (case ho => (repeat (first | exact Put.here | apply Put.there))))); (((with_reducible refine e_obl ?hi ?_); (case hi => (repeat (first | exact Imp.refl | exact Imp.nil | (apply Imp.pick; (focus ((repeat constructor); done))) | refine Imp.drop ?_))))); (((with_reducible refine e_obl ?hi ?_); (case hi => (repeat (first | exact Imp.refl | exact Imp.nil | (apply Imp.pick; (focus ((repeat constructor); done))) | refine Imp.drop ?_))))); (((with_reducible refine e_obl ?hi ?_); (case hi => (repeat (first | exact Imp.refl | exact Imp.nil | (apply Imp.pick; (focus ((repeat constructor); done))) | refine Imp.drop ?_))))); (((with_reducible refine' e_stN ?hp ?ho ?_); (case hp => (repeat constructor)); (case ho => (repeat (first | exact Put.here | apply Put.there))))); (((with_reducible refine' e_stN ?hp ?ho ?_); (case hp => (repeat constructor)); (case ho => (repeat (first | exact Put.here | apply Put.there)))))
    obtain ⟨g1, g2, g3, g4'⟩ := good _ _ _ hT
    rw [g1, g2, g3, g4']
    refine e_dfS (f := 66) (A := [.pointer (some ⟨g4, 0, none⟩), .pointer (some ⟨g5, 0, none⟩), .pointer (some ⟨g6, 0, none⟩), .pointer (some ⟨g7, 0, none⟩)]) (shape := fun rv => S.inflate_all_1 (.pointer (some ⟨g4, 0, none⟩)) (.pointer (some ⟨g5, 0, none⟩)) (.pointer (some ⟨g6, 0, none⟩)) (.pointer (some ⟨g7, 0, none⟩)) rv) (fun c => by cases c) ⟨_, _, rfl⟩ (inv_closure (cs := [.pointer (some ⟨g4, 0, none⟩), .pointer (some ⟨g5, 0, none⟩), .pointer (some ⟨g6, 0, none⟩), .pointer (some ⟨g7, 0, none⟩)]) (bs := []) Try.call66) (fun h => S.inflate_all_1_d h) ?_
    unfold S.inflate_all_1
    rw [rec_ret, lv_ret]
    refine e_opN (v_neIf0 (by kernel_rfl)) Imp.nil ?_
    ((with_reducible refine e_condF ?_))
    unfold S.inflate_all_ret
    (((with_reducible refine' e_stS (v_res1 ?hc) ?hi ?_); (case hi => (repeat (first | exact Imp.refl | exact Imp.nil | (apply Imp.pick; (focus ((repeat constructor); done))) | refine Imp.drop ?_))); (case hc => (repeat (first | exact Nth.here | apply Nth.there))))); (((with_reducible refine' e_stS (v_res1 ?hc) ?hi ?_); (case hi => (repeat (first | exact Imp.refl | exact Imp.nil | (apply Imp.pick; (focus ((repeat constructor); done))) | refine Imp.drop ?_))); (case hc => (repeat (first | exact Nth.here | apply Nth.there))))); (((with_reducible refine' e_stS (v_res1 ?hc) ?hi ?_); (case hi => (repeat (first | exact Imp.refl | exact Imp.nil | (apply Imp.pick; (focus ((repeat constructor); done))) | refine Imp.drop ?_))); (case hc => (repeat (first | exact Nth.here | apply Nth.there))))); (((with_reducible refine' e_stS (v_res1 ?hc) ?hi ?_); (case hi => (repeat (first | exact Imp.refl | exact Imp.nil | (apply Imp.pick; (focus ((repeat constructor); done))) | refine Imp.drop ?_))); (case hc => (repeat (first | exact Nth.here | apply Nth.there)))))
    refine e_ret ((sa, sc), (qa, qc)) rfl ?_
    (try simp only [List.cons_append, List.nil_append, -eq_self])
    exact .pick (by (repeat constructor)) (.pick (by (repeat constructor)) (.pick (by (repeat constructor)) (by (repeat (first | exact Imp.refl | exact Imp.nil | (apply Imp.pick; (focus ((repeat constructor); done))) | refine Imp.drop ?_)))))
end Go.Proofs.Ytehfblkpbadikaa.IF
