/- A stored block; a decoder, a symbol. No conditions but those that each names. -/
import Derived.Test.YtehfblkpbadikaaInf1
import Derived.Test.YtehfblkpbadikaaHuffNext
set_option linter.unusedVariables false
set_option linter.unusedSimpArgs false
namespace Go.Proofs.Ytehfblkpbadikaa.IF
open Go Go.Proofs Go.RowKit Go.Proofs.Ytehfblkpbadikaa.Sh Go.Proofs.Ytehfblkpbadikaa.Sl Go.Proofs.Ytehfblkpbadikaa.T Go.Proofs.Ytehfblkpbadikaa.HM Go.Proofs.Ytehfblkpbadikaa.HF Go.Proofs.Ytehfblkpbadikaa.B Go.Proofs.Ytehfblkpbadikaa.M
/-- a value that a computation ends with -/
abbrev Ok {α : Type} (m : Except Int α) := { x : α // m = .ok x }
abbrev Er {α : Type} (m : Except Int α) := { e : Int // m = .error e }
/-- a stored block: bits taken, what is out -/
def mStored (b : List UInt8) (most : Int) (at_ : Nat) (out : List UInt8) : Except Int (Nat × List UInt8) :=
  if takR b ((at_ + 7) / 8 * 8) 16 ≠ 0 then .error (takR b ((at_ + 7) / 8 * 8) 16) else
  if takR b (takAt b ((at_ + 7) / 8 * 8) 16) 16 ≠ 0 then .error (takR b (takAt b ((at_ + 7) / 8 * 8) 16) 16) else
  if (takN b (takAt b ((at_ + 7) / 8 * 8) 16) 16 : Int) ≠ 65535 - (takN b ((at_ + 7) / 8 * 8) 16 : Int) then .error 31 else
  if ¬ (takN b ((at_ + 7) / 8 * 8) 16 : Int) ≤ most - out.length then .error 6 else
  if rrR b (takAt b (takAt b ((at_ + 7) / 8 * 8) 16) 16) (takN b ((at_ + 7) / 8 * 8) 16 : Int) ≠ 0 then .error (rrR b (takAt b (takAt b ((at_ + 7) / 8 * 8) 16) 16) (takN b ((at_ + 7) / 8 * 8) 16 : Int)) else
  .ok (rrAt b (takAt b (takAt b ((at_ + 7) / 8 * 8) 16) 16) (takN b ((at_ + 7) / 8 * 8) 16 : Int), out ++ rrB b (takAt b (takAt b ((at_ + 7) / 8 * 8) 16) 16) (takN b ((at_ + 7) / 8 * 8) 16 : Int))
theorem stored {W : World} {p at_ : Nat} {b out : List UInt8} {most : Int} (h1 : -1099511627776 ≤ most ∧ most ≤ 1099511627776) (h2 : out.length ≤ 1099511627776) :
    CnP Try.prog 67 [.pointer (some ⟨p, 0, none⟩)] W [IsS p b at_ out most] (fun _ : Ok (mStored b most at_ out) => .tuple #[]) (fun x => [IsS p b x.1.1 x.1.2 most]) (fun y : Er (mStored b most at_ out) => pn y.1) (fun _ => []) := by
  (refine S.inflate_stream_stored_cnP fun F => ?_; unfold S.inflate_stream_stored; simp only [List.cons_append, List.nil_append, -eq_self])
  refine e_ex Pick.here fun q => e_all Pick.here ?_
  obtain ⟨r, qa, qc⟩ := q
  (try simp only [List.cons_append, List.nil_append, -eq_self])
  (((with_reducible refine e_opN v_nil Imp.nil ?_))); (((with_reducible refine e_opN v_fa0 Imp.nil ?_))); (((with_reducible refine' e_opN (v_ldN ?hc) ?hi ?_); (case hi => (repeat (first | exact Imp.refl | exact Imp.nil | (apply Imp.pick; (focus ((repeat constructor); done))) | refine Imp.drop ?_))); (case hc => (repeat (first | exact Nth.here | apply Nth.there)))))
  (refine' e_call (ralign) ?hp fun _ => ?_; (case hp => (repeat (first | exact Picks.nil | (apply Picks.cons; (focus (repeat constructor)))))); (try simp only [List.cons_append, List.nil_append, Bool.not_true, Bool.not_false]))
  refine e_imp (M := IsS p b ((at_ + 7) / 8 * 8) out most :: F) (.ex (r, (qa, qc)) (.all (.pick (by (repeat constructor)) (.pick (by (repeat constructor)) (.pick (by (repeat constructor)) (by (repeat (first | exact Imp.refl | exact Imp.nil | (apply Imp.pick; (focus ((repeat constructor); done))) | refine Imp.drop ?_)))))))) ?_
  obtain ⟨a1, ha1⟩ : ∃ a1, a1 = (at_ + 7) / 8 * 8 := ⟨_, rfl⟩
  have hM : mStored b most at_ out = mStored b most at_ out := rfl
  conv at hM => rhs; unfold mStored
  rw [← ha1] at hM ⊢
  (refine' e_callP (stake) ?hp (fun _ => ?_) (fun _ => ?_); (case hp => (repeat (first | exact Picks.nil | (apply Picks.cons; (focus (repeat constructor)))))); (all_goals (try simp only [List.cons_append, List.nil_append, Bool.not_true, Bool.not_false, -eq_self])))
  rotate_left
  · rename_i y
    rw [if_pos y.2] at hM
    refine e_pan ⟨_, hM⟩ rfl ?_
    (repeat (first | exact Imp.refl | exact Imp.nil | (apply Imp.pick; (focus ((repeat constructor); done))) | refine Imp.drop ?_))
  rename_i x1
  rw [if_neg (fun c => c x1.2)] at hM
  obtain ⟨n, hn⟩ : ∃ n, n = takN b a1 16 := ⟨_, rfl⟩
  obtain ⟨a2, ha2⟩ : ∃ a2, a2 = takAt b a1 16 := ⟨_, rfl⟩
  rw [← hn, ← ha2] at hM
  (try rw [← hn])
  (try rw [← ha2])
  (refine' e_callP (stake) ?hp (fun _ => ?_) (fun _ => ?_); (case hp => (repeat (first | exact Picks.nil | (apply Picks.cons; (focus (repeat constructor)))))); (all_goals (try simp only [List.cons_append, List.nil_append, Bool.not_true, Bool.not_false, -eq_self])))
  rotate_left
  · rename_i y
    rw [if_pos y.2] at hM
    refine e_pan ⟨_, hM⟩ rfl ?_
    (repeat (first | exact Imp.refl | exact Imp.nil | (apply Imp.pick; (focus ((repeat constructor); done))) | refine Imp.drop ?_))
  rename_i x2
  rw [if_neg (fun c => c x2.2)] at hM
  obtain ⟨m, hm⟩ : ∃ m, m = takN b a2 16 := ⟨_, rfl⟩
  obtain ⟨a3, ha3⟩ : ∃ a3, a3 = takAt b a2 16 := ⟨_, rfl⟩
  rw [← hm, ← ha3] at hM
  (try rw [← hm])
  (try rw [← ha3])
  have hn16 : n < 65536 := by rw [hn]; unfold takN; split; exact tak_lt _ _ _; omega
  (((with_reducible refine e_opN (v_sub ?h1 ?h2) Imp.nil ?_); (case h1 => omega); (case h2 => omega)))
  refine e_opN v_eql Imp.nil ?_
  (refine' e_callP (demand) ?hp (fun _ => ?_) (fun _ => ?_); (case hp => (repeat (first | exact Picks.nil | (apply Picks.cons; (focus (repeat constructor)))))); (all_goals (try simp only [List.cons_append, List.nil_append, Bool.not_true, Bool.not_false, -eq_self])))
  rotate_left
  · rename_i y
    rw [if_pos (of_decide_eq_false y.2)] at hM
    refine e_pan ⟨_, hM⟩ rfl ?_
    (repeat (first | exact Imp.refl | exact Imp.nil | (apply Imp.pick; (focus ((repeat constructor); done))) | refine Imp.drop ?_))
  rename_i x3
  rw [if_neg (fun c => c (of_decide_eq_true x3.2))] at hM
  (refine' e_callP (room h1 h2) ?hp (fun _ => ?_) (fun _ => ?_); (case hp => (repeat (first | exact Picks.nil | (apply Picks.cons; (focus (repeat constructor)))))); (all_goals (try simp only [List.cons_append, List.nil_append, Bool.not_true, Bool.not_false, -eq_self])))
  rotate_left
  · rename_i y
    rw [if_pos y.2] at hM
    refine e_pan ⟨_, hM⟩ rfl ?_
    (repeat (first | exact Imp.refl | exact Imp.nil | (apply Imp.pick; (focus ((repeat constructor); done))) | refine Imp.drop ?_))
  rename_i x4
  rw [if_neg (fun c => c x4.2)] at hM
  refine e_ex Pick.here fun q => e_all Pick.here ?_
  obtain ⟨r, qa, qc⟩ := q
  (try simp only [List.cons_append, List.nil_append, -eq_self])
  (((with_reducible refine e_opN v_nil Imp.nil ?_))); (((with_reducible refine e_opN v_fa0 Imp.nil ?_))); (((with_reducible refine' e_opN (v_ldN ?hc) ?hi ?_); (case hi => (repeat (first | exact Imp.refl | exact Imp.nil | (apply Imp.pick; (focus ((repeat constructor); done))) | refine Imp.drop ?_))); (case hc => (repeat (first | exact Nth.here | apply Nth.there)))))
  (refine' e_call (rraw) ?hp fun _ => ?_; (case hp => (repeat (first | exact Picks.nil | (apply Picks.cons; (focus (repeat constructor)))))); (try simp only [List.cons_append, List.nil_append, Bool.not_true, Bool.not_false]))
  rename_i u
  obtain ⟨ua, uc⟩ := u
  (try dsimp only)
  refine e_opN (v_ext (v := .slice ua (rrB b a3 n).length uc) rfl) Imp.nil ?_
  refine e_opN (v_ext (v := .int .i64 (rrR b a3 n)) rfl) Imp.nil ?_
  (refine' e_callP (must) ?hp (fun _ => ?_) (fun _ => ?_); (case hp => (repeat (first | exact Picks.nil | (apply Picks.cons; (focus (repeat constructor)))))); (all_goals (try simp only [List.cons_append, List.nil_append, Bool.not_true, Bool.not_false, -eq_self])))
  rotate_left
  · rename_i y
    rw [if_pos y.2] at hM
    refine e_pan ⟨_, hM⟩ rfl ?_
    (repeat (first | exact Imp.refl | exact Imp.nil | (apply Imp.pick; (focus ((repeat constructor); done))) | refine Imp.drop ?_))
  rename_i x5
  rw [if_neg (fun c => c x5.2)] at hM
  (((with_reducible refine e_opN v_nil Imp.nil ?_))); (((with_reducible refine e_opN v_fa0 Imp.nil ?_))); (((with_reducible refine' e_opN (v_ldN ?hc) ?hi ?_); (case hi => (repeat (first | exact Imp.refl | exact Imp.nil | (apply Imp.pick; (focus ((repeat constructor); done))) | refine Imp.drop ?_))); (case hc => (repeat (first | exact Nth.here | apply Nth.there)))))
  refine e_slfacts .here fun f1 f2 f3 f4 => ?_
  have hle := rrB_le b a3 n
  have hbl : (rrB b a3 n).length ≤ 65536 := by
    have : (rrB b a3 n).length ≤ n := by unfold rrB; split; (rw [List.length_take]; omega); simp
    omega
  refine e_app (m := (rrB b a3 n).length) (news := (rrB b a3 n).map Sl.B) (by (repeat constructor)) (src_rd (e' := 5) (by kernel_rfl) .here (rd_sl (by simp) f4) (fun c => (by
    rcases Nat.eq_zero_or_pos (rrB b a3 n).length with z | z
    · exact z
    · obtain ⟨_, e⟩ := f4 z; rw [c] at e; cases e)) B_one) (by omega) (by omega) fun a' c' => ?_
  (((with_reducible refine e_opN v_nil Imp.nil ?_))); (((with_reducible refine e_opN v_fa0 Imp.nil ?_))); (((with_reducible refine' e_stN ?hp ?ho ?_); (case hp => (repeat constructor)); (case ho => (repeat (first | exact Put.here | apply Put.there)))))
  (first | refine e_ret ((⟨_, hM⟩ : Ok (mStored b most at_ out))) rfl ?_ | refine e_retT ((⟨_, hM⟩ : Ok (mStored b most at_ out))) ?_)
  refine .ex (r, (a', c')) (.all ?_)
  (try simp only [List.cons_append, List.nil_append, -eq_self])
  rw [List.length_append, List.map_append]
  exact .pick (by (repeat constructor)) (.pick (by (repeat constructor)) (.pick (by (repeat constructor)) (by (repeat (first | exact Imp.refl | exact Imp.nil | (apply Imp.pick; (focus ((repeat constructor); done))) | refine Imp.drop ?_)))))
theorem decoder {W : World} {A : HP} {a : Option Addr} {cap : Nat} {l : List Int} (hr : RdB W A a l.length (l.map I)) (hl : l.length ≤ 4611686018427387904) :
    CnP Try.prog 89 [.slice a l.length cap] W [A] (fun x : { p : Nat // okL l } => .pointer (some ⟨x.1, 0, none⟩)) (fun x => [IsDec x.1 l, A]) (fun _ : If (¬ okL l) => pn 30) (fun _ => [A]) := by
  (refine S.inflate_decoder_cnP fun F => ?_; unfold S.inflate_decoder; simp only [List.cons_append, List.nil_append, -eq_self])
  by_cases hok : okL l
  · (refine' e_call (newDec hr hok) ?hp fun _ => ?_; (case hp => (repeat (first | exact Picks.nil | (apply Picks.cons; (focus (repeat constructor)))))); (try simp only [List.cons_append, List.nil_append, Bool.not_true, Bool.not_false]))
    rename_i p
    refine e_opN (v_ext (v := .pointer (some ⟨p, 0, none⟩)) rfl) Imp.nil ?_
    refine e_opN (v_ext (v := .int .i64 0) rfl) Imp.nil ?_
    (refine' e_callP (must) ?hp (fun _ => ?_) (fun _ => ?_); (case hp => (repeat (first | exact Picks.nil | (apply Picks.cons; (focus (repeat constructor)))))); (all_goals (try simp only [List.cons_append, List.nil_append, Bool.not_true, Bool.not_false, -eq_self])))
    · refine e_ret ⟨p, hok⟩ rfl ?_
      (repeat (first | exact Imp.refl | exact Imp.nil | (apply Imp.pick; (focus ((repeat constructor); done))) | refine Imp.drop ?_))
    · rename_i y
      exact absurd rfl y.2
  · (refine' e_call (newDec0 hr hl hok) ?hp fun _ => ?_; (case hp => (repeat (first | exact Picks.nil | (apply Picks.cons; (focus (repeat constructor)))))); (try simp only [List.cons_append, List.nil_append, Bool.not_true, Bool.not_false]))
    (((with_reducible refine' e_opN (v_ext ?h1) Imp.nil ?_); (case h1 => rfl))); (((with_reducible refine' e_opN (v_ext ?h1) Imp.nil ?_); (case h1 => rfl)))
    (refine' e_callP (must) ?hp (fun _ => ?_) (fun _ => ?_); (case hp => (repeat (first | exact Picks.nil | (apply Picks.cons; (focus (repeat constructor)))))); (all_goals (try simp only [List.cons_append, List.nil_append, Bool.not_true, Bool.not_false, -eq_self])))
    · rename_i x
      exact absurd x.2 (by omega)
    · refine e_pan (yes hok) rfl ?_
      (repeat (first | exact Imp.refl | exact Imp.nil | (apply Imp.pick; (focus ((repeat constructor); done))) | refine Imp.drop ?_))
theorem inext {W : World} {p r at_ : Nat} {l : List Int} {b : List UInt8} :
    CnP Try.prog 101 [.pointer (some ⟨p, 0, none⟩), .pointer (some ⟨r, 0, none⟩)] W [IsDec p l, IsR r b at_] (fun _ : If ((nxt l b at_).2.1 = 0) => .int .i64 (nxt l b at_).1) (fun _ => [IsDec p l, IsR r b (nxt l b at_).2.2]) (fun _ : If ((nxt l b at_).2.1 ≠ 0) => pn (nxt l b at_).2.1) (fun _ => []) := by
  (refine S.inflate_next_cnP fun F => ?_; unfold S.inflate_next; simp only [List.cons_append, List.nil_append, -eq_self])
  (refine' e_call (next) ?hp fun _ => ?_; (case hp => (repeat (first | exact Picks.nil | (apply Picks.cons; (focus (repeat constructor)))))); (try simp only [List.cons_append, List.nil_append, Bool.not_true, Bool.not_false]))
  refine e_opN (v_ext (v := .int .i64 (nxt l b at_).1) rfl) Imp.nil ?_
  refine e_opN (v_ext (v := .int .i64 (nxt l b at_).2.1) rfl) Imp.nil ?_
  (refine' e_callP (must) ?hp (fun _ => ?_) (fun _ => ?_); (case hp => (repeat (first | exact Picks.nil | (apply Picks.cons; (focus (repeat constructor)))))); (all_goals (try simp only [List.cons_append, List.nil_append, Bool.not_true, Bool.not_false, -eq_self])))
  · rename_i x
    (first | refine e_ret (yes x.2) rfl ?_ | refine e_retT (yes x.2) ?_)
    (repeat (first | exact Imp.refl | exact Imp.nil | (apply Imp.pick; (focus ((repeat constructor); done))) | refine Imp.drop ?_))
  · rename_i y
    refine e_pan (yes y.2) rfl ?_
    (repeat (first | exact Imp.refl | exact Imp.nil | (apply Imp.pick; (focus ((repeat constructor); done))) | refine Imp.drop ?_))
end Go.Proofs.Ytehfblkpbadikaa.IF
