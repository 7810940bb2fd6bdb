/- The first pieces of inflate: what panics, what takes. No conditions but those that each names. -/
import Derived.Test.YtehfblkpbadikaaBitsRef2
import Derived.Test.YtehfblkpbadikaaHuffDec
set_option linter.unusedVariables false
set_option linter.unusedSimpArgs false
namespace Go.Proofs.Ytehfblkpbadikaa.IF
open Go Go.Proofs Go.RowKit Go.Proofs.Ytehfblkpbadikaa.Sh Go.Proofs.Ytehfblkpbadikaa.Sl Go.Proofs.Ytehfblkpbadikaa.T Go.Proofs.Ytehfblkpbadikaa.HM Go.Proofs.Ytehfblkpbadikaa.HF Go.Proofs.Ytehfblkpbadikaa.B Go.Proofs.Ytehfblkpbadikaa.M
abbrev If (φ : Prop) := { _u : Unit // φ }
def yes {φ : Prop} (h : φ) : If φ := ⟨(), h⟩
/-- the panic of an error's number -/
def pn (e : Int) : List PanicEntry := pe (.iface 23 (.int .i64 e))
theorem must {W : World} {e : Int} : CnP Try.prog 86 [.int .i64 e] W [] (fun _ : If (e = 0) => .tuple #[]) (fun _ => []) (fun _ : If (e ≠ 0) => pn e) (fun _ => []) := by
  (refine S.inflate_must_cnP fun F => ?_; unfold S.inflate_must; simp only [List.cons_append, List.nil_append, -eq_self])
  (refine e_ask v_neq Imp.nil (fun h => ?_) (fun h => ?_))
  · refine e_condT ?_
    refine e_opN v_mkI Imp.nil ?_
    refine e_panic ?_
    exact e_pan (yes (h)) rfl .refl
  · refine e_condF ?_
    (first | refine e_ret (yes (Decidable.not_not.1 h)) rfl ?_ | refine e_retT (yes (Decidable.not_not.1 h)) ?_)
    exact .refl
theorem demand {W : World} {b : Bool} {e : Int} : CnP Try.prog 83 [.bool b, .int .i64 e] W [] (fun _ : If (b = true) => .tuple #[]) (fun _ => []) (fun _ : If (b = false) => pn e) (fun _ => []) := by
  (refine S.inflate_demand_cnP fun F => ?_; unfold S.inflate_demand; simp only [List.cons_append, List.nil_append, -eq_self])
  cases b with
  | true =>
    (((with_reducible refine e_opN v_notT Imp.nil ?_))); ((with_reducible refine e_condF ?_))
    (first | refine e_ret (yes (rfl)) rfl ?_ | refine e_retT (yes (rfl)) ?_)
    exact .refl
  | false =>
    (((with_reducible refine e_opN v_notF Imp.nil ?_))); ((with_reducible refine e_condT ?_))
    refine e_opN v_mkI Imp.nil ?_
    refine e_panic ?_
    exact e_pan (yes (rfl)) rfl .refl
/-- a stream at p: its bytes, bits taken, what came out, the most that may -/
def IsS (p : Nat) (b : List UInt8) (at_ : Nat) (out : List UInt8) (most : Int) : HP := ex fun q : Nat × (Option Addr × Nat) => all [pt p (.cells #[.pointer (some ⟨q.1, 0, none⟩), .slice q.2.1 out.length q.2.2, .int .i64 most] 126), IsR q.1 b at_, Sl 1 5 q.2.1 q.2.2 out.length (out.map Sl.B)]
theorem stake {W : World} {p at_ : Nat} {b out : List UInt8} {most k : Int} : CnP Try.prog 71 [.pointer (some ⟨p, 0, none⟩), .int .i64 k] W [IsS p b at_ out most]
    (fun _ : If (takR b at_ k = 0) => .int .i64 (takN b at_ k : Int)) (fun _ => [IsS p b (takAt b at_ k) out most]) (fun _ : If (takR b at_ k ≠ 0) => pn (takR b at_ k)) (fun _ => []) := by
  (refine S.inflate_stream_take_cnP fun F => ?_; unfold S.inflate_stream_take; simp only [List.cons_append, List.nil_append, -eq_self])
  refine e_ex Pick.here fun q => e_all Pick.here ?_
  obtain ⟨r, qa, qc⟩ := q
  (try simp only [List.cons_append, List.nil_append, -eq_self])
  (((with_reducible refine e_opN v_nil Imp.nil ?_))); (((with_reducible refine e_opN v_fa0 Imp.nil ?_))); (((with_reducible refine' e_opN (v_ldN ?hc) ?hi ?_); (case hi => (repeat (first | exact Imp.refl | exact Imp.nil | (apply Imp.pick; (focus ((repeat constructor); done))) | refine Imp.drop ?_))); (case hc => (repeat (first | exact Nth.here | apply Nth.there)))))
  (refine' e_call (B.take) ?hp fun _ => ?_; (case hp => (repeat (first | exact Picks.nil | (apply Picks.cons; (focus (repeat constructor)))))); (try simp only [List.cons_append, List.nil_append, Bool.not_true, Bool.not_false]))
  (((with_reducible refine' e_opN (v_ext ?h1) Imp.nil ?_); (case h1 => rfl))); (((with_reducible refine' e_opN (v_ext ?h1) Imp.nil ?_); (case h1 => rfl)))
  (refine' e_callP (must) ?hp (fun _ => ?_) (fun _ => ?_); (case hp => (repeat (first | exact Picks.nil | (apply Picks.cons; (focus (repeat constructor)))))); (all_goals (try simp only [List.cons_append, List.nil_append, Bool.not_true, Bool.not_false, -eq_self])))
  · rename_i x
    (first | refine e_ret (yes (x.2)) rfl ?_ | refine e_retT (yes (x.2)) ?_)
    refine .ex (r, (qa, qc)) (.all ?_)
    (try simp only [List.cons_append, List.nil_append, -eq_self])
    exact .pick (by (repeat constructor)) (.pick (by (repeat constructor)) (.pick (by (repeat constructor)) (by (repeat (first | exact Imp.refl | exact Imp.nil | (apply Imp.pick; (focus ((repeat constructor); done))) | refine Imp.drop ?_)))))
  · rename_i y
    refine e_pan (yes (y.2)) rfl ?_
    (repeat (first | exact Imp.refl | exact Imp.nil | (apply Imp.pick; (focus ((repeat constructor); done))) | refine Imp.drop ?_))
theorem room {W : World} {p at_ : Nat} {b out : List UInt8} {most n : Int} (h1 : -1099511627776 ≤ most ∧ most ≤ 1099511627776) (h2 : out.length ≤ 1099511627776) : CnP Try.prog 84 [.pointer (some ⟨p, 0, none⟩), .int .i64 n] W [IsS p b at_ out most]
    (fun _ : If (n ≤ most - out.length) => .tuple #[]) (fun _ => [IsS p b at_ out most]) (fun _ : If (¬ n ≤ most - out.length) => pn 6) (fun _ => []) := by
  (refine S.inflate_stream_room_cnP fun F => ?_; unfold S.inflate_stream_room; simp only [List.cons_append, List.nil_append, -eq_self])
  refine e_ex Pick.here fun q => e_all Pick.here ?_
  obtain ⟨r, qa, qc⟩ := q
  (try simp only [List.cons_append, List.nil_append, -eq_self])
  ((with_reducible refine e_drS ?_)); (((with_reducible refine e_stS v_nil Imp.nil ?_))); (((with_reducible refine e_stS v_fa0 Imp.nil ?_))); (((with_reducible refine' e_stS (v_ldN ?hc) ?hi ?_); (case hi => (repeat (first | exact Imp.refl | exact Imp.nil | (apply Imp.pick; (focus ((repeat constructor); done))) | refine Imp.drop ?_))); (case hc => (repeat (first | exact Nth.here | apply Nth.there))))); (((with_reducible refine e_stS v_nil Imp.nil ?_))); (((with_reducible refine e_stS v_fa0 Imp.nil ?_))); (((with_reducible refine' e_stS (v_ldN ?hc) ?hi ?_); (case hi => (repeat (first | exact Imp.refl | exact Imp.nil | (apply Imp.pick; (focus ((repeat constructor); done))) | refine Imp.drop ?_))); (case hc => (repeat (first | exact Nth.here | apply Nth.there))))); (((with_reducible refine e_stS v_len Imp.nil ?_))); (((with_reducible refine e_stS (v_sub ?h1 ?h2) Imp.nil ?_); (case h1 => omega); (case h2 => omega)))
  refine e_stS v_leq Imp.nil ?_
  (refine' e_callP (demand) ?hp (fun _ => ?_) (fun _ => ?_); (case hp => (repeat (first | exact Picks.nil | (apply Picks.cons; (focus (repeat constructor)))))); (all_goals (try simp only [List.cons_append, List.nil_append, Bool.not_true, Bool.not_false, -eq_self])))
  · rename_i x
    (first | refine e_ret (yes (of_decide_eq_true x.2)) rfl ?_ | refine e_retT (yes (of_decide_eq_true x.2)) ?_)
    refine .ex (r, (qa, qc)) (.all ?_)
    (try simp only [List.cons_append, List.nil_append, -eq_self])
    exact .pick (by (repeat constructor)) (.pick (by (repeat constructor)) (.pick (by (repeat constructor)) (by (repeat (first | exact Imp.refl | exact Imp.nil | (apply Imp.pick; (focus ((repeat constructor); done))) | refine Imp.drop ?_)))))
  · rename_i y
    refine e_pan (yes (of_decide_eq_false y.2)) rfl ?_
    (repeat (first | exact Imp.refl | exact Imp.nil | (apply Imp.pick; (focus ((repeat constructor); done))) | refine Imp.drop ?_))
end Go.Proofs.Ytehfblkpbadikaa.IF
