/- What reads the first form, the third. No conditions but those that each names. -/
import Derived.Test.YtcmpkkkigmheoaaDate8
set_option linter.unusedVariables false
set_option linter.unusedSimpArgs false
namespace Go.Proofs.Ytcmpkkkigmheoaa.D
open Go Go.Proofs Go.RowKit Go.Proofs.Ytcmpkkkigmheoaa.Sh Go.Proofs.Ytcmpkkkigmheoaa.Sl Go.Proofs.Ytcmpkkkigmheoaa.T
def firstR (l : List UInt8) : Option Dt := (tkR 5 l).bind fun a => (numR 2 a.2).bind fun b => (tkR 1 b.2).bind fun c => (monR c.2).bind fun d => (tkR 1 d.2).bind fun e => (numR 4 e.2).bind fun f => (tkR 1 f.2).bind fun g => (clkR g.2).bind fun h => some ⟨(f.1 : Int), d.1, (b.1 : Int), (h.1.1 : Int), (h.1.2.1 : Int), (h.1.2.2 : Int), 0⟩
theorem first {W : World} {p : Nat} {l : List UInt8} {now : Int} : CnP Try.prog 28 [.pointer (some ⟨p, 0, none⟩), .int .i64 now] W [IsRd p l]
    (fun x : Sm (firstR l) => .agg (dtA x.1)) (fun _ => []) (fun _ : Nn (firstR l) => pnD) (fun _ => []) := by
  (refine S.dates_reader_first_cnP fun F => ?_; unfold S.dates_reader_first; simp only [List.cons_append, List.nil_append, -eq_self])
  (((with_reducible refine e_newA fun g => ?_)))
  (refine' e_callP (take (k := 5)) ?hp (fun _ => ?_) (fun _ => ?_); (case hp => (repeat (first | exact Picks.nil | (apply Picks.cons; (focus (repeat constructor)))))); (all_goals (try simp only [List.cons_append, List.nil_append, Bool.not_true, Bool.not_false, -eq_self])))
  rotate_left
  · rename_i y
    refine e_pan ⟨(), by simp [firstR, y.2]⟩ rfl ?_
    (repeat (first | exact Imp.refl | exact Imp.nil | (apply Imp.pick; (focus ((repeat constructor); done))) | refine Imp.drop ?_))
  rename_i x1
  obtain ⟨x1, h1⟩ := x1
  (refine' e_callP (number (k := 2) (by omega)) ?hp (fun _ => ?_) (fun _ => ?_); (case hp => (repeat (first | exact Picks.nil | (apply Picks.cons; (focus (repeat constructor)))))); (all_goals (try simp only [List.cons_append, List.nil_append, Bool.not_true, Bool.not_false, -eq_self])))
  rotate_left
  · rename_i y
    refine e_pan ⟨(), by simp [firstR, h1, y.2]⟩ rfl ?_
    (repeat (first | exact Imp.refl | exact Imp.nil | (apply Imp.pick; (focus ((repeat constructor); done))) | refine Imp.drop ?_))
  rename_i x2
  obtain ⟨x2, h2⟩ := x2
  (((with_reducible refine e_opN v_fa0 Imp.nil ?_))); (((with_reducible refine' e_stN ?hp ?ho ?_); (case hp => (repeat constructor)); (case ho => (repeat (first | exact Put.here | apply Put.there)))))
  (refine' e_callP (take (k := 1)) ?hp (fun _ => ?_) (fun _ => ?_); (case hp => (repeat (first | exact Picks.nil | (apply Picks.cons; (focus (repeat constructor)))))); (all_goals (try simp only [List.cons_append, List.nil_append, Bool.not_true, Bool.not_false, -eq_self])))
  rotate_left
  · rename_i y
    refine e_pan ⟨(), by simp [firstR, h1, h2, y.2]⟩ rfl ?_
    (repeat (first | exact Imp.refl | exact Imp.nil | (apply Imp.pick; (focus ((repeat constructor); done))) | refine Imp.drop ?_))
  rename_i x3
  obtain ⟨x3, h3⟩ := x3
  (refine' e_callP (month) ?hp (fun _ => ?_) (fun _ => ?_); (case hp => (repeat (first | exact Picks.nil | (apply Picks.cons; (focus (repeat constructor)))))); (all_goals (try simp only [List.cons_append, List.nil_append, Bool.not_true, Bool.not_false, -eq_self])))
  rotate_left
  · rename_i y
    refine e_pan ⟨(), by simp [firstR, h1, h2, h3, y.2]⟩ rfl ?_
    (repeat (first | exact Imp.refl | exact Imp.nil | (apply Imp.pick; (focus ((repeat constructor); done))) | refine Imp.drop ?_))
  rename_i x4
  obtain ⟨x4, h4⟩ := x4
  (((with_reducible refine e_opN v_fa0 Imp.nil ?_))); (((with_reducible refine' e_stN ?hp ?ho ?_); (case hp => (repeat constructor)); (case ho => (repeat (first | exact Put.here | apply Put.there)))))
  (refine' e_callP (take (k := 1)) ?hp (fun _ => ?_) (fun _ => ?_); (case hp => (repeat (first | exact Picks.nil | (apply Picks.cons; (focus (repeat constructor)))))); (all_goals (try simp only [List.cons_append, List.nil_append, Bool.not_true, Bool.not_false, -eq_self])))
  rotate_left
  · rename_i y
    refine e_pan ⟨(), by simp [firstR, h1, h2, h3, h4, y.2]⟩ rfl ?_
    (repeat (first | exact Imp.refl | exact Imp.nil | (apply Imp.pick; (focus ((repeat constructor); done))) | refine Imp.drop ?_))
  rename_i x5
  obtain ⟨x5, h5⟩ := x5
  (refine' e_callP (number (k := 4) (by omega)) ?hp (fun _ => ?_) (fun _ => ?_); (case hp => (repeat (first | exact Picks.nil | (apply Picks.cons; (focus (repeat constructor)))))); (all_goals (try simp only [List.cons_append, List.nil_append, Bool.not_true, Bool.not_false, -eq_self])))
  rotate_left
  · rename_i y
    refine e_pan ⟨(), by simp [firstR, h1, h2, h3, h4, h5, y.2]⟩ rfl ?_
    (repeat (first | exact Imp.refl | exact Imp.nil | (apply Imp.pick; (focus ((repeat constructor); done))) | refine Imp.drop ?_))
  rename_i x6
  obtain ⟨x6, h6⟩ := x6
  (((with_reducible refine e_opN v_fa0 Imp.nil ?_))); (((with_reducible refine' e_stN ?hp ?ho ?_); (case hp => (repeat constructor)); (case ho => (repeat (first | exact Put.here | apply Put.there)))))
  (refine' e_callP (take (k := 1)) ?hp (fun _ => ?_) (fun _ => ?_); (case hp => (repeat (first | exact Picks.nil | (apply Picks.cons; (focus (repeat constructor)))))); (all_goals (try simp only [List.cons_append, List.nil_append, Bool.not_true, Bool.not_false, -eq_self])))
  rotate_left
  · rename_i y
    refine e_pan ⟨(), by simp [firstR, h1, h2, h3, h4, h5, h6, y.2]⟩ rfl ?_
    (repeat (first | exact Imp.refl | exact Imp.nil | (apply Imp.pick; (focus ((repeat constructor); done))) | refine Imp.drop ?_))
  rename_i x7
  obtain ⟨x7, h7⟩ := x7
  (refine' e_callP (rclock) ?hp (fun _ => ?_) (fun _ => ?_); (case hp => (repeat (first | exact Picks.nil | (apply Picks.cons; (focus (repeat constructor)))))); (all_goals (try simp only [List.cons_append, List.nil_append, Bool.not_true, Bool.not_false, -eq_self])))
  rotate_left
  · rename_i y
    refine e_pan ⟨(), by simp [firstR, h1, h2, h3, h4, h5, h6, h7, y.2]⟩ rfl ?_
    (repeat (first | exact Imp.refl | exact Imp.nil | (apply Imp.pick; (focus ((repeat constructor); done))) | refine Imp.drop ?_))
  rename_i x8
  obtain ⟨x8, h8⟩ := x8
  (((with_reducible refine' e_opN (v_ldAgg ?hn) ?hi ?_); (case hi => (repeat (first | exact Imp.refl | exact Imp.nil | (apply Imp.pick; (focus ((repeat constructor); done))) | refine Imp.drop ?_))); (case hn => rfl))); (((with_reducible refine' e_stAgg ?hp ?hn ?hv ?h1 ?_); (case hp => (repeat constructor)); (case hn => rfl); (case hv => rfl); (case h1 => simp [Value.oneCell']))); (((with_reducible refine' e_stS (v_resA ?hn) ?hi ?_); (case hi => (repeat (first | exact Imp.refl | exact Imp.nil | (apply Imp.pick; (focus ((repeat constructor); done))) | refine Imp.drop ?_))); (case hn => rfl)))
  (first | refine e_ret (⟨⟨(x6.1 : Int), x4.1, (x2.1 : Int), (x8.1.1 : Int), (x8.1.2.1 : Int), (x8.1.2.2 : Int), 0⟩, by simp [firstR, h1, h2, h3, h4, h5, h6, h7, h8]⟩) rfl ?_ | refine e_retT (⟨⟨(x6.1 : Int), x4.1, (x2.1 : Int), (x8.1.1 : Int), (x8.1.2.1 : Int), (x8.1.2.2 : Int), 0⟩, by simp [firstR, h1, h2, h3, h4, h5, h6, h7, h8]⟩) ?_)
  (repeat (first | exact Imp.refl | exact Imp.nil | (apply Imp.pick; (focus ((repeat constructor); done))) | refine Imp.drop ?_))
def thirdR (l : List UInt8) : Option Dt := (tkR 4 l).bind fun a => (monR a.2).bind fun b => (tkR 1 b.2).bind fun c => (numR 2 c.2).bind fun d => (tkR 1 d.2).bind fun e => (clkR e.2).bind fun f => (tkR 1 f.2).bind fun g => (numR 4 g.2).bind fun h => some ⟨(h.1 : Int), b.1, (d.1 : Int), (f.1.1 : Int), (f.1.2.1 : Int), (f.1.2.2 : Int), 0⟩
theorem third {W : World} {p : Nat} {l : List UInt8} {now : Int} : CnP Try.prog 30 [.pointer (some ⟨p, 0, none⟩), .int .i64 now] W [IsRd p l]
    (fun x : Sm (thirdR l) => .agg (dtA x.1)) (fun _ => []) (fun _ : Nn (thirdR l) => pnD) (fun _ => []) := by
  (refine S.dates_reader_third_cnP fun F => ?_; unfold S.dates_reader_third; simp only [List.cons_append, List.nil_append, -eq_self])
  (((with_reducible refine e_newA fun g => ?_)))
  (refine' e_callP (take (k := 4)) ?hp (fun _ => ?_) (fun _ => ?_); (case hp => (repeat (first | exact Picks.nil | (apply Picks.cons; (focus (repeat constructor)))))); (all_goals (try simp only [List.cons_append, List.nil_append, Bool.not_true, Bool.not_false, -eq_self])))
  rotate_left
  · rename_i y
    refine e_pan ⟨(), by simp [thirdR, y.2]⟩ rfl ?_
    (repeat (first | exact Imp.refl | exact Imp.nil | (apply Imp.pick; (focus ((repeat constructor); done))) | refine Imp.drop ?_))
  rename_i x1
  obtain ⟨x1, h1⟩ := x1
  (refine' e_callP (month) ?hp (fun _ => ?_) (fun _ => ?_); (case hp => (repeat (first | exact Picks.nil | (apply Picks.cons; (focus (repeat constructor)))))); (all_goals (try simp only [List.cons_append, List.nil_append, Bool.not_true, Bool.not_false, -eq_self])))
  rotate_left
  · rename_i y
    refine e_pan ⟨(), by simp [thirdR, h1, y.2]⟩ rfl ?_
    (repeat (first | exact Imp.refl | exact Imp.nil | (apply Imp.pick; (focus ((repeat constructor); done))) | refine Imp.drop ?_))
  rename_i x2
  obtain ⟨x2, h2⟩ := x2
  (((with_reducible refine e_opN v_fa0 Imp.nil ?_))); (((with_reducible refine' e_stN ?hp ?ho ?_); (case hp => (repeat constructor)); (case ho => (repeat (first | exact Put.here | apply Put.there)))))
  (refine' e_callP (take (k := 1)) ?hp (fun _ => ?_) (fun _ => ?_); (case hp => (repeat (first | exact Picks.nil | (apply Picks.cons; (focus (repeat constructor)))))); (all_goals (try simp only [List.cons_append, List.nil_append, Bool.not_true, Bool.not_false, -eq_self])))
  rotate_left
  · rename_i y
    refine e_pan ⟨(), by simp [thirdR, h1, h2, y.2]⟩ rfl ?_
    (repeat (first | exact Imp.refl | exact Imp.nil | (apply Imp.pick; (focus ((repeat constructor); done))) | refine Imp.drop ?_))
  rename_i x3
  obtain ⟨x3, h3⟩ := x3
  (refine' e_callP (number (k := 2) (by omega)) ?hp (fun _ => ?_) (fun _ => ?_); (case hp => (repeat (first | exact Picks.nil | (apply Picks.cons; (focus (repeat constructor)))))); (all_goals (try simp only [List.cons_append, List.nil_append, Bool.not_true, Bool.not_false, -eq_self])))
  rotate_left
  · rename_i y
    refine e_pan ⟨(), by simp [thirdR, h1, h2, h3, y.2]⟩ rfl ?_
    (repeat (first | exact Imp.refl | exact Imp.nil | (apply Imp.pick; (focus ((repeat constructor); done))) | refine Imp.drop ?_))
  rename_i x4
  obtain ⟨x4, h4⟩ := x4
  (((with_reducible refine e_opN v_fa0 Imp.nil ?_))); (((with_reducible refine' e_stN ?hp ?ho ?_); (case hp => (repeat constructor)); (case ho => (repeat (first | exact Put.here | apply Put.there)))))
  (refine' e_callP (take (k := 1)) ?hp (fun _ => ?_) (fun _ => ?_); (case hp => (repeat (first | exact Picks.nil | (apply Picks.cons; (focus (repeat constructor)))))); (all_goals (try simp only [List.cons_append, List.nil_append, Bool.not_true, Bool.not_false, -eq_self])))
  rotate_left
  · rename_i y
    refine e_pan ⟨(), by simp [thirdR, h1, h2, h3, h4, y.2]⟩ rfl ?_
    (repeat (first | exact Imp.refl | exact Imp.nil | (apply Imp.pick; (focus ((repeat constructor); done))) | refine Imp.drop ?_))
  rename_i x5
  obtain ⟨x5, h5⟩ := x5
  (refine' e_callP (rclock) ?hp (fun _ => ?_) (fun _ => ?_); (case hp => (repeat (first | exact Picks.nil | (apply Picks.cons; (focus (repeat constructor)))))); (all_goals (try simp only [List.cons_append, List.nil_append, Bool.not_true, Bool.not_false, -eq_self])))
  rotate_left
  · rename_i y
    refine e_pan ⟨(), by simp [thirdR, h1, h2, h3, h4, h5, y.2]⟩ rfl ?_
    (repeat (first | exact Imp.refl | exact Imp.nil | (apply Imp.pick; (focus ((repeat constructor); done))) | refine Imp.drop ?_))
  rename_i x6
  obtain ⟨x6, h6⟩ := x6
  (refine' e_callP (take (k := 1)) ?hp (fun _ => ?_) (fun _ => ?_); (case hp => (repeat (first | exact Picks.nil | (apply Picks.cons; (focus (repeat constructor)))))); (all_goals (try simp only [List.cons_append, List.nil_append, Bool.not_true, Bool.not_false, -eq_self])))
  rotate_left
  · rename_i y
    refine e_pan ⟨(), by simp [thirdR, h1, h2, h3, h4, h5, h6, y.2]⟩ rfl ?_
    (repeat (first | exact Imp.refl | exact Imp.nil | (apply Imp.pick; (focus ((repeat constructor); done))) | refine Imp.drop ?_))
  rename_i x7
  obtain ⟨x7, h7⟩ := x7
  (refine' e_callP (number (k := 4) (by omega)) ?hp (fun _ => ?_) (fun _ => ?_); (case hp => (repeat (first | exact Picks.nil | (apply Picks.cons; (focus (repeat constructor)))))); (all_goals (try simp only [List.cons_append, List.nil_append, Bool.not_true, Bool.not_false, -eq_self])))
  rotate_left
  · rename_i y
    refine e_pan ⟨(), by simp [thirdR, h1, h2, h3, h4, h5, h6, h7, y.2]⟩ rfl ?_
    (repeat (first | exact Imp.refl | exact Imp.nil | (apply Imp.pick; (focus ((repeat constructor); done))) | refine Imp.drop ?_))
  rename_i x8
  obtain ⟨x8, h8⟩ := x8
  (((with_reducible refine e_opN v_fa0 Imp.nil ?_))); (((with_reducible refine' e_stN ?hp ?ho ?_); (case hp => (repeat constructor)); (case ho => (repeat (first | exact Put.here | apply Put.there))))); (((with_reducible refine' e_opN (v_ldAgg ?hn) ?hi ?_); (case hi => (repeat (first | exact Imp.refl | exact Imp.nil | (apply Imp.pick; (focus ((repeat constructor); done))) | refine Imp.drop ?_))); (case hn => rfl))); (((with_reducible refine' e_stAgg ?hp ?hn ?hv ?h1 ?_); (case hp => (repeat constructor)); (case hn => rfl); (case hv => rfl); (case h1 => simp [Value.oneCell']))); (((with_reducible refine' e_stS (v_resA ?hn) ?hi ?_); (case hi => (repeat (first | exact Imp.refl | exact Imp.nil | (apply Imp.pick; (focus ((repeat constructor); done))) | refine Imp.drop ?_))); (case hn => rfl)))
  (first | refine e_ret (⟨⟨(x8.1 : Int), x2.1, (x4.1 : Int), (x6.1.1 : Int), (x6.1.2.1 : Int), (x6.1.2.2 : Int), 0⟩, by simp [thirdR, h1, h2, h3, h4, h5, h6, h7, h8]⟩) rfl ?_ | refine e_retT (⟨⟨(x8.1 : Int), x2.1, (x4.1 : Int), (x6.1.1 : Int), (x6.1.2.1 : Int), (x6.1.2.2 : Int), 0⟩, by simp [thirdR, h1, h2, h3, h4, h5, h6, h7, h8]⟩) ?_)
  (repeat (first | exact Imp.refl | exact Imp.nil | (apply Imp.pick; (focus ((repeat constructor); done))) | refine Imp.drop ?_))
end Go.Proofs.Ytcmpkkkigmheoaa.D
