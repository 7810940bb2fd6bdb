/- What reads the second form. No conditions but those that each names. -/
import Derived.Test.YtcmpkkkigmheoaaDate9
set_option linter.unusedVariables false
set_option linter.unusedSimpArgs false
namespace Go.Proofs.Ytcmpkkkigmheoaa.D
open Go Go.Proofs Go.RowKit Go.Proofs.Ytcmpkkkigmheoaa.Sh Go.Proofs.Ytcmpkkkigmheoaa.Sl Go.Proofs.Ytcmpkkkigmheoaa.T
def cI (l : List UInt8) : Nat := (l ++ [44]).findIdx (· == 44)
theorem cI_le (l : List UInt8) : cI l ≤ l.length := by
  have : (l ++ [44]).findIdx (· == 44) < (l ++ [44]).length := List.findIdx_lt_length_of_exists ⟨44, by simp, by simp⟩
  rw [List.length_append, List.length_singleton] at this
  unfold cI; omega
def yN (now : Int) : Int := if okT now then (spD now).y else 1970
def topY (now : Int) : Int := if 9999 < yN now + 50 then 9999 else yN now + 50
def secY (now : Int) (two : Nat) : Int := topY now - (topY now - (two : Int) + 10000) % 100
theorem yN_b (now : Int) : 0 ≤ yN now ∧ yN now ≤ 9999 := by
  unfold yN
  split
  · rename_i h; exact (ok_sp h).y
  · omega
def secondR (now : Int) (l : List UInt8) : Option Dt := (tkR (cI l + 2) l).bind fun a => (numR 2 a.2).bind fun b => (tkR 1 b.2).bind fun c => (monR c.2).bind fun d => (tkR 1 d.2).bind fun e => (numR 2 e.2).bind fun f => (tkR 1 f.2).bind fun g => (clkR g.2).bind fun h => some ⟨secY now f.1, d.1, (b.1 : Int), (h.1.1 : Int), (h.1.2.1 : Int), (h.1.2.2 : Int), 0⟩
theorem second {W : World} {p : Nat} {l : List UInt8} {now : Int} (hl : l.length ≤ 4611686018427387904) : CnP Try.prog 29 [.pointer (some ⟨p, 0, none⟩), .int .i64 now] W [IsRd p l]
    (fun x : Sm (secondR now l) => .agg (dtA x.1)) (fun _ => []) (fun _ : Nn (secondR now l) => pnD) (fun _ => []) := by
  (refine S.dates_reader_second_cnP fun F => ?_; unfold S.dates_reader_second; simp only [List.cons_append, List.nil_append, -eq_self])
  unfold IsRd
  (((with_reducible refine e_newA fun g => ?_))); (((with_reducible refine e_opN v_nil Imp.nil ?_))); (((with_reducible refine e_opN v_fa0 Imp.nil ?_))); (((with_reducible refine' e_opN (v_ldN ?hc) ?hi ?_); (case hi => (repeat (first | exact Imp.refl | exact Imp.nil | (apply Imp.pick; (focus ((repeat constructor); done))) | refine Imp.drop ?_))); (case hc => (repeat (first | exact Nth.here | apply Nth.there)))))
  rename Nat => b4
  refine e_opN (v_cat (b := [44]) (by simp only [List.length_singleton]; omega)) Imp.nil ?_
  (refine' e_call (indexByte (l := l ++ [44]) (c := 44) (by simp)) ?hp fun _ => ?_; (case hp => (repeat (first | exact Picks.nil | (apply Picks.cons; (focus (repeat constructor)))))); (try simp only [List.cons_append, List.nil_append, Bool.not_true, Bool.not_false]))
  have hci := cI_le l
  have eci : List.findIdx (fun x : UInt8 => x == 44) (l ++ [44]) = cI l := rfl
  rw [eci]
  (((with_reducible refine e_opN (v_add ?h1 ?h2) Imp.nil ?_); (case h1 => omega); (case h2 => omega)))
  rw [show ((cI l : Nat) : Int) + 2 = ((cI l + 2 : Nat) : Int) by omega]
  (refine' e_callP (take (k := cI l + 2)) ?hp (fun _ => ?_) (fun _ => ?_); (case hp => (repeat (first | exact Picks.nil | (apply Picks.cons; (focus (repeat constructor)))))); (all_goals (try simp only [List.cons_append, List.nil_append, Bool.not_true, Bool.not_false, -eq_self])))
  rotate_left
  · rename_i y
    refine e_pan ⟨(), by simp [secondR, y.2]⟩ rfl ?_
    (repeat (first | exact Imp.refl | exact Imp.nil | (apply Imp.pick; (focus ((repeat constructor); done))) | refine Imp.drop ?_))
  rename_i x1
  obtain ⟨x1, h1⟩ := x1
  (refine' e_callP (number (k := 2) (by omega)) ?hp (fun _ => ?_) (fun _ => ?_); (case hp => (repeat (first | exact Picks.nil | (apply Picks.cons; (focus (repeat constructor)))))); (all_goals (try simp only [List.cons_append, List.nil_append, Bool.not_true, Bool.not_false, -eq_self])))
  rotate_left
  · rename_i y
    refine e_pan ⟨(), by simp [secondR, h1, y.2]⟩ rfl ?_
    (repeat (first | exact Imp.refl | exact Imp.nil | (apply Imp.pick; (focus ((repeat constructor); done))) | refine Imp.drop ?_))
  rename_i x2
  obtain ⟨x2, h2⟩ := x2
  (((with_reducible refine e_opN v_fa0 Imp.nil ?_))); (((with_reducible refine' e_stN ?hp ?ho ?_); (case hp => (repeat constructor)); (case ho => (repeat (first | exact Put.here | apply Put.there)))))
  (refine' e_callP (take (k := 1)) ?hp (fun _ => ?_) (fun _ => ?_); (case hp => (repeat (first | exact Picks.nil | (apply Picks.cons; (focus (repeat constructor)))))); (all_goals (try simp only [List.cons_append, List.nil_append, Bool.not_true, Bool.not_false, -eq_self])))
  rotate_left
  · rename_i y
    refine e_pan ⟨(), by simp [secondR, h1, h2, y.2]⟩ rfl ?_
    (repeat (first | exact Imp.refl | exact Imp.nil | (apply Imp.pick; (focus ((repeat constructor); done))) | refine Imp.drop ?_))
  rename_i x3
  obtain ⟨x3, h3⟩ := x3
  (refine' e_callP (month) ?hp (fun _ => ?_) (fun _ => ?_); (case hp => (repeat (first | exact Picks.nil | (apply Picks.cons; (focus (repeat constructor)))))); (all_goals (try simp only [List.cons_append, List.nil_append, Bool.not_true, Bool.not_false, -eq_self])))
  rotate_left
  · rename_i y
    refine e_pan ⟨(), by simp [secondR, h1, h2, h3, y.2]⟩ rfl ?_
    (repeat (first | exact Imp.refl | exact Imp.nil | (apply Imp.pick; (focus ((repeat constructor); done))) | refine Imp.drop ?_))
  rename_i x4
  obtain ⟨x4, h4⟩ := x4
  (((with_reducible refine e_opN v_fa0 Imp.nil ?_))); (((with_reducible refine' e_stN ?hp ?ho ?_); (case hp => (repeat constructor)); (case ho => (repeat (first | exact Put.here | apply Put.there)))))
  (refine' e_callP (take (k := 1)) ?hp (fun _ => ?_) (fun _ => ?_); (case hp => (repeat (first | exact Picks.nil | (apply Picks.cons; (focus (repeat constructor)))))); (all_goals (try simp only [List.cons_append, List.nil_append, Bool.not_true, Bool.not_false, -eq_self])))
  rotate_left
  · rename_i y
    refine e_pan ⟨(), by simp [secondR, h1, h2, h3, h4, y.2]⟩ rfl ?_
    (repeat (first | exact Imp.refl | exact Imp.nil | (apply Imp.pick; (focus ((repeat constructor); done))) | refine Imp.drop ?_))
  rename_i x5
  obtain ⟨x5, h5⟩ := x5
  (refine' e_callP (number (k := 2) (by omega)) ?hp (fun _ => ?_) (fun _ => ?_); (case hp => (repeat (first | exact Picks.nil | (apply Picks.cons; (focus (repeat constructor)))))); (all_goals (try simp only [List.cons_append, List.nil_append, Bool.not_true, Bool.not_false, -eq_self])))
  rotate_left
  · rename_i y
    refine e_pan ⟨(), by simp [secondR, h1, h2, h3, h4, h5, y.2]⟩ rfl ?_
    (repeat (first | exact Imp.refl | exact Imp.nil | (apply Imp.pick; (focus ((repeat constructor); done))) | refine Imp.drop ?_))
  rename_i x6
  obtain ⟨x6, h6⟩ := x6
  (refine' e_callP (take (k := 1)) ?hp (fun _ => ?_) (fun _ => ?_); (case hp => (repeat (first | exact Picks.nil | (apply Picks.cons; (focus (repeat constructor)))))); (all_goals (try simp only [List.cons_append, List.nil_append, Bool.not_true, Bool.not_false, -eq_self])))
  rotate_left
  · rename_i y
    refine e_pan ⟨(), by simp [secondR, h1, h2, h3, h4, h5, h6, y.2]⟩ rfl ?_
    (repeat (first | exact Imp.refl | exact Imp.nil | (apply Imp.pick; (focus ((repeat constructor); done))) | refine Imp.drop ?_))
  rename_i x7
  obtain ⟨x7, h7⟩ := x7
  (refine' e_callP (rclock) ?hp (fun _ => ?_) (fun _ => ?_); (case hp => (repeat (first | exact Picks.nil | (apply Picks.cons; (focus (repeat constructor)))))); (all_goals (try simp only [List.cons_append, List.nil_append, Bool.not_true, Bool.not_false, -eq_self])))
  rotate_left
  · rename_i y
    refine e_pan ⟨(), by simp [secondR, h1, h2, h3, h4, h5, h6, h7, y.2]⟩ rfl ?_
    (repeat (first | exact Imp.refl | exact Imp.nil | (apply Imp.pick; (focus ((repeat constructor); done))) | refine Imp.drop ?_))
  rename_i x8
  obtain ⟨x8, h8⟩ := x8
  have hy := yN_b now
  have h2b := num_lt h6
  (try dsimp only)
  refine e_cut1 (fun z => pu (z = .int .i64 (yN now)) :: IsRd p x8.2 :: pt b4 (.cells #[.int .i64 0, .int .i64 x4.1, .int .i64 (x2.1 : Int), .int .i64 (x8.1.1 : Int), .int .i64 (x8.1.2.1 : Int), .int .i64 (x8.1.2.2 : Int), .int .i64 0] 24) :: F) ?_ ?_
  rotate_left
  · (refine' e_call (split (n := now)) ?hp fun _ => ?_; (case hp => (repeat (first | exact Picks.nil | (apply Picks.cons; (focus (repeat constructor)))))); (try simp only [List.cons_append, List.nil_append, Bool.not_true, Bool.not_false]))
    rw [show (Value.agg (dtA (spD now))) = .agg #[.int .i64 (spD now).y, .int .i64 (spD now).m, .int .i64 (spD now).d, .int .i64 (spD now).h, .int .i64 (spD now).mi, .int .i64 (spD now).s, .int .i64 (spD now).w] from rfl]
    (((with_reducible refine' e_opN (v_extN ?hc) Imp.nil ?_); (case hc => (repeat (first | exact Nth.here | apply Nth.there))))); (((with_reducible refine' e_opN (v_extN ?hc) Imp.nil ?_); (case hc => (repeat (first | exact Nth.here | apply Nth.there))))); (((with_reducible refine e_newA fun g => ?_))); (((with_reducible refine' e_stAgg ?hp ?hn ?hv ?h1 ?_); (case hp => (repeat constructor)); (case hn => rfl); (case hv => rfl); (case h1 => simp [Value.oneCell'])))
    refine e_ask v_eql Imp.nil (fun h => ?_) (fun h => ?_)
    · have ok : okT now := Decidable.byContradiction fun c => absurd (show spE now = 11 from if_neg c) (by rw [h]; decide)
      ((with_reducible refine e_condT ?_)); (((with_reducible refine e_opN v_fa0 Imp.nil ?_))); (((with_reducible refine' e_opN (v_ldN ?hc) ?hi ?_); (case hi => (repeat (first | exact Imp.refl | exact Imp.nil | (apply Imp.pick; (focus ((repeat constructor); done))) | refine Imp.drop ?_))); (case hc => (repeat (first | exact Nth.here | apply Nth.there)))))
      refine e_sat (.pu ?_ ?_)
      · unfold yN; rw [if_pos ok]
      · (repeat (first | exact Imp.refl | exact Imp.nil | (apply Imp.pick; (focus ((repeat constructor); done))) | refine Imp.drop ?_))
    · have ok : ¬ okT now := fun c => h (if_pos c)
      ((with_reducible refine e_condF ?_))
      refine e_sat (.pu ?_ ?_)
      · unfold yN; rw [if_neg ok]
      · (repeat (first | exact Imp.refl | exact Imp.nil | (apply Imp.pick; (focus ((repeat constructor); done))) | refine Imp.drop ?_))
  intro ds z
  (try simp only [List.cons_append, List.nil_append, -eq_self])
  refine e_pu .here fun h => ?_
  subst h
  (((with_reducible refine e_opN (v_add ?h1 ?h2) Imp.nil ?_); (case h1 => omega); (case h2 => omega)))
  refine e_opN v_min Imp.nil ?_
  rw [show (if 9999 < yN now + 50 then 9999 else yN now + 50) = topY now from rfl]
  have ht : 0 ≤ topY now ∧ topY now ≤ 9999 := by unfold topY; split <;> omega
  (((with_reducible refine e_opN (v_sub ?h1 ?h2) Imp.nil ?_); (case h1 => omega); (case h2 => omega))); (((with_reducible refine e_opN (v_add ?h1 ?h2) Imp.nil ?_); (case h1 => omega); (case h2 => omega))); (((with_reducible refine e_opN (v_rem ?h1 ?h2) Imp.nil ?_); (case h1 => omega); (case h2 => omega))); (((with_reducible refine e_opN (v_sub ?h1 ?h2) Imp.nil ?_); (case h1 => omega); (case h2 => omega))); (((with_reducible refine e_opN v_fa0 Imp.nil ?_))); (((with_reducible refine' e_stN ?hp ?ho ?_); (case hp => (repeat constructor)); (case ho => (repeat (first | exact Put.here | apply Put.there))))); (((with_reducible refine' e_opN (v_ldAgg ?hn) ?hi ?_); (case hi => (repeat (first | exact Imp.refl | exact Imp.nil | (apply Imp.pick; (focus ((repeat constructor); done))) | refine Imp.drop ?_))); (case hn => rfl))); (((with_reducible refine' e_stAgg ?hp ?hn ?hv ?h1 ?_); (case hp => (repeat constructor)); (case hn => rfl); (case hv => rfl); (case h1 => simp [Value.oneCell']))); (((with_reducible refine' e_stS (v_resA ?hn) ?hi ?_); (case hi => (repeat (first | exact Imp.refl | exact Imp.nil | (apply Imp.pick; (focus ((repeat constructor); done))) | refine Imp.drop ?_))); (case hn => rfl)))
  rw [show topY now - (topY now - (x6.1 : Int) + 10000) % 100 = secY now x6.1 from rfl]
  (first | refine e_ret (⟨⟨secY now x6.1, x4.1, (x2.1 : Int), (x8.1.1 : Int), (x8.1.2.1 : Int), (x8.1.2.2 : Int), 0⟩, by simp [secondR, h1, h2, h3, h4, h5, h6, h7, h8]⟩) rfl ?_ | refine e_retT (⟨⟨secY now x6.1, x4.1, (x2.1 : Int), (x8.1.1 : Int), (x8.1.2.1 : Int), (x8.1.2.2 : Int), 0⟩, by simp [secondR, h1, h2, h3, h4, h5, h6, h7, h8]⟩) ?_)
  (repeat (first | exact Imp.refl | exact Imp.nil | (apply Imp.pick; (focus ((repeat constructor); done))) | refine Imp.drop ?_))
end Go.Proofs.Ytcmpkkkigmheoaa.D
