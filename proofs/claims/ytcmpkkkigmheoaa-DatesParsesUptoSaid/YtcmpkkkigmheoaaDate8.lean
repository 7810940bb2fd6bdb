/- What reads the three forms. No conditions but those that each names. -/
import Derived.Test.YtcmpkkkigmheoaaDate7
set_option linter.unusedVariables false
set_option linter.unusedSimpArgs false
namespace Go.Proofs.Ytcmpkkkigmheoaa.D
open Go Go.Proofs Go.RowKit Go.Proofs.Ytcmpkkkigmheoaa.Sh Go.Proofs.Ytcmpkkkigmheoaa.Sl Go.Proofs.Ytcmpkkkigmheoaa.T
theorem numF_lt : ∀ (w : List UInt8) (acc v : Nat), numF acc w = some v → v < (acc + 1) * 10 ^ w.length
  | [], acc, v, h => by
    have := Option.some.inj h
    simp; omega
  | c :: r, acc, v, h => by
    unfold numF at h
    split at h
    · cases h
    · have hc := numF_lt r _ v h
      have h9 : (10 * acc + (c.toNat - 48) + 1) ≤ (acc + 1) * 10 := by omega
      have := Nat.mul_le_mul_right (10 ^ r.length) h9
      rw [List.length_cons, Nat.pow_succ, Nat.mul_comm (10 ^ r.length) 10, ← Nat.mul_assoc]
      omega
theorem num_lt {k : Nat} {l : List UInt8} {x : Nat × List UInt8} (h : numR k l = some x) : x.1 < 10 ^ k := by
  unfold numR at h
  cases ht : tkR k l with
  | none => rw [ht] at h; cases h
  | some y =>
    rw [ht] at h
    simp only at h
    cases hv : numV y.1 with
    | none => rw [hv] at h; cases h
    | some v =>
      rw [hv] at h
      have := Option.some.inj h
      subst this
      have := numF_lt _ _ _ hv
      rw [fix0_len, tk_len ht] at this
      simpa using this
theorem mF_b (w : List UInt8) : ∀ (m i : Nat) (v : Int), mF w i m = some v → (i : Int) + 1 ≤ v ∧ v ≤ i + m
  | 0, i, v, h => by cases h
  | m + 1, i, v, h => by
    unfold mF at h
    split at h
    · have := Option.some.inj h; omega
    · have := mF_b w m (i + 1) v h; omega
theorem mon_b {l : List UInt8} {x : Int × List UInt8} (h : monR l = some x) : 1 ≤ x.1 ∧ x.1 ≤ 12 := by
  unfold monR at h
  cases ht : tkR 3 l with
  | none => rw [ht] at h; cases h
  | some y =>
    rw [ht] at h
    simp only at h
    cases hv : monV y.1 with
    | none => rw [hv] at h; cases h
    | some v =>
      rw [hv] at h
      have := Option.some.inj h
      subst this
      have := mF_b _ _ _ _ hv
      simp only; omega
abbrev Tm := Nat × Nat × Nat
def clkR (l : List UInt8) : Option (Tm × List UInt8) :=
  (numR 2 l).bind fun a => (tkR 1 a.2).bind fun b => (numR 2 b.2).bind fun c => (tkR 1 c.2).bind fun d => (numR 2 d.2).bind fun e => some ((a.1, c.1, e.1), e.2)
theorem rclock {W : World} {p q : Nat} {l : List UInt8} {y m d h mi s w : Value} : CnP Try.prog 47 [.pointer (some ⟨p, 0, none⟩), .pointer (some ⟨q, 0, none⟩)] W [IsRd p l, pt q (.cells #[y, m, d, h, mi, s, w] 24)]
    (fun x : Sm (clkR l) => .tuple #[]) (fun x => [IsRd p x.1.2, pt q (.cells #[y, m, d, .int .i64 (x.1.1.1 : Int), .int .i64 (x.1.1.2.1 : Int), .int .i64 (x.1.1.2.2 : Int), w] 24)]) (fun _ : Nn (clkR l) => pnD) (fun _ => []) := by
  (refine S.dates_reader_clock_cnP fun F => ?_; unfold S.dates_reader_clock; simp only [List.cons_append, List.nil_append, -eq_self])
  (refine' e_callP (number (k := 2) (by omega)) ?hp (fun _ => ?_) (fun _ => ?_); (case hp => (repeat (first | exact Picks.nil | (apply Picks.cons; (focus (repeat constructor)))))); (all_goals (try simp only [List.cons_append, List.nil_append, Bool.not_true, Bool.not_false, -eq_self])))
  rotate_left
  · rename_i y
    refine e_pan ⟨(), by simp [clkR, y.2]⟩ rfl ?_
    (repeat (first | exact Imp.refl | exact Imp.nil | (apply Imp.pick; (focus ((repeat constructor); done))) | refine Imp.drop ?_))
  rename_i x1
  obtain ⟨x1, h1⟩ := x1
  (((with_reducible refine e_opN v_nil Imp.nil ?_))); (((with_reducible refine e_opN v_fa0 Imp.nil ?_))); (((with_reducible refine' e_stN ?hp ?ho ?_); (case hp => (repeat constructor)); (case ho => (repeat (first | exact Put.here | apply Put.there)))))
  (refine' e_callP (take (k := 1)) ?hp (fun _ => ?_) (fun _ => ?_); (case hp => (repeat (first | exact Picks.nil | (apply Picks.cons; (focus (repeat constructor)))))); (all_goals (try simp only [List.cons_append, List.nil_append, Bool.not_true, Bool.not_false, -eq_self])))
  rotate_left
  · rename_i y
    refine e_pan ⟨(), by simp [clkR, h1, y.2]⟩ rfl ?_
    (repeat (first | exact Imp.refl | exact Imp.nil | (apply Imp.pick; (focus ((repeat constructor); done))) | refine Imp.drop ?_))
  rename_i x2
  obtain ⟨x2, h2⟩ := x2
  (refine' e_callP (number (k := 2) (by omega)) ?hp (fun _ => ?_) (fun _ => ?_); (case hp => (repeat (first | exact Picks.nil | (apply Picks.cons; (focus (repeat constructor)))))); (all_goals (try simp only [List.cons_append, List.nil_append, Bool.not_true, Bool.not_false, -eq_self])))
  rotate_left
  · rename_i y
    refine e_pan ⟨(), by simp [clkR, h1, h2, y.2]⟩ rfl ?_
    (repeat (first | exact Imp.refl | exact Imp.nil | (apply Imp.pick; (focus ((repeat constructor); done))) | refine Imp.drop ?_))
  rename_i x3
  obtain ⟨x3, h3⟩ := x3
  (((with_reducible refine e_opN v_nil Imp.nil ?_))); (((with_reducible refine e_opN v_fa0 Imp.nil ?_))); (((with_reducible refine' e_stN ?hp ?ho ?_); (case hp => (repeat constructor)); (case ho => (repeat (first | exact Put.here | apply Put.there)))))
  (refine' e_callP (take (k := 1)) ?hp (fun _ => ?_) (fun _ => ?_); (case hp => (repeat (first | exact Picks.nil | (apply Picks.cons; (focus (repeat constructor)))))); (all_goals (try simp only [List.cons_append, List.nil_append, Bool.not_true, Bool.not_false, -eq_self])))
  rotate_left
  · rename_i y
    refine e_pan ⟨(), by simp [clkR, h1, h2, h3, y.2]⟩ rfl ?_
    (repeat (first | exact Imp.refl | exact Imp.nil | (apply Imp.pick; (focus ((repeat constructor); done))) | refine Imp.drop ?_))
  rename_i x4
  obtain ⟨x4, h4⟩ := x4
  (refine' e_callP (number (k := 2) (by omega)) ?hp (fun _ => ?_) (fun _ => ?_); (case hp => (repeat (first | exact Picks.nil | (apply Picks.cons; (focus (repeat constructor)))))); (all_goals (try simp only [List.cons_append, List.nil_append, Bool.not_true, Bool.not_false, -eq_self])))
  rotate_left
  · rename_i y
    refine e_pan ⟨(), by simp [clkR, h1, h2, h3, h4, y.2]⟩ rfl ?_
    (repeat (first | exact Imp.refl | exact Imp.nil | (apply Imp.pick; (focus ((repeat constructor); done))) | refine Imp.drop ?_))
  rename_i x5
  obtain ⟨x5, h5⟩ := x5
  (((with_reducible refine e_opN v_nil Imp.nil ?_))); (((with_reducible refine e_opN v_fa0 Imp.nil ?_))); (((with_reducible refine' e_stN ?hp ?ho ?_); (case hp => (repeat constructor)); (case ho => (repeat (first | exact Put.here | apply Put.there)))))
  (first | refine e_ret (⟨((x1.1, x3.1, x5.1), x5.2), by simp [clkR, h1, h2, h3, h4, h5]⟩) rfl ?_ | refine e_retT (⟨((x1.1, x3.1, x5.1), x5.2), by simp [clkR, h1, h2, h3, h4, h5]⟩) ?_)
  (repeat (first | exact Imp.refl | exact Imp.nil | (apply Imp.pick; (focus ((repeat constructor); done))) | refine Imp.drop ?_))
end Go.Proofs.Ytcmpkkkigmheoaa.D
