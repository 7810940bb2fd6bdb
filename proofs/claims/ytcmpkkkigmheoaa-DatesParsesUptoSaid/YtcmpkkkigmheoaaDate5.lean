/- A date as text; what reads a text. No conditions but those that each names. -/
import Derived.Test.YtcmpkkkigmheoaaDate4
set_option linter.unusedVariables false
set_option linter.unusedSimpArgs false
namespace Go.Proofs.Ytcmpkkkigmheoaa.D
open Go Go.Proofs Go.RowKit Go.Proofs.Ytcmpkkkigmheoaa.Sh Go.Proofs.Ytcmpkkkigmheoaa.Sl Go.Proofs.Ytcmpkkkigmheoaa.T
theorem cM_b (n : Int) : 1 ≤ cM n ∧ cM n ≤ 12 := by unfold cM; omega
theorem cD_b (n : Int) : 1 ≤ cD n ∧ cD n ≤ 31 := by
  have h := dD_b (dE_b n)
  unfold cD dM
  generalize dD (dE n) = d at h ⊢
  omega
theorem cY_b {n : Int} (h : 0 ≤ n ∧ n ≤ 2932896) : 0 ≤ cY n ∧ cY n ≤ 9999 := by
  have he := dE_b n
  have hy := dY_b he
  unfold cY
  have hq : 4 ≤ (n + 719468) / 146097 ∧ (n + 719468) / 146097 ≤ 24 := by omega
  have h24 : (n + 719468) / 146097 = 24 → dE n ≤ 146036 := by unfold dE; omega
  by_cases c : (n + 719468) / 146097 = 24
  · have h5 := h24 c
    by_cases c2 : dY (dE n) = 399
    · have hd : dD (dE n) ≤ 305 := by unfold dD; rw [c2]; omega
      have hd0 := (dD_b he).1
      have hm : ¬ cM n ≤ 2 := by
        unfold cM dM
        generalize dD (dE n) = d at hd hd0 ⊢
        have q1 : (5 * d + 2) / 153 ≤ 9 := by omega
        have q2 : 0 ≤ (5 * d + 2) / 153 := by omega
        rw [Int.emod_eq_of_lt (by omega) (by omega)]
        omega
      rw [if_neg hm]; omega
    · split <;> omega
  · split <;> omega
theorem ok_sp {n : Int} (h : okT n) : okX (spD n) := by
  unfold okT at h
  have hN : 0 ≤ n / 86400 ∧ n / 86400 ≤ 2932896 := by omega
  rw [show spD n = ⟨cY (n / 86400), cM (n / 86400), cD (n / 86400), n % 86400 / 3600, n % 3600 / 60, n % 60, (n / 86400 + 4) % 7⟩ from if_pos h]
  exact ⟨cY_b hN, cM_b _, cD_b _, by simp only; omega, by simp only; omega, by simp only; omega, by simp only; omega⟩
def foS (n : Int) : List UInt8 := if okT n then fm 0 (spD n) else []
theorem format {W : World} {n : Int} : Cn Try.prog 16 [.int .i64 n] W [] (fun _ : Unit => .tuple #[txt (foS n), .int .i64 (spE n)]) (fun _ => []) := by
  (refine S.dates_Format_cn fun F => ?_; unfold S.dates_Format; simp only [List.cons_append, List.nil_append])
  (refine' e_call (split (n := n)) ?hp fun _ => ?_; (case hp => (repeat (first | exact Picks.nil | (apply Picks.cons; (focus (repeat constructor)))))); (try simp only [List.cons_append, List.nil_append, Bool.not_true, Bool.not_false]))
  rw [show (Value.agg (dtA (spD n))) = .agg #[.int .i64 (spD n).y, .int .i64 (spD n).m, .int .i64 (spD n).d, .int .i64 (spD n).h, .int .i64 (spD n).mi, .int .i64 (spD n).s, .int .i64 (spD n).w] from rfl]
  (((with_reducible refine' e_opN (v_extN ?hc) Imp.nil ?_); (case hc => (repeat (first | exact Nth.here | apply Nth.there))))); (((with_reducible refine' e_opN (v_extN ?hc) Imp.nil ?_); (case hc => (repeat (first | exact Nth.here | apply Nth.there))))); (((with_reducible refine e_newA fun g => ?_))); (((with_reducible refine' e_stAgg ?hp ?hn ?hv ?h1 ?_); (case hp => (repeat constructor)); (case hn => rfl); (case hv => rfl); (case h1 => simp [Value.oneCell'])))
  (refine e_ask v_neq Imp.nil (fun h => ?_) (fun h => ?_))
  · have hb : ¬ okT n := fun c => h (if_pos c)
    rw [show foS n = [] from if_neg hb]
    ((with_reducible refine e_condT ?_))
    (first | refine e_ret (()) rfl ?_ | refine e_retT (()) ?_)
    (repeat (first | exact Imp.refl | exact Imp.nil | (apply Imp.pick; (focus ((repeat constructor); done))) | refine Imp.drop ?_))
  · have ok : okT n := Decidable.byContradiction fun c => h (by rw [show spE n = 11 from if_neg c]; decide)
    rw [show foS n = fm 0 (spD n) from if_pos ok, show spE n = 0 from if_pos ok]
    ((with_reducible refine e_condF ?_)); (((with_reducible refine' e_opN (v_ldAgg ?hn) ?hi ?_); (case hi => (repeat (first | exact Imp.refl | exact Imp.nil | (apply Imp.pick; (focus ((repeat constructor); done))) | refine Imp.drop ?_))); (case hn => rfl)))
    (refine' e_call (form (x := spD n) (k := 0) (ok_sp ok)) ?hp fun _ => ?_; (case hp => (repeat (first | exact Picks.nil | (apply Picks.cons; (focus (repeat constructor)))))); (try simp only [List.cons_append, List.nil_append, Bool.not_true, Bool.not_false]))
    (first | refine e_ret (()) rfl ?_ | refine e_retT (()) ?_)
    (repeat (first | exact Imp.refl | exact Imp.nil | (apply Imp.pick; (focus ((repeat constructor); done))) | refine Imp.drop ?_))
abbrev Sm {α : Type} (m : Option α) := { x : α // m = some x }
abbrev Nn {α : Type} (m : Option α) := { _u : Unit // m = none }
def pnD : List PanicEntry := pe (.iface 25 (.int .i64 41))
def IsRd (p : Nat) (l : List UInt8) : HP := pt p (.cells #[txt l] 80)
def tkR (k : Nat) (l : List UInt8) : Option (List UInt8 × List UInt8) := if k ≤ l.length then some (l.take k, l.drop k) else none
theorem take {W : World} {p k : Nat} {l : List UInt8} : CnP Try.prog 44 [.pointer (some ⟨p, 0, none⟩), .int .i64 (k : Int)] W [IsRd p l]
    (fun x : Sm (tkR k l) => txt x.1.1) (fun x => [IsRd p x.1.2]) (fun _ : Nn (tkR k l) => pnD) (fun _ => []) := by
  (refine S.dates_reader_take_cnP fun F => ?_; unfold S.dates_reader_take; simp only [List.cons_append, List.nil_append, -eq_self])
  refine e_cut0 (pu (k ≤ l.length) :: IsRd p l :: F) ?_ ?_
  rotate_left
  · unfold IsRd
    (((with_reducible refine e_opN v_nil Imp.nil ?_))); (((with_reducible refine e_opN v_fa0 Imp.nil ?_))); (((with_reducible refine' e_opN (v_ldN ?hc) ?hi ?_); (case hi => (repeat (first | exact Imp.refl | exact Imp.nil | (apply Imp.pick; (focus ((repeat constructor); done))) | refine Imp.drop ?_))); (case hc => (repeat (first | exact Nth.here | apply Nth.there)))))
    refine e_opN v_lent Imp.nil ?_
    (refine e_ask v_gtr Imp.nil (fun h => ?_) (fun h => ?_))
    · ((with_reducible refine e_condT ?_))
      refine e_opN v_mkI Imp.nil ?_
      refine e_panic ?_
      refine e_pan ⟨(), ?_⟩ rfl ?_
      · unfold tkR; rw [if_neg (by omega)]
      · (repeat (first | exact Imp.refl | exact Imp.nil | (apply Imp.pick; (focus ((repeat constructor); done))) | refine Imp.drop ?_))
    · ((with_reducible refine e_condF ?_))
      refine e_sat (.pu (by omega) ?_)
      (repeat (first | exact Imp.refl | exact Imp.nil | (apply Imp.pick; (focus ((repeat constructor); done))) | refine Imp.drop ?_))
  intro ds
  (try simp only [List.cons_append, List.nil_append, -eq_self])
  refine e_pu .here fun hk => ?_
  unfold IsRd
  (((with_reducible refine e_opN v_nil Imp.nil ?_))); (((with_reducible refine e_opN v_fa0 Imp.nil ?_))); (((with_reducible refine' e_opN (v_ldN ?hc) ?hi ?_); (case hi => (repeat (first | exact Imp.refl | exact Imp.nil | (apply Imp.pick; (focus ((repeat constructor); done))) | refine Imp.drop ?_))); (case hc => (repeat (first | exact Nth.here | apply Nth.there)))))
  refine e_opN (v_ssh k (by rfl) hk) Imp.nil ?_
  (((with_reducible refine e_opN v_nil Imp.nil ?_))); (((with_reducible refine e_opN v_fa0 Imp.nil ?_))); (((with_reducible refine' e_opN (v_ldN ?hc) ?hi ?_); (case hi => (repeat (first | exact Imp.refl | exact Imp.nil | (apply Imp.pick; (focus ((repeat constructor); done))) | refine Imp.drop ?_))); (case hc => (repeat (first | exact Nth.here | apply Nth.there)))))
  refine e_opN (v_ssl k (by rfl) hk) Imp.nil ?_
  (((with_reducible refine e_opN v_nil Imp.nil ?_))); (((with_reducible refine e_opN v_fa0 Imp.nil ?_))); (((with_reducible refine' e_stN ?hp ?ho ?_); (case hp => (repeat constructor)); (case ho => (repeat (first | exact Put.here | apply Put.there)))))
  (first | refine e_ret (⟨(l.take k, l.drop k), by unfold tkR; rw [if_pos hk]⟩) rfl ?_ | refine e_retT (⟨(l.take k, l.drop k), by unfold tkR; rw [if_pos hk]⟩) ?_)
  (repeat (first | exact Imp.refl | exact Imp.nil | (apply Imp.pick; (focus ((repeat constructor); done))) | refine Imp.drop ?_))
end Go.Proofs.Ytcmpkkkigmheoaa.D
