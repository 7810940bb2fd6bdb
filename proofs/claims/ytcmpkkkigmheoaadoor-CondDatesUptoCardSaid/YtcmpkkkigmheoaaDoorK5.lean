/- A time's date, and a date's time: what the code computes. No conditions but those that each names. (16 texts made one; each says below what it is.) -/
import Derived.Test.YtcmpkkkigmheoaaDoorK4
import Derived.Laws.Externs
import Derived.Test.YtcmpkkkigmheoaaDoorK2
import Derived.KernelRfl
import Derived.Test.YtcmpkkkigmheoaaDoorRows
import Derived.Deep.DeepHandedRow
import Derived.LaidMore
import Derived.Lay
import Derived.MakeChecks
set_option linter.unusedVariables false
set_option linter.unusedSimpArgs false
set_option linter.unusedSectionVars false
/-! A time's date, and a date's time: what the code computes. No conditions but those that each names. -/
namespace Go.Proofs.YtcmpkkkigmheoaaDoor.D
open Go Go.Proofs Go.RowKit Go.Proofs.YtcmpkkkigmheoaaDoor.Sh Go.Proofs.YtcmpkkkigmheoaaDoor.Sl Go.Proofs.YtcmpkkkigmheoaaDoor.T
structure Dt where
  y : Int
  m : Int
  d : Int
  h : Int
  mi : Int
  s : Int
  w : Int
  deriving DecidableEq
def I (n : Int) : Value := .int .i64 n
def dtA (x : Dt) : Array Value := #[.int .i64 x.y, .int .i64 x.m, .int .i64 x.d, .int .i64 x.h, .int .i64 x.mi, .int .i64 x.s, .int .i64 x.w]
def dt0 : Dt := ⟨0, 0, 0, 0, 0, 0, 0⟩
def okT (n : Int) : Prop := 0 ≤ n ∧ n ≤ 253402300799
instance (n : Int) : Decidable (okT n) := by unfold okT; infer_instance
def spD (n : Int) : Dt := if okT n then ⟨cY (n / 86400), cM (n / 86400), cD (n / 86400), n % 86400 / 3600, n % 3600 / 60, n % 60, (n / 86400 + 4) % 7⟩ else dt0
def spE (n : Int) : Int := if okT n then 0 else 11
theorem split {W : World} {n : Int} : Cn Tryd.prog 56 [.int .i64 n] W [] (fun _ : Unit => .tuple #[.agg (dtA (spD n)), .int .i64 (spE n)]) (fun _ => []) := by
  have bad : ¬ okT n → spD n = dt0 ∧ spE n = 11 := fun h => ⟨if_neg h, if_neg h⟩
  (refine S.dates_Split_cn fun F => ?_; unfold S.dates_Split; simp only [List.cons_append, List.nil_append])
  (((with_reducible refine e_newA fun g => ?_)))
  (refine e_ask v_lss Imp.nil (fun h => ?_) (fun h => ?_))
  · have hb := bad (fun c => by unfold okT at c; omega)
    rw [hb.1, hb.2]
    ((with_reducible refine e_gdF1 ?_)); ((with_reducible refine e_gdF1 ?_)); (((with_reducible refine e_opN v_pickT Imp.nil ?_))); ((with_reducible refine e_condT ?_)); (((with_reducible refine e_opN v_rv Imp.nil ?_))); (((with_reducible refine' e_stAgg ?hp ?hn ?hv ?h1 ?_); (case hp => (repeat constructor)); (case hn => rfl); (case hv => rfl); (case h1 => simp [Value.oneCell']))); (((with_reducible refine' e_stS (v_resA ?hn) ?hi ?_); (case hi => (repeat (first | exact Imp.refl | exact Imp.nil | (apply Imp.pick; (focus ((repeat constructor); done))) | refine Imp.drop ?_))); (case hn => rfl)))
    (first | refine e_ret (()) rfl ?_ | refine e_retT (()) ?_)
    (repeat (first | exact Imp.refl | exact Imp.nil | (apply Imp.pick; (focus ((repeat constructor); done))) | refine Imp.drop ?_))
  · ((with_reducible refine e_gdT ?_)); ((with_reducible refine e_gdT ?_))
    (refine e_ask v_gtr Imp.nil (fun h => ?_) (fun h => ?_))
    · have hb := bad (fun c => by unfold okT at c; omega)
      rw [hb.1, hb.2]
      (((with_reducible refine e_opN v_pickF Imp.nil ?_))); ((with_reducible refine e_condT ?_)); (((with_reducible refine e_opN v_rv Imp.nil ?_))); (((with_reducible refine' e_stAgg ?hp ?hn ?hv ?h1 ?_); (case hp => (repeat constructor)); (case hn => rfl); (case hv => rfl); (case h1 => simp [Value.oneCell']))); (((with_reducible refine' e_stS (v_resA ?hn) ?hi ?_); (case hi => (repeat (first | exact Imp.refl | exact Imp.nil | (apply Imp.pick; (focus ((repeat constructor); done))) | refine Imp.drop ?_))); (case hn => rfl)))
      (first | refine e_ret (()) rfl ?_ | refine e_retT (()) ?_)
      (repeat (first | exact Imp.refl | exact Imp.nil | (apply Imp.pick; (focus ((repeat constructor); done))) | refine Imp.drop ?_))
    · have ok : okT n := ⟨by omega, by omega⟩
      rw [show spD n = ⟨cY (n / 86400), cM (n / 86400), cD (n / 86400), n % 86400 / 3600, n % 3600 / 60, n % 60, (n / 86400 + 4) % 7⟩ from if_pos ok, show spE n = 0 from if_pos ok]
      (((with_reducible refine e_opN v_pickF Imp.nil ?_))); ((with_reducible refine e_condF ?_)); (((with_reducible refine e_opN (v_quo ?h1 ?h2 ?h3) Imp.nil ?_); (case h1 => omega); (case h2 => omega); (case h3 => omega))); (((with_reducible refine e_opN (v_add ?h1 ?h2) Imp.nil ?_); (case h1 => omega); (case h2 => omega))); (((with_reducible refine e_opN (v_rem ?h1 ?h2) Imp.nil ?_); (case h1 => omega); (case h2 => omega))); (((with_reducible refine e_opN (v_rem ?h1 ?h2) Imp.nil ?_); (case h1 => omega); (case h2 => omega))); (((with_reducible refine e_opN (v_quo ?h1 ?h2 ?h3) Imp.nil ?_); (case h1 => omega); (case h2 => omega); (case h3 => omega))); (((with_reducible refine e_opN (v_rem ?h1 ?h2) Imp.nil ?_); (case h1 => omega); (case h2 => omega))); (((with_reducible refine e_opN (v_quo ?h1 ?h2 ?h3) Imp.nil ?_); (case h1 => omega); (case h2 => omega); (case h3 => omega))); (((with_reducible refine e_opN (v_rem ?h1 ?h2) Imp.nil ?_); (case h1 => omega); (case h2 => omega))); (((with_reducible refine e_opN v_rv Imp.nil ?_))); (((with_reducible refine e_newA fun g => ?_))); (((with_reducible refine' e_stAgg ?hp ?hn ?hv ?h1 ?_); (case hp => (repeat constructor)); (case hn => rfl); (case hv => rfl); (case h1 => simp [Value.oneCell']))); (((with_reducible refine e_opN (v_quo ?h1 ?h2 ?h3) Imp.nil ?_); (case h1 => omega); (case h2 => omega); (case h3 => omega)))
      (refine' e_call (civil (n := n / 86400) (by omega) (by omega)) ?hp fun _ => ?_; (case hp => (repeat (first | exact Picks.nil | (apply Picks.cons; (focus (repeat constructor)))))); (try simp only [List.cons_append, List.nil_append, Bool.not_true, Bool.not_false]))
      (((with_reducible refine' e_opN (v_extN ?hc) Imp.nil ?_); (case hc => (repeat (first | exact Nth.here | apply Nth.there))))); (((with_reducible refine' e_opN (v_extN ?hc) Imp.nil ?_); (case hc => (repeat (first | exact Nth.here | apply Nth.there))))); (((with_reducible refine' e_opN (v_extN ?hc) Imp.nil ?_); (case hc => (repeat (first | exact Nth.here | apply Nth.there))))); (((with_reducible refine e_opN v_fa0 Imp.nil ?_))); (((with_reducible refine' e_stN ?hp ?ho ?_); (case hp => (repeat constructor)); (case ho => (repeat (first | exact Put.here | apply Put.there))))); (((with_reducible refine e_opN v_fa0 Imp.nil ?_))); (((with_reducible refine' e_stN ?hp ?ho ?_); (case hp => (repeat constructor)); (case ho => (repeat (first | exact Put.here | apply Put.there))))); (((with_reducible refine e_opN v_fa0 Imp.nil ?_))); (((with_reducible refine' e_stN ?hp ?ho ?_); (case hp => (repeat constructor)); (case ho => (repeat (first | exact Put.here | apply Put.there))))); (((with_reducible refine' e_opN (v_ldAgg ?hn) ?hi ?_); (case hi => (repeat (first | exact Imp.refl | exact Imp.nil | (apply Imp.pick; (focus ((repeat constructor); done))) | refine Imp.drop ?_))); (case hn => rfl))); (((with_reducible refine' e_stAgg ?hp ?hn ?hv ?h1 ?_); (case hp => (repeat constructor)); (case hn => rfl); (case hv => rfl); (case h1 => simp [Value.oneCell']))); (((with_reducible refine' e_stS (v_resA ?hn) ?hi ?_); (case hi => (repeat (first | exact Imp.refl | exact Imp.nil | (apply Imp.pick; (focus ((repeat constructor); done))) | refine Imp.drop ?_))); (case hn => rfl)))
      (first | refine e_ret (()) rfl ?_ | refine e_retT (()) ?_)
      (repeat (first | exact Imp.refl | exact Imp.nil | (apply Imp.pick; (focus ((repeat constructor); done))) | refine Imp.drop ?_))
theorem in_ {W : World} {n a b : Int} : Cn Tryd.prog 69 [.int .i64 n, .int .i64 a, .int .i64 b] W [] (fun _ : Unit => .bool (decide (a ≤ n ∧ n ≤ b))) (fun _ => []) := by
  (refine S.dates_Join_1_cn fun F => ?_; unfold S.dates_Join_1; simp only [List.cons_append, List.nil_append])
  (refine e_ask v_geq Imp.nil (fun h => ?_) (fun h => ?_))
  · ((with_reducible refine e_gdT ?_)); ((with_reducible refine e_gdT ?_)); ((with_reducible refine e_gdT ?_))
    (refine e_ask v_leq Imp.nil (fun h => ?_) (fun h => ?_))
    · (((with_reducible refine e_opN v_pickT Imp.nil ?_)))
      rw [decide_eq_true ⟨by omega, by omega⟩]
      (first | refine e_ret (()) rfl ?_ | refine e_retT (()) ?_)
      (repeat (first | exact Imp.refl | exact Imp.nil | (apply Imp.pick; (focus ((repeat constructor); done))) | refine Imp.drop ?_))
    · (((with_reducible refine e_opN v_pickT Imp.nil ?_)))
      rw [decide_eq_false (fun c => by omega)]
      (first | refine e_ret (()) rfl ?_ | refine e_retT (()) ?_)
      (repeat (first | exact Imp.refl | exact Imp.nil | (apply Imp.pick; (focus ((repeat constructor); done))) | refine Imp.drop ?_))
  · ((with_reducible refine e_gdF2 ?_)); ((with_reducible refine e_gdF2 ?_)); ((with_reducible refine e_gdF2 ?_)); (((with_reducible refine e_opN v_pickF Imp.nil ?_)))
    rw [decide_eq_false (fun c => by omega)]
    (first | refine e_ret (()) rfl ?_ | refine e_retT (()) ?_)
    (repeat (first | exact Imp.refl | exact Imp.nil | (apply Imp.pick; (focus ((repeat constructor); done))) | refine Imp.drop ?_))
theorem dayN_b {y m d : Int} (hy : 1970 ≤ y ∧ y ≤ 9999) (hm : 1 ≤ m ∧ m ≤ 12) (hd : 1 ≤ d ∧ d ≤ 31) : 0 ≤ dayN y m d ∧ dayN y m d ≤ 3000000 := by
  unfold dayN adj
  by_cases c : m ≤ 2
  · rw [if_pos c]
    have e : (m + 9) % 12 = m + 9 := by omega
    rw [e]
    obtain ⟨a, ha⟩ : ∃ a, a = y - 1 := ⟨_, rfl⟩
    rw [← ha]
    have h1 : 4 ≤ a / 400 ∧ a / 400 ≤ 24 := by omega
    have h2 : a / 400 = 4 → 369 ≤ a % 400 := by omega
    have h3 : 0 ≤ a % 400 ∧ a % 400 ≤ 399 := by omega
    generalize a / 400 = q at *
    generalize a % 400 = t at *
    omega
  · rw [if_neg c]
    have e : (m + 9) % 12 = m - 3 := by omega
    rw [e]
    have h1 : 4 ≤ y / 400 ∧ y / 400 ≤ 24 := by omega
    have h2 : y / 400 = 4 → 370 ≤ y % 400 := by omega
    have h3 : 0 ≤ y % 400 ∧ y % 400 ≤ 399 := by omega
    generalize y / 400 = q at *
    generalize y % 400 = t at *
    omega
def okF (x : Dt) : Prop := (1970 ≤ x.y ∧ x.y ≤ 9999) ∧ (1 ≤ x.m ∧ x.m ≤ 12) ∧ (1 ≤ x.d ∧ x.d ≤ 31) ∧ (0 ≤ x.h ∧ x.h ≤ 23) ∧ (0 ≤ x.mi ∧ x.mi ≤ 59) ∧ (0 ≤ x.s ∧ x.s ≤ 59) ∧ cM (dayN x.y x.m x.d) = x.m
instance (x : Dt) : Decidable (okF x) := by unfold okF; infer_instance
def jN (x : Dt) : Int := if okF x then dayN x.y x.m x.d * 86400 + x.h * 3600 + x.mi * 60 + x.s else 0
def jE (x : Dt) : Int := if okF x then 0 else 41
theorem join {W : World} {x : Dt} : Cn Tryd.prog 58 [.agg (dtA x)] W [] (fun _ : Unit => .tuple #[.int .i64 (jN x), .int .i64 (jE x)]) (fun _ => []) := by
  have bad : ¬ okF x → jN x = 0 ∧ jE x = 41 := fun h => ⟨if_neg h, if_neg h⟩
  (refine S.dates_Join_cn fun F => ?_; unfold S.dates_Join; simp only [List.cons_append, List.nil_append])
  unfold dtA
  (((with_reducible refine e_boxA fun g => ?_))); (((with_reducible refine e_opN v_fa0 Imp.nil ?_))); (((with_reducible refine' e_opN (v_ldN ?hc) ?hi ?_); (case hi => (repeat (first | exact Imp.refl | exact Imp.nil | (apply Imp.pick; (focus ((repeat constructor); done))) | refine Imp.drop ?_))); (case hc => (repeat (first | exact Nth.here | apply Nth.there)))))
  (refine' e_call (in_ (n := x.y) (a := 1970) (b := 9999)) ?hp fun _ => ?_; (case hp => (repeat (first | exact Picks.nil | (apply Picks.cons; (focus (repeat constructor)))))); (try simp only [List.cons_append, List.nil_append, Bool.not_true, Bool.not_false]))
  by_cases h0 : 1970 ≤ x.y ∧ x.y ≤ 9999
  rotate_left
  · rw [decide_eq_false h0]
    obtain ⟨b1, b2⟩ := bad (fun c => h0 (by unfold okF at c; exact c.1))
    rw [b1, b2]
    (((with_reducible refine e_opN v_notF Imp.nil ?_))); ((with_reducible refine e_gdF1 ?_)); ((with_reducible refine e_gdF1 ?_)); ((with_reducible refine e_gdF1 ?_)); ((with_reducible refine e_gdF1 ?_)); ((with_reducible refine e_gdF1 ?_)); (((with_reducible refine e_opN v_pickT Imp.nil ?_))); ((with_reducible refine e_gdF1 ?_)); ((with_reducible refine e_gdF1 ?_)); ((with_reducible refine e_gdF1 ?_)); ((with_reducible refine e_gdF1 ?_)); ((with_reducible refine e_gdF1 ?_)); (((with_reducible refine e_opN v_pickT Imp.nil ?_))); ((with_reducible refine e_gdF1 ?_)); ((with_reducible refine e_gdF1 ?_)); ((with_reducible refine e_gdF1 ?_)); ((with_reducible refine e_gdF1 ?_)); ((with_reducible refine e_gdF1 ?_)); (((with_reducible refine e_opN v_pickT Imp.nil ?_))); ((with_reducible refine e_gdF1 ?_)); ((with_reducible refine e_gdF1 ?_)); ((with_reducible refine e_gdF1 ?_)); ((with_reducible refine e_gdF1 ?_)); ((with_reducible refine e_gdF1 ?_)); (((with_reducible refine e_opN v_pickT Imp.nil ?_))); ((with_reducible refine e_gdF1 ?_)); ((with_reducible refine e_gdF1 ?_)); ((with_reducible refine e_gdF1 ?_)); ((with_reducible refine e_gdF1 ?_)); ((with_reducible refine e_gdF1 ?_)); (((with_reducible refine e_opN v_pickT Imp.nil ?_))); ((with_reducible refine e_condT ?_))
    (first | refine e_ret (()) rfl ?_ | refine e_retT (()) ?_)
    (repeat (first | exact Imp.refl | exact Imp.nil | (apply Imp.pick; (focus ((repeat constructor); done))) | refine Imp.drop ?_))
  rw [decide_eq_true h0]
  (((with_reducible refine e_opN v_notT Imp.nil ?_))); ((with_reducible refine e_gdT ?_)); ((with_reducible refine e_gdT ?_)); (((with_reducible refine e_opN v_fa0 Imp.nil ?_))); ((with_reducible refine e_gdT ?_)); (((with_reducible refine' e_opN (v_ldN ?hc) ?hi ?_); (case hi => (repeat (first | exact Imp.refl | exact Imp.nil | (apply Imp.pick; (focus ((repeat constructor); done))) | refine Imp.drop ?_))); (case hc => (repeat (first | exact Nth.here | apply Nth.there))))); ((with_reducible refine e_gdT ?_))
  (refine' e_call (in_ (n := x.m) (a := 1) (b := 12)) ?hp fun _ => ?_; (case hp => (repeat (first | exact Picks.nil | (apply Picks.cons; (focus (repeat constructor)))))); (try simp only [List.cons_append, List.nil_append, Bool.not_true, Bool.not_false]))
  by_cases h1 : 1 ≤ x.m ∧ x.m ≤ 12
  rotate_left
  · rw [decide_eq_false h1]
    obtain ⟨b1, b2⟩ := bad (fun c => h1 (by unfold okF at c; exact c.2.1))
    rw [b1, b2]
    ((with_reducible refine e_gdT ?_)); (((with_reducible refine e_opN v_notF Imp.nil ?_))); (((with_reducible refine e_opN v_pickF Imp.nil ?_))); ((with_reducible refine e_gdF1 ?_)); ((with_reducible refine e_gdF1 ?_)); ((with_reducible refine e_gdF1 ?_)); ((with_reducible refine e_gdF1 ?_)); ((with_reducible refine e_gdF1 ?_)); (((with_reducible refine e_opN v_pickT Imp.nil ?_))); ((with_reducible refine e_gdF1 ?_)); ((with_reducible refine e_gdF1 ?_)); ((with_reducible refine e_gdF1 ?_)); ((with_reducible refine e_gdF1 ?_)); ((with_reducible refine e_gdF1 ?_)); (((with_reducible refine e_opN v_pickT Imp.nil ?_))); ((with_reducible refine e_gdF1 ?_)); ((with_reducible refine e_gdF1 ?_)); ((with_reducible refine e_gdF1 ?_)); ((with_reducible refine e_gdF1 ?_)); ((with_reducible refine e_gdF1 ?_)); (((with_reducible refine e_opN v_pickT Imp.nil ?_))); ((with_reducible refine e_gdF1 ?_)); ((with_reducible refine e_gdF1 ?_)); ((with_reducible refine e_gdF1 ?_)); ((with_reducible refine e_gdF1 ?_)); ((with_reducible refine e_gdF1 ?_)); (((with_reducible refine e_opN v_pickT Imp.nil ?_))); ((with_reducible refine e_condT ?_))
    (first | refine e_ret (()) rfl ?_ | refine e_retT (()) ?_)
    (repeat (first | exact Imp.refl | exact Imp.nil | (apply Imp.pick; (focus ((repeat constructor); done))) | refine Imp.drop ?_))
  rw [decide_eq_true h1]
  ((with_reducible refine e_gdT ?_)); (((with_reducible refine e_opN v_notT Imp.nil ?_))); (((with_reducible refine e_opN v_pickF Imp.nil ?_))); ((with_reducible refine e_gdT ?_)); ((with_reducible refine e_gdT ?_)); (((with_reducible refine e_opN v_fa0 Imp.nil ?_))); ((with_reducible refine e_gdT ?_)); (((with_reducible refine' e_opN (v_ldN ?hc) ?hi ?_); (case hi => (repeat (first | exact Imp.refl | exact Imp.nil | (apply Imp.pick; (focus ((repeat constructor); done))) | refine Imp.drop ?_))); (case hc => (repeat (first | exact Nth.here | apply Nth.there))))); ((with_reducible refine e_gdT ?_))
  (refine' e_call (in_ (n := x.d) (a := 1) (b := 31)) ?hp fun _ => ?_; (case hp => (repeat (first | exact Picks.nil | (apply Picks.cons; (focus (repeat constructor)))))); (try simp only [List.cons_append, List.nil_append, Bool.not_true, Bool.not_false]))
  by_cases h2 : 1 ≤ x.d ∧ x.d ≤ 31
  rotate_left
  · rw [decide_eq_false h2]
    obtain ⟨b1, b2⟩ := bad (fun c => h2 (by unfold okF at c; exact c.2.2.1))
    rw [b1, b2]
    ((with_reducible refine e_gdT ?_)); (((with_reducible refine e_opN v_notF Imp.nil ?_))); (((with_reducible refine e_opN v_pickF Imp.nil ?_))); ((with_reducible refine e_gdF1 ?_)); ((with_reducible refine e_gdF1 ?_)); ((with_reducible refine e_gdF1 ?_)); ((with_reducible refine e_gdF1 ?_)); ((with_reducible refine e_gdF1 ?_)); (((with_reducible refine e_opN v_pickT Imp.nil ?_))); ((with_reducible refine e_gdF1 ?_)); ((with_reducible refine e_gdF1 ?_)); ((with_reducible refine e_gdF1 ?_)); ((with_reducible refine e_gdF1 ?_)); ((with_reducible refine e_gdF1 ?_)); (((with_reducible refine e_opN v_pickT Imp.nil ?_))); ((with_reducible refine e_gdF1 ?_)); ((with_reducible refine e_gdF1 ?_)); ((with_reducible refine e_gdF1 ?_)); ((with_reducible refine e_gdF1 ?_)); ((with_reducible refine e_gdF1 ?_)); (((with_reducible refine e_opN v_pickT Imp.nil ?_))); ((with_reducible refine e_condT ?_))
    (first | refine e_ret (()) rfl ?_ | refine e_retT (()) ?_)
    (repeat (first | exact Imp.refl | exact Imp.nil | (apply Imp.pick; (focus ((repeat constructor); done))) | refine Imp.drop ?_))
  rw [decide_eq_true h2]
  ((with_reducible refine e_gdT ?_)); (((with_reducible refine e_opN v_notT Imp.nil ?_))); (((with_reducible refine e_opN v_pickF Imp.nil ?_))); ((with_reducible refine e_gdT ?_)); ((with_reducible refine e_gdT ?_)); (((with_reducible refine e_opN v_fa0 Imp.nil ?_))); ((with_reducible refine e_gdT ?_)); (((with_reducible refine' e_opN (v_ldN ?hc) ?hi ?_); (case hi => (repeat (first | exact Imp.refl | exact Imp.nil | (apply Imp.pick; (focus ((repeat constructor); done))) | refine Imp.drop ?_))); (case hc => (repeat (first | exact Nth.here | apply Nth.there))))); ((with_reducible refine e_gdT ?_))
  (refine' e_call (in_ (n := x.h) (a := 0) (b := 23)) ?hp fun _ => ?_; (case hp => (repeat (first | exact Picks.nil | (apply Picks.cons; (focus (repeat constructor)))))); (try simp only [List.cons_append, List.nil_append, Bool.not_true, Bool.not_false]))
  by_cases h3 : 0 ≤ x.h ∧ x.h ≤ 23
  rotate_left
  · rw [decide_eq_false h3]
    obtain ⟨b1, b2⟩ := bad (fun c => h3 (by unfold okF at c; exact c.2.2.2.1))
    rw [b1, b2]
    ((with_reducible refine e_gdT ?_)); (((with_reducible refine e_opN v_notF Imp.nil ?_))); (((with_reducible refine e_opN v_pickF Imp.nil ?_))); ((with_reducible refine e_gdF1 ?_)); ((with_reducible refine e_gdF1 ?_)); ((with_reducible refine e_gdF1 ?_)); ((with_reducible refine e_gdF1 ?_)); ((with_reducible refine e_gdF1 ?_)); (((with_reducible refine e_opN v_pickT Imp.nil ?_))); ((with_reducible refine e_gdF1 ?_)); ((with_reducible refine e_gdF1 ?_)); ((with_reducible refine e_gdF1 ?_)); ((with_reducible refine e_gdF1 ?_)); ((with_reducible refine e_gdF1 ?_)); (((with_reducible refine e_opN v_pickT Imp.nil ?_))); ((with_reducible refine e_condT ?_))
    (first | refine e_ret (()) rfl ?_ | refine e_retT (()) ?_)
    (repeat (first | exact Imp.refl | exact Imp.nil | (apply Imp.pick; (focus ((repeat constructor); done))) | refine Imp.drop ?_))
  rw [decide_eq_true h3]
  ((with_reducible refine e_gdT ?_)); (((with_reducible refine e_opN v_notT Imp.nil ?_))); (((with_reducible refine e_opN v_pickF Imp.nil ?_))); ((with_reducible refine e_gdT ?_)); ((with_reducible refine e_gdT ?_)); (((with_reducible refine e_opN v_fa0 Imp.nil ?_))); ((with_reducible refine e_gdT ?_)); (((with_reducible refine' e_opN (v_ldN ?hc) ?hi ?_); (case hi => (repeat (first | exact Imp.refl | exact Imp.nil | (apply Imp.pick; (focus ((repeat constructor); done))) | refine Imp.drop ?_))); (case hc => (repeat (first | exact Nth.here | apply Nth.there))))); ((with_reducible refine e_gdT ?_))
  (refine' e_call (in_ (n := x.mi) (a := 0) (b := 59)) ?hp fun _ => ?_; (case hp => (repeat (first | exact Picks.nil | (apply Picks.cons; (focus (repeat constructor)))))); (try simp only [List.cons_append, List.nil_append, Bool.not_true, Bool.not_false]))
  by_cases h4 : 0 ≤ x.mi ∧ x.mi ≤ 59
  rotate_left
  · rw [decide_eq_false h4]
    obtain ⟨b1, b2⟩ := bad (fun c => h4 (by unfold okF at c; exact c.2.2.2.2.1))
    rw [b1, b2]
    ((with_reducible refine e_gdT ?_)); (((with_reducible refine e_opN v_notF Imp.nil ?_))); (((with_reducible refine e_opN v_pickF Imp.nil ?_))); ((with_reducible refine e_gdF1 ?_)); ((with_reducible refine e_gdF1 ?_)); ((with_reducible refine e_gdF1 ?_)); ((with_reducible refine e_gdF1 ?_)); ((with_reducible refine e_gdF1 ?_)); (((with_reducible refine e_opN v_pickT Imp.nil ?_))); ((with_reducible refine e_condT ?_))
    (first | refine e_ret (()) rfl ?_ | refine e_retT (()) ?_)
    (repeat (first | exact Imp.refl | exact Imp.nil | (apply Imp.pick; (focus ((repeat constructor); done))) | refine Imp.drop ?_))
  rw [decide_eq_true h4]
  ((with_reducible refine e_gdT ?_)); (((with_reducible refine e_opN v_notT Imp.nil ?_))); (((with_reducible refine e_opN v_pickF Imp.nil ?_))); ((with_reducible refine e_gdT ?_)); ((with_reducible refine e_gdT ?_)); (((with_reducible refine e_opN v_fa0 Imp.nil ?_))); ((with_reducible refine e_gdT ?_)); (((with_reducible refine' e_opN (v_ldN ?hc) ?hi ?_); (case hi => (repeat (first | exact Imp.refl | exact Imp.nil | (apply Imp.pick; (focus ((repeat constructor); done))) | refine Imp.drop ?_))); (case hc => (repeat (first | exact Nth.here | apply Nth.there))))); ((with_reducible refine e_gdT ?_))
  (refine' e_call (in_ (n := x.s) (a := 0) (b := 59)) ?hp fun _ => ?_; (case hp => (repeat (first | exact Picks.nil | (apply Picks.cons; (focus (repeat constructor)))))); (try simp only [List.cons_append, List.nil_append, Bool.not_true, Bool.not_false]))
  by_cases h5 : 0 ≤ x.s ∧ x.s ≤ 59
  rotate_left
  · rw [decide_eq_false h5]
    obtain ⟨b1, b2⟩ := bad (fun c => h5 (by unfold okF at c; exact c.2.2.2.2.2.1))
    rw [b1, b2]
    ((with_reducible refine e_gdT ?_)); (((with_reducible refine e_opN v_notF Imp.nil ?_))); (((with_reducible refine e_opN v_pickF Imp.nil ?_))); ((with_reducible refine e_condT ?_))
    (first | refine e_ret (()) rfl ?_ | refine e_retT (()) ?_)
    (repeat (first | exact Imp.refl | exact Imp.nil | (apply Imp.pick; (focus ((repeat constructor); done))) | refine Imp.drop ?_))
  rw [decide_eq_true h5]
  ((with_reducible refine e_gdT ?_)); (((with_reducible refine e_opN v_notT Imp.nil ?_))); (((with_reducible refine e_opN v_pickF Imp.nil ?_))); ((with_reducible refine e_condF ?_)); (((with_reducible refine e_opN v_fa0 Imp.nil ?_))); (((with_reducible refine' e_opN (v_ldN ?hc) ?hi ?_); (case hi => (repeat (first | exact Imp.refl | exact Imp.nil | (apply Imp.pick; (focus ((repeat constructor); done))) | refine Imp.drop ?_))); (case hc => (repeat (first | exact Nth.here | apply Nth.there))))); (((with_reducible refine e_opN v_fa0 Imp.nil ?_))); (((with_reducible refine' e_opN (v_ldN ?hc) ?hi ?_); (case hi => (repeat (first | exact Imp.refl | exact Imp.nil | (apply Imp.pick; (focus ((repeat constructor); done))) | refine Imp.drop ?_))); (case hc => (repeat (first | exact Nth.here | apply Nth.there))))); (((with_reducible refine e_opN v_fa0 Imp.nil ?_))); (((with_reducible refine' e_opN (v_ldN ?hc) ?hi ?_); (case hi => (repeat (first | exact Imp.refl | exact Imp.nil | (apply Imp.pick; (focus ((repeat constructor); done))) | refine Imp.drop ?_))); (case hc => (repeat (first | exact Nth.here | apply Nth.there)))))
  have hb := dayN_b h0 h1 h2
  (refine' e_call (days h0 h1 h2) ?hp fun _ => ?_; (case hp => (repeat (first | exact Picks.nil | (apply Picks.cons; (focus (repeat constructor)))))); (try simp only [List.cons_append, List.nil_append, Bool.not_true, Bool.not_false]))
  (refine' e_call (civil (n := dayN x.y x.m x.d) (by omega) (by omega)) ?hp fun _ => ?_; (case hp => (repeat (first | exact Picks.nil | (apply Picks.cons; (focus (repeat constructor)))))); (try simp only [List.cons_append, List.nil_append, Bool.not_true, Bool.not_false]))
  (((with_reducible refine' e_opN (v_extN ?hc) Imp.nil ?_); (case hc => (repeat (first | exact Nth.here | apply Nth.there))))); (((with_reducible refine' e_opN (v_extN ?hc) Imp.nil ?_); (case hc => (repeat (first | exact Nth.here | apply Nth.there))))); (((with_reducible refine' e_opN (v_extN ?hc) Imp.nil ?_); (case hc => (repeat (first | exact Nth.here | apply Nth.there))))); (((with_reducible refine e_opN v_fa0 Imp.nil ?_))); (((with_reducible refine' e_opN (v_ldN ?hc) ?hi ?_); (case hi => (repeat (first | exact Imp.refl | exact Imp.nil | (apply Imp.pick; (focus ((repeat constructor); done))) | refine Imp.drop ?_))); (case hc => (repeat (first | exact Nth.here | apply Nth.there)))))
  by_cases h6 : cM (dayN x.y x.m x.d) = x.m
  rotate_left
  · refine e_opN v_neq Imp.nil ?_
    rw [decide_eq_true h6]
    obtain ⟨b1, b2⟩ := bad (fun c => h6 (by unfold okF at c; exact c.2.2.2.2.2.2))
    rw [b1, b2]
    ((with_reducible refine e_condT ?_))
    (first | refine e_ret (()) rfl ?_ | refine e_retT (()) ?_)
    (repeat (first | exact Imp.refl | exact Imp.nil | (apply Imp.pick; (focus ((repeat constructor); done))) | refine Imp.drop ?_))
  refine e_opN v_neq Imp.nil ?_
  rw [decide_eq_false (fun c => c h6)]
  have ok : okF x := ⟨h0, h1, h2, h3, h4, h5, h6⟩
  rw [show jN x = dayN x.y x.m x.d * 86400 + x.h * 3600 + x.mi * 60 + x.s from if_pos ok, show jE x = 0 from if_pos ok]
  ((with_reducible refine e_condF ?_)); (((with_reducible refine e_opN (v_mul ?h1 ?h2) Imp.nil ?_); (case h1 => omega); (case h2 => omega))); (((with_reducible refine e_opN v_fa0 Imp.nil ?_))); (((with_reducible refine' e_opN (v_ldN ?hc) ?hi ?_); (case hi => (repeat (first | exact Imp.refl | exact Imp.nil | (apply Imp.pick; (focus ((repeat constructor); done))) | refine Imp.drop ?_))); (case hc => (repeat (first | exact Nth.here | apply Nth.there))))); (((with_reducible refine e_opN (v_mul ?h1 ?h2) Imp.nil ?_); (case h1 => omega); (case h2 => omega))); (((with_reducible refine e_opN (v_add ?h1 ?h2) Imp.nil ?_); (case h1 => omega); (case h2 => omega))); (((with_reducible refine e_opN v_fa0 Imp.nil ?_))); (((with_reducible refine' e_opN (v_ldN ?hc) ?hi ?_); (case hi => (repeat (first | exact Imp.refl | exact Imp.nil | (apply Imp.pick; (focus ((repeat constructor); done))) | refine Imp.drop ?_))); (case hc => (repeat (first | exact Nth.here | apply Nth.there))))); (((with_reducible refine e_opN (v_mul ?h1 ?h2) Imp.nil ?_); (case h1 => omega); (case h2 => omega))); (((with_reducible refine e_opN (v_add ?h1 ?h2) Imp.nil ?_); (case h1 => omega); (case h2 => omega))); (((with_reducible refine e_opN v_fa0 Imp.nil ?_))); (((with_reducible refine' e_opN (v_ldN ?hc) ?hi ?_); (case hi => (repeat (first | exact Imp.refl | exact Imp.nil | (apply Imp.pick; (focus ((repeat constructor); done))) | refine Imp.drop ?_))); (case hc => (repeat (first | exact Nth.here | apply Nth.there))))); (((with_reducible refine e_opN (v_add ?h1 ?h2) Imp.nil ?_); (case h1 => omega); (case h2 => omega)))
  (first | refine e_ret (()) rfl ?_ | refine e_retT (()) ?_)
  (repeat (first | exact Imp.refl | exact Imp.nil | (apply Imp.pick; (focus ((repeat constructor); done))) | refine Imp.drop ?_))
end Go.Proofs.YtcmpkkkigmheoaaDoor.D
/-! Numbers as digits; the names. No conditions but those that each names. -/
namespace Go.Proofs.YtcmpkkkigmheoaaDoor.D
open Go Go.Proofs Go.RowKit Go.Proofs.YtcmpkkkigmheoaaDoor.Sh Go.Proofs.YtcmpkkkigmheoaaDoor.Sl Go.Proofs.YtcmpkkkigmheoaaDoor.T
def gV (f : Nat → UInt8) (n : Nat) : List Value := (List.range n).map fun j => Sl.B (f j)
theorem gV_len (f : Nat → UInt8) (n : Nat) : (gV f n).length = n := by simp [gV]
theorem gV_get {f : Nat → UInt8} {n k : Nat} (h : k < n) : (gV f n)[k]? = some (Sl.B (f k)) := by simp [gV, h]
theorem gV_set {f : Nat → UInt8} {n k : Nat} {c : UInt8} : (gV f n).set k (Sl.B c) = gV (fun q => if q = k then c else f q) n := by
  apply List.ext_getElem?
  intro j
  rw [List.getElem?_set, gV_len]
  by_cases hj : j < n
  · rw [gV_get hj, gV_get hj]
    by_cases c : k = j
    · subst c; rw [if_pos rfl, if_pos hj, if_pos rfl]
    · rw [if_neg c, if_neg (fun e => c e.symm)]
  · rw [List.getElem?_eq_none (by rw [gV_len]; omega), List.getElem?_eq_none (by rw [gV_len]; omega)]
    split
    · split
      · omega
      · rfl
    · rfl
def dgAt (n size : Nat) (fill : UInt8) (j : Nat) : UInt8 := if n / 10 ^ (size - 1 - j) = 0 ∧ j < size - 1 then fill else UInt8.ofNat (48 + n / 10 ^ (size - 1 - j) % 10)
def dg (n size : Nat) (fill : UInt8) : List UInt8 := (List.range size).map (dgAt n size fill)
theorem dg_len (n size : Nat) (fill : UInt8) : (dg n size fill).length = size := by simp [dg]
theorem u8_of (n : Nat) (h : n < 256) : (UInt8.ofNat n).toNat = n := by rw [UInt8.toNat_ofNat']; exact Nat.mod_eq_of_lt h
theorem digits {W : World} {n size : Nat} {fill : UInt8} (hn : n ≤ 9223372036854775807) (hs : 1 ≤ size ∧ size ≤ 16) : Cn Tryd.prog 72 [.int .i64 (n : Int), .int .i64 (size : Int), Sl.B fill] W [] (fun _ : Unit => txt (dg n size fill)) (fun _ => []) := by
  (refine S.dates_digits_cn fun F => ?_; unfold S.dates_digits; simp only [List.cons_append, List.nil_append])
  refine e_mksl size size rfl rfl (by omega) (by omega) (by unfold maxLen; omega) fun g => ?_
  have e0 : List.replicate size (Value.int .u8 0) = gV (fun _ => 0) size := by
    apply List.ext_getElem?
    intro j
    by_cases hj : j < size
    · rw [gV_get hj]; simp [hj, Sl.B]
    · rw [List.getElem?_eq_none (by simp; omega), List.getElem?_eq_none (by rw [gV_len]; omega)]
  rw [e0]
  (((with_reducible refine e_opN (v_sub ?h1 ?h2) Imp.nil ?_); (case h1 => omega); (case h2 => omega)))
  refine e_loop2 (fun m y0 y8 => [ex fun st : Nat × (Nat → UInt8) => all [pu (m + st.1 = size ∧ y0 = .int .i64 ((n / 10 ^ st.1 : Nat) : Int) ∧ y8 = .int .i64 ((size : Int) - 1 - st.1) ∧ ∀ j, j < size → size ≤ j + st.1 → st.2 j = dgAt n size fill j), Sl 1 5 (some ⟨g, 0, none⟩) size size (gV st.2 size)]] ++ F) size ?_ ?_
  · refine .ex (0, fun _ => 0) (.all ?_)
    (try simp only [List.cons_append, List.nil_append, -eq_self])
    refine .pu ⟨by omega, by simp, by simp, fun j h1 h2 => by omega⟩ ?_
    (repeat (first | exact Imp.refl | exact Imp.nil | (apply Imp.pick; (focus ((repeat constructor); done))) | refine Imp.drop ?_))
  intro m ds y0 y8
  (try simp only [List.cons_append, List.nil_append, -eq_self])
  refine e_ex Pick.here fun st => e_all Pick.here ?_
  obtain ⟨k, f⟩ := st
  (try simp only [List.cons_append, List.nil_append, -eq_self])
  refine e_pu Pick.here fun hi => ?_
  (try dsimp only at hi)
  obtain ⟨hmk, rfl, rfl, hf⟩ := hi
  (try dsimp only)
  (refine e_ask v_geq Imp.nil (fun h => ?_) (fun h => ?_))
  · obtain ⟨i, hik⟩ : ∃ i : Nat, i = size - 1 - k := ⟨_, rfl⟩
    have hi : (size : Int) - 1 - (k : Int) = (i : Int) := by omega
    have hdg : dgAt n size fill i = if n / 10 ^ k = 0 ∧ i < size - 1 then fill else UInt8.ofNat (48 + n / 10 ^ k % 10) := by unfold dgAt; rw [show size - 1 - i = k by omega]
    have hq : n / 10 ^ k ≤ n := Nat.div_le_self _ _
    have hsu : n / 10 ^ (k + 1) = n / 10 ^ k / 10 := by rw [Nat.pow_succ, Nat.div_div_eq_div_mul]
    rw [hi]
    generalize n / 10 ^ k = q at hdg hq hsu ⊢
    ((with_reducible refine e_condT ?_)); (((with_reducible refine e_opN (v_rem ?h1 ?h2) Imp.nil ?_); (case h1 => omega); (case h2 => omega))); (((with_reducible refine e_opN (v_add ?h1 ?h2) Imp.nil ?_); (case h1 => omega); (case h2 => omega)))
    rw [show (48 : Int) + (q : Int) % 10 = ((48 + q % 10 : Nat) : Int) by omega]
    refine e_opN v_conv Imp.nil ?_
    rw [show IntKind.u8.wrap ((48 + q % 10 : Nat) : Int) = ((48 + q % 10 : Nat) : Int) by simp only [IntKind.wrap, IntKind.bits, IntKind.signed]; simp; omega, show Value.int .u8 ((48 + q % 10 : Nat) : Int) = Sl.B (UInt8.ofNat (48 + q % 10)) by unfold Sl.B; rw [u8_of _ (by omega)]]
    refine e_opN (v_ia1 i (by rfl) (by omega)) Imp.nil ?_
    refine e_stSl (by (repeat constructor)) (by rw [gV_len]; omega) ?_
    rw [Nat.zero_add, gV_set]
    refine e_cut0 ([Sl 1 5 (some ⟨g, 0, none⟩) size size (gV (fun x => if x = i then dgAt n size fill i else f x) size)] ++ F) ?_ ?_
    rotate_left
    · refine e_ask v_eql Imp.nil (fun hq0 => ?_) (fun hq0 => ?_)
      · ((with_reducible refine e_gdT ?_)); ((with_reducible refine e_gdT ?_)); ((with_reducible refine e_gdT ?_)); (((with_reducible refine e_opN (v_sub ?h1 ?h2) Imp.nil ?_); (case h1 => omega); (case h2 => omega))); ((with_reducible refine e_gdT ?_))
        refine e_ask v_lss Imp.nil (fun hi0 => ?_) (fun hi0 => ?_)
        · (((with_reducible refine e_opN v_pickT Imp.nil ?_))); ((with_reducible refine e_condT ?_))
          refine e_opN (v_ia1 i (by rfl) (by omega)) Imp.nil ?_
          refine e_stSl (by (repeat constructor)) (by rw [gV_len]; omega) ?_
          rw [Nat.zero_add, gV_set]
          have e2 : (fun x => if x = i then fill else (fun y => if y = i then UInt8.ofNat (48 + q % 10) else f y) x) = fun x => if x = i then dgAt n size fill i else f x := funext fun x => by
            have hd1 : dgAt n size fill i = fill := by rw [hdg]; exact if_pos ⟨by omega, by omega⟩
            rw [hd1]
            by_cases c : x = i
            · rw [if_pos c, if_pos c]
            · simp only [if_neg c]
          rw [e2]
          refine e_sat ?_
          (repeat (first | exact Imp.refl | exact Imp.nil | (apply Imp.pick; (focus ((repeat constructor); done))) | refine Imp.drop ?_))
        · (((with_reducible refine e_opN v_pickT Imp.nil ?_))); ((with_reducible refine e_condF ?_))
          have e2 : (fun x => if x = i then UInt8.ofNat (48 + q % 10) else f x) = fun x => if x = i then dgAt n size fill i else f x := funext fun x => by
            have hd1 : dgAt n size fill i = UInt8.ofNat (48 + q % 10) := by rw [hdg]; exact if_neg (fun c => hi0 (by omega))
            rw [hd1]
          rw [e2]
          refine e_sat ?_
          (repeat (first | exact Imp.refl | exact Imp.nil | (apply Imp.pick; (focus ((repeat constructor); done))) | refine Imp.drop ?_))
      · ((with_reducible refine e_gdF2 ?_)); ((with_reducible refine e_gdF2 ?_)); ((with_reducible refine e_gdF2 ?_)); ((with_reducible refine e_gdF2 ?_)); (((with_reducible refine e_opN v_pickF Imp.nil ?_))); ((with_reducible refine e_condF ?_))
        have e2 : (fun x => if x = i then UInt8.ofNat (48 + q % 10) else f x) = fun x => if x = i then dgAt n size fill i else f x := funext fun x => by
          have hd1 : dgAt n size fill i = UInt8.ofNat (48 + q % 10) := by rw [hdg]; exact if_neg (fun c => hq0 (by omega))
          rw [hd1]
        rw [e2]
        refine e_sat ?_
        (repeat (first | exact Imp.refl | exact Imp.nil | (apply Imp.pick; (focus ((repeat constructor); done))) | refine Imp.drop ?_))
    intro ds2
    (try simp only [List.cons_append, List.nil_append, -eq_self])
    (((with_reducible refine e_opN (v_quo ?h1 ?h2 ?h3) Imp.nil ?_); (case h1 => omega); (case h2 => omega); (case h3 => omega))); (((with_reducible refine e_opN (v_sub ?h1 ?h2) Imp.nil ?_); (case h1 => omega); (case h2 => omega)))
    refine e_next2 (m - 1) (by omega) (.ex (k + 1, fun x => if x = i then dgAt n size fill i else f x) (.all ?_))
    (try simp only [List.cons_append, List.nil_append, -eq_self])
    refine .pu ⟨by omega, ?_, ?_, fun j h1 h2 => ?_⟩ ?_
    · rw [hsu]; simp
    · congr 1; push_cast; omega
    · by_cases c : j = i
      · rw [if_pos c, c]
      · simp only [if_neg c]; exact hf j h1 (by omega)
    · (repeat (first | exact Imp.refl | exact Imp.nil | (apply Imp.pick; (focus ((repeat constructor); done))) | refine Imp.drop ?_))
  · refine e_condF ?_
    have hk : k = size := by omega
    have e3 : gV f size = (dg n size fill).map Sl.B := by
      unfold gV dg
      rw [List.map_map]
      refine List.map_congr_left fun j hj => ?_
      have := List.mem_range.1 hj
      show Sl.B (f j) = Sl.B (dgAt n size fill j)
      rw [hf j (by omega) (by omega)]
    rw [e3]
    refine e_opN (v_str (l := dg n size fill) (n := size) (rd_sl (by rw [List.length_map, dg_len]) (fun _ => ⟨g, rfl⟩)) (fun c => by cases c)) (.pick (by (repeat constructor)) .nil) ?_
    (first | refine e_ret (()) rfl ?_ | refine e_retT (()) ?_)
    (repeat (first | exact Imp.refl | exact Imp.nil | (apply Imp.pick; (focus ((repeat constructor); done))) | refine Imp.drop ?_))
end Go.Proofs.YtcmpkkkigmheoaaDoor.D
/-! The names, the clock, the three forms of a date. No conditions but those that each names. -/
namespace Go.Proofs.YtcmpkkkigmheoaaDoor.D
open Go Go.Proofs Go.RowKit Go.Proofs.YtcmpkkkigmheoaaDoor.Sh Go.Proofs.YtcmpkkkigmheoaaDoor.Sl Go.Proofs.YtcmpkkkigmheoaaDoor.T
def wdL : List (List UInt8) := [[83, 117, 110, 100, 97, 121], [77, 111, 110, 100, 97, 121], [84, 117, 101, 115, 100, 97, 121], [87, 101, 100, 110, 101, 115, 100, 97, 121], [84, 104, 117, 114, 115, 100, 97, 121], [70, 114, 105, 100, 97, 121], [83, 97, 116, 117, 114, 100, 97, 121]]
def moL : List (List UInt8) := [[74, 97, 110], [70, 101, 98], [77, 97, 114], [65, 112, 114], [77, 97, 121], [74, 117, 110], [74, 117, 108], [65, 117, 103], [83, 101, 112], [79, 99, 116], [78, 111, 118], [68, 101, 99]]
theorem weekdays {W : World} : Cn Tryd.prog 71 [] W [] (fun _ : Unit => .agg (wdL.map txt).toArray) (fun _ => []) := by
  (refine S.dates_weekdays_cn fun F => ?_; unfold S.dates_weekdays; simp only [List.cons_append, List.nil_append])
  (((with_reducible refine e_newA fun g => ?_))); (((with_reducible refine e_opN v_rv Imp.nil ?_))); (((with_reducible refine' e_stAgg ?hp ?hn ?hv ?h1 ?_); (case hp => (repeat constructor)); (case hn => rfl); (case hv => rfl); (case h1 => simp [Value.oneCell']))); (((with_reducible refine' e_stS (v_resA ?hn) ?hi ?_); (case hi => (repeat (first | exact Imp.refl | exact Imp.nil | (apply Imp.pick; (focus ((repeat constructor); done))) | refine Imp.drop ?_))); (case hn => rfl)))
  (first | refine e_ret (()) rfl ?_ | refine e_retT (()) ?_)
  (repeat (first | exact Imp.refl | exact Imp.nil | (apply Imp.pick; (focus ((repeat constructor); done))) | refine Imp.drop ?_))
theorem months {W : World} : Cn Tryd.prog 66 [] W [] (fun _ : Unit => .agg (moL.map txt).toArray) (fun _ => []) := by
  (refine S.dates_months_cn fun F => ?_; unfold S.dates_months; simp only [List.cons_append, List.nil_append])
  (((with_reducible refine e_newA fun g => ?_))); (((with_reducible refine e_opN v_rv Imp.nil ?_))); (((with_reducible refine' e_stAgg ?hp ?hn ?hv ?h1 ?_); (case hp => (repeat constructor)); (case hn => rfl); (case hv => rfl); (case h1 => simp [Value.oneCell']))); (((with_reducible refine' e_stS (v_resA ?hn) ?hi ?_); (case hi => (repeat (first | exact Imp.refl | exact Imp.nil | (apply Imp.pick; (focus ((repeat constructor); done))) | refine Imp.drop ?_))); (case hn => rfl)))
  (first | refine e_ret (()) rfl ?_ | refine e_retT (()) ?_)
  (repeat (first | exact Imp.refl | exact Imp.nil | (apply Imp.pick; (focus ((repeat constructor); done))) | refine Imp.drop ?_))
theorem dig {W : World} {n z c : Int} {fill : UInt8} (size : Nat) (hn : 0 ≤ n ∧ n ≤ 9223372036854775807) (hz : z = (size : Int)) (hs : 1 ≤ size ∧ size ≤ 16) (hc : c = (fill.toNat : Int)) : Cn Tryd.prog 72 [.int .i64 n, .int .i64 z, .int .u8 c] W [] (fun _ : Unit => txt (dg n.toNat size fill)) (fun _ => []) := by
  obtain ⟨k, rfl⟩ := Int.eq_ofNat_of_zero_le hn.1
  subst hz; subst hc
  exact digits (by omega) hs
def clk (x : Dt) : List UInt8 := dg x.h.toNat 2 48 ++ [58] ++ dg x.mi.toNat 2 48 ++ [58] ++ dg x.s.toNat 2 48
theorem clk_len (x : Dt) : (clk x).length = 8 := by simp [clk, dg_len]
structure okX (x : Dt) : Prop where
  y : 0 ≤ x.y ∧ x.y ≤ 9999
  m : 1 ≤ x.m ∧ x.m ≤ 12
  d : 1 ≤ x.d ∧ x.d ≤ 31
  h : 0 ≤ x.h ∧ x.h ≤ 23
  mi : 0 ≤ x.mi ∧ x.mi ≤ 59
  s : 0 ≤ x.s ∧ x.s ≤ 59
  w : 0 ≤ x.w ∧ x.w ≤ 6
theorem clock {W : World} {x : Dt} (ok : okX x) : Cn Tryd.prog 73 [.agg (dtA x)] W [] (fun _ : Unit => txt (clk x)) (fun _ => []) := by
  obtain ⟨o1, o2, o3, o4, o5, o6, o7⟩ := ok
  (refine S.dates_Date_clock_cn fun F => ?_; unfold S.dates_Date_clock; simp only [List.cons_append, List.nil_append])
  unfold dtA
  (((with_reducible refine e_boxA fun g => ?_))); ((with_reducible refine e_drS ?_)); (((with_reducible refine e_stS v_fa0 Imp.nil ?_))); (((with_reducible refine' e_stS (v_ldN ?hc) ?hi ?_); (case hi => (repeat (first | exact Imp.refl | exact Imp.nil | (apply Imp.pick; (focus ((repeat constructor); done))) | refine Imp.drop ?_))); (case hc => (repeat (first | exact Nth.here | apply Nth.there))))); (((with_reducible refine e_stD v_fa0 Imp.nil ?_))); (((with_reducible refine' e_stD (v_ldN ?hc) ?hi ?_); (case hi => (repeat (first | exact Imp.refl | exact Imp.nil | (apply Imp.pick; (focus ((repeat constructor); done))) | refine Imp.drop ?_))); (case hc => (repeat (first | exact Nth.here | apply Nth.there))))); (((with_reducible refine e_stD v_fa0 Imp.nil ?_))); (((with_reducible refine' e_stD (v_ldN ?hc) ?hi ?_); (case hi => (repeat (first | exact Imp.refl | exact Imp.nil | (apply Imp.pick; (focus ((repeat constructor); done))) | refine Imp.drop ?_))); (case hc => (repeat (first | exact Nth.here | apply Nth.there)))))
  (refine' e_call (dig (n := x.h) (fill := 48) 2 (by omega) (by rfl) (by omega) (by rfl)) ?hp fun _ => ?_; (case hp => (repeat (first | exact Picks.nil | (apply Picks.cons; (focus (repeat constructor)))))); (try simp only [List.cons_append, List.nil_append, Bool.not_true, Bool.not_false]))
  (((with_reducible refine e_obl ?hi ?_); (case hi => (repeat (first | exact Imp.refl | exact Imp.nil | (apply Imp.pick; (focus ((repeat constructor); done))) | refine Imp.drop ?_))))); (((with_reducible refine e_obl ?hi ?_); (case hi => (repeat (first | exact Imp.refl | exact Imp.nil | (apply Imp.pick; (focus ((repeat constructor); done))) | refine Imp.drop ?_))))); (((with_reducible refine e_obl ?hi ?_); (case hi => (repeat (first | exact Imp.refl | exact Imp.nil | (apply Imp.pick; (focus ((repeat constructor); done))) | refine Imp.drop ?_))))); (((with_reducible refine e_obl ?hi ?_); (case hi => (repeat (first | exact Imp.refl | exact Imp.nil | (apply Imp.pick; (focus ((repeat constructor); done))) | refine Imp.drop ?_)))))
  refine e_stD (v_cat (by simp only [List.length_append, List.length_take, dg_len, clk_len, List.length_cons, List.length_nil]; omega)) Imp.nil ?_
  (refine' e_call (dig (n := x.mi) (fill := 48) 2 (by omega) (by rfl) (by omega) (by rfl)) ?hp fun _ => ?_; (case hp => (repeat (first | exact Picks.nil | (apply Picks.cons; (focus (repeat constructor)))))); (try simp only [List.cons_append, List.nil_append, Bool.not_true, Bool.not_false]))
  (((with_reducible refine e_obl ?hi ?_); (case hi => (repeat (first | exact Imp.refl | exact Imp.nil | (apply Imp.pick; (focus ((repeat constructor); done))) | refine Imp.drop ?_))))); (((with_reducible refine e_obl ?hi ?_); (case hi => (repeat (first | exact Imp.refl | exact Imp.nil | (apply Imp.pick; (focus ((repeat constructor); done))) | refine Imp.drop ?_))))); (((with_reducible refine e_obl ?hi ?_); (case hi => (repeat (first | exact Imp.refl | exact Imp.nil | (apply Imp.pick; (focus ((repeat constructor); done))) | refine Imp.drop ?_)))))
  refine e_stD (v_cat (by simp only [List.length_append, List.length_take, dg_len, clk_len, List.length_cons, List.length_nil]; omega)) Imp.nil ?_
  refine e_stD (v_cat (by simp only [List.length_append, List.length_take, dg_len, clk_len, List.length_cons, List.length_nil]; omega)) Imp.nil ?_
  (refine' e_call (dig (n := x.s) (fill := 48) 2 (by omega) (by rfl) (by omega) (by rfl)) ?hp fun _ => ?_; (case hp => (repeat (first | exact Picks.nil | (apply Picks.cons; (focus (repeat constructor)))))); (try simp only [List.cons_append, List.nil_append, Bool.not_true, Bool.not_false]))
  (((with_reducible refine e_obl ?hi ?_); (case hi => (repeat (first | exact Imp.refl | exact Imp.nil | (apply Imp.pick; (focus ((repeat constructor); done))) | refine Imp.drop ?_))))); (((with_reducible refine e_obl ?hi ?_); (case hi => (repeat (first | exact Imp.refl | exact Imp.nil | (apply Imp.pick; (focus ((repeat constructor); done))) | refine Imp.drop ?_))))); (((with_reducible refine e_obl ?hi ?_); (case hi => (repeat (first | exact Imp.refl | exact Imp.nil | (apply Imp.pick; (focus ((repeat constructor); done))) | refine Imp.drop ?_)))))
  refine e_stS (v_cat (by simp only [List.length_append, List.length_take, dg_len, clk_len, List.length_cons, List.length_nil]; omega)) Imp.nil ?_
  (first | refine e_ret (()) rfl ?_ | refine e_retT (()) ?_)
  (repeat (first | exact Imp.refl | exact Imp.nil | (apply Imp.pick; (focus ((repeat constructor); done))) | refine Imp.drop ?_))
def wdN (x : Dt) : List UInt8 := wdL.getD x.w.toNat []
def moN (x : Dt) : List UInt8 := moL.getD (x.m - 1).toNat []
theorem name_get {l : List (List UInt8)} {i : Nat} (h : i < l.length) : (l.map txt).toArray[i]? = some (txt (l.getD i [])) := by
  simp [List.getD_eq_getElem?_getD, h]
def fm (k : Int) (x : Dt) : List UInt8 :=
  if k = 0 then (wdN x).take 3 ++ [44, 32] ++ dg x.d.toNat 2 48 ++ [32] ++ moN x ++ [32] ++ dg x.y.toNat 4 48 ++ [32] ++ clk x ++ [32, 71, 77, 84]
  else if k = 1 then wdN x ++ [44, 32] ++ dg x.d.toNat 2 48 ++ [45] ++ moN x ++ [45] ++ dg (x.y % 100).toNat 2 48 ++ [32] ++ clk x ++ [32, 71, 77, 84]
  else (wdN x).take 3 ++ [32] ++ moN x ++ [32] ++ dg x.d.toNat 2 32 ++ [32] ++ clk x ++ [32] ++ dg x.y.toNat 4 48
theorem nm_len {l : List (List UInt8)} (h : ∀ a ∈ l, 3 ≤ a.length ∧ a.length ≤ 9) {i : Nat} (hi : i < l.length) : 3 ≤ (l.getD i []).length ∧ (l.getD i []).length ≤ 9 := by
  rw [List.getD_eq_getElem?_getD, List.getElem?_eq_getElem hi]
  exact h _ (List.getElem_mem hi)
theorem form {W : World} {x : Dt} {k : Int} (ok : okX x) : Cn Tryd.prog 59 [.agg (dtA x), .int .i64 k] W [] (fun _ : Unit => txt (fm k x)) (fun _ => []) := by
  have okx := ok
  obtain ⟨o1, o2, o3, o4, o5, o6, o7⟩ := ok
  have hwl : 3 ≤ (wdN x).length ∧ (wdN x).length ≤ 9 := nm_len (l := wdL) (by decide) (by show _ < 7; omega)
  have hml : 3 ≤ (moN x).length ∧ (moN x).length ≤ 9 := nm_len (l := moL) (by decide) (by show _ < 12; omega)
  (refine S.dates_Date_form_cn fun F => ?_; unfold S.dates_Date_form; simp only [List.cons_append, List.nil_append])
  rw [show (Value.agg (dtA x)) = .agg #[.int .i64 x.y, .int .i64 x.m, .int .i64 x.d, .int .i64 x.h, .int .i64 x.mi, .int .i64 x.s, .int .i64 x.w] from rfl]
  (((with_reducible refine e_boxA fun g => ?_))); ((with_reducible refine e_drS ?_)); (((with_reducible refine e_stD v_fa0 Imp.nil ?_))); (((with_reducible refine' e_stD (v_ldN ?hc) ?hi ?_); (case hi => (repeat (first | exact Imp.refl | exact Imp.nil | (apply Imp.pick; (focus ((repeat constructor); done))) | refine Imp.drop ?_))); (case hc => (repeat (first | exact Nth.here | apply Nth.there))))); (((with_reducible refine e_stD v_fa0 Imp.nil ?_))); (((with_reducible refine' e_stD (v_ldN ?hc) ?hi ?_); (case hi => (repeat (first | exact Imp.refl | exact Imp.nil | (apply Imp.pick; (focus ((repeat constructor); done))) | refine Imp.drop ?_))); (case hc => (repeat (first | exact Nth.here | apply Nth.there))))); (((with_reducible refine e_stD (v_sub ?h1 ?h2) Imp.nil ?_); (case h1 => omega); (case h2 => omega)))
  (refine' e_call (weekdays) ?hp fun _ => ?_; (case hp => (repeat (first | exact Picks.nil | (apply Picks.cons; (focus (repeat constructor)))))); (try simp only [List.cons_append, List.nil_append, Bool.not_true, Bool.not_false]))
  (((with_reducible refine e_obl ?hi ?_); (case hi => (repeat (first | exact Imp.refl | exact Imp.nil | (apply Imp.pick; (focus ((repeat constructor); done))) | refine Imp.drop ?_))))); (((with_reducible refine e_obl ?hi ?_); (case hi => (repeat (first | exact Imp.refl | exact Imp.nil | (apply Imp.pick; (focus ((repeat constructor); done))) | refine Imp.drop ?_))))); (((with_reducible refine e_obl ?hi ?_); (case hi => (repeat (first | exact Imp.refl | exact Imp.nil | (apply Imp.pick; (focus ((repeat constructor); done))) | refine Imp.drop ?_))))); (((with_reducible refine e_obl ?hi ?_); (case hi => (repeat (first | exact Imp.refl | exact Imp.nil | (apply Imp.pick; (focus ((repeat constructor); done))) | refine Imp.drop ?_))))); (((with_reducible refine e_obl ?hi ?_); (case hi => (repeat (first | exact Imp.refl | exact Imp.nil | (apply Imp.pick; (focus ((repeat constructor); done))) | refine Imp.drop ?_)))))
  refine e_stD (v_ixA (v := txt (wdN x)) x.w.toNat (by omega) (by omega) (name_get (l := wdL) (by show _ < 7; omega))) Imp.nil ?_
  (refine' e_call (months) ?hp fun _ => ?_; (case hp => (repeat (first | exact Picks.nil | (apply Picks.cons; (focus (repeat constructor)))))); (try simp only [List.cons_append, List.nil_append, Bool.not_true, Bool.not_false]))
  (((with_reducible refine e_obl ?hi ?_); (case hi => (repeat (first | exact Imp.refl | exact Imp.nil | (apply Imp.pick; (focus ((repeat constructor); done))) | refine Imp.drop ?_))))); (((with_reducible refine e_obl ?hi ?_); (case hi => (repeat (first | exact Imp.refl | exact Imp.nil | (apply Imp.pick; (focus ((repeat constructor); done))) | refine Imp.drop ?_))))); (((with_reducible refine e_obl ?hi ?_); (case hi => (repeat (first | exact Imp.refl | exact Imp.nil | (apply Imp.pick; (focus ((repeat constructor); done))) | refine Imp.drop ?_))))); (((with_reducible refine e_obl ?hi ?_); (case hi => (repeat (first | exact Imp.refl | exact Imp.nil | (apply Imp.pick; (focus ((repeat constructor); done))) | refine Imp.drop ?_))))); (((with_reducible refine e_obl ?hi ?_); (case hi => (repeat (first | exact Imp.refl | exact Imp.nil | (apply Imp.pick; (focus ((repeat constructor); done))) | refine Imp.drop ?_))))); (((with_reducible refine e_obl ?hi ?_); (case hi => (repeat (first | exact Imp.refl | exact Imp.nil | (apply Imp.pick; (focus ((repeat constructor); done))) | refine Imp.drop ?_)))))
  refine e_stS (v_ixA (v := txt (moN x)) (x.m - 1).toNat (by omega) (by omega) (name_get (l := moL) (by show _ < 12; omega))) Imp.nil ?_
  refine e_ask v_eql Imp.nil (fun hk => ?_) (fun hk => ?_)
  · unfold fm
    rw [if_pos hk]
    generalize wdN x = wn at hwl ⊢
    generalize moN x = mn at hml ⊢
    ((with_reducible refine e_condT ?_)); ((with_reducible refine e_drS ?_))
    refine e_stD (v_ssh 3 (by rfl) (by omega)) Imp.nil ?_
    refine e_stD (v_cat (by simp only [List.length_append, List.length_take, dg_len, clk_len, List.length_cons, List.length_nil]; omega)) Imp.nil ?_
    (((with_reducible refine e_stS v_fa0 Imp.nil ?_))); (((with_reducible refine' e_stS (v_ldN ?hc) ?hi ?_); (case hi => (repeat (first | exact Imp.refl | exact Imp.nil | (apply Imp.pick; (focus ((repeat constructor); done))) | refine Imp.drop ?_))); (case hc => (repeat (first | exact Nth.here | apply Nth.there))))); (((with_reducible refine e_stD v_fa0 Imp.nil ?_))); (((with_reducible refine' e_stD (v_ldN ?hc) ?hi ?_); (case hi => (repeat (first | exact Imp.refl | exact Imp.nil | (apply Imp.pick; (focus ((repeat constructor); done))) | refine Imp.drop ?_))); (case hc => (repeat (first | exact Nth.here | apply Nth.there))))); (((with_reducible refine' e_stD (v_ldAgg ?hn) ?hi ?_); (case hi => (repeat (first | exact Imp.refl | exact Imp.nil | (apply Imp.pick; (focus ((repeat constructor); done))) | refine Imp.drop ?_))); (case hn => rfl)))
    (refine' e_call (dig (n := x.d) (fill := 48) 2 (by omega) (by rfl) (by omega) (by rfl)) ?hp fun _ => ?_; (case hp => (repeat (first | exact Picks.nil | (apply Picks.cons; (focus (repeat constructor)))))); (try simp only [List.cons_append, List.nil_append, Bool.not_true, Bool.not_false]))
    (((with_reducible refine e_obl ?hi ?_); (case hi => (repeat (first | exact Imp.refl | exact Imp.nil | (apply Imp.pick; (focus ((repeat constructor); done))) | refine Imp.drop ?_))))); (((with_reducible refine e_obl ?hi ?_); (case hi => (repeat (first | exact Imp.refl | exact Imp.nil | (apply Imp.pick; (focus ((repeat constructor); done))) | refine Imp.drop ?_))))); (((with_reducible refine e_obl ?hi ?_); (case hi => (repeat (first | exact Imp.refl | exact Imp.nil | (apply Imp.pick; (focus ((repeat constructor); done))) | refine Imp.drop ?_))))); (((with_reducible refine e_obl ?hi ?_); (case hi => (repeat (first | exact Imp.refl | exact Imp.nil | (apply Imp.pick; (focus ((repeat constructor); done))) | refine Imp.drop ?_))))); (((with_reducible refine e_obl ?hi ?_); (case hi => (repeat (first | exact Imp.refl | exact Imp.nil | (apply Imp.pick; (focus ((repeat constructor); done))) | refine Imp.drop ?_)))))
    refine e_stD (v_cat (by simp only [List.length_append, List.length_take, dg_len, clk_len, List.length_cons, List.length_nil]; omega)) Imp.nil ?_
    refine e_stD (v_cat (by simp only [List.length_append, List.length_take, dg_len, clk_len, List.length_cons, List.length_nil]; omega)) Imp.nil ?_
    refine e_stD (v_cat (by simp only [List.length_append, List.length_take, dg_len, clk_len, List.length_cons, List.length_nil]; omega)) Imp.nil ?_
    refine e_stD (v_cat (by simp only [List.length_append, List.length_take, dg_len, clk_len, List.length_cons, List.length_nil]; omega)) Imp.nil ?_
    (refine' e_call (dig (n := x.y) (fill := 48) 4 (by omega) (by rfl) (by omega) (by rfl)) ?hp fun _ => ?_; (case hp => (repeat (first | exact Picks.nil | (apply Picks.cons; (focus (repeat constructor)))))); (try simp only [List.cons_append, List.nil_append, Bool.not_true, Bool.not_false]))
    (((with_reducible refine e_obl ?hi ?_); (case hi => (repeat (first | exact Imp.refl | exact Imp.nil | (apply Imp.pick; (focus ((repeat constructor); done))) | refine Imp.drop ?_))))); (((with_reducible refine e_obl ?hi ?_); (case hi => (repeat (first | exact Imp.refl | exact Imp.nil | (apply Imp.pick; (focus ((repeat constructor); done))) | refine Imp.drop ?_))))); (((with_reducible refine e_obl ?hi ?_); (case hi => (repeat (first | exact Imp.refl | exact Imp.nil | (apply Imp.pick; (focus ((repeat constructor); done))) | refine Imp.drop ?_))))); (((with_reducible refine e_obl ?hi ?_); (case hi => (repeat (first | exact Imp.refl | exact Imp.nil | (apply Imp.pick; (focus ((repeat constructor); done))) | refine Imp.drop ?_))))); (((with_reducible refine e_obl ?hi ?_); (case hi => (repeat (first | exact Imp.refl | exact Imp.nil | (apply Imp.pick; (focus ((repeat constructor); done))) | refine Imp.drop ?_))))); (((with_reducible refine e_obl ?hi ?_); (case hi => (repeat (first | exact Imp.refl | exact Imp.nil | (apply Imp.pick; (focus ((repeat constructor); done))) | refine Imp.drop ?_))))); (((with_reducible refine e_obl ?hi ?_); (case hi => (repeat (first | exact Imp.refl | exact Imp.nil | (apply Imp.pick; (focus ((repeat constructor); done))) | refine Imp.drop ?_)))))
    refine e_stD (v_cat (by simp only [List.length_append, List.length_take, dg_len, clk_len, List.length_cons, List.length_nil]; omega)) Imp.nil ?_
    refine e_stD (v_cat (by simp only [List.length_append, List.length_take, dg_len, clk_len, List.length_cons, List.length_nil]; omega)) Imp.nil ?_
    (refine' e_call (clock okx) ?hp fun _ => ?_; (case hp => (repeat (first | exact Picks.nil | (apply Picks.cons; (focus (repeat constructor)))))); (try simp only [List.cons_append, List.nil_append, Bool.not_true, Bool.not_false]))
    (((with_reducible refine e_obl ?hi ?_); (case hi => (repeat (first | exact Imp.refl | exact Imp.nil | (apply Imp.pick; (focus ((repeat constructor); done))) | refine Imp.drop ?_))))); (((with_reducible refine e_obl ?hi ?_); (case hi => (repeat (first | exact Imp.refl | exact Imp.nil | (apply Imp.pick; (focus ((repeat constructor); done))) | refine Imp.drop ?_))))); (((with_reducible refine e_obl ?hi ?_); (case hi => (repeat (first | exact Imp.refl | exact Imp.nil | (apply Imp.pick; (focus ((repeat constructor); done))) | refine Imp.drop ?_))))); (((with_reducible refine e_obl ?hi ?_); (case hi => (repeat (first | exact Imp.refl | exact Imp.nil | (apply Imp.pick; (focus ((repeat constructor); done))) | refine Imp.drop ?_))))); (((with_reducible refine e_obl ?hi ?_); (case hi => (repeat (first | exact Imp.refl | exact Imp.nil | (apply Imp.pick; (focus ((repeat constructor); done))) | refine Imp.drop ?_))))); (((with_reducible refine e_obl ?hi ?_); (case hi => (repeat (first | exact Imp.refl | exact Imp.nil | (apply Imp.pick; (focus ((repeat constructor); done))) | refine Imp.drop ?_))))); (((with_reducible refine e_obl ?hi ?_); (case hi => (repeat (first | exact Imp.refl | exact Imp.nil | (apply Imp.pick; (focus ((repeat constructor); done))) | refine Imp.drop ?_))))); (((with_reducible refine e_obl ?hi ?_); (case hi => (repeat (first | exact Imp.refl | exact Imp.nil | (apply Imp.pick; (focus ((repeat constructor); done))) | refine Imp.drop ?_)))))
    refine e_stS (v_cat (by simp only [List.length_append, List.length_take, dg_len, clk_len, List.length_cons, List.length_nil]; omega)) Imp.nil ?_
    refine e_stS (v_cat (by simp only [List.length_append, List.length_take, dg_len, clk_len, List.length_cons, List.length_nil]; omega)) Imp.nil ?_
    (first | refine e_ret (()) rfl ?_ | refine e_retT (()) ?_)
    (repeat (first | exact Imp.refl | exact Imp.nil | (apply Imp.pick; (focus ((repeat constructor); done))) | refine Imp.drop ?_))
  ((with_reducible refine e_condF ?_))
  refine e_ask v_eql Imp.nil (fun hk1 => ?_) (fun hk1 => ?_)
  · unfold fm
    rw [if_neg hk, if_pos hk1]
    generalize wdN x = wn at hwl ⊢
    generalize moN x = mn at hml ⊢
    ((with_reducible refine e_condT ?_)); ((with_reducible refine e_drS ?_))
    refine e_stD (v_cat (by simp only [List.length_append, List.length_take, dg_len, clk_len, List.length_cons, List.length_nil]; omega)) Imp.nil ?_
    (((with_reducible refine e_stS v_fa0 Imp.nil ?_))); (((with_reducible refine' e_stS (v_ldN ?hc) ?hi ?_); (case hi => (repeat (first | exact Imp.refl | exact Imp.nil | (apply Imp.pick; (focus ((repeat constructor); done))) | refine Imp.drop ?_))); (case hc => (repeat (first | exact Nth.here | apply Nth.there))))); (((with_reducible refine e_stD v_fa0 Imp.nil ?_))); (((with_reducible refine' e_stD (v_ldN ?hc) ?hi ?_); (case hi => (repeat (first | exact Imp.refl | exact Imp.nil | (apply Imp.pick; (focus ((repeat constructor); done))) | refine Imp.drop ?_))); (case hc => (repeat (first | exact Nth.here | apply Nth.there))))); (((with_reducible refine e_stD (v_rem ?h1 ?h2) Imp.nil ?_); (case h1 => omega); (case h2 => omega))); (((with_reducible refine' e_stD (v_ldAgg ?hn) ?hi ?_); (case hi => (repeat (first | exact Imp.refl | exact Imp.nil | (apply Imp.pick; (focus ((repeat constructor); done))) | refine Imp.drop ?_))); (case hn => rfl)))
    (refine' e_call (dig (n := x.d) (fill := 48) 2 (by omega) (by rfl) (by omega) (by rfl)) ?hp fun _ => ?_; (case hp => (repeat (first | exact Picks.nil | (apply Picks.cons; (focus (repeat constructor)))))); (try simp only [List.cons_append, List.nil_append, Bool.not_true, Bool.not_false]))
    (((with_reducible refine e_obl ?hi ?_); (case hi => (repeat (first | exact Imp.refl | exact Imp.nil | (apply Imp.pick; (focus ((repeat constructor); done))) | refine Imp.drop ?_))))); (((with_reducible refine e_obl ?hi ?_); (case hi => (repeat (first | exact Imp.refl | exact Imp.nil | (apply Imp.pick; (focus ((repeat constructor); done))) | refine Imp.drop ?_))))); (((with_reducible refine e_obl ?hi ?_); (case hi => (repeat (first | exact Imp.refl | exact Imp.nil | (apply Imp.pick; (focus ((repeat constructor); done))) | refine Imp.drop ?_))))); (((with_reducible refine e_obl ?hi ?_); (case hi => (repeat (first | exact Imp.refl | exact Imp.nil | (apply Imp.pick; (focus ((repeat constructor); done))) | refine Imp.drop ?_))))); (((with_reducible refine e_obl ?hi ?_); (case hi => (repeat (first | exact Imp.refl | exact Imp.nil | (apply Imp.pick; (focus ((repeat constructor); done))) | refine Imp.drop ?_)))))
    refine e_stD (v_cat (by simp only [List.length_append, List.length_take, dg_len, clk_len, List.length_cons, List.length_nil]; omega)) Imp.nil ?_
    refine e_stD (v_cat (by simp only [List.length_append, List.length_take, dg_len, clk_len, List.length_cons, List.length_nil]; omega)) Imp.nil ?_
    refine e_stD (v_cat (by simp only [List.length_append, List.length_take, dg_len, clk_len, List.length_cons, List.length_nil]; omega)) Imp.nil ?_
    refine e_stD (v_cat (by simp only [List.length_append, List.length_take, dg_len, clk_len, List.length_cons, List.length_nil]; omega)) Imp.nil ?_
    (refine' e_call (dig (n := x.y % 100) (fill := 48) 2 (by omega) (by rfl) (by omega) (by rfl)) ?hp fun _ => ?_; (case hp => (repeat (first | exact Picks.nil | (apply Picks.cons; (focus (repeat constructor)))))); (try simp only [List.cons_append, List.nil_append, Bool.not_true, Bool.not_false]))
    (((with_reducible refine e_obl ?hi ?_); (case hi => (repeat (first | exact Imp.refl | exact Imp.nil | (apply Imp.pick; (focus ((repeat constructor); done))) | refine Imp.drop ?_))))); (((with_reducible refine e_obl ?hi ?_); (case hi => (repeat (first | exact Imp.refl | exact Imp.nil | (apply Imp.pick; (focus ((repeat constructor); done))) | refine Imp.drop ?_))))); (((with_reducible refine e_obl ?hi ?_); (case hi => (repeat (first | exact Imp.refl | exact Imp.nil | (apply Imp.pick; (focus ((repeat constructor); done))) | refine Imp.drop ?_))))); (((with_reducible refine e_obl ?hi ?_); (case hi => (repeat (first | exact Imp.refl | exact Imp.nil | (apply Imp.pick; (focus ((repeat constructor); done))) | refine Imp.drop ?_))))); (((with_reducible refine e_obl ?hi ?_); (case hi => (repeat (first | exact Imp.refl | exact Imp.nil | (apply Imp.pick; (focus ((repeat constructor); done))) | refine Imp.drop ?_))))); (((with_reducible refine e_obl ?hi ?_); (case hi => (repeat (first | exact Imp.refl | exact Imp.nil | (apply Imp.pick; (focus ((repeat constructor); done))) | refine Imp.drop ?_)))))
    refine e_stD (v_cat (by simp only [List.length_append, List.length_take, dg_len, clk_len, List.length_cons, List.length_nil]; omega)) Imp.nil ?_
    refine e_stD (v_cat (by simp only [List.length_append, List.length_take, dg_len, clk_len, List.length_cons, List.length_nil]; omega)) Imp.nil ?_
    (refine' e_call (clock okx) ?hp fun _ => ?_; (case hp => (repeat (first | exact Picks.nil | (apply Picks.cons; (focus (repeat constructor)))))); (try simp only [List.cons_append, List.nil_append, Bool.not_true, Bool.not_false]))
    (((with_reducible refine e_obl ?hi ?_); (case hi => (repeat (first | exact Imp.refl | exact Imp.nil | (apply Imp.pick; (focus ((repeat constructor); done))) | refine Imp.drop ?_))))); (((with_reducible refine e_obl ?hi ?_); (case hi => (repeat (first | exact Imp.refl | exact Imp.nil | (apply Imp.pick; (focus ((repeat constructor); done))) | refine Imp.drop ?_))))); (((with_reducible refine e_obl ?hi ?_); (case hi => (repeat (first | exact Imp.refl | exact Imp.nil | (apply Imp.pick; (focus ((repeat constructor); done))) | refine Imp.drop ?_))))); (((with_reducible refine e_obl ?hi ?_); (case hi => (repeat (first | exact Imp.refl | exact Imp.nil | (apply Imp.pick; (focus ((repeat constructor); done))) | refine Imp.drop ?_))))); (((with_reducible refine e_obl ?hi ?_); (case hi => (repeat (first | exact Imp.refl | exact Imp.nil | (apply Imp.pick; (focus ((repeat constructor); done))) | refine Imp.drop ?_))))); (((with_reducible refine e_obl ?hi ?_); (case hi => (repeat (first | exact Imp.refl | exact Imp.nil | (apply Imp.pick; (focus ((repeat constructor); done))) | refine Imp.drop ?_))))); (((with_reducible refine e_obl ?hi ?_); (case hi => (repeat (first | exact Imp.refl | exact Imp.nil | (apply Imp.pick; (focus ((repeat constructor); done))) | refine Imp.drop ?_)))))
    refine e_stS (v_cat (by simp only [List.length_append, List.length_take, dg_len, clk_len, List.length_cons, List.length_nil]; omega)) Imp.nil ?_
    refine e_stS (v_cat (by simp only [List.length_append, List.length_take, dg_len, clk_len, List.length_cons, List.length_nil]; omega)) Imp.nil ?_
    (first | refine e_ret (()) rfl ?_ | refine e_retT (()) ?_)
    (repeat (first | exact Imp.refl | exact Imp.nil | (apply Imp.pick; (focus ((repeat constructor); done))) | refine Imp.drop ?_))
  · unfold fm
    rw [if_neg hk, if_neg hk1]
    generalize wdN x = wn at hwl ⊢
    generalize moN x = mn at hml ⊢
    ((with_reducible refine e_condF ?_)); ((with_reducible refine e_drS ?_))
    refine e_stD (v_ssh 3 (by rfl) (by omega)) Imp.nil ?_
    refine e_stD (v_cat (by simp only [List.length_append, List.length_take, dg_len, clk_len, List.length_cons, List.length_nil]; omega)) Imp.nil ?_
    refine e_stD (v_cat (by simp only [List.length_append, List.length_take, dg_len, clk_len, List.length_cons, List.length_nil]; omega)) Imp.nil ?_
    refine e_stD (v_cat (by simp only [List.length_append, List.length_take, dg_len, clk_len, List.length_cons, List.length_nil]; omega)) Imp.nil ?_
    (((with_reducible refine e_stS v_fa0 Imp.nil ?_))); (((with_reducible refine' e_stS (v_ldN ?hc) ?hi ?_); (case hi => (repeat (first | exact Imp.refl | exact Imp.nil | (apply Imp.pick; (focus ((repeat constructor); done))) | refine Imp.drop ?_))); (case hc => (repeat (first | exact Nth.here | apply Nth.there))))); (((with_reducible refine' e_stD (v_ldAgg ?hn) ?hi ?_); (case hi => (repeat (first | exact Imp.refl | exact Imp.nil | (apply Imp.pick; (focus ((repeat constructor); done))) | refine Imp.drop ?_))); (case hn => rfl))); (((with_reducible refine e_stD v_fa0 Imp.nil ?_))); (((with_reducible refine' e_stD (v_ldN ?hc) ?hi ?_); (case hi => (repeat (first | exact Imp.refl | exact Imp.nil | (apply Imp.pick; (focus ((repeat constructor); done))) | refine Imp.drop ?_))); (case hc => (repeat (first | exact Nth.here | apply Nth.there)))))
    (refine' e_call (dig (n := x.d) (fill := 32) 2 (by omega) (by rfl) (by omega) (by rfl)) ?hp fun _ => ?_; (case hp => (repeat (first | exact Picks.nil | (apply Picks.cons; (focus (repeat constructor)))))); (try simp only [List.cons_append, List.nil_append, Bool.not_true, Bool.not_false]))
    (((with_reducible refine e_obl ?hi ?_); (case hi => (repeat (first | exact Imp.refl | exact Imp.nil | (apply Imp.pick; (focus ((repeat constructor); done))) | refine Imp.drop ?_))))); (((with_reducible refine e_obl ?hi ?_); (case hi => (repeat (first | exact Imp.refl | exact Imp.nil | (apply Imp.pick; (focus ((repeat constructor); done))) | refine Imp.drop ?_))))); (((with_reducible refine e_obl ?hi ?_); (case hi => (repeat (first | exact Imp.refl | exact Imp.nil | (apply Imp.pick; (focus ((repeat constructor); done))) | refine Imp.drop ?_))))); (((with_reducible refine e_obl ?hi ?_); (case hi => (repeat (first | exact Imp.refl | exact Imp.nil | (apply Imp.pick; (focus ((repeat constructor); done))) | refine Imp.drop ?_))))); (((with_reducible refine e_obl ?hi ?_); (case hi => (repeat (first | exact Imp.refl | exact Imp.nil | (apply Imp.pick; (focus ((repeat constructor); done))) | refine Imp.drop ?_))))); (((with_reducible refine e_obl ?hi ?_); (case hi => (repeat (first | exact Imp.refl | exact Imp.nil | (apply Imp.pick; (focus ((repeat constructor); done))) | refine Imp.drop ?_))))); (((with_reducible refine e_obl ?hi ?_); (case hi => (repeat (first | exact Imp.refl | exact Imp.nil | (apply Imp.pick; (focus ((repeat constructor); done))) | refine Imp.drop ?_)))))
    refine e_stD (v_cat (by simp only [List.length_append, List.length_take, dg_len, clk_len, List.length_cons, List.length_nil]; omega)) Imp.nil ?_
    refine e_stD (v_cat (by simp only [List.length_append, List.length_take, dg_len, clk_len, List.length_cons, List.length_nil]; omega)) Imp.nil ?_
    (refine' e_call (clock okx) ?hp fun _ => ?_; (case hp => (repeat (first | exact Picks.nil | (apply Picks.cons; (focus (repeat constructor)))))); (try simp only [List.cons_append, List.nil_append, Bool.not_true, Bool.not_false]))
    (((with_reducible refine e_obl ?hi ?_); (case hi => (repeat (first | exact Imp.refl | exact Imp.nil | (apply Imp.pick; (focus ((repeat constructor); done))) | refine Imp.drop ?_))))); (((with_reducible refine e_obl ?hi ?_); (case hi => (repeat (first | exact Imp.refl | exact Imp.nil | (apply Imp.pick; (focus ((repeat constructor); done))) | refine Imp.drop ?_))))); (((with_reducible refine e_obl ?hi ?_); (case hi => (repeat (first | exact Imp.refl | exact Imp.nil | (apply Imp.pick; (focus ((repeat constructor); done))) | refine Imp.drop ?_))))); (((with_reducible refine e_obl ?hi ?_); (case hi => (repeat (first | exact Imp.refl | exact Imp.nil | (apply Imp.pick; (focus ((repeat constructor); done))) | refine Imp.drop ?_))))); (((with_reducible refine e_obl ?hi ?_); (case hi => (repeat (first | exact Imp.refl | exact Imp.nil | (apply Imp.pick; (focus ((repeat constructor); done))) | refine Imp.drop ?_))))); (((with_reducible refine e_obl ?hi ?_); (case hi => (repeat (first | exact Imp.refl | exact Imp.nil | (apply Imp.pick; (focus ((repeat constructor); done))) | refine Imp.drop ?_))))); (((with_reducible refine e_obl ?hi ?_); (case hi => (repeat (first | exact Imp.refl | exact Imp.nil | (apply Imp.pick; (focus ((repeat constructor); done))) | refine Imp.drop ?_))))); (((with_reducible refine e_obl ?hi ?_); (case hi => (repeat (first | exact Imp.refl | exact Imp.nil | (apply Imp.pick; (focus ((repeat constructor); done))) | refine Imp.drop ?_)))))
    refine e_stD (v_cat (by simp only [List.length_append, List.length_take, dg_len, clk_len, List.length_cons, List.length_nil]; omega)) Imp.nil ?_
    refine e_stD (v_cat (by simp only [List.length_append, List.length_take, dg_len, clk_len, List.length_cons, List.length_nil]; omega)) Imp.nil ?_
    (refine' e_call (dig (n := x.y) (fill := 48) 4 (by omega) (by rfl) (by omega) (by rfl)) ?hp fun _ => ?_; (case hp => (repeat (first | exact Picks.nil | (apply Picks.cons; (focus (repeat constructor)))))); (try simp only [List.cons_append, List.nil_append, Bool.not_true, Bool.not_false]))
    (((with_reducible refine e_obl ?hi ?_); (case hi => (repeat (first | exact Imp.refl | exact Imp.nil | (apply Imp.pick; (focus ((repeat constructor); done))) | refine Imp.drop ?_))))); (((with_reducible refine e_obl ?hi ?_); (case hi => (repeat (first | exact Imp.refl | exact Imp.nil | (apply Imp.pick; (focus ((repeat constructor); done))) | refine Imp.drop ?_))))); (((with_reducible refine e_obl ?hi ?_); (case hi => (repeat (first | exact Imp.refl | exact Imp.nil | (apply Imp.pick; (focus ((repeat constructor); done))) | refine Imp.drop ?_))))); (((with_reducible refine e_obl ?hi ?_); (case hi => (repeat (first | exact Imp.refl | exact Imp.nil | (apply Imp.pick; (focus ((repeat constructor); done))) | refine Imp.drop ?_))))); (((with_reducible refine e_obl ?hi ?_); (case hi => (repeat (first | exact Imp.refl | exact Imp.nil | (apply Imp.pick; (focus ((repeat constructor); done))) | refine Imp.drop ?_))))); (((with_reducible refine e_obl ?hi ?_); (case hi => (repeat (first | exact Imp.refl | exact Imp.nil | (apply Imp.pick; (focus ((repeat constructor); done))) | refine Imp.drop ?_))))); (((with_reducible refine e_obl ?hi ?_); (case hi => (repeat (first | exact Imp.refl | exact Imp.nil | (apply Imp.pick; (focus ((repeat constructor); done))) | refine Imp.drop ?_))))); (((with_reducible refine e_obl ?hi ?_); (case hi => (repeat (first | exact Imp.refl | exact Imp.nil | (apply Imp.pick; (focus ((repeat constructor); done))) | refine Imp.drop ?_)))))
    refine e_stS (v_cat (by simp only [List.length_append, List.length_take, dg_len, clk_len, List.length_cons, List.length_nil]; omega)) Imp.nil ?_
    (first | refine e_ret (()) rfl ?_ | refine e_retT (()) ?_)
    (repeat (first | exact Imp.refl | exact Imp.nil | (apply Imp.pick; (focus ((repeat constructor); done))) | refine Imp.drop ?_))
end Go.Proofs.YtcmpkkkigmheoaaDoor.D
/-! A date as text; what reads a text. No conditions but those that each names. -/
namespace Go.Proofs.YtcmpkkkigmheoaaDoor.D
open Go Go.Proofs Go.RowKit Go.Proofs.YtcmpkkkigmheoaaDoor.Sh Go.Proofs.YtcmpkkkigmheoaaDoor.Sl Go.Proofs.YtcmpkkkigmheoaaDoor.T
theorem cM_b (n : Int) : 1 ≤ cM n ∧ cM n ≤ 12 := by unfold cM; omega
theorem cD_b (n : Int) : 1 ≤ cD n ∧ cD n ≤ 31 := by
  have h := dD_b (dE_b n)
  unfold cD dM
  generalize dD (dE n) = d at h ⊢
  omega
theorem cY_b {n : Int} (h : 0 ≤ n ∧ n ≤ 2932896) : 0 ≤ cY n ∧ cY n ≤ 9999 := by
  have he := dE_b n
  have hy := dY_b he
  unfold cY
  have hq : 4 ≤ (n + 719468) / 146097 ∧ (n + 719468) / 146097 ≤ 24 := by omega
  have h24 : (n + 719468) / 146097 = 24 → dE n ≤ 146036 := by unfold dE; omega
  by_cases c : (n + 719468) / 146097 = 24
  · have h5 := h24 c
    by_cases c2 : dY (dE n) = 399
    · have hd : dD (dE n) ≤ 305 := by unfold dD; rw [c2]; omega
      have hd0 := (dD_b he).1
      have hm : ¬ cM n ≤ 2 := by
        unfold cM dM
        generalize dD (dE n) = d at hd hd0 ⊢
        have q1 : (5 * d + 2) / 153 ≤ 9 := by omega
        have q2 : 0 ≤ (5 * d + 2) / 153 := by omega
        rw [Int.emod_eq_of_lt (by omega) (by omega)]
        omega
      rw [if_neg hm]; omega
    · split <;> omega
  · split <;> omega
theorem ok_sp {n : Int} (h : okT n) : okX (spD n) := by
  unfold okT at h
  have hN : 0 ≤ n / 86400 ∧ n / 86400 ≤ 2932896 := by omega
  rw [show spD n = ⟨cY (n / 86400), cM (n / 86400), cD (n / 86400), n % 86400 / 3600, n % 3600 / 60, n % 60, (n / 86400 + 4) % 7⟩ from if_pos h]
  exact ⟨cY_b hN, cM_b _, cD_b _, by simp only; omega, by simp only; omega, by simp only; omega, by simp only; omega⟩
def foS (n : Int) : List UInt8 := if okT n then fm 0 (spD n) else []
abbrev Sm {α : Type} (m : Option α) := { x : α // m = some x }
abbrev Nn {α : Type} (m : Option α) := { _u : Unit // m = none }
def pnD : List PanicEntry := pe (.iface 68 (.int .i64 41))
def IsRd (p : Nat) (l : List UInt8) : HP := pt p (.cells #[txt l] 112)
def tkR (k : Nat) (l : List UInt8) : Option (List UInt8 × List UInt8) := if k ≤ l.length then some (l.take k, l.drop k) else none
theorem take {W : World} {p k : Nat} {l : List UInt8} : CnP Tryd.prog 51 [.pointer (some ⟨p, 0, none⟩), .int .i64 (k : Int)] W [IsRd p l]
    (fun x : Sm (tkR k l) => txt x.1.1) (fun x => [IsRd p x.1.2]) (fun _ : Nn (tkR k l) => pnD) (fun _ => []) := by
  (refine S.dates_reader_take_cnP fun F => ?_; unfold S.dates_reader_take; simp only [List.cons_append, List.nil_append, -eq_self])
  refine e_cut0 (pu (k ≤ l.length) :: IsRd p l :: F) ?_ ?_
  rotate_left
  · unfold IsRd
    (((with_reducible refine e_opN v_nil Imp.nil ?_))); (((with_reducible refine e_opN v_fa0 Imp.nil ?_))); (((with_reducible refine' e_opN (v_ldN ?hc) ?hi ?_); (case hi => (repeat (first | exact Imp.refl | exact Imp.nil | (apply Imp.pick; (focus ((repeat constructor); done))) | refine Imp.drop ?_))); (case hc => (repeat (first | exact Nth.here | apply Nth.there)))))
    refine e_opN v_lent Imp.nil ?_
    (refine e_ask v_gtr Imp.nil (fun h => ?_) (fun h => ?_))
    · ((with_reducible refine e_condT ?_))
      refine e_opN v_mkI Imp.nil ?_
      refine e_panic ?_
      refine e_pan ⟨(), ?_⟩ rfl ?_
      · unfold tkR; rw [if_neg (by omega)]
      · (repeat (first | exact Imp.refl | exact Imp.nil | (apply Imp.pick; (focus ((repeat constructor); done))) | refine Imp.drop ?_))
    · ((with_reducible refine e_condF ?_))
      refine e_sat (.pu (by omega) ?_)
      (repeat (first | exact Imp.refl | exact Imp.nil | (apply Imp.pick; (focus ((repeat constructor); done))) | refine Imp.drop ?_))
  intro ds
  (try simp only [List.cons_append, List.nil_append, -eq_self])
  refine e_pu .here fun hk => ?_
  unfold IsRd
  (((with_reducible refine e_opN v_nil Imp.nil ?_))); (((with_reducible refine e_opN v_fa0 Imp.nil ?_))); (((with_reducible refine' e_opN (v_ldN ?hc) ?hi ?_); (case hi => (repeat (first | exact Imp.refl | exact Imp.nil | (apply Imp.pick; (focus ((repeat constructor); done))) | refine Imp.drop ?_))); (case hc => (repeat (first | exact Nth.here | apply Nth.there)))))
  refine e_opN (v_ssh k (by rfl) hk) Imp.nil ?_
  (((with_reducible refine e_opN v_nil Imp.nil ?_))); (((with_reducible refine e_opN v_fa0 Imp.nil ?_))); (((with_reducible refine' e_opN (v_ldN ?hc) ?hi ?_); (case hi => (repeat (first | exact Imp.refl | exact Imp.nil | (apply Imp.pick; (focus ((repeat constructor); done))) | refine Imp.drop ?_))); (case hc => (repeat (first | exact Nth.here | apply Nth.there)))))
  refine e_opN (v_ssl k (by rfl) hk) Imp.nil ?_
  (((with_reducible refine e_opN v_nil Imp.nil ?_))); (((with_reducible refine e_opN v_fa0 Imp.nil ?_))); (((with_reducible refine' e_stN ?hp ?ho ?_); (case hp => (repeat constructor)); (case ho => (repeat (first | exact Put.here | apply Put.there)))))
  (first | refine e_ret (⟨(l.take k, l.drop k), by unfold tkR; rw [if_pos hk]⟩) rfl ?_ | refine e_retT (⟨(l.take k, l.drop k), by unfold tkR; rw [if_pos hk]⟩) ?_)
  (repeat (first | exact Imp.refl | exact Imp.nil | (apply Imp.pick; (focus ((repeat constructor); done))) | refine Imp.drop ?_))
end Go.Proofs.YtcmpkkkigmheoaaDoor.D
/-! What reads numbers, months, times of day. No conditions but those that each names. -/
namespace Go.Proofs.YtcmpkkkigmheoaaDoor.D
open Go Go.Proofs Go.RowKit Go.Proofs.YtcmpkkkigmheoaaDoor.Sh Go.Proofs.YtcmpkkkigmheoaaDoor.Sl Go.Proofs.YtcmpkkkigmheoaaDoor.T
def fix0 : List UInt8 → List UInt8
  | [] => []
  | c :: r => (if c = 32 then 48 else c) :: r
def numF (acc : Nat) : List UInt8 → Option Nat
  | [] => some acc
  | c :: r => if c.toNat < 48 ∨ 57 < c.toNat then none else numF (10 * acc + (c.toNat - 48)) r
def numV (w : List UInt8) : Option Nat := numF 0 (fix0 w)
def numR (k : Nat) (l : List UInt8) : Option (Nat × List UInt8) := match tkR k l with
  | none => none
  | some x => match numV x.1 with
    | none => none
    | some v => some (v, x.2)
theorem fix0_len (w : List UInt8) : (fix0 w).length = w.length := by cases w <;> rfl
theorem fix0_get (w : List UInt8) (i : Nat) (h : i < w.length) : (fix0 w)[i]'(by rw [fix0_len]; exact h) = if w[i] = 32 ∧ i = 0 then 48 else w[i] := by
  cases w with
  | nil => simp at h
  | cons c r =>
    cases i with
    | zero => simp [fix0]
    | succ i => simp [fix0]
theorem tk_len {k : Nat} {l : List UInt8} {x : List UInt8 × List UInt8} (h : tkR k l = some x) : x.1.length = k := by
  unfold tkR at h
  split at h
  · injection h with h; subst h; simp; omega
  · cases h
theorem number {W : World} {p k : Nat} {l : List UInt8} (hk : k ≤ 8) : CnP Tryd.prog 52 [.pointer (some ⟨p, 0, none⟩), .int .i64 (k : Int)] W [IsRd p l]
    (fun x : Sm (numR k l) => .int .i64 (x.1.1 : Int)) (fun x => [IsRd p x.1.2]) (fun _ : Nn (numR k l) => pnD) (fun _ => []) := by
  (refine S.dates_reader_number_cnP fun F => ?_; unfold S.dates_reader_number; simp only [List.cons_append, List.nil_append, -eq_self])
  (refine' e_callP (take (k := k)) ?hp (fun _ => ?_) (fun _ => ?_); (case hp => (repeat (first | exact Picks.nil | (apply Picks.cons; (focus (repeat constructor)))))); (all_goals (try simp only [List.cons_append, List.nil_append, Bool.not_true, Bool.not_false, -eq_self])))
  rotate_left
  · rename_i y
    refine e_pan ⟨(), by unfold numR; rw [y.2]⟩ rfl ?_
    (repeat (first | exact Imp.refl | exact Imp.nil | (apply Imp.pick; (focus ((repeat constructor); done))) | refine Imp.drop ?_))
  rename_i x
  obtain ⟨⟨w, r⟩, hx⟩ := x
  have hwl : w.length = k := tk_len hx
  (try dsimp only)
  refine e_sbytes (e := 5) (by kernel_rfl) (by kernel_rfl) fun g c rest fz => ?_
  (((with_reducible refine e_opN v_len Imp.nil ?_)))
  refine e_loop2 (fun m y5 y13 => (ex fun st : Nat × Nat => pu (m + st.2 = k ∧ y5 = .int .i64 (st.1 : Int) ∧ y13 = .int .i64 (st.2 : Int) ∧ st.1 < 10 ^ st.2 ∧ numF st.1 ((fix0 w).drop st.2) = numV w)) :: pt g (.cells (w.map Sl.B ++ rest).toArray 5 fz) :: IsRd p r :: F) k ?_ ?_
  · refine .ex (0, 0) (.pu ⟨by omega, rfl, rfl, by simp, by simp [numV]⟩ ?_)
    (repeat (first | exact Imp.refl | exact Imp.nil | (apply Imp.pick; (focus ((repeat constructor); done))) | refine Imp.drop ?_))
  intro m ds y5 y13
  (try simp only [List.cons_append, List.nil_append, -eq_self])
  refine e_ex Pick.here fun st => e_pu Pick.here fun hi => ?_
  obtain ⟨acc, i⟩ := st
  (try dsimp only at hi)
  obtain ⟨hmk, rfl, rfl, hacc, hnum⟩ := hi
  have hp8 : 10 ^ i ≤ 10 ^ 8 := Nat.pow_le_pow_right (by omega) (by omega)
  (refine e_ask v_lss Imp.nil (fun h => ?_) (fun h => ?_))
  · have hil : i < w.length := by omega
    have hil2 : i < (fix0 w).length := by rw [fix0_len]; exact hil
    refine e_condT ?_
    refine e_opN (v_ia1 i (by rfl) (by omega)) Imp.nil ?_
    refine e_opN (v_ldRd (j := i) rd_row (B_get hil)) (.pick (by (repeat constructor)) .nil) ?_
    have hfg := fix0_get w i hil
    refine e_cut1 (fun z => pu (z = Sl.B ((fix0 w)[i])) :: pt g (.cells (w.map Sl.B ++ rest).toArray 5 fz) :: IsRd p r :: F) ?_ ?_
    rotate_left
    · unfold Sl.B
      refine e_ask v_eql Imp.nil (fun h5 => ?_) (fun h5 => ?_)
      · have hc : w[i] = 32 := by
          apply UInt8.toNat_inj.1
          exact Int.ofNat.inj h5
        ((with_reducible refine e_gdT ?_)); ((with_reducible refine e_gdT ?_))
        refine e_ask v_eql Imp.nil (fun h6 => ?_) (fun h6 => ?_)
        · (((with_reducible refine e_opN v_pickT Imp.nil ?_))); ((with_reducible refine e_condT ?_))
          refine e_sat (.pu ?_ ?_)
          · rw [hfg, if_pos ⟨hc, by omega⟩]; rfl
          · (repeat (first | exact Imp.refl | exact Imp.nil | (apply Imp.pick; (focus ((repeat constructor); done))) | refine Imp.drop ?_))
        · (((with_reducible refine e_opN v_pickT Imp.nil ?_))); ((with_reducible refine e_condF ?_))
          refine e_sat (.pu ?_ ?_)
          · rw [hfg, if_neg (fun c => h6 (by omega))]
          · (repeat (first | exact Imp.refl | exact Imp.nil | (apply Imp.pick; (focus ((repeat constructor); done))) | refine Imp.drop ?_))
      · have hc : ¬ w[i] = 32 := fun c => h5 (by rw [c]; rfl)
        ((with_reducible refine e_gdF2 ?_)); ((with_reducible refine e_gdF2 ?_)); (((with_reducible refine e_opN v_pickF Imp.nil ?_))); ((with_reducible refine e_condF ?_))
        refine e_sat (.pu ?_ ?_)
        · rw [hfg, if_neg (fun c => hc c.1)]
        · (repeat (first | exact Imp.refl | exact Imp.nil | (apply Imp.pick; (focus ((repeat constructor); done))) | refine Imp.drop ?_))
    intro ds2 z
    (try simp only [List.cons_append, List.nil_append, -eq_self])
    refine e_pu .here fun h => ?_
    subst h
    rw [List.drop_eq_getElem_cons hil2] at hnum
    generalize (fix0 w)[i] = ch at hnum ⊢
    have hch := ch.toNat_lt
    unfold numF at hnum
    unfold Sl.B
    refine e_cut0 (pu (48 ≤ ch.toNat ∧ ch.toNat ≤ 57) :: pt g (.cells (w.map (fun c => Value.int .u8 (c.toNat : Int)) ++ rest).toArray 5 fz) :: IsRd p r :: F) ?_ ?_
    rotate_left
    · refine e_ask v_lss Imp.nil (fun h5 => ?_) (fun h5 => ?_)
      · ((with_reducible refine e_gdF1 ?_)); ((with_reducible refine e_gdF1 ?_)); (((with_reducible refine e_opN v_pickT Imp.nil ?_))); ((with_reducible refine e_condT ?_))
        refine e_opN v_mkI Imp.nil ?_
        refine e_panic ?_
        refine e_pan ⟨(), ?_⟩ rfl ?_
        · rw [if_pos (.inl (by omega))] at hnum
          unfold numR; rw [hx]; simp only; rw [← hnum]
        · (repeat (first | exact Imp.refl | exact Imp.nil | (apply Imp.pick; (focus ((repeat constructor); done))) | refine Imp.drop ?_))
      · ((with_reducible refine e_gdT ?_)); ((with_reducible refine e_gdT ?_))
        refine e_ask v_gtr Imp.nil (fun h6 => ?_) (fun h6 => ?_)
        · (((with_reducible refine e_opN v_pickF Imp.nil ?_))); ((with_reducible refine e_condT ?_))
          refine e_opN v_mkI Imp.nil ?_
          refine e_panic ?_
          refine e_pan ⟨(), ?_⟩ rfl ?_
          · rw [if_pos (.inr (by omega))] at hnum
            unfold numR; rw [hx]; simp only; rw [← hnum]
          · (repeat (first | exact Imp.refl | exact Imp.nil | (apply Imp.pick; (focus ((repeat constructor); done))) | refine Imp.drop ?_))
        · (((with_reducible refine e_opN v_pickF Imp.nil ?_))); ((with_reducible refine e_condF ?_))
          refine e_sat (.pu (by omega) ?_)
          (repeat (first | exact Imp.refl | exact Imp.nil | (apply Imp.pick; (focus ((repeat constructor); done))) | refine Imp.drop ?_))
    intro ds3
    (try simp only [List.cons_append, List.nil_append, -eq_self])
    refine e_pu .here fun hr => ?_
    rw [if_neg (by omega)] at hnum
    have hacc2 : acc < 100000000 := by omega
    (((with_reducible refine e_opN (v_mul ?h1 ?h2) Imp.nil ?_); (case h1 => omega); (case h2 => omega)))
    refine e_opN v_subw Imp.nil ?_
    rw [show (ch.toNat : Int) - 48 = ((ch.toNat - 48 : Nat) : Int) by omega, show IntKind.u8.wrap ((ch.toNat - 48 : Nat) : Int) = ((ch.toNat - 48 : Nat) : Int) by simp only [IntKind.wrap, IntKind.bits, IntKind.signed]; simp; omega]
    refine e_opN v_conv Imp.nil ?_
    rw [w64 (by omega) (by omega)]
    (((with_reducible refine e_opN (v_add ?h1 ?h2) Imp.nil ?_); (case h1 => omega); (case h2 => omega))); (((with_reducible refine e_opN (v_add ?h1 ?h2) Imp.nil ?_); (case h1 => omega); (case h2 => omega)))
    refine e_next2 (m - 1) (by omega) (.ex (10 * acc + (ch.toNat - 48), i + 1) (.pu ⟨by omega, ?_, ?_, ?_, ?_⟩ ?_))
    · congr 1
    · congr 1
    · simp only [Nat.pow_succ]; omega
    · exact hnum
    · (repeat (first | exact Imp.refl | exact Imp.nil | (apply Imp.pick; (focus ((repeat constructor); done))) | refine Imp.drop ?_))
  · refine e_condF ?_
    have hik : i = k := by omega
    have hv : numV w = some acc := by
      rw [← hnum, List.drop_of_length_le (by rw [fix0_len]; omega)]; rfl
    (first | refine e_ret (⟨(acc, r), by unfold numR; rw [hx]; simp only; rw [hv]⟩) rfl ?_ | refine e_retT (⟨(acc, r), by unfold numR; rw [hx]; simp only; rw [hv]⟩) ?_)
    (repeat (first | exact Imp.refl | exact Imp.nil | (apply Imp.pick; (focus ((repeat constructor); done))) | refine Imp.drop ?_))
def mF (w : List UInt8) (i : Nat) : Nat → Option Int
  | 0 => none
  | m + 1 => if moL.getD i [] = w then some ((i : Int) + 1) else mF w (i + 1) m
def monV (w : List UInt8) : Option Int := mF w 0 12
def monR (l : List UInt8) : Option (Int × List UInt8) := match tkR 3 l with
  | none => none
  | some x => match monV x.1 with
    | none => none
    | some v => some (v, x.2)
theorem month {W : World} {p : Nat} {l : List UInt8} : CnP Tryd.prog 53 [.pointer (some ⟨p, 0, none⟩)] W [IsRd p l]
    (fun x : Sm (monR l) => .int .i64 x.1.1) (fun x => [IsRd p x.1.2]) (fun _ : Nn (monR l) => pnD) (fun _ => []) := by
  (refine S.dates_reader_month_cnP fun F => ?_; unfold S.dates_reader_month; simp only [List.cons_append, List.nil_append, -eq_self])
  (refine' e_callP (take (k := 3)) ?hp (fun _ => ?_) (fun _ => ?_); (case hp => (repeat (first | exact Picks.nil | (apply Picks.cons; (focus (repeat constructor)))))); (all_goals (try simp only [List.cons_append, List.nil_append, Bool.not_true, Bool.not_false, -eq_self])))
  rotate_left
  · rename_i y
    refine e_pan ⟨(), by unfold monR; rw [y.2]⟩ rfl ?_
    (repeat (first | exact Imp.refl | exact Imp.nil | (apply Imp.pick; (focus ((repeat constructor); done))) | refine Imp.drop ?_))
  rename_i x
  obtain ⟨⟨w, r⟩, hx⟩ := x
  (try dsimp only)
  (refine' e_call (months) ?hp fun _ => ?_; (case hp => (repeat (first | exact Picks.nil | (apply Picks.cons; (focus (repeat constructor)))))); (try simp only [List.cons_append, List.nil_append, Bool.not_true, Bool.not_false]))
  refine e_loop2 (fun m y2 y9 => (ex fun i : Nat => pu (m + i = 12 ∧ y2 = .int .i64 0 ∧ y9 = .int .i64 (i : Int) ∧ mF w i m = monV w)) :: IsRd p r :: F) 12 ?_ ?_
  · refine .ex 0 (.pu ⟨by omega, rfl, rfl, rfl⟩ ?_)
    (repeat (first | exact Imp.refl | exact Imp.nil | (apply Imp.pick; (focus ((repeat constructor); done))) | refine Imp.drop ?_))
  intro m ds y2 y9
  (try simp only [List.cons_append, List.nil_append, -eq_self])
  refine e_ex Pick.here fun i => e_pu Pick.here fun hi => ?_
  obtain ⟨hmi, rfl, rfl, hmon⟩ := hi
  (refine e_ask v_lss Imp.nil (fun h => ?_) (fun h => ?_))
  · refine e_condT ?_
    obtain ⟨m', rfl⟩ : ∃ m', m = m' + 1 := ⟨m - 1, by omega⟩
    refine e_opN (v_ixA (v := txt (moL.getD i [])) i (by rfl) (by omega) (name_get (l := moL) (by show _ < 12; omega))) Imp.nil ?_
    unfold mF at hmon
    refine e_ask v_streq Imp.nil (fun hq => ?_) (fun hq => ?_)
    · rw [if_pos hq] at hmon
      ((with_reducible refine e_condT ?_)); (((with_reducible refine e_opN (v_add ?h1 ?h2) Imp.nil ?_); (case h1 => omega); (case h2 => omega)))
      (first | refine e_ret (⟨((i : Int) + 1, r), by unfold monR; rw [hx]; simp only; rw [← hmon]⟩) rfl ?_ | refine e_retT (⟨((i : Int) + 1, r), by unfold monR; rw [hx]; simp only; rw [← hmon]⟩) ?_)
      (repeat (first | exact Imp.refl | exact Imp.nil | (apply Imp.pick; (focus ((repeat constructor); done))) | refine Imp.drop ?_))
    · rw [if_neg hq] at hmon
      ((with_reducible refine e_condF ?_)); (((with_reducible refine e_opN (v_add ?h1 ?h2) Imp.nil ?_); (case h1 => omega); (case h2 => omega)))
      refine e_next2 m' (by omega) (.ex (i + 1) (.pu ⟨by omega, rfl, rfl, hmon⟩ ?_))
      (repeat (first | exact Imp.refl | exact Imp.nil | (apply Imp.pick; (focus ((repeat constructor); done))) | refine Imp.drop ?_))
  · refine e_condF ?_
    have hm0 : m = 0 := by omega
    subst hm0
    refine e_opN v_mkI Imp.nil ?_
    refine e_panic ?_
    refine e_pan ⟨(), ?_⟩ rfl ?_
    · unfold monR; rw [hx]; simp only; rw [← hmon]; rfl
    · (repeat (first | exact Imp.refl | exact Imp.nil | (apply Imp.pick; (focus ((repeat constructor); done))) | refine Imp.drop ?_))
end Go.Proofs.YtcmpkkkigmheoaaDoor.D
/-! What reads a date. No conditions but those that each names. -/
namespace Go.Proofs.YtcmpkkkigmheoaaDoor.D
open Go Go.Proofs Go.RowKit Go.Proofs.YtcmpkkkigmheoaaDoor.Sh Go.Proofs.YtcmpkkkigmheoaaDoor.Sl Go.Proofs.YtcmpkkkigmheoaaDoor.T
theorem firstIdx_eq {l : List UInt8} {c : UInt8} (h : c ∈ l) : firstIdx ⟨l.toArray⟩ c = ((l.findIdx (· == c) : Nat) : Int) := by
  have hlt : l.findIdx (· == c) < l.length := List.findIdx_lt_length_of_exists ⟨c, h, by simp⟩
  have hf : (List.range (⟨l.toArray⟩ : ByteArray).size).find? (fun i => (⟨l.toArray⟩ : ByteArray)[i]! == c) = some (l.findIdx (· == c)) := by
    have e : ∀ i, i < l.length → ((⟨l.toArray⟩ : ByteArray)[i]! == c) = (l.getD i 0 == c) := fun i hi => by
      have h2 : i < (⟨l.toArray⟩ : ByteArray).size := hi
      rw [getElem!_pos _ i h2]
      simp [ByteArray.getElem_eq_getElem_data, List.getD_eq_getElem?_getD, hi]
    rw [List.find?_eq_some_iff_getElem]
    refine ⟨?_, l.findIdx (· == c), by simpa [ByteArray.size] using hlt, by simp, fun j hj => ?_⟩
    · rw [e _ hlt]
      have := List.findIdx_getElem (w := hlt)
      simpa [List.getD_eq_getElem?_getD, hlt] using this
    · have hjl : j < l.length := by omega
      simp only [List.getElem_range]
      rw [e _ hjl]
      have := List.not_of_lt_findIdx hj
      simpa [List.getD_eq_getElem?_getD, hjl] using this
  unfold firstIdx
  rw [hf]
theorem indexByte {W : World} {l : List UInt8} {c : UInt8} (h : c ∈ l) : Cn Tryd.prog 55 [txt l, Sl.B c] W [] (fun _ : Unit => .int .i64 ((l.findIdx (· == c) : Nat) : Int)) (fun _ => []) := by
  have ext : RunV Tryd.prog W [] (sCall (fn 86) [txt l, Sl.B c]) (.int .i64 ((l.findIdx (· == c) : Nat) : Int)) := fun w _ => by
    have hr : (callFunc 86 #[txt l, Sl.B c]).run Tryd.prog w = .ok (.value (.int .i64 ((l.findIdx (· == c) : Nat) : Int))) w := by
      rw [run_callFunc_extern Tryd.func86 (by kernel_rfl) (by kernel_rfl) (by kernel_rfl) (e := Extern.BytealgIndexByte.indexByte) (by kernel_rfl)]
      have := run_indexByte_string (P := Tryd.prog) ⟨l.toArray⟩ (c.toNat : Int) w
      unfold txt Sl.B
      rw [this]
      have hc : ((c.toNat : Int).toNat).toUInt8 = c := by simp
      simp only [Result.andThen_ok]
      rw [show (↑c.toNat : Int).toNat.toUInt8 = c from hc, firstIdx_eq h]
    simp [sCall, Deferred.ofValue, invoke, fn, hr]
  have inner : Cn Tryd.prog 67 [txt l, Sl.B c] W [] (fun _ : Unit => .int .i64 ((l.findIdx (· == c) : Nat) : Int)) (fun _ => []) := by
    (refine S.stringslite_IndexByte_cn fun F => ?_; unfold S.stringslite_IndexByte; simp only [List.cons_append, List.nil_append])
    refine e_opN ext Imp.nil ?_
    (first | refine e_ret (()) rfl ?_ | refine e_retT (()) ?_)
    (repeat (first | exact Imp.refl | exact Imp.nil | (apply Imp.pick; (focus ((repeat constructor); done))) | refine Imp.drop ?_))
  (refine S.strings_IndexByte_cn fun F => ?_; unfold S.strings_IndexByte; simp only [List.cons_append, List.nil_append])
  (refine' e_call (inner) ?hp fun _ => ?_; (case hp => (repeat (first | exact Picks.nil | (apply Picks.cons; (focus (repeat constructor)))))); (try simp only [List.cons_append, List.nil_append, Bool.not_true, Bool.not_false]))
  (first | refine e_ret (()) rfl ?_ | refine e_retT (()) ?_)
  (repeat (first | exact Imp.refl | exact Imp.nil | (apply Imp.pick; (focus ((repeat constructor); done))) | refine Imp.drop ?_))
end Go.Proofs.YtcmpkkkigmheoaaDoor.D
/-! What reads the three forms. No conditions but those that each names. -/
namespace Go.Proofs.YtcmpkkkigmheoaaDoor.D
open Go Go.Proofs Go.RowKit Go.Proofs.YtcmpkkkigmheoaaDoor.Sh Go.Proofs.YtcmpkkkigmheoaaDoor.Sl Go.Proofs.YtcmpkkkigmheoaaDoor.T
theorem numF_lt : ∀ (w : List UInt8) (acc v : Nat), numF acc w = some v → v < (acc + 1) * 10 ^ w.length
  | [], acc, v, h => by
    have := Option.some.inj h
    simp; omega
  | c :: r, acc, v, h => by
    unfold numF at h
    split at h
    · cases h
    · have hc := numF_lt r _ v h
      have h9 : (10 * acc + (c.toNat - 48) + 1) ≤ (acc + 1) * 10 := by omega
      have := Nat.mul_le_mul_right (10 ^ r.length) h9
      rw [List.length_cons, Nat.pow_succ, Nat.mul_comm (10 ^ r.length) 10, ← Nat.mul_assoc]
      omega
theorem num_lt {k : Nat} {l : List UInt8} {x : Nat × List UInt8} (h : numR k l = some x) : x.1 < 10 ^ k := by
  unfold numR at h
  cases ht : tkR k l with
  | none => rw [ht] at h; cases h
  | some y =>
    rw [ht] at h
    simp only at h
    cases hv : numV y.1 with
    | none => rw [hv] at h; cases h
    | some v =>
      rw [hv] at h
      have := Option.some.inj h
      subst this
      have := numF_lt _ _ _ hv
      rw [fix0_len, tk_len ht] at this
      simpa using this
theorem mF_b (w : List UInt8) : ∀ (m i : Nat) (v : Int), mF w i m = some v → (i : Int) + 1 ≤ v ∧ v ≤ i + m
  | 0, i, v, h => by cases h
  | m + 1, i, v, h => by
    unfold mF at h
    split at h
    · have := Option.some.inj h; omega
    · have := mF_b w m (i + 1) v h; omega
theorem mon_b {l : List UInt8} {x : Int × List UInt8} (h : monR l = some x) : 1 ≤ x.1 ∧ x.1 ≤ 12 := by
  unfold monR at h
  cases ht : tkR 3 l with
  | none => rw [ht] at h; cases h
  | some y =>
    rw [ht] at h
    simp only at h
    cases hv : monV y.1 with
    | none => rw [hv] at h; cases h
    | some v =>
      rw [hv] at h
      have := Option.some.inj h
      subst this
      have := mF_b _ _ _ _ hv
      simp only; omega
abbrev Tm := Nat × Nat × Nat
def clkR (l : List UInt8) : Option (Tm × List UInt8) :=
  (numR 2 l).bind fun a => (tkR 1 a.2).bind fun b => (numR 2 b.2).bind fun c => (tkR 1 c.2).bind fun d => (numR 2 d.2).bind fun e => some ((a.1, c.1, e.1), e.2)
theorem rclock {W : World} {p q : Nat} {l : List UInt8} {y m d h mi s w : Value} : CnP Tryd.prog 54 [.pointer (some ⟨p, 0, none⟩), .pointer (some ⟨q, 0, none⟩)] W [IsRd p l, pt q (.cells #[y, m, d, h, mi, s, w] 107)]
    (fun x : Sm (clkR l) => .tuple #[]) (fun x => [IsRd p x.1.2, pt q (.cells #[y, m, d, .int .i64 (x.1.1.1 : Int), .int .i64 (x.1.1.2.1 : Int), .int .i64 (x.1.1.2.2 : Int), w] 107)]) (fun _ : Nn (clkR l) => pnD) (fun _ => []) := by
  (refine S.dates_reader_clock_cnP fun F => ?_; unfold S.dates_reader_clock; simp only [List.cons_append, List.nil_append, -eq_self])
  (refine' e_callP (number (k := 2) (by omega)) ?hp (fun _ => ?_) (fun _ => ?_); (case hp => (repeat (first | exact Picks.nil | (apply Picks.cons; (focus (repeat constructor)))))); (all_goals (try simp only [List.cons_append, List.nil_append, Bool.not_true, Bool.not_false, -eq_self])))
  rotate_left
  · rename_i y
    refine e_pan ⟨(), by simp [clkR, y.2]⟩ rfl ?_
    (repeat (first | exact Imp.refl | exact Imp.nil | (apply Imp.pick; (focus ((repeat constructor); done))) | refine Imp.drop ?_))
  rename_i x1
  obtain ⟨x1, h1⟩ := x1
  (((with_reducible refine e_opN v_nil Imp.nil ?_))); (((with_reducible refine e_opN v_fa0 Imp.nil ?_))); (((with_reducible refine' e_stN ?hp ?ho ?_); (case hp => (repeat constructor)); (case ho => (repeat (first | exact Put.here | apply Put.there)))))
  (refine' e_callP (take (k := 1)) ?hp (fun _ => ?_) (fun _ => ?_); (case hp => (repeat (first | exact Picks.nil | (apply Picks.cons; (focus (repeat constructor)))))); (all_goals (try simp only [List.cons_append, List.nil_append, Bool.not_true, Bool.not_false, -eq_self])))
  rotate_left
  · rename_i y
    refine e_pan ⟨(), by simp [clkR, h1, y.2]⟩ rfl ?_
    (repeat (first | exact Imp.refl | exact Imp.nil | (apply Imp.pick; (focus ((repeat constructor); done))) | refine Imp.drop ?_))
  rename_i x2
  obtain ⟨x2, h2⟩ := x2
  (refine' e_callP (number (k := 2) (by omega)) ?hp (fun _ => ?_) (fun _ => ?_); (case hp => (repeat (first | exact Picks.nil | (apply Picks.cons; (focus (repeat constructor)))))); (all_goals (try simp only [List.cons_append, List.nil_append, Bool.not_true, Bool.not_false, -eq_self])))
  rotate_left
  · rename_i y
    refine e_pan ⟨(), by simp [clkR, h1, h2, y.2]⟩ rfl ?_
    (repeat (first | exact Imp.refl | exact Imp.nil | (apply Imp.pick; (focus ((repeat constructor); done))) | refine Imp.drop ?_))
  rename_i x3
  obtain ⟨x3, h3⟩ := x3
  (((with_reducible refine e_opN v_nil Imp.nil ?_))); (((with_reducible refine e_opN v_fa0 Imp.nil ?_))); (((with_reducible refine' e_stN ?hp ?ho ?_); (case hp => (repeat constructor)); (case ho => (repeat (first | exact Put.here | apply Put.there)))))
  (refine' e_callP (take (k := 1)) ?hp (fun _ => ?_) (fun _ => ?_); (case hp => (repeat (first | exact Picks.nil | (apply Picks.cons; (focus (repeat constructor)))))); (all_goals (try simp only [List.cons_append, List.nil_append, Bool.not_true, Bool.not_false, -eq_self])))
  rotate_left
  · rename_i y
    refine e_pan ⟨(), by simp [clkR, h1, h2, h3, y.2]⟩ rfl ?_
    (repeat (first | exact Imp.refl | exact Imp.nil | (apply Imp.pick; (focus ((repeat constructor); done))) | refine Imp.drop ?_))
  rename_i x4
  obtain ⟨x4, h4⟩ := x4
  (refine' e_callP (number (k := 2) (by omega)) ?hp (fun _ => ?_) (fun _ => ?_); (case hp => (repeat (first | exact Picks.nil | (apply Picks.cons; (focus (repeat constructor)))))); (all_goals (try simp only [List.cons_append, List.nil_append, Bool.not_true, Bool.not_false, -eq_self])))
  rotate_left
  · rename_i y
    refine e_pan ⟨(), by simp [clkR, h1, h2, h3, h4, y.2]⟩ rfl ?_
    (repeat (first | exact Imp.refl | exact Imp.nil | (apply Imp.pick; (focus ((repeat constructor); done))) | refine Imp.drop ?_))
  rename_i x5
  obtain ⟨x5, h5⟩ := x5
  (((with_reducible refine e_opN v_nil Imp.nil ?_))); (((with_reducible refine e_opN v_fa0 Imp.nil ?_))); (((with_reducible refine' e_stN ?hp ?ho ?_); (case hp => (repeat constructor)); (case ho => (repeat (first | exact Put.here | apply Put.there)))))
  (first | refine e_ret (⟨((x1.1, x3.1, x5.1), x5.2), by simp [clkR, h1, h2, h3, h4, h5]⟩) rfl ?_ | refine e_retT (⟨((x1.1, x3.1, x5.1), x5.2), by simp [clkR, h1, h2, h3, h4, h5]⟩) ?_)
  (repeat (first | exact Imp.refl | exact Imp.nil | (apply Imp.pick; (focus ((repeat constructor); done))) | refine Imp.drop ?_))
end Go.Proofs.YtcmpkkkigmheoaaDoor.D
/-! What reads the first form, the third. No conditions but those that each names. -/
namespace Go.Proofs.YtcmpkkkigmheoaaDoor.D
open Go Go.Proofs Go.RowKit Go.Proofs.YtcmpkkkigmheoaaDoor.Sh Go.Proofs.YtcmpkkkigmheoaaDoor.Sl Go.Proofs.YtcmpkkkigmheoaaDoor.T
def firstR (l : List UInt8) : Option Dt := (tkR 5 l).bind fun a => (numR 2 a.2).bind fun b => (tkR 1 b.2).bind fun c => (monR c.2).bind fun d => (tkR 1 d.2).bind fun e => (numR 4 e.2).bind fun f => (tkR 1 f.2).bind fun g => (clkR g.2).bind fun h => some ⟨(f.1 : Int), d.1, (b.1 : Int), (h.1.1 : Int), (h.1.2.1 : Int), (h.1.2.2 : Int), 0⟩
theorem first {W : World} {p : Nat} {l : List UInt8} {now : Int} : CnP Tryd.prog 39 [.pointer (some ⟨p, 0, none⟩), .int .i64 now] W [IsRd p l]
    (fun x : Sm (firstR l) => .agg (dtA x.1)) (fun _ => []) (fun _ : Nn (firstR l) => pnD) (fun _ => []) := by
  (refine S.dates_reader_first_cnP fun F => ?_; unfold S.dates_reader_first; simp only [List.cons_append, List.nil_append, -eq_self])
  (((with_reducible refine e_newA fun g => ?_)))
  (refine' e_callP (take (k := 5)) ?hp (fun _ => ?_) (fun _ => ?_); (case hp => (repeat (first | exact Picks.nil | (apply Picks.cons; (focus (repeat constructor)))))); (all_goals (try simp only [List.cons_append, List.nil_append, Bool.not_true, Bool.not_false, -eq_self])))
  rotate_left
  · rename_i y
    refine e_pan ⟨(), by simp [firstR, y.2]⟩ rfl ?_
    (repeat (first | exact Imp.refl | exact Imp.nil | (apply Imp.pick; (focus ((repeat constructor); done))) | refine Imp.drop ?_))
  rename_i x1
  obtain ⟨x1, h1⟩ := x1
  (refine' e_callP (number (k := 2) (by omega)) ?hp (fun _ => ?_) (fun _ => ?_); (case hp => (repeat (first | exact Picks.nil | (apply Picks.cons; (focus (repeat constructor)))))); (all_goals (try simp only [List.cons_append, List.nil_append, Bool.not_true, Bool.not_false, -eq_self])))
  rotate_left
  · rename_i y
    refine e_pan ⟨(), by simp [firstR, h1, y.2]⟩ rfl ?_
    (repeat (first | exact Imp.refl | exact Imp.nil | (apply Imp.pick; (focus ((repeat constructor); done))) | refine Imp.drop ?_))
  rename_i x2
  obtain ⟨x2, h2⟩ := x2
  (((with_reducible refine e_opN v_fa0 Imp.nil ?_))); (((with_reducible refine' e_stN ?hp ?ho ?_); (case hp => (repeat constructor)); (case ho => (repeat (first | exact Put.here | apply Put.there)))))
  (refine' e_callP (take (k := 1)) ?hp (fun _ => ?_) (fun _ => ?_); (case hp => (repeat (first | exact Picks.nil | (apply Picks.cons; (focus (repeat constructor)))))); (all_goals (try simp only [List.cons_append, List.nil_append, Bool.not_true, Bool.not_false, -eq_self])))
  rotate_left
  · rename_i y
    refine e_pan ⟨(), by simp [firstR, h1, h2, y.2]⟩ rfl ?_
    (repeat (first | exact Imp.refl | exact Imp.nil | (apply Imp.pick; (focus ((repeat constructor); done))) | refine Imp.drop ?_))
  rename_i x3
  obtain ⟨x3, h3⟩ := x3
  (refine' e_callP (month) ?hp (fun _ => ?_) (fun _ => ?_); (case hp => (repeat (first | exact Picks.nil | (apply Picks.cons; (focus (repeat constructor)))))); (all_goals (try simp only [List.cons_append, List.nil_append, Bool.not_true, Bool.not_false, -eq_self])))
  rotate_left
  · rename_i y
    refine e_pan ⟨(), by simp [firstR, h1, h2, h3, y.2]⟩ rfl ?_
    (repeat (first | exact Imp.refl | exact Imp.nil | (apply Imp.pick; (focus ((repeat constructor); done))) | refine Imp.drop ?_))
  rename_i x4
  obtain ⟨x4, h4⟩ := x4
  (((with_reducible refine e_opN v_fa0 Imp.nil ?_))); (((with_reducible refine' e_stN ?hp ?ho ?_); (case hp => (repeat constructor)); (case ho => (repeat (first | exact Put.here | apply Put.there)))))
  (refine' e_callP (take (k := 1)) ?hp (fun _ => ?_) (fun _ => ?_); (case hp => (repeat (first | exact Picks.nil | (apply Picks.cons; (focus (repeat constructor)))))); (all_goals (try simp only [List.cons_append, List.nil_append, Bool.not_true, Bool.not_false, -eq_self])))
  rotate_left
  · rename_i y
    refine e_pan ⟨(), by simp [firstR, h1, h2, h3, h4, y.2]⟩ rfl ?_
    (repeat (first | exact Imp.refl | exact Imp.nil | (apply Imp.pick; (focus ((repeat constructor); done))) | refine Imp.drop ?_))
  rename_i x5
  obtain ⟨x5, h5⟩ := x5
  (refine' e_callP (number (k := 4) (by omega)) ?hp (fun _ => ?_) (fun _ => ?_); (case hp => (repeat (first | exact Picks.nil | (apply Picks.cons; (focus (repeat constructor)))))); (all_goals (try simp only [List.cons_append, List.nil_append, Bool.not_true, Bool.not_false, -eq_self])))
  rotate_left
  · rename_i y
    refine e_pan ⟨(), by simp [firstR, h1, h2, h3, h4, h5, y.2]⟩ rfl ?_
    (repeat (first | exact Imp.refl | exact Imp.nil | (apply Imp.pick; (focus ((repeat constructor); done))) | refine Imp.drop ?_))
  rename_i x6
  obtain ⟨x6, h6⟩ := x6
  (((with_reducible refine e_opN v_fa0 Imp.nil ?_))); (((with_reducible refine' e_stN ?hp ?ho ?_); (case hp => (repeat constructor)); (case ho => (repeat (first | exact Put.here | apply Put.there)))))
  (refine' e_callP (take (k := 1)) ?hp (fun _ => ?_) (fun _ => ?_); (case hp => (repeat (first | exact Picks.nil | (apply Picks.cons; (focus (repeat constructor)))))); (all_goals (try simp only [List.cons_append, List.nil_append, Bool.not_true, Bool.not_false, -eq_self])))
  rotate_left
  · rename_i y
    refine e_pan ⟨(), by simp [firstR, h1, h2, h3, h4, h5, h6, y.2]⟩ rfl ?_
    (repeat (first | exact Imp.refl | exact Imp.nil | (apply Imp.pick; (focus ((repeat constructor); done))) | refine Imp.drop ?_))
  rename_i x7
  obtain ⟨x7, h7⟩ := x7
  (refine' e_callP (rclock) ?hp (fun _ => ?_) (fun _ => ?_); (case hp => (repeat (first | exact Picks.nil | (apply Picks.cons; (focus (repeat constructor)))))); (all_goals (try simp only [List.cons_append, List.nil_append, Bool.not_true, Bool.not_false, -eq_self])))
  rotate_left
  · rename_i y
    refine e_pan ⟨(), by simp [firstR, h1, h2, h3, h4, h5, h6, h7, y.2]⟩ rfl ?_
    (repeat (first | exact Imp.refl | exact Imp.nil | (apply Imp.pick; (focus ((repeat constructor); done))) | refine Imp.drop ?_))
  rename_i x8
  obtain ⟨x8, h8⟩ := x8
  (((with_reducible refine' e_opN (v_ldAgg ?hn) ?hi ?_); (case hi => (repeat (first | exact Imp.refl | exact Imp.nil | (apply Imp.pick; (focus ((repeat constructor); done))) | refine Imp.drop ?_))); (case hn => rfl))); (((with_reducible refine' e_stAgg ?hp ?hn ?hv ?h1 ?_); (case hp => (repeat constructor)); (case hn => rfl); (case hv => rfl); (case h1 => simp [Value.oneCell']))); (((with_reducible refine' e_stS (v_resA ?hn) ?hi ?_); (case hi => (repeat (first | exact Imp.refl | exact Imp.nil | (apply Imp.pick; (focus ((repeat constructor); done))) | refine Imp.drop ?_))); (case hn => rfl)))
  (first | refine e_ret (⟨⟨(x6.1 : Int), x4.1, (x2.1 : Int), (x8.1.1 : Int), (x8.1.2.1 : Int), (x8.1.2.2 : Int), 0⟩, by simp [firstR, h1, h2, h3, h4, h5, h6, h7, h8]⟩) rfl ?_ | refine e_retT (⟨⟨(x6.1 : Int), x4.1, (x2.1 : Int), (x8.1.1 : Int), (x8.1.2.1 : Int), (x8.1.2.2 : Int), 0⟩, by simp [firstR, h1, h2, h3, h4, h5, h6, h7, h8]⟩) ?_)
  (repeat (first | exact Imp.refl | exact Imp.nil | (apply Imp.pick; (focus ((repeat constructor); done))) | refine Imp.drop ?_))
def thirdR (l : List UInt8) : Option Dt := (tkR 4 l).bind fun a => (monR a.2).bind fun b => (tkR 1 b.2).bind fun c => (numR 2 c.2).bind fun d => (tkR 1 d.2).bind fun e => (clkR e.2).bind fun f => (tkR 1 f.2).bind fun g => (numR 4 g.2).bind fun h => some ⟨(h.1 : Int), b.1, (d.1 : Int), (f.1.1 : Int), (f.1.2.1 : Int), (f.1.2.2 : Int), 0⟩
theorem third {W : World} {p : Nat} {l : List UInt8} {now : Int} : CnP Tryd.prog 41 [.pointer (some ⟨p, 0, none⟩), .int .i64 now] W [IsRd p l]
    (fun x : Sm (thirdR l) => .agg (dtA x.1)) (fun _ => []) (fun _ : Nn (thirdR l) => pnD) (fun _ => []) := by
  (refine S.dates_reader_third_cnP fun F => ?_; unfold S.dates_reader_third; simp only [List.cons_append, List.nil_append, -eq_self])
  (((with_reducible refine e_newA fun g => ?_)))
  (refine' e_callP (take (k := 4)) ?hp (fun _ => ?_) (fun _ => ?_); (case hp => (repeat (first | exact Picks.nil | (apply Picks.cons; (focus (repeat constructor)))))); (all_goals (try simp only [List.cons_append, List.nil_append, Bool.not_true, Bool.not_false, -eq_self])))
  rotate_left
  · rename_i y
    refine e_pan ⟨(), by simp [thirdR, y.2]⟩ rfl ?_
    (repeat (first | exact Imp.refl | exact Imp.nil | (apply Imp.pick; (focus ((repeat constructor); done))) | refine Imp.drop ?_))
  rename_i x1
  obtain ⟨x1, h1⟩ := x1
  (refine' e_callP (month) ?hp (fun _ => ?_) (fun _ => ?_); (case hp => (repeat (first | exact Picks.nil | (apply Picks.cons; (focus (repeat constructor)))))); (all_goals (try simp only [List.cons_append, List.nil_append, Bool.not_true, Bool.not_false, -eq_self])))
  rotate_left
  · rename_i y
    refine e_pan ⟨(), by simp [thirdR, h1, y.2]⟩ rfl ?_
    (repeat (first | exact Imp.refl | exact Imp.nil | (apply Imp.pick; (focus ((repeat constructor); done))) | refine Imp.drop ?_))
  rename_i x2
  obtain ⟨x2, h2⟩ := x2
  (((with_reducible refine e_opN v_fa0 Imp.nil ?_))); (((with_reducible refine' e_stN ?hp ?ho ?_); (case hp => (repeat constructor)); (case ho => (repeat (first | exact Put.here | apply Put.there)))))
  (refine' e_callP (take (k := 1)) ?hp (fun _ => ?_) (fun _ => ?_); (case hp => (repeat (first | exact Picks.nil | (apply Picks.cons; (focus (repeat constructor)))))); (all_goals (try simp only [List.cons_append, List.nil_append, Bool.not_true, Bool.not_false, -eq_self])))
  rotate_left
  · rename_i y
    refine e_pan ⟨(), by simp [thirdR, h1, h2, y.2]⟩ rfl ?_
    (repeat (first | exact Imp.refl | exact Imp.nil | (apply Imp.pick; (focus ((repeat constructor); done))) | refine Imp.drop ?_))
  rename_i x3
  obtain ⟨x3, h3⟩ := x3
  (refine' e_callP (number (k := 2) (by omega)) ?hp (fun _ => ?_) (fun _ => ?_); (case hp => (repeat (first | exact Picks.nil | (apply Picks.cons; (focus (repeat constructor)))))); (all_goals (try simp only [List.cons_append, List.nil_append, Bool.not_true, Bool.not_false, -eq_self])))
  rotate_left
  · rename_i y
    refine e_pan ⟨(), by simp [thirdR, h1, h2, h3, y.2]⟩ rfl ?_
    (repeat (first | exact Imp.refl | exact Imp.nil | (apply Imp.pick; (focus ((repeat constructor); done))) | refine Imp.drop ?_))
  rename_i x4
  obtain ⟨x4, h4⟩ := x4
  (((with_reducible refine e_opN v_fa0 Imp.nil ?_))); (((with_reducible refine' e_stN ?hp ?ho ?_); (case hp => (repeat constructor)); (case ho => (repeat (first | exact Put.here | apply Put.there)))))
  (refine' e_callP (take (k := 1)) ?hp (fun _ => ?_) (fun _ => ?_); (case hp => (repeat (first | exact Picks.nil | (apply Picks.cons; (focus (repeat constructor)))))); (all_goals (try simp only [List.cons_append, List.nil_append, Bool.not_true, Bool.not_false, -eq_self])))
  rotate_left
  · rename_i y
    refine e_pan ⟨(), by simp [thirdR, h1, h2, h3, h4, y.2]⟩ rfl ?_
    (repeat (first | exact Imp.refl | exact Imp.nil | (apply Imp.pick; (focus ((repeat constructor); done))) | refine Imp.drop ?_))
  rename_i x5
  obtain ⟨x5, h5⟩ := x5
  (refine' e_callP (rclock) ?hp (fun _ => ?_) (fun _ => ?_); (case hp => (repeat (first | exact Picks.nil | (apply Picks.cons; (focus (repeat constructor)))))); (all_goals (try simp only [List.cons_append, List.nil_append, Bool.not_true, Bool.not_false, -eq_self])))
  rotate_left
  · rename_i y
    refine e_pan ⟨(), by simp [thirdR, h1, h2, h3, h4, h5, y.2]⟩ rfl ?_
    (repeat (first | exact Imp.refl | exact Imp.nil | (apply Imp.pick; (focus ((repeat constructor); done))) | refine Imp.drop ?_))
  rename_i x6
  obtain ⟨x6, h6⟩ := x6
  (refine' e_callP (take (k := 1)) ?hp (fun _ => ?_) (fun _ => ?_); (case hp => (repeat (first | exact Picks.nil | (apply Picks.cons; (focus (repeat constructor)))))); (all_goals (try simp only [List.cons_append, List.nil_append, Bool.not_true, Bool.not_false, -eq_self])))
  rotate_left
  · rename_i y
    refine e_pan ⟨(), by simp [thirdR, h1, h2, h3, h4, h5, h6, y.2]⟩ rfl ?_
    (repeat (first | exact Imp.refl | exact Imp.nil | (apply Imp.pick; (focus ((repeat constructor); done))) | refine Imp.drop ?_))
  rename_i x7
  obtain ⟨x7, h7⟩ := x7
  (refine' e_callP (number (k := 4) (by omega)) ?hp (fun _ => ?_) (fun _ => ?_); (case hp => (repeat (first | exact Picks.nil | (apply Picks.cons; (focus (repeat constructor)))))); (all_goals (try simp only [List.cons_append, List.nil_append, Bool.not_true, Bool.not_false, -eq_self])))
  rotate_left
  · rename_i y
    refine e_pan ⟨(), by simp [thirdR, h1, h2, h3, h4, h5, h6, h7, y.2]⟩ rfl ?_
    (repeat (first | exact Imp.refl | exact Imp.nil | (apply Imp.pick; (focus ((repeat constructor); done))) | refine Imp.drop ?_))
  rename_i x8
  obtain ⟨x8, h8⟩ := x8
  (((with_reducible refine e_opN v_fa0 Imp.nil ?_))); (((with_reducible refine' e_stN ?hp ?ho ?_); (case hp => (repeat constructor)); (case ho => (repeat (first | exact Put.here | apply Put.there))))); (((with_reducible refine' e_opN (v_ldAgg ?hn) ?hi ?_); (case hi => (repeat (first | exact Imp.refl | exact Imp.nil | (apply Imp.pick; (focus ((repeat constructor); done))) | refine Imp.drop ?_))); (case hn => rfl))); (((with_reducible refine' e_stAgg ?hp ?hn ?hv ?h1 ?_); (case hp => (repeat constructor)); (case hn => rfl); (case hv => rfl); (case h1 => simp [Value.oneCell']))); (((with_reducible refine' e_stS (v_resA ?hn) ?hi ?_); (case hi => (repeat (first | exact Imp.refl | exact Imp.nil | (apply Imp.pick; (focus ((repeat constructor); done))) | refine Imp.drop ?_))); (case hn => rfl)))
  (first | refine e_ret (⟨⟨(x8.1 : Int), x2.1, (x4.1 : Int), (x6.1.1 : Int), (x6.1.2.1 : Int), (x6.1.2.2 : Int), 0⟩, by simp [thirdR, h1, h2, h3, h4, h5, h6, h7, h8]⟩) rfl ?_ | refine e_retT (⟨⟨(x8.1 : Int), x2.1, (x4.1 : Int), (x6.1.1 : Int), (x6.1.2.1 : Int), (x6.1.2.2 : Int), 0⟩, by simp [thirdR, h1, h2, h3, h4, h5, h6, h7, h8]⟩) ?_)
  (repeat (first | exact Imp.refl | exact Imp.nil | (apply Imp.pick; (focus ((repeat constructor); done))) | refine Imp.drop ?_))
end Go.Proofs.YtcmpkkkigmheoaaDoor.D
/-! What reads the second form. No conditions but those that each names. -/
namespace Go.Proofs.YtcmpkkkigmheoaaDoor.D
open Go Go.Proofs Go.RowKit Go.Proofs.YtcmpkkkigmheoaaDoor.Sh Go.Proofs.YtcmpkkkigmheoaaDoor.Sl Go.Proofs.YtcmpkkkigmheoaaDoor.T
def cI (l : List UInt8) : Nat := (l ++ [44]).findIdx (· == 44)
theorem cI_le (l : List UInt8) : cI l ≤ l.length := by
  have : (l ++ [44]).findIdx (· == 44) < (l ++ [44]).length := List.findIdx_lt_length_of_exists ⟨44, by simp, by simp⟩
  rw [List.length_append, List.length_singleton] at this
  unfold cI; omega
def yN (now : Int) : Int := if okT now then (spD now).y else 1970
def topY (now : Int) : Int := if 9999 < yN now + 50 then 9999 else yN now + 50
def secY (now : Int) (two : Nat) : Int := topY now - (topY now - (two : Int) + 10000) % 100
theorem yN_b (now : Int) : 0 ≤ yN now ∧ yN now ≤ 9999 := by
  unfold yN
  split
  · rename_i h; exact (ok_sp h).y
  · omega
def secondR (now : Int) (l : List UInt8) : Option Dt := (tkR (cI l + 2) l).bind fun a => (numR 2 a.2).bind fun b => (tkR 1 b.2).bind fun c => (monR c.2).bind fun d => (tkR 1 d.2).bind fun e => (numR 2 e.2).bind fun f => (tkR 1 f.2).bind fun g => (clkR g.2).bind fun h => some ⟨secY now f.1, d.1, (b.1 : Int), (h.1.1 : Int), (h.1.2.1 : Int), (h.1.2.2 : Int), 0⟩
theorem second {W : World} {p : Nat} {l : List UInt8} {now : Int} (hl : l.length ≤ 4611686018427387904) : CnP Tryd.prog 40 [.pointer (some ⟨p, 0, none⟩), .int .i64 now] W [IsRd p l]
    (fun x : Sm (secondR now l) => .agg (dtA x.1)) (fun _ => []) (fun _ : Nn (secondR now l) => pnD) (fun _ => []) := by
  (refine S.dates_reader_second_cnP fun F => ?_; unfold S.dates_reader_second; simp only [List.cons_append, List.nil_append, -eq_self])
  unfold IsRd
  (((with_reducible refine e_newA fun g => ?_))); (((with_reducible refine e_opN v_nil Imp.nil ?_))); (((with_reducible refine e_opN v_fa0 Imp.nil ?_))); (((with_reducible refine' e_opN (v_ldN ?hc) ?hi ?_); (case hi => (repeat (first | exact Imp.refl | exact Imp.nil | (apply Imp.pick; (focus ((repeat constructor); done))) | refine Imp.drop ?_))); (case hc => (repeat (first | exact Nth.here | apply Nth.there)))))
  rename Nat => b4
  refine e_opN (v_cat (b := [44]) (by simp only [List.length_singleton]; omega)) Imp.nil ?_
  (refine' e_call (indexByte (l := l ++ [44]) (c := 44) (by simp)) ?hp fun _ => ?_; (case hp => (repeat (first | exact Picks.nil | (apply Picks.cons; (focus (repeat constructor)))))); (try simp only [List.cons_append, List.nil_append, Bool.not_true, Bool.not_false]))
  have hci := cI_le l
  have eci : List.findIdx (fun x : UInt8 => x == 44) (l ++ [44]) = cI l := rfl
  rw [eci]
  (((with_reducible refine e_opN (v_add ?h1 ?h2) Imp.nil ?_); (case h1 => omega); (case h2 => omega)))
  rw [show ((cI l : Nat) : Int) + 2 = ((cI l + 2 : Nat) : Int) by omega]
  (refine' e_callP (take (k := cI l + 2)) ?hp (fun _ => ?_) (fun _ => ?_); (case hp => (repeat (first | exact Picks.nil | (apply Picks.cons; (focus (repeat constructor)))))); (all_goals (try simp only [List.cons_append, List.nil_append, Bool.not_true, Bool.not_false, -eq_self])))
  rotate_left
  · rename_i y
    refine e_pan ⟨(), by simp [secondR, y.2]⟩ rfl ?_
    (repeat (first | exact Imp.refl | exact Imp.nil | (apply Imp.pick; (focus ((repeat constructor); done))) | refine Imp.drop ?_))
  rename_i x1
  obtain ⟨x1, h1⟩ := x1
  (refine' e_callP (number (k := 2) (by omega)) ?hp (fun _ => ?_) (fun _ => ?_); (case hp => (repeat (first | exact Picks.nil | (apply Picks.cons; (focus (repeat constructor)))))); (all_goals (try simp only [List.cons_append, List.nil_append, Bool.not_true, Bool.not_false, -eq_self])))
  rotate_left
  · rename_i y
    refine e_pan ⟨(), by simp [secondR, h1, y.2]⟩ rfl ?_
    (repeat (first | exact Imp.refl | exact Imp.nil | (apply Imp.pick; (focus ((repeat constructor); done))) | refine Imp.drop ?_))
  rename_i x2
  obtain ⟨x2, h2⟩ := x2
  (((with_reducible refine e_opN v_fa0 Imp.nil ?_))); (((with_reducible refine' e_stN ?hp ?ho ?_); (case hp => (repeat constructor)); (case ho => (repeat (first | exact Put.here | apply Put.there)))))
  (refine' e_callP (take (k := 1)) ?hp (fun _ => ?_) (fun _ => ?_); (case hp => (repeat (first | exact Picks.nil | (apply Picks.cons; (focus (repeat constructor)))))); (all_goals (try simp only [List.cons_append, List.nil_append, Bool.not_true, Bool.not_false, -eq_self])))
  rotate_left
  · rename_i y
    refine e_pan ⟨(), by simp [secondR, h1, h2, y.2]⟩ rfl ?_
    (repeat (first | exact Imp.refl | exact Imp.nil | (apply Imp.pick; (focus ((repeat constructor); done))) | refine Imp.drop ?_))
  rename_i x3
  obtain ⟨x3, h3⟩ := x3
  (refine' e_callP (month) ?hp (fun _ => ?_) (fun _ => ?_); (case hp => (repeat (first | exact Picks.nil | (apply Picks.cons; (focus (repeat constructor)))))); (all_goals (try simp only [List.cons_append, List.nil_append, Bool.not_true, Bool.not_false, -eq_self])))
  rotate_left
  · rename_i y
    refine e_pan ⟨(), by simp [secondR, h1, h2, h3, y.2]⟩ rfl ?_
    (repeat (first | exact Imp.refl | exact Imp.nil | (apply Imp.pick; (focus ((repeat constructor); done))) | refine Imp.drop ?_))
  rename_i x4
  obtain ⟨x4, h4⟩ := x4
  (((with_reducible refine e_opN v_fa0 Imp.nil ?_))); (((with_reducible refine' e_stN ?hp ?ho ?_); (case hp => (repeat constructor)); (case ho => (repeat (first | exact Put.here | apply Put.there)))))
  (refine' e_callP (take (k := 1)) ?hp (fun _ => ?_) (fun _ => ?_); (case hp => (repeat (first | exact Picks.nil | (apply Picks.cons; (focus (repeat constructor)))))); (all_goals (try simp only [List.cons_append, List.nil_append, Bool.not_true, Bool.not_false, -eq_self])))
  rotate_left
  · rename_i y
    refine e_pan ⟨(), by simp [secondR, h1, h2, h3, h4, y.2]⟩ rfl ?_
    (repeat (first | exact Imp.refl | exact Imp.nil | (apply Imp.pick; (focus ((repeat constructor); done))) | refine Imp.drop ?_))
  rename_i x5
  obtain ⟨x5, h5⟩ := x5
  (refine' e_callP (number (k := 2) (by omega)) ?hp (fun _ => ?_) (fun _ => ?_); (case hp => (repeat (first | exact Picks.nil | (apply Picks.cons; (focus (repeat constructor)))))); (all_goals (try simp only [List.cons_append, List.nil_append, Bool.not_true, Bool.not_false, -eq_self])))
  rotate_left
  · rename_i y
    refine e_pan ⟨(), by simp [secondR, h1, h2, h3, h4, h5, y.2]⟩ rfl ?_
    (repeat (first | exact Imp.refl | exact Imp.nil | (apply Imp.pick; (focus ((repeat constructor); done))) | refine Imp.drop ?_))
  rename_i x6
  obtain ⟨x6, h6⟩ := x6
  (refine' e_callP (take (k := 1)) ?hp (fun _ => ?_) (fun _ => ?_); (case hp => (repeat (first | exact Picks.nil | (apply Picks.cons; (focus (repeat constructor)))))); (all_goals (try simp only [List.cons_append, List.nil_append, Bool.not_true, Bool.not_false, -eq_self])))
  rotate_left
  · rename_i y
    refine e_pan ⟨(), by simp [secondR, h1, h2, h3, h4, h5, h6, y.2]⟩ rfl ?_
    (repeat (first | exact Imp.refl | exact Imp.nil | (apply Imp.pick; (focus ((repeat constructor); done))) | refine Imp.drop ?_))
  rename_i x7
  obtain ⟨x7, h7⟩ := x7
  (refine' e_callP (rclock) ?hp (fun _ => ?_) (fun _ => ?_); (case hp => (repeat (first | exact Picks.nil | (apply Picks.cons; (focus (repeat constructor)))))); (all_goals (try simp only [List.cons_append, List.nil_append, Bool.not_true, Bool.not_false, -eq_self])))
  rotate_left
  · rename_i y
    refine e_pan ⟨(), by simp [secondR, h1, h2, h3, h4, h5, h6, h7, y.2]⟩ rfl ?_
    (repeat (first | exact Imp.refl | exact Imp.nil | (apply Imp.pick; (focus ((repeat constructor); done))) | refine Imp.drop ?_))
  rename_i x8
  obtain ⟨x8, h8⟩ := x8
  have hy := yN_b now
  have h2b := num_lt h6
  (try dsimp only)
  refine e_cut1 (fun z => pu (z = .int .i64 (yN now)) :: IsRd p x8.2 :: pt b4 (.cells #[.int .i64 0, .int .i64 x4.1, .int .i64 (x2.1 : Int), .int .i64 (x8.1.1 : Int), .int .i64 (x8.1.2.1 : Int), .int .i64 (x8.1.2.2 : Int), .int .i64 0] 107) :: F) ?_ ?_
  rotate_left
  · (refine' e_call (split (n := now)) ?hp fun _ => ?_; (case hp => (repeat (first | exact Picks.nil | (apply Picks.cons; (focus (repeat constructor)))))); (try simp only [List.cons_append, List.nil_append, Bool.not_true, Bool.not_false]))
    rw [show (Value.agg (dtA (spD now))) = .agg #[.int .i64 (spD now).y, .int .i64 (spD now).m, .int .i64 (spD now).d, .int .i64 (spD now).h, .int .i64 (spD now).mi, .int .i64 (spD now).s, .int .i64 (spD now).w] from rfl]
    (((with_reducible refine' e_opN (v_extN ?hc) Imp.nil ?_); (case hc => (repeat (first | exact Nth.here | apply Nth.there))))); (((with_reducible refine' e_opN (v_extN ?hc) Imp.nil ?_); (case hc => (repeat (first | exact Nth.here | apply Nth.there))))); (((with_reducible refine e_newA fun g => ?_))); (((with_reducible refine' e_stAgg ?hp ?hn ?hv ?h1 ?_); (case hp => (repeat constructor)); (case hn => rfl); (case hv => rfl); (case h1 => simp [Value.oneCell'])))
    refine e_ask v_eql Imp.nil (fun h => ?_) (fun h => ?_)
    · have ok : okT now := Decidable.byContradiction fun c => absurd (show spE now = 11 from if_neg c) (by rw [h]; decide)
      ((with_reducible refine e_condT ?_)); (((with_reducible refine e_opN v_fa0 Imp.nil ?_))); (((with_reducible refine' e_opN (v_ldN ?hc) ?hi ?_); (case hi => (repeat (first | exact Imp.refl | exact Imp.nil | (apply Imp.pick; (focus ((repeat constructor); done))) | refine Imp.drop ?_))); (case hc => (repeat (first | exact Nth.here | apply Nth.there)))))
      refine e_sat (.pu ?_ ?_)
      · unfold yN; rw [if_pos ok]
      · (repeat (first | exact Imp.refl | exact Imp.nil | (apply Imp.pick; (focus ((repeat constructor); done))) | refine Imp.drop ?_))
    · have ok : ¬ okT now := fun c => h (if_pos c)
      ((with_reducible refine e_condF ?_))
      refine e_sat (.pu ?_ ?_)
      · unfold yN; rw [if_neg ok]
      · (repeat (first | exact Imp.refl | exact Imp.nil | (apply Imp.pick; (focus ((repeat constructor); done))) | refine Imp.drop ?_))
  intro ds z
  (try simp only [List.cons_append, List.nil_append, -eq_self])
  refine e_pu .here fun h => ?_
  subst h
  (((with_reducible refine e_opN (v_add ?h1 ?h2) Imp.nil ?_); (case h1 => omega); (case h2 => omega)))
  refine e_opN v_min Imp.nil ?_
  rw [show (if 9999 < yN now + 50 then 9999 else yN now + 50) = topY now from rfl]
  have ht : 0 ≤ topY now ∧ topY now ≤ 9999 := by unfold topY; split <;> omega
  (((with_reducible refine e_opN (v_sub ?h1 ?h2) Imp.nil ?_); (case h1 => omega); (case h2 => omega))); (((with_reducible refine e_opN (v_add ?h1 ?h2) Imp.nil ?_); (case h1 => omega); (case h2 => omega))); (((with_reducible refine e_opN (v_rem ?h1 ?h2) Imp.nil ?_); (case h1 => omega); (case h2 => omega))); (((with_reducible refine e_opN (v_sub ?h1 ?h2) Imp.nil ?_); (case h1 => omega); (case h2 => omega))); (((with_reducible refine e_opN v_fa0 Imp.nil ?_))); (((with_reducible refine' e_stN ?hp ?ho ?_); (case hp => (repeat constructor)); (case ho => (repeat (first | exact Put.here | apply Put.there))))); (((with_reducible refine' e_opN (v_ldAgg ?hn) ?hi ?_); (case hi => (repeat (first | exact Imp.refl | exact Imp.nil | (apply Imp.pick; (focus ((repeat constructor); done))) | refine Imp.drop ?_))); (case hn => rfl))); (((with_reducible refine' e_stAgg ?hp ?hn ?hv ?h1 ?_); (case hp => (repeat constructor)); (case hn => rfl); (case hv => rfl); (case h1 => simp [Value.oneCell']))); (((with_reducible refine' e_stS (v_resA ?hn) ?hi ?_); (case hi => (repeat (first | exact Imp.refl | exact Imp.nil | (apply Imp.pick; (focus ((repeat constructor); done))) | refine Imp.drop ?_))); (case hn => rfl)))
  rw [show topY now - (topY now - (x6.1 : Int) + 10000) % 100 = secY now x6.1 from rfl]
  (first | refine e_ret (⟨⟨secY now x6.1, x4.1, (x2.1 : Int), (x8.1.1 : Int), (x8.1.2.1 : Int), (x8.1.2.2 : Int), 0⟩, by simp [secondR, h1, h2, h3, h4, h5, h6, h7, h8]⟩) rfl ?_ | refine e_retT (⟨⟨secY now x6.1, x4.1, (x2.1 : Int), (x8.1.1 : Int), (x8.1.2.1 : Int), (x8.1.2.2 : Int), 0⟩, by simp [secondR, h1, h2, h3, h4, h5, h6, h7, h8]⟩) ?_)
  (repeat (first | exact Imp.refl | exact Imp.nil | (apply Imp.pick; (focus ((repeat constructor); done))) | refine Imp.drop ?_))
end Go.Proofs.YtcmpkkkigmheoaaDoor.D
/-! One form tried; what is given up is no date. No conditions but those that each names. -/
namespace Go.Proofs.YtcmpkkkigmheoaaDoor.D
open Go Go.Proofs Go.RowKit Go.Proofs.YtcmpkkkigmheoaaDoor.Sh Go.Proofs.YtcmpkkkigmheoaaDoor.Sl Go.Proofs.YtcmpkkkigmheoaaDoor.T
def tryR (k now : Int) (l : List UInt8) (rd : List UInt8 → Option Dt) : Option Int := match rd l with
  | none => none
  | some x => if okF x ∧ fm k (spD (jN x)) = l then some (jN x) else none
def pT (g : Nat) : Value := .pointer (some ⟨g, 0, none⟩)
theorem tryFails {W : World} {F : List HP} {g8 g9 : Nat} {v8 v9 : Value} {K : Value → WP} {Kq : PK}
    (h : Ent W (pt g8 (.cells #[.int .i64 0] 3) :: pt g9 (.cells #[.bool false] 4) :: F) (K (.tuple #[.int .i64 0, .bool false]))) :
    Ent W (pt g8 (.cells #[v8] 3) :: pt g9 (.cells #[v9] 4) :: F)
      (KpD Tryd.prog { target := .fn (.func 57) ([.pointer (some ⟨g8, 0, none⟩), .pointer (some ⟨g9, 0, none⟩)] : List Value).toArray, args := ([] : List Value).toArray } (S.dates_try_ret (.pointer (some ⟨g8, 0, none⟩)) (.pointer (some ⟨g9, 0, none⟩)) K) Kq pnD) := by
  unfold KpD
  refine e_dfS (f := 57) (A := [.pointer (some ⟨g8, 0, none⟩), .pointer (some ⟨g9, 0, none⟩)]) (shape := fun rv => S.dates_try_1 (.pointer (some ⟨g8, 0, none⟩)) (.pointer (some ⟨g9, 0, none⟩)) rv) (fun c => by cases c) ⟨_, _, rfl⟩ (inv_closure (cs := [.pointer (some ⟨g8, 0, none⟩), .pointer (some ⟨g9, 0, none⟩)]) (bs := []) Tryd.call57) (fun h => S.dates_try_1_d h) ?_
  unfold S.dates_try_1 pnD
  rw [rec_pan, lv_pan]
  refine e_stS (v_neIf (by kernel_rfl)) Imp.nil ?_
  refine e_condT ?_
  (((with_reducible refine' e_stN ?hp ?ho ?_); (case hp => (repeat constructor)); (case ho => (repeat (first | exact Put.here | apply Put.there))))); (((with_reducible refine' e_stN ?hp ?ho ?_); (case hp => (repeat constructor)); (case ho => (repeat (first | exact Put.here | apply Put.there)))))
  unfold S.dates_try_ret
  (((with_reducible refine' e_stS (v_res1 ?hc) ?hi ?_); (case hi => (repeat (first | exact Imp.refl | exact Imp.nil | (apply Imp.pick; (focus ((repeat constructor); done))) | refine Imp.drop ?_))); (case hc => (repeat (first | exact Nth.here | apply Nth.there))))); (((with_reducible refine' e_stS (v_res1 ?hc) ?hi ?_); (case hi => (repeat (first | exact Imp.refl | exact Imp.nil | (apply Imp.pick; (focus ((repeat constructor); done))) | refine Imp.drop ?_))); (case hc => (repeat (first | exact Nth.here | apply Nth.there)))))
  exact e_imp (by (repeat (first | exact Imp.refl | exact Imp.nil | (apply Imp.pick; (focus ((repeat constructor); done))) | refine Imp.drop ?_))) h
theorem tryEnds {W : World} {F : List HP} {g8 g9 : Nat} {n : Int} {b : Bool} {K : Value → WP} {Kq : PK}
    (h : Ent W (pt g8 (.cells #[.int .i64 n] 3) :: pt g9 (.cells #[.bool b] 4) :: F) (K (.tuple #[.int .i64 n, .bool b]))) :
    Ent W (pt g8 (.cells #[.int .i64 n] 3) :: pt g9 (.cells #[.bool b] 4) :: F)
      (dfS Tryd.prog { target := .fn (.func 57) ([.pointer (some ⟨g8, 0, none⟩), .pointer (some ⟨g9, 0, none⟩)] : List Value).toArray, args := ([] : List Value).toArray } .returning (S.dates_try_ret (.pointer (some ⟨g8, 0, none⟩)) (.pointer (some ⟨g9, 0, none⟩)) K) Kq) := by
  refine e_dfS (f := 57) (A := [.pointer (some ⟨g8, 0, none⟩), .pointer (some ⟨g9, 0, none⟩)]) (shape := fun rv => S.dates_try_1 (.pointer (some ⟨g8, 0, none⟩)) (.pointer (some ⟨g9, 0, none⟩)) rv) (fun c => by cases c) ⟨_, _, rfl⟩ (inv_closure (cs := [.pointer (some ⟨g8, 0, none⟩), .pointer (some ⟨g9, 0, none⟩)]) (bs := []) Tryd.call57) (fun h => S.dates_try_1_d h) ?_
  unfold S.dates_try_1
  rw [rec_ret, lv_ret]
  refine e_stS (v_neIf0 (by kernel_rfl)) Imp.nil ?_
  refine e_condF ?_
  unfold S.dates_try_ret
  (((with_reducible refine' e_stS (v_res1 ?hc) ?hi ?_); (case hi => (repeat (first | exact Imp.refl | exact Imp.nil | (apply Imp.pick; (focus ((repeat constructor); done))) | refine Imp.drop ?_))); (case hc => (repeat (first | exact Nth.here | apply Nth.there))))); (((with_reducible refine' e_stS (v_res1 ?hc) ?hi ?_); (case hi => (repeat (first | exact Imp.refl | exact Imp.nil | (apply Imp.pick; (focus ((repeat constructor); done))) | refine Imp.drop ?_))); (case hc => (repeat (first | exact Nth.here | apply Nth.there)))))
  exact e_imp (by (repeat (first | exact Imp.refl | exact Imp.nil | (apply Imp.pick; (focus ((repeat constructor); done))) | refine Imp.drop ?_))) h
theorem jN_ok {x : Dt} (h : okF x) : okT (jN x) := by
  have hj : jN x = dayN x.y x.m x.d * 86400 + x.h * 3600 + x.mi * 60 + x.s := if_pos h
  unfold okF at h
  obtain ⟨h1, h2, h3, h4, h5, h6, _⟩ := h
  have hb : 0 ≤ dayN x.y x.m x.d := (dayN_b h1 h2 h3).1
  have ht : dayN x.y x.m x.d ≤ 2932896 := by
    unfold dayN adj
    by_cases c : x.m ≤ 2
    · rw [if_pos c]
      have e : (x.m + 9) % 12 = x.m + 9 := by omega
      rw [e]
      obtain ⟨a, ha⟩ : ∃ a, a = x.y - 1 := ⟨_, rfl⟩
      rw [← ha]
      have h1 : a / 400 ≤ 24 := by omega
      have h2 : a / 400 = 24 → a % 400 ≤ 398 := by omega
      have h3 : 0 ≤ a % 400 ∧ a % 400 ≤ 399 := by omega
      generalize a / 400 = q at *
      generalize a % 400 = t at *
      omega
    · rw [if_neg c]
      have e : (x.m + 9) % 12 = x.m - 3 := by omega
      rw [e]
      have h1 : x.y / 400 ≤ 24 := by omega
      have h3 : 0 ≤ x.y % 400 ∧ x.y % 400 ≤ 399 := by omega
      generalize x.y / 400 = q at *
      generalize x.y % 400 = t at *
      omega
  unfold okT
  rw [hj]
  omega
theorem try_ {W : World} {f : FuncId} {k now : Int} {l : List UInt8} {rd : List UInt8 → Option Dt}
    (hf : ∀ p, CnP Tryd.prog f [.pointer (some ⟨p, 0, none⟩), .int .i64 now] W [IsRd p l] (fun x : Sm (rd l) => .agg (dtA x.1)) (fun _ => []) (fun _ : Nn (rd l) => pnD) (fun _ => [])) :
    Cn Tryd.prog 42 [txt l, .int .i64 k, .int .i64 now, fn f] W [] (fun _ : Unit => .tuple #[.int .i64 ((tryR k now l rd).getD 0), .bool (tryR k now l rd).isSome]) (fun _ => []) := by
  (refine S.dates_try_cn fun F => ?_; unfold S.dates_try; simp only [List.cons_append, List.nil_append])
  refine e_new1 fun g8 => ?_
  refine e_new1 fun g9 => ?_
  refine e_opN v_mkF Imp.nil ?_
  refine e_opDf ?_
  simp only [List.nil_append, Array.append_empty, List.append_toArray]
  refine e_opN v_rv Imp.nil ?_
  refine e_boxA fun gr => ?_
  refine e_imp (M := IsRd gr l :: pt g8 (.cells #[.int .i64 0] 3) :: pt g9 (.cells #[.bool false] 4) :: F) (by unfold IsRd; (repeat (first | exact Imp.refl | exact Imp.nil | (apply Imp.pick; (focus ((repeat constructor); done))) | refine Imp.drop ?_))) ?_
  (refine' e_callP (hf gr) ?hp (fun _ => ?_) (fun _ => ?_); (case hp => (repeat (first | exact Picks.nil | (apply Picks.cons; (focus (repeat constructor)))))); (all_goals (try simp only [List.cons_append, List.nil_append, Bool.not_true, Bool.not_false, -eq_self])))
  rotate_left
  · rename_i y
    refine e_imp (by (repeat (first | exact Imp.refl | exact Imp.nil | (apply Imp.pick; (focus ((repeat constructor); done))) | refine Imp.drop ?_))) (tryFails (F := F) ?_)
    rw [show tryR k now l rd = none by unfold tryR; rw [y.2]]
    (first | refine e_ret (()) rfl ?_ | refine e_retT (()) ?_)
    (repeat (first | exact Imp.refl | exact Imp.nil | (apply Imp.pick; (focus ((repeat constructor); done))) | refine Imp.drop ?_))
  rename_i x
  obtain ⟨x, hx⟩ := x
  (try dsimp only)
  have htr : tryR k now l rd = if okF x ∧ fm k (spD (jN x)) = l then some (jN x) else none := by unfold tryR; rw [hx]
  (refine' e_call (join (x := x)) ?hp fun _ => ?_; (case hp => (repeat (first | exact Picks.nil | (apply Picks.cons; (focus (repeat constructor)))))); (try simp only [List.cons_append, List.nil_append, Bool.not_true, Bool.not_false]))
  (((with_reducible refine' e_opN (v_extN ?hc) Imp.nil ?_); (case hc => (repeat (first | exact Nth.here | apply Nth.there))))); (((with_reducible refine' e_opN (v_extN ?hc) Imp.nil ?_); (case hc => (repeat (first | exact Nth.here | apply Nth.there))))); (((with_reducible refine' e_stN ?hp ?ho ?_); (case hp => (repeat constructor)); (case ho => (repeat (first | exact Put.here | apply Put.there))))); (((with_reducible refine' e_opN (v_ldN ?hc) ?hi ?_); (case hi => (repeat (first | exact Imp.refl | exact Imp.nil | (apply Imp.pick; (focus ((repeat constructor); done))) | refine Imp.drop ?_))); (case hc => (repeat (first | exact Nth.here | apply Nth.there)))))
  (refine' e_call (split (n := jN x)) ?hp fun _ => ?_; (case hp => (repeat (first | exact Picks.nil | (apply Picks.cons; (focus (repeat constructor)))))); (try simp only [List.cons_append, List.nil_append, Bool.not_true, Bool.not_false]))
  rw [show (Value.agg (dtA (spD (jN x)))) = .agg #[.int .i64 (spD (jN x)).y, .int .i64 (spD (jN x)).m, .int .i64 (spD (jN x)).d, .int .i64 (spD (jN x)).h, .int .i64 (spD (jN x)).mi, .int .i64 (spD (jN x)).s, .int .i64 (spD (jN x)).w] from rfl]
  (((with_reducible refine' e_opN (v_extN ?hc) Imp.nil ?_); (case hc => (repeat (first | exact Nth.here | apply Nth.there))))); (((with_reducible refine' e_opN (v_extN ?hc) Imp.nil ?_); (case hc => (repeat (first | exact Nth.here | apply Nth.there))))); (((with_reducible refine e_newA fun g => ?_))); (((with_reducible refine' e_stAgg ?hp ?hn ?hv ?h1 ?_); (case hp => (repeat constructor)); (case hn => rfl); (case hv => rfl); (case h1 => simp [Value.oneCell'])))
  refine e_ask v_neq Imp.nil (fun h => ?_) (fun h => ?_)
  · have nok : ¬ okF x := fun c => h (if_pos c)
    rw [show tryR k now l rd = none by rw [htr]; exact if_neg fun c => nok c.1]
    ((with_reducible refine e_gdF1 ?_)); ((with_reducible refine e_gdF1 ?_)); ((with_reducible refine e_gdF1 ?_)); ((with_reducible refine e_gdF1 ?_)); ((with_reducible refine e_gdF1 ?_)); (((with_reducible refine e_opN v_pickT Imp.nil ?_))); ((with_reducible refine e_condT ?_)); (((with_reducible refine' e_stN ?hp ?ho ?_); (case hp => (repeat constructor)); (case ho => (repeat (first | exact Put.here | apply Put.there))))); (((with_reducible refine' e_stN ?hp ?ho ?_); (case hp => (repeat constructor)); (case ho => (repeat (first | exact Put.here | apply Put.there)))))
    refine e_imp (by (repeat (first | exact Imp.refl | exact Imp.nil | (apply Imp.pick; (focus ((repeat constructor); done))) | refine Imp.drop ?_))) (tryEnds (F := F) ?_)
    (first | refine e_ret (()) rfl ?_ | refine e_retT (()) ?_)
    (repeat (first | exact Imp.refl | exact Imp.nil | (apply Imp.pick; (focus ((repeat constructor); done))) | refine Imp.drop ?_))
  have ok : okF x := Decidable.byContradiction fun c => h (by rw [show jE x = 41 from if_neg c]; decide)
  ((with_reducible refine e_gdT ?_)); (((with_reducible refine' e_opN (v_ldAgg ?hn) ?hi ?_); (case hi => (repeat (first | exact Imp.refl | exact Imp.nil | (apply Imp.pick; (focus ((repeat constructor); done))) | refine Imp.drop ?_))); (case hn => rfl))); ((with_reducible refine e_gdT ?_)); ((with_reducible refine e_gdT ?_))
  (refine' e_call (form (x := spD (jN x)) (k := k) (ok_sp (jN_ok ok))) ?hp fun _ => ?_; (case hp => (repeat (first | exact Picks.nil | (apply Picks.cons; (focus (repeat constructor)))))); (try simp only [List.cons_append, List.nil_append, Bool.not_true, Bool.not_false]))
  ((with_reducible refine e_gdT ?_)); ((with_reducible refine e_gdT ?_))
  refine e_ask v_strne Imp.nil (fun h => ?_) (fun h => ?_)
  · rw [show tryR k now l rd = none by rw [htr]; exact if_neg fun c => h c.2]
    (((with_reducible refine e_opN v_pickF Imp.nil ?_))); ((with_reducible refine e_condT ?_)); (((with_reducible refine' e_stN ?hp ?ho ?_); (case hp => (repeat constructor)); (case ho => (repeat (first | exact Put.here | apply Put.there))))); (((with_reducible refine' e_stN ?hp ?ho ?_); (case hp => (repeat constructor)); (case ho => (repeat (first | exact Put.here | apply Put.there)))))
    refine e_imp (by (repeat (first | exact Imp.refl | exact Imp.nil | (apply Imp.pick; (focus ((repeat constructor); done))) | refine Imp.drop ?_))) (tryEnds (F := F) ?_)
    (first | refine e_ret (()) rfl ?_ | refine e_retT (()) ?_)
    (repeat (first | exact Imp.refl | exact Imp.nil | (apply Imp.pick; (focus ((repeat constructor); done))) | refine Imp.drop ?_))
  · rw [show tryR k now l rd = some (jN x) by rw [htr]; exact if_pos ⟨ok, Decidable.not_not.1 h⟩]
    (((with_reducible refine e_opN v_pickF Imp.nil ?_))); ((with_reducible refine e_condF ?_)); (((with_reducible refine' e_opN (v_ldN ?hc) ?hi ?_); (case hi => (repeat (first | exact Imp.refl | exact Imp.nil | (apply Imp.pick; (focus ((repeat constructor); done))) | refine Imp.drop ?_))); (case hc => (repeat (first | exact Nth.here | apply Nth.there))))); (((with_reducible refine' e_stN ?hp ?ho ?_); (case hp => (repeat constructor)); (case ho => (repeat (first | exact Put.here | apply Put.there))))); (((with_reducible refine' e_stN ?hp ?ho ?_); (case hp => (repeat constructor)); (case ho => (repeat (first | exact Put.here | apply Put.there)))))
    refine e_imp (by (repeat (first | exact Imp.refl | exact Imp.nil | (apply Imp.pick; (focus ((repeat constructor); done))) | refine Imp.drop ?_))) (tryEnds (F := F) ?_)
    (first | refine e_ret (()) rfl ?_ | refine e_retT (()) ?_)
    (repeat (first | exact Imp.refl | exact Imp.nil | (apply Imp.pick; (focus ((repeat constructor); done))) | refine Imp.drop ?_))
end Go.Proofs.YtcmpkkkigmheoaaDoor.D
/-! A text's time; what must come. No conditions but those that each names. -/
namespace Go.Proofs.YtcmpkkkigmheoaaDoor.D
open Go Go.Proofs Go.RowKit Go.Proofs.YtcmpkkkigmheoaaDoor.Sh Go.Proofs.YtcmpkkkigmheoaaDoor.Sl Go.Proofs.YtcmpkkkigmheoaaDoor.T
def rdK (now : Int) (k : Nat) : List UInt8 → Option Dt := if k = 0 then firstR else if k = 1 then secondR now else thirdR
def kfn (k : Nat) : FuncId := if k = 0 then 39 else if k = 1 then 40 else 41
def paF (now : Int) (l : List UInt8) (k : Nat) : Nat → Option Int
  | 0 => none
  | m + 1 => match tryR (k : Int) now l (rdK now k) with
    | some n => some n
    | none => paF now l (k + 1) m
def paR (now : Int) (l : List UInt8) : Option Int := paF now l 0 3
def paN (now : Int) (l : List UInt8) : Int := (paR now l).getD 0
def paE (now : Int) (l : List UInt8) : Int := if (paR now l).isSome then 0 else 41
theorem rdK_ok {W : World} {now : Int} {l : List UInt8} (hl : l.length ≤ 4611686018427387904) {k : Nat} (hk : k < 3) (p : Nat) : CnP Tryd.prog (kfn k) [.pointer (some ⟨p, 0, none⟩), .int .i64 now] W [IsRd p l] (fun x : Sm (rdK now k l) => .agg (dtA x.1)) (fun _ => []) (fun _ : Nn (rdK now k l) => pnD) (fun _ => []) := by
  match k, hk with
  | 0, _ => exact first
  | 1, _ => exact second hl
  | 2, _ => exact third
theorem kfn_get {k : Nat} (hk : k < 3) : (#[fn 39, fn 40, fn 41] : Array Value)[k]? = some (fn (kfn k)) := by
  match k, hk with
  | 0, _ => rfl
  | 1, _ => rfl
  | 2, _ => rfl
theorem parse {W : World} {now : Int} {l : List UInt8} (hl : l.length ≤ 4611686018427387904) : Cn Tryd.prog 28 [txt l, .int .i64 now] W [] (fun _ : Unit => .tuple #[.int .i64 (paN now l), .int .i64 (paE now l)]) (fun _ => []) := by
  (refine S.dates_Parse_cn fun F => ?_; unfold S.dates_Parse; simp only [List.cons_append, List.nil_append])
  refine e_opN v_rv Imp.nil ?_
  refine e_loop3 (fun m y6 y7 y13 => (ex fun k : Nat => pu (m + k = 3 ∧ y6 = .int .i64 0 ∧ y7 = .int .i64 41 ∧ y13 = .int .i64 (k : Int) ∧ paF now l k m = paR now l)) :: F) 3 ?_ ?_
  · refine .ex 0 (.pu ⟨by omega, rfl, rfl, rfl, rfl⟩ ?_)
    (repeat (first | exact Imp.refl | exact Imp.nil | (apply Imp.pick; (focus ((repeat constructor); done))) | refine Imp.drop ?_))
  intro m ds y6 y7 y13
  (try simp only [List.cons_append, List.nil_append, -eq_self])
  refine e_ex Pick.here fun k => e_pu Pick.here fun hi => ?_
  obtain ⟨hmk, rfl, rfl, rfl, hpa⟩ := hi
  (refine e_ask v_lss Imp.nil (fun h => ?_) (fun h => ?_))
  · refine e_condT ?_
    obtain ⟨m', rfl⟩ : ∃ m', m = m' + 1 := ⟨m - 1, by omega⟩
    refine e_opN (v_ixA (v := fn (kfn k)) k (by rfl) (by omega) (kfn_get (by omega))) Imp.nil ?_
    (refine' e_call (try_ (f := kfn k) (k := (k : Int)) (now := now) (l := l) (rd := rdK now k) (rdK_ok hl (by omega))) ?hp fun _ => ?_; (case hp => (repeat (first | exact Picks.nil | (apply Picks.cons; (focus (repeat constructor)))))); (try simp only [List.cons_append, List.nil_append, Bool.not_true, Bool.not_false]))
    unfold paF at hpa
    (((with_reducible refine' e_opN (v_extN ?hc) Imp.nil ?_); (case hc => (repeat (first | exact Nth.here | apply Nth.there))))); (((with_reducible refine' e_opN (v_extN ?hc) Imp.nil ?_); (case hc => (repeat (first | exact Nth.here | apply Nth.there)))))
    cases ht : tryR (k : Int) now l (rdK now k) with
    | some n =>
      rw [ht] at hpa
      simp only at hpa
      simp only [Option.isSome_some, Option.getD_some]
      ((with_reducible refine e_condT ?_))
      rw [show paN now l = n by unfold paN; rw [← hpa]; rfl, show paE now l = 0 by unfold paE; rw [← hpa]; rfl]
      (first | refine e_ret (()) rfl ?_ | refine e_retT (()) ?_)
      (repeat (first | exact Imp.refl | exact Imp.nil | (apply Imp.pick; (focus ((repeat constructor); done))) | refine Imp.drop ?_))
    | none =>
      rw [ht] at hpa
      simp only at hpa
      simp only [Option.isSome_none, Option.getD_none]
      ((with_reducible refine e_condF ?_)); (((with_reducible refine e_opN (v_add ?h1 ?h2) Imp.nil ?_); (case h1 => omega); (case h2 => omega)))
      refine e_next3 m' (by omega) (.ex (k + 1) (.pu ⟨by omega, rfl, rfl, rfl, hpa⟩ ?_))
      (repeat (first | exact Imp.refl | exact Imp.nil | (apply Imp.pick; (focus ((repeat constructor); done))) | refine Imp.drop ?_))
  · refine e_condF ?_
    have hm0 : m = 0 := by omega
    subst hm0
    have hpn : paR now l = none := by rw [← hpa]; rfl
    rw [show paN now l = 0 by unfold paN; rw [hpn]; rfl, show paE now l = 41 by unfold paE; rw [hpn]; rfl]
    (first | refine e_ret (()) rfl ?_ | refine e_retT (()) ?_)
    (repeat (first | exact Imp.refl | exact Imp.nil | (apply Imp.pick; (focus ((repeat constructor); done))) | refine Imp.drop ?_))
def kn1 : List UInt8 := [83, 117, 110, 100, 97, 121, 44, 32, 48, 54, 45, 78, 111, 118, 45, 57, 52, 32, 48, 56, 58, 52, 57, 58, 51, 55, 32, 71, 77, 84]
def kn2 : List UInt8 := [83, 117, 110, 44, 32, 48, 54, 32, 78, 111, 118, 32, 49, 57, 57, 52, 32, 48, 56, 58, 52, 57, 58, 51, 55, 32, 71, 77, 84]
theorem kn_f : foS 784111777 = kn2 := by kernel_rfl
theorem kn_e : spE 784111777 = 0 := by kernel_rfl
theorem kn_p : paR 784111777 kn1 = some 784111777 := by kernel_rfl
end Go.Proofs.YtcmpkkkigmheoaaDoor.D
/-! A request's conditions: tags that match, a date. Fields of together at most 2097152 bytes. -/
namespace Go.Proofs.YtcmpkkkigmheoaaDoor.FD
open Go Go.Proofs Go.RowKit Go.Proofs.YtcmpkkkigmheoaaDoor.Sh Go.Proofs.YtcmpkkkigmheoaaDoor.Sl Go.Proofs.YtcmpkkkigmheoaaDoor.T
abbrev Tg := Bool × List UInt8
/-- what a target has now -/
structure En where
  tag : Tg
  mt : Int
  has : Bool
def szF : List Fd → Nat
  | [] => 0
  | f :: r => f.1.length + f.2.length + 3 + szF r
theorem sz_app (a b : List Fd) : szF (a ++ b) = szF a + szF b := by
  induction a with
  | nil => simp [szF]
  | cons f r ih => simp [szF, ih]; omega
theorem sz_mem {l : List Fd} {f : Fd} (h : f ∈ l) : f.1.length + f.2.length + 3 ≤ szF l := by
  induction l with
  | nil => cases h
  | cons g r ih =>
    rcases List.mem_cons.1 h with rfl | h
    · simp [szF]
    · have := ih h
      simp [szF]; omega
theorem sz_len (l : List Fd) : 3 * l.length ≤ szF l := by
  induction l with
  | nil => simp [szF]
  | cons g r ih => simp [szF]; omega
theorem sz_ok {l : List Fd} (h : szF l ≤ 2097152) : hOK l := by
  refine ⟨by have := sz_len l; omega, fun f hf => ?_⟩
  have := sz_mem hf
  omega
theorem sz_filter (p : Fd → Bool) (l : List Fd) : szF (l.filter p) ≤ szF l := by
  induction l with
  | nil => simp [szF]
  | cons g r ih =>
    rw [List.filter_cons]
    split <;> simp [szF] <;> omega
theorem sum_vals (l : List Fd) (n : List UInt8) : sumL (valsF l n) + 3 * (valsF l n).length ≤ szF l := by
  unfold valsF
  induction l with
  | nil => simp [sumL, szF]
  | cons g r ih =>
    rw [List.filter_cons]
    split
    · simp [sumL, szF] at ih ⊢; omega
    · simp [szF] at ih ⊢; omega
theorem join_len (sep : List UInt8) (V : List (List UInt8)) : (joinF sep V).length ≤ sumL V + sep.length * V.length := by
  cases V with
  | nil => simp [joinF]
  | cons v r =>
    unfold joinF
    rw [List.length_append, flat_sum, sumL, List.length_cons, Nat.mul_add]
    omega
theorem sz_join {l : List Fd} {n : List UInt8} : (joinF [44] (valsF l n)).length ≤ szF l := by
  have h1 := join_len [44] (valsF l n)
  have h2 := sum_vals l n
  simp at h1
  omega
theorem first_len {l : List Fd} {n : List UInt8} : (firstF l n).1.length ≤ szF l := by
  unfold firstF
  split
  · simp
  · rename_i v r hv
    obtain ⟨f, hf, rfl⟩ := vals_mem (l := l) (n := n) (v := v) (by rw [hv]; simp)
    have := sz_mem hf
    simp only
    omega
def tgsF (alike : Tg → Bool) (l : List Fd) (n : List UInt8) (has : Bool) : Bool × Bool :=
  if valsF l n = [] then (false, false)
  else if (tagsF (joinF [44] (valsF l n))).2.2 ≠ 0 ∨ has = false then (false, true)
  else ((tagsF (joinF [44] (valsF l n))).2.1 || (tagsF (joinF [44] (valsF l n))).1.any alike, true)
def daF (l : List Fd) (n : List UInt8) (now : Int) : Int × Bool := (D.paN now (firstF l n).1, (firstF l n).2 && decide (D.paE now (firstF l n).1 = 0))
def vEn (e : En) : Value := .agg #[.bool e.tag.1, txt e.tag.2, .int .i64 e.mt, .bool e.has]
def cAsk (lk : Bool) (s : Value) (e : En) (now : Int) : Array Value := #[.bool lk, s, .bool e.tag.1, txt e.tag.2, .int .i64 e.mt, .bool e.has, .int .i64 now]
theorem ld_tag7 {W : World} {b : Nat} {lk : Bool} {s : Value} {e : En} {now : Int} {T : TypeId} : RunV Tryd.prog W [pt b (.cells (cAsk lk s e now) T (0, 0))] (sLoad 30 (.pointer (some ⟨b, 2 + 0, none⟩))) (vTag e.tag) :=
  v_ldRdG (o := 0) (j := 2) (vs := pTag e.tag) (rd_pt (cs := [.bool lk, s, .bool e.tag.1, txt e.tag.2, .int .i64 e.mt, .bool e.has, .int .i64 now]) rfl) rfl (fun i hi => by
    match i, hi with
    | 0, _ => rfl
    | 1, _ => rfl)
theorem ld_tagAt {W : World} {xs : List Tg} {i n g c : Nat} (h : i < xs.length) (hn : n = xs.length) : RunV Tryd.prog W [Sl 2 30 (some ⟨g, 0, none⟩) c n (xs.flatMap pTag)] (sLoad 30 (.pointer (some ⟨g, 0 + i * 2, none⟩))) (vTag xs[i]) := by
  subst hn
  exact v_ldRdG (vs := pTag xs[i]) (rd_slG (flat_len (f := pTag) (s := 2) (fun _ => rfl) xs) (fun _ => ⟨g, rfl⟩)) rfl (fun j hj => flat_get (f := pTag) (s := 2) (fun _ => rfl) xs i j h hj)
theorem tags_num (l : List UInt8) : (tagsF l).1.length ≤ l.length + 1 := by
  have hn := elems_num (q := true) (e := false) (l := l)
  unfold tagsF
  split
  · simp
  · cases hx : tagLF l with
    | none => simp
    | some xs =>
      have : xs.length ≤ l.length + 1 := by
        unfold tagLF listF at hx
        split at hx
        · injection hx with hx
          rw [← hx, List.length_map]
          omega
        · cases hx
      simp only
      split
      · simp
      · exact this
theorem askTags {W : World} {f : FuncId} {alike : Tg → Bool} {l : List Fd} {n : List UInt8} {a : Option Addr} {c : Nat} {lk : Bool} {e : En} {now : Int} {A : HP} (hA : RdF W A a l) (hl : szF l ≤ 2097152) (hn : n.length ≤ 4194304)
    (hone : ∀ t : Tg, Cn Tryd.prog f [vTag t, vTag e.tag] W [] (fun _ : Unit => .bool (alike t)) (fun _ => [])) :
    Cn Tryd.prog 19 [.agg (cAsk lk (.slice a l.length c) e now), txt n, fn f] W [A] (fun _ : Unit => .tuple #[.bool (tgsF alike l n e.has).1, .bool (tgsF alike l n e.has).2]) (fun _ => [A]) := by
  have hok := sz_ok hl
  have hj := sz_join (l := l) (n := n)
  have hvn := vals_len l n
  have hln := sz_len l
  (refine S.cond_asked_tags_cn fun F => ?_; unfold S.cond_asked_tags; simp only [List.cons_append, List.nil_append])
  refine e_boxA fun b3 => ?_
  refine e_opN v_fa0 Imp.nil ?_
  refine e_opN (v_ldN (.there .here)) (.pick .here .nil) ?_
  refine e_call (values hA hok hn) (.cons (.there .here) .nil) fun r => ?_
  obtain ⟨va, vc⟩ := r
  (try simp only [List.cons_append, List.nil_append, -eq_self])
  refine e_opN v_len Imp.nil ?_
  unfold tgsF
  generalize hV : valsF l n = V at hj hvn ⊢
  refine e_ask v_eql Imp.nil (fun h => ?_) (fun h => ?_)
  · have hVn : V = [] := List.eq_nil_of_length_eq_zero (by omega)
    rw [if_pos hVn]
    refine e_condT ?_
    (first | refine e_ret (()) rfl ?_ | refine e_retT (()) ?_)
    (repeat (first | exact Imp.refl | exact Imp.nil | (apply Imp.pick; (focus ((repeat constructor); done))) | refine Imp.drop ?_))
  · have hVn : ¬ V = [] := fun c => h (by rw [c]; rfl)
    rw [if_neg hVn]
    refine e_condF ?_
    refine e_call (join (sep := [44]) (V := V) (by decide) (by decide) (by omega) (by omega)) (.cons (.there .here) .nil) fun _ => ?_
    (try simp only [List.cons_append, List.nil_append, -eq_self])
    have hnum := tags_num (joinF [44] V)
    refine e_call (tags (l := joinF [44] V) (by omega)) .nil fun r => ?_
    obtain ⟨ta, tc⟩ := r
    (try simp only [List.cons_append, List.nil_append, -eq_self])
    refine e_opN (v_extN (vs := [_, _, _]) .here) Imp.nil ?_
    refine e_opN (v_extN (vs := [_, _, _]) (.there .here)) Imp.nil ?_
    refine e_opN (v_extN (vs := [_, _, _]) (.there (.there .here))) Imp.nil ?_
    generalize (tagsF (joinF [44] V)).2.2 = er
    generalize (tagsF (joinF [44] V)).2.1 = any
    generalize (tagsF (joinF [44] V)).1 = X at hnum ⊢
    refine e_opN v_neq Imp.nil ?_
    by_cases her : er = 0
    · subst her
      rw [decide_eq_false (fun c => c rfl)]
      refine e_gdT ?_
      refine e_opN v_fa0 Imp.nil ?_
      refine e_gdT ?_
      refine e_opN v_fa Imp.nil ?_
      refine e_gdT ?_
      refine e_opN (v_ld (v := .bool e.has) rfl) (.pick (by (repeat constructor)) .nil) ?_
      refine e_gdT ?_
      refine e_opN v_not Imp.nil ?_
      refine e_opN v_pickF Imp.nil ?_
      cases hh : e.has with
      | false =>
        rw [if_pos (.inr rfl)]
        refine e_condT ?_
        (first | refine e_ret (()) rfl ?_ | refine e_retT (()) ?_)
        (repeat (first | exact Imp.refl | exact Imp.nil | (apply Imp.pick; (focus ((repeat constructor); done))) | refine Imp.drop ?_))
      | true =>
        rw [if_neg (by simp)]
        refine e_condF ?_
        refine e_opN v_len Imp.nil ?_
        refine e_loop2 (fun m x y => (ex fun i : Nat => pu (m + i = X.length ∧ x = .bool (any || (X.take i).any alike) ∧ y = .int .i64 (i : Int))) :: Sl 2 30 ta tc X.length (X.flatMap pTag) :: pt b3 (.cells (cAsk lk (.slice a l.length c) e now) 50 (0, 0)) :: A :: F) X.length ?_ ?_
        · refine .ex 0 (.pu ⟨rfl, by simp, rfl⟩ ?_)
          refine .pick (by (repeat constructor)) (.pick (by (repeat constructor)) (.pick (by (repeat constructor)) ?_))
          exact .refl
        intro m ds x y
        refine e_ex .here fun i => e_pu .here fun hi => ?_
        obtain ⟨hmi, rfl, rfl⟩ := hi
        refine e_ask v_lss Imp.nil (fun h => ?_) (fun h => ?_)
        · have hil : i < X.length := by omega
          have hst : (any || (X.take (i + 1)).any alike) = ((any || (X.take i).any alike) || alike X[i]) := by
            rw [List.take_succ_eq_append_getElem hil, List.any_append]
            simp [Bool.or_assoc]
          refine e_condT ?_
          refine e_slsome (a := ta) .here (Nat.zero_lt_of_lt hil) fun g hg => ?_
          subst hg
          refine e_opN (v_ia i rfl hil) Imp.nil ?_
          refine e_opN (ld_tagAt hil rfl) (.pick (by (repeat constructor)) .nil) ?_
          refine e_newA fun b13 => ?_
          unfold vTag
          refine e_stAgg .here (by rfl) (by rfl) (by intro u hu; simp at hu; rcases hu with rfl | rfl <;> rfl) ?_
          generalize X[i] = t at hst ⊢
          cases hb : (any || (X.take i).any alike) with
          | true =>
            rw [hb, Bool.true_or] at hst
            ((with_reducible refine e_gdF1 ?_)); ((with_reducible refine e_gdF1 ?_)); ((with_reducible refine e_gdF1 ?_)); ((with_reducible refine e_gdF1 ?_)); ((with_reducible refine e_gdF1 ?_)); ((with_reducible refine e_gdF1 ?_)); (((with_reducible refine e_opN v_pickT Imp.nil ?_))); (((with_reducible refine e_opN (v_add ?h1 ?h2) Imp.nil ?_); (case h1 => omega); (case h2 => omega)))
            refine e_next2 (m - 1) (by omega) (.ex (i + 1) (.pu ⟨by omega, by rw [hst], rfl⟩ ?_))
            (repeat (first | exact Imp.refl | exact Imp.nil | (apply Imp.pick; (focus ((repeat constructor); done))) | refine Imp.drop ?_))
          | false =>
            rw [hb, Bool.false_or] at hst
            refine e_gdT ?_
            refine e_gdT ?_
            refine e_opN (v_ldAgg (cs := #[.bool t.1, txt t.2]) rfl) (.pick .here .nil) ?_
            refine e_gdT ?_
            refine e_opN v_fa0 Imp.nil ?_
            refine e_gdT ?_
            refine e_opN v_fa Imp.nil ?_
            refine e_gdT ?_
            refine e_opN ld_tag7 (.pick (by (repeat constructor)) .nil) ?_
            refine e_gdT ?_
            refine e_call (hone t) .nil fun _ => ?_
            (try simp only [List.cons_append, List.nil_append, -eq_self])
            refine e_opN v_pickF Imp.nil ?_
            refine e_opN (v_add (by omega) (by omega)) Imp.nil ?_
            refine e_next2 (m - 1) (by omega) (.ex (i + 1) (.pu ⟨by omega, by rw [hst], rfl⟩ ?_))
            (repeat (first | exact Imp.refl | exact Imp.nil | (apply Imp.pick; (focus ((repeat constructor); done))) | refine Imp.drop ?_))
        · have hie : i = X.length := by omega
          subst hie
          rw [List.take_length]
          refine e_condF ?_
          (first | refine e_ret (()) rfl ?_ | refine e_retT (()) ?_)
          (repeat (first | exact Imp.refl | exact Imp.nil | (apply Imp.pick; (focus ((repeat constructor); done))) | refine Imp.drop ?_))
    · rw [decide_eq_true her, if_pos (.inl her)]
      ((with_reducible refine e_gdF1 ?_)); ((with_reducible refine e_gdF1 ?_)); ((with_reducible refine e_gdF1 ?_)); ((with_reducible refine e_gdF1 ?_)); (((with_reducible refine e_opN v_pickT Imp.nil ?_))); ((with_reducible refine e_condT ?_))
      (first | refine e_ret (()) rfl ?_ | refine e_retT (()) ?_)
      (repeat (first | exact Imp.refl | exact Imp.nil | (apply Imp.pick; (focus ((repeat constructor); done))) | refine Imp.drop ?_))
theorem askDate {W : World} {l : List Fd} {n : List UInt8} {a : Option Addr} {c : Nat} {lk : Bool} {e : En} {now : Int} {A : HP} (hA : RdF W A a l) (hl : szF l ≤ 2097152) (hn : n.length ≤ 4194304) :
    Cn Tryd.prog 21 [.agg (cAsk lk (.slice a l.length c) e now), txt n] W [A] (fun _ : Unit => .tuple #[.int .i64 (daF l n now).1, .bool (daF l n now).2]) (fun _ => [A]) := by
  have hok := sz_ok hl
  have hfl := first_len (l := l) (n := n)
  (refine S.cond_asked_date_cn fun F => ?_; unfold S.cond_asked_date; simp only [List.cons_append, List.nil_append])
  refine e_boxA fun b3 => ?_
  refine e_opN v_fa0 Imp.nil ?_
  refine e_opN (v_ldN (.there .here)) (.pick .here .nil) ?_
  refine e_call (first hA hok hn) (.cons (.there .here) .nil) fun _ => ?_
  (try simp only [List.cons_append, List.nil_append, -eq_self])
  refine e_opN (v_extN (vs := [_, _]) .here) Imp.nil ?_
  refine e_opN (v_extN (vs := [_, _]) (.there .here)) Imp.nil ?_
  refine e_opN v_fa0 Imp.nil ?_
  refine e_opN (v_ld (v := .int .i64 now) rfl) (.pick (by (repeat constructor)) .nil) ?_
  refine e_call (D.parse (l := (firstF l n).1) (by omega)) .nil fun _ => ?_
  (try simp only [List.cons_append, List.nil_append, -eq_self])
  refine e_opN (v_extN (vs := [_, _]) .here) Imp.nil ?_
  refine e_opN (v_extN (vs := [_, _]) (.there .here)) Imp.nil ?_
  unfold daF
  cases hf : (firstF l n).2 with
  | true =>
    refine e_gdT ?_
    refine e_gdT ?_
    refine e_opN v_eql Imp.nil ?_
    refine e_opN v_pickT Imp.nil ?_
    (first | refine e_ret (()) rfl ?_ | refine e_retT (()) ?_)
    (repeat (first | exact Imp.refl | exact Imp.nil | (apply Imp.pick; (focus ((repeat constructor); done))) | refine Imp.drop ?_))
  | false =>
    ((with_reducible refine e_gdF2 ?_)); ((with_reducible refine e_gdF2 ?_)); (((with_reducible refine e_opN v_pickF Imp.nil ?_)))
    (first | refine e_ret (()) rfl ?_ | refine e_retT (()) ?_)
    (repeat (first | exact Imp.refl | exact Imp.nil | (apply Imp.pick; (focus ((repeat constructor); done))) | refine Imp.drop ?_))
end Go.Proofs.YtcmpkkkigmheoaaDoor.FD
/-! A request under conditions: both steps, all of it; whether a range may be met. Fields of together at most 2097152 bytes. -/
namespace Go.Proofs.YtcmpkkkigmheoaaDoor.FD
open Go Go.Proofs Go.RowKit Go.Proofs.YtcmpkkkigmheoaaDoor.Sh Go.Proofs.YtcmpkkkigmheoaaDoor.Sl Go.Proofs.YtcmpkkkigmheoaaDoor.T
def nIM : List UInt8 := [73, 102, 45, 77, 97, 116, 99, 104]
def nIUS : List UInt8 := [73, 102, 45, 85, 110, 109, 111, 100, 105, 102, 105, 101, 100, 45, 83, 105, 110, 99, 101]
def nINM : List UInt8 := [73, 102, 45, 78, 111, 110, 101, 45, 77, 97, 116, 99, 104]
def nIMS : List UInt8 := [73, 102, 45, 77, 111, 100, 105, 102, 105, 101, 100, 45, 83, 105, 110, 99, 101]
def nIR : List UInt8 := [73, 102, 45, 82, 97, 110, 103, 101]
def mGET : List UInt8 := [71, 69, 84]
def mHEAD : List UInt8 := [72, 69, 65, 68]
def t1F (l : List Fd) (e : En) : Bool × Bool := tgsF (fun t => strF t e.tag) l nIM e.has
def t2F (l : List Fd) (e : En) : Bool × Bool := tgsF (fun t => decide (t.2 = e.tag.2)) l nINM e.has
def st1F (l : List Fd) (e : En) (now : Int) : Int :=
  if ((t1F l e).2 && !(t1F l e).1) || (!(t1F l e).2 && ((daF l nIUS now).2 && (!e.has || decide ((daF l nIUS now).1 < e.mt)))) then 412 else 0
def st2F (lk : Bool) (l : List Fd) (e : En) (now : Int) : Int :=
  if (t2F l e).1 && !lk then 412 else if (t2F l e).1 then 304
  else if ((((!(t2F l e).2 && lk) && (daF l nIMS now).2) && decide ((daF l nIMS now).1 ≤ now)) && e.has) && decide (e.mt ≤ (daF l nIMS now).1) then 304 else 0
def cEn (e : En) : Array Value := #[.bool e.tag.1, txt e.tag.2, .int .i64 e.mt, .bool e.has]
theorem step1 {W : World} {g9 g6 : Nat} {l : List Fd} {a : Option Addr} {c : Nat} {lk : Bool} {e : En} {now : Int} {A : HP} (hA : RdF W A a l) (hl : szF l ≤ 2097152) : Cn Tryd.prog 18 [.pointer (some ⟨g9, 0, none⟩), .pointer (some ⟨g6, 0, none⟩)] W
    [pt g9 (.cells (cAsk lk (.slice a l.length c) e now) 50 (0, 0)), pt g6 (.cells (cEn e) 32 (0, 0)), A] (fun _ : Unit => .int .i64 (st1F l e now))
    (fun _ => [pt g9 (.cells (cAsk lk (.slice a l.length c) e now) 50 (0, 0)), pt g6 (.cells (cEn e) 32 (0, 0)), A]) := by
  (refine S.cond_Evaluate_1_cn fun F => ?_; unfold S.cond_Evaluate_1; simp only [List.cons_append, List.nil_append])
  refine e_opN (v_ldAgg (cs := cAsk lk (.slice a l.length c) e now) rfl) (.pick .here .nil) ?_
  refine e_call (askTags (n := nIM) (alike := fun t => strF t e.tag) hA hl (by decide) fun t => strong) (.cons (.there (.there .here)) .nil) fun _ => ?_
  (try simp only [List.cons_append, List.nil_append, -eq_self])
  refine e_opN (v_extN (vs := [_, _]) .here) Imp.nil ?_
  refine e_opN (v_extN (vs := [_, _]) (.there .here)) Imp.nil ?_
  refine e_opN (v_ldAgg (cs := cAsk lk (.slice a l.length c) e now) rfl) (.pick (by (repeat constructor)) .nil) ?_
  refine e_call (askDate (n := nIUS) hA hl (by decide)) (.cons .here .nil) fun _ => ?_
  (try simp only [List.cons_append, List.nil_append, -eq_self])
  refine e_opN (v_extN (vs := [_, _]) .here) Imp.nil ?_
  refine e_opN (v_extN (vs := [_, _]) (.there .here)) Imp.nil ?_
  unfold st1F t1F
  generalize (tgsF (fun t => strF t e.tag) l nIM e.has).1 = ok
  generalize (tgsF (fun t => strF t e.tag) l nIM e.has).2 = comes
  generalize (daF l nIUS now).1 = n
  generalize (daF l nIUS now).2 = is
  cases comes with
  | true =>
    cases ok with
    | true =>
      ((with_reducible refine e_gdT ?_)); ((with_reducible refine e_gdT ?_)); (((with_reducible refine e_opN v_notT Imp.nil ?_))); (((with_reducible refine e_opN v_pickT Imp.nil ?_))); ((with_reducible refine e_gdT ?_)); ((with_reducible refine e_gdT ?_)); (((with_reducible refine e_opN v_notT Imp.nil ?_))); ((with_reducible refine e_gdT ?_)); ((with_reducible refine e_gdF2 ?_)); ((with_reducible refine e_gdT ?_)); (((with_reducible refine e_opN v_pickF Imp.nil ?_))); ((with_reducible refine e_gdT ?_)); ((with_reducible refine e_gdF2 ?_)); ((with_reducible refine e_gdF2 ?_)); ((with_reducible refine e_gdF2 ?_)); ((with_reducible refine e_gdF2 ?_)); ((with_reducible refine e_gdU ?_)); ((with_reducible refine e_gdU ?_)); ((with_reducible refine e_gdU ?_)); ((with_reducible refine e_gdU ?_)); ((with_reducible refine e_gdF2 ?_)); ((with_reducible refine e_gdT ?_)); (((with_reducible refine e_opN v_pickF Imp.nil ?_))); (((with_reducible refine e_opN v_pickF Imp.nil ?_))); ((with_reducible refine e_condF ?_))
      (first | refine e_ret (()) rfl ?_ | refine e_retT (()) ?_)
      (repeat (first | exact Imp.refl | exact Imp.nil | (apply Imp.pick; (focus ((repeat constructor); done))) | refine Imp.drop ?_))
    | false =>
      ((with_reducible refine e_gdT ?_)); ((with_reducible refine e_gdT ?_)); (((with_reducible refine e_opN v_notF Imp.nil ?_))); (((with_reducible refine e_opN v_pickT Imp.nil ?_))); ((with_reducible refine e_gdF1 ?_)); ((with_reducible refine e_gdF1 ?_)); ((with_reducible refine e_gdF1 ?_)); ((with_reducible refine e_gdU ?_)); ((with_reducible refine e_gdF1 ?_)); ((with_reducible refine e_gdF1 ?_)); ((with_reducible refine e_gdU ?_)); ((with_reducible refine e_gdU ?_)); ((with_reducible refine e_gdU ?_)); ((with_reducible refine e_gdU ?_)); ((with_reducible refine e_gdU ?_)); ((with_reducible refine e_gdU ?_)); ((with_reducible refine e_gdU ?_)); ((with_reducible refine e_gdU ?_)); ((with_reducible refine e_gdU ?_)); ((with_reducible refine e_gdF1 ?_)); (((with_reducible refine e_opN v_pickT Imp.nil ?_))); ((with_reducible refine e_condT ?_))
      (first | refine e_ret (()) rfl ?_ | refine e_retT (()) ?_)
      (repeat (first | exact Imp.refl | exact Imp.nil | (apply Imp.pick; (focus ((repeat constructor); done))) | refine Imp.drop ?_))
  | false =>
    cases is with
    | false =>
      ((with_reducible refine e_gdF2 ?_)); ((with_reducible refine e_gdF2 ?_)); (((with_reducible refine e_opN v_pickF Imp.nil ?_))); ((with_reducible refine e_gdT ?_)); ((with_reducible refine e_gdT ?_)); (((with_reducible refine e_opN v_notF Imp.nil ?_))); ((with_reducible refine e_gdT ?_)); ((with_reducible refine e_gdT ?_)); ((with_reducible refine e_gdT ?_)); (((with_reducible refine e_opN v_pickT Imp.nil ?_))); ((with_reducible refine e_gdT ?_)); ((with_reducible refine e_gdF2 ?_)); ((with_reducible refine e_gdF2 ?_)); ((with_reducible refine e_gdF2 ?_)); ((with_reducible refine e_gdF2 ?_)); ((with_reducible refine e_gdU ?_)); ((with_reducible refine e_gdU ?_)); ((with_reducible refine e_gdU ?_)); ((with_reducible refine e_gdU ?_)); ((with_reducible refine e_gdF2 ?_)); ((with_reducible refine e_gdT ?_)); (((with_reducible refine e_opN v_pickF Imp.nil ?_))); (((with_reducible refine e_opN v_pickF Imp.nil ?_))); ((with_reducible refine e_condF ?_))
      (first | refine e_ret (()) rfl ?_ | refine e_retT (()) ?_)
      (repeat (first | exact Imp.refl | exact Imp.nil | (apply Imp.pick; (focus ((repeat constructor); done))) | refine Imp.drop ?_))
    | true =>
      ((with_reducible refine e_gdF2 ?_)); ((with_reducible refine e_gdF2 ?_)); (((with_reducible refine e_opN v_pickF Imp.nil ?_))); ((with_reducible refine e_gdT ?_)); ((with_reducible refine e_gdT ?_)); (((with_reducible refine e_opN v_notF Imp.nil ?_))); ((with_reducible refine e_gdT ?_)); ((with_reducible refine e_gdT ?_)); ((with_reducible refine e_gdT ?_)); (((with_reducible refine e_opN v_pickT Imp.nil ?_))); ((with_reducible refine e_gdT ?_)); ((with_reducible refine e_gdT ?_)); (((with_reducible refine e_opN v_fa0 Imp.nil ?_))); ((with_reducible refine e_gdT ?_)); (((with_reducible refine' e_opN (v_ldN ?hc) ?hi ?_); (case hi => (repeat (first | exact Imp.refl | exact Imp.nil | (apply Imp.pick; (focus ((repeat constructor); done))) | refine Imp.drop ?_))); (case hc => (repeat (first | exact Nth.here | apply Nth.there))))); ((with_reducible refine e_gdT ?_)); (((with_reducible refine e_opN v_not Imp.nil ?_))); ((with_reducible refine e_gdT ?_))
      cases hh : e.has with
      | false =>
        rw [show (!false) = true from rfl]
        ((with_reducible refine e_gdF1 ?_)); ((with_reducible refine e_gdF1 ?_)); ((with_reducible refine e_gdF1 ?_)); ((with_reducible refine e_gdF1 ?_)); ((with_reducible refine e_gdT ?_)); (((with_reducible refine e_opN v_pickT Imp.nil ?_))); ((with_reducible refine e_gdT ?_)); (((with_reducible refine e_opN v_pickT Imp.nil ?_))); (((with_reducible refine e_opN v_pickF Imp.nil ?_))); ((with_reducible refine e_condT ?_))
        (first | refine e_ret (()) rfl ?_ | refine e_retT (()) ?_)
        (repeat (first | exact Imp.refl | exact Imp.nil | (apply Imp.pick; (focus ((repeat constructor); done))) | refine Imp.drop ?_))
      | true =>
        rw [show (!true) = false from rfl]
        ((with_reducible refine e_gdT ?_)); (((with_reducible refine e_opN v_fa0 Imp.nil ?_))); ((with_reducible refine e_gdT ?_)); (((with_reducible refine' e_opN (v_ldN ?hc) ?hi ?_); (case hi => (repeat (first | exact Imp.refl | exact Imp.nil | (apply Imp.pick; (focus ((repeat constructor); done))) | refine Imp.drop ?_))); (case hc => (repeat (first | exact Nth.here | apply Nth.there))))); ((with_reducible refine e_gdT ?_)); ((with_reducible refine e_gdT ?_))
        refine e_opN v_gtr Imp.nil ?_
        ((with_reducible refine e_gdT ?_)); (((with_reducible refine e_opN v_pickF Imp.nil ?_))); ((with_reducible refine e_gdT ?_)); (((with_reducible refine e_opN v_pickT Imp.nil ?_))); (((with_reducible refine e_opN v_pickF Imp.nil ?_)))
        refine e_cond (φ := n < e.mt) rfl (fun h => ?_) (fun h => ?_)
        · rw [decide_eq_true h]
          (first | refine e_ret (()) rfl ?_ | refine e_retT (()) ?_)
          (repeat (first | exact Imp.refl | exact Imp.nil | (apply Imp.pick; (focus ((repeat constructor); done))) | refine Imp.drop ?_))
        · rw [decide_eq_false h]
          (first | refine e_ret (()) rfl ?_ | refine e_retT (()) ?_)
          (repeat (first | exact Imp.refl | exact Imp.nil | (apply Imp.pick; (focus ((repeat constructor); done))) | refine Imp.drop ?_))
theorem step2 {W : World} {g9 g7 g6 : Nat} {l : List Fd} {a : Option Addr} {c : Nat} {lk : Bool} {e : En} {now : Int} {A : HP} (hA : RdF W A a l) (hl : szF l ≤ 2097152) : Cn Tryd.prog 22 [.pointer (some ⟨g9, 0, none⟩), .pointer (some ⟨g7, 0, none⟩), .pointer (some ⟨g6, 0, none⟩)] W
    [pt g9 (.cells (cAsk lk (.slice a l.length c) e now) 50 (0, 0)), pt g7 (.cells #[.int .i64 now] 3 (0, 0)), pt g6 (.cells (cEn e) 32 (0, 0)), A] (fun _ : Unit => .int .i64 (st2F lk l e now))
    (fun _ => [pt g9 (.cells (cAsk lk (.slice a l.length c) e now) 50 (0, 0)), pt g7 (.cells #[.int .i64 now] 3 (0, 0)), pt g6 (.cells (cEn e) 32 (0, 0)), A]) := by
  (refine S.cond_Evaluate_2_cn fun F => ?_; unfold S.cond_Evaluate_2; simp only [List.cons_append, List.nil_append])
  refine e_opN (v_ldAgg (cs := cAsk lk (.slice a l.length c) e now) rfl) (.pick .here .nil) ?_
  refine e_call (askTags (n := nINM) (alike := fun t => decide (t.2 = e.tag.2)) hA hl (by decide) fun t => weak) (.cons (.there (.there (.there .here))) .nil) fun _ => ?_
  (try simp only [List.cons_append, List.nil_append, -eq_self])
  refine e_opN (v_extN (vs := [_, _]) .here) Imp.nil ?_
  refine e_opN (v_extN (vs := [_, _]) (.there .here)) Imp.nil ?_
  refine e_opN (v_ldAgg (cs := cAsk lk (.slice a l.length c) e now) rfl) (.pick (by (repeat constructor)) .nil) ?_
  refine e_call (askDate (n := nIMS) hA hl (by decide)) (.cons .here .nil) fun _ => ?_
  (try simp only [List.cons_append, List.nil_append, -eq_self])
  refine e_opN (v_extN (vs := [_, _]) .here) Imp.nil ?_
  refine e_opN (v_extN (vs := [_, _]) (.there .here)) Imp.nil ?_
  unfold st2F t2F
  generalize (tgsF (fun t => decide (t.2 = e.tag.2)) l nINM e.has).1 = ok
  generalize (tgsF (fun t => decide (t.2 = e.tag.2)) l nINM e.has).2 = comes
  generalize (daF l nIMS now).1 = n
  generalize (daF l nIMS now).2 = is
  cases ok with
  | true =>
    cases lk with
    | true =>
      ((with_reducible refine e_gdT ?_)); (((with_reducible refine e_opN v_fa0 Imp.nil ?_))); ((with_reducible refine e_gdT ?_)); (((with_reducible refine' e_opN (v_ldN ?hc) ?hi ?_); (case hi => (repeat (first | exact Imp.refl | exact Imp.nil | (apply Imp.pick; (focus ((repeat constructor); done))) | refine Imp.drop ?_))); (case hc => (repeat (first | exact Nth.here | apply Nth.there))))); ((with_reducible refine e_gdT ?_)); (((with_reducible refine e_opN v_notT Imp.nil ?_))); (((with_reducible refine e_opN v_pickT Imp.nil ?_))); ((with_reducible refine e_condF ?_)); ((with_reducible refine e_condT ?_)); ((with_reducible refine e_condT ?_))
      (first | refine e_ret (()) rfl ?_ | refine e_retT (()) ?_)
      (repeat (first | exact Imp.refl | exact Imp.nil | (apply Imp.pick; (focus ((repeat constructor); done))) | refine Imp.drop ?_))
    | false =>
      ((with_reducible refine e_gdT ?_)); (((with_reducible refine e_opN v_fa0 Imp.nil ?_))); ((with_reducible refine e_gdT ?_)); (((with_reducible refine' e_opN (v_ldN ?hc) ?hi ?_); (case hi => (repeat (first | exact Imp.refl | exact Imp.nil | (apply Imp.pick; (focus ((repeat constructor); done))) | refine Imp.drop ?_))); (case hc => (repeat (first | exact Nth.here | apply Nth.there))))); ((with_reducible refine e_gdT ?_)); (((with_reducible refine e_opN v_notF Imp.nil ?_))); (((with_reducible refine e_opN v_pickT Imp.nil ?_))); ((with_reducible refine e_condT ?_))
      (first | refine e_ret (()) rfl ?_ | refine e_retT (()) ?_)
      (repeat (first | exact Imp.refl | exact Imp.nil | (apply Imp.pick; (focus ((repeat constructor); done))) | refine Imp.drop ?_))
  | false =>
    cases comes with
    | true =>
      ((with_reducible refine e_gdF2 ?_)); ((with_reducible refine e_gdF2 ?_)); ((with_reducible refine e_gdF2 ?_)); (((with_reducible refine e_opN v_pickF Imp.nil ?_))); ((with_reducible refine e_condF ?_)); ((with_reducible refine e_condF ?_)); (((with_reducible refine e_opN v_notT Imp.nil ?_))); ((with_reducible refine e_gdF2 ?_)); ((with_reducible refine e_gdF2 ?_)); (((with_reducible refine e_opN v_pickF Imp.nil ?_))); ((with_reducible refine e_gdF2 ?_)); (((with_reducible refine e_opN v_pickF Imp.nil ?_))); ((with_reducible refine e_gdF2 ?_)); ((with_reducible refine e_gdF2 ?_)); ((with_reducible refine e_gdF2 ?_)); (((with_reducible refine e_opN v_pickF Imp.nil ?_))); ((with_reducible refine e_gdF2 ?_)); ((with_reducible refine e_gdF2 ?_)); (((with_reducible refine e_opN v_pickF Imp.nil ?_))); ((with_reducible refine e_gdF2 ?_)); ((with_reducible refine e_gdF2 ?_)); ((with_reducible refine e_gdF2 ?_)); ((with_reducible refine e_gdF2 ?_)); (((with_reducible refine e_opN v_pickF Imp.nil ?_))); ((with_reducible refine e_condF ?_))
      (first | refine e_ret (()) rfl ?_ | refine e_retT (()) ?_)
      (repeat (first | exact Imp.refl | exact Imp.nil | (apply Imp.pick; (focus ((repeat constructor); done))) | refine Imp.drop ?_))
    | false =>
      cases lk with
      | false =>
        ((with_reducible refine e_gdF2 ?_)); ((with_reducible refine e_gdF2 ?_)); ((with_reducible refine e_gdF2 ?_)); (((with_reducible refine e_opN v_pickF Imp.nil ?_))); ((with_reducible refine e_condF ?_)); ((with_reducible refine e_condF ?_)); (((with_reducible refine e_opN v_notF Imp.nil ?_))); ((with_reducible refine e_gdT ?_)); (((with_reducible refine e_opN v_fa0 Imp.nil ?_))); ((with_reducible refine e_gdT ?_)); (((with_reducible refine' e_opN (v_ldN ?hc) ?hi ?_); (case hi => (repeat (first | exact Imp.refl | exact Imp.nil | (apply Imp.pick; (focus ((repeat constructor); done))) | refine Imp.drop ?_))); (case hc => (repeat (first | exact Nth.here | apply Nth.there))))); (((with_reducible refine e_opN v_pickT Imp.nil ?_))); ((with_reducible refine e_gdF2 ?_)); (((with_reducible refine e_opN v_pickF Imp.nil ?_))); ((with_reducible refine e_gdF2 ?_)); ((with_reducible refine e_gdF2 ?_)); ((with_reducible refine e_gdF2 ?_)); (((with_reducible refine e_opN v_pickF Imp.nil ?_))); ((with_reducible refine e_gdF2 ?_)); ((with_reducible refine e_gdF2 ?_)); (((with_reducible refine e_opN v_pickF Imp.nil ?_))); ((with_reducible refine e_gdF2 ?_)); ((with_reducible refine e_gdF2 ?_)); ((with_reducible refine e_gdF2 ?_)); ((with_reducible refine e_gdF2 ?_)); (((with_reducible refine e_opN v_pickF Imp.nil ?_))); ((with_reducible refine e_condF ?_))
        (first | refine e_ret (()) rfl ?_ | refine e_retT (()) ?_)
        (repeat (first | exact Imp.refl | exact Imp.nil | (apply Imp.pick; (focus ((repeat constructor); done))) | refine Imp.drop ?_))
      | true =>
        cases is with
        | false =>
          ((with_reducible refine e_gdF2 ?_)); ((with_reducible refine e_gdF2 ?_)); ((with_reducible refine e_gdF2 ?_)); (((with_reducible refine e_opN v_pickF Imp.nil ?_))); ((with_reducible refine e_condF ?_)); ((with_reducible refine e_condF ?_)); (((with_reducible refine e_opN v_notF Imp.nil ?_))); ((with_reducible refine e_gdT ?_)); (((with_reducible refine e_opN v_fa0 Imp.nil ?_))); ((with_reducible refine e_gdT ?_)); (((with_reducible refine' e_opN (v_ldN ?hc) ?hi ?_); (case hi => (repeat (first | exact Imp.refl | exact Imp.nil | (apply Imp.pick; (focus ((repeat constructor); done))) | refine Imp.drop ?_))); (case hc => (repeat (first | exact Nth.here | apply Nth.there))))); (((with_reducible refine e_opN v_pickT Imp.nil ?_))); ((with_reducible refine e_gdT ?_)); (((with_reducible refine e_opN v_pickT Imp.nil ?_))); ((with_reducible refine e_gdF2 ?_)); ((with_reducible refine e_gdF2 ?_)); ((with_reducible refine e_gdF2 ?_)); (((with_reducible refine e_opN v_pickF Imp.nil ?_))); ((with_reducible refine e_gdF2 ?_)); ((with_reducible refine e_gdF2 ?_)); (((with_reducible refine e_opN v_pickF Imp.nil ?_))); ((with_reducible refine e_gdF2 ?_)); ((with_reducible refine e_gdF2 ?_)); ((with_reducible refine e_gdF2 ?_)); ((with_reducible refine e_gdF2 ?_)); (((with_reducible refine e_opN v_pickF Imp.nil ?_))); ((with_reducible refine e_condF ?_))
          (first | refine e_ret (()) rfl ?_ | refine e_retT (()) ?_)
          (repeat (first | exact Imp.refl | exact Imp.nil | (apply Imp.pick; (focus ((repeat constructor); done))) | refine Imp.drop ?_))
        | true =>
          ((with_reducible refine e_gdF2 ?_)); ((with_reducible refine e_gdF2 ?_)); ((with_reducible refine e_gdF2 ?_)); (((with_reducible refine e_opN v_pickF Imp.nil ?_))); ((with_reducible refine e_condF ?_)); ((with_reducible refine e_condF ?_)); (((with_reducible refine e_opN v_notF Imp.nil ?_))); ((with_reducible refine e_gdT ?_)); (((with_reducible refine e_opN v_fa0 Imp.nil ?_))); ((with_reducible refine e_gdT ?_)); (((with_reducible refine' e_opN (v_ldN ?hc) ?hi ?_); (case hi => (repeat (first | exact Imp.refl | exact Imp.nil | (apply Imp.pick; (focus ((repeat constructor); done))) | refine Imp.drop ?_))); (case hc => (repeat (first | exact Nth.here | apply Nth.there))))); (((with_reducible refine e_opN v_pickT Imp.nil ?_))); ((with_reducible refine e_gdT ?_)); (((with_reducible refine e_opN v_pickT Imp.nil ?_))); ((with_reducible refine e_gdT ?_)); ((with_reducible refine e_gdT ?_)); (((with_reducible refine' e_opN (v_ldN ?hc) ?hi ?_); (case hi => (repeat (first | exact Imp.refl | exact Imp.nil | (apply Imp.pick; (focus ((repeat constructor); done))) | refine Imp.drop ?_))); (case hc => (repeat (first | exact Nth.here | apply Nth.there))))); ((with_reducible refine e_gdT ?_))
          refine e_opN v_leq Imp.nil ?_
          by_cases h : n ≤ now
          · rw [decide_eq_true h]
            (((with_reducible refine e_opN v_pickT Imp.nil ?_))); ((with_reducible refine e_gdT ?_)); (((with_reducible refine e_opN v_fa0 Imp.nil ?_))); ((with_reducible refine e_gdT ?_)); (((with_reducible refine' e_opN (v_ldN ?hc) ?hi ?_); (case hi => (repeat (first | exact Imp.refl | exact Imp.nil | (apply Imp.pick; (focus ((repeat constructor); done))) | refine Imp.drop ?_))); (case hc => (repeat (first | exact Nth.here | apply Nth.there))))); (((with_reducible refine e_opN v_pickT Imp.nil ?_)))
            cases hh : e.has with
            | false =>
              ((with_reducible refine e_gdF2 ?_)); ((with_reducible refine e_gdF2 ?_)); ((with_reducible refine e_gdF2 ?_)); ((with_reducible refine e_gdF2 ?_)); (((with_reducible refine e_opN v_pickF Imp.nil ?_))); ((with_reducible refine e_condF ?_))
              (first | refine e_ret (()) rfl ?_ | refine e_retT (()) ?_)
              (repeat (first | exact Imp.refl | exact Imp.nil | (apply Imp.pick; (focus ((repeat constructor); done))) | refine Imp.drop ?_))
            | true =>
              ((with_reducible refine e_gdT ?_)); (((with_reducible refine e_opN v_fa0 Imp.nil ?_))); ((with_reducible refine e_gdT ?_)); (((with_reducible refine' e_opN (v_ldN ?hc) ?hi ?_); (case hi => (repeat (first | exact Imp.refl | exact Imp.nil | (apply Imp.pick; (focus ((repeat constructor); done))) | refine Imp.drop ?_))); (case hc => (repeat (first | exact Nth.here | apply Nth.there))))); ((with_reducible refine e_gdT ?_)); ((with_reducible refine e_gdT ?_))
              refine e_opN v_leq Imp.nil ?_
              (((with_reducible refine e_opN v_pickT Imp.nil ?_)))
              refine e_cond (φ := e.mt ≤ n) rfl (fun h => ?_) (fun h => ?_)
              · rw [decide_eq_true h]
                (first | refine e_ret (()) rfl ?_ | refine e_retT (()) ?_)
                (repeat (first | exact Imp.refl | exact Imp.nil | (apply Imp.pick; (focus ((repeat constructor); done))) | refine Imp.drop ?_))
              · rw [decide_eq_false h]
                (first | refine e_ret (()) rfl ?_ | refine e_retT (()) ?_)
                (repeat (first | exact Imp.refl | exact Imp.nil | (apply Imp.pick; (focus ((repeat constructor); done))) | refine Imp.drop ?_))
          · rw [decide_eq_false h]
            (((with_reducible refine e_opN v_pickT Imp.nil ?_))); ((with_reducible refine e_gdF2 ?_)); ((with_reducible refine e_gdF2 ?_)); (((with_reducible refine e_opN v_pickF Imp.nil ?_))); ((with_reducible refine e_gdF2 ?_)); ((with_reducible refine e_gdF2 ?_)); ((with_reducible refine e_gdF2 ?_)); ((with_reducible refine e_gdF2 ?_)); (((with_reducible refine e_opN v_pickF Imp.nil ?_))); ((with_reducible refine e_condF ?_))
            (first | refine e_ret (()) rfl ?_ | refine e_retT (()) ?_)
            (repeat (first | exact Imp.refl | exact Imp.nil | (apply Imp.pick; (focus ((repeat constructor); done))) | refine Imp.drop ?_))
end Go.Proofs.YtcmpkkkigmheoaaDoor.FD
/-! A request under conditions; an entity as the program has it. Fields of together at most 2097152 bytes. -/
namespace Go.Proofs.YtcmpkkkigmheoaaDoor.FD
open Go Go.Proofs Go.RowKit Go.Proofs.YtcmpkkkigmheoaaDoor.Sh Go.Proofs.YtcmpkkkigmheoaaDoor.Sl Go.Proofs.YtcmpkkkigmheoaaDoor.T
def lkF (m : List UInt8) : Bool := decide (m = mGET) || decide (m = mHEAD)
def evF (m : List UInt8) (l : List Fd) (e : En) (now : Int) : Int := if 0 < st1F l e now then st1F l e now else if 0 < st2F (lkF m) l e now then st2F (lkF m) l e now else 200
theorem evaluate {W : World} {m : List UInt8} {l : List Fd} {a : Option Addr} {c : Nat} {e : En} {now : Int} {A : HP} (hA : RdF W A a l) (hl : szF l ≤ 2097152) : Cn Tryd.prog 8 [txt m, .slice a l.length c, vEn e, .int .i64 now] W
    [A] (fun _ : Unit => .int .i64 (evF m l e now)) (fun _ => [A]) := by
  (refine S.cond_Evaluate_cn fun F => ?_; unfold S.cond_Evaluate; simp only [List.cons_append, List.nil_append])
  unfold vEn
  refine e_boxA fun g6 => ?_
  refine e_box1 fun g7 => ?_
  refine e_opN (v_streq (m := mGET)) Imp.nil ?_
  refine e_or1 (fun _ => v_streq (m := mHEAD)) ?_
  refine e_opN (v_ldAgg (cs := cEn e) rfl) (.pick (by (repeat constructor)) .nil) ?_
  refine e_opN (v_ldN .here) (.pick .here .nil) ?_
  unfold cEn
  refine e_opN v_rv Imp.nil ?_
  refine e_newA fun g9 => ?_
  refine e_stAgg .here (by rfl) (by rfl) (by intro u hu; simp at hu; rcases hu with rfl | rfl | rfl | rfl | rfl | rfl | rfl <;> rfl) ?_
  refine e_opN v_mkF Imp.nil ?_
  refine e_opN v_mkF Imp.nil ?_
  refine e_opN v_rv Imp.nil ?_
  refine e_newA fun g10 => ?_
  refine e_stAgg .here (by rfl) (by rfl) (by intro u hu; simp at hu; rcases hu with rfl | rfl <;> rfl) ?_
  refine e_opN (v_ldAgg (cs := #[_, _]) rfl) (.pick .here .nil) ?_
  rw [show (decide (m = mGET) || decide (m = mHEAD)) = lkF m from rfl]
  have hcc : (#[.bool (lkF m), .slice a l.length c, .bool e.tag.1, txt e.tag.2, .int .i64 e.mt, .bool e.has, .int .i64 now] : Array Value) = cAsk (lkF m) (.slice a l.length c) e now := rfl
  rw [hcc]
  unfold evF
  refine e_loop1 (fun k y => (ex fun i : Nat => pu (k + i = 2 ∧ y = .int .i64 (i : Int) ∧ (0 < i → st1F l e now ≤ 0) ∧ (1 < i → st2F (lkF m) l e now ≤ 0))) :: pt g9 (.cells (cAsk (lkF m) (.slice a l.length c) e now) 50 (0, 0)) :: pt g7 (.cells #[.int .i64 now] 3 (0, 0)) :: pt g6 (.cells (cEn e) 32 (0, 0)) :: A :: F) 2 ?_ ?_
  · refine .ex 0 (.pu ⟨rfl, rfl, fun h => absurd h (by decide), fun h => absurd h (by decide)⟩ ?_)
    (repeat (first | exact Imp.refl | exact Imp.nil | (apply Imp.pick; (focus ((repeat constructor); done))) | refine Imp.drop ?_))
  intro k ds y
  refine e_ex .here fun i => e_pu .here fun hi => ?_
  obtain ⟨hmi, rfl, h1, h2⟩ := hi
  refine e_ask v_lss Imp.nil (fun h => ?_) (fun h => ?_)
  · have : i = 0 ∨ i = 1 := by omega
    rcases this with rfl | rfl
    · refine e_condT ?_
      refine e_opN (v_ixA 0 rfl (by decide) rfl) Imp.nil ?_
      refine e_callC (args := []) (cap := [_, _]) (step1 hA hl) (.cons .here (.cons (.there .here) (.cons (.there .here) .nil))) fun _ => ?_
      (try simp only [List.cons_append, List.nil_append, -eq_self])
      refine e_ask v_gtr Imp.nil (fun h => ?_) (fun h => ?_)
      · rw [if_pos h]
        refine e_condT ?_
        (first | refine e_ret (()) rfl ?_ | refine e_retT (()) ?_)
        (repeat (first | exact Imp.refl | exact Imp.nil | (apply Imp.pick; (focus ((repeat constructor); done))) | refine Imp.drop ?_))
      · refine e_condF ?_
        refine e_opN (v_add (by omega) (by omega)) Imp.nil ?_
        refine e_next1 (k - 1) (by omega) (.ex 1 (.pu ⟨by omega, rfl, fun _ => by omega, fun h => absurd h (by decide)⟩ ?_))
        (repeat (first | exact Imp.refl | exact Imp.nil | (apply Imp.pick; (focus ((repeat constructor); done))) | refine Imp.drop ?_))
    · have hs1 := h1 (by decide)
      rw [if_neg (by omega)]
      refine e_condT ?_
      refine e_opN (v_ixA 1 rfl (by decide) rfl) Imp.nil ?_
      refine e_callC (args := []) (cap := [_, _, _]) (step2 hA hl) (.cons .here (.cons .here (.cons .here (.cons .here .nil)))) fun _ => ?_
      (try simp only [List.cons_append, List.nil_append, -eq_self])
      refine e_ask v_gtr Imp.nil (fun h => ?_) (fun h => ?_)
      · rw [if_pos h]
        refine e_condT ?_
        (first | refine e_ret (()) rfl ?_ | refine e_retT (()) ?_)
        (repeat (first | exact Imp.refl | exact Imp.nil | (apply Imp.pick; (focus ((repeat constructor); done))) | refine Imp.drop ?_))
      · refine e_condF ?_
        refine e_opN (v_add (by omega) (by omega)) Imp.nil ?_
        refine e_next1 (k - 1) (by omega) (.ex 2 (.pu ⟨by omega, rfl, fun _ => hs1, fun _ => by omega⟩ ?_))
        (repeat (first | exact Imp.refl | exact Imp.nil | (apply Imp.pick; (focus ((repeat constructor); done))) | refine Imp.drop ?_))
  · have hi2 : i = 2 := by omega
    subst hi2
    have hs1 := h1 (by decide)
    have hs2 := h2 (by decide)
    rw [if_neg (by omega), if_neg (by omega)]
    refine e_condF ?_
    (first | refine e_ret (()) rfl ?_ | refine e_retT (()) ?_)
    (repeat (first | exact Imp.refl | exact Imp.nil | (apply Imp.pick; (focus ((repeat constructor); done))) | refine Imp.drop ?_))
def inF (m : List UInt8) (l : List Fd) (e : En) (now : Int) : Bool :=
  if m ≠ mGET ∨ e.has = false then false else if (firstF l nIR).2 = false then true
  else if (tagF (firstF l nIR).1).2 then strF (tagF (firstF l nIR).1).1 e.tag
  else (decide (D.paE now (firstF l nIR).1 = 0) && decide (D.paN now (firstF l nIR).1 = e.mt)) && decide (IntKind.i64.wrap (D.paN now (firstF l nIR).1 + 60) ≤ now)
theorem inRange {W : World} {m : List UInt8} {l : List Fd} {a : Option Addr} {c : Nat} {e : En} {now : Int} {A : HP} (hA : RdF W A a l) (hl : szF l ≤ 2097152) : Cn Tryd.prog 16 [txt m, .slice a l.length c, vEn e, .int .i64 now] W
    [A] (fun _ : Unit => .bool (inF m l e now)) (fun _ => [A]) := by
  have hok := sz_ok hl
  have hfl := first_len (l := l) (n := nIR)
  (refine S.cond_InRange_cn fun F => ?_; unfold S.cond_InRange; simp only [List.cons_append, List.nil_append])
  unfold vEn
  refine e_boxA fun g6 => ?_
  refine e_call (first (n := nIR) hA hok (by decide)) (.cons (.there .here) .nil) fun _ => ?_
  (try simp only [List.cons_append, List.nil_append, -eq_self])
  refine e_opN (v_extN (vs := [_, _]) .here) Imp.nil ?_
  refine e_opN (v_extN (vs := [_, _]) (.there .here)) Imp.nil ?_
  refine e_opN (v_strne (m := mGET)) Imp.nil ?_
  unfold inF
  generalize (firstF l nIR).2 = comes
  generalize (firstF l nIR).1 = s at hfl ⊢
  by_cases hm : m = mGET
  rotate_left
  · rw [decide_eq_true hm, if_pos (.inl hm)]
    ((with_reducible refine e_gdF1 ?_)); ((with_reducible refine e_gdF1 ?_)); ((with_reducible refine e_gdF1 ?_)); (((with_reducible refine e_opN v_pickT Imp.nil ?_))); ((with_reducible refine e_condT ?_))
    (first | refine e_ret (()) rfl ?_ | refine e_retT (()) ?_)
    (repeat (first | exact Imp.refl | exact Imp.nil | (apply Imp.pick; (focus ((repeat constructor); done))) | refine Imp.drop ?_))
  rw [decide_eq_false (fun c => c hm)]
  refine e_gdT ?_
  refine e_opN v_fa0 Imp.nil ?_
  refine e_gdT ?_
  refine e_opN (v_ld (v := .bool e.has) rfl) (.pick (by (repeat constructor)) .nil) ?_
  refine e_gdT ?_
  refine e_opN v_not Imp.nil ?_
  refine e_opN v_pickF Imp.nil ?_
  cases hh : e.has with
  | false =>
    rw [if_pos (.inr rfl)]
    refine e_condT ?_
    (first | refine e_ret (()) rfl ?_ | refine e_retT (()) ?_)
    (repeat (first | exact Imp.refl | exact Imp.nil | (apply Imp.pick; (focus ((repeat constructor); done))) | refine Imp.drop ?_))
  | true =>
    rw [if_neg (by rintro (c | c); exact c hm; cases c)]
    refine e_condF ?_
    cases comes with
    | false =>
      rw [if_pos rfl]
      (((with_reducible refine e_opN v_notF Imp.nil ?_))); ((with_reducible refine e_condT ?_))
      (first | refine e_ret (()) rfl ?_ | refine e_retT (()) ?_)
      (repeat (first | exact Imp.refl | exact Imp.nil | (apply Imp.pick; (focus ((repeat constructor); done))) | refine Imp.drop ?_))
    | true =>
      rw [if_neg (by decide)]
      refine e_opN v_notT Imp.nil ?_
      refine e_condF ?_
      refine e_opN v_rv Imp.nil ?_
      refine e_newA fun g11 => ?_
      refine e_stAgg .here (by rfl) (by rfl) (by intro u hu; simp at hu; rcases hu with rfl | rfl <;> rfl) ?_
      refine e_call (parseTag (l := s) (by omega)) .nil fun _ => ?_
      (try simp only [List.cons_append, List.nil_append, -eq_self])
      refine e_opN (v_extN (vs := [_, _]) .here) Imp.nil ?_
      refine e_opN (v_extN (vs := [_, _]) (.there .here)) Imp.nil ?_
      generalize (tagF s).1 = t
      unfold vTag
      refine e_newA fun g12 => ?_
      refine e_stAgg .here (by rfl) (by rfl) (by intro u hu; simp at hu; rcases hu with rfl | rfl <;> rfl) ?_
      refine e_opN v_eql Imp.nil ?_
      cases ht : (tagF s).2 with
      | true =>
        rw [if_pos rfl, if_pos rfl, decide_eq_true rfl]
        refine e_condT ?_
        refine e_opN v_fa0 Imp.nil ?_
        refine e_opN (v_ld (v := fn 20) rfl) (.pick (.there .here) .nil) ?_
        refine e_opN (v_ldAgg (cs := #[.bool t.1, txt t.2]) rfl) (.pick .here .nil) ?_
        refine e_opN v_fa0 Imp.nil ?_
        have ldt : RunV Tryd.prog W [pt g6 (.cells #[.bool e.tag.1, txt e.tag.2, .int .i64 e.mt, .bool true] 32 (0, 0))] (sLoad 30 (.pointer (some ⟨g6, 0 + 0, none⟩))) (vTag e.tag) :=
          v_ldRdG (o := 0) (j := 0) (vs := pTag e.tag) (rd_pt (cs := [.bool e.tag.1, txt e.tag.2, .int .i64 e.mt, .bool true]) rfl) rfl (fun i hi => by
            match i, hi with
            | 0, _ => rfl
            | 1, _ => rfl)
        refine e_opN ldt (.pick (by (repeat constructor)) .nil) ?_
        refine e_call (strong (x := t) (y := e.tag)) .nil fun _ => ?_
        (try simp only [List.cons_append, List.nil_append, -eq_self])
        (first | refine e_ret (()) rfl ?_ | refine e_retT (()) ?_)
        (repeat (first | exact Imp.refl | exact Imp.nil | (apply Imp.pick; (focus ((repeat constructor); done))) | refine Imp.drop ?_))
      | false =>
        rw [if_neg (by decide), if_neg (by decide), decide_eq_false (by decide)]
        refine e_condF ?_
        refine e_call (D.parse (l := s) (by omega)) .nil fun _ => ?_
        (try simp only [List.cons_append, List.nil_append, -eq_self])
        refine e_opN (v_extN (vs := [_, _]) .here) Imp.nil ?_
        refine e_opN (v_extN (vs := [_, _]) (.there .here)) Imp.nil ?_
        refine e_opN v_eql Imp.nil ?_
        generalize D.paN now s = n
        by_cases h1 : D.paE now s = 0
        · rw [decide_eq_true h1, Bool.true_and]
          ((with_reducible refine e_gdT ?_)); ((with_reducible refine e_gdT ?_)); (((with_reducible refine e_opN v_fa0 Imp.nil ?_))); ((with_reducible refine e_gdT ?_)); (((with_reducible refine' e_opN (v_ldN ?hc) ?hi ?_); (case hi => (repeat (first | exact Imp.refl | exact Imp.nil | (apply Imp.pick; (focus ((repeat constructor); done))) | refine Imp.drop ?_))); (case hc => (repeat (first | exact Nth.here | apply Nth.there))))); ((with_reducible refine e_gdT ?_))
          refine e_opN v_eql Imp.nil ?_
          by_cases h2 : n = e.mt
          · rw [decide_eq_true h2, Bool.true_and]
            (((with_reducible refine e_opN v_pickT Imp.nil ?_))); ((with_reducible refine e_gdT ?_)); ((with_reducible refine e_gdT ?_)); (((with_reducible refine e_opN v_fa0 Imp.nil ?_))); ((with_reducible refine e_gdT ?_)); (((with_reducible refine' e_opN (v_ldN ?hc) ?hi ?_); (case hi => (repeat (first | exact Imp.refl | exact Imp.nil | (apply Imp.pick; (focus ((repeat constructor); done))) | refine Imp.drop ?_))); (case hc => (repeat (first | exact Nth.here | apply Nth.there))))); ((with_reducible refine e_gdT ?_))
            refine e_opN v_addw Imp.nil ?_
            ((with_reducible refine e_gdT ?_)); ((with_reducible refine e_gdT ?_))
            refine e_opN v_leq Imp.nil ?_
            (((with_reducible refine e_opN v_pickT Imp.nil ?_)))
            (first | refine e_ret (()) rfl ?_ | refine e_retT (()) ?_)
            (repeat (first | exact Imp.refl | exact Imp.nil | (apply Imp.pick; (focus ((repeat constructor); done))) | refine Imp.drop ?_))
          · rw [decide_eq_false h2, Bool.false_and]
            (((with_reducible refine e_opN v_pickT Imp.nil ?_))); ((with_reducible refine e_gdF2 ?_)); ((with_reducible refine e_gdF2 ?_)); ((with_reducible refine e_gdF2 ?_)); ((with_reducible refine e_gdF2 ?_)); ((with_reducible refine e_gdF2 ?_)); ((with_reducible refine e_gdF2 ?_)); (((with_reducible refine e_opN v_pickF Imp.nil ?_)))
            (first | refine e_ret (()) rfl ?_ | refine e_retT (()) ?_)
            (repeat (first | exact Imp.refl | exact Imp.nil | (apply Imp.pick; (focus ((repeat constructor); done))) | refine Imp.drop ?_))
        · rw [decide_eq_false h1]
          ((with_reducible refine e_gdF2 ?_)); ((with_reducible refine e_gdF2 ?_)); ((with_reducible refine e_gdF2 ?_)); ((with_reducible refine e_gdF2 ?_)); (((with_reducible refine e_opN v_pickF Imp.nil ?_))); ((with_reducible refine e_gdF2 ?_)); ((with_reducible refine e_gdF2 ?_)); ((with_reducible refine e_gdF2 ?_)); ((with_reducible refine e_gdF2 ?_)); ((with_reducible refine e_gdF2 ?_)); ((with_reducible refine e_gdF2 ?_)); (((with_reducible refine e_opN v_pickF Imp.nil ?_)))
          (first | refine e_ret (()) rfl ?_ | refine e_retT (()) ?_)
          (repeat (first | exact Imp.refl | exact Imp.nil | (apply Imp.pick; (focus ((repeat constructor); done))) | refine Imp.drop ?_))
/-- the document's entity, as the program has it -/
theorem own {W : World} {e : En} : Cn Tryd.prog 9 [vEn e] W [] (fun _ : Unit => vEn e) (fun _ => []) := by
  (refine S.law16_Own_cn fun F => ?_; unfold S.law16_Own; simp only [List.cons_append, List.nil_append])
  unfold vEn
  refine e_boxA fun g1 => ?_
  refine e_newA fun g2 => ?_
  (((with_reducible refine e_opN v_fa0 Imp.nil ?_))); (((with_reducible refine e_opN v_fa0 Imp.nil ?_))); (((with_reducible refine' e_opN (v_ldN ?hc) ?hi ?_); (case hi => (repeat (first | exact Imp.refl | exact Imp.nil | (apply Imp.pick; (focus ((repeat constructor); done))) | refine Imp.drop ?_))); (case hc => (repeat (first | exact Nth.here | apply Nth.there))))); (((with_reducible refine e_opN v_fa0 Imp.nil ?_))); (((with_reducible refine e_opN v_fa0 Imp.nil ?_))); (((with_reducible refine' e_opN (v_ldN ?hc) ?hi ?_); (case hi => (repeat (first | exact Imp.refl | exact Imp.nil | (apply Imp.pick; (focus ((repeat constructor); done))) | refine Imp.drop ?_))); (case hc => (repeat (first | exact Nth.here | apply Nth.there))))); (((with_reducible refine e_opN v_rv Imp.nil ?_))); (((with_reducible refine e_opN v_fa0 Imp.nil ?_))); (((with_reducible refine' e_opN (v_ldN ?hc) ?hi ?_); (case hi => (repeat (first | exact Imp.refl | exact Imp.nil | (apply Imp.pick; (focus ((repeat constructor); done))) | refine Imp.drop ?_))); (case hc => (repeat (first | exact Nth.here | apply Nth.there))))); (((with_reducible refine e_opN v_fa0 Imp.nil ?_))); (((with_reducible refine' e_opN (v_ldN ?hc) ?hi ?_); (case hi => (repeat (first | exact Imp.refl | exact Imp.nil | (apply Imp.pick; (focus ((repeat constructor); done))) | refine Imp.drop ?_))); (case hc => (repeat (first | exact Nth.here | apply Nth.there))))); (((with_reducible refine e_opN v_rv Imp.nil ?_)))
  refine e_stAgg .here (by rfl) (by rfl) (by intro u hu; simp at hu; rcases hu with rfl | rfl | rfl | rfl <;> rfl) ?_
  (((with_reducible refine' e_stS (v_resA ?hn) ?hi ?_); (case hi => (repeat (first | exact Imp.refl | exact Imp.nil | (apply Imp.pick; (focus ((repeat constructor); done))) | refine Imp.drop ?_))); (case hn => rfl)))
  (first | refine e_ret (()) rfl ?_ | refine e_retT (()) ?_)
  (repeat (first | exact Imp.refl | exact Imp.nil | (apply Imp.pick; (focus ((repeat constructor); done))) | refine Imp.drop ?_))
theorem one {W : World} {n v : List UInt8} : Cn Tryd.prog 14 [txt n, txt v] W [] (fun g : Nat => .slice (some ⟨g, 0, none⟩) 1 1) (fun g => [Sl 2 37 (some ⟨g, 0, none⟩) 1 ([(n, v)] : List Fd).length (([(n, v)] : List Fd).flatMap pFd)]) := by
  (refine S.law16_one_cn fun F => ?_; unfold S.law16_one; simp only [List.cons_append, List.nil_append])
  refine e_opN v_rv Imp.nil ?_
  refine e_bslS (n := 1) (vs := [vFd (n, v)]) rfl (by decide) rfl (by intro v hv; rw [List.mem_singleton.1 hv]; rfl) (by decide) fun g => ?_
  refine e_own (s := 2) (n := 1) (cs := pFd (n, v)) .here rfl (by decide) ?_
  (first | refine e_ret (g) rfl ?_ | refine e_retT (g) ?_)
  exact .refl
theorem ld_ent {W : World} {b : Nat} {e : En} {T : TypeId} : RunV Tryd.prog W [pt b (.cells (cEn e) T (0, 0))] (sLoad 30 (.pointer (some ⟨b, 0, none⟩))) (vTag e.tag) :=
  v_ldRdG (o := 0) (j := 0) (vs := pTag e.tag) (rd_pt (cs := [.bool e.tag.1, txt e.tag.2, .int .i64 e.mt, .bool e.has]) rfl) rfl (fun i hi => by
    match i, hi with
    | 0, _ => rfl
    | 1, _ => rfl)
def kE : En := ⟨(false, [97]), 0, true⟩
def kT : List UInt8 := tagT (false, [97])
def mPUT : List UInt8 := [80, 85, 84]
theorem k1 : evF mGET [(nINM, kT)] kE 9 = 304 := by kernel_rfl
theorem k2 : evF mPUT [(nINM, kT)] kE 9 = 412 := by kernel_rfl
theorem k3 : evF mGET [(nIM, kT)] kE 9 = 200 := by kernel_rfl
theorem k4 : inF mGET [] kE 9 = true := by kernel_rfl
theorem knows16 {W : World} : Cn Tryd.prog 10 [] W [] (fun _ : Unit => .bool true) (fun _ => []) := by
  (refine S.law16_knows_cn fun F => ?_; unfold S.law16_knows; simp only [List.cons_append, List.nil_append])
  refine e_opN v_rv Imp.nil ?_
  refine e_opN v_rv Imp.nil ?_
  refine e_newA fun g1 => ?_
  refine e_stAgg .here (by rfl) (by rfl) (by intro u hu; simp at hu; rcases hu with rfl | rfl | rfl | rfl <;> rfl) ?_
  refine e_opN v_fa0 Imp.nil ?_
  refine e_opN (ld_ent (e := kE)) (.pick .here .nil) ?_
  refine e_call (tagText (x := kE.tag) (by decide)) .nil fun _ => ?_
  (try simp only [List.cons_append, List.nil_append, -eq_self])
  refine e_drS ?_
  refine e_stD (v_ldAgg (cs := cEn kE) rfl) (.pick .here .nil) ?_
  refine e_call (one (n := nINM) (v := kT)) .nil fun g => ?_
  (try simp only [List.cons_append, List.nil_append, -eq_self])
  refine e_obl (by (repeat (first | exact Imp.refl | exact Imp.nil | (apply Imp.pick; (focus ((repeat constructor); done))) | refine Imp.drop ?_))) ?_
  refine e_call (evaluate (m := mGET) (l := [(nINM, kT)]) (e := kE) (now := 9) rdF_sl (by decide)) (.cons .here .nil) fun _ => ?_
  (try simp only [List.cons_append, List.nil_append, -eq_self])
  refine e_stS v_eql Imp.nil ?_
  rw [decide_eq_true k1]
  refine e_gdT ?_
  refine e_gdDT ?_
  refine e_stD (v_ldAgg (cs := cEn kE) rfl) (.pick (by (repeat constructor)) .nil) ?_
  refine e_gdT ?_
  refine e_call (one (n := nINM) (v := kT)) .nil fun g' => ?_
  (try simp only [List.cons_append, List.nil_append, -eq_self])
  refine e_obl (by (repeat (first | exact Imp.refl | exact Imp.nil | (apply Imp.pick; (focus ((repeat constructor); done))) | refine Imp.drop ?_))) ?_
  refine e_gdT ?_
  refine e_call (evaluate (m := mPUT) (l := [(nINM, kT)]) (e := kE) (now := 9) rdF_sl (by decide)) (.cons .here .nil) fun _ => ?_
  (try simp only [List.cons_append, List.nil_append, -eq_self])
  refine e_gdT ?_
  refine e_stS v_eql Imp.nil ?_
  rw [decide_eq_true k2]
  refine e_stS v_pickT Imp.nil ?_
  refine e_gdT ?_
  refine e_gdDT ?_
  refine e_stD (v_ldAgg (cs := cEn kE) rfl) (.pick (by (repeat constructor)) .nil) ?_
  refine e_gdT ?_
  refine e_call (one (n := nIM) (v := kT)) .nil fun g'' => ?_
  (try simp only [List.cons_append, List.nil_append, -eq_self])
  refine e_obl (by (repeat (first | exact Imp.refl | exact Imp.nil | (apply Imp.pick; (focus ((repeat constructor); done))) | refine Imp.drop ?_))) ?_
  refine e_gdT ?_
  refine e_call (evaluate (m := mGET) (l := [(nIM, kT)]) (e := kE) (now := 9) rdF_sl (by decide)) (.cons .here .nil) fun _ => ?_
  (try simp only [List.cons_append, List.nil_append, -eq_self])
  refine e_gdT ?_
  refine e_stS v_eql Imp.nil ?_
  rw [decide_eq_true k3]
  refine e_stS v_pickT Imp.nil ?_
  refine e_gdT ?_
  refine e_stS (v_ldAgg (cs := cEn kE) rfl) (.pick (by (repeat constructor)) .nil) ?_
  refine e_gdT ?_
  refine e_nil (s := 2) (e := 37) ?_
  refine e_call (inRange (m := mGET) (l := []) (e := kE) (now := 9) (rdF_nil (c := 0)) (by decide)) (.cons .here .nil) fun _ => ?_
  (try simp only [List.cons_append, List.nil_append, -eq_self])
  rw [k4]
  refine e_stS v_pickT Imp.nil ?_
  (first | refine e_ret (()) rfl ?_ | refine e_retT (()) ?_)
  (repeat (first | exact Imp.refl | exact Imp.nil | (apply Imp.pick; (focus ((repeat constructor); done))) | refine Imp.drop ?_))
end Go.Proofs.YtcmpkkkigmheoaaDoor.FD
/-! Structs of numbers that come in. No conditions but those that each names. -/
namespace Go.Proofs.YtcmpkkkigmheoaaDoor.Sl
open Go Go.RowKit Go.Proofs.YtcmpkkkigmheoaaDoor.Sh
variable {P : Program} {H : Type} {enc : TypeId × Value → H} {W : World}
theorem Old.flat {α : Type} {s n : Nat} {f : α → List Value} {a : Option Addr} {xs : List α} (hf : ∀ x, (f x).length = s) (h0 : 0 < s) (h : Old W s (fun x cs => cs = f x) a n xs) (A : HP) : RdB W A a (n * s) (xs.flatMap f) := by
  have hl := h.len
  refine ⟨by rw [flat_len hf, hl], fun hn => ?_⟩
  obtain ⟨g, o, rfl, hg, hc⟩ := h.at_ (by
    rcases Nat.eq_zero_or_pos n with z | z
    · subst z; simp at hn
    · exact z)
  refine ⟨g, o, rfl, fun w L hw j v hv => ?_⟩
  have hj : j < xs.length * s := by
    rcases Nat.lt_or_ge j (xs.flatMap f).length with c | c
    · rwa [flat_len hf] at c
    · rw [List.getElem?_eq_none c] at hv; cases hv
  have hi : j / s < xs.length := Nat.div_lt_of_lt_mul (by rwa [Nat.mul_comm] at hj)
  have hm : j % s < s := Nat.mod_lt _ h0
  have hd : j = j / s * s + j % s := by rw [Nat.mul_comm]; exact (Nat.div_add_mod j s).symm
  obtain ⟨cs, h1, h2, h3⟩ := hc (j / s) hi
  subst h2
  rw [hd, flat_get hf xs _ _ hi hm] at hv
  have := h3 (j % s) v hv
  rw [hw.base.cell (p := ⟨g, o + j, none⟩) hg]
  rwa [← hd] at this
end Go.Proofs.YtcmpkkkigmheoaaDoor.Sl
/-! A row that lists package-level variables: its witness, texts, fields and entities that come in. No conditions but those that each names. -/
namespace Go.Proofs.YtcmpkkkigmheoaaDoor.FD
open Go Go.Proofs Go.RowKit Go.ChangeShapes Go.Proofs.YtcmpkkkigmheoaaDoor.Sh Go.Proofs.YtcmpkkkigmheoaaDoor.Sl Go.Proofs.YtcmpkkkigmheoaaDoor.T
theorem witness_row_shaped {H : Type} {enc : TypeId × Value → H} {C : Checked} {os : Os} {f : FuncId} {fn : Func} {s : OpenSpec} {conds : List PathCond} {apart : Bool} {laid : List (String × DataW Unit)} (modest : Bool) (w0 : World) (args : Array Value) (hos : w0.os = os)
    (hsh : (w0.forCall (fun _ _ => 0) ⟨#[], args, []⟩).Shaped C.prog)
    (hok : Input.okWideB C.prog (w0.forCall (fun _ _ => 0) ⟨#[], args, []⟩) f ⟨#[], args, []⟩ = true)
    (hrow : s.preRow enc C.prog fn conds apart laid (w0.forCall (fun _ _ => 0) ⟨#[], args, []⟩).memory args) :
    ∃ (w : World) (tape : Tape) (i : Input), w.os = os ∧ (w.forCall tape i).Shaped C.prog ∧ i.vars = [] ∧ Input.okWide C.prog (w.forCall tape i) .any w.heap.size f i ∧
      s.preRow enc C.prog fn conds apart laid (w.forCall tape i).memory i.args ∧ ({ modest := modest } : Assume).holds C.prog (lone (Frame.enter C.prog f i.args .normal) [] (w.forCall tape i)) :=
  ⟨w0, fun _ _ => 0, ⟨#[], args, []⟩, hos, hsh, (Input.okWide_of_okWideB (base := 0) hok).1, (Input.okWide_of_okWideB hok).2, hrow, by
    simp only [Assume.holds]
    exact ⟨by simp, by simp, fun _ => Modest.zero, by simp, by simp⟩⟩
theorem open_txt {P : Program} {H : Type} {enc : TypeId × Value → H} {W : World} {sp : Nat → Bool} {held : Bool} {t : TypeId} {v : Value} {d : DataW H} {ps : List MemPlace} {r : Reach} {b0 : Nat} (ht : P.underlying t = some .string) (hval : Value.okWide P W r b0 t v) (hd : DataW.Trod enc P W 0 sp held t v d ps) :
    ∃ l : List UInt8, v = txt l ∧ l.length + 1 ≤ Rows.uptoBulk d := by
  obtain ⟨s, rfl⟩ := WideShapes.okWide_string ht hval
  obtain ⟨fuel, hf⟩ := hd
  obtain ⟨nm, h0, hx, _⟩ := DataW.trod_string ht hf
  have e : s = nm := by injection h0 with h0; injection h0
  subst e
  refine ⟨s.data.toList, by unfold txt; simp, ?_⟩
  have := (Prod.mk.inj hx).1
  rw [this]
  simp [Rows.uptoBulk]
set_option maxRecDepth 20000 in
theorem open_fd {H : Type} {enc : TypeId × Value → H} {W : World} {sp : Nat → Bool} {held : Bool} (n : Nat) (cs : List Value) (x : DataW H × List MemPlace) (h : DataW.trod enc Tryd.prog W 0 sp held n 37 cs = some x) : ∃ a : Fd, cs = pFd a ∧ a.1.length + a.2.length + 3 ≤ Rows.uptoBulk x.1 := by
  obtain ⟨xs, m, rfl, rfl, hl, hs, hf⟩ := DataW.trod_struct (fs := #[⟨"Name", 9, 0, false, "", "", 0⟩, ⟨"Value", 9, 1, false, "", "", 16⟩]) (by kernel_rfl) h
  rw [show Tryd.prog.cellsOf 37 = 2 by kernel_rfl] at hl
  obtain ⟨c0, c1, rfl⟩ : ∃ c0 c1, cs = [c0, c1] := by
    match cs, hl with
    | [a, b], _ => exact ⟨a, b, rfl⟩
  obtain ⟨x0, x1, rfl⟩ : ∃ x0 x1, xs = [x0, x1] := by
    match xs, hs with
    | [a, b], _ => exact ⟨a, b, rfl⟩
  have e1 : Tryd.prog.cellsOf 9 = 1 := by kernel_rfl
  have f0 := hf 0 _ rfl
  have f1 := hf 1 _ rfl
  simp only [e1, List.drop_zero, List.drop_succ_cons, List.take_succ_cons, List.take_zero, List.getElem?_cons_zero, List.getElem?_cons_succ] at f0 f1
  obtain ⟨n0, h0, hx0, _⟩ := DataW.trod_string (by kernel_rfl) f0
  obtain ⟨n1, h1, hx1, _⟩ := DataW.trod_string (by kernel_rfl) f1
  have k0 : c0 = .string n0 := by injection h0
  have k1 : c1 = .string n1 := by injection h1
  subst k0; subst k1
  refine ⟨(n0.data.toList, n1.data.toList), by unfold pFd txt; simp, ?_⟩
  have h2 := (Prod.mk.inj hx0).1
  have h3 := (Prod.mk.inj hx1).1
  simp only [List.map_cons, List.map_nil, Rows.uptoBulk, Rows.uptoBulkAll]
  rw [h2, h3]
  simp [Rows.uptoBulk]
  omega
theorem sz_sum (l : List Fd) : (l.map fun f => f.1.length + f.2.length + 3).sum = szF l := by
  induction l with
  | nil => rfl
  | cons f r ih => rw [List.map_cons, List.sum_cons, ih, szF]
set_option maxRecDepth 20000 in
theorem open_fds {H : Type} {enc : TypeId × Value → H} {W : World} {sp : Nat → Bool} {held : Bool} {v : Value} {d : DataW H} {ps : List MemPlace} {r : Reach} {b0 : Nat} (hval : Value.okWide Tryd.prog W r b0 22 v) (hd : DataW.Trod enc Tryd.prog W 0 sp held 22 v d ps) :
    ∃ (a : Option Addr) (c : Nat) (l : List Fd), v = .slice a l.length c ∧ (∀ A, RdF W A a l) ∧ szF l + 1 ≤ Rows.uptoBulk d := by
  obtain ⟨fuel, hf⟩ := open_slice (e := 37) (by kernel_rfl) hval hd
  obtain ⟨a, n, c, l, e, g1, g2, g3, g4, g5⟩ := open_old (e := 37) (s := 2) (rd := fun (x : Fd) cs => cs = pFd x) (m := fun f => f.1.length + f.2.length + 3) (by kernel_rfl) (by kernel_rfl) (by omega) (fun n cs x h => open_fd n cs x h) hf
  have hl := g4.len
  subst hl
  rw [sz_sum] at g5
  exact ⟨a, c, l, by injection e, fun A => g4.flat (f := pFd) (fun _ => rfl) (by omega) A, by simp at g5; omega⟩
set_option maxRecDepth 20000 in
theorem open_en {H : Type} {enc : TypeId × Value → H} {W : World} {sp : Nat → Bool} {held : Bool} {v : Value} {d : DataW H} {ps : List MemPlace} {r : Reach} {b0 : Nat} (hval : Value.okWide Tryd.prog W r b0 26 v) (hd : DataW.Trod enc Tryd.prog W 0 sp held 26 v d ps) :
    ∃ e : En, v = vEn e ∧ e.tag.2.length ≤ Rows.uptoBulk d := by
  obtain ⟨cs, rfl, hsz⟩ := WideShapes.okWide_struct (fs := #[⟨"Tag", 24, 0, false, "", "", 0⟩, ⟨"Mtime", 3, 2, false, "", "", 24⟩, ⟨"Some", 4, 3, false, "", "", 32⟩]) (by kernel_rfl) hval
  rw [show Tryd.prog.cellsOf 26 = 4 by kernel_rfl] at hsz
  obtain ⟨fuel, hf⟩ := hd
  obtain ⟨l⟩ := cs
  obtain ⟨c0, c1, c2, c3, rfl⟩ : ∃ c0 c1 c2 c3, l = [c0, c1, c2, c3] := by
    match l, hsz with
    | [a, b, c, d], _ => exact ⟨a, b, c, d, rfl⟩
  rw [show (Value.agg ⟨[c0, c1, c2, c3]⟩).cells.toList = [c0, c1, c2, c3] from rfl] at hf
  obtain ⟨xs, m, rfl, hx, hl, hs, hf⟩ := DataW.trod_struct (fs := #[⟨"Tag", 24, 0, false, "", "", 0⟩, ⟨"Mtime", 3, 2, false, "", "", 24⟩, ⟨"Some", 4, 3, false, "", "", 32⟩]) (by kernel_rfl) hf
  obtain ⟨x0, x1, x2, rfl⟩ : ∃ x0 x1 x2, xs = [x0, x1, x2] := by
    match xs, hs with
    | [a, b, c], _ => exact ⟨a, b, c, rfl⟩
  have e0 : Tryd.prog.cellsOf 24 = 2 := by kernel_rfl
  have e1 : Tryd.prog.cellsOf 3 = 1 := by kernel_rfl
  have e2 : Tryd.prog.cellsOf 4 = 1 := by kernel_rfl
  have e3 : Tryd.prog.cellsOf 9 = 1 := by kernel_rfl
  have f0 := hf 0 _ rfl
  have f1 := hf 1 _ rfl
  have f2 := hf 2 _ rfl
  simp only [e0, e1, e2, List.drop_zero, List.drop_succ_cons, List.take_succ_cons, List.take_zero, List.getElem?_cons_zero, List.getElem?_cons_succ] at f0 f1 f2
  obtain ⟨ys, m2, hm2, hy, hyl, hys, hyf⟩ := DataW.trod_struct (fs := #[⟨"Weak", 4, 0, false, "", "", 0⟩, ⟨"Value", 9, 1, false, "", "", 8⟩]) (by kernel_rfl) f0
  obtain ⟨y0, y1, rfl⟩ : ∃ y0 y1, ys = [y0, y1] := by
    match ys, hys with
    | [a, b], _ => exact ⟨a, b, rfl⟩
  have t0 := hyf 0 _ rfl
  have t1 := hyf 1 _ rfl
  simp only [e2, e3, List.drop_zero, List.drop_succ_cons, List.take_succ_cons, List.take_zero, List.getElem?_cons_zero, List.getElem?_cons_succ] at t0 t1
  obtain ⟨b, h0, _⟩ := DataW.trod_bool (by kernel_rfl) t0
  obtain ⟨nm, h1, hx1, _⟩ := DataW.trod_string (by kernel_rfl) t1
  obtain ⟨mt, h2, _, _⟩ := DataW.trod_int Tryd.underlying3 f1
  obtain ⟨has, h3, _⟩ := DataW.trod_bool (by kernel_rfl) f2
  have k0 : c0 = .bool b := by injection h0
  have k1 : c1 = .string nm := by injection h1
  have k2 : c2 = .int .i64 mt := by injection h2
  have k3 : c3 = .bool has := by injection h3
  subst k0; subst k1; subst k2; subst k3
  refine ⟨⟨(b, nm.data.toList), mt, has⟩, by unfold vEn txt; simp, ?_⟩
  have q := (Prod.mk.inj hx).1
  rw [q]
  have q1 := (Prod.mk.inj hx1).1
  have q2 := (Prod.mk.inj hy).1
  simp only [List.map_cons, List.map_nil, Rows.uptoBulk, Rows.uptoBulkAll]
  rw [q2]
  simp only [List.map_cons, List.map_nil, Rows.uptoBulk, Rows.uptoBulkAll]
  rw [q1]
  simp [Rows.uptoBulk]
  omega
end Go.Proofs.YtcmpkkkigmheoaaDoor.FD
