/- A text's time; what must come. No conditions but those that each names. -/
import Derived.Test.YtcmpkkkigmheoaaDate11
set_option linter.unusedVariables false
set_option linter.unusedSimpArgs false
namespace Go.Proofs.Ytcmpkkkigmheoaa.D
open Go Go.Proofs Go.RowKit Go.Proofs.Ytcmpkkkigmheoaa.Sh Go.Proofs.Ytcmpkkkigmheoaa.Sl Go.Proofs.Ytcmpkkkigmheoaa.T
def rdK (now : Int) (k : Nat) : List UInt8 → Option Dt := if k = 0 then firstR else if k = 1 then secondR now else thirdR
def kfn (k : Nat) : FuncId := if k = 0 then 28 else if k = 1 then 29 else 30
def paF (now : Int) (l : List UInt8) (k : Nat) : Nat → Option Int
  | 0 => none
  | m + 1 => match tryR (k : Int) now l (rdK now k) with
    | some n => some n
    | none => paF now l (k + 1) m
def paR (now : Int) (l : List UInt8) : Option Int := paF now l 0 3
def paN (now : Int) (l : List UInt8) : Int := (paR now l).getD 0
def paE (now : Int) (l : List UInt8) : Int := if (paR now l).isSome then 0 else 41
theorem rdK_ok {W : World} {now : Int} {l : List UInt8} (hl : l.length ≤ 4611686018427387904) {k : Nat} (hk : k < 3) (p : Nat) : CnP Try.prog (kfn k) [.pointer (some ⟨p, 0, none⟩), .int .i64 now] W [IsRd p l] (fun x : Sm (rdK now k l) => .agg (dtA x.1)) (fun _ => []) (fun _ : Nn (rdK now k l) => pnD) (fun _ => []) := by
  match k, hk with
  | 0, _ => exact first
  | 1, _ => exact second hl
  | 2, _ => exact third
theorem kfn_get {k : Nat} (hk : k < 3) : (#[fn 28, fn 29, fn 30] : Array Value)[k]? = some (fn (kfn k)) := by
  match k, hk with
  | 0, _ => rfl
  | 1, _ => rfl
  | 2, _ => rfl
theorem parse {W : World} {now : Int} {l : List UInt8} (hl : l.length ≤ 4611686018427387904) : Cn Try.prog 18 [txt l, .int .i64 now] W [] (fun _ : Unit => .tuple #[.int .i64 (paN now l), .int .i64 (paE now l)]) (fun _ => []) := by
  (refine S.dates_Parse_cn fun F => ?_; unfold S.dates_Parse; simp only [List.cons_append, List.nil_append])
  refine e_opN v_rv Imp.nil ?_
  refine e_loop3 (fun m y6 y7 y13 => (ex fun k : Nat => pu (m + k = 3 ∧ y6 = .int .i64 0 ∧ y7 = .int .i64 41 ∧ y13 = .int .i64 (k : Int) ∧ paF now l k m = paR now l)) :: F) 3 ?_ ?_
  · refine .ex 0 (.pu ⟨by omega, rfl, rfl, rfl, rfl⟩ ?_)
    (repeat (first | exact Imp.refl | exact Imp.nil | (apply Imp.pick; (focus ((repeat constructor); done))) | refine Imp.drop ?_))
  intro m ds y6 y7 y13
  (try simp only [List.cons_append, List.nil_append, -eq_self])
  refine e_ex Pick.here fun k => e_pu Pick.here fun hi => ?_
  obtain ⟨hmk, rfl, rfl, rfl, hpa⟩ := hi
  (refine e_ask v_lss Imp.nil (fun h => ?_) (fun h => ?_))
  · refine e_condT ?_
    obtain ⟨m', rfl⟩ : ∃ m', m = m' + 1 := ⟨m - 1, by omega⟩
    refine e_opN (v_ixA (v := fn (kfn k)) k (by rfl) (by omega) (kfn_get (by omega))) Imp.nil ?_
    (refine' e_call (try_ (f := kfn k) (k := (k : Int)) (now := now) (l := l) (rd := rdK now k) (rdK_ok hl (by omega))) ?hp fun _ => ?_; (case hp => (repeat (first | exact Picks.nil | (apply Picks.cons; (focus (repeat constructor)))))); (try simp only [List.cons_append, List.nil_append, Bool.not_true, Bool.not_false]))
    unfold paF at hpa
    (((with_reducible refine' e_opN (v_extN ?hc) Imp.nil ?_); (case hc => (repeat (first | exact Nth.here | apply Nth.there))))); (((with_reducible refine' e_opN (v_extN ?hc) Imp.nil ?_); (case hc => (repeat (first | exact Nth.here | apply Nth.there)))))
    cases ht : tryR (k : Int) now l (rdK now k) with
    | some n =>
      rw [ht] at hpa
      simp only at hpa
      simp only [Option.isSome_some, Option.getD_some]
      ((with_reducible refine e_condT ?_))
      rw [show paN now l = n by unfold paN; rw [← hpa]; rfl, show paE now l = 0 by unfold paE; rw [← hpa]; rfl]
      (first | refine e_ret (()) rfl ?_ | refine e_retT (()) ?_)
      (repeat (first | exact Imp.refl | exact Imp.nil | (apply Imp.pick; (focus ((repeat constructor); done))) | refine Imp.drop ?_))
    | none =>
      rw [ht] at hpa
      simp only at hpa
      simp only [Option.isSome_none, Option.getD_none]
      ((with_reducible refine e_condF ?_)); (((with_reducible refine e_opN (v_add ?h1 ?h2) Imp.nil ?_); (case h1 => omega); (case h2 => omega)))
      refine e_next3 m' (by omega) (.ex (k + 1) (.pu ⟨by omega, rfl, rfl, rfl, hpa⟩ ?_))
      (repeat (first | exact Imp.refl | exact Imp.nil | (apply Imp.pick; (focus ((repeat constructor); done))) | refine Imp.drop ?_))
  · refine e_condF ?_
    have hm0 : m = 0 := by omega
    subst hm0
    have hpn : paR now l = none := by rw [← hpa]; rfl
    rw [show paN now l = 0 by unfold paN; rw [hpn]; rfl, show paE now l = 41 by unfold paE; rw [hpn]; rfl]
    (first | refine e_ret (()) rfl ?_ | refine e_retT (()) ?_)
    (repeat (first | exact Imp.refl | exact Imp.nil | (apply Imp.pick; (focus ((repeat constructor); done))) | refine Imp.drop ?_))
theorem num9 {W : World} {n : Int} : Cn Try.prog 14 [.int .i64 n] W [] (fun _ : Unit => .int .i64 n) (fun _ => []) := by
  (refine S.law09_num_cn fun F => ?_; unfold S.law09_num; simp only [List.cons_append, List.nil_append])
  (first | refine e_ret (()) rfl ?_ | refine e_retT (()) ?_)
  exact .refl
def kn1 : List UInt8 := [83, 117, 110, 100, 97, 121, 44, 32, 48, 54, 45, 78, 111, 118, 45, 57, 52, 32, 48, 56, 58, 52, 57, 58, 51, 55, 32, 71, 77, 84]
def kn2 : List UInt8 := [83, 117, 110, 44, 32, 48, 54, 32, 78, 111, 118, 32, 49, 57, 57, 52, 32, 48, 56, 58, 52, 57, 58, 51, 55, 32, 71, 77, 84]
theorem kn_f : foS 784111777 = kn2 := by kernel_rfl
theorem kn_e : spE 784111777 = 0 := by kernel_rfl
theorem kn_p : paR 784111777 kn1 = some 784111777 := by kernel_rfl
theorem knows9 {W : World} : Cn Try.prog 15 [] W [] (fun _ : Unit => .bool true) (fun _ => []) := by
  (refine S.law09_knows_cn fun F => ?_; unfold S.law09_knows; simp only [List.cons_append, List.nil_append])
  (refine' e_call (format (n := 784111777)) ?hp fun _ => ?_; (case hp => (repeat (first | exact Picks.nil | (apply Picks.cons; (focus (repeat constructor)))))); (try simp only [List.cons_append, List.nil_append, Bool.not_true, Bool.not_false]))
  rw [kn_f, kn_e]
  (((with_reducible refine' e_opN (v_extN ?hc) Imp.nil ?_); (case hc => (repeat (first | exact Nth.here | apply Nth.there))))); (((with_reducible refine' e_opN (v_extN ?hc) Imp.nil ?_); (case hc => (repeat (first | exact Nth.here | apply Nth.there)))))
  (refine' e_call (parse (now := 784111777) (l := kn1) (by decide)) ?hp fun _ => ?_; (case hp => (repeat (first | exact Picks.nil | (apply Picks.cons; (focus (repeat constructor)))))); (try simp only [List.cons_append, List.nil_append, Bool.not_true, Bool.not_false]))
  rw [show paN 784111777 kn1 = 784111777 by unfold paN; rw [kn_p]; rfl, show paE 784111777 kn1 = 0 by unfold paE; rw [kn_p]; rfl]
  (((with_reducible refine' e_opN (v_extN ?hc) Imp.nil ?_); (case hc => (repeat (first | exact Nth.here | apply Nth.there))))); (((with_reducible refine' e_opN (v_extN ?hc) Imp.nil ?_); (case hc => (repeat (first | exact Nth.here | apply Nth.there)))))
  (refine' e_call (num9) ?hp fun _ => ?_; (case hp => (repeat (first | exact Picks.nil | (apply Picks.cons; (focus (repeat constructor)))))); (try simp only [List.cons_append, List.nil_append, Bool.not_true, Bool.not_false]))
  (refine' e_call (num9) ?hp fun _ => ?_; (case hp => (repeat (first | exact Picks.nil | (apply Picks.cons; (focus (repeat constructor)))))); (try simp only [List.cons_append, List.nil_append, Bool.not_true, Bool.not_false]))
  (((with_reducible refine e_opN (v_add ?h1 ?h2) Imp.nil ?_); (case h1 => omega); (case h2 => omega)))
  refine e_opN v_eql Imp.nil ?_
  rw [decide_eq_true (by decide)]
  ((with_reducible refine e_gdT ?_)); ((with_reducible refine e_gdT ?_))
  refine e_opN (v_streq (l := kn2) (m := kn2)) Imp.nil ?_
  rw [decide_eq_true rfl]
  (((with_reducible refine e_opN v_pickT Imp.nil ?_))); ((with_reducible refine e_gdT ?_)); ((with_reducible refine e_gdT ?_))
  refine e_opN v_eql Imp.nil ?_
  rw [decide_eq_true rfl]
  (((with_reducible refine e_opN v_pickT Imp.nil ?_)))
  (first | refine e_ret (()) rfl ?_ | refine e_retT (()) ?_)
  (repeat (first | exact Imp.refl | exact Imp.nil | (apply Imp.pick; (focus ((repeat constructor); done))) | refine Imp.drop ?_))
end Go.Proofs.Ytcmpkkkigmheoaa.D
