/- The law DatesParses: what it does; a text that comes in. No conditions but those that each names. -/
import Derived.Test.YtcmpkkkigmheoaaDateHH
import Derived.Test.YtcmpkkkigmheoaaOld
set_option linter.unusedVariables false
set_option linter.unusedSimpArgs false
namespace Go.Proofs.Ytcmpkkkigmheoaa.D
open Go Go.Proofs Go.RowKit Go.Proofs.Ytcmpkkkigmheoaa.Sh Go.Proofs.Ytcmpkkkigmheoaa.Sl Go.Proofs.Ytcmpkkkigmheoaa.T
theorem open_txt {P : Program} {H : Type} {enc : TypeId × Value → H} {W : World} {sp : Nat → Bool} {held : Bool} {t : TypeId} {v : Value} {d : DataW H} {ps : List MemPlace} {r : Reach} {b0 : Nat} (ht : P.underlying t = some .string) (hval : Value.okWide P W r b0 t v) (hd : DataW.Trod enc P W 0 sp held t v d ps) :
    ∃ l : List UInt8, v = txt l ∧ l.length ≤ Rows.uptoBulk d := by
  obtain ⟨s, rfl⟩ := WideShapes.okWide_string ht hval
  obtain ⟨fuel, hf⟩ := hd
  obtain ⟨nm, h0, hx, _⟩ := DataW.trod_string ht hf
  have e : s = nm := by injection h0 with h0; injection h0
  subst e
  refine ⟨s.data.toList, by unfold txt; simp, ?_⟩
  have := (Prod.mk.inj hx).1
  rw [this]
  simp [Rows.uptoBulk]
theorem datesParses {W : World} {l : List UInt8} {now : Int} (hl : l.length ≤ 1048576) : Cn Try.prog 5 [txt l, .int .i64 now] W [] (fun _ : Unit => .bool true) (fun _ => []) := by
  have hp := par_rp now l
  (refine S.law09_DatesParses_cn fun F => ?_; unfold S.law09_DatesParses; simp only [List.cons_append, List.nil_append])
  (refine' e_call (parse (now := now) (l := l) (by omega)) ?hp fun _ => ?_; (case hp => (repeat (first | exact Picks.nil | (apply Picks.cons; (focus (repeat constructor)))))); (try simp only [List.cons_append, List.nil_append, Bool.not_true, Bool.not_false]))
  (((with_reducible refine' e_opN (v_extN ?hc) Imp.nil ?_); (case hc => (repeat (first | exact Nth.here | apply Nth.there))))); (((with_reducible refine' e_opN (v_extN ?hc) Imp.nil ?_); (case hc => (repeat (first | exact Nth.here | apply Nth.there)))))
  (refine' e_call (rparse (now := now) (l := l) (by omega)) ?hp fun _ => ?_; (case hp => (repeat (first | exact Picks.nil | (apply Picks.cons; (focus (repeat constructor)))))); (try simp only [List.cons_append, List.nil_append, Bool.not_true, Bool.not_false]))
  (((with_reducible refine' e_opN (v_extN ?hc) Imp.nil ?_); (case hc => (repeat (first | exact Nth.here | apply Nth.there))))); (((with_reducible refine' e_opN (v_extN ?hc) Imp.nil ?_); (case hc => (repeat (first | exact Nth.here | apply Nth.there)))))
  rw [← hp, show oE (paR now l) = paE now l from rfl, show (paR now l).getD 0 = paN now l from rfl]
  refine e_opN v_eql Imp.nil ?_
  rw [decide_eq_true rfl]
  ((with_reducible refine e_gdT ?_)); ((with_reducible refine e_gdT ?_))
  (refine' e_call (num9) ?hp fun _ => ?_; (case hp => (repeat (first | exact Picks.nil | (apply Picks.cons; (focus (repeat constructor)))))); (try simp only [List.cons_append, List.nil_append, Bool.not_true, Bool.not_false]))
  ((with_reducible refine e_gdT ?_)); ((with_reducible refine e_gdT ?_))
  refine e_opN v_eql Imp.nil ?_
  rw [decide_eq_true rfl]
  (((with_reducible refine e_opN v_pickT Imp.nil ?_))); ((with_reducible refine e_gdT ?_))
  (refine' e_call (knows9) ?hp fun _ => ?_; (case hp => (repeat (first | exact Picks.nil | (apply Picks.cons; (focus (repeat constructor)))))); (try simp only [List.cons_append, List.nil_append, Bool.not_true, Bool.not_false]))
  (((with_reducible refine e_opN v_pickT Imp.nil ?_)))
  (first | refine e_ret (()) rfl ?_ | refine e_retT (()) ?_)
  (repeat (first | exact Imp.refl | exact Imp.nil | (apply Imp.pick; (focus ((repeat constructor); done))) | refine Imp.drop ?_))
end Go.Proofs.Ytcmpkkkigmheoaa.D
