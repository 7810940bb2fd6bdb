/- One form tried; what is given up is no date. No conditions but those that each names. -/
import Derived.Test.YtcmpkkkigmheoaaDate10
import Derived.Test.YtcmpkkkigmheoaaIface
set_option linter.unusedVariables false
set_option linter.unusedSimpArgs false
namespace Go.Proofs.Ytcmpkkkigmheoaa.D
open Go Go.Proofs Go.RowKit Go.Proofs.Ytcmpkkkigmheoaa.Sh Go.Proofs.Ytcmpkkkigmheoaa.Sl Go.Proofs.Ytcmpkkkigmheoaa.T
def tryR (k now : Int) (l : List UInt8) (rd : List UInt8 → Option Dt) : Option Int := match rd l with
  | none => none
  | some x => if okF x ∧ fm k (spD (jN x)) = l then some (jN x) else none
def pT (g : Nat) : Value := .pointer (some ⟨g, 0, none⟩)
theorem tryFails {W : World} {F : List HP} {g8 g9 : Nat} {v8 v9 : Value} {K : Value → WP} {Kq : PK}
    (h : Ent W (pt g8 (.cells #[.int .i64 0] 3) :: pt g9 (.cells #[.bool false] 4) :: F) (K (.tuple #[.int .i64 0, .bool false]))) :
    Ent W (pt g8 (.cells #[v8] 3) :: pt g9 (.cells #[v9] 4) :: F)
      (KpD Try.prog { target := .fn (.func 49) ([.pointer (some ⟨g8, 0, none⟩), .pointer (some ⟨g9, 0, none⟩)] : List Value).toArray, args := ([] : List Value).toArray } (S.dates_try_ret (.pointer (some ⟨g8, 0, none⟩)) (.pointer (some ⟨g9, 0, none⟩)) K) Kq pnD) := by
  unfold KpD
  refine e_dfS (f := 49) (A := [.pointer (some ⟨g8, 0, none⟩), .pointer (some ⟨g9, 0, none⟩)]) (shape := fun rv => S.dates_try_1 (.pointer (some ⟨g8, 0, none⟩)) (.pointer (some ⟨g9, 0, none⟩)) rv) (fun c => by cases c) ⟨_, _, rfl⟩ (inv_closure (cs := [.pointer (some ⟨g8, 0, none⟩), .pointer (some ⟨g9, 0, none⟩)]) (bs := []) Try.call49) (fun h => S.dates_try_1_d h) ?_
  unfold S.dates_try_1 pnD
  rw [rec_pan, lv_pan]
  refine e_stS (v_neIf (by kernel_rfl)) Imp.nil ?_
  refine e_condT ?_
  (((with_reducible refine' e_stN ?hp ?ho ?_); (case hp => (repeat constructor)); (case ho => (repeat (first | exact Put.here | apply Put.there))))); (((with_reducible refine' e_stN ?hp ?ho ?_); (case hp => (repeat constructor)); (case ho => (repeat (first | exact Put.here | apply Put.there)))))
  unfold S.dates_try_ret
  (((with_reducible refine' e_stS (v_res1 ?hc) ?hi ?_); (case hi => (repeat (first | exact Imp.refl | exact Imp.nil | (apply Imp.pick; (focus ((repeat constructor); done))) | refine Imp.drop ?_))); (case hc => (repeat (first | exact Nth.here | apply Nth.there))))); (((with_reducible refine' e_stS (v_res1 ?hc) ?hi ?_); (case hi => (repeat (first | exact Imp.refl | exact Imp.nil | (apply Imp.pick; (focus ((repeat constructor); done))) | refine Imp.drop ?_))); (case hc => (repeat (first | exact Nth.here | apply Nth.there)))))
  exact e_imp (by (repeat (first | exact Imp.refl | exact Imp.nil | (apply Imp.pick; (focus ((repeat constructor); done))) | refine Imp.drop ?_))) h
theorem tryEnds {W : World} {F : List HP} {g8 g9 : Nat} {n : Int} {b : Bool} {K : Value → WP} {Kq : PK}
    (h : Ent W (pt g8 (.cells #[.int .i64 n] 3) :: pt g9 (.cells #[.bool b] 4) :: F) (K (.tuple #[.int .i64 n, .bool b]))) :
    Ent W (pt g8 (.cells #[.int .i64 n] 3) :: pt g9 (.cells #[.bool b] 4) :: F)
      (dfS Try.prog { target := .fn (.func 49) ([.pointer (some ⟨g8, 0, none⟩), .pointer (some ⟨g9, 0, none⟩)] : List Value).toArray, args := ([] : List Value).toArray } .returning (S.dates_try_ret (.pointer (some ⟨g8, 0, none⟩)) (.pointer (some ⟨g9, 0, none⟩)) K) Kq) := by
  refine e_dfS (f := 49) (A := [.pointer (some ⟨g8, 0, none⟩), .pointer (some ⟨g9, 0, none⟩)]) (shape := fun rv => S.dates_try_1 (.pointer (some ⟨g8, 0, none⟩)) (.pointer (some ⟨g9, 0, none⟩)) rv) (fun c => by cases c) ⟨_, _, rfl⟩ (inv_closure (cs := [.pointer (some ⟨g8, 0, none⟩), .pointer (some ⟨g9, 0, none⟩)]) (bs := []) Try.call49) (fun h => S.dates_try_1_d h) ?_
  unfold S.dates_try_1
  rw [rec_ret, lv_ret]
  refine e_stS (v_neIf0 (by kernel_rfl)) Imp.nil ?_
  refine e_condF ?_
  unfold S.dates_try_ret
  (((with_reducible refine' e_stS (v_res1 ?hc) ?hi ?_); (case hi => (repeat (first | exact Imp.refl | exact Imp.nil | (apply Imp.pick; (focus ((repeat constructor); done))) | refine Imp.drop ?_))); (case hc => (repeat (first | exact Nth.here | apply Nth.there))))); (((with_reducible refine' e_stS (v_res1 ?hc) ?hi ?_); (case hi => (repeat (first | exact Imp.refl | exact Imp.nil | (apply Imp.pick; (focus ((repeat constructor); done))) | refine Imp.drop ?_))); (case hc => (repeat (first | exact Nth.here | apply Nth.there)))))
  exact e_imp (by (repeat (first | exact Imp.refl | exact Imp.nil | (apply Imp.pick; (focus ((repeat constructor); done))) | refine Imp.drop ?_))) h
theorem jN_ok {x : Dt} (h : okF x) : okT (jN x) := by
  have hj : jN x = dayN x.y x.m x.d * 86400 + x.h * 3600 + x.mi * 60 + x.s := if_pos h
  unfold okF at h
  obtain ⟨h1, h2, h3, h4, h5, h6, _⟩ := h
  have hb : 0 ≤ dayN x.y x.m x.d := (dayN_b h1 h2 h3).1
  have ht : dayN x.y x.m x.d ≤ 2932896 := by
    unfold dayN adj
    by_cases c : x.m ≤ 2
    · rw [if_pos c]
      have e : (x.m + 9) % 12 = x.m + 9 := by omega
      rw [e]
      obtain ⟨a, ha⟩ : ∃ a, a = x.y - 1 := ⟨_, rfl⟩
      rw [← ha]
      have h1 : a / 400 ≤ 24 := by omega
      have h2 : a / 400 = 24 → a % 400 ≤ 398 := by omega
      have h3 : 0 ≤ a % 400 ∧ a % 400 ≤ 399 := by omega
      generalize a / 400 = q at *
      generalize a % 400 = t at *
      omega
    · rw [if_neg c]
      have e : (x.m + 9) % 12 = x.m - 3 := by omega
      rw [e]
      have h1 : x.y / 400 ≤ 24 := by omega
      have h3 : 0 ≤ x.y % 400 ∧ x.y % 400 ≤ 399 := by omega
      generalize x.y / 400 = q at *
      generalize x.y % 400 = t at *
      omega
  unfold okT
  rw [hj]
  omega
theorem try_ {W : World} {f : FuncId} {k now : Int} {l : List UInt8} {rd : List UInt8 → Option Dt}
    (hf : ∀ p, CnP Try.prog f [.pointer (some ⟨p, 0, none⟩), .int .i64 now] W [IsRd p l] (fun x : Sm (rd l) => .agg (dtA x.1)) (fun _ => []) (fun _ : Nn (rd l) => pnD) (fun _ => [])) :
    Cn Try.prog 31 [txt l, .int .i64 k, .int .i64 now, fn f] W [] (fun _ : Unit => .tuple #[.int .i64 ((tryR k now l rd).getD 0), .bool (tryR k now l rd).isSome]) (fun _ => []) := by
  (refine S.dates_try_cn fun F => ?_; unfold S.dates_try; simp only [List.cons_append, List.nil_append])
  refine e_new1 fun g8 => ?_
  refine e_new1 fun g9 => ?_
  refine e_opN v_mkF Imp.nil ?_
  refine e_opDf ?_
  simp only [List.nil_append, Array.append_empty, List.append_toArray]
  refine e_opN v_rv Imp.nil ?_
  refine e_boxA fun gr => ?_
  refine e_imp (M := IsRd gr l :: pt g8 (.cells #[.int .i64 0] 3) :: pt g9 (.cells #[.bool false] 4) :: F) (by unfold IsRd; (repeat (first | exact Imp.refl | exact Imp.nil | (apply Imp.pick; (focus ((repeat constructor); done))) | refine Imp.drop ?_))) ?_
  (refine' e_callP (hf gr) ?hp (fun _ => ?_) (fun _ => ?_); (case hp => (repeat (first | exact Picks.nil | (apply Picks.cons; (focus (repeat constructor)))))); (all_goals (try simp only [List.cons_append, List.nil_append, Bool.not_true, Bool.not_false, -eq_self])))
  rotate_left
  · rename_i y
    refine e_imp (by (repeat (first | exact Imp.refl | exact Imp.nil | (apply Imp.pick; (focus ((repeat constructor); done))) | refine Imp.drop ?_))) (tryFails (F := F) ?_)
    rw [show tryR k now l rd = none by unfold tryR; rw [y.2]]
    (first | refine e_ret (()) rfl ?_ | refine e_retT (()) ?_)
    (repeat (first | exact Imp.refl | exact Imp.nil | (apply Imp.pick; (focus ((repeat constructor); done))) | refine Imp.drop ?_))
  rename_i x
  obtain ⟨x, hx⟩ := x
  (try dsimp only)
  have htr : tryR k now l rd = if okF x ∧ fm k (spD (jN x)) = l then some (jN x) else none := by unfold tryR; rw [hx]
  (refine' e_call (join (x := x)) ?hp fun _ => ?_; (case hp => (repeat (first | exact Picks.nil | (apply Picks.cons; (focus (repeat constructor)))))); (try simp only [List.cons_append, List.nil_append, Bool.not_true, Bool.not_false]))
  (((with_reducible refine' e_opN (v_extN ?hc) Imp.nil ?_); (case hc => (repeat (first | exact Nth.here | apply Nth.there))))); (((with_reducible refine' e_opN (v_extN ?hc) Imp.nil ?_); (case hc => (repeat (first | exact Nth.here | apply Nth.there))))); (((with_reducible refine' e_stN ?hp ?ho ?_); (case hp => (repeat constructor)); (case ho => (repeat (first | exact Put.here | apply Put.there))))); (((with_reducible refine' e_opN (v_ldN ?hc) ?hi ?_); (case hi => (repeat (first | exact Imp.refl | exact Imp.nil | (apply Imp.pick; (focus ((repeat constructor); done))) | refine Imp.drop ?_))); (case hc => (repeat (first | exact Nth.here | apply Nth.there)))))
  (refine' e_call (split (n := jN x)) ?hp fun _ => ?_; (case hp => (repeat (first | exact Picks.nil | (apply Picks.cons; (focus (repeat constructor)))))); (try simp only [List.cons_append, List.nil_append, Bool.not_true, Bool.not_false]))
  rw [show (Value.agg (dtA (spD (jN x)))) = .agg #[.int .i64 (spD (jN x)).y, .int .i64 (spD (jN x)).m, .int .i64 (spD (jN x)).d, .int .i64 (spD (jN x)).h, .int .i64 (spD (jN x)).mi, .int .i64 (spD (jN x)).s, .int .i64 (spD (jN x)).w] from rfl]
  (((with_reducible refine' e_opN (v_extN ?hc) Imp.nil ?_); (case hc => (repeat (first | exact Nth.here | apply Nth.there))))); (((with_reducible refine' e_opN (v_extN ?hc) Imp.nil ?_); (case hc => (repeat (first | exact Nth.here | apply Nth.there))))); (((with_reducible refine e_newA fun g => ?_))); (((with_reducible refine' e_stAgg ?hp ?hn ?hv ?h1 ?_); (case hp => (repeat constructor)); (case hn => rfl); (case hv => rfl); (case h1 => simp [Value.oneCell'])))
  refine e_ask v_neq Imp.nil (fun h => ?_) (fun h => ?_)
  · have nok : ¬ okF x := fun c => h (if_pos c)
    rw [show tryR k now l rd = none by rw [htr]; exact if_neg fun c => nok c.1]
    ((with_reducible refine e_gdF1 ?_)); ((with_reducible refine e_gdF1 ?_)); ((with_reducible refine e_gdF1 ?_)); ((with_reducible refine e_gdF1 ?_)); ((with_reducible refine e_gdF1 ?_)); (((with_reducible refine e_opN v_pickT Imp.nil ?_))); ((with_reducible refine e_condT ?_)); (((with_reducible refine' e_stN ?hp ?ho ?_); (case hp => (repeat constructor)); (case ho => (repeat (first | exact Put.here | apply Put.there))))); (((with_reducible refine' e_stN ?hp ?ho ?_); (case hp => (repeat constructor)); (case ho => (repeat (first | exact Put.here | apply Put.there)))))
    refine e_imp (by (repeat (first | exact Imp.refl | exact Imp.nil | (apply Imp.pick; (focus ((repeat constructor); done))) | refine Imp.drop ?_))) (tryEnds (F := F) ?_)
    (first | refine e_ret (()) rfl ?_ | refine e_retT (()) ?_)
    (repeat (first | exact Imp.refl | exact Imp.nil | (apply Imp.pick; (focus ((repeat constructor); done))) | refine Imp.drop ?_))
  have ok : okF x := Decidable.byContradiction fun c => h (by rw [show jE x = 41 from if_neg c]; decide)
  ((with_reducible refine e_gdT ?_)); (((with_reducible refine' e_opN (v_ldAgg ?hn) ?hi ?_); (case hi => (repeat (first | exact Imp.refl | exact Imp.nil | (apply Imp.pick; (focus ((repeat constructor); done))) | refine Imp.drop ?_))); (case hn => rfl))); ((with_reducible refine e_gdT ?_)); ((with_reducible refine e_gdT ?_))
  (refine' e_call (form (x := spD (jN x)) (k := k) (ok_sp (jN_ok ok))) ?hp fun _ => ?_; (case hp => (repeat (first | exact Picks.nil | (apply Picks.cons; (focus (repeat constructor)))))); (try simp only [List.cons_append, List.nil_append, Bool.not_true, Bool.not_false]))
  ((with_reducible refine e_gdT ?_)); ((with_reducible refine e_gdT ?_))
  refine e_ask v_strne Imp.nil (fun h => ?_) (fun h => ?_)
  · rw [show tryR k now l rd = none by rw [htr]; exact if_neg fun c => h c.2]
    (((with_reducible refine e_opN v_pickF Imp.nil ?_))); ((with_reducible refine e_condT ?_)); (((with_reducible refine' e_stN ?hp ?ho ?_); (case hp => (repeat constructor)); (case ho => (repeat (first | exact Put.here | apply Put.there))))); (((with_reducible refine' e_stN ?hp ?ho ?_); (case hp => (repeat constructor)); (case ho => (repeat (first | exact Put.here | apply Put.there)))))
    refine e_imp (by (repeat (first | exact Imp.refl | exact Imp.nil | (apply Imp.pick; (focus ((repeat constructor); done))) | refine Imp.drop ?_))) (tryEnds (F := F) ?_)
    (first | refine e_ret (()) rfl ?_ | refine e_retT (()) ?_)
    (repeat (first | exact Imp.refl | exact Imp.nil | (apply Imp.pick; (focus ((repeat constructor); done))) | refine Imp.drop ?_))
  · rw [show tryR k now l rd = some (jN x) by rw [htr]; exact if_pos ⟨ok, Decidable.not_not.1 h⟩]
    (((with_reducible refine e_opN v_pickF Imp.nil ?_))); ((with_reducible refine e_condF ?_)); (((with_reducible refine' e_opN (v_ldN ?hc) ?hi ?_); (case hi => (repeat (first | exact Imp.refl | exact Imp.nil | (apply Imp.pick; (focus ((repeat constructor); done))) | refine Imp.drop ?_))); (case hc => (repeat (first | exact Nth.here | apply Nth.there))))); (((with_reducible refine' e_stN ?hp ?ho ?_); (case hp => (repeat constructor)); (case ho => (repeat (first | exact Put.here | apply Put.there))))); (((with_reducible refine' e_stN ?hp ?ho ?_); (case hp => (repeat constructor)); (case ho => (repeat (first | exact Put.here | apply Put.there)))))
    refine e_imp (by (repeat (first | exact Imp.refl | exact Imp.nil | (apply Imp.pick; (focus ((repeat constructor); done))) | refine Imp.drop ?_))) (tryEnds (F := F) ?_)
    (first | refine e_ret (()) rfl ?_ | refine e_retT (()) ?_)
    (repeat (first | exact Imp.refl | exact Imp.nil | (apply Imp.pick; (focus ((repeat constructor); done))) | refine Imp.drop ?_))
end Go.Proofs.Ytcmpkkkigmheoaa.D
