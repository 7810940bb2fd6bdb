/- An upstream as the program has it; the law's first answers. No conditions but those that each names. -/
import Derived.Test.YtpmcokpiplcnjaaPool6
import Derived.Test.YtpmcokpiplcnjaaMore
set_option linter.unusedVariables false
set_option linter.unusedSimpArgs false
namespace Go.Proofs.Ytpmcokpiplcnjaa.PL
open Go Go.Proofs Go.RowKit Go.Proofs.Ytpmcokpiplcnjaa.Sh Go.Proofs.Ytpmcokpiplcnjaa.Sl Go.Proofs.Ytpmcokpiplcnjaa.T
theorem own {W : World} {nm : ByteArray} {a : Option Addr} {c : Nat} {us : List (Int × Int)} {tmo rt : Int} {A : HP} (hr : RdB W A a (us.length * 2) (us.flatMap pr2)) (hl : us.length ≤ 1099511627776) :
    Cn Try.prog 15 [.agg #[.string nm, .slice a us.length c, .int .i64 tmo, .int .i64 rt]] W [A] (fun q : Option Addr × Nat => .agg #[.string nm, .slice q.1 us.length q.2, .int .i64 tmo, .int .i64 rt]) (fun q => [A, Sl 2 96 q.1 q.2 us.length (us.flatMap pr2)]) := by
  (refine S.law22_own_cn fun F => ?_; unfold S.law22_own; simp only [List.cons_append, List.nil_append])
  refine e_boxA fun b1 => ?_
  refine e_newA fun b2 => ?_
  (((with_reducible refine e_opN v_fa0 Imp.nil ?_))); (((with_reducible refine' e_opN (v_ldN ?hc) ?hi ?_); (case hi => (repeat (first | exact Imp.refl | exact Imp.nil | (apply Imp.pick; (focus ((repeat constructor); done))) | refine Imp.drop ?_))); (case hc => (repeat (first | exact Nth.here | apply Nth.there))))); (((with_reducible refine e_opN v_fa0 Imp.nil ?_))); (((with_reducible refine' e_opN (v_ldN ?hc) ?hi ?_); (case hi => (repeat (first | exact Imp.refl | exact Imp.nil | (apply Imp.pick; (focus ((repeat constructor); done))) | refine Imp.drop ?_))); (case hc => (repeat (first | exact Nth.here | apply Nth.there))))); (((with_reducible refine e_opN v_fa0 Imp.nil ?_))); (((with_reducible refine' e_opN (v_ldN ?hc) ?hi ?_); (case hi => (repeat (first | exact Imp.refl | exact Imp.nil | (apply Imp.pick; (focus ((repeat constructor); done))) | refine Imp.drop ?_))); (case hc => (repeat (first | exact Nth.here | apply Nth.there))))); (((with_reducible refine e_opN v_rv Imp.nil ?_))); (((with_reducible refine e_newA fun g => ?_))); (((with_reducible refine' e_stAgg ?hp ?hn ?hv ?h1 ?_); (case hp => (repeat constructor)); (case hn => rfl); (case hv => rfl); (case h1 => simp [Value.oneCell'])))
  rename Nat => b3
  refine e_nil (s := 2) (e := 96) ?_
  refine e_loop1 (fun m y => [ex fun i : Nat => ex fun q : Option Addr × Nat => all [pu (m + i = us.length ∧ y = .int .i64 (i : Int)), Sl 2 96 q.1 q.2 i ((us.take i).flatMap pr2), pt b3 (.cells #[.string nm, .slice q.1 i q.2, .int .i64 tmo, .int .i64 rt] 35), pt b1 (.cells #[.string nm, .slice a us.length c, .int .i64 tmo, .int .i64 rt] 28), pt b2 (.cells #[.string .empty, .slice none 0 0, .int .i64 0, .int .i64 0] 35), A]] ++ F) us.length ?_ ?_
  · refine .ex 0 (.ex (none, 0) (.all ?_))
    (try simp only [List.cons_append, List.nil_append, -eq_self])
    refine .pu ⟨by omega, rfl⟩ ?_
    exact .pick (by (repeat constructor)) (.pick (by (repeat constructor)) (.pick (by (repeat constructor)) (.pick (by (repeat constructor)) (.pick (by (repeat constructor)) (by (repeat (first | exact Imp.refl | exact Imp.nil | (apply Imp.pick; (focus ((repeat constructor); done))) | refine Imp.drop ?_)))))))
  intro m ds y
  (try simp only [List.cons_append, List.nil_append, -eq_self])
  refine e_ex Pick.here fun i => e_ex Pick.here fun q => e_all Pick.here ?_
  obtain ⟨qa, qc⟩ := q
  (try simp only [List.cons_append, List.nil_append, -eq_self])
  refine e_pu Pick.here fun hi => ?_
  obtain ⟨hmi, rfl⟩ := hi
  (((with_reducible refine e_opN v_fa0 Imp.nil ?_))); (((with_reducible refine' e_opN (v_ldN ?hc) ?hi ?_); (case hi => (repeat (first | exact Imp.refl | exact Imp.nil | (apply Imp.pick; (focus ((repeat constructor); done))) | refine Imp.drop ?_))); (case hc => (repeat (first | exact Nth.here | apply Nth.there))))); (((with_reducible refine e_opN v_len Imp.nil ?_)))
  (refine e_ask v_lss Imp.nil (fun h => ?_) (fun h => ?_))
  · have hil : i < us.length := by omega
    obtain ⟨g, o, rfl, _⟩ := hr.at_ (by omega)
    obtain ⟨u1, u2⟩ := pr2_get us i hil
    refine e_condT ?_
    refine e_drS ?_
    (((with_reducible refine e_stD v_fa0 Imp.nil ?_))); (((with_reducible refine' e_stD (v_ldN ?hc) ?hi ?_); (case hi => (repeat (first | exact Imp.refl | exact Imp.nil | (apply Imp.pick; (focus ((repeat constructor); done))) | refine Imp.drop ?_))); (case hc => (repeat (first | exact Nth.here | apply Nth.there))))); (((with_reducible refine e_stS v_fa0 Imp.nil ?_))); (((with_reducible refine' e_stS (v_ldN ?hc) ?hi ?_); (case hi => (repeat (first | exact Imp.refl | exact Imp.nil | (apply Imp.pick; (focus ((repeat constructor); done))) | refine Imp.drop ?_))); (case hc => (repeat (first | exact Nth.here | apply Nth.there)))))
    refine e_stS (v_ia i (by rfl) hil) Imp.nil ?_
    (((with_reducible refine e_stS v_fa Imp.nil ?_)))
    refine e_stS (v_ldRd2 hr (j := 0) u1) (.pick (by (repeat constructor)) .nil) ?_
    (((with_reducible refine e_stS v_fa0 Imp.nil ?_))); (((with_reducible refine' e_stS (v_ldN ?hc) ?hi ?_); (case hi => (repeat (first | exact Imp.refl | exact Imp.nil | (apply Imp.pick; (focus ((repeat constructor); done))) | refine Imp.drop ?_))); (case hc => (repeat (first | exact Nth.here | apply Nth.there)))))
    refine e_stS (v_ia i (by rfl) hil) Imp.nil ?_
    (((with_reducible refine e_stS v_fa Imp.nil ?_)))
    refine e_stS (v_ldRd2 hr (j := 1) u2) (.pick (by (repeat constructor)) .nil) ?_
    unfold I
    (((with_reducible refine e_stS v_rv Imp.nil ?_)))
    refine e_bslS (n := 1) (vs := [.agg #[.int .i64 us[i].1, .int .i64 us[i].2]]) rfl (by omega) rfl (by intro v hv; rw [List.mem_singleton.1 hv]; rfl) (by omega) fun gb => ?_
    (((with_reducible refine e_obl ?hi ?_); (case hi => (repeat (first | exact Imp.refl | exact Imp.nil | (apply Imp.pick; (focus ((repeat constructor); done))) | refine Imp.drop ?_))))); (((with_reducible refine e_obl ?hi ?_); (case hi => (repeat (first | exact Imp.refl | exact Imp.nil | (apply Imp.pick; (focus ((repeat constructor); done))) | refine Imp.drop ?_)))))
    refine e_app (m := 1) (news := [I us[i].1, I us[i].2]) (by (repeat constructor)) (src_pt (e' := 96) (by kernel_rfl) .here (by rfl) (by simp [Value.cells, I, Value.oneCell'])) (by omega) (by omega) fun a' c' => ?_
    (((with_reducible refine e_stS v_fa0 Imp.nil ?_))); (((with_reducible refine' e_stN ?hp ?ho ?_); (case hp => (repeat constructor)); (case ho => (repeat (first | exact Put.here | apply Put.there))))); (((with_reducible refine e_opN (v_add ?h1 ?h2) Imp.nil ?_); (case h1 => omega); (case h2 => omega)))
    have t1 : (us.take (i + 1)).flatMap pr2 = (us.take i).flatMap pr2 ++ [I us[i].1, I us[i].2] := by rw [List.take_add_one, List.getElem?_eq_getElem hil, List.flatMap_append]; simp [pr2]
    refine e_next1 (m - 1) (by omega) (.ex (i + 1) (.ex (a', c') (.all ?_)))
    (try simp only [List.cons_append, List.nil_append, -eq_self])
    refine .pu ⟨by omega, rfl⟩ ?_
    rw [t1]
    exact .pick (by (repeat constructor)) (.pick (by (repeat constructor)) (.pick (by (repeat constructor)) (.pick (by (repeat constructor)) (.pick (by (repeat constructor)) (by (repeat (first | exact Imp.refl | exact Imp.nil | (apply Imp.pick; (focus ((repeat constructor); done))) | refine Imp.drop ?_)))))))
  · have : i = us.length := by omega
    subst this
    rw [List.take_length]
    ((with_reducible refine e_condF ?_)); (((with_reducible refine' e_opN (v_ldAgg ?hn) ?hi ?_); (case hi => (repeat (first | exact Imp.refl | exact Imp.nil | (apply Imp.pick; (focus ((repeat constructor); done))) | refine Imp.drop ?_))); (case hn => rfl))); (((with_reducible refine' e_stAgg ?hp ?hn ?hv ?h1 ?_); (case hp => (repeat constructor)); (case hn => rfl); (case hv => rfl); (case h1 => simp [Value.oneCell']))); (((with_reducible refine' e_stS (v_resA ?hn) ?hi ?_); (case hi => (repeat (first | exact Imp.refl | exact Imp.nil | (apply Imp.pick; (focus ((repeat constructor); done))) | refine Imp.drop ?_))); (case hn => rfl)))
    (first | refine e_ret ((qa, qc)) rfl ?_ | refine e_retT ((qa, qc)) ?_)
    (repeat (first | exact Imp.refl | exact Imp.nil | (apply Imp.pick; (focus ((repeat constructor); done))) | refine Imp.drop ?_))
end Go.Proofs.Ytpmcokpiplcnjaa.PL
