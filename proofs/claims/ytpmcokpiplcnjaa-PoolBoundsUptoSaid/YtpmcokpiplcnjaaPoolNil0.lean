/- The law's first answers; no pool, and one that nobody made. No conditions but those that each names. -/
import Derived.Test.YtpmcokpiplcnjaaPool8
set_option linter.unusedVariables false
set_option linter.unusedSimpArgs false
namespace Go.Proofs.Ytpmcokpiplcnjaa.PL
open Go Go.Proofs Go.RowKit Go.Proofs.Ytpmcokpiplcnjaa.Sh Go.Proofs.Ytpmcokpiplcnjaa.Sl Go.Proofs.Ytpmcokpiplcnjaa.T
theorem knows {W : World} : Cn Try.prog 17 [] W [] (fun _ : Unit => .bool true) (fun _ => []) := by
  (refine S.law22_knows_cn fun F => ?_; unfold S.law22_knows; simp only [List.cons_append, List.nil_append])
  (refine' e_call (two) ?hp fun _ => ?_; (case hp => (repeat (first | exact Picks.nil | (apply Picks.cons; (focus (repeat constructor)))))); (try simp only [List.cons_append, List.nil_append, Bool.not_true, Bool.not_false]))
  rename_i g
  (refine' e_call (own (us := u2) (nm := .empty) (a := some ⟨g, 0, none⟩) (A := pt g (.cells #[.int .i64 1, .int .i64 1, .int .i64 2, .int .i64 1] 39)) (rd_pt (cs := u2.flatMap pr2) rfl) (by decide)) ?hp fun _ => ?_; (case hp => (repeat (first | exact Picks.nil | (apply Picks.cons; (focus (repeat constructor)))))); (try simp only [List.cons_append, List.nil_append, Bool.not_true, Bool.not_false]))
  rename_i q
  obtain ⟨qa, qc⟩ := q
  (try dsimp only)
  refine e_slsome (.there .here) (by decide) fun g2 hg2 => ?_
  subst hg2
  (refine' e_call (new (us := u2) (nm := .string .empty) (a := some ⟨g2, 0, none⟩) (c := qc) (tmo := 10) (rt := 0) (A := Sl 2 96 (some ⟨g2, 0, none⟩) qc u2.length (u2.flatMap pr2)) (rd_slG rfl (fun _ => ⟨g2, rfl⟩))) ?hp fun _ => ?_; (case hp => (repeat (first | exact Picks.nil | (apply Picks.cons; (focus (repeat constructor)))))); (try simp only [List.cons_append, List.nil_append, Bool.not_true, Bool.not_false]))
  rename_i x
  obtain ⟨r, hr⟩ := x
  cases r with
  | none => exact absurd ok2 hr
  | some pg =>
    obtain ⟨p, gs⟩ := pg
    simp only [newV, newH]
    rw [show newI u2 10 u2.length = k0 from rfl]
    refine e_opN (v_ext (v := pv p) rfl) Imp.nil ?_
    refine e_opN (v_ext (v := .int .i64 0) rfl) Imp.nil ?_
    (refine' e_call (num_) ?hp fun _ => ?_; (case hp => (repeat (first | exact Picks.nil | (apply Picks.cons; (focus (repeat constructor)))))); (try simp only [List.cons_append, List.nil_append, Bool.not_true, Bool.not_false]))
    refine e_opN v_neq Imp.nil ?_
    rw [decide_eq_false (by decide)]
    unfold pv
    ((with_reducible refine e_gdT ?_)); ((with_reducible refine e_gdT ?_)); (((with_reducible refine e_opN v_eqNil1 Imp.nil ?_))); (((with_reducible refine e_opN v_pickF Imp.nil ?_))); ((with_reducible refine e_condF ?_))
    rw [show (.pointer (some ⟨p, 0, none⟩) : Value) = pv p from rfl]
    (refine' e_call (take (p := p) (gs := gs) (Z := k0) (now := 0) (w0.wf (by omega)) (w0.idle (by omega))) ?hp fun _ => ?_; (case hp => (repeat (first | exact Picks.nil | (apply Picks.cons; (focus (repeat constructor)))))); (try simp only [List.cons_append, List.nil_append, Bool.not_true, Bool.not_false]))
    rw [t0, show (takeF k0 0).2 = k1 from rfl]
    unfold tkV
    (((with_reducible refine' e_opN (v_extN ?hc) Imp.nil ?_); (case hc => (repeat (first | exact Nth.here | apply Nth.there))))); (((with_reducible refine' e_opN (v_extN ?hc) Imp.nil ?_); (case hc => (repeat (first | exact Nth.here | apply Nth.there))))); (((with_reducible refine' e_opN (v_extN ?hc) Imp.nil ?_); (case hc => (repeat (first | exact Nth.here | apply Nth.there))))); (((with_reducible refine e_newA fun g => ?_))); (((with_reducible refine' e_stAgg ?hp ?hn ?hv ?h1 ?_); (case hp => (repeat constructor)); (case hn => rfl); (case hv => rfl); (case h1 => simp [Value.oneCell'])))
    (refine' e_call (take (p := p) (gs := gs) (Z := k1) (now := 0) (w1.wf (by omega)) (w1.idle (by omega))) ?hp fun _ => ?_; (case hp => (repeat (first | exact Picks.nil | (apply Picks.cons; (focus (repeat constructor)))))); (try simp only [List.cons_append, List.nil_append, Bool.not_true, Bool.not_false]))
    rw [t1, show (takeF k1 0).2 = k2 from rfl]
    unfold tkV
    (((with_reducible refine' e_opN (v_extN ?hc) Imp.nil ?_); (case hc => (repeat (first | exact Nth.here | apply Nth.there))))); (((with_reducible refine' e_opN (v_extN ?hc) Imp.nil ?_); (case hc => (repeat (first | exact Nth.here | apply Nth.there))))); (((with_reducible refine' e_opN (v_extN ?hc) Imp.nil ?_); (case hc => (repeat (first | exact Nth.here | apply Nth.there))))); (((with_reducible refine e_newA fun g => ?_))); (((with_reducible refine' e_stAgg ?hp ?hn ?hv ?h1 ?_); (case hp => (repeat constructor)); (case hn => rfl); (case hv => rfl); (case h1 => simp [Value.oneCell'])))
    (refine' e_call (take (p := p) (gs := gs) (Z := k2) (now := 0) (w2.wf (by omega)) (w2.idle (by omega))) ?hp fun _ => ?_; (case hp => (repeat (first | exact Picks.nil | (apply Picks.cons; (focus (repeat constructor)))))); (try simp only [List.cons_append, List.nil_append, Bool.not_true, Bool.not_false]))
    rw [t2, show (takeF k2 0).2 = k3 from rfl]
    unfold tkV
    (((with_reducible refine' e_opN (v_extN ?hc) Imp.nil ?_); (case hc => (repeat (first | exact Nth.here | apply Nth.there))))); (((with_reducible refine' e_opN (v_extN ?hc) Imp.nil ?_); (case hc => (repeat (first | exact Nth.here | apply Nth.there))))); (((with_reducible refine' e_opN (v_extN ?hc) Imp.nil ?_); (case hc => (repeat (first | exact Nth.here | apply Nth.there))))); (((with_reducible refine e_newA fun g => ?_))); (((with_reducible refine' e_stAgg ?hp ?hn ?hv ?h1 ?_); (case hp => (repeat constructor)); (case hn => rfl); (case hv => rfl); (case h1 => simp [Value.oneCell'])))
    (refine' e_call (done_ (p := p) (gs := gs) (Z := k3) (id := 0) (keep := true) (w3.wf (by omega))) ?hp fun _ => ?_; (case hp => (repeat (first | exact Picks.nil | (apply Picks.cons; (focus (repeat constructor)))))); (try simp only [List.cons_append, List.nil_append, Bool.not_true, Bool.not_false]))
    rw [t3, show done k3 0 true = k4 from rfl]
    (refine' e_call (take (p := p) (gs := gs) (Z := k4) (now := 0) (w4.wf (by omega)) (w4.idle (by omega))) ?hp fun _ => ?_; (case hp => (repeat (first | exact Picks.nil | (apply Picks.cons; (focus (repeat constructor)))))); (try simp only [List.cons_append, List.nil_append, Bool.not_true, Bool.not_false]))
    rw [t4]
    unfold tkV
    (((with_reducible refine' e_opN (v_extN ?hc) Imp.nil ?_); (case hc => (repeat (first | exact Nth.here | apply Nth.there))))); (((with_reducible refine' e_opN (v_extN ?hc) Imp.nil ?_); (case hc => (repeat (first | exact Nth.here | apply Nth.there))))); (((with_reducible refine' e_opN (v_extN ?hc) Imp.nil ?_); (case hc => (repeat (first | exact Nth.here | apply Nth.there))))); (((with_reducible refine e_newA fun g => ?_))); (((with_reducible refine' e_stAgg ?hp ?hn ?hv ?h1 ?_); (case hp => (repeat constructor)); (case hn => rfl); (case hv => rfl); (case h1 => simp [Value.oneCell']))); (((with_reducible refine e_opN v_fa0 Imp.nil ?_))); (((with_reducible refine' e_opN (v_ldN ?hc) ?hi ?_); (case hi => (repeat (first | exact Imp.refl | exact Imp.nil | (apply Imp.pick; (focus ((repeat constructor); done))) | refine Imp.drop ?_))); (case hc => (repeat (first | exact Nth.here | apply Nth.there)))))
    refine e_opN v_eql Imp.nil ?_
    rw [decide_eq_true rfl]
    ((with_reducible refine e_gdT ?_)); (((with_reducible refine e_opN v_pickT Imp.nil ?_))); ((with_reducible refine e_gdT ?_)); (((with_reducible refine e_opN v_fa0 Imp.nil ?_))); ((with_reducible refine e_gdT ?_)); (((with_reducible refine' e_opN (v_ldN ?hc) ?hi ?_); (case hi => (repeat (first | exact Imp.refl | exact Imp.nil | (apply Imp.pick; (focus ((repeat constructor); done))) | refine Imp.drop ?_))); (case hc => (repeat (first | exact Nth.here | apply Nth.there))))); ((with_reducible refine e_gdT ?_))
    refine e_opN v_eql Imp.nil ?_
    rw [decide_eq_true rfl]
    (((with_reducible refine e_opN v_pickT Imp.nil ?_))); ((with_reducible refine e_gdT ?_)); (((with_reducible refine e_opN v_fa0 Imp.nil ?_))); ((with_reducible refine e_gdT ?_)); (((with_reducible refine' e_opN (v_ldN ?hc) ?hi ?_); (case hi => (repeat (first | exact Imp.refl | exact Imp.nil | (apply Imp.pick; (focus ((repeat constructor); done))) | refine Imp.drop ?_))); (case hc => (repeat (first | exact Nth.here | apply Nth.there))))); ((with_reducible refine e_gdT ?_))
    refine e_opN v_eql Imp.nil ?_
    rw [decide_eq_true rfl]
    (((with_reducible refine e_opN v_pickT Imp.nil ?_))); ((with_reducible refine e_gdT ?_)); (((with_reducible refine e_opN v_pickT Imp.nil ?_))); ((with_reducible refine e_gdT ?_)); ((with_reducible refine e_gdT ?_))
    (refine' e_call (num_) ?hp fun _ => ?_; (case hp => (repeat (first | exact Picks.nil | (apply Picks.cons; (focus (repeat constructor)))))); (try simp only [List.cons_append, List.nil_append, Bool.not_true, Bool.not_false]))
    ((with_reducible refine e_gdT ?_))
    refine e_opN v_eql Imp.nil ?_
    rw [decide_eq_true rfl]
    (((with_reducible refine e_opN v_pickT Imp.nil ?_))); ((with_reducible refine e_gdT ?_)); ((with_reducible refine e_gdT ?_))
    (refine' e_call (num_) ?hp fun _ => ?_; (case hp => (repeat (first | exact Picks.nil | (apply Picks.cons; (focus (repeat constructor)))))); (try simp only [List.cons_append, List.nil_append, Bool.not_true, Bool.not_false]))
    ((with_reducible refine e_gdT ?_))
    refine e_opN v_eql Imp.nil ?_
    rw [decide_eq_true rfl]
    (((with_reducible refine e_opN v_pickT Imp.nil ?_))); ((with_reducible refine e_gdT ?_)); (((with_reducible refine e_opN v_fa0 Imp.nil ?_))); ((with_reducible refine e_gdT ?_)); (((with_reducible refine' e_opN (v_ldN ?hc) ?hi ?_); (case hi => (repeat (first | exact Imp.refl | exact Imp.nil | (apply Imp.pick; (focus ((repeat constructor); done))) | refine Imp.drop ?_))); (case hc => (repeat (first | exact Nth.here | apply Nth.there))))); ((with_reducible refine e_gdT ?_))
    refine e_opN v_eql Imp.nil ?_
    rw [decide_eq_true rfl]
    (((with_reducible refine e_opN v_pickT Imp.nil ?_))); ((with_reducible refine e_gdT ?_)); ((with_reducible refine e_gdT ?_)); (((with_reducible refine e_opN v_notF Imp.nil ?_))); (((with_reducible refine e_opN v_pickT Imp.nil ?_)))
    (first | refine e_ret (()) rfl ?_ | refine e_retT (()) ?_)
    (repeat (first | exact Imp.refl | exact Imp.nil | (apply Imp.pick; (focus ((repeat constructor); done))) | refine Imp.drop ?_))
def np (o : Option Nat) : Value := .pointer (o.map fun g => ⟨g, 0, none⟩)
instance {o : Option Nat} : OC (np o) := ⟨rfl⟩
def NilIs (o : Option Nat) : HP := match o with
  | none => pu True
  | some g => pt g (.cells #[.slice none 0 0, .map none, .map none, .int .i64 0, .int .i64 0, .int .i64 0] 95)
theorem none0 {W : World} {o : Option Nat} : Cn Try.prog 47 [np o] W [NilIs o] (fun _ : Unit => .bool true) (fun _ => [NilIs o]) := by
  cases o with
  | none =>
    unfold np NilIs
    simp only [Option.map_none]
    (refine S.pool_Pool_none_cn fun F => ?_; unfold S.pool_Pool_none; simp only [List.cons_append, List.nil_append])
    (((with_reducible refine e_opN v_eqNil0 Imp.nil ?_))); ((with_reducible refine e_gdF1 ?_)); ((with_reducible refine e_gdF1 ?_)); ((with_reducible refine e_gdF1 ?_)); ((with_reducible refine e_gdF1 ?_)); ((with_reducible refine e_gdF1 ?_)); (((with_reducible refine e_opN v_pickT Imp.nil ?_)))
    (first | refine e_ret (()) rfl ?_ | refine e_retT (()) ?_)
    exact .refl
  | some g =>
    unfold np NilIs
    simp only [Option.map_some]
    (refine S.pool_Pool_none_cn fun F => ?_; unfold S.pool_Pool_none; simp only [List.cons_append, List.nil_append])
    (((with_reducible refine e_opN v_eqNil1 Imp.nil ?_))); ((with_reducible refine e_gdT ?_)); ((with_reducible refine e_gdT ?_)); (((with_reducible refine e_opN v_nil Imp.nil ?_))); ((with_reducible refine e_gdT ?_)); (((with_reducible refine e_opN v_fa0 Imp.nil ?_))); ((with_reducible refine e_gdT ?_)); (((with_reducible refine' e_opN (v_ldN ?hc) ?hi ?_); (case hi => (repeat (first | exact Imp.refl | exact Imp.nil | (apply Imp.pick; (focus ((repeat constructor); done))) | refine Imp.drop ?_))); (case hc => (repeat (first | exact Nth.here | apply Nth.there))))); ((with_reducible refine e_gdT ?_))
    refine e_opN v_eqMap0 Imp.nil ?_
    (((with_reducible refine e_opN v_pickF Imp.nil ?_)))
    (first | refine e_ret (()) rfl ?_ | refine e_retT (()) ?_)
    exact .refl
theorem take0 {W : World} {o : Option Nat} {now : Int} : Cn Try.prog 18 [np o, .int .i64 now] W [NilIs o] (fun _ : Unit => .tuple #[.agg #[.int .i64 0, .int .i64 0], .bool false, .int .i64 1]) (fun _ => [NilIs o]) := by
  (refine S.pool_Pool_Take_cn fun F => ?_; unfold S.pool_Pool_Take; simp only [List.cons_append, List.nil_append])
  refine e_box1 fun b2 => ?_
  (((with_reducible refine e_box1 fun g => ?_))); (((with_reducible refine e_newA fun g => ?_))); (((with_reducible refine e_new1 fun g => ?_))); (((with_reducible refine e_new1 fun g => ?_))); (((with_reducible refine' e_opN (v_ldN ?hc) ?hi ?_); (case hi => (repeat (first | exact Imp.refl | exact Imp.nil | (apply Imp.pick; (focus ((repeat constructor); done))) | refine Imp.drop ?_))); (case hc => (repeat (first | exact Nth.here | apply Nth.there)))))
  (refine' e_call (none0 (o := o)) ?hp fun _ => ?_; (case hp => (repeat (first | exact Picks.nil | (apply Picks.cons; (focus (repeat constructor)))))); (try simp only [List.cons_append, List.nil_append, Bool.not_true, Bool.not_false]))
  ((with_reducible refine e_condT ?_)); (((with_reducible refine e_opN v_rv Imp.nil ?_))); (((with_reducible refine' e_stAgg ?hp ?hn ?hv ?h1 ?_); (case hp => (repeat constructor)); (case hn => rfl); (case hv => rfl); (case h1 => simp [Value.oneCell']))); (((with_reducible refine' e_stN ?hp ?ho ?_); (case hp => (repeat constructor)); (case ho => (repeat (first | exact Put.here | apply Put.there))))); (((with_reducible refine' e_stN ?hp ?ho ?_); (case hp => (repeat constructor)); (case ho => (repeat (first | exact Put.here | apply Put.there))))); (((with_reducible refine' e_stS (v_resA ?hn) ?hi ?_); (case hi => (repeat (first | exact Imp.refl | exact Imp.nil | (apply Imp.pick; (focus ((repeat constructor); done))) | refine Imp.drop ?_))); (case hn => rfl))); (((with_reducible refine' e_stS (v_res1 ?hc) ?hi ?_); (case hi => (repeat (first | exact Imp.refl | exact Imp.nil | (apply Imp.pick; (focus ((repeat constructor); done))) | refine Imp.drop ?_))); (case hc => (repeat (first | exact Nth.here | apply Nth.there))))); (((with_reducible refine' e_stS (v_res1 ?hc) ?hi ?_); (case hi => (repeat (first | exact Imp.refl | exact Imp.nil | (apply Imp.pick; (focus ((repeat constructor); done))) | refine Imp.drop ?_))); (case hc => (repeat (first | exact Nth.here | apply Nth.there)))))
  (first | refine e_ret (()) rfl ?_ | refine e_retT (()) ?_)
  (repeat (first | exact Imp.refl | exact Imp.nil | (apply Imp.pick; (focus ((repeat constructor); done))) | refine Imp.drop ?_))
theorem done0 {W : World} {o : Option Nat} {id : Int} {k : Bool} : Cn Try.prog 40 [np o, .int .i64 id, .bool k] W [NilIs o] (fun _ : Unit => .int .i64 1) (fun _ => [NilIs o]) := by
  (refine S.pool_Pool_Done_cn fun F => ?_; unfold S.pool_Pool_Done; simp only [List.cons_append, List.nil_append])
  (refine' e_call (none0 (o := o)) ?hp fun _ => ?_; (case hp => (repeat (first | exact Picks.nil | (apply Picks.cons; (focus (repeat constructor)))))); (try simp only [List.cons_append, List.nil_append, Bool.not_true, Bool.not_false]))
  ((with_reducible refine e_condT ?_))
  (first | refine e_ret (()) rfl ?_ | refine e_retT (()) ?_)
  (repeat (first | exact Imp.refl | exact Imp.nil | (apply Imp.pick; (focus ((repeat constructor); done))) | refine Imp.drop ?_))
theorem fail0 {W : World} {o : Option Nat} {id now : Int} : Cn Try.prog 41 [np o, .int .i64 id, .int .i64 now] W [NilIs o] (fun _ : Unit => .int .i64 1) (fun _ => [NilIs o]) := by
  (refine S.pool_Pool_Fail_cn fun F => ?_; unfold S.pool_Pool_Fail; simp only [List.cons_append, List.nil_append])
  (refine' e_call (none0 (o := o)) ?hp fun _ => ?_; (case hp => (repeat (first | exact Picks.nil | (apply Picks.cons; (focus (repeat constructor)))))); (try simp only [List.cons_append, List.nil_append, Bool.not_true, Bool.not_false]))
  ((with_reducible refine e_condT ?_))
  (first | refine e_ret (()) rfl ?_ | refine e_retT (()) ?_)
  (repeat (first | exact Imp.refl | exact Imp.nil | (apply Imp.pick; (focus ((repeat constructor); done))) | refine Imp.drop ?_))
theorem gone0 {W : World} {o : Option Nat} {id : Int} : Cn Try.prog 44 [np o, .int .i64 id] W [NilIs o] (fun _ : Unit => .int .i64 1) (fun _ => [NilIs o]) := by
  (refine S.pool_Pool_Gone_cn fun F => ?_; unfold S.pool_Pool_Gone; simp only [List.cons_append, List.nil_append])
  (((with_reducible refine e_box1 fun g => ?_)))
  (refine' e_call (none0 (o := o)) ?hp fun _ => ?_; (case hp => (repeat (first | exact Picks.nil | (apply Picks.cons; (focus (repeat constructor)))))); (try simp only [List.cons_append, List.nil_append, Bool.not_true, Bool.not_false]))
  ((with_reducible refine e_condT ?_))
  (first | refine e_ret (()) rfl ?_ | refine e_retT (()) ?_)
  (repeat (first | exact Imp.refl | exact Imp.nil | (apply Imp.pick; (focus ((repeat constructor); done))) | refine Imp.drop ?_))
theorem busy0 {W : World} {o : Option Nat} {id : Int} : Cn Try.prog 42 [np o, .int .i64 id] W [NilIs o] (fun _ : Unit => .int .i64 0) (fun _ => [NilIs o]) := by
  (refine S.pool_Pool_Busy_cn fun F => ?_; unfold S.pool_Pool_Busy; simp only [List.cons_append, List.nil_append])
  (refine' e_call (none0 (o := o)) ?hp fun _ => ?_; (case hp => (repeat (first | exact Picks.nil | (apply Picks.cons; (focus (repeat constructor)))))); (try simp only [List.cons_append, List.nil_append, Bool.not_true, Bool.not_false]))
  ((with_reducible refine e_gdF1 ?_)); ((with_reducible refine e_gdF1 ?_)); ((with_reducible refine e_gdF1 ?_)); ((with_reducible refine e_gdF1 ?_)); (((with_reducible refine e_opN v_pickT Imp.nil ?_))); ((with_reducible refine e_condT ?_))
  (first | refine e_ret (()) rfl ?_ | refine e_retT (()) ?_)
  (repeat (first | exact Imp.refl | exact Imp.nil | (apply Imp.pick; (focus ((repeat constructor); done))) | refine Imp.drop ?_))
theorem idle0 {W : World} {o : Option Nat} {id : Int} : Cn Try.prog 43 [np o, .int .i64 id] W [NilIs o] (fun _ : Unit => .int .i64 0) (fun _ => [NilIs o]) := by
  (refine S.pool_Pool_Idle_cn fun F => ?_; unfold S.pool_Pool_Idle; simp only [List.cons_append, List.nil_append])
  (refine' e_call (none0 (o := o)) ?hp fun _ => ?_; (case hp => (repeat (first | exact Picks.nil | (apply Picks.cons; (focus (repeat constructor)))))); (try simp only [List.cons_append, List.nil_append, Bool.not_true, Bool.not_false]))
  ((with_reducible refine e_gdF1 ?_)); ((with_reducible refine e_gdF1 ?_)); ((with_reducible refine e_gdF1 ?_)); ((with_reducible refine e_gdF1 ?_)); (((with_reducible refine e_opN v_pickT Imp.nil ?_))); ((with_reducible refine e_condT ?_))
  (first | refine e_ret (()) rfl ?_ | refine e_retT (()) ?_)
  (repeat (first | exact Imp.refl | exact Imp.nil | (apply Imp.pick; (focus ((repeat constructor); done))) | refine Imp.drop ?_))
theorem poolNil {W : World} {id now : Int} : Cn Try.prog 10 [.int .i64 id, .int .i64 now] W [] (fun _ : Unit => .bool true) (fun _ => []) := by
  (refine S.law22_PoolNil_cn fun F => ?_; unfold S.law22_PoolNil; simp only [List.cons_append, List.nil_append])
  refine e_loop2 (fun m x y => [ex fun q : Nat × Option Nat => all [pu (m + q.1 = 2 ∧ x = np q.2 ∧ y = .int .i64 (q.1 : Int)), NilIs q.2]] ++ F) 2 ?_ ?_
  · refine .ex (0, none) (.all ?_)
    (try simp only [List.cons_append, List.nil_append, -eq_self])
    exact .pu ⟨rfl, rfl, rfl⟩ (.pu trivial .refl)
  intro m ds x y
  (try simp only [List.cons_append, List.nil_append, -eq_self])
  refine e_ex Pick.here fun q => e_all Pick.here ?_
  obtain ⟨i, o⟩ := q
  (try simp only [List.cons_append, List.nil_append, -eq_self])
  refine e_pu Pick.here fun hi => ?_
  obtain ⟨hmi, rfl, rfl⟩ := hi
  (refine e_ask v_lss Imp.nil (fun h => ?_) (fun h => ?_))
  · refine e_condT ?_
    (refine' e_call (take0 (o := o)) ?hp fun _ => ?_; (case hp => (repeat (first | exact Picks.nil | (apply Picks.cons; (focus (repeat constructor)))))); (try simp only [List.cons_append, List.nil_append, Bool.not_true, Bool.not_false]))
    (((with_reducible refine' e_opN (v_extN ?hc) Imp.nil ?_); (case hc => (repeat (first | exact Nth.here | apply Nth.there))))); (((with_reducible refine' e_opN (v_extN ?hc) Imp.nil ?_); (case hc => (repeat (first | exact Nth.here | apply Nth.there))))); (((with_reducible refine' e_opN (v_extN ?hc) Imp.nil ?_); (case hc => (repeat (first | exact Nth.here | apply Nth.there))))); (((with_reducible refine e_newA fun g => ?_))); (((with_reducible refine' e_stAgg ?hp ?hn ?hv ?h1 ?_); (case hp => (repeat constructor)); (case hn => rfl); (case hv => rfl); (case h1 => simp [Value.oneCell']))); (((with_reducible refine e_opN v_fa0 Imp.nil ?_))); (((with_reducible refine' e_opN (v_ldN ?hc) ?hi ?_); (case hi => (repeat (first | exact Imp.refl | exact Imp.nil | (apply Imp.pick; (focus ((repeat constructor); done))) | refine Imp.drop ?_))); (case hc => (repeat (first | exact Nth.here | apply Nth.there)))))
    refine e_opN v_neq Imp.nil ?_
    rw [decide_eq_false (by decide)]
    ((with_reducible refine e_gdT ?_)); (((with_reducible refine e_opN v_fa0 Imp.nil ?_))); ((with_reducible refine e_gdT ?_)); (((with_reducible refine' e_opN (v_ldN ?hc) ?hi ?_); (case hi => (repeat (first | exact Imp.refl | exact Imp.nil | (apply Imp.pick; (focus ((repeat constructor); done))) | refine Imp.drop ?_))); (case hc => (repeat (first | exact Nth.here | apply Nth.there))))); ((with_reducible refine e_gdT ?_))
    refine e_opN v_neq Imp.nil ?_
    rw [decide_eq_false (by decide)]
    (((with_reducible refine e_opN v_pickF Imp.nil ?_))); ((with_reducible refine e_gdT ?_)); (((with_reducible refine e_opN v_pickF Imp.nil ?_))); ((with_reducible refine e_gdT ?_)); ((with_reducible refine e_gdT ?_))
    (refine' e_call (num_) ?hp fun _ => ?_; (case hp => (repeat (first | exact Picks.nil | (apply Picks.cons; (focus (repeat constructor)))))); (try simp only [List.cons_append, List.nil_append, Bool.not_true, Bool.not_false]))
    ((with_reducible refine e_gdT ?_))
    refine e_opN v_neq Imp.nil ?_
    rw [decide_eq_false (by decide)]
    (((with_reducible refine e_opN v_pickF Imp.nil ?_))); ((with_reducible refine e_gdT ?_)); ((with_reducible refine e_gdT ?_)); ((with_reducible refine e_gdT ?_))
    (refine' e_call (done0 (o := o)) ?hp fun _ => ?_; (case hp => (repeat (first | exact Picks.nil | (apply Picks.cons; (focus (repeat constructor)))))); (try simp only [List.cons_append, List.nil_append, Bool.not_true, Bool.not_false]))
    ((with_reducible refine e_gdT ?_))
    (refine' e_call (num_) ?hp fun _ => ?_; (case hp => (repeat (first | exact Picks.nil | (apply Picks.cons; (focus (repeat constructor)))))); (try simp only [List.cons_append, List.nil_append, Bool.not_true, Bool.not_false]))
    ((with_reducible refine e_gdT ?_))
    refine e_opN v_neq Imp.nil ?_
    rw [decide_eq_false (by decide)]
    (((with_reducible refine e_opN v_pickF Imp.nil ?_))); ((with_reducible refine e_gdT ?_)); ((with_reducible refine e_gdT ?_)); ((with_reducible refine e_gdT ?_)); ((with_reducible refine e_gdT ?_))
    (refine' e_call (fail0 (o := o)) ?hp fun _ => ?_; (case hp => (repeat (first | exact Picks.nil | (apply Picks.cons; (focus (repeat constructor)))))); (try simp only [List.cons_append, List.nil_append, Bool.not_true, Bool.not_false]))
    ((with_reducible refine e_gdT ?_))
    (refine' e_call (num_) ?hp fun _ => ?_; (case hp => (repeat (first | exact Picks.nil | (apply Picks.cons; (focus (repeat constructor)))))); (try simp only [List.cons_append, List.nil_append, Bool.not_true, Bool.not_false]))
    ((with_reducible refine e_gdT ?_))
    refine e_opN v_neq Imp.nil ?_
    rw [decide_eq_false (by decide)]
    (((with_reducible refine e_opN v_pickF Imp.nil ?_))); ((with_reducible refine e_gdT ?_)); ((with_reducible refine e_gdT ?_)); ((with_reducible refine e_gdT ?_))
    (refine' e_call (gone0 (o := o)) ?hp fun _ => ?_; (case hp => (repeat (first | exact Picks.nil | (apply Picks.cons; (focus (repeat constructor)))))); (try simp only [List.cons_append, List.nil_append, Bool.not_true, Bool.not_false]))
    ((with_reducible refine e_gdT ?_))
    (refine' e_call (num_) ?hp fun _ => ?_; (case hp => (repeat (first | exact Picks.nil | (apply Picks.cons; (focus (repeat constructor)))))); (try simp only [List.cons_append, List.nil_append, Bool.not_true, Bool.not_false]))
    ((with_reducible refine e_gdT ?_))
    refine e_opN v_neq Imp.nil ?_
    rw [decide_eq_false (by decide)]
    (((with_reducible refine e_opN v_pickF Imp.nil ?_))); ((with_reducible refine e_gdT ?_)); ((with_reducible refine e_gdT ?_)); ((with_reducible refine e_gdT ?_))
    (refine' e_call (busy0 (o := o)) ?hp fun _ => ?_; (case hp => (repeat (first | exact Picks.nil | (apply Picks.cons; (focus (repeat constructor)))))); (try simp only [List.cons_append, List.nil_append, Bool.not_true, Bool.not_false]))
    ((with_reducible refine e_gdT ?_)); ((with_reducible refine e_gdT ?_)); ((with_reducible refine e_gdT ?_))
    (refine' e_call (idle0 (o := o)) ?hp fun _ => ?_; (case hp => (repeat (first | exact Picks.nil | (apply Picks.cons; (focus (repeat constructor)))))); (try simp only [List.cons_append, List.nil_append, Bool.not_true, Bool.not_false]))
    ((with_reducible refine e_gdT ?_)); (((with_reducible refine e_opN (v_add ?h1 ?h2) Imp.nil ?_); (case h1 => omega); (case h2 => omega))); ((with_reducible refine e_gdT ?_))
    refine e_opN v_neq Imp.nil ?_
    rw [decide_eq_false (by decide)]
    (((with_reducible refine e_opN v_pickF Imp.nil ?_))); ((with_reducible refine e_condF ?_)); (((with_reducible refine e_opN v_rv Imp.nil ?_))); (((with_reducible refine e_boxA fun g => ?_))); (((with_reducible refine e_opN (v_add ?h1 ?h2) Imp.nil ?_); (case h1 => omega); (case h2 => omega)))
    rename Nat => b
    refine e_next2 (m - 1) (by omega) (.ex (i + 1, some b) (.all ?_))
    (try simp only [List.cons_append, List.nil_append, -eq_self])
    refine .pu ⟨by omega, rfl, by norm_cast⟩ ?_
    (repeat (first | exact Imp.refl | exact Imp.nil | (apply Imp.pick; (focus ((repeat constructor); done))) | refine Imp.drop ?_))
  · refine e_condF ?_
    (refine' e_call (knows) ?hp fun _ => ?_; (case hp => (repeat (first | exact Picks.nil | (apply Picks.cons; (focus (repeat constructor)))))); (try simp only [List.cons_append, List.nil_append, Bool.not_true, Bool.not_false]))
    (first | refine e_ret (()) rfl ?_ | refine e_retT (()) ?_)
    (repeat (first | exact Imp.refl | exact Imp.nil | (apply Imp.pick; (focus ((repeat constructor); done))) | refine Imp.drop ?_))
end Go.Proofs.Ytpmcokpiplcnjaa.PL
