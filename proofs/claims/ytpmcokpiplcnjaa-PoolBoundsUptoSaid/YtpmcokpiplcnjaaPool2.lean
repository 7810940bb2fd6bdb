/- A pool: how many are busy, idle; a connection is done with; its peer fails. No conditions but those that each names. -/
import Derived.Test.YtpmcokpiplcnjaaPool1
set_option linter.unusedVariables false
set_option linter.unusedSimpArgs false
namespace Go.Proofs.Ytpmcokpiplcnjaa.PL
open Go Go.Proofs Go.RowKit Go.Proofs.Ytpmcokpiplcnjaa.Sh Go.Proofs.Ytpmcokpiplcnjaa.Sl Go.Proofs.Ytpmcokpiplcnjaa.T
theorem pvo_nil {P : Program} {W : World} {t : TypeId} {ox oy : Operand} {gs : Nat → Nat} {o : Option Nat} [ht : PtrT P t] : RunV P W [] (sEq .eql t ox oy (pvo gs o) (.pointer none)) (.bool o.isNone) := by
  cases o with
  | none => exact v_eqNil0
  | some i => exact v_eqNil1
theorem pvo_nonnil {P : Program} {W : World} {t : TypeId} {ox oy : Operand} {gs : Nat → Nat} {o : Option Nat} [ht : PtrT P t] : RunV P W [] (sEq .neq t ox oy (pvo gs o) (.pointer none)) (.bool o.isSome) := by
  cases o with
  | none => exact v_neNil0
  | some i => exact v_neNil1
def busyF (Z : Pl) (id : Int) : Int := match fd Z id with
  | some i => (Z.pr i).busy
  | none => 0
def idleF (Z : Pl) (id : Int) : Int := match fd Z id with
  | some i => ((Z.pr i).idle.length : Int)
  | none => 0
theorem fd_lt {Z : Pl} {id : Int} {i : Nat} (h : fd Z id = some i) : i < Z.n := (fdI_some h).1
theorem busy {W : World} {p : Nat} {gs : Nat → Nat} {Z : Pl} {id : Int} (hn : Z.n ≤ 1024) : Cn Try.prog 42 [pv p, .int .i64 id] W [IsPl p gs Z] (fun _ : Unit => .int .i64 (busyF Z id)) (fun _ => [IsPl p gs Z]) := by
  (refine S.pool_Pool_Busy_cn fun F => ?_; unfold S.pool_Pool_Busy; simp only [List.cons_append, List.nil_append])
  (refine' e_call (none_) ?hp fun _ => ?_; (case hp => (repeat (first | exact Picks.nil | (apply Picks.cons; (focus (repeat constructor)))))); (try simp only [List.cons_append, List.nil_append, Bool.not_true, Bool.not_false]))
  ((with_reducible refine e_gdT ?_)); ((with_reducible refine e_gdT ?_)); ((with_reducible refine e_gdT ?_))
  (refine' e_call (peer hn) ?hp fun _ => ?_; (case hp => (repeat (first | exact Picks.nil | (apply Picks.cons; (focus (repeat constructor)))))); (try simp only [List.cons_append, List.nil_append, Bool.not_true, Bool.not_false]))
  ((with_reducible refine e_gdT ?_))
  refine e_opN (pvo_nil (P := Try.prog) (t := 97)) Imp.nil ?_
  unfold busyF
  cases hf : fd Z id with
  | none =>
    simp only [Option.isNone_none]
    (((with_reducible refine e_opN v_pickF Imp.nil ?_))); ((with_reducible refine e_condT ?_))
    (first | refine e_ret (()) rfl ?_ | refine e_retT (()) ?_)
    exact .refl
  | some i =>
    have hil := fd_lt hf
    simp only [Option.isNone_some]
    (((with_reducible refine e_opN v_pickF Imp.nil ?_))); ((with_reducible refine e_condF ?_))
    (refine' e_call (peer hn) ?hp fun _ => ?_; (case hp => (repeat (first | exact Picks.nil | (apply Picks.cons; (focus (repeat constructor)))))); (try simp only [List.cons_append, List.nil_append, Bool.not_true, Bool.not_false]))
    rw [hf]
    unfold pvo pv
    (((with_reducible refine e_opN v_nil Imp.nil ?_))); (((with_reducible refine e_opN v_fa0 Imp.nil ?_)))
    refine e_ex Pick.here fun q => e_all Pick.here ?_
    obtain ⟨⟨a, c⟩, mb, mi⟩ := q
    (try simp only [List.cons_append, List.nil_append, -eq_self])
    refine e_opN (v_pr i hil (v := .int .i64 (Z.pr i).busy) rfl) (.pick (by (repeat constructor)) .nil) ?_
    refine e_ret () rfl ?_
    exact .ex ((a, c), mb, mi) (.all (by (repeat (first | exact Imp.refl | exact Imp.nil | (apply Imp.pick; (focus ((repeat constructor); done))) | refine Imp.drop ?_))))
theorem idle {W : World} {p : Nat} {gs : Nat → Nat} {Z : Pl} {id : Int} (hn : Z.n ≤ 1024) : Cn Try.prog 43 [pv p, .int .i64 id] W [IsPl p gs Z] (fun _ : Unit => .int .i64 (idleF Z id)) (fun _ => [IsPl p gs Z]) := by
  (refine S.pool_Pool_Idle_cn fun F => ?_; unfold S.pool_Pool_Idle; simp only [List.cons_append, List.nil_append])
  (refine' e_call (none_) ?hp fun _ => ?_; (case hp => (repeat (first | exact Picks.nil | (apply Picks.cons; (focus (repeat constructor)))))); (try simp only [List.cons_append, List.nil_append, Bool.not_true, Bool.not_false]))
  ((with_reducible refine e_gdT ?_)); ((with_reducible refine e_gdT ?_)); ((with_reducible refine e_gdT ?_))
  (refine' e_call (peer hn) ?hp fun _ => ?_; (case hp => (repeat (first | exact Picks.nil | (apply Picks.cons; (focus (repeat constructor)))))); (try simp only [List.cons_append, List.nil_append, Bool.not_true, Bool.not_false]))
  ((with_reducible refine e_gdT ?_))
  refine e_opN (pvo_nil (P := Try.prog) (t := 97)) Imp.nil ?_
  unfold idleF
  cases hf : fd Z id with
  | none =>
    simp only [Option.isNone_none]
    (((with_reducible refine e_opN v_pickF Imp.nil ?_))); ((with_reducible refine e_condT ?_))
    (first | refine e_ret (()) rfl ?_ | refine e_retT (()) ?_)
    exact .refl
  | some i =>
    have hil := fd_lt hf
    simp only [Option.isNone_some]
    (((with_reducible refine e_opN v_pickF Imp.nil ?_))); ((with_reducible refine e_condF ?_))
    (refine' e_call (peer hn) ?hp fun _ => ?_; (case hp => (repeat (first | exact Picks.nil | (apply Picks.cons; (focus (repeat constructor)))))); (try simp only [List.cons_append, List.nil_append, Bool.not_true, Bool.not_false]))
    rw [hf]
    unfold pvo pv
    (((with_reducible refine e_opN v_nil Imp.nil ?_))); (((with_reducible refine e_opN v_fa0 Imp.nil ?_)))
    refine e_ex Pick.here fun q => e_all Pick.here ?_
    obtain ⟨⟨a, c⟩, mb, mi⟩ := q
    (try simp only [List.cons_append, List.nil_append, -eq_self])
    refine e_big (.there (.there (.there (.there .here)))) i hil ?_
    refine e_ex Pick.here fun q => e_all Pick.here ?_
    obtain ⟨qa, qc⟩ := q
    (try simp only [List.cons_append, List.nil_append, -eq_self])
    (((with_reducible refine' e_opN (v_ldN ?hc) ?hi ?_); (case hi => (repeat (first | exact Imp.refl | exact Imp.nil | (apply Imp.pick; (focus ((repeat constructor); done))) | refine Imp.drop ?_))); (case hc => (repeat (first | exact Nth.here | apply Nth.there))))); (((with_reducible refine e_opN v_len Imp.nil ?_)))
    refine e_ret () rfl ?_
    refine .ex ((a, c), mb, mi) (.all ?_)
    (try simp only [List.cons_append, List.nil_append, -eq_self])
    refine .pick (by (repeat constructor)) (.pick (by (repeat constructor)) (.pick (by (repeat constructor)) (.pick (by (repeat constructor)) ?_)))
    refine imp_big i hil (fun _ _ _ => rfl) (.ex (qa, qc) (.all ?_))
    (try simp only [List.cons_append, List.nil_append, -eq_self])
    exact .pick (by (repeat constructor)) (.pick (by (repeat constructor)) (.pick (by (repeat constructor)) .refl))
def updO (f : Int → Option Nat) (q : Int) (v : Option Nat) : Int → Option Nat := fun x => if x = q then v else f x
theorem mv_upd (gs : Nat → Nat) (f : Int → Option Nat) (q : Int) (v : Option Nat) : mv gs (updO f q v) = updM (mv gs f) q (v.map fun i => pv (gs i)) := by
  funext x
  unfold mv updO updM
  by_cases h : x = q <;> simp [h]
theorem mv_get (gs : Nat → Nat) (f : Int → Option Nat) (q : Int) : (mv gs f q).getD (.pointer none) = pvo gs (f q) := by
  unfold mv
  cases f q <;> rfl
def setP (pr : Nat → Pr) (i : Nat) (x : Pr) : Nat → Pr := fun j => if j = i then x else pr j
/-- a busy one is done with -/
def done (Z : Pl) (id : Int) (keep : Bool) : Pl := match Z.bm id with
  | none => Z
  | some i => { Z with bm := updO Z.bm id none, im := if keep then updO Z.im id (some i) else Z.im, pr := setP Z.pr i { Z.pr i with busy := (Z.pr i).busy - 1, idle := if keep then (Z.pr i).idle ++ [id] else (Z.pr i).idle } }
def doneR (Z : Pl) (id : Int) : Int := match Z.bm id with
  | none => 3
  | some _ => 0
theorem done_ {W : World} {p : Nat} {gs : Nat → Nat} {Z : Pl} {id : Int} {keep : Bool} (hz : Wf Z) : Cn Try.prog 40 [pv p, .int .i64 id, .bool keep] W [IsPl p gs Z] (fun _ : Unit => .int .i64 (doneR Z id)) (fun _ => [IsPl p gs (done Z id keep)]) := by
  (refine S.pool_Pool_Done_cn fun F => ?_; unfold S.pool_Pool_Done; simp only [List.cons_append, List.nil_append])
  (refine' e_call (none_) ?hp fun _ => ?_; (case hp => (repeat (first | exact Picks.nil | (apply Picks.cons; (focus (repeat constructor)))))); (try simp only [List.cons_append, List.nil_append, Bool.not_true, Bool.not_false]))
  refine e_condF ?_
  refine e_ex Pick.here fun q => e_all Pick.here ?_
  obtain ⟨⟨a, c⟩, mb, mi⟩ := q
  (try simp only [List.cons_append, List.nil_append, -eq_self])
  unfold pv
  (((with_reducible refine e_opN v_nil Imp.nil ?_))); (((with_reducible refine e_opN v_fa0 Imp.nil ?_))); (((with_reducible refine' e_opN (v_ldN ?hc) ?hi ?_); (case hi => (repeat (first | exact Imp.refl | exact Imp.nil | (apply Imp.pick; (focus ((repeat constructor); done))) | refine Imp.drop ?_))); (case hc => (repeat (first | exact Nth.here | apply Nth.there)))))
  refine e_lookF (q := id) key3 (.there (.there .here)) ?_
  rw [mv_get]
  refine e_opN (pvo_nil (P := Try.prog) (t := 97)) Imp.nil ?_
  unfold done doneR
  cases hb : Z.bm id with
  | none =>
    simp only [Option.isNone_none]
    ((with_reducible refine e_condT ?_))
    (first | refine e_ret (()) rfl ?_ | refine e_retT (()) ?_)
    exact .ex ((a, c), mb, mi) (.all (by (repeat (first | exact Imp.refl | exact Imp.nil | (apply Imp.pick; (focus ((repeat constructor); done))) | refine Imp.drop ?_))))
  | some i =>
    have hil := hz.bm _ _ hb
    have hpr := hz.pr i hil
    simp only [Option.isNone_some]
    unfold pvo pv
    ((with_reducible refine e_condF ?_)); (((with_reducible refine e_opN v_nil Imp.nil ?_))); (((with_reducible refine e_opN v_fa0 Imp.nil ?_))); (((with_reducible refine' e_opN (v_ldN ?hc) ?hi ?_); (case hi => (repeat (first | exact Imp.refl | exact Imp.nil | (apply Imp.pick; (focus ((repeat constructor); done))) | refine Imp.drop ?_))); (case hc => (repeat (first | exact Nth.here | apply Nth.there)))))
    refine e_delF (q := id) key3 (by (repeat constructor)) ?_
    (((with_reducible refine e_opN v_nil Imp.nil ?_))); (((with_reducible refine e_opN v_fa0 Imp.nil ?_)))
    refine e_big (.there (.there (.there (.there .here)))) i hil ?_
    refine e_ex Pick.here fun q => e_all Pick.here ?_
    obtain ⟨qa, qc⟩ := q
    (try simp only [List.cons_append, List.nil_append, -eq_self])
    (((with_reducible refine' e_opN (v_ldN ?hc) ?hi ?_); (case hi => (repeat (first | exact Imp.refl | exact Imp.nil | (apply Imp.pick; (focus ((repeat constructor); done))) | refine Imp.drop ?_))); (case hc => (repeat (first | exact Nth.here | apply Nth.there))))); (((with_reducible refine e_opN (v_sub ?h1 ?h2) Imp.nil ?_); (case h1 => omega); (case h2 => omega))); (((with_reducible refine e_opN v_nil Imp.nil ?_))); (((with_reducible refine e_opN v_fa0 Imp.nil ?_))); (((with_reducible refine' e_stN ?hp ?ho ?_); (case hp => (repeat constructor)); (case ho => (repeat (first | exact Put.here | apply Put.there)))))
    cases keep with
    | false =>
      refine e_condF ?_
      (first | refine e_ret (()) rfl ?_ | refine e_retT (()) ?_)
      refine .ex ((a, c), mb, mi) (.all ?_)
      (try simp only [List.cons_append, List.nil_append, -eq_self])
      refine .pick (by (repeat constructor)) (.pick (by (repeat constructor)) ?_)
      rw [mv_upd]
      refine .pick (by (repeat constructor)) (.pick (by (repeat constructor)) ?_)
      refine imp_big i hil (F := fun i => IsPr (gs i) (Z.pr i)) (fun j hj hji => by simp [setP, hji]) ?_
      simp only [setP, if_true]
      refine .ex (qa, qc) (.all ?_)
      (try simp only [List.cons_append, List.nil_append, -eq_self])
      exact .pick (by (repeat constructor)) (.pick (by (repeat constructor)) (.pick (by (repeat constructor)) .refl))
    | true =>
      refine e_condT ?_
      (((with_reducible refine e_opN v_nil Imp.nil ?_))); (((with_reducible refine e_opN v_fa0 Imp.nil ?_))); (((with_reducible refine' e_opN (v_ldN ?hc) ?hi ?_); (case hi => (repeat (first | exact Imp.refl | exact Imp.nil | (apply Imp.pick; (focus ((repeat constructor); done))) | refine Imp.drop ?_))); (case hc => (repeat (first | exact Nth.here | apply Nth.there))))); (((with_reducible refine e_bsl1 fun g => ?_)))
      refine e_slfacts (.there (.there .here)) fun f1 f2 f3 f4 => ?_
      refine e_app (m := 1) (news := [I id]) (by (repeat constructor)) (src_pt (e' := 3) (by kernel_rfl) .here (by rfl) (I_one (l := [id]))) (by omega) (by omega) fun a' c' => ?_
      (((with_reducible refine e_opN v_nil Imp.nil ?_))); (((with_reducible refine e_opN v_fa0 Imp.nil ?_))); (((with_reducible refine' e_stN ?hp ?ho ?_); (case hp => (repeat constructor)); (case ho => (repeat (first | exact Put.here | apply Put.there))))); (((with_reducible refine e_opN v_nil Imp.nil ?_))); (((with_reducible refine e_opN v_fa0 Imp.nil ?_))); (((with_reducible refine' e_opN (v_ldN ?hc) ?hi ?_); (case hi => (repeat (first | exact Imp.refl | exact Imp.nil | (apply Imp.pick; (focus ((repeat constructor); done))) | refine Imp.drop ?_))); (case hc => (repeat (first | exact Nth.here | apply Nth.there)))))
      refine e_setF (q := id) key3 (by (repeat constructor)) ?_
      (first | refine e_ret (()) rfl ?_ | refine e_retT (()) ?_)
      refine .ex ((a, c), mb, mi) (.all ?_)
      (try simp only [List.cons_append, List.nil_append, -eq_self])
      refine .pick (by (repeat constructor)) (.pick (by (repeat constructor)) ?_)
      rw [mv_upd]
      refine .pick (by (repeat constructor)) ?_
      simp only [if_true]
      rw [mv_upd]
      refine .pick (by (repeat constructor)) ?_
      refine imp_big i hil (F := fun i => IsPr (gs i) (Z.pr i)) (fun j hj hji => by simp [setP, hji]) ?_
      simp only [setP, if_true]
      refine .ex (a', c') (.all ?_)
      (try simp only [List.cons_append, List.nil_append, -eq_self])
      rw [List.length_append, List.map_append, List.length_singleton]
      exact .pick (by (repeat constructor)) (.pick (by (repeat constructor)) (.pick (by (repeat constructor)) (by (repeat (first | exact Imp.refl | exact Imp.nil | (apply Imp.pick; (focus ((repeat constructor); done))) | refine Imp.drop ?_)))))
end Go.Proofs.Ytpmcokpiplcnjaa.PL
