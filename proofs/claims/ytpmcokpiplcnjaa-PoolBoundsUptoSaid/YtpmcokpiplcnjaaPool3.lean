/- A pool: a connection's peer fails. No conditions but those that each names. -/
import Derived.Test.YtpmcokpiplcnjaaPool2
set_option linter.unusedVariables false
set_option linter.unusedSimpArgs false
namespace Go.Proofs.Ytpmcokpiplcnjaa.PL
open Go Go.Proofs Go.RowKit Go.Proofs.Ytpmcokpiplcnjaa.Sh Go.Proofs.Ytpmcokpiplcnjaa.Sl Go.Proofs.Ytpmcokpiplcnjaa.T
def delL (f : Int → Option Nat) (l : List Int) : Int → Option Nat := l.foldl (fun f k => updO f k none) f
theorem delL_snoc (f : Int → Option Nat) (l : List Int) (x : Int) : delL f (l ++ [x]) = updO (delL f l) x none := by simp [delL]
def failAt (Z : Pl) (i : Nat) (now : Int) : Pl := { Z with im := delL Z.im (Z.pr i).idle, pr := setP Z.pr i { Z.pr i with idle := [], til := clk now + Z.tmo } }
def failF (Z : Pl) (id now : Int) : Pl := match Z.bm id with
  | some i => failAt (done Z id false) i now
  | none => match Z.im id with
    | some i => failAt Z i now
    | none => Z
def failR (Z : Pl) (id : Int) : Int := match Z.bm id with
  | some i => 0
  | none => match Z.im id with
    | some i => 0
    | none => 3
theorem clk_b (n : Int) : -1099511627776 ≤ clk n ∧ clk n ≤ 1099511627776 := by
  unfold clk far
  split <;> split <;> omega
theorem done_n (Z : Pl) (id : Int) (k : Bool) : (done Z id k).n = Z.n ∧ (done Z id k).tmo = Z.tmo := by
  unfold done
  cases Z.bm id <;> exact ⟨rfl, rfl⟩
theorem done_idle (Z : Pl) (id : Int) (j : Nat) : ((done Z id false).pr j).idle = (Z.pr j).idle := by
  unfold done
  cases h : Z.bm id with
  | none => rfl
  | some i =>
    simp only [setP]
    split
    · rename_i c; subst c; rfl
    · rfl
theorem fail {W : World} {p : Nat} {gs : Nat → Nat} {Z : Pl} {id now : Int} (hz : Wf Z) : Cn Try.prog 41 [pv p, .int .i64 id, .int .i64 now] W [IsPl p gs Z] (fun _ : Unit => .int .i64 (failR Z id)) (fun _ => [IsPl p gs (failF Z id now)]) := by
  (refine S.pool_Pool_Fail_cn fun F => ?_; unfold S.pool_Pool_Fail; simp only [List.cons_append, List.nil_append])
  (refine' e_call (none_) ?hp fun _ => ?_; (case hp => (repeat (first | exact Picks.nil | (apply Picks.cons; (focus (repeat constructor)))))); (try simp only [List.cons_append, List.nil_append, Bool.not_true, Bool.not_false]))
  refine e_condF ?_
  refine e_ex Pick.here fun q => e_all Pick.here ?_
  obtain ⟨⟨a, c⟩, mb, mi⟩ := q
  (try simp only [List.cons_append, List.nil_append, -eq_self])
  unfold pv
  (((with_reducible refine e_opN v_nil Imp.nil ?_))); (((with_reducible refine e_opN v_fa0 Imp.nil ?_))); (((with_reducible refine' e_opN (v_ldN ?hc) ?hi ?_); (case hi => (repeat (first | exact Imp.refl | exact Imp.nil | (apply Imp.pick; (focus ((repeat constructor); done))) | refine Imp.drop ?_))); (case hc => (repeat (first | exact Nth.here | apply Nth.there)))))
  refine e_lookF (q := id) key3 (.there (.there .here)) ?_
  rw [mv_get]
  refine e_cut1 (fun z => [ex fun x : Pl × Nat => all [pu (z = pv (gs x.2) ∧ x.2 < x.1.n ∧ 1 ≤ x.1.tmo ∧ x.1.tmo ≤ 3600 ∧ (x.1.pr x.2).idle.length ≤ 1099511627776 ∧ failF Z id now = failAt x.1 x.2 now ∧ failR Z id = 0), IsPl p gs x.1]] ++ F) ?_ ?_
  · intro ds z
    (try simp only [List.cons_append, List.nil_append, -eq_self])
    refine e_ex Pick.here fun x => e_all Pick.here ?_
    obtain ⟨Y, i⟩ := x
    (try simp only [List.cons_append, List.nil_append, -eq_self])
    refine e_pu Pick.here fun hx => ?_
    obtain ⟨rfl, hil, t1, t2, hlen, hfail, hr⟩ := hx
    rw [hfail, hr]
    refine e_ex Pick.here fun q => e_all Pick.here ?_
    obtain ⟨⟨a, c⟩, mb, mi⟩ := q
    (try simp only [List.cons_append, List.nil_append, -eq_self])
    unfold pv
    refine e_big (.there (.there (.there (.there .here)))) i hil ?_
    refine e_ex Pick.here fun q => e_all Pick.here ?_
    obtain ⟨qa, qc⟩ := q
    (try simp only [List.cons_append, List.nil_append, -eq_self])
    (((with_reducible refine e_opN v_nil Imp.nil ?_))); (((with_reducible refine e_opN v_fa0 Imp.nil ?_))); (((with_reducible refine' e_opN (v_ldN ?hc) ?hi ?_); (case hi => (repeat (first | exact Imp.refl | exact Imp.nil | (apply Imp.pick; (focus ((repeat constructor); done))) | refine Imp.drop ?_))); (case hc => (repeat (first | exact Nth.here | apply Nth.there))))); (((with_reducible refine e_opN v_len Imp.nil ?_)))
    obtain ⟨l, hl⟩ : ∃ l, l = (Y.pr i).idle := ⟨_, rfl⟩
    rw [← hl] at hlen
    rw [← hl]
    refine e_loop1 (fun m y => [ex fun k : Nat => all [pu (m + k = l.length ∧ y = .int .i64 (k : Int)), MapFn mi encI (mv gs (delL Y.im (l.take k)))], pt (gs i) (.cells #[.int .i64 (Y.pr i).id, .int .i64 (Y.pr i).max, .slice qa l.length qc, .int .i64 (Y.pr i).busy, .int .i64 (Y.pr i).til] 100), Sl 1 3 qa qc l.length (l.map I), BH Y.n (fun i => IsPr (gs i) (Y.pr i)) i, pt p (.cells #[.slice a Y.n c, .map (some mb), .map (some mi), .int .i64 (Y.at_ : Int), .int .i64 Y.num, .int .i64 Y.tmo] 95), Sl 1 97 a c Y.n (ptrs gs Y.n), MapFn mb encI (mv gs Y.bm)] ++ F) l.length ?_ ?_
    · refine .ex 0 (.all ?_)
      (try simp only [List.cons_append, List.nil_append, -eq_self])
      refine .pu ⟨by omega, rfl⟩ ?_
      rw [List.take_zero]
      exact .pick (by (repeat constructor)) (by (repeat (first | exact Imp.refl | exact Imp.nil | (apply Imp.pick; (focus ((repeat constructor); done))) | refine Imp.drop ?_)))
    intro m ds y
    (try simp only [List.cons_append, List.nil_append, -eq_self])
    refine e_ex Pick.here fun k => e_all Pick.here ?_
    (try simp only [List.cons_append, List.nil_append, -eq_self])
    refine e_pu Pick.here fun hi => ?_
    obtain ⟨hmi, rfl⟩ := hi
    (refine e_ask v_lss Imp.nil (fun h => ?_) (fun h => ?_))
    · have hkl : k < l.length := by omega
      refine e_condT ?_
      refine e_slsome (.there (.there .here)) (by omega) fun g hg => ?_
      subst hg
      refine e_opN (v_ia1 k (by rfl) hkl) Imp.nil ?_
      refine e_opN (v_ldSl (v := I l[k]) (by rw [Nat.zero_add]; exact I_get hkl)) (.pick (by (repeat constructor)) .nil) ?_
      (((with_reducible refine e_opN v_nil Imp.nil ?_))); (((with_reducible refine e_opN v_fa0 Imp.nil ?_))); (((with_reducible refine' e_opN (v_ldN ?hc) ?hi ?_); (case hi => (repeat (first | exact Imp.refl | exact Imp.nil | (apply Imp.pick; (focus ((repeat constructor); done))) | refine Imp.drop ?_))); (case hc => (repeat (first | exact Nth.here | apply Nth.there)))))
      refine e_delF (q := l[k]) key3 (by (repeat constructor)) ?_
      (((with_reducible refine e_opN (v_add ?h1 ?h2) Imp.nil ?_); (case h1 => omega); (case h2 => omega)))
      refine e_next1 (m - 1) (by omega) (.ex (k + 1) (.all ?_))
      (try simp only [List.cons_append, List.nil_append, -eq_self])
      refine .pu ⟨by omega, rfl⟩ ?_
      have t1 : l.take (k + 1) = l.take k ++ [l[k]] := by rw [List.take_add_one, List.getElem?_eq_getElem hkl]; rfl
      rw [t1, delL_snoc, mv_upd]
      exact .pick (by (repeat constructor)) (by (repeat (first | exact Imp.refl | exact Imp.nil | (apply Imp.pick; (focus ((repeat constructor); done))) | refine Imp.drop ?_)))
    · have : k = l.length := by omega
      subst this
      rw [List.take_length]
      refine e_condF ?_
      (((with_reducible refine e_opN v_nil Imp.nil ?_))); (((with_reducible refine e_opN v_fa0 Imp.nil ?_))); (((with_reducible refine' e_stN ?hp ?ho ?_); (case hp => (repeat constructor)); (case ho => (repeat (first | exact Put.here | apply Put.there))))); ((with_reducible refine e_drS ?_)); (((with_reducible refine e_stD v_nil Imp.nil ?_))); (((with_reducible refine e_stD v_fa0 Imp.nil ?_))); (((with_reducible refine' e_stD (v_ldN ?hc) ?hi ?_); (case hi => (repeat (first | exact Imp.refl | exact Imp.nil | (apply Imp.pick; (focus ((repeat constructor); done))) | refine Imp.drop ?_))); (case hc => (repeat (first | exact Nth.here | apply Nth.there)))))
      (refine' e_call (clock) ?hp fun _ => ?_; (case hp => (repeat (first | exact Picks.nil | (apply Picks.cons; (focus (repeat constructor)))))); (try simp only [List.cons_append, List.nil_append, Bool.not_true, Bool.not_false]))
      (((with_reducible refine e_obl ?hi ?_); (case hi => (repeat (first | exact Imp.refl | exact Imp.nil | (apply Imp.pick; (focus ((repeat constructor); done))) | refine Imp.drop ?_))))); (((with_reducible refine e_obl ?hi ?_); (case hi => (repeat (first | exact Imp.refl | exact Imp.nil | (apply Imp.pick; (focus ((repeat constructor); done))) | refine Imp.drop ?_))))); (((with_reducible refine e_obl ?hi ?_); (case hi => (repeat (first | exact Imp.refl | exact Imp.nil | (apply Imp.pick; (focus ((repeat constructor); done))) | refine Imp.drop ?_)))))
      have hc := clk_b now
      refine e_stS (v_add (by omega) (by omega)) Imp.nil ?_
      (((with_reducible refine e_stS v_nil Imp.nil ?_))); (((with_reducible refine e_stS v_fa0 Imp.nil ?_))); (((with_reducible refine' e_stN ?hp ?ho ?_); (case hp => (repeat constructor)); (case ho => (repeat (first | exact Put.here | apply Put.there)))))
      (first | refine e_ret (()) rfl ?_ | refine e_retT (()) ?_)
      unfold failAt
      refine .ex ((a, c), mb, mi) (.all ?_)
      (try simp only [List.cons_append, List.nil_append, -eq_self])
      refine .pick (by (repeat constructor)) (.pick (by (repeat constructor)) (.pick (by (repeat constructor)) ?_))
      rw [← hl]
      refine .pick (by (repeat constructor)) ?_
      refine imp_big i hil (F := fun i => IsPr (gs i) (Y.pr i)) (fun j hj hji => by simp [setP, hji]) ?_
      simp only [setP, if_true]
      refine .ex (none, 0) (.all ?_)
      (try simp only [List.cons_append, List.nil_append, -eq_self])
      refine .pick (by (repeat constructor)) ?_
      exact imp_nil (.pick (by (repeat constructor)) (by (repeat (first | exact Imp.refl | exact Imp.nil | (apply Imp.pick; (focus ((repeat constructor); done))) | refine Imp.drop ?_))))
  · refine e_opN (pvo_nonnil (P := Try.prog) (t := 97)) Imp.nil ?_
    cases hb : Z.bm id with
    | some i =>
      have hil := hz.bm _ _ hb
      simp only [Option.isSome_some]
      refine e_condT ?_
      refine e_imp (M := IsPl p gs Z :: F) (.ex ((a, c), mb, mi) (.all (by (repeat (first | exact Imp.refl | exact Imp.nil | (apply Imp.pick; (focus ((repeat constructor); done))) | refine Imp.drop ?_))))) ?_
      (refine' e_call (done_ (keep := false) hz) ?hp fun _ => ?_; (case hp => (repeat (first | exact Picks.nil | (apply Picks.cons; (focus (repeat constructor)))))); (try simp only [List.cons_append, List.nil_append, Bool.not_true, Bool.not_false]))
      refine e_sat (.ex (done Z id false, i) (.all ?_))
      (try simp only [List.cons_append, List.nil_append, -eq_self])
      obtain ⟨d1, d2⟩ := done_n Z id false
      have htmo := hz.tmo
      refine .pu ⟨rfl, by rw [d1]; exact hil, by rw [d2]; omega, by rw [d2]; omega, by rw [done_idle]; exact (hz.pr i hil).2.2.1, by unfold failF; rw [hb], by unfold failR; rw [hb]⟩ ?_
      exact .refl
    | none =>
      simp only [Option.isSome_none]
      refine e_condF ?_
      (((with_reducible refine e_opN v_nil Imp.nil ?_))); (((with_reducible refine e_opN v_fa0 Imp.nil ?_))); (((with_reducible refine' e_opN (v_ldN ?hc) ?hi ?_); (case hi => (repeat (first | exact Imp.refl | exact Imp.nil | (apply Imp.pick; (focus ((repeat constructor); done))) | refine Imp.drop ?_))); (case hc => (repeat (first | exact Nth.here | apply Nth.there)))))
      refine e_lookF (q := id) key3 (by (repeat constructor)) ?_
      rw [mv_get]
      refine e_opN (pvo_nil (P := Try.prog) (t := 97)) Imp.nil ?_
      cases hi : Z.im id with
      | none =>
        simp only [Option.isNone_none]
        refine e_condT ?_
        rw [show failR Z id = 3 by unfold failR; rw [hb]; simp only; rw [hi], show failF Z id now = Z by unfold failF; rw [hb]; simp only; rw [hi]]
        (first | refine e_ret (()) rfl ?_ | refine e_retT (()) ?_)
        exact .ex ((a, c), mb, mi) (.all (by (repeat (first | exact Imp.refl | exact Imp.nil | (apply Imp.pick; (focus ((repeat constructor); done))) | refine Imp.drop ?_))))
      | some i =>
        have hil := hz.im _ _ hi
        simp only [Option.isNone_some]
        refine e_condF ?_
        refine e_sat (.ex (Z, i) (.all ?_))
        (try simp only [List.cons_append, List.nil_append, -eq_self])
        have htmo := hz.tmo
        refine .pu ⟨rfl, hil, by omega, by omega, (hz.pr i hil).2.2.1, by unfold failF; rw [hb]; simp only; rw [hi], by unfold failR; rw [hb]; simp only; rw [hi]⟩ ?_
        exact .ex ((a, c), mb, mi) (.all (by (repeat (first | exact Imp.refl | exact Imp.nil | (apply Imp.pick; (focus ((repeat constructor); done))) | refine Imp.drop ?_))))
end Go.Proofs.Ytpmcokpiplcnjaa.PL
