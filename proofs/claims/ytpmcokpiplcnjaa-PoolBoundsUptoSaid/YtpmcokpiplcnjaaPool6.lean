/- A pool is made. No conditions but those that each names. -/
import Derived.Test.YtpmcokpiplcnjaaPool5
import Derived.Test.YtpmcokpiplcnjaaAggs
set_option linter.unusedVariables false
set_option linter.unusedSimpArgs false
namespace Go.Proofs.Ytpmcokpiplcnjaa.PL
open Go Go.Proofs Go.RowKit Go.Proofs.Ytpmcokpiplcnjaa.Sh Go.Proofs.Ytpmcokpiplcnjaa.Sl Go.Proofs.Ytpmcokpiplcnjaa.T
def pr2 (x : Int × Int) : List Value := [I x.1, I x.2]
theorem pr2_len (us : List (Int × Int)) : (us.flatMap pr2).length = us.length * 2 := by
  induction us with
  | nil => rfl
  | cons x us ih => rw [List.flatMap_cons, List.length_append, ih, List.length_cons]; simp [pr2]; omega
theorem pr2_get : ∀ (us : List (Int × Int)) (i : Nat) (h : i < us.length), (us.flatMap pr2)[i * 2]? = some (I us[i].1) ∧ (us.flatMap pr2)[i * 2 + 1]? = some (I us[i].2)
  | x :: us, 0, _ => by simp [pr2]
  | x :: us, i + 1, h => by
    have ih := pr2_get us i (by simpa using h)
    rw [List.flatMap_cons, show (i + 1) * 2 = i * 2 + 2 by omega]
    simp only [pr2, List.cons_append, List.nil_append, List.getElem_cons_succ]
    exact ⟨by rw [List.getElem?_cons_succ, List.getElem?_cons_succ]; exact ih.1, by rw [show i * 2 + 2 + 1 = i * 2 + 1 + 1 + 1 by omega, List.getElem?_cons_succ, List.getElem?_cons_succ]; exact ih.2⟩
theorem pr2_one (us : List (Int × Int)) : ∀ u ∈ us.flatMap pr2, u.oneCell' = true := by
  intro u hu
  obtain ⟨x, _, hx⟩ := List.mem_flatMap.1 hu
  simp only [pr2, List.mem_cons, List.mem_nil_iff, or_false] at hx
  rcases hx with rfl | rfl <;> rfl
def newI (us : List (Int × Int)) (tmo : Int) (i : Nat) : Pl := { n := i, pr := fun j => ⟨(us.getD j (0, 0)).1, (us.getD j (0, 0)).2, [], 0, -2199023255552⟩, bm := fun _ => none, im := fun _ => none, at_ := 0, num := 0, tmo }
def badU (us : List (Int × Int)) (tmo : Int) (i : Nat) : Prop := (us.getD i (0, 0)).2 < 1 ∨ 64 < (us.getD i (0, 0)).2 ∨ (fd (newI us tmo i) (us.getD i (0, 0)).1).isSome = true
instance (us : List (Int × Int)) (tmo : Int) (i : Nat) : Decidable (badU us tmo i) := by unfold badU; infer_instance
def okU (us : List (Int × Int)) (tmo : Int) : Prop := us.length ≠ 0 ∧ us.length ≤ 16 ∧ 1 ≤ tmo ∧ tmo ≤ 3600 ∧ ∀ i, i < us.length → ¬ badU us tmo i
def NewR (us : List (Int × Int)) (tmo : Int) := { r : Option (Nat × (Nat → Nat)) // match r with
  | some _ => okU us tmo
  | none => ¬ okU us tmo }
def newV {us : List (Int × Int)} {tmo : Int} (x : NewR us tmo) : Value := match x.1 with
  | some q => .tuple #[pv q.1, .int .i64 0]
  | none => .tuple #[.pointer none, .int .i64 1]
def newH {us : List (Int × Int)} {tmo : Int} (x : NewR us tmo) : HP := match x.1 with
  | some q => IsPl q.1 q.2 (newI us tmo us.length)
  | none => pu True
theorem new {W : World} {nm : Value} {a : Option Addr} {c : Nat} {us : List (Int × Int)} {tmo rt : Int} {A : HP} [OC nm] (hr : RdB W A a (us.length * 2) (us.flatMap pr2)) :
    Cn Try.prog 14 [.agg #[nm, .slice a us.length c, .int .i64 tmo, .int .i64 rt]] W [A] newV (fun x : NewR us tmo => [A, newH x]) := by
  (refine S.pool_New_cn fun F => ?_; unfold S.pool_New; simp only [List.cons_append, List.nil_append])
  (((with_reducible refine e_boxA fun g => ?_))); (((with_reducible refine e_opN v_fa0 Imp.nil ?_))); (((with_reducible refine' e_opN (v_ldN ?hc) ?hi ?_); (case hi => (repeat (first | exact Imp.refl | exact Imp.nil | (apply Imp.pick; (focus ((repeat constructor); done))) | refine Imp.drop ?_))); (case hc => (repeat (first | exact Nth.here | apply Nth.there))))); (((with_reducible refine e_opN v_len Imp.nil ?_)))
  have bad : ∀ (L : List HP), ¬ okU us tmo → Imp W L (A :: F) → Ent W L (fun w => ∃ x : NewR us tmo, (.tuple #[.pointer none, .int .i64 1] : Value) = newV x ∧ sat W (A :: newH x :: F) w) := fun L hb hi => by
    refine e_imp hi ?_
    refine e_ret (⟨none, hb⟩ : NewR us tmo) rfl ?_
    exact .pick (by (repeat constructor)) (.pu trivial .refl)
  refine e_opN v_eql Imp.nil ?_
  by_cases h0 : us.length = 0
  · rw [decide_eq_true (by omega)]
    ((with_reducible refine e_gdF1 ?_)); ((with_reducible refine e_gdF1 ?_)); ((with_reducible refine e_gdF1 ?_)); ((with_reducible refine e_gdF1 ?_)); (((with_reducible refine e_opN v_pickT Imp.nil ?_))); ((with_reducible refine e_gdF1 ?_)); ((with_reducible refine e_gdF1 ?_)); ((with_reducible refine e_gdF1 ?_)); (((with_reducible refine e_opN v_pickT Imp.nil ?_))); ((with_reducible refine e_gdF1 ?_)); ((with_reducible refine e_gdF1 ?_)); ((with_reducible refine e_gdF1 ?_)); (((with_reducible refine e_opN v_pickT Imp.nil ?_))); ((with_reducible refine e_condT ?_))
    exact bad _ (fun c => c.1 h0) (by (repeat (first | exact Imp.refl | exact Imp.nil | (apply Imp.pick; (focus ((repeat constructor); done))) | refine Imp.drop ?_)))
  rw [decide_eq_false (by omega)]
  ((with_reducible refine e_gdT ?_)); (((with_reducible refine e_opN v_fa0 Imp.nil ?_))); ((with_reducible refine e_gdT ?_)); (((with_reducible refine' e_opN (v_ldN ?hc) ?hi ?_); (case hi => (repeat (first | exact Imp.refl | exact Imp.nil | (apply Imp.pick; (focus ((repeat constructor); done))) | refine Imp.drop ?_))); (case hc => (repeat (first | exact Nth.here | apply Nth.there))))); ((with_reducible refine e_gdT ?_)); (((with_reducible refine e_opN v_len Imp.nil ?_))); ((with_reducible refine e_gdT ?_))
  refine e_opN v_gtr Imp.nil ?_
  by_cases h1 : 16 < us.length
  · rw [decide_eq_true (by omega)]
    (((with_reducible refine e_opN v_pickF Imp.nil ?_))); ((with_reducible refine e_gdF1 ?_)); ((with_reducible refine e_gdF1 ?_)); ((with_reducible refine e_gdF1 ?_)); (((with_reducible refine e_opN v_pickT Imp.nil ?_))); ((with_reducible refine e_gdF1 ?_)); ((with_reducible refine e_gdF1 ?_)); ((with_reducible refine e_gdF1 ?_)); (((with_reducible refine e_opN v_pickT Imp.nil ?_))); ((with_reducible refine e_condT ?_))
    exact bad _ (fun c => absurd c.2.1 (by omega)) (by (repeat (first | exact Imp.refl | exact Imp.nil | (apply Imp.pick; (focus ((repeat constructor); done))) | refine Imp.drop ?_)))
  rw [decide_eq_false (by omega)]
  (((with_reducible refine e_opN v_pickF Imp.nil ?_))); ((with_reducible refine e_gdT ?_)); (((with_reducible refine e_opN v_fa0 Imp.nil ?_))); ((with_reducible refine e_gdT ?_)); (((with_reducible refine' e_opN (v_ldN ?hc) ?hi ?_); (case hi => (repeat (first | exact Imp.refl | exact Imp.nil | (apply Imp.pick; (focus ((repeat constructor); done))) | refine Imp.drop ?_))); (case hc => (repeat (first | exact Nth.here | apply Nth.there))))); ((with_reducible refine e_gdT ?_))
  refine e_opN v_lss Imp.nil ?_
  by_cases h2 : tmo < 1
  · rw [decide_eq_true (by omega)]
    (((with_reducible refine e_opN v_pickF Imp.nil ?_))); ((with_reducible refine e_gdF1 ?_)); ((with_reducible refine e_gdF1 ?_)); ((with_reducible refine e_gdF1 ?_)); (((with_reducible refine e_opN v_pickT Imp.nil ?_))); ((with_reducible refine e_condT ?_))
    exact bad _ (fun c => absurd c.2.2.1 (by omega)) (by (repeat (first | exact Imp.refl | exact Imp.nil | (apply Imp.pick; (focus ((repeat constructor); done))) | refine Imp.drop ?_)))
  rw [decide_eq_false (by omega)]
  (((with_reducible refine e_opN v_pickF Imp.nil ?_))); ((with_reducible refine e_gdT ?_)); (((with_reducible refine e_opN v_fa0 Imp.nil ?_))); ((with_reducible refine e_gdT ?_)); (((with_reducible refine' e_opN (v_ldN ?hc) ?hi ?_); (case hi => (repeat (first | exact Imp.refl | exact Imp.nil | (apply Imp.pick; (focus ((repeat constructor); done))) | refine Imp.drop ?_))); (case hc => (repeat (first | exact Nth.here | apply Nth.there))))); ((with_reducible refine e_gdT ?_))
  refine e_opN v_gtr Imp.nil ?_
  by_cases h3 : 3600 < tmo
  · rw [decide_eq_true (by omega)]
    (((with_reducible refine e_opN v_pickF Imp.nil ?_))); ((with_reducible refine e_condT ?_))
    exact bad _ (fun c => absurd c.2.2.2.1 (by omega)) (by (repeat (first | exact Imp.refl | exact Imp.nil | (apply Imp.pick; (focus ((repeat constructor); done))) | refine Imp.drop ?_)))
  rw [decide_eq_false (by omega)]
  (((with_reducible refine e_opN v_pickF Imp.nil ?_))); ((with_reducible refine e_condF ?_))
  refine e_mkF encI fun mb => ?_
  refine e_mkF encI fun mi => ?_
  (((with_reducible refine e_opN v_fa0 Imp.nil ?_))); (((with_reducible refine' e_opN (v_ldN ?hc) ?hi ?_); (case hi => (repeat (first | exact Imp.refl | exact Imp.nil | (apply Imp.pick; (focus ((repeat constructor); done))) | refine Imp.drop ?_))); (case hc => (repeat (first | exact Nth.here | apply Nth.there))))); (((with_reducible refine e_opN v_rv Imp.nil ?_))); (((with_reducible refine e_boxA fun g => ?_))); (((with_reducible refine e_opN v_fa0 Imp.nil ?_))); (((with_reducible refine' e_opN (v_ldN ?hc) ?hi ?_); (case hi => (repeat (first | exact Imp.refl | exact Imp.nil | (apply Imp.pick; (focus ((repeat constructor); done))) | refine Imp.drop ?_))); (case hc => (repeat (first | exact Nth.here | apply Nth.there))))); (((with_reducible refine e_opN v_len Imp.nil ?_)))
  rename Nat => p
  refine e_nil (s := 1) (e := 97) ?_
  refine e_loop1 (fun m y => [ex fun x : Nat × (Nat → Nat) => all [pu (m + x.1 = us.length ∧ y = .int .i64 (x.1 : Int) ∧ ∀ j, j < x.1 → ¬ badU us tmo j), IsPl p x.2 (newI us tmo x.1), A]] ++ F) us.length ?_ ?_
  · refine .ex (0, fun _ => 0) (.all ?_)
    (try simp only [List.cons_append, List.nil_append, -eq_self])
    refine .pu ⟨by omega, rfl, fun j hj => absurd hj (by omega)⟩ (.ex ((none, 0), mb, mi) (.all ?_))
    (try simp only [List.cons_append, List.nil_append, -eq_self])
    refine .pick (by (repeat constructor)) (.pick (by (repeat constructor)) ?_)
    have e0 : ∀ gs : Nat → Nat, mv gs (fun _ => none) = fun _ => none := fun gs => by funext x; rfl
    have e1 : (newI us tmo 0).bm = fun _ => none := rfl
    have e2 : (newI us tmo 0).im = fun _ => none := rfl
    rw [e1, e2, e0]
    refine .pick (by (repeat constructor)) (.pick (by (repeat constructor)) ?_)
    exact imp_bs0 (by (repeat (first | exact Imp.refl | exact Imp.nil | (apply Imp.pick; (focus ((repeat constructor); done))) | refine Imp.drop ?_)))
  intro m ds y
  (try simp only [List.cons_append, List.nil_append, -eq_self])
  refine e_ex Pick.here fun x => e_all Pick.here ?_
  obtain ⟨i, gs⟩ := x
  (try simp only [List.cons_append, List.nil_append, -eq_self])
  refine e_pu Pick.here fun hi => ?_
  obtain ⟨hmi, rfl, hgood⟩ := hi
  (refine e_ask v_lss Imp.nil (fun h => ?_) (fun h => ?_))
  · have hil : i < us.length := by omega
    obtain ⟨g, o, rfl, _⟩ := hr.at_ (by omega)
    obtain ⟨u1, u2⟩ := pr2_get us i hil
    refine e_condT ?_
    refine e_opN (v_ia i (by rfl) hil) Imp.nil ?_
    refine e_opN (v_ldRdG (vs := [.int .i64 us[i].1, .int .i64 us[i].2]) (n := 2) hr rfl ?_) (.pick (by (repeat constructor)) .nil) ?_
    · intro j hj
      have : j = 0 ∨ j = 1 := by omega
      rcases this with rfl | rfl
      · exact u1
      · exact u2
    (((with_reducible refine e_newA fun g => ?_))); (((with_reducible refine' e_stAgg ?hp ?hn ?hv ?h1 ?_); (case hp => (repeat constructor)); (case hn => rfl); (case hv => rfl); (case h1 => simp [Value.oneCell']))); (((with_reducible refine e_opN v_fa0 Imp.nil ?_))); (((with_reducible refine' e_opN (v_ldN ?hc) ?hi ?_); (case hi => (repeat (first | exact Imp.refl | exact Imp.nil | (apply Imp.pick; (focus ((repeat constructor); done))) | refine Imp.drop ?_))); (case hc => (repeat (first | exact Nth.here | apply Nth.there)))))
    have hg2 : us.getD i (0, 0) = us[i] := by rw [List.getD_eq_getElem?_getD, List.getElem?_eq_getElem hil]; rfl
    have hgd : badU us tmo i ↔ (us[i].2 < 1 ∨ 64 < us[i].2 ∨ (fd (newI us tmo i) us[i].1).isSome = true) := by unfold badU; rw [hg2]
    refine e_opN v_lss Imp.nil ?_
    by_cases b1 : us[i].2 < 1
    · rw [decide_eq_true b1]
      ((with_reducible refine e_gdF1 ?_)); ((with_reducible refine e_gdF1 ?_)); ((with_reducible refine e_gdF1 ?_)); (((with_reducible refine e_opN v_pickT Imp.nil ?_))); ((with_reducible refine e_gdF1 ?_)); ((with_reducible refine e_gdF1 ?_)); ((with_reducible refine e_gdF1 ?_)); ((with_reducible refine e_gdF1 ?_)); ((with_reducible refine e_gdF1 ?_)); (((with_reducible refine e_opN v_pickT Imp.nil ?_))); ((with_reducible refine e_condT ?_))
      exact bad _ (fun c => c.2.2.2.2 i hil (hgd.2 (.inl b1))) (by (repeat (first | exact Imp.refl | exact Imp.nil | (apply Imp.pick; (focus ((repeat constructor); done))) | refine Imp.drop ?_)))
    rw [decide_eq_false b1]
    ((with_reducible refine e_gdT ?_)); (((with_reducible refine e_opN v_fa0 Imp.nil ?_))); ((with_reducible refine e_gdT ?_)); (((with_reducible refine' e_opN (v_ldN ?hc) ?hi ?_); (case hi => (repeat (first | exact Imp.refl | exact Imp.nil | (apply Imp.pick; (focus ((repeat constructor); done))) | refine Imp.drop ?_))); (case hc => (repeat (first | exact Nth.here | apply Nth.there))))); ((with_reducible refine e_gdT ?_))
    refine e_opN v_gtr Imp.nil ?_
    by_cases b2 : 64 < us[i].2
    · rw [decide_eq_true b2]
      (((with_reducible refine e_opN v_pickF Imp.nil ?_))); ((with_reducible refine e_gdF1 ?_)); ((with_reducible refine e_gdF1 ?_)); ((with_reducible refine e_gdF1 ?_)); ((with_reducible refine e_gdF1 ?_)); ((with_reducible refine e_gdF1 ?_)); (((with_reducible refine e_opN v_pickT Imp.nil ?_))); ((with_reducible refine e_condT ?_))
      exact bad _ (fun c => c.2.2.2.2 i hil (hgd.2 (.inr (.inl b2)))) (by (repeat (first | exact Imp.refl | exact Imp.nil | (apply Imp.pick; (focus ((repeat constructor); done))) | refine Imp.drop ?_)))
    rw [decide_eq_false b2]
    (((with_reducible refine e_opN v_pickF Imp.nil ?_))); ((with_reducible refine e_gdT ?_)); ((with_reducible refine e_gdT ?_)); (((with_reducible refine e_opN v_fa0 Imp.nil ?_))); ((with_reducible refine e_gdT ?_)); (((with_reducible refine' e_opN (v_ldN ?hc) ?hi ?_); (case hi => (repeat (first | exact Imp.refl | exact Imp.nil | (apply Imp.pick; (focus ((repeat constructor); done))) | refine Imp.drop ?_))); (case hc => (repeat (first | exact Nth.here | apply Nth.there))))); ((with_reducible refine e_gdT ?_))
    (refine' e_call (peer (p := p) (gs := gs) (Z := newI us tmo i) (id := us[i].1) (by show i ≤ 1024; omega)) ?hp fun _ => ?_; (case hp => (repeat (first | exact Picks.nil | (apply Picks.cons; (focus (repeat constructor)))))); (try simp only [List.cons_append, List.nil_append, Bool.not_true, Bool.not_false]))
    ((with_reducible refine e_gdT ?_))
    refine e_opN (pvo_nonnil (P := Try.prog) (t := 97)) Imp.nil ?_
    by_cases b3 : (fd (newI us tmo i) us[i].1).isSome = true
    · rw [b3]
      (((with_reducible refine e_opN v_pickF Imp.nil ?_))); ((with_reducible refine e_condT ?_))
      exact bad _ (fun c => c.2.2.2.2 i hil (hgd.2 (.inr (.inr b3)))) (by (repeat (first | exact Imp.refl | exact Imp.nil | (apply Imp.pick; (focus ((repeat constructor); done))) | refine Imp.drop ?_)))
    rw [Bool.eq_false_iff.2 b3]
    (((with_reducible refine e_opN v_pickF Imp.nil ?_))); ((with_reducible refine e_condF ?_)); ((with_reducible refine e_drS ?_)); (((with_reducible refine e_stD v_nil Imp.nil ?_))); (((with_reducible refine e_stD v_fa0 Imp.nil ?_)))
    refine e_ex .here fun q => e_all .here ?_
    obtain ⟨⟨pa, pc⟩, mb, mi⟩ := q
    (try simp only [List.cons_append, List.nil_append, -eq_self])
    (((with_reducible refine' e_stD (v_ldN ?hc) ?hi ?_); (case hi => (repeat (first | exact Imp.refl | exact Imp.nil | (apply Imp.pick; (focus ((repeat constructor); done))) | refine Imp.drop ?_))); (case hc => (repeat (first | exact Nth.here | apply Nth.there))))); (((with_reducible refine' e_stS (v_ldAgg ?hn) ?hi ?_); (case hi => (repeat (first | exact Imp.refl | exact Imp.nil | (apply Imp.pick; (focus ((repeat constructor); done))) | refine Imp.drop ?_))); (case hn => rfl))); (((with_reducible refine e_stS v_rv Imp.nil ?_))); (((with_reducible refine e_boxA fun g => ?_))); (((with_reducible refine e_obl ?hi ?_); (case hi => (repeat (first | exact Imp.refl | exact Imp.nil | (apply Imp.pick; (focus ((repeat constructor); done))) | refine Imp.drop ?_))))); (((with_reducible refine e_obl ?hi ?_); (case hi => (repeat (first | exact Imp.refl | exact Imp.nil | (apply Imp.pick; (focus ((repeat constructor); done))) | refine Imp.drop ?_))))); (((with_reducible refine e_obl ?hi ?_); (case hi => (repeat (first | exact Imp.refl | exact Imp.nil | (apply Imp.pick; (focus ((repeat constructor); done))) | refine Imp.drop ?_))))); (((with_reducible refine e_bsl1 fun g => ?_))); (((with_reducible refine e_obl ?hi ?_); (case hi => (repeat (first | exact Imp.refl | exact Imp.nil | (apply Imp.pick; (focus ((repeat constructor); done))) | refine Imp.drop ?_))))); (((with_reducible refine e_obl ?hi ?_); (case hi => (repeat (first | exact Imp.refl | exact Imp.nil | (apply Imp.pick; (focus ((repeat constructor); done))) | refine Imp.drop ?_))))); (((with_reducible refine e_obl ?hi ?_); (case hi => (repeat (first | exact Imp.refl | exact Imp.nil | (apply Imp.pick; (focus ((repeat constructor); done))) | refine Imp.drop ?_)))))
    rename Nat => gn
    refine e_app (m := 1) (news := [pv g]) (by (repeat constructor)) (src_pt (e' := 97) (by kernel_rfl) .here (by rfl) (by intro u hu; simp at hu; rw [hu]; rfl)) (by show (i + 1) * 8 ≤ _; omega) (by show i + 1 ≤ _; omega) fun a' c' => ?_
    (((with_reducible refine e_stS v_nil Imp.nil ?_))); (((with_reducible refine e_stS v_fa0 Imp.nil ?_))); (((with_reducible refine' e_stN ?hp ?ho ?_); (case hp => (repeat constructor)); (case ho => (repeat (first | exact Put.here | apply Put.there))))); (((with_reducible refine e_opN (v_add ?h1 ?h2) Imp.nil ?_); (case h1 => omega); (case h2 => omega)))
    refine e_next1 (m - 1) (by omega) (.ex (i + 1, fun j => if j = i then g else gs j) (.all ?_))
    (try simp only [List.cons_append, List.nil_append, -eq_self])
    refine .pu ⟨by omega, rfl, fun j hj => ?_⟩ (.ex ((a', c'), mb, mi) (.all ?_))
    · by_cases c : j = i
      · subst c
        exact fun hb => by
          rcases hgd.1 hb with h | h | h
          · exact b1 h
          · exact b2 h
          · exact b3 h
      · exact hgood j (by omega)
    (try simp only [List.cons_append, List.nil_append, -eq_self])
    refine .pick (by (repeat constructor)) ?_
    have e0 : ∀ (gs : Nat → Nat) (k : Nat), mv gs (newI us tmo k).bm = fun _ => none := fun gs k => by funext x; rfl
    have e1 : ∀ (gs : Nat → Nat) (k : Nat), mv gs (newI us tmo k).im = fun _ => none := fun gs k => by funext x; rfl
    have e2 : ptrs (fun j => if j = i then g else gs j) (i + 1) = ptrs gs i ++ [pv g] := by
      unfold ptrs
      rw [List.range_succ, List.map_append]
      congr 1
      · exact List.map_congr_left fun j hj => by
          have hj := List.mem_range.1 hj
          show pv (if j = i then g else gs j) = _
          rw [if_neg (by omega)]
      · simp
    have e3 : (newI us tmo (i + 1)).n = i + 1 := rfl
    have e4 : (newI us tmo i).n = i := rfl
    rw [e0, e1, e0, e1, e3, e4, e2]
    refine .pick (by (repeat constructor)) (.pick (by (repeat constructor)) (.pick (by (repeat constructor)) ?_))
    refine imp_bsS (F := fun j => IsPr (gs j) ((newI us tmo i).pr j)) (fun j hj => ?_) ?_
    · show _ = IsPr (if j = i then g else gs j) _
      rw [if_neg (by omega)]; rfl
    refine .pick (by (repeat constructor)) ?_
    simp only [if_true]
    have hp1 : (newI us tmo (i + 1)).pr i = ⟨us[i].1, us[i].2, [], 0, -2199023255552⟩ := by
      show (⟨(us.getD i (0, 0)).1, (us.getD i (0, 0)).2, [], 0, -2199023255552⟩ : Pr) = _
      rw [hg2]
    rw [hp1]
    refine .ex (none, 0) (.all ?_)
    (try simp only [List.cons_append, List.nil_append, -eq_self])
    refine .pick (by (repeat constructor)) (imp_nil ?_)
    (repeat (first | exact Imp.refl | exact Imp.nil | (apply Imp.pick; (focus ((repeat constructor); done))) | refine Imp.drop ?_))
  · have : i = us.length := by omega
    subst this
    refine e_condF ?_
    have hok : okU us tmo := ⟨h0, by omega, by omega, by omega, hgood⟩
    refine e_ret (⟨some (p, gs), hok⟩ : NewR us tmo) rfl ?_
    unfold newH
    (repeat (first | exact Imp.refl | exact Imp.nil | (apply Imp.pick; (focus ((repeat constructor); done))) | refine Imp.drop ?_))
end Go.Proofs.Ytpmcokpiplcnjaa.PL
