/- The law PoolRound: what it does. No conditions but those that each names. -/
import Derived.Test.YtpmcokpiplcnjaaPoolOpen
set_option linter.unusedVariables false
set_option linter.unusedSimpArgs false
namespace Go.Proofs.Ytpmcokpiplcnjaa.PL
open Go Go.Proofs Go.RowKit Go.Proofs.Ytpmcokpiplcnjaa.Sh Go.Proofs.Ytpmcokpiplcnjaa.Sl Go.Proofs.Ytpmcokpiplcnjaa.T
def leastI (us : List (Int × Int)) : Nat → Int
  | 0 => 64
  | i + 1 => if (us.getD i (0, 0)).2 < leastI us i then (us.getD i (0, 0)).2 else leastI us i
theorem leastI_le (us : List (Int × Int)) : ∀ i, leastI us i ≤ 64 ∧ ∀ j, j < i → leastI us i ≤ (us.getD j (0, 0)).2
  | 0 => ⟨Int.le_refl _, fun j hj => absurd hj (by omega)⟩
  | i + 1 => by
    have ih := leastI_le us i
    rw [leastI]
    split
    · refine ⟨by omega, fun j hj => ?_⟩
      by_cases c : j = i
      · subst c; omega
      · have := ih.2 j (by omega); omega
    · refine ⟨ih.1, fun j hj => ?_⟩
      by_cases c : j = i
      · subst c; omega
      · exact ih.2 j (by omega)
theorem leastI_pos {us : List (Int × Int)} : ∀ i, (∀ j, j < i → 1 ≤ (us.getD j (0, 0)).2) → 1 ≤ leastI us i
  | 0, _ => by simp [leastI]
  | i + 1, h => by
    have ih := leastI_pos i fun j hj => h j (by omega)
    have := h i (by omega)
    rw [leastI]
    split <;> omega
/-- after i connections, taken in turns -/
structure Rnd (us : List (Int × Int)) (Z : Pl) (i : Nat) : Prop where
  n : Z.n = us.length
  num : Z.num = i
  turn : ∃ q r, i = q * us.length + r ∧ r < us.length ∧ Z.at_ = r ∧ ∀ j, j < us.length → Z.pr j = ⟨(us.getD j (0, 0)).1, (us.getD j (0, 0)).2, [], (q : Int) + (if j < r then 1 else 0), -2199023255552⟩
theorem rnd0 {us : List (Int × Int)} {tmo : Int} (h : 1 ≤ us.length) : Rnd us (newI us tmo us.length) 0 :=
  ⟨rfl, rfl, 0, 0, by omega, by omega, rfl, fun j hj => by simp [newI]⟩
theorem rnd_take {us : List (Int × Int)} {Z : Pl} {i : Nat} {least : Int} (h : Rnd us Z i) (hl : ∀ j, j < us.length → least ≤ (us.getD j (0, 0)).2) (hi : (i : Int) < least * us.length) :
    (takeF Z 5).1 = ⟨(us.getD (i % us.length) (0, 0)).1, i, true, 0⟩ ∧ Rnd us (takeF Z 5).2 (i + 1) := by
  obtain ⟨q, r, hi0, hr, ha, hp⟩ := h.turn
  have hn := h.n
  have hpr := hp r hr
  rw [if_neg (Nat.lt_irrefl r)] at hpr
  have hq : (q : Int) < least := by
    rcases Int.lt_or_le (q : Int) least with c | c
    · exact c
    · exfalso
      have : least * (us.length : Int) ≤ (q : Int) * (us.length : Int) := Int.mul_le_mul_of_nonneg_right c (by omega)
      rw [hi0] at hi
      push_cast at hi
      omega
  have hlr := hl r hr
  have hm : i % us.length = r := by rw [hi0, Nat.mul_comm, Nat.mul_add_mod, Nat.mod_eq_of_lt hr]
  have ho : ord Z 0 = r := by unfold ord; rw [ha, hn, Nat.add_zero, Nat.mod_eq_of_lt hr]
  have hav : avail Z 5 (ord Z 0) := by
    rw [ho]
    unfold avail
    rw [hpr]
    refine ⟨by show ¬ clk 5 < -2199023255552; decide, .inr ?_⟩
    show (q : Int) + 0 < (us.getD r (0, 0)).2
    omega
  have hpk : pkI Z 5 Z.n = some 0 := by
    have h1 : pkI Z 5 1 = some 0 := by
      rw [pkI]
      simp only [pkI]
      rw [if_pos hav]
    have := pkI_up h1 (Z.n - 1)
    rwa [show 1 + (Z.n - 1) = Z.n by omega] at this
  have hid : (Z.pr r).idle = [] := by rw [hpr]
  have ht : takeF Z 5 = (⟨(Z.pr r).id, tkId Z r, decide ((Z.pr r).idle.length = 0), 0⟩, took Z r) := by unfold takeF; rw [hpk]; simp only; rw [ho]
  have htk : tkId Z r = i := by unfold tkId; rw [hid, if_neg (by simp), h.num]
  rw [ht]
  refine ⟨?_, ?_⟩
  · show (⟨(Z.pr r).id, tkId Z r, decide ((Z.pr r).idle.length = 0), 0⟩ : Tk) = _
    rw [htk, hm, hid, hpr]; rfl
  · refine ⟨hn, by show (if 0 < (Z.pr r).idle.length then Z.num else Z.num + 1) = _; rw [hid, if_neg (by simp), h.num]; push_cast; rfl, ?_⟩
    have hat : (took Z r).at_ = (r + 1) % us.length := by show (r + 1) % Z.n = _; rw [hn]
    have hprs : ∀ j, j < us.length → (took Z r).pr j = if j = r then ⟨(us.getD j (0, 0)).1, (us.getD j (0, 0)).2, [], (q : Int) + 1, -2199023255552⟩ else Z.pr j := fun j hj => by
      show setP Z.pr r _ j = _
      unfold setP
      by_cases c : j = r
      · subst c
        rw [if_pos rfl, if_pos rfl, hpr]
        simp
      · rw [if_neg c, if_neg c]
    by_cases c : r + 1 < us.length
    · refine ⟨q, r + 1, by omega, c, by rw [hat, Nat.mod_eq_of_lt c], fun j hj => ?_⟩
      rw [hprs j hj]
      by_cases d : j = r
      · rw [if_pos d, if_pos (by omega)]
      · rw [if_neg d, hp j hj]
        by_cases e : j < r
        · rw [if_pos e, if_pos (by omega)]
        · rw [if_neg e, if_neg (by omega)]
    · have he : r + 1 = us.length := by omega
      refine ⟨q + 1, 0, by rw [Nat.add_mul]; omega, by omega, by rw [hat, he, Nat.mod_self], fun j hj => ?_⟩
      rw [hprs j hj]
      by_cases d : j = r
      · rw [if_pos d, if_neg (by omega)]; congr 1
      · rw [if_neg d, hp j hj, if_pos (by omega), if_neg (by omega)]; congr 1
theorem poolRound {W : World} {nm : ByteArray} {a : Option Addr} {c : Nat} {us : List (Int × Int)} {tmo rt v : Int} (hr : ∀ A, RdB W A a (us.length * 2) (us.flatMap pr2)) (hl : us.length ≤ 1048576) :
    Cn Try.prog 4 [.agg #[.string nm, .slice a us.length c, .int .i64 tmo, .int .i64 rt], .int .i64 v] W [] (fun _ : Unit => .bool true) (fun _ => []) := by
  (refine S.law22_PoolRound_cn fun F => ?_; unfold S.law22_PoolRound; simp only [List.cons_append, List.nil_append])
  refine e_boxA fun b2 => ?_
  (((with_reducible refine' e_opN (v_ldAgg ?hn) ?hi ?_); (case hi => (repeat (first | exact Imp.refl | exact Imp.nil | (apply Imp.pick; (focus ((repeat constructor); done))) | refine Imp.drop ?_))); (case hn => rfl)))
  (refine' e_call (own (us := us) (nm := nm) (a := a) (c := c) (tmo := tmo) (rt := rt) (hr (pt b2 (.cells #[.string nm, .slice a us.length c, .int .i64 tmo, .int .i64 rt] 28))) (by omega)) ?hp fun _ => ?_; (case hp => (repeat (first | exact Picks.nil | (apply Picks.cons; (focus (repeat constructor)))))); (try simp only [List.cons_append, List.nil_append, Bool.not_true, Bool.not_false]))
  rename_i q
  obtain ⟨qa, qc⟩ := q
  (try dsimp only)
  refine e_slfacts (.there .here) fun f1 f2 f3 f4 => ?_
  (refine' e_call (new (us := us) (nm := .string nm) (a := qa) (c := qc) (tmo := tmo) (rt := rt) (A := Sl 2 96 qa qc us.length (us.flatMap pr2)) (rd_slG (pr2_len us) f4)) ?hp fun _ => ?_; (case hp => (repeat (first | exact Picks.nil | (apply Picks.cons; (focus (repeat constructor)))))); (try simp only [List.cons_append, List.nil_append, Bool.not_true, Bool.not_false]))
  rename_i x
  obtain ⟨r, hx⟩ := x
  cases r with
  | none =>
    simp only [newV, newH]
    (((with_reducible refine' e_opN (v_extN ?hc) Imp.nil ?_); (case hc => (repeat (first | exact Nth.here | apply Nth.there))))); (((with_reducible refine' e_opN (v_extN ?hc) Imp.nil ?_); (case hc => (repeat (first | exact Nth.here | apply Nth.there)))))
    (refine' e_call (num_) ?hp fun _ => ?_; (case hp => (repeat (first | exact Picks.nil | (apply Picks.cons; (focus (repeat constructor)))))); (try simp only [List.cons_append, List.nil_append, Bool.not_true, Bool.not_false]))
    refine e_opN v_neq Imp.nil ?_
    rw [decide_eq_true (by decide)]
    ((with_reducible refine e_gdF1 ?_)); ((with_reducible refine e_gdF1 ?_)); (((with_reducible refine e_opN v_pickT Imp.nil ?_))); ((with_reducible refine e_gdF1 ?_)); ((with_reducible refine e_gdF1 ?_)); (((with_reducible refine e_opN v_pickT Imp.nil ?_))); ((with_reducible refine e_condT ?_))
    (refine' e_call (knows) ?hp fun _ => ?_; (case hp => (repeat (first | exact Picks.nil | (apply Picks.cons; (focus (repeat constructor)))))); (try simp only [List.cons_append, List.nil_append, Bool.not_true, Bool.not_false]))
    (first | refine e_ret (()) rfl ?_ | refine e_retT (()) ?_)
    (repeat (first | exact Imp.refl | exact Imp.nil | (apply Imp.pick; (focus ((repeat constructor); done))) | refine Imp.drop ?_))
  | some pg =>
    obtain ⟨p, gs⟩ := pg
    have hok : okU us tmo := hx
    simp only [newV, newH]
    refine e_opN (v_ext (v := pv p) rfl) Imp.nil ?_
    refine e_opN (v_ext (v := .int .i64 0) rfl) Imp.nil ?_
    (refine' e_call (num_) ?hp fun _ => ?_; (case hp => (repeat (first | exact Picks.nil | (apply Picks.cons; (focus (repeat constructor)))))); (try simp only [List.cons_append, List.nil_append, Bool.not_true, Bool.not_false]))
    refine e_opN v_neq Imp.nil ?_
    rw [decide_eq_false (by decide)]
    unfold pv
    ((with_reducible refine e_gdT ?_)); ((with_reducible refine e_gdT ?_)); (((with_reducible refine e_opN v_eqNil1 Imp.nil ?_))); (((with_reducible refine e_opN v_pickF Imp.nil ?_))); ((with_reducible refine e_gdT ?_))
    (refine' e_call (knows) ?hp fun _ => ?_; (case hp => (repeat (first | exact Picks.nil | (apply Picks.cons; (focus (repeat constructor)))))); (try simp only [List.cons_append, List.nil_append, Bool.not_true, Bool.not_false]))
    ((with_reducible refine e_gdT ?_)); (((with_reducible refine e_opN v_notT Imp.nil ?_))); (((with_reducible refine e_opN v_pickF Imp.nil ?_))); ((with_reducible refine e_condF ?_))
    have hn1 : 1 ≤ us.length ∧ us.length ≤ 16 := ⟨by have := hok.1; omega, hok.2.1⟩
    refine e_loop2 (fun m x y => [ex fun i : Nat => pu (m + i = us.length ∧ x = .int .i64 (leastI us i) ∧ y = .int .i64 (i : Int)), IsPl p gs (newI us tmo us.length), pt b2 (.cells #[.string nm, .slice a us.length c, .int .i64 tmo, .int .i64 rt] 28)] ++ F) us.length ?_ ?_
    · refine .ex 0 (.pu ⟨by omega, rfl, rfl⟩ ?_)
      (repeat (first | exact Imp.refl | exact Imp.nil | (apply Imp.pick; (focus ((repeat constructor); done))) | refine Imp.drop ?_))
    intro m ds x y
    (try simp only [List.cons_append, List.nil_append, -eq_self])
    refine e_ex Pick.here fun i => e_pu Pick.here fun hi => ?_
    obtain ⟨hmi, rfl, rfl⟩ := hi
    (((with_reducible refine e_opN v_fa0 Imp.nil ?_))); (((with_reducible refine' e_opN (v_ldN ?hc) ?hi ?_); (case hi => (repeat (first | exact Imp.refl | exact Imp.nil | (apply Imp.pick; (focus ((repeat constructor); done))) | refine Imp.drop ?_))); (case hc => (repeat (first | exact Nth.here | apply Nth.there))))); (((with_reducible refine e_opN v_len Imp.nil ?_)))
    (refine e_ask v_lss Imp.nil (fun h => ?_) (fun h => ?_))
    · have hil : i < us.length := by omega
      have hR := hr (IsPl p gs (newI us tmo us.length))
      obtain ⟨g, o, rfl, _⟩ := hR.at_ (by omega)
      obtain ⟨u1, u2⟩ := pr2_get us i hil
      refine e_condT ?_
      (((with_reducible refine e_opN v_fa0 Imp.nil ?_))); (((with_reducible refine' e_opN (v_ldN ?hc) ?hi ?_); (case hi => (repeat (first | exact Imp.refl | exact Imp.nil | (apply Imp.pick; (focus ((repeat constructor); done))) | refine Imp.drop ?_))); (case hc => (repeat (first | exact Nth.here | apply Nth.there)))))
      refine e_opN (v_ia i (by rfl) hil) Imp.nil ?_
      (((with_reducible refine e_opN v_fa Imp.nil ?_)))
      refine e_opN (v_ldRd2 hR (j := 1) u2) (.pick (by (repeat constructor)) .nil) ?_
      refine e_opN v_min Imp.nil ?_
      (((with_reducible refine e_opN (v_add ?h1 ?h2) Imp.nil ?_); (case h1 => omega); (case h2 => omega)))
      refine e_next2 (m - 1) (by omega) (.ex (i + 1) (.pu ⟨by omega, ?_, rfl⟩ ?_))
      · rw [leastI, List.getD_eq_getElem?_getD, List.getElem?_eq_getElem hil]; rfl
      · (repeat (first | exact Imp.refl | exact Imp.nil | (apply Imp.pick; (focus ((repeat constructor); done))) | refine Imp.drop ?_))
    · have : i = us.length := by omega
      subst this
      obtain ⟨l1, l2⟩ := leastI_le us us.length
      have l3 := leastI_pos (us := us) us.length (fun j hj => by
        have := hok.2.2.2.2 j hj
        unfold badU at this
        by_cases d : (us.getD j (0, 0)).2 < 1
        · exact absurd (.inl d) this
        · omega)
      obtain ⟨least, hle⟩ : ∃ l, l = leastI us us.length := ⟨_, rfl⟩
      rw [← hle] at l1 l2 l3 ⊢
      refine e_condF ?_
      refine e_opN (v_remt (by decide)) Imp.nil ?_
      have t1 : -64 < v.tmod 64 ∧ v.tmod 64 < 64 := ⟨Int.lt_tmod_of_pos v (by decide), Int.tmod_lt_of_pos v (by decide)⟩
      (((with_reducible refine e_opN (v_add ?h1 ?h2) Imp.nil ?_); (case h1 => omega); (case h2 => omega))); (((with_reducible refine e_opN (v_rem ?h1 ?h2) Imp.nil ?_); (case h1 => omega); (case h2 => omega)))
      obtain ⟨nn, hnn⟩ := Int.eq_ofNat_of_zero_le (show 0 ≤ (v.tmod 64 + 64) % 64 by omega)
      rw [hnn]
      have hnn64 : nn < 64 := by omega
      refine e_loop1 (fun m y => [ex fun x : Nat × Pl => all [pu (m + x.1 = 64 ∧ y = .int .i64 (x.1 : Int) ∧ Rnd us x.2 x.1 ∧ WfB x.2 x.1), IsPl p gs x.2], pt b2 (.cells #[.string nm, .slice a us.length c, .int .i64 tmo, .int .i64 rt] 28)] ++ F) 64 ?_ ?_
      · refine .ex (0, newI us tmo us.length) (.all ?_)
        (try simp only [List.cons_append, List.nil_append, -eq_self])
        refine .pu ⟨by omega, rfl, rnd0 hn1.1, newI_wf hok⟩ ?_
        (repeat (first | exact Imp.refl | exact Imp.nil | (apply Imp.pick; (focus ((repeat constructor); done))) | refine Imp.drop ?_))
      intro m ds y
      (try simp only [List.cons_append, List.nil_append, -eq_self])
      refine e_ex Pick.here fun x => e_all Pick.here ?_
      obtain ⟨i, Z⟩ := x
      (try simp only [List.cons_append, List.nil_append, -eq_self])
      refine e_pu Pick.here fun hi => ?_
      obtain ⟨hmi, rfl, hrn, hwf⟩ := hi
      (refine e_ask v_lss Imp.nil (fun h => ?_) (fun h => ?_))
      rotate_left
      · ((with_reducible refine e_gdF2 ?_)); ((with_reducible refine e_gdF2 ?_)); ((with_reducible refine e_gdF2 ?_)); ((with_reducible refine e_gdF2 ?_)); ((with_reducible refine e_gdF2 ?_)); ((with_reducible refine e_gdF2 ?_)); ((with_reducible refine e_gdF2 ?_)); (((with_reducible refine e_opN v_pickF Imp.nil ?_))); ((with_reducible refine e_condF ?_))
        (first | refine e_ret (()) rfl ?_ | refine e_retT (()) ?_)
        (repeat (first | exact Imp.refl | exact Imp.nil | (apply Imp.pick; (focus ((repeat constructor); done))) | refine Imp.drop ?_))
      have hinn : i < nn := by omega
      ((with_reducible refine e_gdT ?_)); ((with_reducible refine e_gdT ?_)); ((with_reducible refine e_gdT ?_)); (((with_reducible refine e_opN v_fa0 Imp.nil ?_))); ((with_reducible refine e_gdT ?_)); (((with_reducible refine' e_opN (v_ldN ?hc) ?hi ?_); (case hi => (repeat (first | exact Imp.refl | exact Imp.nil | (apply Imp.pick; (focus ((repeat constructor); done))) | refine Imp.drop ?_))); (case hc => (repeat (first | exact Nth.here | apply Nth.there))))); ((with_reducible refine e_gdT ?_)); (((with_reducible refine e_opN v_len Imp.nil ?_))); ((with_reducible refine e_gdT ?_))
      have hb : least * (us.length : Int) ≤ 64 * 16 := Int.mul_le_mul (by omega) (by omega) (by omega) (by omega)
      have hb0 : 0 ≤ least * (us.length : Int) := Int.mul_nonneg (by omega) (by omega)
      refine e_opN (v_mul (by omega) (by omega)) Imp.nil ?_
      ((with_reducible refine e_gdT ?_))
      (refine e_ask v_lss Imp.nil (fun h => ?_) (fun h => ?_))
      rotate_left
      · (((with_reducible refine e_opN v_pickT Imp.nil ?_))); ((with_reducible refine e_condF ?_))
        (first | refine e_ret (()) rfl ?_ | refine e_retT (()) ?_)
        (repeat (first | exact Imp.refl | exact Imp.nil | (apply Imp.pick; (focus ((repeat constructor); done))) | refine Imp.drop ?_))
      obtain ⟨h1, h2⟩ := rnd_take hrn l2 h
      (((with_reducible refine e_opN v_pickT Imp.nil ?_))); ((with_reducible refine e_condT ?_))
      rw [show (.pointer (some ⟨p, 0, none⟩) : Value) = pv p from rfl]
      (refine' e_call (take (p := p) (gs := gs) (Z := Z) (now := 5) (hwf.wf (by omega)) (hwf.idle (by omega))) ?hp fun _ => ?_; (case hp => (repeat (first | exact Picks.nil | (apply Picks.cons; (focus (repeat constructor)))))); (try simp only [List.cons_append, List.nil_append, Bool.not_true, Bool.not_false]))
      rw [h1]
      unfold tkV
      (((with_reducible refine' e_opN (v_extN ?hc) Imp.nil ?_); (case hc => (repeat (first | exact Nth.here | apply Nth.there))))); (((with_reducible refine' e_opN (v_extN ?hc) Imp.nil ?_); (case hc => (repeat (first | exact Nth.here | apply Nth.there))))); (((with_reducible refine' e_opN (v_extN ?hc) Imp.nil ?_); (case hc => (repeat (first | exact Nth.here | apply Nth.there))))); (((with_reducible refine e_newA fun g => ?_))); (((with_reducible refine' e_stAgg ?hp ?hn ?hv ?h1 ?_); (case hp => (repeat constructor)); (case hn => rfl); (case hv => rfl); (case h1 => simp [Value.oneCell']))); ((with_reducible refine e_drS ?_))
      (refine' e_call (num_) ?hp fun _ => ?_; (case hp => (repeat (first | exact Picks.nil | (apply Picks.cons; (focus (repeat constructor)))))); (try simp only [List.cons_append, List.nil_append, Bool.not_true, Bool.not_false]))
      refine e_stS v_neq Imp.nil ?_
      rw [decide_eq_false (by decide)]
      have e2 : ((i : Int) % (us.length : Int)) = ((i % us.length : Nat) : Int) := by norm_cast
      have hmod : i % us.length < us.length := Nat.mod_lt _ (by omega)
      ((with_reducible refine e_gdT ?_)); (((with_reducible refine e_stS v_fa0 Imp.nil ?_))); ((with_reducible refine e_gdT ?_)); (((with_reducible refine' e_stS (v_ldN ?hc) ?hi ?_); (case hi => (repeat (first | exact Imp.refl | exact Imp.nil | (apply Imp.pick; (focus ((repeat constructor); done))) | refine Imp.drop ?_))); (case hc => (repeat (first | exact Nth.here | apply Nth.there))))); ((with_reducible refine e_gdT ?_)); (((with_reducible refine e_stS v_fa0 Imp.nil ?_))); ((with_reducible refine e_gdT ?_)); (((with_reducible refine' e_stS (v_ldN ?hc) ?hi ?_); (case hi => (repeat (first | exact Imp.refl | exact Imp.nil | (apply Imp.pick; (focus ((repeat constructor); done))) | refine Imp.drop ?_))); (case hc => (repeat (first | exact Nth.here | apply Nth.there))))); ((with_reducible refine e_gdT ?_)); ((with_reducible refine e_gdT ?_)); (((with_reducible refine e_stS v_fa0 Imp.nil ?_))); ((with_reducible refine e_gdT ?_)); (((with_reducible refine' e_stS (v_ldN ?hc) ?hi ?_); (case hi => (repeat (first | exact Imp.refl | exact Imp.nil | (apply Imp.pick; (focus ((repeat constructor); done))) | refine Imp.drop ?_))); (case hc => (repeat (first | exact Nth.here | apply Nth.there))))); ((with_reducible refine e_gdT ?_)); (((with_reducible refine e_stS v_len Imp.nil ?_))); ((with_reducible refine e_gdT ?_)); (((with_reducible refine e_stS (v_rem ?h1 ?h2) Imp.nil ?_); (case h1 => omega); (case h2 => omega))); ((with_reducible refine e_gdT ?_))
      rw [e2]
      have hR := hr (IsPl p gs (takeF Z 5).2)
      obtain ⟨g, o, rfl, _⟩ := hR.at_ (by omega)
      obtain ⟨u1, u2⟩ := pr2_get us (i % us.length) hmod
      refine e_stS (v_ia (i % us.length) (by rfl) hmod) Imp.nil ?_
      ((with_reducible refine e_gdT ?_)); (((with_reducible refine e_stS v_fa Imp.nil ?_))); ((with_reducible refine e_gdT ?_))
      refine e_stS (v_ldRd2 hR (j := 0) u1) (.pick (by (repeat constructor)) .nil) ?_
      unfold I
      ((with_reducible refine e_gdT ?_))
      refine e_stS v_neq Imp.nil ?_
      rw [decide_eq_false (by rw [List.getD_eq_getElem?_getD, List.getElem?_eq_getElem hmod]; simp)]
      (((with_reducible refine e_stS v_pickF Imp.nil ?_))); ((with_reducible refine e_gdT ?_)); ((with_reducible refine e_gdT ?_)); (((with_reducible refine e_stS v_notT Imp.nil ?_))); (((with_reducible refine e_stS v_pickF Imp.nil ?_))); ((with_reducible refine e_gdT ?_)); (((with_reducible refine e_stS v_fa0 Imp.nil ?_))); ((with_reducible refine e_gdT ?_)); (((with_reducible refine' e_stS (v_ldN ?hc) ?hi ?_); (case hi => (repeat (first | exact Imp.refl | exact Imp.nil | (apply Imp.pick; (focus ((repeat constructor); done))) | refine Imp.drop ?_))); (case hc => (repeat (first | exact Nth.here | apply Nth.there))))); ((with_reducible refine e_gdT ?_)); ((with_reducible refine e_gdT ?_))
      refine e_stS v_neq Imp.nil ?_
      rw [decide_eq_false (by simp)]
      (((with_reducible refine e_stS v_pickF Imp.nil ?_))); ((with_reducible refine e_condF ?_)); (((with_reducible refine e_opN (v_add ?h1 ?h2) Imp.nil ?_); (case h1 => omega); (case h2 => omega)))
      refine e_next1 (m - 1) (by omega) (.ex (i + 1, (takeF Z 5).2) (.all ?_))
      (try simp only [List.cons_append, List.nil_append, -eq_self])
      refine .pu ⟨by omega, rfl, h2, take_wfb hwf⟩ ?_
      (repeat (first | exact Imp.refl | exact Imp.nil | (apply Imp.pick; (focus ((repeat constructor); done))) | refine Imp.drop ?_))
end Go.Proofs.Ytpmcokpiplcnjaa.PL
