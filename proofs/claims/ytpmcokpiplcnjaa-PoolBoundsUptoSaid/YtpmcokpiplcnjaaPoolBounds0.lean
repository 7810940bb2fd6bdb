/- The law PoolBounds: what it does. No conditions but those that each names. -/
import Derived.Test.YtpmcokpiplcnjaaPoolBd
set_option linter.unusedVariables false
set_option linter.unusedSimpArgs false
namespace Go.Proofs.Ytpmcokpiplcnjaa.PL
open Go Go.Proofs Go.RowKit Go.Proofs.Ytpmcokpiplcnjaa.Sh Go.Proofs.Ytpmcokpiplcnjaa.Sl Go.Proofs.Ytpmcokpiplcnjaa.T
def tilV (til : Nat → Int) (n : Nat) : List Value := (List.range n).map fun k => I (til k)
theorem tilV_len (til : Nat → Int) (n : Nat) : (tilV til n).length = n := by simp [tilV]
theorem tilV_get {til : Nat → Int} {n k : Nat} (h : k < n) : (tilV til n)[k]? = some (I (til k)) := by simp [tilV, h]
theorem tilV_set {til : Nat → Int} {n k : Nat} {v : Int} : (tilV til n).set k (I v) = tilV (fun q => if q = k then v else til q) n := by
  apply List.ext_getElem?
  intro j
  rw [List.getElem?_set, tilV_len]
  by_cases hj : j < n
  · rw [tilV_get hj, tilV_get hj]
    by_cases c : k = j
    · subst c; rw [if_pos rfl, if_pos hj, if_pos rfl]
    · rw [if_neg c, if_neg (fun e => c e.symm)]
  · rw [List.getElem?_eq_none (by rw [tilV_len]; omega), List.getElem?_eq_none (by rw [tilV_len]; omega)]
    split
    · split
      · omega
      · rfl
    · rfl
theorem op3_get (l : List Op3) {i : Nat} (h : i < l.length) : (l.flatMap fun x => op3 x.1)[i * 3 + 0]? = some (I l[i].1.1) ∧ (l.flatMap fun x => op3 x.1)[i * 3 + 1]? = some (I l[i].1.2.1) ∧ (l.flatMap fun x => op3 x.1)[i * 3 + 2]? = some (I l[i].1.2.2) :=
  ⟨flat_get (s := 3) (fun _ => rfl) l i 0 h (by omega), flat_get (s := 3) (fun _ => rfl) l i 1 h (by omega), flat_get (s := 3) (fun _ => rfl) l i 2 h (by omega)⟩
theorem pr2_erase (tk : List (Int × Int)) (k : Nat) : (tk.flatMap pr2).take (k * 2) ++ (tk.flatMap pr2).drop ((k + 1) * 2) = (tk.eraseIdx k).flatMap pr2 := by
  have ht : ∀ (tk : List (Int × Int)) (k : Nat), (tk.flatMap pr2).take (k * 2) = (tk.take k).flatMap pr2 := by
    intro tk
    induction tk with
    | nil => intro k; simp
    | cons x tk ih =>
      intro k
      cases k with
      | zero => simp
      | succ k =>
        rw [List.flatMap_cons, List.take_succ_cons, List.flatMap_cons, show (k + 1) * 2 = (pr2 x).length + k * 2 by simp [pr2]; omega, List.take_length_add_append, ih]
  have hd : ∀ (tk : List (Int × Int)) (k : Nat), (tk.flatMap pr2).drop (k * 2) = (tk.drop k).flatMap pr2 := by
    intro tk
    induction tk with
    | nil => intro k; simp
    | cons x tk ih =>
      intro k
      cases k with
      | zero => simp
      | succ k =>
        rw [List.flatMap_cons, List.drop_succ_cons, show (k + 1) * 2 = (pr2 x).length + k * 2 by simp [pr2]; omega, List.drop_length_add_append, ih]
  rw [ht, hd, ← List.flatMap_append, List.eraseIdx_eq_take_drop_succ]
theorem clk_id {now : Int} (h : 0 ≤ now) (h2 : now ≤ 1099511627776) : clk now = now := by
  unfold clk far
  split <;> split <;> omega
theorem poolBounds {W : World} {nm : ByteArray} {a a3 : Option Addr} {c c3 : Nat} {us : List (Int × Int)} {tmo rt : Int} {l : List Op3} (hr : ∀ A, RdB W A a (us.length * 2) (us.flatMap pr2)) (hl : us.length ≤ 1048576) (hr3 : ∀ A, RdB W A a3 (l.length * 3) (l.flatMap fun x => op3 x.1)) (hl3 : l.length ≤ 1048576) :
    Cn Try.prog 9 [.agg #[.string nm, .slice a us.length c, .int .i64 tmo, .int .i64 rt], .slice a3 l.length c3] W [] (fun _ : Unit => .bool true) (fun _ => []) := by
  (refine S.law22_PoolBounds_cn fun F => ?_; unfold S.law22_PoolBounds; simp only [List.cons_append, List.nil_append])
  refine e_boxA fun b2 => ?_
  (((with_reducible refine' e_opN (v_ldAgg ?hn) ?hi ?_); (case hi => (repeat (first | exact Imp.refl | exact Imp.nil | (apply Imp.pick; (focus ((repeat constructor); done))) | refine Imp.drop ?_))); (case hn => rfl)))
  (refine' e_call (own (us := us) (nm := nm) (a := a) (c := c) (tmo := tmo) (rt := rt) (hr (pt b2 (.cells #[.string nm, .slice a us.length c, .int .i64 tmo, .int .i64 rt] 28))) (by omega)) ?hp fun _ => ?_; (case hp => (repeat (first | exact Picks.nil | (apply Picks.cons; (focus (repeat constructor)))))); (try simp only [List.cons_append, List.nil_append, Bool.not_true, Bool.not_false]))
  rename_i q
  obtain ⟨qa, qc⟩ := q
  (try dsimp only)
  refine e_slfacts (.there .here) fun f1 f2 f3 f4 => ?_
  (refine' e_call (new (us := us) (nm := .string nm) (a := qa) (c := qc) (tmo := tmo) (rt := rt) (A := Sl 2 96 qa qc us.length (us.flatMap pr2)) (rd_slG (pr2_len us) f4)) ?hp fun _ => ?_; (case hp => (repeat (first | exact Picks.nil | (apply Picks.cons; (focus (repeat constructor)))))); (try simp only [List.cons_append, List.nil_append, Bool.not_true, Bool.not_false]))
  rename_i x
  obtain ⟨r, hx⟩ := x
  cases r with
  | none =>
    simp only [newV, newH]
    (((with_reducible refine' e_opN (v_extN ?hc) Imp.nil ?_); (case hc => (repeat (first | exact Nth.here | apply Nth.there))))); (((with_reducible refine' e_opN (v_extN ?hc) Imp.nil ?_); (case hc => (repeat (first | exact Nth.here | apply Nth.there)))))
    (refine' e_call (num_) ?hp fun _ => ?_; (case hp => (repeat (first | exact Picks.nil | (apply Picks.cons; (focus (repeat constructor)))))); (try simp only [List.cons_append, List.nil_append, Bool.not_true, Bool.not_false]))
    refine e_opN v_neq Imp.nil ?_
    rw [decide_eq_true (by decide)]
    ((with_reducible refine e_gdF1 ?_)); ((with_reducible refine e_gdF1 ?_)); (((with_reducible refine e_opN v_pickT Imp.nil ?_))); ((with_reducible refine e_gdF1 ?_)); ((with_reducible refine e_gdF1 ?_)); (((with_reducible refine e_opN v_pickT Imp.nil ?_))); ((with_reducible refine e_condT ?_))
    (refine' e_call (num_) ?hp fun _ => ?_; (case hp => (repeat (first | exact Picks.nil | (apply Picks.cons; (focus (repeat constructor)))))); (try simp only [List.cons_append, List.nil_append, Bool.not_true, Bool.not_false]))
    refine e_opN v_eql Imp.nil ?_
    rw [decide_eq_false (by decide)]
    (((with_reducible refine e_opN v_neNil0 Imp.nil ?_)))
    refine e_opN (v_beqlG (by kernel_rfl)) Imp.nil ?_
    rw [decide_eq_true rfl]
    ((with_reducible refine e_gdT ?_))
    (refine' e_call (knows) ?hp fun _ => ?_; (case hp => (repeat (first | exact Picks.nil | (apply Picks.cons; (focus (repeat constructor)))))); (try simp only [List.cons_append, List.nil_append, Bool.not_true, Bool.not_false]))
    (((with_reducible refine e_opN v_pickT Imp.nil ?_)))
    (first | refine e_ret (()) rfl ?_ | refine e_retT (()) ?_)
    (repeat (first | exact Imp.refl | exact Imp.nil | (apply Imp.pick; (focus ((repeat constructor); done))) | refine Imp.drop ?_))
  | some pg =>
    obtain ⟨p, gs⟩ := pg
    have hok : okU us tmo := hx
    have hdst := okU_dst hok
    simp only [newV, newH]
    refine e_opN (v_ext (v := pv p) rfl) Imp.nil ?_
    refine e_opN (v_ext (v := .int .i64 0) rfl) Imp.nil ?_
    (refine' e_call (num_) ?hp fun _ => ?_; (case hp => (repeat (first | exact Picks.nil | (apply Picks.cons; (focus (repeat constructor)))))); (try simp only [List.cons_append, List.nil_append, Bool.not_true, Bool.not_false]))
    refine e_opN v_neq Imp.nil ?_
    rw [decide_eq_false (by decide)]
    unfold pv
    ((with_reducible refine e_gdT ?_)); ((with_reducible refine e_gdT ?_)); (((with_reducible refine e_opN v_eqNil1 Imp.nil ?_))); (((with_reducible refine e_opN v_pickF Imp.nil ?_))); ((with_reducible refine e_gdT ?_))
    (refine' e_call (knows) ?hp fun _ => ?_; (case hp => (repeat (first | exact Picks.nil | (apply Picks.cons; (focus (repeat constructor)))))); (try simp only [List.cons_append, List.nil_append, Bool.not_true, Bool.not_false]))
    ((with_reducible refine e_gdT ?_)); (((with_reducible refine e_opN v_notT Imp.nil ?_))); (((with_reducible refine e_opN v_pickF Imp.nil ?_))); ((with_reducible refine e_condF ?_)); (((with_reducible refine e_opN v_fa0 Imp.nil ?_))); (((with_reducible refine' e_opN (v_ldN ?hc) ?hi ?_); (case hi => (repeat (first | exact Imp.refl | exact Imp.nil | (apply Imp.pick; (focus ((repeat constructor); done))) | refine Imp.drop ?_))); (case hc => (repeat (first | exact Nth.here | apply Nth.there))))); (((with_reducible refine e_opN v_len Imp.nil ?_)))
    have hn1 : 1 ≤ us.length ∧ us.length ≤ 16 := ⟨by have := hok.1; omega, hok.2.1⟩
    have hR0 := hr (pu True)
    obtain ⟨g0, o0, rfl, _⟩ := hR0.at_ (by omega)
    clear hR0
    refine e_mksl us.length us.length rfl rfl (Nat.le_refl _) (by omega) (by unfold maxLen; omega) fun tg => ?_
    have hz0 : (List.replicate us.length (.int .i64 0) : List Value) = tilV (fun _ => 0) us.length := by
      apply List.ext_getElem?
      intro j
      by_cases hj : j < us.length
      · rw [tilV_get hj]; simp [hj, I]
      · rw [List.getElem?_eq_none (by simpa using hj), List.getElem?_eq_none (by rw [tilV_len]; omega)]
    rw [hz0]
    refine e_nil (s := 2) (e := 41) ?_
    have upp : (.pointer (some ⟨p, 0, none⟩) : Value) = pv p := rfl
    rw [upp]
    refine e_loop3 (fun m x y z => [ex fun st : (Nat × Int) × Pl × List (Int × Int) × (Nat → Int) × (Option Addr × Nat) => all [pu (m + st.1.1 = l.length ∧ x = .slice st.2.2.2.2.1 st.2.2.1.length st.2.2.2.2.2 ∧ y = .int .i64 st.1.2 ∧ z = .int .i64 (st.1.1 : Int) ∧ 0 ≤ st.1.2 ∧ st.1.2 ≤ 100 * st.1.1 ∧ Bd us st.2.1 st.2.2.1 st.2.2.2.1 ∧ WfB st.2.1 st.1.1 ∧ st.2.2.1.length ≤ st.1.1 ∧ st.2.1.tmo = tmo),
        IsPl p gs st.2.1, Sl 2 41 st.2.2.2.2.1 st.2.2.2.2.2 st.2.2.1.length (st.2.2.1.flatMap pr2), Sl 1 3 (some ⟨tg, 0, none⟩) us.length us.length (tilV st.2.2.2.1 us.length)], pt b2 (.cells #[.string nm, .slice (some ⟨g0, o0, none⟩) us.length c, .int .i64 tmo, .int .i64 rt] 28)] ++ F) l.length ?_ ?_
    · refine .ex ((0, 0), newI us tmo us.length, [], (fun _ => 0), (none, 0)) (.all ?_)
      (try simp only [List.cons_append, List.nil_append, -eq_self])
      refine .pu ⟨by omega, rfl, rfl, rfl, by omega, by omega, bd0 hok, newI_wf hok, by simp, rfl⟩ ?_
      exact .pick (by (repeat constructor)) (.pick (by (repeat constructor)) (.pick (by (repeat constructor)) (by (repeat (first | exact Imp.refl | exact Imp.nil | (apply Imp.pick; (focus ((repeat constructor); done))) | refine Imp.drop ?_)))))
    intro m ds x y z
    (try simp only [List.cons_append, List.nil_append, -eq_self])
    refine e_ex Pick.here fun st => e_all Pick.here ?_
    obtain ⟨⟨i, now⟩, Z, tk, til, ⟨ta, tc⟩⟩ := st
    (try simp only [List.cons_append, List.nil_append, -eq_self])
    refine e_pu Pick.here fun hi => ?_
    (try dsimp only at hi)
    obtain ⟨hmi, rfl, rfl, rfl, hw0, hw1, hbd, hwf, htl, htm⟩ := hi
    (try dsimp only)
    (((with_reducible refine e_opN v_len Imp.nil ?_)))
    (refine e_ask v_lss Imp.nil (fun h => ?_) (fun h => ?_))
    rotate_left
    · refine e_condF ?_
      (first | refine e_ret (()) rfl ?_ | refine e_retT (()) ?_)
      (repeat (first | exact Imp.refl | exact Imp.nil | (apply Imp.pick; (focus ((repeat constructor); done))) | refine Imp.drop ?_))
    have hil : i < l.length := by omega
    refine e_condT ?_
    have hR3 := hr3 (IsPl p gs Z)
    obtain ⟨g3, o3, rfl, hcc⟩ := hR3.at_ (by omega)
    clear hcc
    obtain ⟨w0, w1, w2⟩ := op3_get l hil
    obtain ⟨kd, hkd⟩ : ∃ x, x = l[i].1.1 := ⟨_, rfl⟩
    obtain ⟨kid, hkid⟩ : ∃ x, x = l[i].1.2.1 := ⟨_, rfl⟩
    obtain ⟨kn, hkn⟩ : ∃ x, x = l[i].1.2.2 := ⟨_, rfl⟩
    rw [← hkd] at w0
    rw [← hkid] at w1
    rw [← hkn] at w2
    refine e_opN (v_ia i (by rfl) hil) Imp.nil ?_
    (((with_reducible refine e_opN v_fa Imp.nil ?_)))
    refine e_opN (v_ldRd2 hR3 (j := 2) w2) (.pick (by (repeat constructor)) .nil) ?_
    unfold I
    refine e_opN (v_remt (by decide)) Imp.nil ?_
    have t1 : -100 < kn.tmod 100 ∧ kn.tmod 100 < 100 := ⟨Int.lt_tmod_of_pos kn (by decide), Int.tmod_lt_of_pos kn (by decide)⟩
    (((with_reducible refine e_opN (v_add ?h1 ?h2) Imp.nil ?_); (case h1 => omega); (case h2 => omega))); (((with_reducible refine e_opN (v_rem ?h1 ?h2) Imp.nil ?_); (case h1 => omega); (case h2 => omega))); (((with_reducible refine e_opN (v_add ?h1 ?h2) Imp.nil ?_); (case h1 => omega); (case h2 => omega)))
    obtain ⟨nw, hnw⟩ : ∃ x, x = now + (kn.tmod 100 + 100) % 100 := ⟨_, rfl⟩
    rw [← hnw]
    have hnw2 : 0 ≤ nw ∧ nw ≤ 100 * ((i : Int) + 1) := by omega
    clear hnw t1
    have hck : clk nw = nw := clk_id (by omega) (by omega)
    refine e_cut1 (fun z => [ex fun st : Pl × List (Int × Int) × (Nat → Int) × (Option Addr × Nat) => all [pu (z = .slice st.2.2.2.1 st.2.1.length st.2.2.2.2 ∧ Bd us st.1 st.2.1 st.2.2.1 ∧ WfB st.1 (i + 1) ∧ st.2.1.length ≤ i + 1 ∧ st.1.tmo = tmo), IsPl p gs st.1, Sl 2 41 st.2.2.2.1 st.2.2.2.2 st.2.1.length (st.2.1.flatMap pr2), Sl 1 3 (some ⟨tg, 0, none⟩) us.length us.length (tilV st.2.2.1 us.length)], pt b2 (.cells #[.string nm, .slice (some ⟨g0, o0, none⟩) us.length c, .int .i64 tmo, .int .i64 rt] 28)] ++ F) ?_ ?_
    · clear hbd hwf htl htm hR3
      clear Z tk til ta tc
      intro ds z
      (try simp only [List.cons_append, List.nil_append, -eq_self])
      refine e_ex Pick.here fun st => e_all Pick.here ?_
      obtain ⟨Z, tk, til, ⟨ta, tc⟩⟩ := st
      (try simp only [List.cons_append, List.nil_append, -eq_self])
      refine e_pu .here fun hx => ?_
      (try dsimp only at hx)
      obtain ⟨rfl, hbd, hwf, htl, htm⟩ := hx
      (try dsimp only)
      refine e_loop1 (fun m y => [ex fun k : Nat => pu (m + k = us.length ∧ y = .int .i64 (k : Int)), IsPl p gs Z, Sl 2 41 ta tc tk.length (tk.flatMap pr2), Sl 1 3 (some ⟨tg, 0, none⟩) us.length us.length (tilV til us.length), pt b2 (.cells #[.string nm, .slice (some ⟨g0, o0, none⟩) us.length c, .int .i64 tmo, .int .i64 rt] 28)] ++ F) us.length ?_ ?_
      · refine .ex 0 (.pu ⟨by omega, rfl⟩ ?_)
        (repeat (first | exact Imp.refl | exact Imp.nil | (apply Imp.pick; (focus ((repeat constructor); done))) | refine Imp.drop ?_))
      intro m2 ds2 y
      (try simp only [List.cons_append, List.nil_append, -eq_self])
      refine e_ex Pick.here fun k => e_pu Pick.here fun hi => ?_
      obtain ⟨hmk, rfl⟩ := hi
      (((with_reducible refine e_opN v_fa0 Imp.nil ?_))); (((with_reducible refine' e_opN (v_ldN ?hc) ?hi ?_); (case hi => (repeat (first | exact Imp.refl | exact Imp.nil | (apply Imp.pick; (focus ((repeat constructor); done))) | refine Imp.drop ?_))); (case hc => (repeat (first | exact Nth.here | apply Nth.there))))); (((with_reducible refine e_opN v_len Imp.nil ?_)))
      (refine e_ask v_lss Imp.nil (fun h => ?_) (fun h => ?_))
      · have hk : k < us.length := by omega
        have hR := hr (IsPl p gs Z)
        obtain ⟨u1, u2⟩ := pr2_get us k hk
        have e1 : uid us k = us[k].1 := by unfold uid; rw [List.getD_eq_getElem?_getD, List.getElem?_eq_getElem hk]; rfl
        have e2 : umx us k = us[k].2 := by unfold umx; rw [List.getD_eq_getElem?_getD, List.getElem?_eq_getElem hk]; rfl
        have hbn := hbd.bound hdst hk
        have hfd := fd_self hdst hbd.n (fun j hj => (hbd.pr j hj).1) hk
        have hpk := hwf.pr k (by rw [hbd.n]; exact hk)
        rw [e1, e2] at hbn
        rw [e1] at hfd
        have hbi : busyF Z us[k].1 = (Z.pr k).busy ∧ idleF Z us[k].1 = ((Z.pr k).idle.length : Int) := by unfold busyF idleF; rw [hfd]; exact ⟨rfl, rfl⟩
        refine e_condT ?_
        refine e_drS ?_
        (((with_reducible refine e_stS v_fa0 Imp.nil ?_))); (((with_reducible refine' e_stS (v_ldN ?hc) ?hi ?_); (case hi => (repeat (first | exact Imp.refl | exact Imp.nil | (apply Imp.pick; (focus ((repeat constructor); done))) | refine Imp.drop ?_))); (case hc => (repeat (first | exact Nth.here | apply Nth.there)))))
        refine e_stS (v_ia k (by rfl) hk) Imp.nil ?_
        (((with_reducible refine e_stS v_fa Imp.nil ?_)))
        refine e_stS (v_ldRd2 hR (j := 0) u1) (.pick (by (repeat constructor)) .nil) ?_
        (((with_reducible refine e_stD v_fa0 Imp.nil ?_))); (((with_reducible refine' e_stD (v_ldN ?hc) ?hi ?_); (case hi => (repeat (first | exact Imp.refl | exact Imp.nil | (apply Imp.pick; (focus ((repeat constructor); done))) | refine Imp.drop ?_))); (case hc => (repeat (first | exact Nth.here | apply Nth.there)))))
        refine e_stD (v_ia k (by rfl) hk) Imp.nil ?_
        (((with_reducible refine e_stD v_fa Imp.nil ?_)))
        refine e_stD (v_ldRd2 hR (j := 0) u1) (.pick (by (repeat constructor)) .nil) ?_
        (((with_reducible refine e_stD v_fa0 Imp.nil ?_))); (((with_reducible refine' e_stD (v_ldN ?hc) ?hi ?_); (case hi => (repeat (first | exact Imp.refl | exact Imp.nil | (apply Imp.pick; (focus ((repeat constructor); done))) | refine Imp.drop ?_))); (case hc => (repeat (first | exact Nth.here | apply Nth.there)))))
        refine e_stD (v_ia k (by rfl) hk) Imp.nil ?_
        (((with_reducible refine e_stD v_fa Imp.nil ?_)))
        refine e_stD (v_ldRd2 hR (j := 1) u2) (.pick (by (repeat constructor)) .nil) ?_
        unfold I
        (try rw [upp])
        (refine' e_call (PL.busy (p := p) (gs := gs) (Z := Z) (id := us[k].1) (by have := hwf.n2; omega)) ?hp fun _ => ?_; (case hp => (repeat (first | exact Picks.nil | (apply Picks.cons; (focus (repeat constructor)))))); (try simp only [List.cons_append, List.nil_append, Bool.not_true, Bool.not_false]))
        (((with_reducible refine e_obl ?hi ?_); (case hi => (repeat (first | exact Imp.refl | exact Imp.nil | (apply Imp.pick; (focus ((repeat constructor); done))) | refine Imp.drop ?_))))); (((with_reducible refine e_obl ?hi ?_); (case hi => (repeat (first | exact Imp.refl | exact Imp.nil | (apply Imp.pick; (focus ((repeat constructor); done))) | refine Imp.drop ?_))))); (((with_reducible refine e_obl ?hi ?_); (case hi => (repeat (first | exact Imp.refl | exact Imp.nil | (apply Imp.pick; (focus ((repeat constructor); done))) | refine Imp.drop ?_))))); (((with_reducible refine e_obl ?hi ?_); (case hi => (repeat (first | exact Imp.refl | exact Imp.nil | (apply Imp.pick; (focus ((repeat constructor); done))) | refine Imp.drop ?_))))); (((with_reducible refine e_obl ?hi ?_); (case hi => (repeat (first | exact Imp.refl | exact Imp.nil | (apply Imp.pick; (focus ((repeat constructor); done))) | refine Imp.drop ?_))))); (((with_reducible refine e_obl ?hi ?_); (case hi => (repeat (first | exact Imp.refl | exact Imp.nil | (apply Imp.pick; (focus ((repeat constructor); done))) | refine Imp.drop ?_))))); (((with_reducible refine e_obl ?hi ?_); (case hi => (repeat (first | exact Imp.refl | exact Imp.nil | (apply Imp.pick; (focus ((repeat constructor); done))) | refine Imp.drop ?_))))); (((with_reducible refine e_obl ?hi ?_); (case hi => (repeat (first | exact Imp.refl | exact Imp.nil | (apply Imp.pick; (focus ((repeat constructor); done))) | refine Imp.drop ?_))))); (((with_reducible refine e_obl ?hi ?_); (case hi => (repeat (first | exact Imp.refl | exact Imp.nil | (apply Imp.pick; (focus ((repeat constructor); done))) | refine Imp.drop ?_))))); (((with_reducible refine e_obl ?hi ?_); (case hi => (repeat (first | exact Imp.refl | exact Imp.nil | (apply Imp.pick; (focus ((repeat constructor); done))) | refine Imp.drop ?_)))))
        (refine' e_call (PL.idle (p := p) (gs := gs) (Z := Z) (id := us[k].1) (by have := hwf.n2; omega)) ?hp fun _ => ?_; (case hp => (repeat (first | exact Picks.nil | (apply Picks.cons; (focus (repeat constructor)))))); (try simp only [List.cons_append, List.nil_append, Bool.not_true, Bool.not_false]))
        rw [hbi.1, hbi.2] at hbn
        rw [hbi.1, hbi.2]
        (((with_reducible refine e_obl ?hi ?_); (case hi => (repeat (first | exact Imp.refl | exact Imp.nil | (apply Imp.pick; (focus ((repeat constructor); done))) | refine Imp.drop ?_))))); (((with_reducible refine e_obl ?hi ?_); (case hi => (repeat (first | exact Imp.refl | exact Imp.nil | (apply Imp.pick; (focus ((repeat constructor); done))) | refine Imp.drop ?_))))); (((with_reducible refine e_obl ?hi ?_); (case hi => (repeat (first | exact Imp.refl | exact Imp.nil | (apply Imp.pick; (focus ((repeat constructor); done))) | refine Imp.drop ?_))))); (((with_reducible refine e_obl ?hi ?_); (case hi => (repeat (first | exact Imp.refl | exact Imp.nil | (apply Imp.pick; (focus ((repeat constructor); done))) | refine Imp.drop ?_))))); (((with_reducible refine e_obl ?hi ?_); (case hi => (repeat (first | exact Imp.refl | exact Imp.nil | (apply Imp.pick; (focus ((repeat constructor); done))) | refine Imp.drop ?_))))); (((with_reducible refine e_stS (v_add ?h1 ?h2) Imp.nil ?_); (case h1 => omega); (case h2 => omega)))
        refine e_stS v_gtr Imp.nil ?_
        rw [decide_eq_false (by omega)]
        ((with_reducible refine e_condF ?_)); (((with_reducible refine e_opN (v_add ?h1 ?h2) Imp.nil ?_); (case h1 => omega); (case h2 => omega)))
        refine e_next1 (m2 - 1) (by omega) (.ex (k + 1) (.pu ⟨by omega, rfl⟩ ?_))
        (repeat (first | exact Imp.refl | exact Imp.nil | (apply Imp.pick; (focus ((repeat constructor); done))) | refine Imp.drop ?_))
      · refine e_condF ?_
        (((with_reducible refine e_opN (v_add ?h1 ?h2) Imp.nil ?_); (case h1 => omega); (case h2 => omega)))
        refine e_next3 (m - 1) (by omega) (.ex ((i + 1, nw), Z, tk, til, (ta, tc)) (.all ?_))
        (try simp only [List.cons_append, List.nil_append, -eq_self])
        refine .pu ⟨by omega, rfl, rfl, rfl, by omega, by omega, hbd, hwf, by omega, htm⟩ ?_
        exact .pick (by (repeat constructor)) (.pick (by (repeat constructor)) (.pick (by (repeat constructor)) (by (repeat (first | exact Imp.refl | exact Imp.nil | (apply Imp.pick; (focus ((repeat constructor); done))) | refine Imp.drop ?_)))))
    refine e_opN (v_ia i (by rfl) hil) Imp.nil ?_
    (((with_reducible refine e_opN v_fa Imp.nil ?_)))
    refine e_opN (v_ldRd2 hR3 (j := 0) w0) (.pick (by (repeat constructor)) .nil) ?_
    unfold I
    have same : ∀ (L : List HP), Imp W L ([IsPl p gs Z, Sl 2 41 ta tc tk.length (tk.flatMap pr2), Sl 1 3 (some ⟨tg, 0, none⟩) us.length us.length (tilV til us.length), pt b2 (.cells #[.string nm, .slice (some ⟨g0, o0, none⟩) us.length c, .int .i64 tmo, .int .i64 rt] 28)] ++ F) → Imp W L ((ex fun st : Pl × List (Int × Int) × (Nat → Int) × (Option Addr × Nat) => all [pu ((.slice ta tk.length tc : Value) = .slice st.2.2.2.1 st.2.1.length st.2.2.2.2 ∧ Bd us st.1 st.2.1 st.2.2.1 ∧ WfB st.1 (i + 1) ∧ st.2.1.length ≤ i + 1 ∧ st.1.tmo = tmo), IsPl p gs st.1, Sl 2 41 st.2.2.2.1 st.2.2.2.2 st.2.1.length (st.2.1.flatMap pr2), Sl 1 3 (some ⟨tg, 0, none⟩) us.length us.length (tilV st.2.2.1 us.length)])  :: pt b2 (.cells #[.string nm, .slice (some ⟨g0, o0, none⟩) us.length c, .int .i64 tmo, .int .i64 rt] 28) :: F) := fun L hL => by
      refine .ex (Z, tk, til, (ta, tc)) (.all ?_)
      (try simp only [List.cons_append, List.nil_append, -eq_self])
      refine .pu ⟨rfl, hbd, hwf.up (by omega), by omega, htm⟩ ?_
      exact hL
    (refine e_ask v_eql Imp.nil (fun h => ?_) (fun h => ?_))
    · refine e_condT ?_
      (try rw [upp])
      (refine' e_call (take (p := p) (gs := gs) (Z := Z) (now := nw) (hwf.wf (by omega)) (hwf.idle (by omega))) ?hp fun _ => ?_; (case hp => (repeat (first | exact Picks.nil | (apply Picks.cons; (focus (repeat constructor)))))); (try simp only [List.cons_append, List.nil_append, Bool.not_true, Bool.not_false]))
      obtain ⟨T, hT⟩ : ∃ T, T = (takeF Z nw).1 := ⟨_, rfl⟩
      rw [← hT]
      unfold tkV
      (((with_reducible refine' e_opN (v_extN ?hc) Imp.nil ?_); (case hc => (repeat (first | exact Nth.here | apply Nth.there))))); (((with_reducible refine' e_opN (v_extN ?hc) Imp.nil ?_); (case hc => (repeat (first | exact Nth.here | apply Nth.there))))); (((with_reducible refine' e_opN (v_extN ?hc) Imp.nil ?_); (case hc => (repeat (first | exact Nth.here | apply Nth.there))))); (((with_reducible refine e_newA fun g => ?_))); (((with_reducible refine' e_stAgg ?hp ?hn ?hv ?h1 ?_); (case hp => (repeat constructor)); (case hn => rfl); (case hv => rfl); (case h1 => simp [Value.oneCell'])))
      rename Nat => b11
      (refine' e_call (num_) ?hp fun _ => ?_; (case hp => (repeat (first | exact Picks.nil | (apply Picks.cons; (focus (repeat constructor)))))); (try simp only [List.cons_append, List.nil_append, Bool.not_true, Bool.not_false]))
      (refine e_ask v_neq Imp.nil (fun h => ?_) (fun h => ?_))
      · refine e_condT ?_
        have hs : (takeF Z nw).2 = Z := take_e (by rw [← hT]; exact h)
        rw [hs]
        refine e_sat (same _ ?_)
        exact .pick (by (repeat constructor)) (.pick (by (repeat constructor)) (.pick (by (repeat constructor)) (by (repeat (first | exact Imp.refl | exact Imp.nil | (apply Imp.pick; (focus ((repeat constructor); done))) | refine Imp.drop ?_)))))
      have he := Decidable.not_not.1 h
      obtain ⟨q1, q2, q3⟩ := bd_take hbd hdst hwf.n1 hck (by omega) (by rw [← hT]; exact he)
      have q4 := take_wfb (now := nw) hwf
      have q5 : (takeF Z nw).2.tmo = tmo := by
        unfold takeF
        cases pkI Z nw Z.n <;> exact htm
      rw [← hT] at q1 q2 q3
      generalize (takeF Z nw).2 = Y at q3 q4 q5 ⊢
      refine e_condF ?_
      refine e_loop1 (fun m y => [ex fun k : Nat => pu (m + k = tk.length ∧ y = .int .i64 (k : Int)), IsPl p gs Y, Sl 2 41 ta tc tk.length (tk.flatMap pr2), Sl 1 3 (some ⟨tg, 0, none⟩) us.length us.length (tilV til us.length), pt b2 (.cells #[.string nm, .slice (some ⟨g0, o0, none⟩) us.length c, .int .i64 tmo, .int .i64 rt] 28), pt b11 (.cells #[.int .i64 T.peer, .int .i64 T.id] 41)] ++ F) tk.length ?_ ?_
      · refine .ex 0 (.pu ⟨by omega, rfl⟩ ?_)
        exact .pick (by (repeat constructor)) (.pick (by (repeat constructor)) (.pick (by (repeat constructor)) (.pick (by (repeat constructor)) (.pick (by (repeat constructor)) (by (repeat (first | exact Imp.refl | exact Imp.nil | (apply Imp.pick; (focus ((repeat constructor); done))) | refine Imp.drop ?_)))))))
      intro m2 ds2 y
      (try simp only [List.cons_append, List.nil_append, -eq_self])
      refine e_ex Pick.here fun k => e_pu Pick.here fun hi => ?_
      obtain ⟨hmk, rfl⟩ := hi
      (((with_reducible refine e_opN v_len Imp.nil ?_)))
      (refine e_ask v_lss Imp.nil (fun h => ?_) (fun h => ?_))
      · have hk : k < tk.length := by omega
        refine e_condT ?_
        refine e_slsome (.there .here) (by omega) fun g hg => ?_
        subst hg
        refine e_drS ?_
        refine e_stS (v_ia k (by rfl) hk) Imp.nil ?_
        (((with_reducible refine e_stS v_fa Imp.nil ?_)))
        refine e_stS (v_ldSl (v := .int .i64 tk[k].2) (by rw [Nat.zero_add]; exact (pr2_get tk k hk).2)) (.pick (by (repeat constructor)) .nil) ?_
        (((with_reducible refine e_stS v_fa0 Imp.nil ?_))); (((with_reducible refine' e_stS (v_ldN ?hc) ?hi ?_); (case hi => (repeat (first | exact Imp.refl | exact Imp.nil | (apply Imp.pick; (focus ((repeat constructor); done))) | refine Imp.drop ?_))); (case hc => (repeat (first | exact Nth.here | apply Nth.there)))))
        refine e_askS v_eql Imp.nil (fun h => ?_) (fun h => ?_)
        · exact absurd (List.mem_map.2 ⟨tk[k], List.getElem_mem hk, h⟩) q1
        · ((with_reducible refine e_condF ?_)); (((with_reducible refine e_opN (v_add ?h1 ?h2) Imp.nil ?_); (case h1 => omega); (case h2 => omega)))
          refine e_next1 (m2 - 1) (by omega) (.ex (k + 1) (.pu ⟨by omega, rfl⟩ ?_))
          (repeat (first | exact Imp.refl | exact Imp.nil | (apply Imp.pick; (focus ((repeat constructor); done))) | refine Imp.drop ?_))
      refine e_condF ?_
      refine e_loop1 (fun m y => [ex fun k : Nat => pu (m + k = us.length ∧ y = .int .i64 (k : Int)), IsPl p gs Y, Sl 2 41 ta tc tk.length (tk.flatMap pr2), Sl 1 3 (some ⟨tg, 0, none⟩) us.length us.length (tilV til us.length), pt b2 (.cells #[.string nm, .slice (some ⟨g0, o0, none⟩) us.length c, .int .i64 tmo, .int .i64 rt] 28), pt b11 (.cells #[.int .i64 T.peer, .int .i64 T.id] 41)] ++ F) us.length ?_ ?_
      · refine .ex 0 (.pu ⟨by omega, rfl⟩ ?_)
        (repeat (first | exact Imp.refl | exact Imp.nil | (apply Imp.pick; (focus ((repeat constructor); done))) | refine Imp.drop ?_))
      intro m3 ds3 y
      (try simp only [List.cons_append, List.nil_append, -eq_self])
      refine e_ex Pick.here fun k => e_pu Pick.here fun hi => ?_
      obtain ⟨hmk, rfl⟩ := hi
      (((with_reducible refine e_opN v_fa0 Imp.nil ?_))); (((with_reducible refine' e_opN (v_ldN ?hc) ?hi ?_); (case hi => (repeat (first | exact Imp.refl | exact Imp.nil | (apply Imp.pick; (focus ((repeat constructor); done))) | refine Imp.drop ?_))); (case hc => (repeat (first | exact Nth.here | apply Nth.there))))); (((with_reducible refine e_opN v_len Imp.nil ?_)))
      (refine e_ask v_lss Imp.nil (fun h => ?_) (fun h => ?_))
      · have hk : k < us.length := by omega
        have hR := hr (IsPl p gs Y)
        obtain ⟨u1, u2⟩ := pr2_get us k hk
        have e1 : uid us k = us[k].1 := by unfold uid; rw [List.getD_eq_getElem?_getD, List.getElem?_eq_getElem hk]; rfl
        refine e_condT ?_
        refine e_drS ?_
        (((with_reducible refine e_stS v_fa0 Imp.nil ?_))); (((with_reducible refine' e_stS (v_ldN ?hc) ?hi ?_); (case hi => (repeat (first | exact Imp.refl | exact Imp.nil | (apply Imp.pick; (focus ((repeat constructor); done))) | refine Imp.drop ?_))); (case hc => (repeat (first | exact Nth.here | apply Nth.there)))))
        refine e_stS (v_ia k (by rfl) hk) Imp.nil ?_
        (((with_reducible refine e_stS v_fa Imp.nil ?_)))
        refine e_stS (v_ldRd2 hR (j := 0) u1) (.pick (by (repeat constructor)) .nil) ?_
        unfold I
        (((with_reducible refine e_stS v_fa0 Imp.nil ?_))); (((with_reducible refine' e_stS (v_ldN ?hc) ?hi ?_); (case hi => (repeat (first | exact Imp.refl | exact Imp.nil | (apply Imp.pick; (focus ((repeat constructor); done))) | refine Imp.drop ?_))); (case hc => (repeat (first | exact Nth.here | apply Nth.there)))))
        refine e_askS v_eql Imp.nil (fun h => ?_) (fun h => ?_)
        · ((with_reducible refine e_gdT ?_)); ((with_reducible refine e_gdT ?_)); ((with_reducible refine e_gdT ?_)); ((with_reducible refine e_gdT ?_))
          refine e_stS (v_ia1 k (by rfl) hk) Imp.nil ?_
          ((with_reducible refine e_gdT ?_))
          refine e_stS (v_ldSl (v := .int .i64 (til k)) (by rw [Nat.zero_add]; exact tilV_get hk)) (.pick (by (repeat constructor)) .nil) ?_
          ((with_reducible refine e_gdT ?_))
          refine e_stS v_lss Imp.nil ?_
          rw [decide_eq_false (q2 k hk (by rw [e1]; exact h))]
          (((with_reducible refine e_stS v_pickT Imp.nil ?_))); ((with_reducible refine e_condF ?_)); (((with_reducible refine e_opN (v_add ?h1 ?h2) Imp.nil ?_); (case h1 => omega); (case h2 => omega)))
          refine e_next1 (m3 - 1) (by omega) (.ex (k + 1) (.pu ⟨by omega, rfl⟩ ?_))
          (repeat (first | exact Imp.refl | exact Imp.nil | (apply Imp.pick; (focus ((repeat constructor); done))) | refine Imp.drop ?_))
        · ((with_reducible refine e_gdF2 ?_)); ((with_reducible refine e_gdF2 ?_)); ((with_reducible refine e_gdF2 ?_)); ((with_reducible refine e_gdF2 ?_)); ((with_reducible refine e_gdF2 ?_)); ((with_reducible refine e_gdF2 ?_)); (((with_reducible refine e_stS v_pickF Imp.nil ?_))); ((with_reducible refine e_condF ?_)); (((with_reducible refine e_opN (v_add ?h1 ?h2) Imp.nil ?_); (case h1 => omega); (case h2 => omega)))
          refine e_next1 (m3 - 1) (by omega) (.ex (k + 1) (.pu ⟨by omega, rfl⟩ ?_))
          (repeat (first | exact Imp.refl | exact Imp.nil | (apply Imp.pick; (focus ((repeat constructor); done))) | refine Imp.drop ?_))
      refine e_condF ?_
      (((with_reducible refine' e_opN (v_ldAgg ?hn) ?hi ?_); (case hi => (repeat (first | exact Imp.refl | exact Imp.nil | (apply Imp.pick; (focus ((repeat constructor); done))) | refine Imp.drop ?_))); (case hn => rfl)))
      refine e_bslS (n := 1) (vs := [.agg #[.int .i64 T.peer, .int .i64 T.id]]) rfl (by omega) rfl (by intro v hv; rw [List.mem_singleton.1 hv]; rfl) (by omega) fun gb => ?_
      refine e_app (m := 1) (news := [I T.peer, I T.id]) (by (repeat constructor)) (src_pt (e' := 41) (by kernel_rfl) .here (by rfl) (by simp [Value.cells, I, Value.oneCell'])) (by omega) (by omega) fun a' c' => ?_
      refine e_sat (.ex (Y, tk ++ [(T.peer, T.id)], til, (a', c')) (.all ?_))
      (try simp only [List.cons_append, List.nil_append, -eq_self])
      refine .pu ⟨by rw [List.length_append, List.length_singleton], q3, q4, by rw [List.length_append, List.length_singleton]; omega, q5⟩ ?_
      rw [List.length_append, List.length_singleton, List.flatMap_append, show [(T.peer, T.id)].flatMap pr2 = [I T.peer, I T.id] by simp [pr2]]
      exact .pick (by (repeat constructor)) (.pick (by (repeat constructor)) (.pick (by (repeat constructor)) (by (repeat (first | exact Imp.refl | exact Imp.nil | (apply Imp.pick; (focus ((repeat constructor); done))) | refine Imp.drop ?_)))))
    refine e_condF ?_
    (((with_reducible refine e_opN v_len Imp.nil ?_)))
    (refine e_ask v_eql Imp.nil (fun h => ?_) (fun h => ?_))
    · refine e_condT ?_
      refine e_sat (same _ ?_)
      exact .pick (by (repeat constructor)) (.pick (by (repeat constructor)) (.pick (by (repeat constructor)) (by (repeat (first | exact Imp.refl | exact Imp.nil | (apply Imp.pick; (focus ((repeat constructor); done))) | refine Imp.drop ?_)))))
    have hlen : 0 < tk.length := by omega
    refine e_condF ?_
    refine e_opN (v_ia i (by rfl) hil) Imp.nil ?_
    (((with_reducible refine e_opN v_fa Imp.nil ?_)))
    refine e_opN (v_ldRd2 hR3 (j := 1) w1) (.pick (by (repeat constructor)) .nil) ?_
    unfold I
    (((with_reducible refine e_opN v_len Imp.nil ?_)))
    refine e_opN (v_remt (by omega)) Imp.nil ?_
    have t2 : -(tk.length : Int) < kid.tmod tk.length ∧ kid.tmod tk.length < tk.length := ⟨Int.lt_tmod_of_pos kid (by omega), Int.tmod_lt_of_pos kid (by omega)⟩
    (((with_reducible refine e_opN v_len Imp.nil ?_))); (((with_reducible refine e_opN (v_add ?h1 ?h2) Imp.nil ?_); (case h1 => omega); (case h2 => omega))); (((with_reducible refine e_opN v_len Imp.nil ?_))); (((with_reducible refine e_opN (v_rem ?h1 ?h2) Imp.nil ?_); (case h1 => omega); (case h2 => omega)))
    obtain ⟨kk, hkk⟩ := Int.eq_ofNat_of_zero_le (Int.emod_nonneg (kid.tmod tk.length + tk.length) (show (tk.length : Int) ≠ 0 by omega))
    have hkl : kk < tk.length := by
      have := Int.emod_lt_of_pos (kid.tmod tk.length + tk.length) (show (0 : Int) < tk.length by omega)
      omega
    rw [hkk]
    obtain ⟨v1, v2⟩ := pr2_get tk kk hkl
    refine e_slfacts (.there .here) fun f1 f2 f3 f4 => ?_
    obtain ⟨tg2, rfl⟩ := f4 hlen
    refine e_opN (v_ia kk (by rfl) hkl) Imp.nil ?_
    have hRt : RdB W (Sl 2 41 (some ⟨tg2, 0, none⟩) tc tk.length (tk.flatMap pr2)) (some ⟨tg2, 0, none⟩) (tk.length * 2) (tk.flatMap pr2) := rd_slG (pr2_len tk) (fun _ => ⟨tg2, rfl⟩)
    refine e_opN (v_ldRdG (vs := [.int .i64 tk[kk].1, .int .i64 tk[kk].2]) (n := 2) hRt rfl ?_) (.pick (by (repeat constructor)) .nil) ?_
    · intro j hj
      have : j = 0 ∨ j = 1 := by omega
      rcases this with rfl | rfl
      · exact v1
      · exact v2
    (((with_reducible refine e_newA fun g => ?_))); (((with_reducible refine' e_stAgg ?hp ?hn ?hv ?h1 ?_); (case hp => (repeat constructor)); (case hn => rfl); (case hv => rfl); (case h1 => simp [Value.oneCell']))); ((with_reducible refine e_drS ?_))
    rename Nat => b17
    refine e_stD (v_slh0 kk (by rfl) (by omega)) Imp.nil ?_
    (((with_reducible refine e_stD (v_add ?h1 ?h2) Imp.nil ?_); (case h1 => omega); (case h2 => omega)))
    refine e_stD (v_sll (kk + 1) (by norm_cast) (by omega)) Imp.nil ?_
    refine e_bsl0 fun g4 => ?_
    (((with_reducible refine e_obl ?hi ?_); (case hi => (repeat (first | exact Imp.refl | exact Imp.nil | (apply Imp.pick; (focus ((repeat constructor); done))) | refine Imp.drop ?_))))); (((with_reducible refine e_obl ?hi ?_); (case hi => (repeat (first | exact Imp.refl | exact Imp.nil | (apply Imp.pick; (focus ((repeat constructor); done))) | refine Imp.drop ?_))))); (((with_reducible refine e_obl ?hi ?_); (case hi => (repeat (first | exact Imp.refl | exact Imp.nil | (apply Imp.pick; (focus ((repeat constructor); done))) | refine Imp.drop ?_)))))
    refine e_app (m := kk) (news := (tk.flatMap pr2).take (kk * 2)) .here (src_rdG (e' := 41) (by kernel_rfl) (by omega) (A := Sl 2 41 (some ⟨tg2, 0, none⟩) tc tk.length (tk.flatMap pr2)) (by (repeat constructor)) (rd_pre hRt (by omega)) (fun c => by cases c) (fun u hu => pr2_one tk u (List.mem_of_mem_take hu))) (by omega) (by omega) fun a' c' => ?_
    (((with_reducible refine e_obl ?hi ?_); (case hi => (repeat (first | exact Imp.refl | exact Imp.nil | (apply Imp.pick; (focus ((repeat constructor); done))) | refine Imp.drop ?_))))); (((with_reducible refine e_obl ?hi ?_); (case hi => (repeat (first | exact Imp.refl | exact Imp.nil | (apply Imp.pick; (focus ((repeat constructor); done))) | refine Imp.drop ?_)))))
    refine e_app (m := tk.length - (kk + 1)) (news := (tk.flatMap pr2).drop ((kk + 1) * 2)) .here (src_tail (e' := 41) (by kernel_rfl) (by omega) (A := Sl 2 41 (some ⟨tg2, 0, none⟩) tc tk.length (tk.flatMap pr2)) (by (repeat constructor)) hRt (by omega) (by omega) (pr2_one tk)) (by omega) (by omega) fun a' c' => ?_
    have hel : 0 + kk + (tk.length - (kk + 1)) = (tk.eraseIdx kk).length := by rw [List.length_eraseIdx, if_pos hkl]; omega
    rw [hel, List.nil_append, pr2_erase]
    have hpo := hwf.wf (show i ≤ 1099511627776 by omega)
    refine e_drS ?_
    refine e_stS (v_ia i (by rfl) hil) Imp.nil ?_
    (((with_reducible refine e_stS v_fa Imp.nil ?_)))
    refine e_stS (v_ldRd2 (hr3 (IsPl p gs Z)) (j := 0) w0) (.pick (by (repeat constructor)) .nil) ?_
    unfold I
    refine e_askS v_neq Imp.nil (fun h => ?_) (fun h => ?_)
    · ((with_reducible refine e_gdT ?_)); ((with_reducible refine e_gdT ?_)); (((with_reducible refine e_stS v_fa0 Imp.nil ?_))); ((with_reducible refine e_gdT ?_)); (((with_reducible refine' e_stS (v_ldN ?hc) ?hi ?_); (case hi => (repeat (first | exact Imp.refl | exact Imp.nil | (apply Imp.pick; (focus ((repeat constructor); done))) | refine Imp.drop ?_))); (case hc => (repeat (first | exact Nth.here | apply Nth.there))))); ((with_reducible refine e_gdT ?_)); ((with_reducible refine e_gdT ?_)); ((with_reducible refine e_gdT ?_))
      refine e_stS (v_ia i (by rfl) hil) Imp.nil ?_
      ((with_reducible refine e_gdT ?_)); (((with_reducible refine e_stS v_fa Imp.nil ?_))); ((with_reducible refine e_gdT ?_))
      refine e_stS (v_ldRd2 (hr3 (IsPl p gs Z)) (j := 0) w0) (.pick (by (repeat constructor)) .nil) ?_
      unfold I
      ((with_reducible refine e_gdT ?_))
      refine e_stS v_eql Imp.nil ?_
      ((with_reducible refine e_gdT ?_))
      (try rw [upp])
      (refine' e_call (done_ (p := p) (gs := gs) (Z := Z) (id := tk[kk].2) (keep := decide (kd = 1)) hpo) ?hp fun _ => ?_; (case hp => (repeat (first | exact Picks.nil | (apply Picks.cons; (focus (repeat constructor)))))); (try simp only [List.cons_append, List.nil_append, Bool.not_true, Bool.not_false]))
      rw [(bd_done (keep := decide (kd = 1)) hbd hkl).1]
      ((with_reducible refine e_gdT ?_))
      (refine' e_call (num_) ?hp fun _ => ?_; (case hp => (repeat (first | exact Picks.nil | (apply Picks.cons; (focus (repeat constructor)))))); (try simp only [List.cons_append, List.nil_append, Bool.not_true, Bool.not_false]))
      ((with_reducible refine e_gdT ?_))
      refine e_stS v_neq Imp.nil ?_
      rw [decide_eq_false (p := (0 : Int) ≠ 0) (by decide)]
      (((with_reducible refine e_stS v_pickT Imp.nil ?_))); ((with_reducible refine e_gdT ?_)); ((with_reducible refine e_gdT ?_)); ((with_reducible refine e_gdT ?_))
      refine e_stS (v_ia i (by rfl) hil) Imp.nil ?_
      ((with_reducible refine e_gdT ?_)); (((with_reducible refine e_stS v_fa Imp.nil ?_))); ((with_reducible refine e_gdT ?_))
      refine e_stS (v_ldRd2 (hr3 (IsPl p gs (done Z tk[kk].2 (decide (kd = 1))))) (j := 0) w0) (.pick (by (repeat constructor)) .nil) ?_
      unfold I
      ((with_reducible refine e_gdT ?_))
      refine e_stS v_eql Imp.nil ?_
      rw [decide_eq_false h]
      ((with_reducible refine e_gdT ?_)); ((with_reducible refine e_gdF2 ?_)); ((with_reducible refine e_gdF2 ?_)); ((with_reducible refine e_gdF2 ?_)); ((with_reducible refine e_gdF2 ?_)); ((with_reducible refine e_gdF2 ?_)); ((with_reducible refine e_gdF2 ?_)); ((with_reducible refine e_gdF2 ?_)); ((with_reducible refine e_gdT ?_)); (((with_reducible refine e_stS v_pickF Imp.nil ?_))); (((with_reducible refine e_stS v_pickF Imp.nil ?_))); ((with_reducible refine e_condF ?_))
      (try refine e_condF ?_)
      have hB : Bd us (done Z tk[kk].2 (decide (kd = 1))) (tk.eraseIdx kk) (fun q => if kd = 3 ∧ uid us q = tk[kk].1 then nw + tmo else til q) := by
        have e : (fun q => if kd = 3 ∧ uid us q = tk[kk].1 then nw + tmo else til q) = til := funext fun q => if_neg fun x => h x.1
        rw [e]; exact (bd_done (keep := decide (kd = 1)) hbd hkl).2
      have hW : WfB (done Z tk[kk].2 (decide (kd = 1))) (i + 1) := done_wfb hwf
      have hT : (done Z tk[kk].2 (decide (kd = 1))).tmo = tmo := by rw [(done_n _ _ _).2]; exact htm
      generalize done Z tk[kk].2 (decide (kd = 1)) = Y at hB hW hT ⊢
      have hel2 : (tk.eraseIdx kk).length ≤ i + 1 := by rw [List.length_eraseIdx, if_pos hkl]; omega
      generalize tk.eraseIdx kk = tk2 at hB hel2 ⊢
      obtain ⟨pe, hpe⟩ : ∃ x, x = tk[kk].1 := ⟨_, rfl⟩
      obtain ⟨qe, hqe⟩ : ∃ x, x = tk[kk].2 := ⟨_, rfl⟩
      rw [← hpe] at hB ⊢
      rw [← hqe]
      have ht1 := hW.tmo
      rw [hT] at ht1
      refine e_loop1 (fun m y => [ex fun k : Nat => all [pu (m + k = us.length ∧ y = .int .i64 (k : Int)), Sl 1 3 (some ⟨tg, 0, none⟩) us.length us.length (tilV (fun q => if kd = 3 ∧ q < k ∧ uid us q = pe then nw + tmo else til q) us.length)], IsPl p gs Y, Sl 2 41 a' c' tk2.length (tk2.flatMap pr2), pt b2 (.cells #[.string nm, .slice (some ⟨g0, o0, none⟩) us.length c, .int .i64 tmo, .int .i64 rt] 28), pt b17 (.cells #[.int .i64 pe, .int .i64 qe] 41)] ++ F) us.length ?_ ?_
      · refine .ex 0 (.all ?_)
        (try simp only [List.cons_append, List.nil_append, -eq_self])
        refine .pu ⟨by omega, rfl⟩ ?_
        have e0 : (fun q => if kd = 3 ∧ q < 0 ∧ uid us q = pe then nw + tmo else til q) = til := funext fun q => if_neg fun x => absurd x.2.1 (by omega)
        rw [e0]
        (repeat (first | exact Imp.refl | exact Imp.nil | (apply Imp.pick; (focus ((repeat constructor); done))) | refine Imp.drop ?_))
      intro m4 ds4 y
      (try simp only [List.cons_append, List.nil_append, -eq_self])
      refine e_ex Pick.here fun k2 => e_all Pick.here ?_
      (try simp only [List.cons_append, List.nil_append, -eq_self])
      refine e_pu Pick.here fun hi => ?_
      obtain ⟨hmk, rfl⟩ := hi
      have fin : (k2 < us.length → kd ≠ 3) → Bd us Y tk2 (fun q => if kd = 3 ∧ q < k2 ∧ uid us q = pe then nw + tmo else til q) := fun hx => hB.congr fun j hj => by
        by_cases h3 : kd = 3
        · have : us.length ≤ k2 := by
            rcases Nat.lt_or_ge k2 us.length with c | c
            · exact absurd h3 (hx c)
            · exact c
          simp only [h3, true_and, show j < k2 from by omega]
        · rw [if_neg (fun c => h3 c.1), if_neg (fun c => h3 c.1)]
      (((with_reducible refine e_opN v_fa0 Imp.nil ?_))); (((with_reducible refine' e_opN (v_ldN ?hc) ?hi ?_); (case hi => (repeat (first | exact Imp.refl | exact Imp.nil | (apply Imp.pick; (focus ((repeat constructor); done))) | refine Imp.drop ?_))); (case hc => (repeat (first | exact Nth.here | apply Nth.there))))); (((with_reducible refine e_opN v_len Imp.nil ?_)))
      (refine e_ask v_lss Imp.nil (fun h => ?_) (fun h => ?_))
      rotate_left
      · ((with_reducible refine e_gdF2 ?_)); ((with_reducible refine e_gdF2 ?_)); ((with_reducible refine e_gdF2 ?_)); ((with_reducible refine e_gdF2 ?_)); ((with_reducible refine e_gdF2 ?_)); ((with_reducible refine e_gdF2 ?_)); (((with_reducible refine e_opN v_pickF Imp.nil ?_))); ((with_reducible refine e_condF ?_))
        (try refine e_condF ?_)
        refine e_sat (.ex (Y, tk2, (fun q => if kd = 3 ∧ q < k2 ∧ uid us q = pe then nw + tmo else til q), (a', c')) (.all ?_))
        (try simp only [List.cons_append, List.nil_append, -eq_self])
        refine .pu ⟨rfl, fin (fun c => absurd c (by omega)), hW, hel2, hT⟩ ?_
        exact .pick (by (repeat constructor)) (.pick (by (repeat constructor)) (.pick (by (repeat constructor)) (by (repeat (first | exact Imp.refl | exact Imp.nil | (apply Imp.pick; (focus ((repeat constructor); done))) | refine Imp.drop ?_)))))
      have hk : k2 < us.length := by omega
      ((with_reducible refine e_gdT ?_)); ((with_reducible refine e_gdT ?_)); ((with_reducible refine e_gdT ?_))
      refine e_opN (v_ia i (by rfl) hil) Imp.nil ?_
      ((with_reducible refine e_gdT ?_)); (((with_reducible refine e_opN v_fa Imp.nil ?_))); ((with_reducible refine e_gdT ?_))
      refine e_opN (v_ldRd2 (hr3 (IsPl p gs Y)) (j := 0) w0) (.pick (by (repeat constructor)) .nil) ?_
      unfold I
      ((with_reducible refine e_gdT ?_))
      refine e_ask v_eql Imp.nil (fun h => ?_) (fun h => ?_)
      rotate_left
      · (((with_reducible refine e_opN v_pickT Imp.nil ?_))); ((with_reducible refine e_condF ?_))
        (try refine e_condF ?_)
        refine e_sat (.ex (Y, tk2, (fun q => if kd = 3 ∧ q < k2 ∧ uid us q = pe then nw + tmo else til q), (a', c')) (.all ?_))
        (try simp only [List.cons_append, List.nil_append, -eq_self])
        refine .pu ⟨rfl, fin (fun _ => h), hW, hel2, hT⟩ ?_
        exact .pick (by (repeat constructor)) (.pick (by (repeat constructor)) (.pick (by (repeat constructor)) (by (repeat (first | exact Imp.refl | exact Imp.nil | (apply Imp.pick; (focus ((repeat constructor); done))) | refine Imp.drop ?_)))))
      (((with_reducible refine e_opN v_pickT Imp.nil ?_))); ((with_reducible refine e_condT ?_)); ((with_reducible refine e_drS ?_)); (((with_reducible refine e_stS v_fa0 Imp.nil ?_))); (((with_reducible refine' e_stS (v_ldN ?hc) ?hi ?_); (case hi => (repeat (first | exact Imp.refl | exact Imp.nil | (apply Imp.pick; (focus ((repeat constructor); done))) | refine Imp.drop ?_))); (case hc => (repeat (first | exact Nth.here | apply Nth.there)))))
      (try refine e_condT ?_)
      (try refine e_drS ?_)
      obtain ⟨u1, u2⟩ := pr2_get us k2 hk
      have e1 : uid us k2 = us[k2].1 := by unfold uid; rw [List.getD_eq_getElem?_getD, List.getElem?_eq_getElem hk]; rfl
      refine e_stS (v_ia k2 (by rfl) hk) Imp.nil ?_
      (((with_reducible refine e_stS v_fa Imp.nil ?_)))
      refine e_stS (v_ldRd2 (hr (IsPl p gs Y)) (j := 0) u1) (.pick (by (repeat constructor)) .nil) ?_
      unfold I
      (((with_reducible refine e_stS v_fa0 Imp.nil ?_))); (((with_reducible refine' e_stS (v_ldN ?hc) ?hi ?_); (case hi => (repeat (first | exact Imp.refl | exact Imp.nil | (apply Imp.pick; (focus ((repeat constructor); done))) | refine Imp.drop ?_))); (case hc => (repeat (first | exact Nth.here | apply Nth.there)))))
      refine e_askS v_eql Imp.nil (fun h5 => ?_) (fun h5 => ?_)
      · ((with_reducible refine e_condT ?_)); (((with_reducible refine e_opN v_fa0 Imp.nil ?_))); (((with_reducible refine' e_opN (v_ldN ?hc) ?hi ?_); (case hi => (repeat (first | exact Imp.refl | exact Imp.nil | (apply Imp.pick; (focus ((repeat constructor); done))) | refine Imp.drop ?_))); (case hc => (repeat (first | exact Nth.here | apply Nth.there))))); (((with_reducible refine e_opN (v_add ?h1 ?h2) Imp.nil ?_); (case h1 => omega); (case h2 => omega)))
        (try refine e_condT ?_)
        refine e_opN (v_ia1 k2 (by rfl) hk) Imp.nil ?_
        refine e_stSl (by (repeat constructor)) (by rw [tilV_len]; omega) ?_
        rw [show (Value.int .i64 (nw + tmo)) = I (nw + tmo) from rfl, tilV_set]
        (((with_reducible refine e_opN (v_add ?h1 ?h2) Imp.nil ?_); (case h1 => omega); (case h2 => omega)))
        refine e_next1 (m4 - 1) (by omega) (.ex (k2 + 1) (.all ?_))
        (try simp only [List.cons_append, List.nil_append, -eq_self])
        refine .pu ⟨by omega, rfl⟩ ?_
        have e3 : (fun q => if q = 0 + k2 then nw + tmo else if kd = 3 ∧ q < k2 ∧ uid us q = pe then nw + tmo else til q) = (fun q => if kd = 3 ∧ q < k2 + 1 ∧ uid us q = pe then nw + tmo else til q) := funext fun q => by
          by_cases c : q = k2
          · rw [if_pos (show q = 0 + k2 by omega), if_pos ⟨h, by omega, by rw [c, e1]; exact h5⟩]
          · rw [if_neg (show ¬ q = 0 + k2 by omega)]
            by_cases d : kd = 3 ∧ q < k2 ∧ uid us q = pe
            · rw [if_pos d, if_pos ⟨d.1, by omega, d.2.2⟩]
            · rw [if_neg d, if_neg (fun x => d ⟨x.1, by omega, x.2.2⟩)]
        rw [e3]
        (repeat (first | exact Imp.refl | exact Imp.nil | (apply Imp.pick; (focus ((repeat constructor); done))) | refine Imp.drop ?_))
      · ((with_reducible refine e_condF ?_)); (((with_reducible refine e_opN (v_add ?h1 ?h2) Imp.nil ?_); (case h1 => omega); (case h2 => omega)))
        (try refine e_condF ?_)
        refine e_next1 (m4 - 1) (by omega) (.ex (k2 + 1) (.all ?_))
        (try simp only [List.cons_append, List.nil_append, -eq_self])
        refine .pu ⟨by omega, rfl⟩ ?_
        have e3 : (fun q => if kd = 3 ∧ q < k2 ∧ uid us q = pe then nw + tmo else til q) = (fun q => if kd = 3 ∧ q < k2 + 1 ∧ uid us q = pe then nw + tmo else til q) := funext fun q => by
          by_cases d : kd = 3 ∧ q < k2 ∧ uid us q = pe
          · rw [if_pos d, if_pos ⟨d.1, by omega, d.2.2⟩]
          · rw [if_neg d, if_neg (fun x => d ⟨x.1, by
              rcases Nat.lt_or_ge q k2 with c | c
              · exact c
              · have : q = k2 := by omega
                exact absurd (by rw [← e1, ← this]; exact x.2.2) h5, x.2.2⟩)]
        rw [← e3]
        (repeat (first | exact Imp.refl | exact Imp.nil | (apply Imp.pick; (focus ((repeat constructor); done))) | refine Imp.drop ?_))
    · have h3 : kd = 3 := Decidable.not_not.1 h
      ((with_reducible refine e_gdF2 ?_)); ((with_reducible refine e_gdF2 ?_)); ((with_reducible refine e_gdF2 ?_)); ((with_reducible refine e_gdF2 ?_)); ((with_reducible refine e_gdF2 ?_)); ((with_reducible refine e_gdF2 ?_)); ((with_reducible refine e_gdF2 ?_)); ((with_reducible refine e_gdF2 ?_)); ((with_reducible refine e_gdF2 ?_)); ((with_reducible refine e_gdF2 ?_)); ((with_reducible refine e_gdF2 ?_)); ((with_reducible refine e_gdF2 ?_)); (((with_reducible refine e_stS v_pickF Imp.nil ?_))); ((with_reducible refine e_gdT ?_)); ((with_reducible refine e_gdT ?_)); ((with_reducible refine e_gdT ?_))
      refine e_stS (v_ia i (by rfl) hil) Imp.nil ?_
      ((with_reducible refine e_gdT ?_)); (((with_reducible refine e_stS v_fa Imp.nil ?_))); ((with_reducible refine e_gdT ?_))
      refine e_stS (v_ldRd2 (hr3 (IsPl p gs Z)) (j := 0) w0) (.pick (by (repeat constructor)) .nil) ?_
      unfold I
      ((with_reducible refine e_gdT ?_))
      refine e_stS v_eql Imp.nil ?_
      rw [decide_eq_true h3]
      ((with_reducible refine e_gdT ?_)); ((with_reducible refine e_gdT ?_)); ((with_reducible refine e_gdT ?_)); (((with_reducible refine e_stS v_fa0 Imp.nil ?_))); ((with_reducible refine e_gdT ?_)); (((with_reducible refine' e_stS (v_ldN ?hc) ?hi ?_); (case hi => (repeat (first | exact Imp.refl | exact Imp.nil | (apply Imp.pick; (focus ((repeat constructor); done))) | refine Imp.drop ?_))); (case hc => (repeat (first | exact Nth.here | apply Nth.there))))); ((with_reducible refine e_gdT ?_)); ((with_reducible refine e_gdT ?_))
      (try rw [upp])
      (refine' e_call (PL.fail (p := p) (gs := gs) (Z := Z) (id := tk[kk].2) (now := nw) hpo) ?hp fun _ => ?_; (case hp => (repeat (first | exact Picks.nil | (apply Picks.cons; (focus (repeat constructor)))))); (try simp only [List.cons_append, List.nil_append, Bool.not_true, Bool.not_false]))
      rw [(bd_fail hbd hdst hkl hck).1]
      ((with_reducible refine e_gdT ?_))
      (refine' e_call (num_) ?hp fun _ => ?_; (case hp => (repeat (first | exact Picks.nil | (apply Picks.cons; (focus (repeat constructor)))))); (try simp only [List.cons_append, List.nil_append, Bool.not_true, Bool.not_false]))
      ((with_reducible refine e_gdT ?_))
      refine e_stS v_neq Imp.nil ?_
      rw [decide_eq_false (p := (0 : Int) ≠ 0) (by decide)]
      ((with_reducible refine e_gdT ?_)); (((with_reducible refine e_stS v_pickT Imp.nil ?_))); (((with_reducible refine e_stS v_pickF Imp.nil ?_))); ((with_reducible refine e_condF ?_))
      (try refine e_condF ?_)
      have hB : Bd us (failF Z tk[kk].2 nw) (tk.eraseIdx kk) (fun q => if kd = 3 ∧ uid us q = tk[kk].1 then nw + tmo else til q) := by
        have e : (fun q => if kd = 3 ∧ uid us q = tk[kk].1 then nw + tmo else til q) = (fun q => if uid us q = tk[kk].1 then nw + Z.tmo else til q) := funext fun q => by simp only [h3, htm, true_and]
        rw [e]; exact (bd_fail hbd hdst hkl hck).2
      have hW : WfB (failF Z tk[kk].2 nw) (i + 1) := fail_wfb hwf
      have hT : (failF Z tk[kk].2 nw).tmo = tmo := by
        unfold failF
        split
        · unfold failAt; simp only; rw [(done_n _ _ _).2]; exact htm
        · split
          · exact htm
          · exact htm
      generalize failF Z tk[kk].2 nw = Y at hB hW hT ⊢
      have hel2 : (tk.eraseIdx kk).length ≤ i + 1 := by rw [List.length_eraseIdx, if_pos hkl]; omega
      generalize tk.eraseIdx kk = tk2 at hB hel2 ⊢
      obtain ⟨pe, hpe⟩ : ∃ x, x = tk[kk].1 := ⟨_, rfl⟩
      obtain ⟨qe, hqe⟩ : ∃ x, x = tk[kk].2 := ⟨_, rfl⟩
      rw [← hpe] at hB ⊢
      rw [← hqe]
      have ht1 := hW.tmo
      rw [hT] at ht1
      refine e_loop1 (fun m y => [ex fun k : Nat => all [pu (m + k = us.length ∧ y = .int .i64 (k : Int)), Sl 1 3 (some ⟨tg, 0, none⟩) us.length us.length (tilV (fun q => if kd = 3 ∧ q < k ∧ uid us q = pe then nw + tmo else til q) us.length)], IsPl p gs Y, Sl 2 41 a' c' tk2.length (tk2.flatMap pr2), pt b2 (.cells #[.string nm, .slice (some ⟨g0, o0, none⟩) us.length c, .int .i64 tmo, .int .i64 rt] 28), pt b17 (.cells #[.int .i64 pe, .int .i64 qe] 41)] ++ F) us.length ?_ ?_
      · refine .ex 0 (.all ?_)
        (try simp only [List.cons_append, List.nil_append, -eq_self])
        refine .pu ⟨by omega, rfl⟩ ?_
        have e0 : (fun q => if kd = 3 ∧ q < 0 ∧ uid us q = pe then nw + tmo else til q) = til := funext fun q => if_neg fun x => absurd x.2.1 (by omega)
        rw [e0]
        (repeat (first | exact Imp.refl | exact Imp.nil | (apply Imp.pick; (focus ((repeat constructor); done))) | refine Imp.drop ?_))
      intro m4 ds4 y
      (try simp only [List.cons_append, List.nil_append, -eq_self])
      refine e_ex Pick.here fun k2 => e_all Pick.here ?_
      (try simp only [List.cons_append, List.nil_append, -eq_self])
      refine e_pu Pick.here fun hi => ?_
      obtain ⟨hmk, rfl⟩ := hi
      have fin : (k2 < us.length → kd ≠ 3) → Bd us Y tk2 (fun q => if kd = 3 ∧ q < k2 ∧ uid us q = pe then nw + tmo else til q) := fun hx => hB.congr fun j hj => by
        by_cases h3 : kd = 3
        · have : us.length ≤ k2 := by
            rcases Nat.lt_or_ge k2 us.length with c | c
            · exact absurd h3 (hx c)
            · exact c
          simp only [h3, true_and, show j < k2 from by omega]
        · rw [if_neg (fun c => h3 c.1), if_neg (fun c => h3 c.1)]
      (((with_reducible refine e_opN v_fa0 Imp.nil ?_))); (((with_reducible refine' e_opN (v_ldN ?hc) ?hi ?_); (case hi => (repeat (first | exact Imp.refl | exact Imp.nil | (apply Imp.pick; (focus ((repeat constructor); done))) | refine Imp.drop ?_))); (case hc => (repeat (first | exact Nth.here | apply Nth.there))))); (((with_reducible refine e_opN v_len Imp.nil ?_)))
      (refine e_ask v_lss Imp.nil (fun h => ?_) (fun h => ?_))
      rotate_left
      · ((with_reducible refine e_gdF2 ?_)); ((with_reducible refine e_gdF2 ?_)); ((with_reducible refine e_gdF2 ?_)); ((with_reducible refine e_gdF2 ?_)); ((with_reducible refine e_gdF2 ?_)); ((with_reducible refine e_gdF2 ?_)); (((with_reducible refine e_opN v_pickF Imp.nil ?_))); ((with_reducible refine e_condF ?_))
        (try refine e_condF ?_)
        refine e_sat (.ex (Y, tk2, (fun q => if kd = 3 ∧ q < k2 ∧ uid us q = pe then nw + tmo else til q), (a', c')) (.all ?_))
        (try simp only [List.cons_append, List.nil_append, -eq_self])
        refine .pu ⟨rfl, fin (fun c => absurd c (by omega)), hW, hel2, hT⟩ ?_
        exact .pick (by (repeat constructor)) (.pick (by (repeat constructor)) (.pick (by (repeat constructor)) (by (repeat (first | exact Imp.refl | exact Imp.nil | (apply Imp.pick; (focus ((repeat constructor); done))) | refine Imp.drop ?_)))))
      have hk : k2 < us.length := by omega
      ((with_reducible refine e_gdT ?_)); ((with_reducible refine e_gdT ?_)); ((with_reducible refine e_gdT ?_))
      refine e_opN (v_ia i (by rfl) hil) Imp.nil ?_
      ((with_reducible refine e_gdT ?_)); (((with_reducible refine e_opN v_fa Imp.nil ?_))); ((with_reducible refine e_gdT ?_))
      refine e_opN (v_ldRd2 (hr3 (IsPl p gs Y)) (j := 0) w0) (.pick (by (repeat constructor)) .nil) ?_
      unfold I
      ((with_reducible refine e_gdT ?_))
      refine e_ask v_eql Imp.nil (fun h => ?_) (fun h => ?_)
      rotate_left
      · (((with_reducible refine e_opN v_pickT Imp.nil ?_))); ((with_reducible refine e_condF ?_))
        (try refine e_condF ?_)
        refine e_sat (.ex (Y, tk2, (fun q => if kd = 3 ∧ q < k2 ∧ uid us q = pe then nw + tmo else til q), (a', c')) (.all ?_))
        (try simp only [List.cons_append, List.nil_append, -eq_self])
        refine .pu ⟨rfl, fin (fun _ => h), hW, hel2, hT⟩ ?_
        exact .pick (by (repeat constructor)) (.pick (by (repeat constructor)) (.pick (by (repeat constructor)) (by (repeat (first | exact Imp.refl | exact Imp.nil | (apply Imp.pick; (focus ((repeat constructor); done))) | refine Imp.drop ?_)))))
      (((with_reducible refine e_opN v_pickT Imp.nil ?_))); ((with_reducible refine e_condT ?_)); ((with_reducible refine e_drS ?_)); (((with_reducible refine e_stS v_fa0 Imp.nil ?_))); (((with_reducible refine' e_stS (v_ldN ?hc) ?hi ?_); (case hi => (repeat (first | exact Imp.refl | exact Imp.nil | (apply Imp.pick; (focus ((repeat constructor); done))) | refine Imp.drop ?_))); (case hc => (repeat (first | exact Nth.here | apply Nth.there)))))
      (try refine e_condT ?_)
      (try refine e_drS ?_)
      obtain ⟨u1, u2⟩ := pr2_get us k2 hk
      have e1 : uid us k2 = us[k2].1 := by unfold uid; rw [List.getD_eq_getElem?_getD, List.getElem?_eq_getElem hk]; rfl
      refine e_stS (v_ia k2 (by rfl) hk) Imp.nil ?_
      (((with_reducible refine e_stS v_fa Imp.nil ?_)))
      refine e_stS (v_ldRd2 (hr (IsPl p gs Y)) (j := 0) u1) (.pick (by (repeat constructor)) .nil) ?_
      unfold I
      (((with_reducible refine e_stS v_fa0 Imp.nil ?_))); (((with_reducible refine' e_stS (v_ldN ?hc) ?hi ?_); (case hi => (repeat (first | exact Imp.refl | exact Imp.nil | (apply Imp.pick; (focus ((repeat constructor); done))) | refine Imp.drop ?_))); (case hc => (repeat (first | exact Nth.here | apply Nth.there)))))
      refine e_askS v_eql Imp.nil (fun h5 => ?_) (fun h5 => ?_)
      · ((with_reducible refine e_condT ?_)); (((with_reducible refine e_opN v_fa0 Imp.nil ?_))); (((with_reducible refine' e_opN (v_ldN ?hc) ?hi ?_); (case hi => (repeat (first | exact Imp.refl | exact Imp.nil | (apply Imp.pick; (focus ((repeat constructor); done))) | refine Imp.drop ?_))); (case hc => (repeat (first | exact Nth.here | apply Nth.there))))); (((with_reducible refine e_opN (v_add ?h1 ?h2) Imp.nil ?_); (case h1 => omega); (case h2 => omega)))
        (try refine e_condT ?_)
        refine e_opN (v_ia1 k2 (by rfl) hk) Imp.nil ?_
        refine e_stSl (by (repeat constructor)) (by rw [tilV_len]; omega) ?_
        rw [show (Value.int .i64 (nw + tmo)) = I (nw + tmo) from rfl, tilV_set]
        (((with_reducible refine e_opN (v_add ?h1 ?h2) Imp.nil ?_); (case h1 => omega); (case h2 => omega)))
        refine e_next1 (m4 - 1) (by omega) (.ex (k2 + 1) (.all ?_))
        (try simp only [List.cons_append, List.nil_append, -eq_self])
        refine .pu ⟨by omega, rfl⟩ ?_
        have e3 : (fun q => if q = 0 + k2 then nw + tmo else if kd = 3 ∧ q < k2 ∧ uid us q = pe then nw + tmo else til q) = (fun q => if kd = 3 ∧ q < k2 + 1 ∧ uid us q = pe then nw + tmo else til q) := funext fun q => by
          by_cases c : q = k2
          · rw [if_pos (show q = 0 + k2 by omega), if_pos ⟨h, by omega, by rw [c, e1]; exact h5⟩]
          · rw [if_neg (show ¬ q = 0 + k2 by omega)]
            by_cases d : kd = 3 ∧ q < k2 ∧ uid us q = pe
            · rw [if_pos d, if_pos ⟨d.1, by omega, d.2.2⟩]
            · rw [if_neg d, if_neg (fun x => d ⟨x.1, by omega, x.2.2⟩)]
        rw [e3]
        (repeat (first | exact Imp.refl | exact Imp.nil | (apply Imp.pick; (focus ((repeat constructor); done))) | refine Imp.drop ?_))
      · ((with_reducible refine e_condF ?_)); (((with_reducible refine e_opN (v_add ?h1 ?h2) Imp.nil ?_); (case h1 => omega); (case h2 => omega)))
        (try refine e_condF ?_)
        refine e_next1 (m4 - 1) (by omega) (.ex (k2 + 1) (.all ?_))
        (try simp only [List.cons_append, List.nil_append, -eq_self])
        refine .pu ⟨by omega, rfl⟩ ?_
        have e3 : (fun q => if kd = 3 ∧ q < k2 ∧ uid us q = pe then nw + tmo else til q) = (fun q => if kd = 3 ∧ q < k2 + 1 ∧ uid us q = pe then nw + tmo else til q) := funext fun q => by
          by_cases d : kd = 3 ∧ q < k2 ∧ uid us q = pe
          · rw [if_pos d, if_pos ⟨d.1, by omega, d.2.2⟩]
          · rw [if_neg d, if_neg (fun x => d ⟨x.1, by
              rcases Nat.lt_or_ge q k2 with c | c
              · exact c
              · have : q = k2 := by omega
                exact absurd (by rw [← e1, ← this]; exact x.2.2) h5, x.2.2⟩)]
        rw [← e3]
        (repeat (first | exact Imp.refl | exact Imp.nil | (apply Imp.pick; (focus ((repeat constructor); done))) | refine Imp.drop ?_))
end Go.Proofs.Ytpmcokpiplcnjaa.PL
