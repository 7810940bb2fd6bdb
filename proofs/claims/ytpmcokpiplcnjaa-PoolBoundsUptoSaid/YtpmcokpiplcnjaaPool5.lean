/- A pool: a connection is taken. No conditions but those that each names. -/
import Derived.Test.YtpmcokpiplcnjaaPool4
set_option linter.unusedVariables false
set_option linter.unusedSimpArgs false
namespace Go.Proofs.Ytpmcokpiplcnjaa.PL
open Go Go.Proofs Go.RowKit Go.Proofs.Ytpmcokpiplcnjaa.Sh Go.Proofs.Ytpmcokpiplcnjaa.Sl Go.Proofs.Ytpmcokpiplcnjaa.T
def avail (Z : Pl) (now : Int) (i : Nat) : Prop := ¬ clk now < (Z.pr i).til ∧ (0 < (Z.pr i).idle.length ∨ (Z.pr i).busy < (Z.pr i).max)
instance (Z : Pl) (now : Int) (i : Nat) : Decidable (avail Z now i) := by unfold avail; infer_instance
/-- the first in turn that may be taken -/
def pkI (Z : Pl) (now : Int) : Nat → Option Nat
  | 0 => none
  | k + 1 => match pkI Z now k with
    | some j => some j
    | none => if avail Z now (ord Z k) then some k else none
theorem pkI_up {Z : Pl} {now : Int} {k j : Nat} (h : pkI Z now k = some j) : ∀ m, pkI Z now (k + m) = some j
  | 0 => h
  | m + 1 => by rw [← Nat.add_assoc, pkI, pkI_up h m]
def eC (Z : Pl) (now : Int) : Nat → Int
  | 0 => 3
  | k + 1 => if clk now < (Z.pr (ord Z k)).til then eC Z now k else 63
def tkId (Z : Pl) (i : Nat) : Int := if 0 < (Z.pr i).idle.length then (Z.pr i).idle.getD ((Z.pr i).idle.length - 1) 0 else Z.num
def took (Z : Pl) (i : Nat) : Pl := { Z with pr := setP Z.pr i { Z.pr i with idle := (Z.pr i).idle.take ((Z.pr i).idle.length - 1), busy := (Z.pr i).busy + 1 }, im := if 0 < (Z.pr i).idle.length then updO Z.im (tkId Z i) none else Z.im, num := if 0 < (Z.pr i).idle.length then Z.num else Z.num + 1, bm := updO Z.bm (tkId Z i) (some i), at_ := (i + 1) % Z.n }
structure Tk where
  peer : Int
  id : Int
  fresh : Bool
  e : Int
def takeF (Z : Pl) (now : Int) : Tk × Pl := match pkI Z now Z.n with
  | some k => (⟨(Z.pr (ord Z k)).id, tkId Z (ord Z k), decide ((Z.pr (ord Z k)).idle.length = 0), 0⟩, took Z (ord Z k))
  | none => (⟨0, 0, false, eC Z now Z.n⟩, Z)
def tkV (t : Tk) : Value := .tuple #[.agg #[.int .i64 t.peer, .int .i64 t.id], .bool t.fresh, .int .i64 t.e]
theorem take {W : World} {p : Nat} {gs : Nat → Nat} {Z : Pl} {now : Int} (hz : Wf Z) (hi : ∀ i, i < Z.n → (Z.pr i).idle.length ≤ 1099511627776) : Cn Try.prog 18 [pv p, .int .i64 now] W [IsPl p gs Z] (fun _ : Unit => tkV (takeF Z now).1) (fun _ => [IsPl p gs (takeF Z now).2]) := by
  have upv : ∀ g, pv g = .pointer (some ⟨g, 0, none⟩) := fun _ => rfl
  obtain ⟨n1, n2, at1⟩ : 1 ≤ Z.n ∧ Z.n ≤ 16 ∧ Z.at_ < Z.n := ⟨hz.n1, hz.n2, hz.at_⟩
  (refine S.pool_Pool_Take_cn fun F => ?_; unfold S.pool_Pool_Take; simp only [List.cons_append, List.nil_append])
  refine e_box1 fun b2 => ?_
  refine e_box1 fun b3 => ?_
  refine e_newA fun b4 => ?_
  refine e_new1 fun b5 => ?_
  refine e_new1 fun b6 => ?_
  (((with_reducible refine' e_opN (v_ldN ?hc) ?hi ?_); (case hi => (repeat (first | exact Imp.refl | exact Imp.nil | (apply Imp.pick; (focus ((repeat constructor); done))) | refine Imp.drop ?_))); (case hc => (repeat (first | exact Nth.here | apply Nth.there)))))
  (refine' e_call (none_) ?hp fun _ => ?_; (case hp => (repeat (first | exact Picks.nil | (apply Picks.cons; (focus (repeat constructor)))))); (try simp only [List.cons_append, List.nil_append, Bool.not_true, Bool.not_false]))
  ((with_reducible refine e_condF ?_)); (((with_reducible refine' e_stN ?hp ?ho ?_); (case hp => (repeat constructor)); (case ho => (repeat (first | exact Put.here | apply Put.there))))); (((with_reducible refine' e_opN (v_ldN ?hc) ?hi ?_); (case hi => (repeat (first | exact Imp.refl | exact Imp.nil | (apply Imp.pick; (focus ((repeat constructor); done))) | refine Imp.drop ?_))); (case hc => (repeat (first | exact Nth.here | apply Nth.there)))))
  (refine' e_call (round) ?hp fun _ => ?_; (case hp => (repeat (first | exact Picks.nil | (apply Picks.cons; (focus (repeat constructor)))))); (try simp only [List.cons_append, List.nil_append, Bool.not_true, Bool.not_false]))
  rename_i bc
  have G0 : True := trivial
  refine e_rf (f := 60) (cap := [pv bc]) (turns gs Z)
    (fun k => all [pt bc (.cells #[pv p] 29), IsPl p gs Z, all [pu (pkI Z now k = none ∧ k ≤ Z.n), pt b2 (.cells #[pv p] 29), pt b3 (.cells #[.int .i64 now] 3), pt b4 (.cells #[.int .i64 0, .int .i64 0] 41), pt b5 (.cells #[.bool false] 4), pt b6 (.cells #[.int .i64 (eC Z now k)] 30), all F]])
    (all [ex fun k : Nat => all [pu (pkI Z now Z.n = some k), IsPl p gs (took Z (ord Z k)), pt b4 (.cells #[.int .i64 (Z.pr (ord Z k)).id, .int .i64 (tkId Z (ord Z k))] 41), pt b5 (.cells #[.bool (decide ((Z.pr (ord Z k)).idle.length = 0))] 4), pt b6 (.cells #[.int .i64 0] 30)], all F]) rfl ?_ ?_ ?_ ?_ ?_ ?_
  · intro x hx
    obtain ⟨k, _, rfl⟩ := List.mem_map.1 hx
    rfl
  · refine .all ?_
    (try simp only [List.cons_append, List.nil_append, -eq_self])
    refine .pick (by (repeat constructor)) (.pick (by (repeat constructor)) (.all ?_))
    (try simp only [List.cons_append, List.nil_append, -eq_self])
    refine .pu ⟨rfl, by omega⟩ ?_
    refine .pick (by (repeat constructor)) (.pick (by (repeat constructor)) (.pick (by (repeat constructor)) (.pick (by (repeat constructor)) (.pick (by (repeat constructor)) (.all ?_)))))
    rw [List.append_nil]
    exact .refl
  · intro l T T' hy
    rw [turns_len]
    exact round1 hz hy
  · intro k hk F2 T0 T1 B N J hB hN hJ
    rw [turns_len] at hk
    have e0 : ∀ h, (turns gs Z)[k]'h = [.int .i64 (ord Z k : Int), pv (gs (ord Z k))] := fun h => by
      have := turns_get (gs := gs) hk
      rw [List.getElem?_eq_getElem h] at this
      exact Option.some.inj this
    rw [e0]
    simp only [vapp, List.headD_cons, List.tail_cons]
    have hil := ord_lt hz k
    obtain ⟨i, hie⟩ : ∃ i, i = ord Z k := ⟨_, rfl⟩
    rw [← hie] at hil ⊢
    have hpr := hz.pr i hil
    have hid := hi i hil
    have hnum := hz.num
    refine e_all (.there .here) ?_
    (try simp only [List.cons_append, List.nil_append, -eq_self])
    refine e_all (.there (.there .here)) ?_
    (try simp only [List.cons_append, List.nil_append, -eq_self])
    refine e_pu .here fun hp => ?_
    obtain ⟨hp, hkn⟩ := hp
    refine hB _ _ _ (by (repeat constructor)) ?_
    refine e_ex (A := fun q : (Option Addr × Nat) × Nat × Nat => all [pt p (.cells #[.slice q.1.1 Z.n q.1.2, .map (some q.2.1), .map (some q.2.2), .int .i64 (Z.at_ : Int), .int .i64 Z.num, .int .i64 Z.tmo] 95), Sl 1 97 q.1.1 q.1.2 Z.n (ptrs gs Z.n), MapFn q.2.1 encI (mv gs Z.bm), MapFn q.2.2 encI (mv gs Z.im), BS Z.n (fun i => IsPr (gs i) (Z.pr i))]) (by (repeat constructor)) fun q => e_all Pick.here ?_
    obtain ⟨⟨a, c⟩, mb, mi⟩ := q
    (try simp only [List.cons_append, List.nil_append, -eq_self])
    unfold pv
    refine e_drS ?_
    (((with_reducible refine' e_stS (v_ldN ?hc) ?hi ?_); (case hi => (repeat (first | exact Imp.refl | exact Imp.nil | (apply Imp.pick; (focus ((repeat constructor); done))) | refine Imp.drop ?_))); (case hc => (repeat (first | exact Nth.here | apply Nth.there))))); (((with_reducible refine e_stD v_nil Imp.nil ?_))); (((with_reducible refine e_stD v_fa0 Imp.nil ?_)))
    refine e_stD (v_pr i hil (v := .int .i64 (Z.pr i).til) rfl) (.pick (by (repeat constructor)) .nil) ?_
    (refine' e_call (clock) ?hp fun _ => ?_; (case hp => (repeat (first | exact Picks.nil | (apply Picks.cons; (focus (repeat constructor)))))); (try simp only [List.cons_append, List.nil_append, Bool.not_true, Bool.not_false]))
    (((with_reducible refine e_obl ?hi ?_); (case hi => (repeat (first | exact Imp.refl | exact Imp.nil | (apply Imp.pick; (focus ((repeat constructor); done))) | refine Imp.drop ?_))))); (((with_reducible refine e_obl ?hi ?_); (case hi => (repeat (first | exact Imp.refl | exact Imp.nil | (apply Imp.pick; (focus ((repeat constructor); done))) | refine Imp.drop ?_))))); (((with_reducible refine e_obl ?hi ?_); (case hi => (repeat (first | exact Imp.refl | exact Imp.nil | (apply Imp.pick; (focus ((repeat constructor); done))) | refine Imp.drop ?_)))))
    refine e_askS v_lss Imp.nil (fun h => ?_) (fun h => ?_)
    · refine e_condT ?_
      refine hN _ ?_
      refine .pick (by (repeat constructor)) (.all ?_)
      (try simp only [List.cons_append, List.nil_append, -eq_self])
      refine .pick (by (repeat constructor)) (.ex ((a, c), mb, mi) (.all ?_))
      (try simp only [List.cons_append, List.nil_append, -eq_self])
      refine .pick (by (repeat constructor)) (.pick (by (repeat constructor)) (.pick (by (repeat constructor)) (.pick (by (repeat constructor)) (.pick (by (repeat constructor)) (.all ?_)))))
      (try simp only [List.cons_append, List.nil_append, -eq_self])
      have e1 : eC Z now (k + 1) = eC Z now k := by rw [eC, if_pos (by rw [← hie]; exact h)]
      have e2 : pkI Z now (k + 1) = none := by
        rw [pkI, hp]
        simp only
        rw [if_neg (fun c => c.1 (by rw [← hie]; exact h))]
      rw [e1]
      refine .pu ⟨e2, by omega⟩ ?_
      (repeat (first | exact Imp.refl | exact Imp.nil | (apply Imp.pick; (focus ((repeat constructor); done))) | refine Imp.drop ?_))
    refine e_condF ?_
    have hclk := h
    have e1 : eC Z now (k + 1) = 63 := by rw [eC, if_neg (by rw [← hie]; exact h)]
    refine e_big (by (repeat constructor)) i hil ?_
    refine e_ex Pick.here fun q => e_all Pick.here ?_
    obtain ⟨qa, qc⟩ := q
    (try simp only [List.cons_append, List.nil_append, -eq_self])
    (((with_reducible refine' e_stN ?hp ?ho ?_); (case hp => (repeat constructor)); (case ho => (repeat (first | exact Put.here | apply Put.there))))); (((with_reducible refine' e_opN (v_ldN ?hc) ?hi ?_); (case hi => (repeat (first | exact Imp.refl | exact Imp.nil | (apply Imp.pick; (focus ((repeat constructor); done))) | refine Imp.drop ?_))); (case hc => (repeat (first | exact Nth.here | apply Nth.there))))); (((with_reducible refine e_opN v_nil Imp.nil ?_))); (((with_reducible refine e_opN v_fa0 Imp.nil ?_))); (((with_reducible refine' e_opN (v_ldN ?hc) ?hi ?_); (case hi => (repeat (first | exact Imp.refl | exact Imp.nil | (apply Imp.pick; (focus ((repeat constructor); done))) | refine Imp.drop ?_))); (case hc => (repeat (first | exact Nth.here | apply Nth.there))))); (((with_reducible refine e_opN v_nil Imp.nil ?_))); (((with_reducible refine e_opN v_fa0 Imp.nil ?_))); (((with_reducible refine' e_opN (v_ldN ?hc) ?hi ?_); (case hi => (repeat (first | exact Imp.refl | exact Imp.nil | (apply Imp.pick; (focus ((repeat constructor); done))) | refine Imp.drop ?_))); (case hc => (repeat (first | exact Nth.here | apply Nth.there))))); (((with_reducible refine e_opN v_len Imp.nil ?_)))
    refine e_slfacts (.there (.there .here)) fun f1 f2 f3 f4 => ?_
    have hav : ∀ j, j = ord Z k → (avail Z now j ↔ (0 < (Z.pr i).idle.length ∨ (Z.pr i).busy < (Z.pr i).max)) := fun j hj => by
      rw [hj, ← hie]
      exact ⟨fun x => x.2, fun x => ⟨hclk, x⟩⟩
    refine e_cut1 (fun z => [ex fun q : Option Addr × Nat => all [pu (z = .int .i64 (tkId Z i) ∧ (0 < (Z.pr i).idle.length ∨ (Z.pr i).busy < (Z.pr i).max)),
        pt (gs i) (.cells #[.int .i64 (Z.pr i).id, .int .i64 (Z.pr i).max, .slice q.1 ((Z.pr i).idle.length - 1) q.2, .int .i64 (Z.pr i).busy, .int .i64 (Z.pr i).til] 100),
        Sl 1 3 q.1 q.2 ((Z.pr i).idle.length - 1) (((Z.pr i).idle.take ((Z.pr i).idle.length - 1)).map I),
        pt p (.cells #[.slice a Z.n c, .map (some mb), .map (some mi), .int .i64 (Z.at_ : Int), .int .i64 (took Z i).num, .int .i64 Z.tmo] 95),
        MapFn mi encI (mv gs (took Z i).im)], pt b6 (.cells #[.int .i64 63] 30), BH Z.n (fun i => IsPr (gs i) (Z.pr i)) i, Sl 1 97 a c Z.n (ptrs gs Z.n), MapFn mb encI (mv gs Z.bm), T1, pt b2 (.cells #[.pointer (some ⟨p, 0, none⟩)] 29), pt b3 (.cells #[.int .i64 now] 3), pt b4 (.cells #[.int .i64 0, .int .i64 0] 41), pt b5 (.cells #[.bool false] 4), all F, pt bc (.cells #[.pointer (some ⟨p, 0, none⟩)] 29)] ++ F2) ?_ ?_
    rotate_left
    · refine e_opN v_gtr Imp.nil ?_
      by_cases hn0 : 0 < (Z.pr i).idle.length
      · rw [decide_eq_true (by omega)]
        refine e_condT ?_
        refine e_drS ?_
        obtain ⟨gq, rfl⟩ := f4 hn0
        have hlt : (Z.pr i).idle.length - 1 < (Z.pr i).idle.length := by omega
        (((with_reducible refine e_stS v_nil Imp.nil ?_))); (((with_reducible refine e_stS v_fa0 Imp.nil ?_))); (((with_reducible refine' e_stS (v_ldN ?hc) ?hi ?_); (case hi => (repeat (first | exact Imp.refl | exact Imp.nil | (apply Imp.pick; (focus ((repeat constructor); done))) | refine Imp.drop ?_))); (case hc => (repeat (first | exact Nth.here | apply Nth.there))))); (((with_reducible refine e_stS (v_sub ?h1 ?h2) Imp.nil ?_); (case h1 => omega); (case h2 => omega)))
        refine e_stS (v_ia1 ((Z.pr i).idle.length - 1) (by omega) hlt) Imp.nil ?_
        refine e_stS (v_ldSl (v := I (Z.pr i).idle[(Z.pr i).idle.length - 1]) (by rw [Nat.zero_add]; exact I_get hlt)) (.pick (by (repeat constructor)) .nil) ?_
        (((with_reducible refine e_stS v_nil Imp.nil ?_))); (((with_reducible refine e_stS v_fa0 Imp.nil ?_))); (((with_reducible refine' e_stS (v_ldN ?hc) ?hi ?_); (case hi => (repeat (first | exact Imp.refl | exact Imp.nil | (apply Imp.pick; (focus ((repeat constructor); done))) | refine Imp.drop ?_))); (case hc => (repeat (first | exact Nth.here | apply Nth.there))))); (((with_reducible refine e_stS (v_sub ?h1 ?h2) Imp.nil ?_); (case h1 => omega); (case h2 => omega)))
        refine e_stS (v_slh0 ((Z.pr i).idle.length - 1) (by omega) (by omega)) Imp.nil ?_
        (((with_reducible refine e_stS v_nil Imp.nil ?_))); (((with_reducible refine e_stS v_fa0 Imp.nil ?_))); (((with_reducible refine' e_stN ?hp ?ho ?_); (case hp => (repeat constructor)); (case ho => (repeat (first | exact Put.here | apply Put.there))))); (((with_reducible refine' e_opN (v_ldN ?hc) ?hi ?_); (case hi => (repeat (first | exact Imp.refl | exact Imp.nil | (apply Imp.pick; (focus ((repeat constructor); done))) | refine Imp.drop ?_))); (case hc => (repeat (first | exact Nth.here | apply Nth.there))))); (((with_reducible refine e_opN v_nil Imp.nil ?_))); (((with_reducible refine e_opN v_fa0 Imp.nil ?_))); (((with_reducible refine' e_opN (v_ldN ?hc) ?hi ?_); (case hi => (repeat (first | exact Imp.refl | exact Imp.nil | (apply Imp.pick; (focus ((repeat constructor); done))) | refine Imp.drop ?_))); (case hc => (repeat (first | exact Nth.here | apply Nth.there)))))
        refine e_delF (q := (Z.pr i).idle[(Z.pr i).idle.length - 1]) key3 (by (repeat constructor)) ?_
        refine e_slcut (m := (Z.pr i).idle.length - 1) (L := _) (by (repeat constructor)) (by omega) ?_
        rw [Nat.mul_one, ← List.map_take]
        have ht : (Z.pr i).idle[(Z.pr i).idle.length - 1] = tkId Z i := by
          unfold tkId
          rw [if_pos hn0, List.getD_eq_getElem?_getD, List.getElem?_eq_getElem hlt]; rfl
        rw [ht]
        refine e_sat (.ex (some ⟨gq, 0, none⟩, qc) (.all ?_))
        (try simp only [List.cons_append, List.nil_append, -eq_self])
        refine .pu ⟨by rw [← ht]; rfl, .inl hn0⟩ ?_
        rw [show (took Z i).num = Z.num by simp [took, hn0], show (took Z i).im = updO Z.im (tkId Z i) none by simp [took, hn0], mv_upd]
        refine .pick (by (repeat constructor)) (.pick (by (repeat constructor)) (.pick (by (repeat constructor)) (.pick (by (repeat constructor)) ?_)))
        (repeat (first | exact Imp.refl | exact Imp.nil | (apply Imp.pick; (focus ((repeat constructor); done))) | refine Imp.drop ?_))
      · rw [decide_eq_false (by omega)]
        refine e_condF ?_
        refine e_drS ?_
        (((with_reducible refine e_stS v_nil Imp.nil ?_))); (((with_reducible refine e_stS v_fa0 Imp.nil ?_))); (((with_reducible refine' e_stS (v_ldN ?hc) ?hi ?_); (case hi => (repeat (first | exact Imp.refl | exact Imp.nil | (apply Imp.pick; (focus ((repeat constructor); done))) | refine Imp.drop ?_))); (case hc => (repeat (first | exact Nth.here | apply Nth.there))))); (((with_reducible refine e_stS v_nil Imp.nil ?_))); (((with_reducible refine e_stS v_fa0 Imp.nil ?_))); (((with_reducible refine e_stS v_fa0 Imp.nil ?_))); (((with_reducible refine' e_stS (v_ldN ?hc) ?hi ?_); (case hi => (repeat (first | exact Imp.refl | exact Imp.nil | (apply Imp.pick; (focus ((repeat constructor); done))) | refine Imp.drop ?_))); (case hc => (repeat (first | exact Nth.here | apply Nth.there)))))
        refine e_askS v_lss Imp.nil (fun h => ?_) (fun h => ?_)
        · ((with_reducible refine e_condT ?_)); (((with_reducible refine' e_opN (v_ldN ?hc) ?hi ?_); (case hi => (repeat (first | exact Imp.refl | exact Imp.nil | (apply Imp.pick; (focus ((repeat constructor); done))) | refine Imp.drop ?_))); (case hc => (repeat (first | exact Nth.here | apply Nth.there))))); (((with_reducible refine e_opN v_nil Imp.nil ?_))); (((with_reducible refine e_opN v_fa0 Imp.nil ?_))); (((with_reducible refine' e_opN (v_ldN ?hc) ?hi ?_); (case hi => (repeat (first | exact Imp.refl | exact Imp.nil | (apply Imp.pick; (focus ((repeat constructor); done))) | refine Imp.drop ?_))); (case hc => (repeat (first | exact Nth.here | apply Nth.there))))); (((with_reducible refine e_opN (v_add ?h1 ?h2) Imp.nil ?_); (case h1 => omega); (case h2 => omega))); (((with_reducible refine e_opN v_nil Imp.nil ?_))); (((with_reducible refine e_opN v_fa0 Imp.nil ?_))); (((with_reducible refine' e_stN ?hp ?ho ?_); (case hp => (repeat constructor)); (case ho => (repeat (first | exact Put.here | apply Put.there)))))
          have hl0 : (Z.pr i).idle = [] := List.eq_nil_of_length_eq_zero (by omega)
          have ht : tkId Z i = Z.num := by unfold tkId; rw [if_neg hn0]
          refine e_sat (.ex (qa, qc) (.all ?_))
          (try simp only [List.cons_append, List.nil_append, -eq_self])
          refine .pu ⟨by rw [ht], .inr h⟩ ?_
          rw [show (took Z i).num = Z.num + 1 by simp [took, hn0], show (took Z i).im = Z.im by simp [took, hn0], hl0]
          refine .pick (by (repeat constructor)) (.pick (by (repeat constructor)) (.pick (by (repeat constructor)) (.pick (by (repeat constructor)) ?_)))
          (repeat (first | exact Imp.refl | exact Imp.nil | (apply Imp.pick; (focus ((repeat constructor); done))) | refine Imp.drop ?_))
        · refine e_condF ?_
          refine hN _ ?_
          refine .pick (by (repeat constructor)) (.all ?_)
          (try simp only [List.cons_append, List.nil_append, -eq_self])
          refine .pick (by (repeat constructor)) (.ex ((a, c), mb, mi) (.all ?_))
          (try simp only [List.cons_append, List.nil_append, -eq_self])
          refine .pick (by (repeat constructor)) (.pick (by (repeat constructor)) (.pick (by (repeat constructor)) (.pick (by (repeat constructor)) ?_)))
          refine imp_big i hil (F := fun i => IsPr (gs i) (Z.pr i)) (fun j hj hji => rfl) ?_
          refine .ex (qa, qc) (.all ?_)
          (try simp only [List.cons_append, List.nil_append, -eq_self])
          refine .pick (by (repeat constructor)) (.pick (by (repeat constructor)) (.pick (by (repeat constructor)) (.all ?_)))
          (try simp only [List.cons_append, List.nil_append, -eq_self])
          have e2 : pkI Z now (k + 1) = none := by
            rw [pkI, hp]
            simp only
            rw [if_neg (fun c => by rcases (hav _ rfl).1 c with c | c <;> omega)]
          rw [e1]
          refine .pu ⟨e2, by omega⟩ ?_
          (repeat (first | exact Imp.refl | exact Imp.nil | (apply Imp.pick; (focus ((repeat constructor); done))) | refine Imp.drop ?_))
    intro ds z
    (try simp only [List.cons_append, List.nil_append, -eq_self])
    refine e_ex Pick.here fun q => e_all Pick.here ?_
    obtain ⟨qa, qc⟩ := q
    (try simp only [List.cons_append, List.nil_append, -eq_self])
    refine e_pu .here fun hx => ?_
    obtain ⟨rfl, hx⟩ := hx
    (((with_reducible refine e_opN v_nil Imp.nil ?_))); (((with_reducible refine e_opN v_fa0 Imp.nil ?_))); (((with_reducible refine' e_opN (v_ldN ?hc) ?hi ?_); (case hi => (repeat (first | exact Imp.refl | exact Imp.nil | (apply Imp.pick; (focus ((repeat constructor); done))) | refine Imp.drop ?_))); (case hc => (repeat (first | exact Nth.here | apply Nth.there))))); (((with_reducible refine e_opN (v_add ?h1 ?h2) Imp.nil ?_); (case h1 => omega); (case h2 => omega))); (((with_reducible refine e_opN v_nil Imp.nil ?_))); (((with_reducible refine e_opN v_fa0 Imp.nil ?_))); (((with_reducible refine' e_stN ?hp ?ho ?_); (case hp => (repeat constructor)); (case ho => (repeat (first | exact Put.here | apply Put.there))))); (((with_reducible refine' e_opN (v_ldN ?hc) ?hi ?_); (case hi => (repeat (first | exact Imp.refl | exact Imp.nil | (apply Imp.pick; (focus ((repeat constructor); done))) | refine Imp.drop ?_))); (case hc => (repeat (first | exact Nth.here | apply Nth.there))))); (((with_reducible refine e_opN v_nil Imp.nil ?_))); (((with_reducible refine e_opN v_fa0 Imp.nil ?_))); (((with_reducible refine' e_opN (v_ldN ?hc) ?hi ?_); (case hi => (repeat (first | exact Imp.refl | exact Imp.nil | (apply Imp.pick; (focus ((repeat constructor); done))) | refine Imp.drop ?_))); (case hc => (repeat (first | exact Nth.here | apply Nth.there)))))
    refine e_setF (q := tkId Z i) key3 (by (repeat constructor)) ?_
    refine e_drS ?_
    (((with_reducible refine' e_stS (v_ldN ?hc) ?hi ?_); (case hi => (repeat (first | exact Imp.refl | exact Imp.nil | (apply Imp.pick; (focus ((repeat constructor); done))) | refine Imp.drop ?_))); (case hc => (repeat (first | exact Nth.here | apply Nth.there))))); (((with_reducible refine e_stS (v_add ?h1 ?h2) Imp.nil ?_); (case h1 => omega); (case h2 => omega))); (((with_reducible refine' e_stS (v_ldN ?hc) ?hi ?_); (case hi => (repeat (first | exact Imp.refl | exact Imp.nil | (apply Imp.pick; (focus ((repeat constructor); done))) | refine Imp.drop ?_))); (case hc => (repeat (first | exact Nth.here | apply Nth.there))))); (((with_reducible refine e_stS v_nil Imp.nil ?_))); (((with_reducible refine e_stS v_fa0 Imp.nil ?_))); (((with_reducible refine' e_stS (v_ldN ?hc) ?hi ?_); (case hi => (repeat (first | exact Imp.refl | exact Imp.nil | (apply Imp.pick; (focus ((repeat constructor); done))) | refine Imp.drop ?_))); (case hc => (repeat (first | exact Nth.here | apply Nth.there))))); (((with_reducible refine e_stS v_len Imp.nil ?_))); (((with_reducible refine e_stS (v_rem ?h1 ?h2) Imp.nil ?_); (case h1 => omega); (case h2 => omega))); (((with_reducible refine e_stS v_nil Imp.nil ?_))); (((with_reducible refine e_stS v_fa0 Imp.nil ?_))); (((with_reducible refine' e_stN ?hp ?ho ?_); (case hp => (repeat constructor)); (case ho => (repeat (first | exact Put.here | apply Put.there))))); (((with_reducible refine e_opN v_nil Imp.nil ?_))); (((with_reducible refine e_opN v_fa0 Imp.nil ?_))); (((with_reducible refine e_opN v_fa0 Imp.nil ?_))); (((with_reducible refine' e_opN (v_ldN ?hc) ?hi ?_); (case hi => (repeat (first | exact Imp.refl | exact Imp.nil | (apply Imp.pick; (focus ((repeat constructor); done))) | refine Imp.drop ?_))); (case hc => (repeat (first | exact Nth.here | apply Nth.there))))); (((with_reducible refine e_opN v_rv Imp.nil ?_)))
    have e2 : ((i : Int) + 1) % (Z.n : Int) = (((i + 1) % Z.n : Nat) : Int) := by norm_cast
    rw [e2]
    refine e_opN v_eql Imp.nil ?_
    rw [show decide (((Z.pr i).idle.length : Int) = 0) = decide ((Z.pr i).idle.length = 0) by simp]
    (((with_reducible refine' e_stAgg ?hp ?hn ?hv ?h1 ?_); (case hp => (repeat constructor)); (case hn => rfl); (case hv => rfl); (case h1 => simp [Value.oneCell']))); (((with_reducible refine' e_stN ?hp ?ho ?_); (case hp => (repeat constructor)); (case ho => (repeat (first | exact Put.here | apply Put.there))))); (((with_reducible refine' e_stN ?hp ?ho ?_); (case hp => (repeat constructor)); (case ho => (repeat (first | exact Put.here | apply Put.there)))))
    refine hJ _ ?_
    have hpk : pkI Z now Z.n = some k := by
      have h1 : pkI Z now (k + 1) = some k := by
        rw [pkI, hp]
        simp only
        rw [if_pos ((hav _ rfl).2 hx)]
      have := pkI_up h1 (Z.n - (k + 1))
      rwa [show k + 1 + (Z.n - (k + 1)) = Z.n by omega] at this
    refine .pick (by (repeat constructor)) (.all ?_)
    (try simp only [List.cons_append, List.nil_append, -eq_self])
    refine .ex k (.all ?_)
    (try simp only [List.cons_append, List.nil_append, -eq_self])
    rw [← hie]
    refine .pu hpk (.ex ((a, c), mb, mi) (.all ?_))
    (try simp only [List.cons_append, List.nil_append, -eq_self])
    refine .pick (by (repeat constructor)) (.pick (by (repeat constructor)) ?_)
    rw [show (took Z i).bm = updO Z.bm (tkId Z i) (some i) from rfl, mv_upd]
    refine .pick (by (repeat constructor)) (.pick (by (repeat constructor)) ?_)
    refine imp_big i hil (F := fun i => IsPr (gs i) (Z.pr i)) (fun j hj hji => by simp [took, setP, hji]) ?_
    simp only [took, setP, if_true]
    refine .ex (qa, qc) (.all ?_)
    (try simp only [List.cons_append, List.nil_append, -eq_self])
    rw [List.length_take, show min ((Z.pr i).idle.length - 1) (Z.pr i).idle.length = (Z.pr i).idle.length - 1 by omega]
    refine .pick (by (repeat constructor)) (.pick (by (repeat constructor)) (.pick (by (repeat constructor)) ?_))
    (repeat (first | exact Imp.refl | exact Imp.nil | (apply Imp.pick; (focus ((repeat constructor); done))) | refine Imp.drop ?_))
  · intro d
    refine e_all (.there .here) ?_
    (try simp only [List.cons_append, List.nil_append, -eq_self])
    refine e_all (.there (.there .here)) ?_
    (try simp only [List.cons_append, List.nil_append, -eq_self])
    refine e_pu .here fun hp => ?_
    rw [turns_len] at hp ⊢
    ((with_reducible refine e_drS ?_)); (((with_reducible refine e_stS v_rv Imp.nil ?_))); (((with_reducible refine' e_stD (v_ldN ?hc) ?hi ?_); (case hi => (repeat (first | exact Imp.refl | exact Imp.nil | (apply Imp.pick; (focus ((repeat constructor); done))) | refine Imp.drop ?_))); (case hc => (repeat (first | exact Nth.here | apply Nth.there))))); (((with_reducible refine' e_stAgg ?hp ?hn ?hv ?h1 ?_); (case hp => (repeat constructor)); (case hn => rfl); (case hv => rfl); (case h1 => simp [Value.oneCell']))); (((with_reducible refine e_obl ?hi ?_); (case hi => (repeat (first | exact Imp.refl | exact Imp.nil | (apply Imp.pick; (focus ((repeat constructor); done))) | refine Imp.drop ?_))))); (((with_reducible refine' e_stN ?hp ?ho ?_); (case hp => (repeat constructor)); (case ho => (repeat (first | exact Put.here | apply Put.there))))); (((with_reducible refine e_obl ?hi ?_); (case hi => (repeat (first | exact Imp.refl | exact Imp.nil | (apply Imp.pick; (focus ((repeat constructor); done))) | refine Imp.drop ?_))))); (((with_reducible refine' e_stN ?hp ?ho ?_); (case hp => (repeat constructor)); (case ho => (repeat (first | exact Put.here | apply Put.there)))))
    refine e_tk (by (repeat constructor)) ?_
    (((with_reducible refine' e_stS (v_resA ?hn) ?hi ?_); (case hi => (repeat (first | exact Imp.refl | exact Imp.nil | (apply Imp.pick; (focus ((repeat constructor); done))) | refine Imp.drop ?_))); (case hn => rfl))); (((with_reducible refine' e_stS (v_res1 ?hc) ?hi ?_); (case hi => (repeat (first | exact Imp.refl | exact Imp.nil | (apply Imp.pick; (focus ((repeat constructor); done))) | refine Imp.drop ?_))); (case hc => (repeat (first | exact Nth.here | apply Nth.there))))); (((with_reducible refine' e_stS (v_res1 ?hc) ?hi ?_); (case hi => (repeat (first | exact Imp.refl | exact Imp.nil | (apply Imp.pick; (focus ((repeat constructor); done))) | refine Imp.drop ?_))); (case hc => (repeat (first | exact Nth.here | apply Nth.there)))))
    have ht : takeF Z now = (⟨0, 0, false, eC Z now Z.n⟩, Z) := by unfold takeF; rw [hp.1]
    rw [ht]
    refine e_rest (M := [IsPl p gs Z]) (F := F) (by (repeat (first | exact Imp.refl | exact Imp.nil | (apply Imp.pick; (focus ((repeat constructor); done))) | refine Imp.drop ?_))) ?_
    (try simp only [List.cons_append, List.nil_append, -eq_self])
    (first | refine e_ret (()) rfl ?_ | refine e_retT (()) ?_)
    exact .refl
  · intro d
    refine e_all (.there .here) ?_
    (try simp only [List.cons_append, List.nil_append, -eq_self])
    refine e_ex .here fun k => e_all .here ?_
    (try simp only [List.cons_append, List.nil_append, -eq_self])
    refine e_pu .here fun hp => ?_
    refine e_tk (by (repeat constructor)) ?_
    (((with_reducible refine' e_stS (v_resA ?hn) ?hi ?_); (case hi => (repeat (first | exact Imp.refl | exact Imp.nil | (apply Imp.pick; (focus ((repeat constructor); done))) | refine Imp.drop ?_))); (case hn => rfl))); (((with_reducible refine' e_stS (v_res1 ?hc) ?hi ?_); (case hi => (repeat (first | exact Imp.refl | exact Imp.nil | (apply Imp.pick; (focus ((repeat constructor); done))) | refine Imp.drop ?_))); (case hc => (repeat (first | exact Nth.here | apply Nth.there))))); (((with_reducible refine' e_stS (v_res1 ?hc) ?hi ?_); (case hi => (repeat (first | exact Imp.refl | exact Imp.nil | (apply Imp.pick; (focus ((repeat constructor); done))) | refine Imp.drop ?_))); (case hc => (repeat (first | exact Nth.here | apply Nth.there)))))
    have ht : takeF Z now = (⟨(Z.pr (ord Z k)).id, tkId Z (ord Z k), decide ((Z.pr (ord Z k)).idle.length = 0), 0⟩, took Z (ord Z k)) := by unfold takeF; rw [hp]
    rw [ht]
    refine e_rest (M := [IsPl p gs (took Z (ord Z k))]) (F := F) (by (repeat (first | exact Imp.refl | exact Imp.nil | (apply Imp.pick; (focus ((repeat constructor); done))) | refine Imp.drop ?_))) ?_
    (try simp only [List.cons_append, List.nil_append, -eq_self])
    (first | refine e_ret (()) rfl ?_ | refine e_retT (()) ?_)
    exact .refl
end Go.Proofs.Ytpmcokpiplcnjaa.PL
