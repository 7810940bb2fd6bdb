/- The law BitsBack: what it does. No conditions but those that each names. -/
import Derived.Test.YtpmcokpiplcnjaaBitsBack1
import Derived.Test.YtpmcokpiplcnjaaBitsReads0
import Derived.Test.YtpmcokpiplcnjaaMore
set_option linter.unusedVariables false
set_option linter.unusedSimpArgs false
namespace Go.Proofs.Ytpmcokpiplcnjaa.B
open Go Go.Proofs Go.Proofs.Ytpmcokpiplcnjaa.Sh Go.Proofs.Ytpmcokpiplcnjaa.Sl Go.Proofs.Ytpmcokpiplcnjaa.T Go.Proofs.Ytpmcokpiplcnjaa.M Go.Proofs.Ytpmcokpiplcnjaa.K
abbrev Dn := Opn × Option Addr × Nat
def dc (x : Dn) : List Value := [.int .i64 x.1.kind, .int .i64 x.1.n, .int .i64 x.1.v, .slice x.2.1 x.1.b.length x.2.2]
theorem dc_len (x : Dn) : (dc x).length = 4 := rfl
def ops (xs : List Dn) : List Opn := xs.map fun x => x.1
structure GoodAll (W : World) (xs : List Dn) : Prop where
  ok : ∀ (j : Nat) (h : j < (ops xs).length), good (stepsL [] ((ops xs).take j)) (ops xs)[j]
  rd : ∀ x ∈ xs, (x.2.1 = none → x.1.b.length = 0) ∧ x.1.b.length ≤ 1048576 ∧ ∀ A, RdB W A x.2.1 x.1.b.length (x.1.b.map B)
theorem GoodAll.snoc {W : World} {xs : List Dn} {x : Dn} (h : GoodAll W xs) (hg : good (stepsL [] (ops xs)) x.1) (hx : (x.2.1 = none → x.1.b.length = 0) ∧ x.1.b.length ≤ 1048576 ∧ ∀ A, RdB W A x.2.1 x.1.b.length (x.1.b.map B)) : GoodAll W (xs ++ [x]) := by
  have e : ops (xs ++ [x]) = ops xs ++ [x.1] := by simp [ops]
  refine ⟨?_, fun y hy => ?_⟩
  · rw [e]
    intro j hj
    by_cases c : j < (ops xs).length
    · rw [List.take_append_of_le_length (by omega), List.getElem_append_left c]; exact h.ok j c
    · have : j = (ops xs).length := by simp at hj; omega
      subst this
      rw [List.take_left]
      simpa using hg
  · rcases List.mem_append.1 hy with c | c
    · exact h.rd y c
    · obtain rfl := List.mem_singleton.1 c; exact hx
theorem Ops.all {W : World} {a : Option Addr} {l : List Opn} (h : Ops W a l) {i : Nat} (hi : i < l.length) : ∃ g o b c, a = some ⟨g, o, none⟩ ∧ g < W.heap.size ∧ (W.cell? ⟨g, o + i * 4 + 0, none⟩ = some (.int .i64 l[i].kind) ∧ W.cell? ⟨g, o + i * 4 + 1, none⟩ = some (.int .i64 l[i].n) ∧ W.cell? ⟨g, o + i * 4 + 2, none⟩ = some (.int .i64 l[i].v) ∧ W.cell? ⟨g, o + i * 4 + 3, none⟩ = some (.slice b l[i].b.length c)) ∧ (b = none → l[i].b.length = 0) ∧ (∀ A, RdB W A b l[i].b.length (l[i].b.map B)) ∧
    ∀ {P : Program} {t : TypeId} [AggT P t 4], RunV P W [] (sLoad t (.pointer (some ⟨g, o + i * 4, none⟩))) (.agg #[.int .i64 l[i].kind, .int .i64 l[i].n, .int .i64 l[i].v, .slice b l[i].b.length c]) := by
  obtain ⟨g, o, b, c, rfl, hg, ⟨d0, d1, d2, d3⟩, h1, h2⟩ := h.fld hi
  refine ⟨g, o, b, c, rfl, hg, ⟨d0, d1, d2, d3⟩, h1, h2, ?_⟩
  intro P t ht
  refine v_ldOldA (cs := [.int .i64 l[i].kind, .int .i64 l[i].n, .int .i64 l[i].v, .slice b l[i].b.length c]) rfl hg (fun j v hv => ?_)
  match j, hv with
  | 0, hv => simp at hv; rw [← hv]; exact d0
  | 1, hv => simp at hv; rw [← hv]; exact d1
  | 2, hv => simp at hv; rw [← hv]; exact d2
  | 3, hv => simp at hv; rw [← hv]; exact d3
theorem stepsL_ops {xs : List Dn} {x : Dn} : stepsL [] (ops (xs ++ [x])) = stepO (stepsL [] (ops xs)) x.1 := by
  unfold ops; rw [List.map_append, List.map_cons, List.map_nil, stepsL_snoc]; rfl
theorem bitsBack {W : World} {a2 : Option Addr} {c2 : Nat} {l : List Opn} (hl : Ops W a2 l) (m1 : l.length ≤ 1048576) (k1 : ∀ o ∈ l, o.b.length ≤ 1048576) :
    Cn Try.prog 8 [.slice a2 l.length c2] W [] (fun _ : Unit => .bool true) (fun _ => []) := by
  (refine S.law02_BitsBack_cn fun F => ?_; unfold S.law02_BitsBack; simp only [List.cons_append, List.nil_append])
  (refine' e_call (newWriter) ?hp fun _ => ?_; (case hp => (repeat (first | exact Picks.nil | (apply Picks.cons; (focus (repeat constructor)))))); (try simp only [List.cons_append, List.nil_append, Bool.not_true, Bool.not_false]))
  rename_i p
  (((with_reducible refine e_opN v_eqNil1 Imp.nil ?_))); ((with_reducible refine e_gdT ?_))
  (refine' e_call (knows) ?hp fun _ => ?_; (case hp => (repeat (first | exact Picks.nil | (apply Picks.cons; (focus (repeat constructor)))))); (try simp only [List.cons_append, List.nil_append, Bool.not_true, Bool.not_false]))
  ((with_reducible refine e_gdT ?_)); (((with_reducible refine e_opN v_notT Imp.nil ?_))); (((with_reducible refine e_opN v_pickF Imp.nil ?_))); ((with_reducible refine e_condF ?_))
  refine e_loop2 (fun m y z => [ex fun i : Nat => ex fun xs : List Dn => ex fun q : Option Addr × Nat => all [pu (m + i = l.length ∧ z = .int .i64 (i : Int) ∧ y = .slice q.1 xs.length q.2 ∧ xs.length ≤ i ∧ GoodAll W xs), IsW p (stepsL [] (ops xs)), Sl 4 54 q.1 q.2 xs.length (xs.flatMap dc)]] ++ F) l.length ?_ ?_
  · refine Imp.ex 0 (.ex [] (.ex (none, 0) (.all ?_)))
    (try simp only [List.cons_append, List.nil_append, -eq_self])
    refine .pu ⟨by omega, rfl, rfl, Nat.le_refl _, ⟨fun j h => by simp [ops] at h, fun x hx => by cases hx⟩⟩ ?_
    exact .pick .here (imp_nil .refl)
  intro m ds y z
  (try simp only [List.cons_append, List.nil_append, -eq_self])
  refine e_ex Pick.here fun i => e_ex Pick.here fun xs => e_ex Pick.here fun q => e_all Pick.here ?_
  obtain ⟨xa, xc⟩ := q
  (try simp only [List.cons_append, List.nil_append, -eq_self])
  refine e_pu Pick.here fun hi => ?_
  obtain ⟨hmi, rfl, rfl, hxi, hgd⟩ := hi
  (try dsimp only)
  (((with_reducible refine e_opN v_len Imp.nil ?_)))
  (refine e_ask v_lss Imp.nil (fun h => ?_) (fun h => ?_))
  · have hil : i < l.length := by omega
    obtain ⟨go, oo, bo, co, rfl, hg, ⟨d0, d1, d2, d3⟩, hbn, hbr, hld⟩ := hl.all hil
    have hbl := k1 l[i] (List.getElem_mem hil)
    obtain ⟨L, hL⟩ : ∃ L, L = stepsL [] (ops xs) := ⟨_, rfl⟩
    rw [← hL]
    ((with_reducible refine e_condT ?_))
    refine e_cut1 (fun z => (ex fun ok : Bool => all [pu (z = .bool ok ∧ (ok = true → good L l[i])), IsW p (if ok = true then stepO L l[i] else L)]) :: Sl 4 54 xa xc xs.length (xs.flatMap dc) :: F) ?_ ?_
    · intro ds z
      refine e_ex Pick.here fun ok => e_all Pick.here ?_
      (try simp only [List.cons_append, List.nil_append, -eq_self])
      refine e_pu Pick.here fun hz => ?_
      obtain ⟨rfl, hgo⟩ := hz
      cases ok with
      | true =>
        rw [if_pos rfl]
        refine e_condT ?_
        refine e_opN (v_ia i (by rfl) hil) Imp.nil ?_
        refine e_opN hld Imp.nil ?_
        refine e_bslS (s := 4) (vs := [.agg #[.int .i64 l[i].kind, .int .i64 l[i].n, .int .i64 l[i].v, .slice bo l[i].b.length co]]) rfl (by omega) rfl (by intro v hv; simp at hv; subst hv; rfl) (by omega) fun g => ?_
        refine e_app (m := 1) (news := dc (l[i], bo, co)) (.there (.there .here)) (src_pt (s := 4) (e' := 54) (by kernel_rfl) .here (by rfl) (by intro u hu; simp [Value.cells] at hu; rcases hu with rfl | rfl | rfl | rfl <;> rfl)) (by omega) (by omega) fun a' c' => ?_
        (((with_reducible refine e_opN (v_add ?h1 ?h2) Imp.nil ?_); (case h1 => omega); (case h2 => omega)))
        refine e_next2 (m - 1) (by omega) (.ex (i + 1) (.ex (xs ++ [(l[i], bo, co)]) (.ex (a', c') (.all ?_))))
        (try simp only [List.cons_append, List.nil_append, -eq_self])
        refine .pu ⟨by omega, by norm_cast, by simp, by simp; omega, hgd.snoc (by rw [← hL]; exact hgo rfl) ⟨hbn, hbl, hbr⟩⟩ ?_
        rw [stepsL_ops, ← hL, List.flatMap_append, List.flatMap_singleton, List.length_append, List.length_singleton]
        (repeat (first | exact Imp.refl | exact Imp.nil | (apply Imp.pick; (focus ((repeat constructor); done))) | refine Imp.drop ?_))
      | false =>
        rw [if_neg (by simp)]
        ((with_reducible refine e_condF ?_)); (((with_reducible refine e_opN (v_add ?h1 ?h2) Imp.nil ?_); (case h1 => omega); (case h2 => omega)))
        refine e_next2 (m - 1) (by omega) (.ex (i + 1) (.ex xs (.ex (xa, xc) (.all ?_))))
        (try simp only [List.cons_append, List.nil_append, -eq_self])
        refine .pu ⟨by omega, by norm_cast, rfl, by omega, hgd⟩ ?_
        rw [← hL]
        (repeat (first | exact Imp.refl | exact Imp.nil | (apply Imp.pick; (focus ((repeat constructor); done))) | refine Imp.drop ?_))
    · refine e_opN (v_ia i (by rfl) hil) Imp.nil ?_
      (((with_reducible refine e_opN v_fa Imp.nil ?_)))
      refine e_opN (v_ldOld hg d0) Imp.nil ?_
      (refine e_ask v_eql Imp.nil (fun h => ?_) (fun h => ?_))
      · refine e_condT ?_
        ((with_reducible refine e_drS ?_))
        refine e_stS (v_ia i (by rfl) hil) Imp.nil ?_
        (((with_reducible refine e_stS v_fa Imp.nil ?_)))
        refine e_stS (v_ldOld hg d2) Imp.nil ?_
        refine e_stS (v_ia i (by rfl) hil) Imp.nil ?_
        (((with_reducible refine e_stS v_fa Imp.nil ?_)))
        refine e_stS (v_ldOld hg d1) Imp.nil ?_
        (refine' e_call (put) ?hp fun _ => ?_; (case hp => (repeat (first | exact Picks.nil | (apply Picks.cons; (focus (repeat constructor)))))); (try simp only [List.cons_append, List.nil_append, Bool.not_true, Bool.not_false]))
        (refine' e_call (num) ?hp fun _ => ?_; (case hp => (repeat (first | exact Picks.nil | (apply Picks.cons; (focus (repeat constructor)))))); (try simp only [List.cons_append, List.nil_append, Bool.not_true, Bool.not_false]))
        refine e_stS v_eql Imp.nil ?_
        refine e_sat (.ex (decide (putR L l[i].v l[i].n = 0)) (.all ?_))
        (try simp only [List.cons_append, List.nil_append, -eq_self])
        refine .pu ⟨rfl, fun c => by unfold good; rw [if_pos h]; exact of_decide_eq_true c⟩ ?_
        rw [show (if decide (putR L l[i].v l[i].n = 0) = true then stepO L l[i] else L) = putL L l[i].v l[i].n by
          unfold stepO stepL; rw [if_pos h]; unfold putL; by_cases c : putR L l[i].v l[i].n = 0 <;> simp [c]]
        (repeat (first | exact Imp.refl | exact Imp.nil | (apply Imp.pick; (focus ((repeat constructor); done))) | refine Imp.drop ?_))
      have h1 := h
      ((with_reducible refine e_condF ?_))
      (refine e_ask v_eql Imp.nil (fun h => ?_) (fun h => ?_))
      · ((with_reducible refine e_condT ?_))
        (refine' e_call (align) ?hp fun _ => ?_; (case hp => (repeat (first | exact Picks.nil | (apply Picks.cons; (focus (repeat constructor)))))); (try simp only [List.cons_append, List.nil_append, Bool.not_true, Bool.not_false]))
        refine e_sat (.ex true (.all ?_))
        (try simp only [List.cons_append, List.nil_append, -eq_self])
        refine .pu ⟨rfl, fun c => by unfold good; rw [if_neg h1, if_pos h]; trivial⟩ ?_
        rw [if_pos rfl, show stepO L l[i] = padTo8 L by unfold stepO stepL; rw [if_neg h1, if_pos h]]
        (repeat (first | exact Imp.refl | exact Imp.nil | (apply Imp.pick; (focus ((repeat constructor); done))) | refine Imp.drop ?_))
      have h2 := h
      refine e_condF ?_
      refine e_bslN (vs := []) rfl rfl (by simp) (by omega) fun g0 => ?_
      refine e_own (s := 1) (n := 0) .here (by rfl) (by unfold maxLen; omega) ?_
      refine e_opN (v_ia i (by rfl) hil) Imp.nil ?_
      (((with_reducible refine e_opN v_fa Imp.nil ?_)))
      refine e_opN (v_ldOld hg d3) Imp.nil ?_
      refine e_imp (M := pu True :: _) (.pu trivial .refl) ?_
      refine e_app (m := l[i].b.length) (news := l[i].b.map B) (.there .here) (src_rd (e' := 5) (by kernel_rfl) .here (hbr (pu True)) hbn B_one) (by omega) (by omega) fun a' c' => ?_
      rw [Nat.zero_add, List.nil_append]
      refine e_slfacts .here fun f1 f2 f3 f4 => ?_
      (refine' e_call (raw (rd_sl (cs := l[i].b.map B) (by simp) f4) (pk_none f4) (by omega)) ?hp fun _ => ?_; (case hp => (repeat (first | exact Picks.nil | (apply Picks.cons; (focus (repeat constructor)))))); (try simp only [List.cons_append, List.nil_append, Bool.not_true, Bool.not_false]))
      (refine' e_call (num) ?hp fun _ => ?_; (case hp => (repeat (first | exact Picks.nil | (apply Picks.cons; (focus (repeat constructor)))))); (try simp only [List.cons_append, List.nil_append, Bool.not_true, Bool.not_false]))
      refine e_opN v_eql Imp.nil ?_
      refine e_sat (.ex (decide (rawR L l[i].b = 0)) (.all ?_))
      (try simp only [List.cons_append, List.nil_append, -eq_self])
      refine .pu ⟨rfl, fun c => by unfold good; rw [if_neg h1, if_neg h2]; exact of_decide_eq_true c⟩ ?_
      rw [show (if decide (rawR L l[i].b = 0) = true then stepO L l[i] else L) = rawL L l[i].b by
        unfold stepO stepL; rw [if_neg h1, if_neg h2]; unfold rawL; by_cases c : rawR L l[i].b = 0 <;> simp [c]]
      (repeat (first | exact Imp.refl | exact Imp.nil | (apply Imp.pick; (focus ((repeat constructor); done))) | refine Imp.drop ?_))
  · ((with_reducible refine e_condF ?_))
    obtain ⟨L, hL⟩ : ∃ L, L = stepsL [] (ops xs) := ⟨_, rfl⟩
    rw [← hL]
    (refine' e_call (bytes) ?hp fun _ => ?_; (case hp => (repeat (first | exact Picks.nil | (apply Picks.cons; (focus (repeat constructor)))))); (try simp only [List.cons_append, List.nil_append, Bool.not_true, Bool.not_false]))
    rename_i q1
    obtain ⟨qa, qc⟩ := q1
    (try dsimp only)
    refine e_ex (.there .here) fun q => ?_
    obtain ⟨wa, wc⟩ := q
    refine e_all Pick.here ?_
    (try simp only [List.cons_append, List.nil_append, -eq_self])
    refine e_pu (.there (.there .here)) fun hLm => ?_
    refine e_imp (M := Sl 1 5 qa qc (pk L).length ((pk L).map B) :: IsW p L :: Sl 4 54 xa xc xs.length (xs.flatMap dc) :: F) ?_ ?_
    · refine .pick (by (repeat constructor)) (.ex (wa, wc) (.all ?_))
      (try simp only [List.cons_append, List.nil_append, -eq_self])
      exact .pick (by (repeat constructor)) (.pick (by (repeat constructor)) (.pu hLm (.pick (by (repeat constructor)) .refl)))
    have hpk := length_pk L
    refine e_slfacts .here fun f1 f2 f3 f4 => ?_
    (refine' e_call (newReader (rd_sl (cs := (pk L).map B) (by simp) f4) (pk_none f4) (by omega)) ?hp fun _ => ?_; (case hp => (repeat (first | exact Picks.nil | (apply Picks.cons; (focus (repeat constructor)))))); (try simp only [List.cons_append, List.nil_append, Bool.not_true, Bool.not_false]))
    rename_i r
    (((with_reducible refine e_opN v_eqNil1 Imp.nil ?_))); ((with_reducible refine e_gdT ?_)); ((with_reducible refine e_gdT ?_))
    (refine' e_call (left) ?hp fun _ => ?_; (case hp => (repeat (first | exact Picks.nil | (apply Picks.cons; (focus (repeat constructor)))))); (try simp only [List.cons_append, List.nil_append, Bool.not_true, Bool.not_false]))
    ((with_reducible refine e_gdT ?_)); ((with_reducible refine e_gdT ?_))
    (refine' e_call (bits) ?hp fun _ => ?_; (case hp => (repeat (first | exact Picks.nil | (apply Picks.cons; (focus (repeat constructor)))))); (try simp only [List.cons_append, List.nil_append, Bool.not_true, Bool.not_false]))
    ((with_reducible refine e_gdT ?_))
    refine e_opN v_lss Imp.nil ?_
    rw [decide_eq_false (by omega)]
    (((with_reducible refine e_opN v_pickF Imp.nil ?_))); ((with_reducible refine e_gdT ?_)); ((with_reducible refine e_gdT ?_))
    (refine' e_call (left) ?hp fun _ => ?_; (case hp => (repeat (first | exact Picks.nil | (apply Picks.cons; (focus (repeat constructor)))))); (try simp only [List.cons_append, List.nil_append, Bool.not_true, Bool.not_false]))
    ((with_reducible refine e_gdT ?_)); ((with_reducible refine e_gdT ?_))
    (refine' e_call (bits) ?hp fun _ => ?_; (case hp => (repeat (first | exact Picks.nil | (apply Picks.cons; (focus (repeat constructor)))))); (try simp only [List.cons_append, List.nil_append, Bool.not_true, Bool.not_false]))
    ((with_reducible refine e_gdT ?_)); (((with_reducible refine e_opN (v_sub ?h1 ?h2) Imp.nil ?_); (case h1 => omega); (case h2 => omega))); ((with_reducible refine e_gdT ?_))
    refine e_opN v_gtr Imp.nil ?_
    rw [decide_eq_false (by omega)]
    (((with_reducible refine e_opN v_pickF Imp.nil ?_))); ((with_reducible refine e_condF ?_))
    refine e_loop1 (fun m y => [ex fun j : Nat => all [pu (m + j = xs.length ∧ y = .int .i64 (j : Int)), IsR r (pk L) (stepsL [] ((ops xs).take j)).length, Sl 4 54 xa xc xs.length (xs.flatMap dc)]] ++ F) xs.length ?_ ?_
    · refine Imp.ex 0 (.all ?_)
      (try simp only [List.cons_append, List.nil_append, -eq_self])
      exact .pu ⟨by omega, rfl⟩ (.pick (by (repeat constructor)) (.pick (by (repeat constructor)) (by (repeat (first | exact Imp.refl | exact Imp.nil | (apply Imp.pick; (focus ((repeat constructor); done))) | refine Imp.drop ?_)))))
    intro m2 ds y
    (try simp only [List.cons_append, List.nil_append, -eq_self])
    refine e_ex Pick.here fun j => e_all Pick.here ?_
    (try simp only [List.cons_append, List.nil_append, -eq_self])
    refine e_pu Pick.here fun hj => ?_
    obtain ⟨hmj, rfl⟩ := hj
    have hol : (ops xs).length = xs.length := by simp [ops]
    (((with_reducible refine e_opN v_len Imp.nil ?_)))
    (refine e_ask v_lss Imp.nil (fun h => ?_) (fun h => ?_))
    · have hjl : j < xs.length := by omega
      have hjo : j < (ops xs).length := by omega
      have hoe : (ops xs)[j] = xs[j].1 := by simp [ops]
      have hgj := hgd.ok j hjo
      obtain ⟨r1, r2, r3⟩ := hgd.rd xs[j] (List.getElem_mem hjl)
      have cell : ∀ k v, k < 4 → (dc xs[j])[k]? = some v → (xs.flatMap dc)[0 + j * 4 + k]? = some v := fun k v hk hv => by
        rw [Nat.zero_add, flat_get dc_len xs j k hjl hk]; exact hv
      refine e_slsome (.there .here) (by omega) fun g hg => ?_
      subst hg
      ((with_reducible refine e_condT ?_))
      refine e_opN (v_ia j (by rfl) hjl) Imp.nil ?_
      (((with_reducible refine e_opN v_fa Imp.nil ?_)))
      refine e_opN (v_ldSl (cell 0 _ (by omega) rfl)) (.pick (.there .here) .nil) ?_
      (refine e_ask v_eql Imp.nil (fun h => ?_) (fun h => ?_))
      · obtain ⟨t1, t2, t3⟩ := back_put hjo hgj (by rw [hoe]; exact h)
        rw [← hL, hoe] at t1 t2 t3
        refine e_condT ?_
        refine e_opN (v_ia j (by rfl) hjl) Imp.nil ?_
        (((with_reducible refine e_opN v_fa Imp.nil ?_)))
        refine e_opN (v_ldSl (cell 1 _ (by omega) rfl)) (.pick (.there .here) .nil) ?_
        (refine' e_call (take) ?hp fun _ => ?_; (case hp => (repeat (first | exact Picks.nil | (apply Picks.cons; (focus (repeat constructor)))))); (try simp only [List.cons_append, List.nil_append, Bool.not_true, Bool.not_false]))
        rw [t1, t2, t3]
        (((with_reducible refine' e_opN (v_ext ?h1) Imp.nil ?_); (case h1 => rfl))); (((with_reducible refine' e_opN (v_ext ?h1) Imp.nil ?_); (case h1 => rfl)))
        (refine' e_call (num) ?hp fun _ => ?_; (case hp => (repeat (first | exact Picks.nil | (apply Picks.cons; (focus (repeat constructor)))))); (try simp only [List.cons_append, List.nil_append, Bool.not_true, Bool.not_false]))
        refine e_opN v_neq Imp.nil ?_
        rw [decide_eq_false (by simp)]
        ((with_reducible refine e_gdT ?_)); ((with_reducible refine e_gdT ?_)); ((with_reducible refine e_gdT ?_)); ((with_reducible refine e_gdT ?_))
        refine e_opN (v_ia j (by rfl) hjl) Imp.nil ?_
        ((with_reducible refine e_gdT ?_)); (((with_reducible refine e_opN v_fa Imp.nil ?_))); ((with_reducible refine e_gdT ?_))
        refine e_opN (v_ldSl (cell 2 _ (by omega) rfl)) (.pick (.there .here) .nil) ?_
        ((with_reducible refine e_gdT ?_))
        refine e_opN v_neq Imp.nil ?_
        rw [decide_eq_false (by simp)]
        (((with_reducible refine e_opN v_pickF Imp.nil ?_))); ((with_reducible refine e_condF ?_)); (((with_reducible refine e_opN (v_add ?h1 ?h2) Imp.nil ?_); (case h1 => omega); (case h2 => omega)))
        refine e_next1 (m2 - 1) (by omega) (.ex (j + 1) (.all ?_))
        (try simp only [List.cons_append, List.nil_append, -eq_self])
        refine .pu ⟨by omega, by norm_cast⟩ ?_
        (repeat (first | exact Imp.refl | exact Imp.nil | (apply Imp.pick; (focus ((repeat constructor); done))) | refine Imp.drop ?_))
      have h1 := h
      refine e_condF ?_
      (refine e_ask v_eql Imp.nil (fun h => ?_) (fun h => ?_))
      · have t3 := back_align (os := ops xs) hjo (by rw [hoe]; exact h)
        ((with_reducible refine e_condT ?_))
        (refine' e_call (ralign) ?hp fun _ => ?_; (case hp => (repeat (first | exact Picks.nil | (apply Picks.cons; (focus (repeat constructor)))))); (try simp only [List.cons_append, List.nil_append, Bool.not_true, Bool.not_false]))
        rw [t3]
        (((with_reducible refine e_opN (v_add ?h1 ?h2) Imp.nil ?_); (case h1 => omega); (case h2 => omega)))
        refine e_next1 (m2 - 1) (by omega) (.ex (j + 1) (.all ?_))
        (try simp only [List.cons_append, List.nil_append, -eq_self])
        refine .pu ⟨by omega, by norm_cast⟩ ?_
        (repeat (first | exact Imp.refl | exact Imp.nil | (apply Imp.pick; (focus ((repeat constructor); done))) | refine Imp.drop ?_))
      have h2 := h
      obtain ⟨t1, t2, t3⟩ := back_raw hjo hgj (by rw [hoe]; exact h1) (by rw [hoe]; exact h2)
      rw [← hL, hoe] at t1 t2 t3
      refine e_condF ?_
      refine e_opN (v_ia j (by rfl) hjl) Imp.nil ?_
      (((with_reducible refine e_opN v_fa Imp.nil ?_)))
      refine e_opN (v_ldSl (cell 3 _ (by omega) rfl)) (.pick (.there .here) .nil) ?_
      (((with_reducible refine e_opN v_len Imp.nil ?_)))
      (refine' e_call (rraw) ?hp fun _ => ?_; (case hp => (repeat (first | exact Picks.nil | (apply Picks.cons; (focus (repeat constructor)))))); (try simp only [List.cons_append, List.nil_append, Bool.not_true, Bool.not_false]))
      rename_i u
      obtain ⟨ua, uc⟩ := u
      rw [t1, t2, t3]
      (((with_reducible refine' e_opN (v_ext ?h1) Imp.nil ?_); (case h1 => rfl))); (((with_reducible refine' e_opN (v_ext ?h1) Imp.nil ?_); (case h1 => rfl))); ((with_reducible refine e_drS ?_))
      (try dsimp only)
      (refine' e_call (num) ?hp fun _ => ?_; (case hp => (repeat (first | exact Picks.nil | (apply Picks.cons; (focus (repeat constructor)))))); (try simp only [List.cons_append, List.nil_append, Bool.not_true, Bool.not_false]))
      refine e_stS v_neq Imp.nil ?_
      rw [decide_eq_false (by simp)]
      ((with_reducible refine e_gdT ?_)); ((with_reducible refine e_gdT ?_))
      refine e_slfacts .here fun g1 g2 g3 g4 => ?_
      refine e_stS (v_str (l := xs[j].1.b) (rd_sl (by simp) g4) (pk_none g4)) (.pick .here .nil) ?_
      ((with_reducible refine e_gdT ?_)); ((with_reducible refine e_gdT ?_)); ((with_reducible refine e_gdT ?_))
      refine e_stS (v_ia j (by rfl) hjl) Imp.nil ?_
      ((with_reducible refine e_gdT ?_)); (((with_reducible refine e_stS v_fa Imp.nil ?_))); ((with_reducible refine e_gdT ?_))
      refine e_stS (v_ldSl (cell 3 _ (by omega) rfl)) (.pick (.there (.there .here)) .nil) ?_
      refine e_imp (M := pu True :: _) (.pu trivial .refl) ?_
      ((with_reducible refine e_gdT ?_))
      refine e_stS (v_str (l := xs[j].1.b) (r3 (pu True)) r1) (.pick .here .nil) ?_
      ((with_reducible refine e_gdT ?_))
      refine e_stS v_strne Imp.nil ?_
      rw [decide_eq_false (by simp)]
      (((with_reducible refine e_stS v_pickF Imp.nil ?_))); ((with_reducible refine e_condF ?_)); (((with_reducible refine e_opN (v_add ?h1 ?h2) Imp.nil ?_); (case h1 => omega); (case h2 => omega)))
      refine e_next1 (m2 - 1) (by omega) (.ex (j + 1) (.all ?_))
      (try simp only [List.cons_append, List.nil_append, -eq_self])
      refine .pu ⟨by omega, by norm_cast⟩ ?_
      (repeat (first | exact Imp.refl | exact Imp.nil | (apply Imp.pick; (focus ((repeat constructor); done))) | refine Imp.drop ?_))
    · have : j = xs.length := by omega
      subst this
      rw [show (ops xs).take xs.length = ops xs by rw [← hol, List.take_length], ← hL]
      ((with_reducible refine e_condF ?_))
      (refine' e_call (left) ?hp fun _ => ?_; (case hp => (repeat (first | exact Picks.nil | (apply Picks.cons; (focus (repeat constructor)))))); (try simp only [List.cons_append, List.nil_append, Bool.not_true, Bool.not_false]))
      refine e_opN v_lss Imp.nil ?_
      rw [decide_eq_true (by omega)]
      (first | refine e_ret (()) rfl ?_ | refine e_retT (()) ?_)
      (repeat (first | exact Imp.refl | exact Imp.nil | (apply Imp.pick; (focus ((repeat constructor); done))) | refine Imp.drop ?_))
end Go.Proofs.Ytpmcokpiplcnjaa.B
