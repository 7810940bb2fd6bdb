/- The document's names, digits, clock: what they compute. No conditions but those that each names. -/
import Derived.Test.YtcmpkkkigmheoaaDateR2
set_option linter.unusedVariables false
set_option linter.unusedSimpArgs false
namespace Go.Proofs.Ytcmpkkkigmheoaa.D
open Go Go.Proofs Go.RowKit Go.Proofs.Ytcmpkkkigmheoaa.Sh Go.Proofs.Ytcmpkkkigmheoaa.Sl Go.Proofs.Ytcmpkkkigmheoaa.T
theorem dgz (q : Nat) (p : Prop) [Decidable p] : (if q = 0 ∧ p then (48 : UInt8) else UInt8.ofNat (48 + q % 10)) = UInt8.ofNat (48 + q % 10) := by
  split
  · rename_i h; rw [h.1]; rfl
  · rfl
theorem dg2 (n : Nat) : dg n 2 48 = [UInt8.ofNat (48 + n / 10 % 10), UInt8.ofNat (48 + n % 10)] := by
  have e : dg n 2 48 = [dgAt n 2 48 0, dgAt n 2 48 1] := rfl
  rw [e]
  unfold dgAt
  rw [dgz, dgz]
  simp
theorem dg22 (n : Nat) : dg (n / 100) 2 48 ++ dg n 2 48 = dg n 4 48 := by
  rw [dg2, dg2, dg4]
  rw [show n / 100 / 10 = n / 1000 by omega]
  rfl
theorem dg2m (n : Nat) : dg (n % 100) 2 48 = dg n 2 48 := by
  rw [dg2, dg2, show n % 100 / 10 % 10 = n / 10 % 10 by omega, show n % 100 % 10 = n % 10 by omega]
theorem dg2s : ∀ n : Fin 100, dg n.1 2 32 = if n.1 < 10 then 32 :: (dg n.1 2 48).drop 1 else dg n.1 2 48 := by decide
theorem rtwo {W : World} {n : Int} (hn : 0 ≤ n ∧ n ≤ 9223372036854775807) : Cn Try.prog 37 [.int .i64 n] W [] (fun _ : Unit => txt (dg n.toNat 2 48)) (fun _ => []) := by
  obtain ⟨k, rfl⟩ := Int.eq_ofNat_of_zero_le hn.1
  have vB : ∀ q : Nat, Value.int .u8 (IntKind.u8.wrap (48 + ((q % 10 : Nat) : Int))) = Sl.B (UInt8.ofNat (48 + q % 10)) := fun q => by
    unfold Sl.B
    rw [u8_of _ (by omega), show (48 : Int) + ((q % 10 : Nat) : Int) = ((48 + q % 10 : Nat) : Int) by omega]
    congr 1
    simp only [IntKind.wrap, IntKind.bits, IntKind.signed]
    simp
    omega
  (refine S.ref09_two_cn fun F => ?_; unfold S.ref09_two; simp only [List.cons_append, List.nil_append])
  (((with_reducible refine e_opN (v_quo ?h1 ?h2 ?h3) Imp.nil ?_); (case h1 => omega); (case h2 => omega); (case h3 => omega))); (((with_reducible refine e_opN (v_rem ?h1 ?h2) Imp.nil ?_); (case h1 => omega); (case h2 => omega))); (((with_reducible refine e_opN (v_add ?h1 ?h2) Imp.nil ?_); (case h1 => omega); (case h2 => omega)))
  rw [show ((k : Int) / 10 % 10) = ((k / 10 % 10 : Nat) : Int) by omega]
  refine e_opN v_conv Imp.nil ?_
  rw [vB]
  (((with_reducible refine e_opN (v_rem ?h1 ?h2) Imp.nil ?_); (case h1 => omega); (case h2 => omega))); (((with_reducible refine e_opN (v_add ?h1 ?h2) Imp.nil ?_); (case h1 => omega); (case h2 => omega)))
  rw [show ((k : Int) % 10) = ((k % 10 : Nat) : Int) by omega]
  refine e_opN v_conv Imp.nil ?_
  rw [vB]
  refine e_bslN (vs := (dg k 2 48).map Sl.B) (by rw [dg2]; rfl) (by rw [dg2]; rfl) (by intro v hv; obtain ⟨c, _, rfl⟩ := List.mem_map.1 hv; rfl) (by omega) fun g => ?_
  refine e_opN (v_str (l := dg k 2 48) (n := 2) (rd_pt (by rw [dg2]; rfl)) (fun c => by cases c)) (.pick (by (repeat constructor)) .nil) ?_
  (first | refine e_ret (()) rfl ?_ | refine e_retT (()) ?_)
  (repeat (first | exact Imp.refl | exact Imp.nil | (apply Imp.pick; (focus ((repeat constructor); done))) | refine Imp.drop ?_))
theorem rclk {W : World} {x : Dt} (ok : okX x) : Cn Try.prog 38 [.agg (dtA x)] W [] (fun _ : Unit => txt (clk x)) (fun _ => []) := by
  obtain ⟨o1, o2, o3, o4, o5, o6, o7⟩ := ok
  (refine S.ref09_clock_cn fun F => ?_; unfold S.ref09_clock; simp only [List.cons_append, List.nil_append])
  rw [show (Value.agg (dtA x)) = .agg #[.int .i64 x.y, .int .i64 x.m, .int .i64 x.d, .int .i64 x.h, .int .i64 x.mi, .int .i64 x.s, .int .i64 x.w] from rfl]
  (((with_reducible refine e_boxA fun g => ?_))); ((with_reducible refine e_drS ?_)); (((with_reducible refine e_stS v_fa0 Imp.nil ?_))); (((with_reducible refine' e_stS (v_ldN ?hc) ?hi ?_); (case hi => (repeat (first | exact Imp.refl | exact Imp.nil | (apply Imp.pick; (focus ((repeat constructor); done))) | refine Imp.drop ?_))); (case hc => (repeat (first | exact Nth.here | apply Nth.there))))); (((with_reducible refine e_stD v_fa0 Imp.nil ?_))); (((with_reducible refine' e_stD (v_ldN ?hc) ?hi ?_); (case hi => (repeat (first | exact Imp.refl | exact Imp.nil | (apply Imp.pick; (focus ((repeat constructor); done))) | refine Imp.drop ?_))); (case hc => (repeat (first | exact Nth.here | apply Nth.there))))); (((with_reducible refine e_stD v_fa0 Imp.nil ?_))); (((with_reducible refine' e_stD (v_ldN ?hc) ?hi ?_); (case hi => (repeat (first | exact Imp.refl | exact Imp.nil | (apply Imp.pick; (focus ((repeat constructor); done))) | refine Imp.drop ?_))); (case hc => (repeat (first | exact Nth.here | apply Nth.there)))))
  (refine' e_call (rtwo (n := x.h) (by omega)) ?hp fun _ => ?_; (case hp => (repeat (first | exact Picks.nil | (apply Picks.cons; (focus (repeat constructor)))))); (try simp only [List.cons_append, List.nil_append, Bool.not_true, Bool.not_false]))
  (((with_reducible refine e_obl ?hi ?_); (case hi => (repeat (first | exact Imp.refl | exact Imp.nil | (apply Imp.pick; (focus ((repeat constructor); done))) | refine Imp.drop ?_))))); (((with_reducible refine e_obl ?hi ?_); (case hi => (repeat (first | exact Imp.refl | exact Imp.nil | (apply Imp.pick; (focus ((repeat constructor); done))) | refine Imp.drop ?_))))); (((with_reducible refine e_obl ?hi ?_); (case hi => (repeat (first | exact Imp.refl | exact Imp.nil | (apply Imp.pick; (focus ((repeat constructor); done))) | refine Imp.drop ?_))))); (((with_reducible refine e_obl ?hi ?_); (case hi => (repeat (first | exact Imp.refl | exact Imp.nil | (apply Imp.pick; (focus ((repeat constructor); done))) | refine Imp.drop ?_)))))
  refine e_stD (v_cat (by simp only [List.length_append, List.length_take, dg_len, clk_len, List.length_cons, List.length_nil]; omega)) Imp.nil ?_
  (refine' e_call (rtwo (n := x.mi) (by omega)) ?hp fun _ => ?_; (case hp => (repeat (first | exact Picks.nil | (apply Picks.cons; (focus (repeat constructor)))))); (try simp only [List.cons_append, List.nil_append, Bool.not_true, Bool.not_false]))
  (((with_reducible refine e_obl ?hi ?_); (case hi => (repeat (first | exact Imp.refl | exact Imp.nil | (apply Imp.pick; (focus ((repeat constructor); done))) | refine Imp.drop ?_))))); (((with_reducible refine e_obl ?hi ?_); (case hi => (repeat (first | exact Imp.refl | exact Imp.nil | (apply Imp.pick; (focus ((repeat constructor); done))) | refine Imp.drop ?_))))); (((with_reducible refine e_obl ?hi ?_); (case hi => (repeat (first | exact Imp.refl | exact Imp.nil | (apply Imp.pick; (focus ((repeat constructor); done))) | refine Imp.drop ?_)))))
  refine e_stD (v_cat (by simp only [List.length_append, List.length_take, dg_len, clk_len, List.length_cons, List.length_nil]; omega)) Imp.nil ?_
  refine e_stD (v_cat (by simp only [List.length_append, List.length_take, dg_len, clk_len, List.length_cons, List.length_nil]; omega)) Imp.nil ?_
  (refine' e_call (rtwo (n := x.s) (by omega)) ?hp fun _ => ?_; (case hp => (repeat (first | exact Picks.nil | (apply Picks.cons; (focus (repeat constructor)))))); (try simp only [List.cons_append, List.nil_append, Bool.not_true, Bool.not_false]))
  (((with_reducible refine e_obl ?hi ?_); (case hi => (repeat (first | exact Imp.refl | exact Imp.nil | (apply Imp.pick; (focus ((repeat constructor); done))) | refine Imp.drop ?_))))); (((with_reducible refine e_obl ?hi ?_); (case hi => (repeat (first | exact Imp.refl | exact Imp.nil | (apply Imp.pick; (focus ((repeat constructor); done))) | refine Imp.drop ?_))))); (((with_reducible refine e_obl ?hi ?_); (case hi => (repeat (first | exact Imp.refl | exact Imp.nil | (apply Imp.pick; (focus ((repeat constructor); done))) | refine Imp.drop ?_)))))
  refine e_stS (v_cat (by simp only [List.length_append, List.length_take, dg_len, clk_len, List.length_cons, List.length_nil]; omega)) Imp.nil ?_
  (first | refine e_ret (()) rfl ?_ | refine e_retT (()) ?_)
  (repeat (first | exact Imp.refl | exact Imp.nil | (apply Imp.pick; (focus ((repeat constructor); done))) | refine Imp.drop ?_))
def shL : List (List UInt8) := wdL.map fun w => w.take 3
theorem sh_get {i : Nat} (h : i < 7) : (shL.map txt)[i]? = some (txt ((wdL.getD i []).take 3)) := by
  have : ∀ i : Fin 7, (shL.map txt)[i.1]? = some (txt ((wdL.getD i.1 []).take 3)) := by
    intro i
    have hl : i.1 < wdL.length := i.2
    simp [shL, List.getD_eq_getElem?_getD, hl]
  exact this ⟨i, h⟩
theorem l_get {l : List (List UInt8)} {i : Nat} (h : i < l.length) : (l.map txt)[i]? = some (txt (l.getD i [])) := by
  simp [List.getD_eq_getElem?_getD, h]
theorem txt_cells {l : List (List UInt8)} : ∀ v ∈ l.map txt, v.cells = #[v] := by
  intro v hv; obtain ⟨c, _, rfl⟩ := List.mem_map.1 hv; rfl
theorem names {W : World} : Cn Try.prog 36 [] W [] (fun q : Nat × Nat × Nat × Nat => .tuple #[.slice (some ⟨q.1, 0, none⟩) 7 q.2.1, .slice (some ⟨q.2.2.1, 0, none⟩) 7 7, .slice (some ⟨q.2.2.2, 0, none⟩) 12 12])
    (fun q => [Sl 1 9 (some ⟨q.1, 0, none⟩) q.2.1 7 (shL.map txt), pt q.2.2.1 (.cells (wdL.map txt).toArray 9), pt q.2.2.2 (.cells (moL.map txt).toArray 9)]) := by
  (refine S.ref09_names_cn fun F => ?_; unfold S.ref09_names; simp only [List.cons_append, List.nil_append])
  refine e_bslN (vs := wdL.map txt) rfl rfl txt_cells (by omega) fun gl => ?_
  refine e_nil (s := 1) (e := 9) ?_
  refine e_loop2 (fun m y4 y5 => (ex fun st : Nat × Option Addr × Nat => all [pu (m + st.1 = 7 ∧ y4 = .slice st.2.1 st.1 st.2.2 ∧ y5 = .int .i64 (st.1 : Int)), Sl 1 9 st.2.1 st.2.2 st.1 ((shL.take st.1).map txt)]) :: pt gl (.cells (wdL.map txt).toArray 9) :: F) 7 ?_ ?_
  · refine .ex (0, none, 0) (.all ?_)
    (try simp only [List.cons_append, List.nil_append, -eq_self])
    refine .pu ⟨by omega, rfl, rfl⟩ ?_
    (repeat (first | exact Imp.refl | exact Imp.nil | (apply Imp.pick; (focus ((repeat constructor); done))) | refine Imp.drop ?_))
  intro m ds y4 y5
  (try simp only [List.cons_append, List.nil_append, -eq_self])
  refine e_ex Pick.here fun st => e_all Pick.here ?_
  obtain ⟨i, a, c⟩ := st
  (try simp only [List.cons_append, List.nil_append, -eq_self])
  refine e_pu Pick.here fun hi => ?_
  (try dsimp only at hi)
  obtain ⟨hmi, rfl, rfl⟩ := hi
  (try dsimp only)
  refine e_ask v_lss Imp.nil (fun h => ?_) (fun h => ?_)
  · ((with_reducible refine e_condT ?_))
    refine e_opN (v_ia1 i (by rfl) (by omega)) Imp.nil ?_
    refine e_opN (v_ldRd (j := i) (rd_pt (n := 7) (by rfl)) (l_get (l := wdL) (by show _ < 7; omega))) (.pick (by (repeat constructor)) .nil) ?_
    have hl3 := (nm_len (l := wdL) (by decide) (i := i) (by show _ < 7; omega)).1
    refine e_opN (v_ssh 3 (by rfl) hl3) Imp.nil ?_
    refine e_bsl1 fun g1 => ?_
    refine e_app (m := 1) (news := [txt ((wdL.getD i []).take 3)]) (by (repeat constructor)) (src_pt (e' := 9) (by kernel_rfl) .here (by rfl) (by intro u hu; rw [List.mem_singleton.1 (show u ∈ [txt ((wdL.getD i []).take 3)] from hu)]; rfl)) (by omega) (by omega) fun a1 c1 => ?_
    (((with_reducible refine e_opN (v_add ?h1 ?h2) Imp.nil ?_); (case h1 => omega); (case h2 => omega)))
    have hsn : (shL.take (i + 1)).map txt = (shL.take i).map txt ++ [txt ((wdL.getD i []).take 3)] := by
      have hlt : i < shL.length := by show _ < 7; omega
      rw [List.take_succ_eq_append_getElem hlt, List.map_append]
      congr 1
      have := sh_get (i := i) (by omega)
      rw [List.getElem?_map, List.getElem?_eq_getElem hlt] at this
      simpa using this
    refine e_next2 (m - 1) (by omega) (.ex (i + 1, a1, c1) (.all ?_))
    (try simp only [List.cons_append, List.nil_append, -eq_self])
    rw [hsn]
    refine .pu ⟨by omega, rfl, rfl⟩ ?_
    (repeat (first | exact Imp.refl | exact Imp.nil | (apply Imp.pick; (focus ((repeat constructor); done))) | refine Imp.drop ?_))
  · ((with_reducible refine e_condF ?_))
    have hi7 : i = 7 := by omega
    subst hi7
    rw [show shL.take 7 = shL from rfl]
    refine e_bslN (vs := moL.map txt) rfl rfl txt_cells (by omega) fun gm => ?_
    refine e_slsome (.there .here) (by omega) fun g hg => ?_
    subst hg
    refine e_ret (g, c, gl, gm) rfl ?_
    (repeat (first | exact Imp.refl | exact Imp.nil | (apply Imp.pick; (focus ((repeat constructor); done))) | refine Imp.drop ?_))
end Go.Proofs.Ytcmpkkkigmheoaa.D
