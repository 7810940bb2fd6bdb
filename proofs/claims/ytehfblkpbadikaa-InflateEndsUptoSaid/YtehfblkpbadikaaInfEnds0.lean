/- The law InflateEnds: what it does. No conditions but those that each names. -/
import Derived.Test.YtehfblkpbadikaaInfCut
import Derived.Test.YtehfblkpbadikaaInfMost1
set_option linter.unusedVariables false
set_option linter.unusedSimpArgs false
namespace Go.Proofs.Ytehfblkpbadikaa.IF
open Go Go.Proofs Go.RowKit Go.Proofs.Ytehfblkpbadikaa.Sh Go.Proofs.Ytehfblkpbadikaa.Sl Go.Proofs.Ytehfblkpbadikaa.T Go.Proofs.Ytehfblkpbadikaa.HM Go.Proofs.Ytehfblkpbadikaa.HF Go.Proofs.Ytehfblkpbadikaa.B Go.Proofs.Ytehfblkpbadikaa.M
theorem dup_cut {P : Program} {W : World} {t e : TypeId} {a : Option Addr} {cap n : Nat} {b : List UInt8} (hk : P.underlying t = some (.slice e)) (hr : ∀ A, RdB W A a b.length (b.map B)) (ha : a = none → b.length = 0) (hn : n ≤ b.length) (hc : b.length ≤ cap) :
    ∀ L w, sat W L w → Src P 1 t (.slice (if cap = 0 then a else a.map (·.add (0 * 1))) n cap) n ((b.take n).map B) w := fun L w hw => by
  have hl : (b.take n).length = n := by rw [List.length_take]; omega
  have h1 : ∀ A, RdB W A (if cap = 0 then a else a.map (·.add (0 * 1))) n ((b.take n).map B) := fun A => by
    have := (hr A).cut (cap := cap) (l := 0) (h := n) (by omega) hn hc
    rw [Nat.sub_zero, List.drop_zero, ← List.map_take] at this
    exact this
  have h2 : (if cap = 0 then a else a.map (·.add (0 * 1))) = none → n = 0 := fun c => by
    split at c
    · have := ha c; omega
    · cases a with
      | none => have := ha rfl; omega
      | some x => cases c
  exact src_rd (L := pu True :: L) (L' := L) (A := pu True) hk .here (h1 _) h2 B_one w ((Imp.pu trivial .refl).sat hw)
theorem inflateEnds {W : World} {a a2 : Option Addr} {c c2 : Nat} {b more : List UInt8} {most : Int} (hr : ∀ A, RdB W A a b.length (b.map B)) (ha : a = none → b.length = 0) (hb : b.length ≤ 1048576) (hc : b.length ≤ c)
    (hr2 : ∀ A, RdB W A a2 more.length (more.map B)) (ha2 : a2 = none → more.length = 0) (hb2 : more.length ≤ 1048576) :
    Cn Try.prog 7 [.slice a b.length c, .int .i64 most, .slice a2 more.length c2] W [] (fun _ : Unit => .bool true) (fun _ => []) := by
  have nn : ∀ {x : Option Addr} {k : Nat}, (0 < k → ∃ g, x = some ⟨g, 0, none⟩) → x = none → k = 0 := fun {x} {k} hx c => by
    rcases Nat.eq_zero_or_pos k with z | z
    · exact z
    · obtain ⟨_, e⟩ := hx z; rw [c] at e; cases e
  (refine S.law05_InflateEnds_cn fun F => ?_; unfold S.law05_InflateEnds; simp only [List.cons_append, List.nil_append])
  refine e_dup (dup_rd (e := 5) (by kernel_rfl) hr ha) (by omega) fun a1 c1 n1 s1 => ?_
  (refine' e_call (inflate (b := b) (rd_sl (by simp) s1) n1 (by omega)) ?hp fun _ => ?_; (case hp => (repeat (first | exact Picks.nil | (apply Picks.cons; (focus (repeat constructor)))))); (try simp only [List.cons_append, List.nil_append, Bool.not_true, Bool.not_false]))
  rename_i q
  obtain ⟨qa, qc⟩ := q
  (try dsimp only)
  refine e_opN (v_ext (v := .slice qa (aO b most).length qc) rfl) Imp.nil ?_
  refine e_opN (v_ext (v := .int .i64 (aU b most)) rfl) Imp.nil ?_
  refine e_opN (v_ext (v := .int .i64 (aE b most)) rfl) Imp.nil ?_
  (refine' e_call (num5) ?hp fun _ => ?_; (case hp => (repeat (first | exact Picks.nil | (apply Picks.cons; (focus (repeat constructor)))))); (try simp only [List.cons_append, List.nil_append, Bool.not_true, Bool.not_false]))
  (refine e_ask v_neq Imp.nil (fun h => ?_) (fun h => ?_))
  · obtain ⟨o0, u0⟩ := bad_out h
    rw [o0, u0]
    ((with_reducible refine e_gdF1 ?_)); ((with_reducible refine e_gdF1 ?_)); (((with_reducible refine e_opN v_pickT Imp.nil ?_))); ((with_reducible refine e_condT ?_)); (((with_reducible refine e_opN v_len Imp.nil ?_)))
    refine e_opN v_eql Imp.nil ?_
    rw [decide_eq_true (by simp)]
    ((with_reducible refine e_gdT ?_)); ((with_reducible refine e_gdT ?_))
    refine e_opN v_eql Imp.nil ?_
    rw [decide_eq_true (by simp)]
    (((with_reducible refine e_opN v_pickT Imp.nil ?_))); ((with_reducible refine e_gdT ?_))
    (refine' e_call (knows5) ?hp fun _ => ?_; (case hp => (repeat (first | exact Picks.nil | (apply Picks.cons; (focus (repeat constructor)))))); (try simp only [List.cons_append, List.nil_append, Bool.not_true, Bool.not_false]))
    (((with_reducible refine e_opN v_pickT Imp.nil ?_)))
    (first | refine e_ret (()) rfl ?_ | refine e_retT (()) ?_)
    (repeat (first | exact Imp.refl | exact Imp.nil | (apply Imp.pick; (focus ((repeat constructor); done))) | refine Imp.drop ?_))
  have e0 := Decidable.not_not.1 h
  ((with_reducible refine e_gdT ?_))
  (refine' e_call (knows5) ?hp fun _ => ?_; (case hp => (repeat (first | exact Picks.nil | (apply Picks.cons; (focus (repeat constructor)))))); (try simp only [List.cons_append, List.nil_append, Bool.not_true, Bool.not_false]))
  ((with_reducible refine e_gdT ?_)); (((with_reducible refine e_opN v_notT Imp.nil ?_))); (((with_reducible refine e_opN v_pickF Imp.nil ?_))); ((with_reducible refine e_condF ?_))
  obtain ⟨n, hU, n1', n2', hfit, hbig, hE, hO⟩ := ends_law (more := more) hb e0
  rw [hU]
  refine e_slfacts .here fun f1 f2 f3 f4 => ?_
  refine e_opN v_lss Imp.nil ?_
  rw [decide_eq_false (by omega)]
  ((with_reducible refine e_gdT ?_)); ((with_reducible refine e_gdT ?_)); ((with_reducible refine e_gdT ?_)); (((with_reducible refine e_opN v_len Imp.nil ?_))); ((with_reducible refine e_gdT ?_))
  refine e_opN v_gtr Imp.nil ?_
  rw [decide_eq_false (by omega)]
  (((with_reducible refine e_opN v_pickF Imp.nil ?_))); ((with_reducible refine e_condF ?_))
  -- the first call: behind the stream something else
  refine e_bslN (n := 0) (vs := []) rfl rfl (by simp) (by omega) fun g => ?_
  refine e_own (s := 1) (cs := []) (n := 0) .here rfl (by decide) ?_
  refine e_opN (v_slh n (by rfl) (by omega)) Imp.nil ?_
  have hl : (b.take n).length = n := by rw [List.length_take]; omega
  refine e_app (m := n) (news := (b.take n).map B) .here (dup_cut (cap := c) (e := 5) (by kernel_rfl) hr ha n2' hc _) (by omega) (by omega) fun a3 c3 => ?_
  refine e_app (m := more.length) (news := more.map B) .here (fun w hw => dup_rd (e := 5) (by kernel_rfl) hr2 ha2 _ w hw) (by omega) (by omega) fun a4 c4 => ?_
  rw [Nat.zero_add, List.nil_append, ← List.map_append]
  have hl3 : n + more.length = (b.take n ++ more).length := by rw [List.length_append, hl]
  rw [hl3]
  refine e_slfacts .here fun g1 g2 g3 g4 => ?_
  (refine' e_call (inflate (b := b.take n ++ more) (most := most) (rd_sl (by simp) g4) (nn g4) (by rw [List.length_append]; omega)) ?hp fun _ => ?_; (case hp => (repeat (first | exact Picks.nil | (apply Picks.cons; (focus (repeat constructor)))))); (try simp only [List.cons_append, List.nil_append, Bool.not_true, Bool.not_false]))
  rename_i q
  obtain ⟨ra, rc⟩ := q
  (try dsimp only)
  refine e_opN (v_ext (v := .slice ra (aO (b.take n ++ more) most).length rc) rfl) Imp.nil ?_
  refine e_opN (v_ext (v := .int .i64 (aU (b.take n ++ more) most)) rfl) Imp.nil ?_
  refine e_opN (v_ext (v := .int .i64 (aE (b.take n ++ more) most)) rfl) Imp.nil ?_
  refine e_slfacts .here fun p1 p2 p3 p4 => ?_
  -- the second: a byte less
  refine e_bslN (n := 0) (vs := []) rfl rfl (by simp) (by omega) fun g => ?_
  refine e_own (s := 1) (cs := []) (n := 0) .here rfl (by decide) ?_
  (((with_reducible refine e_opN (v_sub ?h1 ?h2) Imp.nil ?_); (case h1 => omega); (case h2 => omega)))
  refine e_opN (v_slh (n - 1) (by omega) (by omega)) Imp.nil ?_
  have hl2 : (b.take (n - 1)).length = n - 1 := by rw [List.length_take]; omega
  refine e_app (m := n - 1) (news := (b.take (n - 1)).map B) .here (dup_cut (cap := c) (n := n - 1) (e := 5) (by kernel_rfl) hr ha (by omega) hc _) (by omega) (by omega) fun a5 c5 => ?_
  rw [Nat.zero_add, List.nil_append]
  have hl4 : n - 1 = (b.take (n - 1)).length := hl2.symm
  generalize hbb : b.take (n - 1) = bb at hl4 hE hO ⊢
  rw [hl4]
  refine e_slfacts .here fun r1 r2 r3 r4 => ?_
  (refine' e_call (inflate (b := bb) (most := most) (rd_sl (by simp) r4) (nn r4) (by omega)) ?hp fun _ => ?_; (case hp => (repeat (first | exact Picks.nil | (apply Picks.cons; (focus (repeat constructor)))))); (try simp only [List.cons_append, List.nil_append, Bool.not_true, Bool.not_false]))
  rename_i q
  obtain ⟨ta, tc⟩ := q
  (try dsimp only)
  refine e_opN (v_ext (v := .slice ta (aO bb most).length tc) rfl) Imp.nil ?_
  refine e_opN (v_ext (v := .int .i64 (aU bb most)) rfl) Imp.nil ?_
  refine e_opN (v_ext (v := .int .i64 (aE bb most)) rfl) Imp.nil ?_
  rw [hE, hO]
  (((with_reducible refine e_opN v_len Imp.nil ?_))); (((with_reducible refine e_opN (v_add ?h1 ?h2) Imp.nil ?_); (case h1 => omega); (case h2 => omega)))
  (refine e_ask v_gtr Imp.nil (fun h => ?_) (fun h => ?_))
  · rw [hbig (by omega)]
    refine e_condT ?_
    (refine' e_call (num5) ?hp fun _ => ?_; (case hp => (repeat (first | exact Picks.nil | (apply Picks.cons; (focus (repeat constructor)))))); (try simp only [List.cons_append, List.nil_append, Bool.not_true, Bool.not_false]))
    refine e_opN v_eql Imp.nil ?_
    rw [decide_eq_true rfl]
    (first | refine e_ret (()) rfl ?_ | refine e_retT (()) ?_)
    (repeat (first | exact Imp.refl | exact Imp.nil | (apply Imp.pick; (focus ((repeat constructor); done))) | refine Imp.drop ?_))
  · obtain ⟨x1, x2, x3⟩ := hfit (by omega)
    rw [x1, x2, x3]
    rw [x2] at p4
    refine e_condF ?_
    (refine' e_call (num5) ?hp fun _ => ?_; (case hp => (repeat (first | exact Picks.nil | (apply Picks.cons; (focus (repeat constructor)))))); (try simp only [List.cons_append, List.nil_append, Bool.not_true, Bool.not_false]))
    refine e_opN v_eql Imp.nil ?_
    rw [decide_eq_true rfl]
    ((with_reducible refine e_gdT ?_)); ((with_reducible refine e_gdT ?_))
    refine e_opN (v_str (l := aO b most) (rd_sl (by simp) p4) (nn p4)) (.pick (by (repeat constructor)) .nil) ?_
    ((with_reducible refine e_gdT ?_)); ((with_reducible refine e_gdT ?_))
    refine e_opN (v_str (l := aO b most) (rd_sl (by simp) f4) (nn f4)) (.pick (by (repeat constructor)) .nil) ?_
    ((with_reducible refine e_gdT ?_))
    refine e_opN v_streq Imp.nil ?_
    rw [decide_eq_true rfl]
    (((with_reducible refine e_opN v_pickT Imp.nil ?_))); ((with_reducible refine e_gdT ?_)); ((with_reducible refine e_gdT ?_)); ((with_reducible refine e_gdT ?_))
    refine e_opN v_eql Imp.nil ?_
    rw [decide_eq_true rfl]
    (((with_reducible refine e_opN v_pickT Imp.nil ?_))); ((with_reducible refine e_gdT ?_)); ((with_reducible refine e_gdT ?_))
    (refine' e_call (num5) ?hp fun _ => ?_; (case hp => (repeat (first | exact Picks.nil | (apply Picks.cons; (focus (repeat constructor)))))); (try simp only [List.cons_append, List.nil_append, Bool.not_true, Bool.not_false]))
    ((with_reducible refine e_gdT ?_))
    refine e_opN v_eql Imp.nil ?_
    rw [decide_eq_true rfl]
    (((with_reducible refine e_opN v_pickT Imp.nil ?_))); ((with_reducible refine e_gdT ?_)); ((with_reducible refine e_gdT ?_)); (((with_reducible refine e_opN v_len Imp.nil ?_))); ((with_reducible refine e_gdT ?_))
    refine e_opN v_eql Imp.nil ?_
    rw [decide_eq_true (by simp)]
    (((with_reducible refine e_opN v_pickT Imp.nil ?_)))
    (first | refine e_ret (()) rfl ?_ | refine e_retT (()) ?_)
    (repeat (first | exact Imp.refl | exact Imp.nil | (apply Imp.pick; (focus ((repeat constructor); done))) | refine Imp.drop ?_))
end Go.Proofs.Ytehfblkpbadikaa.IF
