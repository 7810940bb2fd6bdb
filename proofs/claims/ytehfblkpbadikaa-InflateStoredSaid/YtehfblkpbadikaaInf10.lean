/- What a stream inflates to; the law's first answers. No conditions but those that each names. -/
import Derived.Test.YtehfblkpbadikaaInf9
set_option linter.unusedVariables false
set_option linter.unusedSimpArgs false
namespace Go.Proofs.Ytehfblkpbadikaa.IF
open Go Go.Proofs Go.RowKit Go.Proofs.Ytehfblkpbadikaa.Sh Go.Proofs.Ytehfblkpbadikaa.Sl Go.Proofs.Ytehfblkpbadikaa.T Go.Proofs.Ytehfblkpbadikaa.HM Go.Proofs.Ytehfblkpbadikaa.HF Go.Proofs.Ytehfblkpbadikaa.B Go.Proofs.Ytehfblkpbadikaa.M
theorem inflate {W : World} {a : Option Addr} {cap : Nat} {b : List UInt8} {A : HP} {most : Int} (hr : RdB W A a b.length (b.map B)) (ha : a = none → b.length = 0) (hb : b.length ≤ 140737488355328) :
    Cn Try.prog 25 [.slice a b.length cap, .int .i64 most] W [A] (fun q : Option Addr × Nat => .tuple #[.slice q.1 (aO b most).length q.2, .int .i64 (aU b most), .int .i64 (aE b most)]) (fun q => [Sl 1 5 q.1 q.2 (aO b most).length ((aO b most).map B), A]) := by
  (refine S.inflate_Inflate_cn fun F => ?_; unfold S.inflate_Inflate; simp only [List.cons_append, List.nil_append])
  (refine' e_call (all_ hr ha hb) ?hp fun _ => ?_; (case hp => (repeat (first | exact Picks.nil | (apply Picks.cons; (focus (repeat constructor)))))); (try simp only [List.cons_append, List.nil_append, Bool.not_true, Bool.not_false]))
  rename_i q
  obtain ⟨⟨oa, oc⟩, ⟨la, lc⟩⟩ := q
  (try dsimp only)
  refine e_opN (v_ext (v := .slice oa (aO b most).length oc) rfl) Imp.nil ?_
  refine e_opN (v_ext (v := .slice la (aL b most).length lc) rfl) Imp.nil ?_
  refine e_opN (v_ext (v := .int .i64 (aU b most)) rfl) Imp.nil ?_
  refine e_opN (v_ext (v := .int .i64 (aE b most)) rfl) Imp.nil ?_
  (first | refine e_ret ((oa, oc)) rfl ?_ | refine e_retT ((oa, oc)) ?_)
  (repeat (first | exact Imp.refl | exact Imp.nil | (apply Imp.pick; (focus ((repeat constructor); done))) | refine Imp.drop ?_))
theorem blocks {W : World} {a : Option Addr} {cap : Nat} {b : List UInt8} {A : HP} {most : Int} (hr : RdB W A a b.length (b.map B)) (ha : a = none → b.length = 0) (hb : b.length ≤ 140737488355328) :
    Cn Try.prog 28 [.slice a b.length cap, .int .i64 most] W [A] (fun q : Option Addr × Nat => .tuple #[.slice q.1 (aL b most).length q.2, .int .i64 (aE b most)]) (fun q => [Sl 2 53 q.1 q.2 (aL b most).length ((aL b most).flatMap blk), A]) := by
  (refine S.inflate_Blocks_cn fun F => ?_; unfold S.inflate_Blocks; simp only [List.cons_append, List.nil_append])
  (refine' e_call (all_ hr ha hb) ?hp fun _ => ?_; (case hp => (repeat (first | exact Picks.nil | (apply Picks.cons; (focus (repeat constructor)))))); (try simp only [List.cons_append, List.nil_append, Bool.not_true, Bool.not_false]))
  rename_i q
  obtain ⟨⟨oa, oc⟩, ⟨la, lc⟩⟩ := q
  (try dsimp only)
  refine e_opN (v_ext (v := .slice oa (aO b most).length oc) rfl) Imp.nil ?_
  refine e_opN (v_ext (v := .slice la (aL b most).length lc) rfl) Imp.nil ?_
  refine e_opN (v_ext (v := .int .i64 (aU b most)) rfl) Imp.nil ?_
  refine e_opN (v_ext (v := .int .i64 (aE b most)) rfl) Imp.nil ?_
  (first | refine e_ret ((la, lc)) rfl ?_ | refine e_retT ((la, lc)) ?_)
  (repeat (first | exact Imp.refl | exact Imp.nil | (apply Imp.pick; (focus ((repeat constructor); done))) | refine Imp.drop ?_))
theorem num5 {W : World} {n : Int} : Cn Try.prog 26 [.int .i64 n] W [] (fun _ : Unit => .int .i64 n) (fun _ => []) := by
  (refine S.law05_num_cn fun F => ?_; unfold S.law05_num; simp only [List.cons_append, List.nil_append])
  (first | refine e_ret (()) rfl ?_ | refine e_retT (()) ?_)
  exact .refl
def kn1 : List UInt8 := [1, 3, 0, 252, 255, 97, 98, 99]
def kn2 : List UInt8 := [75, 76, 74, 6, 0]
theorem kn_1 : aO kn1 10 = [97, 98, 99] ∧ aU kn1 10 = 8 ∧ aE kn1 10 = 0 := by
  have : decide (aO kn1 10 = [97, 98, 99] ∧ aU kn1 10 = 8 ∧ aE kn1 10 = 0) = true := by decide +kernel
  exact of_decide_eq_true this
theorem kn_2 : aO kn2 10 = [97, 98, 99] ∧ aU kn2 10 = 5 ∧ aE kn2 10 = 0 := by
  have : decide (aO kn2 10 = [97, 98, 99] ∧ aU kn2 10 = 5 ∧ aE kn2 10 = 0) = true := by decide +kernel
  exact of_decide_eq_true this
theorem knows5 {W : World} : Cn Try.prog 27 [] W [] (fun _ : Unit => .bool true) (fun _ => []) := by
  (refine S.law05_knows_cn fun F => ?_; unfold S.law05_knows; simp only [List.cons_append, List.nil_append])
  refine e_bslN (vs := kn1.map B) rfl rfl (by intro v hv; obtain ⟨c, _, rfl⟩ := List.mem_map.1 hv; rfl) (by omega) fun g => ?_
  (refine' e_call (inflate (b := kn1) (rd_pt (by rfl)) (fun c => by cases c) (by decide)) ?hp fun _ => ?_; (case hp => (repeat (first | exact Picks.nil | (apply Picks.cons; (focus (repeat constructor)))))); (try simp only [List.cons_append, List.nil_append, Bool.not_true, Bool.not_false]))
  rename_i q
  obtain ⟨qa, qc⟩ := q
  rw [kn_1.1, kn_1.2.1, kn_1.2.2]
  (try dsimp only)
  (((with_reducible refine' e_opN (v_ext ?h1) Imp.nil ?_); (case h1 => rfl))); (((with_reducible refine' e_opN (v_ext ?h1) Imp.nil ?_); (case h1 => rfl))); (((with_reducible refine' e_opN (v_ext ?h1) Imp.nil ?_); (case h1 => rfl)))
  refine e_bslN (vs := kn2.map B) rfl rfl (by intro v hv; obtain ⟨c, _, rfl⟩ := List.mem_map.1 hv; rfl) (by omega) fun g2 => ?_
  (refine' e_call (inflate (b := kn2) (rd_pt (by rfl)) (fun c => by cases c) (by decide)) ?hp fun _ => ?_; (case hp => (repeat (first | exact Picks.nil | (apply Picks.cons; (focus (repeat constructor)))))); (try simp only [List.cons_append, List.nil_append, Bool.not_true, Bool.not_false]))
  rename_i q2
  obtain ⟨qa2, qc2⟩ := q2
  rw [kn_2.1, kn_2.2.1, kn_2.2.2]
  (try dsimp only)
  (((with_reducible refine' e_opN (v_ext ?h1) Imp.nil ?_); (case h1 => rfl))); (((with_reducible refine' e_opN (v_ext ?h1) Imp.nil ?_); (case h1 => rfl))); (((with_reducible refine' e_opN (v_ext ?h1) Imp.nil ?_); (case h1 => rfl)))
  (refine' e_call (num5) ?hp fun _ => ?_; (case hp => (repeat (first | exact Picks.nil | (apply Picks.cons; (focus (repeat constructor)))))); (try simp only [List.cons_append, List.nil_append, Bool.not_true, Bool.not_false]))
  (refine' e_call (num5) ?hp fun _ => ?_; (case hp => (repeat (first | exact Picks.nil | (apply Picks.cons; (focus (repeat constructor)))))); (try simp only [List.cons_append, List.nil_append, Bool.not_true, Bool.not_false]))
  (((with_reducible refine e_opN (v_add ?h1 ?h2) Imp.nil ?_); (case h1 => omega); (case h2 => omega)))
  refine e_slsome .here (by decide) fun h2 hg2 => ?_
  subst hg2
  refine e_slsome (.there (.there .here)) (by decide) fun h1 hg1 => ?_
  subst hg1
  refine e_opN v_eql Imp.nil ?_
  rw [decide_eq_true (by decide)]
  ((with_reducible refine e_gdT ?_)); ((with_reducible refine e_gdT ?_))
  refine e_opN (v_str (l := [97, 98, 99]) (rd_sl (by decide) (fun _ => ⟨h1, rfl⟩)) (fun c => by cases c)) (.pick (by (repeat constructor)) .nil) ?_
  ((with_reducible refine e_gdT ?_))
  refine e_opN (v_streq (l := [97, 98, 99]) (m := [97, 98, 99])) Imp.nil ?_
  rw [decide_eq_true rfl]
  (((with_reducible refine e_opN v_pickT Imp.nil ?_))); ((with_reducible refine e_gdT ?_)); ((with_reducible refine e_gdT ?_))
  refine e_opN v_eql Imp.nil ?_
  rw [decide_eq_true (by decide)]
  (((with_reducible refine e_opN v_pickT Imp.nil ?_))); ((with_reducible refine e_gdT ?_)); ((with_reducible refine e_gdT ?_))
  refine e_opN (v_str (l := [97, 98, 99]) (rd_sl (by decide) (fun _ => ⟨h2, rfl⟩)) (fun c => by cases c)) (.pick (by (repeat constructor)) .nil) ?_
  ((with_reducible refine e_gdT ?_))
  refine e_opN (v_streq (l := [97, 98, 99]) (m := [97, 98, 99])) Imp.nil ?_
  rw [decide_eq_true rfl]
  (((with_reducible refine e_opN v_pickT Imp.nil ?_))); ((with_reducible refine e_gdT ?_)); ((with_reducible refine e_gdT ?_))
  refine e_opN v_eql Imp.nil ?_
  rw [decide_eq_true (by decide)]
  (((with_reducible refine e_opN v_pickT Imp.nil ?_)))
  (first | refine e_ret (()) rfl ?_ | refine e_retT (()) ?_)
  (repeat (first | exact Imp.refl | exact Imp.nil | (apply Imp.pick; (focus ((repeat constructor); done))) | refine Imp.drop ?_))
end Go.Proofs.Ytehfblkpbadikaa.IF
