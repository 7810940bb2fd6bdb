/- The first answers that are known of huff. No conditions. -/
import Derived.Test.YtehfblkpbadikaaHuff9
import Derived.Test.YtehfblkpbadikaaHuff4
set_option linter.unusedVariables false
set_option linter.unusedSimpArgs false
namespace Go.Proofs.Ytehfblkpbadikaa.HF
open Go Go.Proofs Go.RowKit Go.Proofs.Ytehfblkpbadikaa.Sh Go.Proofs.Ytehfblkpbadikaa.Sl Go.Proofs.Ytehfblkpbadikaa.T Go.Proofs.Ytehfblkpbadikaa.HM
def kc : List E := isort Prod.fst (coinsF 0 [1, 1, 2, 4])
theorem kh : Ln 4 (hist kc 15) = ([3, 3, 2, 1] : List Int).map I := Ln_ext (by rfl) fun j hj => by
  have h : ∀ j, j < 4 → ([3, 3, 2, 1] : List Int)[j]? = some (hist kc 15 j) := by decide +kernel
  rw [List.getElem?_map, h j hj]; rfl
theorem knows {W : World} : Cn Try.prog 19 [] W [] (fun _ : Unit => .bool true) (fun _ => []) := by
  (refine S.law03_knows_cn fun F => ?_; unfold S.law03_knows; simp only [List.cons_append, List.nil_append])
  refine e_bslN (vs := ([3, 3, 3, 3, 3, 2, 4, 4] : List Int).map I) rfl rfl (by intro v hv; obtain ⟨c, _, rfl⟩ := List.mem_map.1 hv; rfl) (by omega) fun g => ?_
  (refine' e_call (codes_ (l := [3, 3, 3, 3, 3, 2, 4, 4]) (rd_pt (by rfl)) (by decide)) ?hp fun _ => ?_; (case hp => (repeat (first | exact Picks.nil | (apply Picks.cons; (focus (repeat constructor)))))); (try simp only [List.cons_append, List.nil_append, Bool.not_true, Bool.not_false]))
  rename_i q
  obtain ⟨qa, qc⟩ := q
  rw [show cdL [3, 3, 3, 3, 3, 2, 4, 4] = [2, 3, 4, 5, 6, 0, 14, 15] by decide +kernel, show cdR [3, 3, 3, 3, 3, 2, 4, 4] = 0 by decide +kernel]
  (try dsimp only)
  (((with_reducible refine' e_opN (v_extN ?hc) Imp.nil ?_); (case hc => (repeat (first | exact Nth.here | apply Nth.there))))); (((with_reducible refine' e_opN (v_extN ?hc) Imp.nil ?_); (case hc => (repeat (first | exact Nth.here | apply Nth.there)))))
  refine e_slfacts .here fun f1 f2 f3 f4 => ?_
  refine e_bslN (vs := ([1, 1, 2, 4] : List Int).map I) rfl rfl (by intro v hv; obtain ⟨c, _, rfl⟩ := List.mem_map.1 hv; rfl) (by omega) fun g2 => ?_
  (refine' e_call (lengths_ (freq := [1, 1, 2, 4]) (L := 15) (cs := kc) (rd_pt (by rfl)) (by decide) (by decide) (by omega) (by omega) rfl (by decide +kernel) (by decide +kernel) (by decide +kernel) (by decide +kernel) (by decide +kernel)) ?hp fun _ => ?_; (case hp => (repeat (first | exact Picks.nil | (apply Picks.cons; (focus (repeat constructor)))))); (try simp only [List.cons_append, List.nil_append, Bool.not_true, Bool.not_false]))
  rename_i r
  obtain ⟨ra, rc⟩ := r
  (try dsimp only)
  rw [show ([1, 1, 2, 4] : List Int).length = 4 from rfl, kh]
  (((with_reducible refine' e_opN (v_extN ?hc) Imp.nil ?_); (case hc => (repeat (first | exact Nth.here | apply Nth.there))))); (((with_reducible refine' e_opN (v_extN ?hc) Imp.nil ?_); (case hc => (repeat (first | exact Nth.here | apply Nth.there)))))
  refine e_slfacts .here fun g1 g2 g3 g4 => ?_
  (refine' e_call (num) ?hp fun _ => ?_; (case hp => (repeat (first | exact Picks.nil | (apply Picks.cons; (focus (repeat constructor)))))); (try simp only [List.cons_append, List.nil_append, Bool.not_true, Bool.not_false]))
  (refine' e_call (num) ?hp fun _ => ?_; (case hp => (repeat (first | exact Picks.nil | (apply Picks.cons; (focus (repeat constructor)))))); (try simp only [List.cons_append, List.nil_append, Bool.not_true, Bool.not_false]))
  (((with_reducible refine e_opN (v_add ?h1 ?h2) Imp.nil ?_); (case h1 => omega); (case h2 => omega)))
  refine e_opN v_eql Imp.nil ?_
  rw [decide_eq_true (by omega)]
  ((with_reducible refine e_gdT ?_)); ((with_reducible refine e_gdT ?_))
  refine e_bslN (vs := ([2, 3, 4, 5, 6, 0, 14, 15] : List Int).map I) rfl rfl (by intro v hv; obtain ⟨c, _, rfl⟩ := List.mem_map.1 hv; rfl) (by omega) fun g5 => ?_
  ((with_reducible refine e_gdT ?_))
  (refine' e_call (sameInts (x := [2, 3, 4, 5, 6, 0, 14, 15]) (y := [2, 3, 4, 5, 6, 0, 14, 15]) (rd_sl (by rfl) f4) (rd_pt (by rfl)) (by decide)) ?hp fun _ => ?_; (case hp => (repeat (first | exact Picks.nil | (apply Picks.cons; (focus (repeat constructor)))))); (try simp only [List.cons_append, List.nil_append, Bool.not_true, Bool.not_false]))
  (first | rw [decide_eq_true rfl] | simp only [decide_true])
  (((with_reducible refine e_opN v_pickT Imp.nil ?_))); ((with_reducible refine e_gdT ?_)); ((with_reducible refine e_gdT ?_))
  refine e_bslN (vs := ([3, 3, 2, 1] : List Int).map I) rfl rfl (by intro v hv; obtain ⟨c, _, rfl⟩ := List.mem_map.1 hv; rfl) (by omega) fun g6 => ?_
  ((with_reducible refine e_gdT ?_))
  (refine' e_call (sameInts (x := [3, 3, 2, 1]) (y := [3, 3, 2, 1]) (rd_sl (by rfl) g4) (rd_pt (by rfl)) (by decide)) ?hp fun _ => ?_; (case hp => (repeat (first | exact Picks.nil | (apply Picks.cons; (focus (repeat constructor)))))); (try simp only [List.cons_append, List.nil_append, Bool.not_true, Bool.not_false]))
  (first | rw [decide_eq_true rfl] | simp only [decide_true])
  (((with_reducible refine e_opN v_pickT Imp.nil ?_)))
  (first | refine e_ret (()) rfl ?_ | refine e_retT (()) ?_)
  (repeat (first | exact Imp.refl | exact Imp.nil | (apply Imp.pick; (focus ((repeat constructor); done))) | refine Imp.drop ?_))
end Go.Proofs.Ytehfblkpbadikaa.HF
