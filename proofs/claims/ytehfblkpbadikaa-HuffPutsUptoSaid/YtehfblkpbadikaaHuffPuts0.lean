/- The law HuffPuts: what it does. No conditions but those that each names. -/
import Derived.Test.YtehfblkpbadikaaHuffPut
import Derived.Test.YtehfblkpbadikaaHuffKn
set_option linter.unusedVariables false
set_option linter.unusedSimpArgs false
namespace Go.Proofs.Ytehfblkpbadikaa.HF
open Go Go.Proofs Go.RowKit Go.Proofs.Ytehfblkpbadikaa.Sh Go.Proofs.Ytehfblkpbadikaa.Sl Go.Proofs.Ytehfblkpbadikaa.T Go.Proofs.Ytehfblkpbadikaa.HM Go.Proofs.Ytehfblkpbadikaa.B Go.Proofs.Ytehfblkpbadikaa.M
theorem xNewW {W : World} {p : Nat} {L L' M : List HP} (k : Pick L (pt p (.cells #[.slice none 0 0] 59)) L') (h : Imp W L' M) : Imp W L (IsX p [] :: M) := by
  refine .ex (none, 0) (.all ?_)
  (try simp only [List.cons_append, List.nil_append])
  exact .pick k (imp_nil (.pu (by simp) h))
def phS (cs ls l : List Int) : List Bool := l.foldl (fun L s => phL cs ls s L) []
theorem phS_take {cs ls l : List Int} {i : Nat} (h : i < l.length) : phS cs ls (l.take (i + 1)) = phL cs ls l[i] (phS cs ls (l.take i)) := by
  unfold phS
  rw [List.take_succ_eq_append_getElem h, List.foldl_append]; rfl
theorem huffPuts {W : World} {a1 a2 a3 : Option Addr} {c1 c2 c3 : Nat} {cs ls l : List Int} (h1 : ∀ A, RdB W A a1 cs.length (cs.map I)) (h2 : ∀ A, RdB W A a2 ls.length (ls.map I)) (h3 : ∀ A, RdB W A a3 l.length (l.map I)) (hl : l.length ≤ 1048576) :
    Cn Try.prog 11 [.slice a1 cs.length c1, .slice a2 ls.length c2, .slice a3 l.length c3] W [] (fun _ : Unit => .bool true) (fun _ => []) := by
  (refine S.law03_HuffPuts_cn fun F => ?_; unfold S.law03_HuffPuts; simp only [List.cons_append, List.nil_append])
  (refine' e_call (newWriter) ?hp fun _ => ?_; (case hp => (repeat (first | exact Picks.nil | (apply Picks.cons; (focus (repeat constructor)))))); (try simp only [List.cons_append, List.nil_append, Bool.not_true, Bool.not_false]))
  rename_i p
  (((with_reducible refine e_opN v_rv Imp.nil ?_))); (((with_reducible refine e_boxA fun g => ?_)))
  refine e_imp (xNewW (p := g) .here .refl) ?_
  refine e_loop1 (fun m y => [ex fun i : Nat => all [pu (m + i = l.length ∧ y = .int .i64 (i : Int)), IsW p (phS cs ls (l.take i)), IsX g (phS cs ls (l.take i)), pu True, pu True]] ++ F) l.length ?_ ?_
  · refine .ex 0 (.all ?_)
    (try simp only [List.cons_append, List.nil_append, -eq_self])
    refine .pu ⟨by omega, rfl⟩ ?_
    rw [List.take_zero, show phS cs ls [] = [] from rfl]
    exact .pick (by (repeat constructor)) (.pick (by (repeat constructor)) (.pu trivial (.pu trivial .refl)))
  intro m ds y
  (try simp only [List.cons_append, List.nil_append, -eq_self])
  refine e_ex Pick.here fun i => e_all Pick.here ?_
  (try simp only [List.cons_append, List.nil_append, -eq_self])
  refine e_pu Pick.here fun hi => ?_
  obtain ⟨hmi, rfl⟩ := hi
  (((with_reducible refine e_opN v_len Imp.nil ?_)))
  (refine e_ask v_lss Imp.nil (fun h => ?_) (fun h => ?_))
  · have hil : i < l.length := by omega
    obtain ⟨ga, oa, rfl, _⟩ := (h3 (pu True)).at_ (by omega)
    ((with_reducible refine e_condT ?_)); ((with_reducible refine e_drS ?_))
    refine e_stS (v_ia1 i (by rfl) hil) Imp.nil ?_
    refine e_stS (v_ldRd (h3 (pu True)) (I_get hil)) (.pick (by (repeat constructor)) .nil) ?_
    refine e_stD (v_ia1 i (by rfl) hil) Imp.nil ?_
    refine e_stD (v_ldRd (h3 (pu True)) (I_get hil)) (.pick (by (repeat constructor)) .nil) ?_
    (refine' e_call (hput (h1 (pu True)) (h2 (pu True))) ?hp fun _ => ?_; (case hp => (repeat (first | exact Picks.nil | (apply Picks.cons; (focus (repeat constructor)))))); (try simp only [List.cons_append, List.nil_append, Bool.not_true, Bool.not_false]))
    (((with_reducible refine e_obl ?hi ?_); (case hi => (repeat (first | exact Imp.refl | exact Imp.nil | (apply Imp.pick; (focus ((repeat constructor); done))) | refine Imp.drop ?_))))); (((with_reducible refine e_obl ?hi ?_); (case hi => (repeat (first | exact Imp.refl | exact Imp.nil | (apply Imp.pick; (focus ((repeat constructor); done))) | refine Imp.drop ?_)))))
    (refine' e_call (num) ?hp fun _ => ?_; (case hp => (repeat (first | exact Picks.nil | (apply Picks.cons; (focus (repeat constructor)))))); (try simp only [List.cons_append, List.nil_append, Bool.not_true, Bool.not_false]))
    (((with_reducible refine e_obl ?hi ?_); (case hi => (repeat (first | exact Imp.refl | exact Imp.nil | (apply Imp.pick; (focus ((repeat constructor); done))) | refine Imp.drop ?_))))); (((with_reducible refine e_obl ?hi ?_); (case hi => (repeat (first | exact Imp.refl | exact Imp.nil | (apply Imp.pick; (focus ((repeat constructor); done))) | refine Imp.drop ?_)))))
    (refine' e_call (rput (h1 (pu True)) (h2 (pu True))) ?hp fun _ => ?_; (case hp => (repeat (first | exact Picks.nil | (apply Picks.cons; (focus (repeat constructor)))))); (try simp only [List.cons_append, List.nil_append, Bool.not_true, Bool.not_false]))
    rw [← phS_take hil]
    refine e_stS v_neq Imp.nil ?_
    rw [decide_eq_false (by simp)]
    ((with_reducible refine e_condF ?_)); (((with_reducible refine e_opN (v_add ?h1 ?h2) Imp.nil ?_); (case h1 => omega); (case h2 => omega)))
    refine e_next1 (m - 1) (by omega) (.ex (i + 1) (.all ?_))
    (try simp only [List.cons_append, List.nil_append, -eq_self])
    refine .pu ⟨by omega, by norm_cast⟩ ?_
    exact .pick (by (repeat constructor)) (.pick (by (repeat constructor)) (.pick (by (repeat constructor)) (.pick (by (repeat constructor)) .refl)))
  · obtain ⟨X, hX⟩ : ∃ X, X = phS cs ls (l.take i) := ⟨_, rfl⟩
    rw [← hX]
    ((with_reducible refine e_condF ?_)); ((with_reducible refine e_drS ?_)); (((with_reducible refine e_stS v_neNil1 Imp.nil ?_))); ((with_reducible refine e_gdT ?_)); ((with_reducible refine e_gdT ?_)); ((with_reducible refine e_gdT ?_))
    (refine' e_call (B.bytes) ?hp fun _ => ?_; (case hp => (repeat (first | exact Picks.nil | (apply Picks.cons; (focus (repeat constructor)))))); (try simp only [List.cons_append, List.nil_append, Bool.not_true, Bool.not_false]))
    rename_i q1
    obtain ⟨qa, qc⟩ := q1
    (try dsimp only)
    ((with_reducible refine e_gdDT ?_))
    refine e_slfacts .here fun f1 f2 f3 f4 => ?_
    refine e_stD (v_str (l := pk X) (rd_sl (by simp) f4) (no_none f4)) (.pick .here .nil) ?_
    ((with_reducible refine e_gdT ?_))
    (refine' e_call (xBytes) ?hp fun _ => ?_; (case hp => (repeat (first | exact Picks.nil | (apply Picks.cons; (focus (repeat constructor)))))); (try simp only [List.cons_append, List.nil_append, Bool.not_true, Bool.not_false]))
    rename_i q2
    obtain ⟨ra, rc⟩ := q2
    (try dsimp only)
    (((with_reducible refine e_obl ?hi ?_); (case hi => (repeat (first | exact Imp.refl | exact Imp.nil | (apply Imp.pick; (focus ((repeat constructor); done))) | refine Imp.drop ?_))))); ((with_reducible refine e_gdT ?_))
    refine e_slfacts .here fun g1 g2 g3 g4 => ?_
    refine e_stS (v_str (l := pk X) (rd_sl (by simp) g4) (no_none g4)) (.pick .here .nil) ?_
    ((with_reducible refine e_gdT ?_))
    refine e_stS v_streq Imp.nil ?_
    (first | rw [decide_eq_true rfl] | simp only [decide_true])
    (((with_reducible refine e_stS v_pickT Imp.nil ?_))); ((with_reducible refine e_gdT ?_))
    (refine' e_call (knows) ?hp fun _ => ?_; (case hp => (repeat (first | exact Picks.nil | (apply Picks.cons; (focus (repeat constructor)))))); (try simp only [List.cons_append, List.nil_append, Bool.not_true, Bool.not_false]))
    (((with_reducible refine e_stS v_pickT Imp.nil ?_)))
    (first | refine e_ret (()) rfl ?_ | refine e_retT (()) ?_)
    (repeat (first | exact Imp.refl | exact Imp.nil | (apply Imp.pick; (focus ((repeat constructor); done))) | refine Imp.drop ?_))
end Go.Proofs.Ytehfblkpbadikaa.HF
