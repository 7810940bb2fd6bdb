/- Whether lengths are enough; a fixed block; rows of lengths. No conditions but those that each names. -/
import Derived.Test.YtehfblkpbadikaaInf5
import Derived.Test.YtehfblkpbadikaaHuff3
set_option linter.unusedVariables false
set_option linter.unusedSimpArgs false
namespace Go.Proofs.Ytehfblkpbadikaa.IF
open Go Go.Proofs Go.RowKit Go.Proofs.Ytehfblkpbadikaa.Sh Go.Proofs.Ytehfblkpbadikaa.Sl Go.Proofs.Ytehfblkpbadikaa.T Go.Proofs.Ytehfblkpbadikaa.HM Go.Proofs.Ytehfblkpbadikaa.HF Go.Proofs.Ytehfblkpbadikaa.B Go.Proofs.Ytehfblkpbadikaa.M
/-- how many are not nought -/
def cntP : List Int → Int
  | [] => 0
  | x :: l => (if 0 < x then 1 else 0) + cntP l
/-- their sum -/
def sumP : List Int → Int
  | [] => 0
  | x :: l => (if 0 < x then x else 0) + sumP l
theorem cntP_append : ∀ l m : List Int, cntP (l ++ m) = cntP l + cntP m
  | [], m => by simp [cntP]
  | x :: l, m => by simp only [List.cons_append, cntP, cntP_append l m]; omega
theorem sumP_append : ∀ l m : List Int, sumP (l ++ m) = sumP l + sumP m
  | [], m => by simp [sumP]
  | x :: l, m => by simp only [List.cons_append, sumP, sumP_append l m]; omega
theorem cntP_b : ∀ l : List Int, 0 ≤ cntP l ∧ cntP l ≤ l.length
  | [] => by simp [cntP]
  | x :: l => by
    have := cntP_b l
    simp only [cntP, List.length_cons]
    split <;> omega
theorem sumP_b {B : Int} : ∀ l : List Int, (∀ x ∈ l, x ≤ B) → 0 ≤ B → 0 ≤ sumP l ∧ sumP l ≤ B * l.length
  | [], _, _ => by simp [sumP]
  | x :: l, h, hB => by
    have := sumP_b l (fun y hy => h y (.tail _ hy)) hB
    have hx := h x (.head _)
    simp only [sumP, List.length_cons]
    have e : B * ((l.length + 1 : Nat) : Int) = B * l.length + B := by rw [Int.natCast_add, Int.mul_add]; simp
    rw [e]
    generalize B * (l.length : Int) = E at this ⊢
    split <;> omega
def enoughB (l : List Int) : Bool := decide (cntP l = 0) || (decide (cntP l = 1) && decide (sumP l = 1)) || fullB l
theorem enough {W : World} {a : Option Addr} {cap : Nat} {l : List Int} {A : HP} (hr : RdB W A a l.length (l.map I)) (hl : l.length ≤ 1048576) (hb : ∀ x ∈ l, x ≤ 1048576) :
    Cn Try.prog 91 [.slice a l.length cap] W [A] (fun _ : Unit => .bool (enoughB l)) (fun _ => [A]) := by
  (refine S.inflate_enough_cn fun F => ?_; unfold S.inflate_enough; simp only [List.cons_append, List.nil_append])
  (((with_reducible refine e_opN v_len Imp.nil ?_)))
  refine e_loop3 (fun m x y z => [ex fun i : Nat => pu (m + i = l.length ∧ x = .int .i64 (cntP (l.take i)) ∧ y = .int .i64 (sumP (l.take i)) ∧ z = .int .i64 (i : Int)), A] ++ F) l.length ?_ ?_
  · refine .ex 0 ?_
    exact .pu ⟨by omega, rfl, rfl, rfl⟩ .refl
  intro m ds x y z
  (try simp only [List.cons_append, List.nil_append, -eq_self])
  refine e_ex Pick.here fun i => e_pu Pick.here fun hi => ?_
  obtain ⟨hmi, rfl, rfl, rfl⟩ := hi
  have c1 := cntP_b (l.take i)
  have c2 := sumP_b (B := 1048576) (l.take i) (fun x hx => hb x (List.mem_of_mem_take hx)) (by omega)
  rw [List.length_take] at c1 c2
  (refine e_ask v_lss Imp.nil (fun h => ?_) (fun h => ?_))
  · have hil : i < l.length := by omega
    obtain ⟨g, o, rfl, _⟩ := hr.at_ (by omega)
    have hx := hb l[i] (List.getElem_mem hil)
    have t1 : l.take (i + 1) = l.take i ++ [l[i]] := by rw [List.take_add_one, List.getElem?_eq_getElem hil]; rfl
    refine e_condT ?_
    refine e_opN (v_ia1 i (by rfl) hil) Imp.nil ?_
    refine e_opN (v_ldRd hr (v := I l[i]) (I_get hil)) (.pick (by (repeat constructor)) .nil) ?_
    unfold I
    (refine e_ask v_gtr Imp.nil (fun h => ?_) (fun h => ?_))
    · have s1 : cntP (l.take (i + 1)) = cntP (l.take i) + 1 := by rw [t1, cntP_append]; simp only [cntP]; rw [if_pos (by omega)]; omega
      have s2 : sumP (l.take (i + 1)) = sumP (l.take i) + l[i] := by rw [t1, sumP_append]; simp only [sumP]; rw [if_pos (by omega)]; omega
      ((with_reducible refine e_condT ?_)); (((with_reducible refine e_opN (v_add ?h1 ?h2) Imp.nil ?_); (case h1 => omega); (case h2 => omega))); (((with_reducible refine e_opN (v_add ?h1 ?h2) Imp.nil ?_); (case h1 => omega); (case h2 => omega))); (((with_reducible refine e_opN (v_add ?h1 ?h2) Imp.nil ?_); (case h1 => omega); (case h2 => omega)))
      refine e_next3 (m - 1) (by omega) (.ex (i + 1) (.pu ⟨by omega, by rw [s1], by rw [s2], rfl⟩ ?_))
      exact .refl
    · have s1 : cntP (l.take (i + 1)) = cntP (l.take i) := by rw [t1, cntP_append]; simp only [cntP]; rw [if_neg (by omega)]; omega
      have s2 : sumP (l.take (i + 1)) = sumP (l.take i) := by rw [t1, sumP_append]; simp only [sumP]; rw [if_neg (by omega)]; omega
      ((with_reducible refine e_condF ?_)); (((with_reducible refine e_opN (v_add ?h1 ?h2) Imp.nil ?_); (case h1 => omega); (case h2 => omega)))
      refine e_next3 (m - 1) (by omega) (.ex (i + 1) (.pu ⟨by omega, by rw [s1], by rw [s2], rfl⟩ ?_))
      exact .refl
  · have : i = l.length := by omega
    subst this
    rw [List.take_length]
    refine e_condF ?_
    have fin : ∀ v : Bool, v = enoughB l → Ent W (A :: F) (fun w => ∃ x : Unit, (.bool v : Value) = .bool (enoughB l) ∧ sat W ([A] ++ F) w) := by
      intro v hv
      rw [hv]
      refine e_ret () rfl ?_
      exact .refl
    (refine e_ask v_eql Imp.nil (fun h => ?_) (fun h => ?_))
    · ((with_reducible refine e_gdF1 ?_)); ((with_reducible refine e_gdF1 ?_)); ((with_reducible refine e_gdF1 ?_)); ((with_reducible refine e_gdU ?_)); ((with_reducible refine e_gdU ?_)); ((with_reducible refine e_gdF1 ?_)); (((with_reducible refine e_opN v_pickT Imp.nil ?_))); ((with_reducible refine e_gdF1 ?_)); ((with_reducible refine e_gdF1 ?_)); (((with_reducible refine e_opN v_pickT Imp.nil ?_)))
      exact fin true (by simp [enoughB, h])
    · have h0 := h
      ((with_reducible refine e_gdT ?_)); ((with_reducible refine e_gdT ?_))
      (refine e_ask v_eql Imp.nil (fun h => ?_) (fun h => ?_))
      · have h1 := h
        ((with_reducible refine e_gdT ?_)); ((with_reducible refine e_gdT ?_)); ((with_reducible refine e_gdT ?_))
        (refine e_ask v_eql Imp.nil (fun h => ?_) (fun h => ?_))
        · ((with_reducible refine e_gdT ?_)); (((with_reducible refine e_opN v_pickT Imp.nil ?_))); (((with_reducible refine e_opN v_pickF Imp.nil ?_))); ((with_reducible refine e_gdF1 ?_)); ((with_reducible refine e_gdF1 ?_)); (((with_reducible refine e_opN v_pickT Imp.nil ?_)))
          exact fin true (by simp [enoughB, h1, h])
        · ((with_reducible refine e_gdT ?_)); (((with_reducible refine e_opN v_pickT Imp.nil ?_))); (((with_reducible refine e_opN v_pickF Imp.nil ?_))); ((with_reducible refine e_gdT ?_)); ((with_reducible refine e_gdT ?_))
          (refine' e_call (full hr (by omega)) ?hp fun _ => ?_; (case hp => (repeat (first | exact Picks.nil | (apply Picks.cons; (focus (repeat constructor)))))); (try simp only [List.cons_append, List.nil_append, Bool.not_true, Bool.not_false]))
          (((with_reducible refine e_opN v_pickF Imp.nil ?_)))
          exact fin _ (by simp [enoughB, h0, h])
      · ((with_reducible refine e_gdT ?_)); ((with_reducible refine e_gdF2 ?_)); ((with_reducible refine e_gdF2 ?_)); ((with_reducible refine e_gdT ?_)); (((with_reducible refine e_opN v_pickF Imp.nil ?_))); (((with_reducible refine e_opN v_pickF Imp.nil ?_))); ((with_reducible refine e_gdT ?_)); ((with_reducible refine e_gdT ?_))
        (refine' e_call (full hr (by omega)) ?hp fun _ => ?_; (case hp => (repeat (first | exact Picks.nil | (apply Picks.cons; (focus (repeat constructor)))))); (try simp only [List.cons_append, List.nil_append, Bool.not_true, Bool.not_false]))
        (((with_reducible refine e_opN v_pickF Imp.nil ?_)))
        exact fin _ (by simp [enoughB, h0, h])
theorem ok_lit : okL litL := by
  have : decide (okL litL) = true := by decide +kernel
  exact of_decide_eq_true this
theorem ok_dst : okL dstL := by
  have : decide (okL dstL) = true := by decide +kernel
  exact of_decide_eq_true this
theorem fixed {W : World} {p at_ : Nat} {b out : List UInt8} {most : Int} (h1 : 0 ≤ most ∧ most ≤ 1048576) (h2 : (out.length : Int) ≤ most) :
    CnP Try.prog 68 [.pointer (some ⟨p, 0, none⟩)] W [IsS p b at_ out most] (fun _ : Ok (mS litL dstL b most at_ out) => .tuple #[]) (fun x => [IsS p b x.1.1 x.1.2 most]) (fun y : Er (mS litL dstL b most at_ out) => pn y.1) (fun _ => []) := by
  (refine S.inflate_stream_fixed_cnP fun F => ?_; unfold S.inflate_stream_fixed; simp only [List.cons_append, List.nil_append, -eq_self])
  (refine' e_call (fixedL) ?hp fun _ => ?_; (case hp => (repeat (first | exact Picks.nil | (apply Picks.cons; (focus (repeat constructor)))))); (try simp only [List.cons_append, List.nil_append, Bool.not_true, Bool.not_false]))
  rename_i q
  obtain ⟨⟨la, lc⟩, ⟨da, dc⟩⟩ := q
  (try dsimp only)
  refine e_slfacts (.here) fun f1 f2 f3 f4 => ?_
  refine e_slfacts (.there .here) fun g1 g2 g3 g4 => ?_
  refine e_opN (v_ext (v := .slice la litL.length lc) rfl) Imp.nil ?_
  refine e_opN (v_ext (v := .slice da dstL.length dc) rfl) Imp.nil ?_
  (refine' e_callP (decoder (rd_sl (by rw [List.length_map]) f4) (by rw [lit_len]; omega)) ?hp (fun _ => ?_) (fun _ => ?_); (case hp => (repeat (first | exact Picks.nil | (apply Picks.cons; (focus (repeat constructor)))))); (all_goals (try simp only [List.cons_append, List.nil_append, Bool.not_true, Bool.not_false, -eq_self])))
  rotate_left
  · rename_i y
    exact absurd ok_lit y.2
  rename_i x1
  (refine' e_callP (decoder (rd_sl (by rw [List.length_map]) g4) (by rw [dst_len]; omega)) ?hp (fun _ => ?_) (fun _ => ?_); (case hp => (repeat (first | exact Picks.nil | (apply Picks.cons; (focus (repeat constructor)))))); (all_goals (try simp only [List.cons_append, List.nil_append, Bool.not_true, Bool.not_false, -eq_self])))
  rotate_left
  · rename_i y
    exact absurd ok_dst y.2
  rename_i x2
  (refine' e_callP (symbols (by rw [lit_len]; omega) (by rw [dst_len]; omega) h1 h2) ?hp (fun _ => ?_) (fun _ => ?_); (case hp => (repeat (first | exact Picks.nil | (apply Picks.cons; (focus (repeat constructor)))))); (all_goals (try simp only [List.cons_append, List.nil_append, Bool.not_true, Bool.not_false, -eq_self])))
  · rename_i x
    (first | refine e_ret (x) rfl ?_ | refine e_retT (x) ?_)
    (repeat (first | exact Imp.refl | exact Imp.nil | (apply Imp.pick; (focus ((repeat constructor); done))) | refine Imp.drop ?_))
  · rename_i y
    refine e_pan y rfl ?_
    (repeat (first | exact Imp.refl | exact Imp.nil | (apply Imp.pick; (focus ((repeat constructor); done))) | refine Imp.drop ?_))
end Go.Proofs.Ytehfblkpbadikaa.IF
