/- The document's codes of lengths. No conditions but those that each names. -/
import Derived.Test.YtehfblkpbadikaaHuff3
set_option linter.unusedVariables false
set_option linter.unusedSimpArgs false
namespace Go.Proofs.Ytehfblkpbadikaa.HF
open Go Go.Proofs Go.Proofs.Ytehfblkpbadikaa.Sh Go.Proofs.Ytehfblkpbadikaa.Sl Go.Proofs.Ytehfblkpbadikaa.T Go.Proofs.Ytehfblkpbadikaa.HM
/-- what is given so far -/
def dn (l : List Int) (n i k : Nat) : Int := match l[k]? with
  | some x => if 0 < x ∧ (x < n ∨ x = n ∧ k < i) then (codeAt l k : Int) else 0
  | none => 0
theorem dn_at {l : List Int} {n i k : Nat} (h : k < l.length) : dn l n i k = if 0 < l[k] ∧ (l[k] < n ∨ l[k] = n ∧ k < i) then (codeAt l k : Int) else 0 := by
  unfold dn; rw [List.getElem?_eq_getElem h]
theorem dn_skip {l : List Int} {n i k : Nat} (hi : i < l.length) (hne : l[i] ≠ (n : Int)) (h : k < l.length) : dn l n (i + 1) k = dn l n i k := by
  rw [dn_at h, dn_at h]
  by_cases c : k = i
  · subst c
    by_cases d : 0 < l[k] ∧ l[k] < n
    · rw [if_pos ⟨d.1, .inl d.2⟩, if_pos ⟨d.1, .inl d.2⟩]
    · rw [if_neg (by omega), if_neg (by omega)]
  · by_cases d : 0 < l[k] ∧ (l[k] < n ∨ l[k] = n ∧ k < i)
    · rw [if_pos d, if_pos (by omega)]
    · rw [if_neg d, if_neg (by omega)]
theorem dn_put {l : List Int} {n i k : Nat} (hi : i < l.length) (hn : 1 ≤ n) (he : l[i] = (n : Int)) (h : k < l.length) : dn l n (i + 1) k = if k = i then (codeAt l i : Int) else dn l n i k := by
  rw [dn_at h, dn_at h]
  by_cases c : k = i
  · subst c
    rw [if_pos rfl, if_pos (by omega)]
  · rw [if_neg c]
    by_cases d : 0 < l[k] ∧ (l[k] < n ∨ l[k] = n ∧ k < i)
    · rw [if_pos d, if_pos (by omega)]
    · rw [if_neg d, if_neg (by omega)]
theorem dn_next {l : List Int} {n k : Nat} (h : k < l.length) : dn l n l.length k = dn l (n + 1) 0 k := by
  rw [dn_at h, dn_at h]
  by_cases d : 0 < l[k] ∧ (l[k] < n ∨ l[k] = n ∧ k < l.length)
  · rw [if_pos d, if_pos (by omega)]
  · rw [if_neg d, if_neg (by omega)]
theorem dn_first {l : List Int} {k : Nat} : dn l 1 0 k = 0 := by
  unfold dn
  split
  · rw [if_neg (by omega)]
  · rfl
theorem dn_last {l : List Int} {k : Nat} (hin : inL l) (h : k < l.length) : dn l 16 0 k = codeAt l k := by
  have := hin l[k] (List.getElem_mem h)
  rw [dn_at h]
  by_cases d : 0 < l[k]
  · rw [if_pos (by omega)]
  · rw [if_neg (by omega), codeAt_zero h (by omega)]; rfl
/-- how the document counts on -/
def St (l : List Int) (n i : Nat) (code last : Int) : Prop := (last = 0 ∧ code = 0 ∧ cur l n i = 0) ∨ ∃ c p : Nat, code = c ∧ last = p ∧ 1 ≤ p ∧ p ≤ n ∧ (c + 1) * 2 ^ (n - p) = cur l n i
theorem refCodes {W : World} {a : Option Addr} {cap : Nat} {l : List Int} {A : HP} (hr : RdB W A a l.length (l.map I)) (hl : l.length ≤ 1099511627776) :
    Cn Try.prog 21 [.slice a l.length cap] W [A] (fun q : Option Addr × Nat => .tuple #[.slice q.1 (cdL l).length q.2, .int .i64 (cdR l)]) (fun q => [Sl 1 3 q.1 q.2 (cdL l).length ((cdL l).map I), A]) := by
  (refine S.ref03_Codes_cn fun F => ?_; unfold S.ref03_Codes; simp only [List.cons_append, List.nil_append])
  (refine' e_call (weight hr hl) ?hp fun _ => ?_; (case hp => (repeat (first | exact Picks.nil | (apply Picks.cons; (focus (repeat constructor)))))); (try simp only [List.cons_append, List.nil_append, Bool.not_true, Bool.not_false]))
  refine e_opN (v_ext (v := .int .i64 (wsm l)) rfl) Imp.nil ?_
  refine e_opN (v_ext (v := .bool (decide (okL l))) rfl) Imp.nil ?_
  by_cases hok : ¬ okL l
  · rw [decide_eq_false hok]
    have hR : cdR l = 30 := by simp [cdR, hok]
    have hB : cdL l = [] := by simp [cdL, hok]
    rw [hR, hB]
    (((with_reducible refine e_opN v_notF Imp.nil ?_))); ((with_reducible refine e_condT ?_))
    (first | refine e_ret ((none, 0)) rfl ?_ | refine e_retT ((none, 0)) ?_)
    refine imp_nil ?_
    (repeat (first | exact Imp.refl | exact Imp.nil | (apply Imp.pick; (focus ((repeat constructor); done))) | refine Imp.drop ?_))
  have hok := Decidable.not_not.1 hok
  rw [decide_eq_true hok]
  have hR : cdR l = 0 := by simp [cdR, hok]
  have hB : cdL l = codes l := by simp [cdL, hok]
  have hlen := hok.len
  have hcl := length_codes l
  rw [hR, hB]
  (((with_reducible refine e_opN v_notT Imp.nil ?_))); ((with_reducible refine e_condF ?_)); (((with_reducible refine e_opN v_len Imp.nil ?_)))
  refine e_mksl l.length l.length (by rfl) (by rfl) (by omega) (by omega) (by unfold maxLen; omega) fun g3 => ?_
  rw [Ln_zero]
  refine e_loop3 (fun m x y z => [ex fun n : Nat => all [pu (m + n = 16 ∧ 1 ≤ n ∧ z = .int .i64 (n : Int) ∧ ∃ c p : Int, x = .int .i64 c ∧ y = .int .i64 p ∧ St l n 0 c p), Sl 1 3 (some ⟨g3, 0, none⟩) l.length l.length (Ln l.length (dn l n 0)), A]] ++ F) 15 ?_ ?_
  · refine Imp.ex 1 (.all ?_)
    (try simp only [List.cons_append, List.nil_append, -eq_self])
    refine .pu ⟨by omega, by omega, rfl, 0, 0, rfl, rfl, .inl ⟨rfl, rfl, by simp [cur, nx, cnt]⟩⟩ ?_
    rw [Ln_congr (fun j _ => dn_first (l := l) (k := j))]
    (repeat (first | exact Imp.refl | exact Imp.nil | (apply Imp.pick; (focus ((repeat constructor); done))) | refine Imp.drop ?_))
  intro m ds x y z
  (try simp only [List.cons_append, List.nil_append, -eq_self])
  refine e_ex Pick.here fun n => e_all Pick.here ?_
  (try simp only [List.cons_append, List.nil_append, -eq_self])
  refine e_pu Pick.here fun hi => ?_
  obtain ⟨hmn, hn1, rfl, c, p, rfl, rfl, hst⟩ := hi
  (refine e_ask v_leq Imp.nil (fun h => ?_) (fun h => ?_))
  · have hn15 : n ≤ 15 := by omega
    refine e_condT ?_
    refine e_loop3 (fun m2 x y z => [ex fun i : Nat => all [pu (m2 + i = l.length ∧ z = .int .i64 (i : Int) ∧ ∃ c p : Int, x = .int .i64 c ∧ y = .int .i64 p ∧ St l n i c p), Sl 1 3 (some ⟨g3, 0, none⟩) l.length l.length (Ln l.length (dn l n i)), A]] ++ F) l.length ?_ ?_
    · refine Imp.ex 0 (.all ?_)
      (try simp only [List.cons_append, List.nil_append, -eq_self])
      exact .pu ⟨by omega, rfl, c, p, rfl, rfl, hst⟩ .refl
    clear hst
    intro m2 ds x y z
    (try simp only [List.cons_append, List.nil_append, -eq_self])
    refine e_ex Pick.here fun i => e_all Pick.here ?_
    (try simp only [List.cons_append, List.nil_append, -eq_self])
    refine e_pu Pick.here fun hi => ?_
    obtain ⟨hmi, rfl, c, p, rfl, rfl, hst⟩ := hi
    have h15 := pow15 hn15
    (((with_reducible refine e_opN v_len Imp.nil ?_)))
    (refine e_ask v_lss Imp.nil (fun h => ?_) (fun h => ?_))
    · have hil : i < l.length := by omega
      obtain ⟨ga, oa, rfl, _⟩ := hr.at_ (by omega)
      refine e_condT ?_
      refine e_opN (v_ia1 i (by rfl) hil) Imp.nil ?_
      refine e_opN (v_ldRd hr (I_get hil)) (.pick (.there .here) .nil) ?_
      (refine e_ask v_neq Imp.nil (fun h => ?_) (fun h => ?_))
      · ((with_reducible refine e_condT ?_)); (((with_reducible refine e_opN (v_add ?h1 ?h2) Imp.nil ?_); (case h1 => omega); (case h2 => omega)))
        refine e_next3 (m2 - 1) (by omega) (.ex (i + 1) (.all ?_))
        (try simp only [List.cons_append, List.nil_append, -eq_self])
        refine .pu ⟨by omega, by norm_cast, c, p, rfl, rfl, ?_⟩ ?_
        · unfold St at hst ⊢
          rw [cur_succ hil, if_neg h]; exact hst
        · rw [Ln_congr (fun j hj => dn_skip hil h hj)]
          (repeat (first | exact Imp.refl | exact Imp.nil | (apply Imp.pick; (focus ((repeat constructor); done))) | refine Imp.drop ?_))
      · have hln : l[i] = (n : Int) := Decidable.not_not.1 h
        have hcu := hok.cur_lt' hil hln hn1 hn15
        have hca := codeAt_pos hil hln hn1
        refine e_condF ?_
        refine e_cut1 (fun z => pu (z = .int .i64 (codeAt l i : Int)) :: Sl 1 3 (some ⟨g3, 0, none⟩) l.length l.length (Ln l.length (dn l n i)) :: A :: F) ?_ ?_
        · intro ds z
          refine e_pu Pick.here fun hz => ?_
          subst hz
          refine e_opN (v_ia1 i (by rfl) hil) Imp.nil ?_
          refine e_stSl .here (by rw [Ln_len]; omega) ?_
          rw [show (Ln l.length (dn l n i)).set (0 + i) (.int .i64 (codeAt l i : Int)) = Ln l.length (dn l n (i + 1)) from by
            rw [Nat.zero_add]
            exact Ln_set.trans (Ln_congr fun j hj => (dn_put hil hn1 hln hj).symm)]
          (((with_reducible refine e_opN (v_add ?h1 ?h2) Imp.nil ?_); (case h1 => omega); (case h2 => omega)))
          refine e_next3 (m2 - 1) (by omega) (.ex (i + 1) (.all ?_))
          (try simp only [List.cons_append, List.nil_append, -eq_self])
          refine .pu ⟨by omega, by norm_cast, (codeAt l i : Int), (n : Int), rfl, rfl, .inr ⟨codeAt l i, n, rfl, rfl, hn1, by omega, ?_⟩⟩ .refl
          rw [cur_succ hil, if_pos hln, hca, Nat.sub_self]; omega
        · rcases hst with ⟨rfl, rfl, hc0⟩ | ⟨c', p', rfl, rfl, hp1, hpn, hcur⟩
          · refine e_opN v_gtr Imp.nil ?_
            rw [decide_eq_false (by omega)]
            ((with_reducible refine e_condF ?_))
            refine e_sat (.pu ?_ .refl)
            rw [hca, hc0]; rfl
          · have hle : c' + 1 ≤ (c' + 1) * 2 ^ (n - p') := Nat.le_mul_of_pos_right _ (Nat.two_pow_pos _)
            refine e_opN v_gtr Imp.nil ?_
            rw [decide_eq_true (by omega)]
            ((with_reducible refine e_condT ?_)); (((with_reducible refine e_opN (v_add ?h1 ?h2) Imp.nil ?_); (case h1 => omega); (case h2 => omega))); (((with_reducible refine e_opN (v_sub ?h1 ?h2) Imp.nil ?_); (case h1 => omega); (case h2 => omega)))
            refine e_opN v_conv Imp.nil ?_
            rw [wrapu64' (by omega) (by omega), show (n : Int) - (p' : Int) = ((n - p' : Nat) : Int) by omega]
            refine e_opN (v_shl (by omega)) Imp.nil ?_
            rw [shl64 (by omega) (by omega) (by omega)]
            refine e_sat (.pu ?_ .refl)
            rw [hca, ← hcur]; push_cast; rfl
    · have hie : i = l.length := by omega
      subst hie
      ((with_reducible refine e_condF ?_)); (((with_reducible refine e_opN (v_add ?h1 ?h2) Imp.nil ?_); (case h1 => omega); (case h2 => omega)))
      refine e_next3 (m - 1) (by omega) (.ex (n + 1) (.all ?_))
      (try simp only [List.cons_append, List.nil_append, -eq_self])
      refine .pu ⟨by omega, by omega, by norm_cast, c, p, rfl, rfl, ?_⟩ ?_
      · unfold St at hst ⊢
        rw [cur_next hn1]
        rcases hst with ⟨h1, h2, h3⟩ | ⟨c', p', h1, h2, h3, h4, h5⟩
        · exact .inl ⟨h1, h2, by omega⟩
        · refine .inr ⟨c', p', h1, h2, h3, by omega, ?_⟩
          rw [← h5, show n + 1 - p' = (n - p') + 1 by omega, Nat.pow_succ, ← Nat.mul_assoc, Nat.mul_comm]
      · rw [Ln_congr (fun j hj => (dn_next (l := l) (n := n) hj).symm)]
        (repeat (first | exact Imp.refl | exact Imp.nil | (apply Imp.pick; (focus ((repeat constructor); done))) | refine Imp.drop ?_))
  · have hne : n = 16 := by omega
    subst hne
    refine e_condF ?_
    rw [show Ln l.length (dn l 16 0) = (codes l).map I from (Ln_congr fun j hj => by rw [dn_last hok.ins hj, if_pos hj]).trans (Ln_codes l)]
    refine e_ret (some ⟨g3, 0, none⟩, l.length) (by rw [hcl]) ?_
    rw [hcl]
    (repeat (first | exact Imp.refl | exact Imp.nil | (apply Imp.pick; (focus ((repeat constructor); done))) | refine Imp.drop ?_))
end Go.Proofs.Ytehfblkpbadikaa.HF
