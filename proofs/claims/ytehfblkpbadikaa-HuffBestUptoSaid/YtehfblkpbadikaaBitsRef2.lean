/- The document's Reader, and the program's Raw. No conditions but those that each names. -/
import Derived.Test.YtehfblkpbadikaaBitsRef
set_option linter.unusedVariables false
set_option linter.unusedSimpArgs false
namespace Go.Proofs.Ytehfblkpbadikaa.B
open Go Go.Proofs Go.Proofs.Ytehfblkpbadikaa.Sh Go.Proofs.Ytehfblkpbadikaa.Sl Go.Proofs.Ytehfblkpbadikaa.T Go.Proofs.Ytehfblkpbadikaa.M
theorem RdB.none {W : World} {A : HP} {a : Option Addr} {n : Nat} {cs : List Value} (h : RdB W A a n cs) (c : a = none) : n = 0 := by
  rcases Nat.eq_zero_or_pos n with z | z
  · exact z
  · obtain ⟨_, _, e, _⟩ := h.at_ z
    rw [c] at e; cases e
/-- the document's Reader at p -/
def IsQ (p : Nat) (b : List UInt8) (at_ : Nat) : HP := ex fun q : Option Addr × Nat => all [pt p (.cells #[.slice q.1 b.length q.2, .int .i64 (at_ : Int)] 117), Sl 1 5 q.1 q.2 b.length (b.map B), pu (at_ ≤ 8 * b.length ∧ b.length ≤ 140737488355328)]
def rrR (b : List UInt8) (at_ : Nat) (n : Int) : Int := if n < 0 then 1 else if (b.length : Int) - ((at_ + 7) / 8 : Nat) < n then 20 else 0
def rrB (b : List UInt8) (at_ : Nat) (n : Int) : List UInt8 := if rrR b at_ n = 0 then (b.drop ((at_ + 7) / 8)).take n.toNat else []
def rrAt (b : List UInt8) (at_ : Nat) (n : Int) : Nat := if rrR b at_ n = 0 then 8 * ((at_ + 7) / 8 + n.toNat) else at_
theorem rraw {W : World} {p at_ : Nat} {b : List UInt8} {n : Int} : Cn Try.prog 85 [.pointer (some ⟨p, 0, none⟩), .int .i64 n] W [IsR p b at_] (fun q : Option Addr × Nat => .tuple #[.slice q.1 (rrB b at_ n).length q.2, .int .i64 (rrR b at_ n)]) (fun q => [Sl 1 5 q.1 q.2 (rrB b at_ n).length ((rrB b at_ n).map B), IsR p b (rrAt b at_ n)]) := by
  (refine S.bits_Reader_Raw_cn fun F => ?_; unfold S.bits_Reader_Raw; simp only [List.cons_append, List.nil_append])
  refine e_ex Pick.here fun q => ?_
  obtain ⟨qa, qc⟩ := q
  refine e_all Pick.here ?_
  (try simp only [List.cons_append, List.nil_append])
  refine e_pu (.there (.there .here)) fun hL => ?_
  (refine' e_call (rnone_some) ?hp fun _ => ?_; (case hp => (repeat (first | exact Picks.nil | (apply Picks.cons; (focus (repeat constructor)))))); (try simp only [List.cons_append, List.nil_append, Bool.not_true, Bool.not_false]))
  ((with_reducible refine e_gdT ?_)); ((with_reducible refine e_gdT ?_))
  (refine e_ask v_lss Imp.nil (fun h => ?_) (fun h => ?_))
  · have hR : rrR b at_ n = 1 := by simp [rrR, h]
    have hB : rrB b at_ n = [] := by simp [rrB, hR]
    have hA : rrAt b at_ n = at_ := by simp [rrAt, hR]
    rw [hR, hB, hA]
    (((with_reducible refine e_opN v_pickF Imp.nil ?_))); ((with_reducible refine e_condT ?_))
    (first | refine e_ret ((none, 0)) rfl ?_ | refine e_retT ((none, 0)) ?_)
    refine imp_nil (.ex (qa, qc) (.all ?_))
    (try simp only [List.cons_append, List.nil_append])
    exact .pick .here (.pick .here (.pu hL .refl))
  · (((with_reducible refine e_opN v_pickF Imp.nil ?_))); ((with_reducible refine e_condF ?_)); (((with_reducible refine e_opN v_nil Imp.nil ?_))); (((with_reducible refine e_opN v_fa0 Imp.nil ?_))); (((with_reducible refine e_opN v_fa0 Imp.nil ?_))); (((with_reducible refine' e_opN (v_ldN ?hc) ?hi ?_); (case hi => (repeat (first | exact Imp.refl | exact Imp.nil | (apply Imp.pick; (focus ((repeat constructor); done))) | refine Imp.drop ?_))); (case hc => (repeat (first | exact Nth.here | apply Nth.there))))); (((with_reducible refine e_opN (v_add ?h1 ?h2) Imp.nil ?_); (case h1 => omega); (case h2 => omega))); (((with_reducible refine e_opN (v_quo ?h1 ?h2 ?h3) Imp.nil ?_); (case h1 => omega); (case h2 => omega); (case h3 => omega))); (((with_reducible refine e_opN v_nil Imp.nil ?_))); (((with_reducible refine e_opN v_fa0 Imp.nil ?_))); (((with_reducible refine e_opN v_fa0 Imp.nil ?_))); (((with_reducible refine' e_opN (v_ldN ?hc) ?hi ?_); (case hi => (repeat (first | exact Imp.refl | exact Imp.nil | (apply Imp.pick; (focus ((repeat constructor); done))) | refine Imp.drop ?_))); (case hc => (repeat (first | exact Nth.here | apply Nth.there))))); (((with_reducible refine e_opN v_len Imp.nil ?_))); (((with_reducible refine e_opN (v_sub ?h1 ?h2) Imp.nil ?_); (case h1 => omega); (case h2 => omega)))
    have h0 := h
    (refine e_ask v_gtr Imp.nil (fun h => ?_) (fun h => ?_))
    · have hR : rrR b at_ n = 20 := by rw [rrR, if_neg h0, if_pos (by push_cast; omega)]
      have hB : rrB b at_ n = [] := by simp [rrB, hR]
      have hA : rrAt b at_ n = at_ := by simp [rrAt, hR]
      rw [hR, hB, hA]
      ((with_reducible refine e_condT ?_))
      (first | refine e_ret ((none, 0)) rfl ?_ | refine e_retT ((none, 0)) ?_)
      refine imp_nil (.ex (qa, qc) (.all ?_))
      (try simp only [List.cons_append, List.nil_append])
      exact .pick .here (.pick .here (.pu hL .refl))
    · have hR : rrR b at_ n = 0 := by rw [rrR, if_neg h0, if_neg (by push_cast; omega)]
      obtain ⟨N, rfl⟩ := Int.eq_ofNat_of_zero_le (show 0 ≤ n by omega)
      have hB : rrB b at_ N = (b.drop ((at_ + 7) / 8)).take N := by simp [rrB, hR]
      have hA : rrAt b at_ N = 8 * ((at_ + 7) / 8 + N) := by simp [rrAt, hR]
      have hN : (at_ + 7) / 8 + N ≤ b.length := by omega
      have hBl : (rrB b at_ N).length = N := by rw [hB, List.length_take, List.length_drop]; omega
      rw [hR, hA]
      refine e_slfacts (.there .here) fun f1 f2 f3 f4 => ?_
      ((with_reducible refine e_condF ?_)); (((with_reducible refine e_opN (v_add ?h1 ?h2) Imp.nil ?_); (case h1 => omega); (case h2 => omega))); (((with_reducible refine e_opN (v_mul ?h1 ?h2) Imp.nil ?_); (case h1 => omega); (case h2 => omega))); (((with_reducible refine e_opN v_nil Imp.nil ?_))); (((with_reducible refine e_opN v_fa0 Imp.nil ?_))); (((with_reducible refine e_opN v_fa0 Imp.nil ?_))); (((with_reducible refine' e_stN ?hp ?ho ?_); (case hp => (repeat constructor)); (case ho => (repeat (first | exact Put.here | apply Put.there))))); (((with_reducible refine e_opN v_nil Imp.nil ?_))); (((with_reducible refine e_opN v_fa0 Imp.nil ?_))); (((with_reducible refine e_opN v_fa0 Imp.nil ?_))); (((with_reducible refine' e_opN (v_ldN ?hc) ?hi ?_); (case hi => (repeat (first | exact Imp.refl | exact Imp.nil | (apply Imp.pick; (focus ((repeat constructor); done))) | refine Imp.drop ?_))); (case hc => (repeat (first | exact Nth.here | apply Nth.there))))); (((with_reducible refine e_opN (v_add ?h1 ?h2) Imp.nil ?_); (case h1 => omega); (case h2 => omega)))
      refine e_opN (v_sl2 ((at_ + 7) / 8) ((at_ + 7) / 8 + N) (by norm_cast) (by norm_cast) (by omega) (by omega)) Imp.nil ?_
      have hcut := (rd_sl (W := W) (e := 5) (cap := qc) (cs := b.map B) (by simp) f4).cut (cap := qc) (l := (at_ + 7) / 8) (h := (at_ + 7) / 8 + N) (by omega) (by omega) (by omega)
      refine e_nil (s := 1) (e := 5) ?_
      refine e_app (m := (at_ + 7) / 8 + N - (at_ + 7) / 8) .here (src_rd (e' := 5) (by kernel_rfl) (.there (.there .here)) hcut (RdB.none hcut) (fun u hu => B_one u (List.mem_of_mem_drop (List.mem_of_mem_take hu)))) (by omega) (by omega) fun a' c' => ?_
      rw [List.nil_append, Nat.zero_add, Nat.add_sub_cancel_left, ← List.map_drop, ← List.map_take, ← hB]
      refine e_ret (a', c') (by rw [hBl]) ?_
      rw [hBl]
      refine .pick (by (repeat constructor)) (.ex (qa, qc) (.all ?_))
      (try simp only [List.cons_append, List.nil_append])
      rw [show ((8 * ((at_ + 7) / 8 + N) : Nat) : Int) = 8 * (((at_ : Int) + 7) / 8 + N) by norm_cast]
      exact .pick (by (repeat constructor)) (.pick (by (repeat constructor)) (.pu (by omega) .refl))
theorem rrB_le (b : List UInt8) (t : Nat) (n : Int) : (rrB b t n).length ≤ b.length := by
  unfold rrB; split <;> simp <;> omega
theorem newQ {W : World} {a : Option Addr} {cap : Nat} {b : List UInt8} {A : HP} (hr : RdB W A a b.length (b.map B)) (ha : a = none → b.length = 0) (hb : b.length ≤ 140737488355328) :
    Cn Try.prog 38 [.slice a b.length cap] W [A] (fun p : Nat => .pointer (some ⟨p, 0, none⟩)) (fun p => [IsQ p b 0, A]) := by
  (refine S.ref02_NewReader_cn fun F => ?_; unfold S.ref02_NewReader; simp only [List.cons_append, List.nil_append])
  refine e_bslN (vs := []) rfl rfl (by simp) (by omega) fun g0 => ?_
  refine e_own (s := 1) (n := 0) .here (by rfl) (by unfold maxLen; omega) ?_
  refine e_app (m := b.length) (news := b.map B) .here (src_rd (A := A) (e' := 5) (by kernel_rfl) (.there .here) hr ha B_one) (by omega) (by omega) fun a' c' => ?_
  rw [Nat.zero_add, List.nil_append]
  (((with_reducible refine e_opN v_rv Imp.nil ?_))); (((with_reducible refine e_boxA fun g => ?_)))
  refine e_ret g rfl ?_
  refine .ex (a', c') (.all ?_)
  (try simp only [List.cons_append, List.nil_append])
  exact .pick .here (.pick .here (.pu ⟨by omega, hb⟩ (.pick .here .refl)))
theorem qleft {W : World} {p at_ : Nat} {b : List UInt8} : Cn Try.prog 42 [.pointer (some ⟨p, 0, none⟩)] W [IsQ p b at_] (fun _ : Unit => .int .i64 (8 * (b.length : Int) - at_)) (fun _ => [IsQ p b at_]) := by
  (refine S.ref02_Reader_Left_cn fun F => ?_; unfold S.ref02_Reader_Left; simp only [List.cons_append, List.nil_append])
  refine e_ex Pick.here fun q => ?_
  obtain ⟨qa, qc⟩ := q
  refine e_all Pick.here ?_
  (try simp only [List.cons_append, List.nil_append])
  refine e_pu (.there (.there .here)) fun hL => ?_
  ((with_reducible refine e_drS ?_)); (((with_reducible refine e_stS v_nil Imp.nil ?_))); (((with_reducible refine e_stS v_fa0 Imp.nil ?_))); (((with_reducible refine' e_stS (v_ldN ?hc) ?hi ?_); (case hi => (repeat (first | exact Imp.refl | exact Imp.nil | (apply Imp.pick; (focus ((repeat constructor); done))) | refine Imp.drop ?_))); (case hc => (repeat (first | exact Nth.here | apply Nth.there))))); (((with_reducible refine e_stS v_len Imp.nil ?_))); (((with_reducible refine e_stS (v_mul ?h1 ?h2) Imp.nil ?_); (case h1 => omega); (case h2 => omega))); (((with_reducible refine e_stS v_nil Imp.nil ?_))); (((with_reducible refine e_stS v_fa0 Imp.nil ?_))); (((with_reducible refine' e_stS (v_ldN ?hc) ?hi ?_); (case hi => (repeat (first | exact Imp.refl | exact Imp.nil | (apply Imp.pick; (focus ((repeat constructor); done))) | refine Imp.drop ?_))); (case hc => (repeat (first | exact Nth.here | apply Nth.there))))); (((with_reducible refine e_stS (v_sub ?h1 ?h2) Imp.nil ?_); (case h1 => omega); (case h2 => omega)))
  (first | refine e_ret (()) rfl ?_ | refine e_retT (()) ?_)
  refine .ex (qa, qc) (.all ?_)
  (try simp only [List.cons_append, List.nil_append])
  exact .pick .here (.pick .here (.pu hL .refl))
theorem qalign {W : World} {p at_ : Nat} {b : List UInt8} : Cn Try.prog 92 [.pointer (some ⟨p, 0, none⟩)] W [IsQ p b at_] (fun _ : Unit => .tuple #[]) (fun _ => [IsQ p b ((at_ + 7) / 8 * 8)]) := by
  (refine S.ref02_Reader_Align_cn fun F => ?_; unfold S.ref02_Reader_Align; simp only [List.cons_append, List.nil_append])
  refine e_ex Pick.here fun q => ?_
  obtain ⟨qa, qc⟩ := q
  refine e_all Pick.here ?_
  (try simp only [List.cons_append, List.nil_append])
  refine e_pu (.there (.there .here)) fun hL => ?_
  (((with_reducible refine e_opN v_nil Imp.nil ?_))); (((with_reducible refine e_opN v_fa0 Imp.nil ?_))); (((with_reducible refine' e_opN (v_ldN ?hc) ?hi ?_); (case hi => (repeat (first | exact Imp.refl | exact Imp.nil | (apply Imp.pick; (focus ((repeat constructor); done))) | refine Imp.drop ?_))); (case hc => (repeat (first | exact Nth.here | apply Nth.there))))); (((with_reducible refine e_opN (v_add ?h1 ?h2) Imp.nil ?_); (case h1 => omega); (case h2 => omega))); (((with_reducible refine e_opN (v_quo ?h1 ?h2 ?h3) Imp.nil ?_); (case h1 => omega); (case h2 => omega); (case h3 => omega))); (((with_reducible refine e_opN (v_mul ?h1 ?h2) Imp.nil ?_); (case h1 => omega); (case h2 => omega))); (((with_reducible refine e_opN v_nil Imp.nil ?_))); (((with_reducible refine e_opN v_fa0 Imp.nil ?_))); (((with_reducible refine' e_stN ?hp ?ho ?_); (case hp => (repeat constructor)); (case ho => (repeat (first | exact Put.here | apply Put.there)))))
  (first | refine e_ret (()) rfl ?_ | refine e_retT (()) ?_)
  refine .ex (qa, qc) (.all ?_)
  (try simp only [List.cons_append, List.nil_append])
  rw [show (((at_ + 7) / 8 * 8 : Nat) : Int) = ((at_ : Int) + 7) / 8 * 8 by norm_cast]
  exact .pick .here (.pick .here (.pu ⟨by omega, hL.2⟩ .refl))
theorem qraw {W : World} {p at_ : Nat} {b : List UInt8} {n : Int} : Cn Try.prog 93 [.pointer (some ⟨p, 0, none⟩), .int .i64 n] W [IsQ p b at_] (fun q : Option Addr × Nat => .tuple #[.slice q.1 (rrB b at_ n).length q.2, .int .i64 (rrR b at_ n)]) (fun q => [Sl 1 5 q.1 q.2 (rrB b at_ n).length ((rrB b at_ n).map B), IsQ p b (rrAt b at_ n)]) := by
  (refine S.ref02_Reader_Raw_cn fun F => ?_; unfold S.ref02_Reader_Raw; simp only [List.cons_append, List.nil_append])
  refine e_ex Pick.here fun q => ?_
  obtain ⟨qa, qc⟩ := q
  refine e_all Pick.here ?_
  (try simp only [List.cons_append, List.nil_append])
  refine e_pu (.there (.there .here)) fun hL => ?_
  (refine e_ask v_lss Imp.nil (fun h => ?_) (fun h => ?_))
  · have hR : rrR b at_ n = 1 := by simp [rrR, h]
    have hB : rrB b at_ n = [] := by simp [rrB, hR]
    have hA : rrAt b at_ n = at_ := by simp [rrAt, hR]
    rw [hR, hB, hA]
    ((with_reducible refine e_condT ?_))
    (first | refine e_ret ((none, 0)) rfl ?_ | refine e_retT ((none, 0)) ?_)
    refine imp_nil (.ex (qa, qc) (.all ?_))
    (try simp only [List.cons_append, List.nil_append])
    exact .pick .here (.pick .here (.pu hL .refl))
  · ((with_reducible refine e_condF ?_)); (((with_reducible refine e_opN v_nil Imp.nil ?_))); (((with_reducible refine e_opN v_fa0 Imp.nil ?_))); (((with_reducible refine' e_opN (v_ldN ?hc) ?hi ?_); (case hi => (repeat (first | exact Imp.refl | exact Imp.nil | (apply Imp.pick; (focus ((repeat constructor); done))) | refine Imp.drop ?_))); (case hc => (repeat (first | exact Nth.here | apply Nth.there))))); (((with_reducible refine e_opN (v_add ?h1 ?h2) Imp.nil ?_); (case h1 => omega); (case h2 => omega))); (((with_reducible refine e_opN (v_quo ?h1 ?h2 ?h3) Imp.nil ?_); (case h1 => omega); (case h2 => omega); (case h3 => omega))); (((with_reducible refine e_opN v_nil Imp.nil ?_))); (((with_reducible refine e_opN v_fa0 Imp.nil ?_))); (((with_reducible refine' e_opN (v_ldN ?hc) ?hi ?_); (case hi => (repeat (first | exact Imp.refl | exact Imp.nil | (apply Imp.pick; (focus ((repeat constructor); done))) | refine Imp.drop ?_))); (case hc => (repeat (first | exact Nth.here | apply Nth.there))))); (((with_reducible refine e_opN v_len Imp.nil ?_))); (((with_reducible refine e_opN (v_sub ?h1 ?h2) Imp.nil ?_); (case h1 => omega); (case h2 => omega)))
    have h0 := h
    (refine e_ask v_gtr Imp.nil (fun h => ?_) (fun h => ?_))
    · have hR : rrR b at_ n = 20 := by rw [rrR, if_neg h0, if_pos (by push_cast; omega)]
      have hB : rrB b at_ n = [] := by simp [rrB, hR]
      have hA : rrAt b at_ n = at_ := by simp [rrAt, hR]
      rw [hR, hB, hA]
      ((with_reducible refine e_condT ?_))
      (first | refine e_ret ((none, 0)) rfl ?_ | refine e_retT ((none, 0)) ?_)
      refine imp_nil (.ex (qa, qc) (.all ?_))
      (try simp only [List.cons_append, List.nil_append])
      exact .pick .here (.pick .here (.pu hL .refl))
    · have hR : rrR b at_ n = 0 := by rw [rrR, if_neg h0, if_neg (by push_cast; omega)]
      obtain ⟨N, rfl⟩ := Int.eq_ofNat_of_zero_le (show 0 ≤ n by omega)
      have hB : rrB b at_ N = (b.drop ((at_ + 7) / 8)).take N := by simp [rrB, hR]
      have hA : rrAt b at_ N = 8 * ((at_ + 7) / 8 + N) := by simp [rrAt, hR]
      have hN : (at_ + 7) / 8 + N ≤ b.length := by omega
      have hBl : (rrB b at_ N).length = N := by rw [hB, List.length_take, List.length_drop]; omega
      rw [hR, hA]
      refine e_slfacts (.there .here) fun f1 f2 f3 f4 => ?_
      refine e_condF ?_
      refine e_opN (v_add (by omega) (by omega)) Imp.nil ?_
      refine e_opN (v_mul (by omega) (by omega)) Imp.nil ?_
      refine e_opN v_nil Imp.nil ?_
      refine e_opN v_fa0 Imp.nil ?_
      ((with_reducible refine' e_stN ?hp ?ho ?_); (case hp => (repeat constructor)); (case ho => (repeat (first | exact Put.here | apply Put.there))))
      refine e_bslN (vs := []) rfl rfl (by simp) (by omega) fun g0 => ?_
      refine e_own (s := 1) (n := 0) .here (by rfl) (by unfold maxLen; omega) ?_
      (((with_reducible refine e_opN v_nil Imp.nil ?_))); (((with_reducible refine e_opN v_fa0 Imp.nil ?_))); (((with_reducible refine' e_opN (v_ldN ?hc) ?hi ?_); (case hi => (repeat (first | exact Imp.refl | exact Imp.nil | (apply Imp.pick; (focus ((repeat constructor); done))) | refine Imp.drop ?_))); (case hc => (repeat (first | exact Nth.here | apply Nth.there))))); (((with_reducible refine e_opN (v_add ?h1 ?h2) Imp.nil ?_); (case h1 => omega); (case h2 => omega)))
      refine e_opN (v_sl2 ((at_ + 7) / 8) ((at_ + 7) / 8 + N) (by norm_cast) (by norm_cast) (by omega) (by omega)) Imp.nil ?_
      have hcut := (rd_sl (W := W) (e := 5) (cap := qc) (cs := b.map B) (by simp) f4).cut (cap := qc) (l := (at_ + 7) / 8) (h := (at_ + 7) / 8 + N) (by omega) (by omega) (by omega)
      refine e_app (m := (at_ + 7) / 8 + N - (at_ + 7) / 8) .here (src_rd (e' := 5) (by kernel_rfl) (.there (.there .here)) hcut (RdB.none hcut) (fun u hu => B_one u (List.mem_of_mem_drop (List.mem_of_mem_take hu)))) (by omega) (by omega) fun a' c' => ?_
      rw [List.nil_append, Nat.zero_add, Nat.add_sub_cancel_left, ← List.map_drop, ← List.map_take, ← hB]
      refine e_ret (a', c') (by rw [hBl]) ?_
      rw [hBl]
      refine .pick (by (repeat constructor)) (.ex (qa, qc) (.all ?_))
      (try simp only [List.cons_append, List.nil_append])
      rw [show ((8 * ((at_ + 7) / 8 + N) : Nat) : Int) = 8 * (((at_ : Int) + 7) / 8 + N) by norm_cast]
      exact .pick (by (repeat constructor)) (.pick (by (repeat constructor)) (.pu (by omega) .refl))
theorem qtake {W : World} {p at_ : Nat} {b : List UInt8} {k : Int} : Cn Try.prog 60 [.pointer (some ⟨p, 0, none⟩), .int .i64 k] W [IsQ p b at_] (fun _ : Unit => .tuple #[.int .i64 (takN b at_ k : Int), .int .i64 (takR b at_ k)]) (fun _ => [IsQ p b (takAt b at_ k)]) := by
  (refine S.ref02_Reader_Take_cn fun F => ?_; unfold S.ref02_Reader_Take; simp only [List.cons_append, List.nil_append])
  refine e_ex Pick.here fun q => ?_
  obtain ⟨qa, qc⟩ := q
  refine e_all Pick.here ?_
  (try simp only [List.cons_append, List.nil_append])
  refine e_pu (.there (.there .here)) fun hL => ?_
  refine e_imp (M := IsQ p b at_ :: F) (.ex (qa, qc) (.all (.pick .here (.pick .here (.pu hL .refl))))) ?_
  (refine e_ask v_lss Imp.nil (fun h => ?_) (fun h => ?_))
  · have hR : takR b at_ k = 1 := by simp [takR, h]
    rw [hR, show takN b at_ k = 0 by simp [takN, hR], show takAt b at_ k = at_ by simp [takAt, hR]]
    ((with_reducible refine e_gdF1 ?_)); ((with_reducible refine e_gdF1 ?_)); (((with_reducible refine e_opN v_pickT Imp.nil ?_))); ((with_reducible refine e_condT ?_))
    (first | refine e_ret (()) rfl ?_ | refine e_retT (()) ?_)
    (repeat (first | exact Imp.refl | exact Imp.nil | (apply Imp.pick; (focus ((repeat constructor); done))) | refine Imp.drop ?_))
  have h0 := h
  ((with_reducible refine e_gdT ?_)); ((with_reducible refine e_gdT ?_))
  (refine e_ask v_gtr Imp.nil (fun h => ?_) (fun h => ?_))
  · have hR : takR b at_ k = 1 := by simp [takR, h]
    rw [hR, show takN b at_ k = 0 by simp [takN, hR], show takAt b at_ k = at_ by simp [takAt, hR]]
    (((with_reducible refine e_opN v_pickF Imp.nil ?_))); ((with_reducible refine e_condT ?_))
    (first | refine e_ret (()) rfl ?_ | refine e_retT (()) ?_)
    (repeat (first | exact Imp.refl | exact Imp.nil | (apply Imp.pick; (focus ((repeat constructor); done))) | refine Imp.drop ?_))
  have h1 := h
  have hb : ¬ (k < 0 ∨ 32 < k) := by omega
  (((with_reducible refine e_opN v_pickF Imp.nil ?_))); ((with_reducible refine e_condF ?_))
  (refine' e_call (qleft) ?hp fun _ => ?_; (case hp => (repeat (first | exact Picks.nil | (apply Picks.cons; (focus (repeat constructor)))))); (try simp only [List.cons_append, List.nil_append, Bool.not_true, Bool.not_false]))
  (refine e_ask v_gtr Imp.nil (fun h => ?_) (fun h => ?_))
  · have hR : takR b at_ k = 20 := by simp [takR, hb, h]
    rw [hR, show takN b at_ k = 0 by simp [takN, hR], show takAt b at_ k = at_ by simp [takAt, hR]]
    ((with_reducible refine e_condT ?_))
    (first | refine e_ret (()) rfl ?_ | refine e_retT (()) ?_)
    (repeat (first | exact Imp.refl | exact Imp.nil | (apply Imp.pick; (focus ((repeat constructor); done))) | refine Imp.drop ?_))
  have h2 := h
  have hR : takR b at_ k = 0 := by simp [takR, hb, h]
  rw [hR, show takN b at_ k = tak (ub b) at_ k.toNat by simp [takN, hR], show takAt b at_ k = at_ + k.toNat by simp [takAt, hR]]
  obtain ⟨K, rfl⟩ := Int.eq_ofNat_of_zero_le (show 0 ≤ k by omega)
  rw [Int.toNat_natCast]
  ((with_reducible refine e_condF ?_))
  refine e_loop2 (fun m x y => [ex fun i : Nat => all [pu (m + i = K ∧ y = .int .i64 (i : Int) ∧ x = .int .i64 (tak (ub b) at_ i : Int)), IsQ p b (at_ + i)]] ++ F) K ?_ ?_
  · refine Imp.ex 0 (.all ?_)
    (try simp only [List.cons_append, List.nil_append])
    exact .pu ⟨by omega, rfl, by rw [tak_zero]; rfl⟩ .refl
  · intro m ds x y
    (try simp only [List.cons_append, List.nil_append])
    refine e_ex Pick.here fun i => e_all Pick.here ?_
    (try simp only [List.cons_append, List.nil_append])
    refine e_pu Pick.here fun hi => ?_
    obtain ⟨hm, rfl, rfl⟩ := hi
    (refine e_ask v_lss Imp.nil (fun h => ?_) (fun h => ?_))
    · have hik : i < K := by omega
      obtain ⟨v, hv⟩ : ∃ v, (ub b)[at_ + i]? = some v := ⟨_, List.getElem?_eq_getElem (by rw [length_ub]; omega)⟩
      refine e_ex Pick.here fun q => ?_
      obtain ⟨qa, qc⟩ := q
      refine e_all Pick.here ?_
      (try simp only [List.cons_append, List.nil_append])
      refine e_pu (.there (.there .here)) fun hL2 => ?_
      have h8 : (at_ + i) / 8 < b.length := by omega
      have hv0 := hv
      rw [ub_get h8] at hv
      have hv' := Option.some.inj hv
      refine e_slsome (.there .here) (by omega) fun g hg => ?_
      subst hg
      ((with_reducible refine e_condT ?_)); ((with_reducible refine e_drS ?_)); (((with_reducible refine e_stS v_nil Imp.nil ?_))); (((with_reducible refine e_stS v_fa0 Imp.nil ?_))); (((with_reducible refine' e_stS (v_ldN ?hc) ?hi ?_); (case hi => (repeat (first | exact Imp.refl | exact Imp.nil | (apply Imp.pick; (focus ((repeat constructor); done))) | refine Imp.drop ?_))); (case hc => (repeat (first | exact Nth.here | apply Nth.there))))); (((with_reducible refine e_stS v_nil Imp.nil ?_))); (((with_reducible refine e_stS v_fa0 Imp.nil ?_))); (((with_reducible refine' e_stS (v_ldN ?hc) ?hi ?_); (case hi => (repeat (first | exact Imp.refl | exact Imp.nil | (apply Imp.pick; (focus ((repeat constructor); done))) | refine Imp.drop ?_))); (case hc => (repeat (first | exact Nth.here | apply Nth.there))))); (((with_reducible refine e_stS (v_quo ?h1 ?h2 ?h3) Imp.nil ?_); (case h1 => omega); (case h2 => omega); (case h3 => omega)))
      refine e_stS (v_ia1 ((at_ + i) / 8) (by norm_cast) (by omega)) Imp.nil ?_
      refine e_stS (v_ldSl (v := B b[(at_ + i) / 8]) (by rw [Nat.zero_add]; exact B_get h8)) (.pick (.there .here) .nil) ?_
      (((with_reducible refine e_stS v_nil Imp.nil ?_))); (((with_reducible refine e_stS v_fa0 Imp.nil ?_))); (((with_reducible refine' e_stS (v_ldN ?hc) ?hi ?_); (case hi => (repeat (first | exact Imp.refl | exact Imp.nil | (apply Imp.pick; (focus ((repeat constructor); done))) | refine Imp.drop ?_))); (case hc => (repeat (first | exact Nth.here | apply Nth.there))))); (((with_reducible refine e_stS (v_rem ?h1 ?h2) Imp.nil ?_); (case h1 => omega); (case h2 => omega)))
      have hb := b[(at_ + i) / 8].toNat_lt
      refine e_stS v_conv Imp.nil ?_
      rw [show (((at_ + i : Nat) : Int) % 8) = (((at_ + i) % 8 : Nat) : Int) by norm_cast, wrapu64 (by omega)]
      refine e_stS (v_shr (by omega)) Imp.nil ?_
      rw [shr8 (by omega)]
      refine e_stS v_and Imp.nil ?_
      have hdiv : b[(at_ + i) / 8].toNat / 2 ^ ((at_ + i) % 8) ≤ b[(at_ + i) / 8].toNat := Nat.div_le_self _ _
      rw [and1_8 (by omega), testBit_mod, hv']
      refine e_stS v_conv Imp.nil ?_
      rw [w64 (by omega) (by cases v <;> simp)]
      refine e_stS v_conv Imp.nil ?_
      rw [wrapu64 (by omega)]
      refine e_stS (v_shl (by omega)) Imp.nil ?_
      have hmin : min ((i : Int)).toNat IntKind.i64.bits = i := by simp only [IntKind.bits, Int.toNat_natCast]; omega
      have hp : 2 ^ i ≤ 2 ^ 32 := Nat.pow_le_pow_right (by omega) (by omega)
      have hc : (v.toNat : Int) * 2 ^ i = ((v.toNat * 2 ^ i : Nat) : Int) := by norm_cast
      have hle : v.toNat * 2 ^ i ≤ 2 ^ i := by cases v <;> simp
      obtain ⟨E, hE⟩ : ∃ E, E = v.toNat * 2 ^ i := ⟨_, rfl⟩
      rw [hmin, hc, ← hE, w64 (by omega) (by omega)]
      refine e_stS v_or Imp.nil ?_
      rw [hE, or_shl (by omega) (tak_lt _ _ _), ← tak_succ hv0]
      (((with_reducible refine e_opN v_nil Imp.nil ?_))); (((with_reducible refine e_opN v_fa0 Imp.nil ?_))); (((with_reducible refine' e_opN (v_ldN ?hc) ?hi ?_); (case hi => (repeat (first | exact Imp.refl | exact Imp.nil | (apply Imp.pick; (focus ((repeat constructor); done))) | refine Imp.drop ?_))); (case hc => (repeat (first | exact Nth.here | apply Nth.there))))); (((with_reducible refine e_opN (v_add ?h1 ?h2) Imp.nil ?_); (case h1 => omega); (case h2 => omega))); (((with_reducible refine e_opN v_nil Imp.nil ?_))); (((with_reducible refine e_opN v_fa0 Imp.nil ?_))); (((with_reducible refine' e_stN ?hp ?ho ?_); (case hp => (repeat constructor)); (case ho => (repeat (first | exact Put.here | apply Put.there))))); (((with_reducible refine e_opN (v_add ?h1 ?h2) Imp.nil ?_); (case h1 => omega); (case h2 => omega)))
      refine e_next2 (m - 1) (by omega) (.ex (i + 1) (.all ?_))
      (try simp only [List.cons_append, List.nil_append])
      refine .pu (by refine ⟨by omega, ?_⟩; first | trivial | exact ⟨by norm_cast, trivial⟩ | norm_cast) (.ex (some ⟨g, 0, none⟩, qc) (.all ?_))
      (try simp only [List.cons_append, List.nil_append])
      rw [show ((at_ + (i + 1) : Nat) : Int) = ((at_ + i : Nat) : Int) + 1 by norm_cast]
      exact .pick .here (.pick .here (.pu ⟨by omega, hL2.2⟩ .refl))
    · have : i = K := by omega
      subst this
      ((with_reducible refine e_condF ?_))
      (first | refine e_ret (()) rfl ?_ | refine e_retT (()) ?_)
      (repeat (first | exact Imp.refl | exact Imp.nil | (apply Imp.pick; (focus ((repeat constructor); done))) | refine Imp.drop ?_))
end Go.Proofs.Ytehfblkpbadikaa.B
