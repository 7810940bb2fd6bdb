/- The calls that come in ([]Op), and what the law BitsWrites does with them. No conditions but those that each names. -/
import Derived.Test.YtpmcokpiplcnjaaBitsPut
import Derived.Test.YtpmcokpiplcnjaaOld
set_option linter.unusedVariables false
set_option linter.unusedSimpArgs false
namespace Go.Proofs.Ytpmcokpiplcnjaa.B
open Go Go.Proofs Go.Proofs.Ytpmcokpiplcnjaa.Sh Go.Proofs.Ytpmcokpiplcnjaa.Sl Go.Proofs.Ytpmcokpiplcnjaa.T Go.Proofs.Ytpmcokpiplcnjaa.M Go.Proofs.Ytpmcokpiplcnjaa.K
structure Opn where
  kind : Int
  n : Int
  v : Int
  b : List UInt8
def rdOp (W : World) (o : Opn) (cs : List Value) : Prop := ∃ (a : Option Addr) (cap : Nat), cs = [.int .i64 o.kind, .int .i64 o.n, .int .i64 o.v, .slice a o.b.length cap] ∧ o.b.length ≤ cap ∧ cap ≤ maxLen ∧ (a = none → o.b.length = 0) ∧ ∀ A, RdB W A a o.b.length (o.b.map B)
def Ops (W : World) (a : Option Addr) (l : List Opn) : Prop := Old W 4 (rdOp W) a l.length l
def stepsL (l : List Bool) (os : List Opn) : List Bool := os.foldl (fun l o => stepL l o.kind o.n o.v o.b) l
theorem stepsL_snoc (l : List Bool) (os : List Opn) (o : Opn) : stepsL l (os ++ [o]) = stepL (stepsL l os) o.kind o.n o.v o.b := by simp [stepsL]
theorem stepsL_take {l : List Bool} {os : List Opn} {i : Nat} (h : i < os.length) : stepsL l (os.take (i + 1)) = stepL (stepsL l (os.take i)) os[i].kind os[i].n os[i].v os[i].b := by
  rw [List.take_succ_eq_append_getElem h, stepsL_snoc]
/-- the i-th call as it is laid -/
theorem Ops.at {W : World} {a : Option Addr} {l : List Opn} (h : Ops W a l) {i : Nat} (hi : i < l.length) : ∃ g o b c, a = some ⟨g, o, none⟩ ∧ (∀ {P : Program} {t : TypeId} [AggT P t 4], RunV P W [] (sLoad t (.pointer (some ⟨g, o + i * 4, none⟩))) (.agg #[.int .i64 l[i].kind, .int .i64 l[i].n, .int .i64 l[i].v, .slice b l[i].b.length c])) ∧ l[i].b.length ≤ c ∧ c ≤ maxLen ∧ (b = none → l[i].b.length = 0) ∧ ∀ A, RdB W A b l[i].b.length (l[i].b.map B) := by
  obtain ⟨g, o, rfl, hg, hc⟩ := h.at_ (by omega)
  obtain ⟨cs, h1, ⟨b, c, rfl, r2, r3, r4, r5⟩, h3⟩ := hc i hi
  refine ⟨g, o, b, c, rfl, ?_, r2, r3, r4, r5⟩
  intro P t ht
  exact v_ldOldA (cs := [.int .i64 l[i].kind, .int .i64 l[i].n, .int .i64 l[i].v, .slice b l[i].b.length c]) rfl hg (fun j v hv => by rw [Nat.add_assoc]; exact h3 j v hv)
theorem xNew1 {W : World} {p : Nat} {L L' M : List HP} (k : Pick L (pt p (.cells #[.slice none 0 0] 51)) L') (h : Imp W L' M) : Imp W L (IsX p [] :: M) := by
  refine .ex (none, 0) (.all ?_)
  (try simp only [List.cons_append, List.nil_append])
  exact .pick k (imp_nil (.pu (by simp) h))
theorem pk_none {n : Nat} {a : Option Addr} (h : 0 < n → ∃ g, a = some ⟨g, 0, none⟩) (c : a = none) : n = 0 := by
  rcases Nat.eq_zero_or_pos n with z | z
  · exact z
  · obtain ⟨_, e⟩ := h z
    rw [c] at e; cases e
theorem bitsWrites {W : World} {a1 a2 : Option Addr} {c1 c2 : Nat} {one two : List Opn} (h1 : Ops W a1 one) (h2 : Ops W a2 two) (m1 : one.length ≤ 1048576) (m2 : two.length ≤ 1048576) (k1 : ∀ o ∈ one, o.b.length ≤ 1048576) (k2 : ∀ o ∈ two, o.b.length ≤ 1048576) :
    Cn Try.prog 5 [.slice a1 one.length c1, .slice a2 two.length c2] W [] (fun _ : Unit => .bool true) (fun _ => []) := by
  (refine S.law02_BitsWrites_cn fun F => ?_; unfold S.law02_BitsWrites; simp only [List.cons_append, List.nil_append])
  (refine' e_call (newWriter) ?hp fun _ => ?_; (case hp => (repeat (first | exact Picks.nil | (apply Picks.cons; (focus (repeat constructor)))))); (try simp only [List.cons_append, List.nil_append, Bool.not_true, Bool.not_false]))
  rename_i p
  (refine' e_call (newWriter) ?hp fun _ => ?_; (case hp => (repeat (first | exact Picks.nil | (apply Picks.cons; (focus (repeat constructor)))))); (try simp only [List.cons_append, List.nil_append, Bool.not_true, Bool.not_false]))
  rename_i x
  (((with_reducible refine e_opN v_eqNil1 Imp.nil ?_))); ((with_reducible refine e_gdT ?_)); ((with_reducible refine e_gdT ?_)); (((with_reducible refine e_opN v_eqNil1 Imp.nil ?_))); (((with_reducible refine e_opN v_pickF Imp.nil ?_))); ((with_reducible refine e_gdT ?_))
  (refine' e_call (knows) ?hp fun _ => ?_; (case hp => (repeat (first | exact Picks.nil | (apply Picks.cons; (focus (repeat constructor)))))); (try simp only [List.cons_append, List.nil_append, Bool.not_true, Bool.not_false]))
  ((with_reducible refine e_gdT ?_)); (((with_reducible refine e_opN v_notT Imp.nil ?_))); (((with_reducible refine e_opN v_pickF Imp.nil ?_))); ((with_reducible refine e_condF ?_)); (((with_reducible refine e_opN v_rv Imp.nil ?_))); (((with_reducible refine e_boxA fun g => ?_))); (((with_reducible refine e_opN v_rv Imp.nil ?_))); (((with_reducible refine e_boxA fun g => ?_)))
  rename_i g1
  refine e_imp (xNew1 (p := g) .here (xNew1 (p := g1) .here .refl)) ?_
  refine e_loop1 (fun m y => [ex fun i : Nat => all [pu (m + i = 1048576 ∧ y = .int .i64 (i : Int)), IsW p (stepsL [] (one.take i)), IsX g1 (stepsL [] (one.take i)), IsW x (stepsL [] (two.take i)), IsX g (stepsL [] (two.take i))]] ++ F) 1048576 ?_ ?_
  · refine Imp.ex 0 (.all ?_)
    (try simp only [List.cons_append, List.nil_append])
    refine .pu (by simp) ?_
    rw [List.take_zero, List.take_zero, show stepsL [] [] = [] from rfl]
    (repeat (first | exact Imp.refl | exact Imp.nil | (apply Imp.pick; (focus ((repeat constructor); done))) | refine Imp.drop ?_))
  · intro m ds y
    (try simp only [List.cons_append, List.nil_append])
    refine e_ex Pick.here fun i => e_all Pick.here ?_
    (try simp only [List.cons_append, List.nil_append])
    refine e_pu Pick.here fun hi => ?_
    obtain ⟨hmi, rfl⟩ := hi
    (((with_reducible refine e_opN v_len Imp.nil ?_)))
    by_cases t1 : i < one.length
    · obtain ⟨ga, oa, ba, ca, rfl, ld1, r1, r2, r3, r4⟩ := h1.at t1
      have hk1 := k1 one[i] (List.getElem_mem t1)
      refine e_opN v_lss Imp.nil ?_
      rw [decide_eq_true (by omega)]
      ((with_reducible refine e_gdF1 ?_)); ((with_reducible refine e_gdF1 ?_)); ((with_reducible refine e_gdF1 ?_)); ((with_reducible refine e_gdF1 ?_)); (((with_reducible refine e_opN v_pickT Imp.nil ?_))); ((with_reducible refine e_condT ?_)); (((with_reducible refine e_opN v_len Imp.nil ?_)))
      refine e_opN v_lss Imp.nil ?_
      rw [decide_eq_true (by omega)]
      ((with_reducible refine e_gdT ?_)); ((with_reducible refine e_gdT ?_)); ((with_reducible refine e_gdT ?_)); ((with_reducible refine e_gdT ?_)); ((with_reducible refine e_gdT ?_))
      refine e_opN (v_ia i (by rfl) t1) Imp.nil ?_
      ((with_reducible refine e_gdT ?_))
      refine e_opN ld1 Imp.nil ?_
      refine e_imp (M := pu True :: _) (.pu trivial .refl) ?_
      ((with_reducible refine e_gdT ?_))
      (refine' e_call (lawPut (r4 (pu True)) r3 (by omega)) ?hp fun _ => ?_; (case hp => (repeat (first | exact Picks.nil | (apply Picks.cons; (focus (repeat constructor)))))); (try simp only [List.cons_append, List.nil_append, Bool.not_true, Bool.not_false]))
      rw [← stepsL_take t1]
      ((with_reducible refine e_gdT ?_)); (((with_reducible refine e_opN v_notT Imp.nil ?_))); (((with_reducible refine e_opN v_pickT Imp.nil ?_))); ((with_reducible refine e_gdT ?_)); ((with_reducible refine e_gdT ?_)); ((with_reducible refine e_gdT ?_)); (((with_reducible refine e_opN v_len Imp.nil ?_))); ((with_reducible refine e_gdT ?_))
      by_cases t2 : i < two.length
      · obtain ⟨gb, ob, bb', cb, rfl, ld2, s1, s2, s3, s4⟩ := h2.at t2
        have hk2 := k2 two[i] (List.getElem_mem t2)
        refine e_opN v_lss Imp.nil ?_
        rw [decide_eq_true (by omega)]
        ((with_reducible refine e_gdT ?_)); ((with_reducible refine e_gdT ?_)); ((with_reducible refine e_gdT ?_)); ((with_reducible refine e_gdT ?_)); ((with_reducible refine e_gdT ?_)); ((with_reducible refine e_gdT ?_))
        refine e_opN (v_ia i (by rfl) t2) Imp.nil ?_
        ((with_reducible refine e_gdT ?_))
        refine e_opN ld2 Imp.nil ?_
        ((with_reducible refine e_gdT ?_))
        (refine' e_call (lawPut (s4 (pu True)) s3 (by omega)) ?hp fun _ => ?_; (case hp => (repeat (first | exact Picks.nil | (apply Picks.cons; (focus (repeat constructor)))))); (try simp only [List.cons_append, List.nil_append, Bool.not_true, Bool.not_false]))
        rw [← stepsL_take t2]
        ((with_reducible refine e_gdT ?_)); (((with_reducible refine e_opN v_notT Imp.nil ?_))); ((with_reducible refine e_gdT ?_)); (((with_reducible refine e_opN v_pickT Imp.nil ?_))); (((with_reducible refine e_opN v_pickF Imp.nil ?_))); ((with_reducible refine e_condF ?_)); (((with_reducible refine e_opN (v_add ?h1 ?h2) Imp.nil ?_); (case h1 => omega); (case h2 => omega)))
        refine e_next1 (m - 1) (by omega) (.ex (i + 1) (.all ?_))
        (try simp only [List.cons_append, List.nil_append])
        refine .pu (by refine ⟨by omega, ?_⟩; first | trivial | norm_cast) ?_
        (repeat (first | exact Imp.refl | exact Imp.nil | (apply Imp.pick; (focus ((repeat constructor); done))) | refine Imp.drop ?_))
      · refine e_opN v_lss Imp.nil ?_
        rw [decide_eq_false (by omega)]
        ((with_reducible refine e_gdT ?_)); ((with_reducible refine e_gdF2 ?_)); ((with_reducible refine e_gdF2 ?_)); ((with_reducible refine e_gdF2 ?_)); ((with_reducible refine e_gdF2 ?_)); ((with_reducible refine e_gdF2 ?_)); ((with_reducible refine e_gdF2 ?_)); ((with_reducible refine e_gdF2 ?_)); ((with_reducible refine e_gdF2 ?_)); ((with_reducible refine e_gdT ?_)); (((with_reducible refine e_opN v_pickF Imp.nil ?_))); (((with_reducible refine e_opN v_pickF Imp.nil ?_))); ((with_reducible refine e_condF ?_)); (((with_reducible refine e_opN (v_add ?h1 ?h2) Imp.nil ?_); (case h1 => omega); (case h2 => omega)))
        refine e_next1 (m - 1) (by omega) (.ex (i + 1) (.all ?_))
        (try simp only [List.cons_append, List.nil_append])
        rw [List.take_of_length_le (l := two) (i := i + 1) (by omega), List.take_of_length_le (l := two) (i := i) (by omega)]
        refine .pu (by refine ⟨by omega, ?_⟩; first | trivial | norm_cast) ?_
        (repeat (first | exact Imp.refl | exact Imp.nil | (apply Imp.pick; (focus ((repeat constructor); done))) | refine Imp.drop ?_))
    · refine e_opN v_lss Imp.nil ?_
      rw [decide_eq_false (by omega)]
      ((with_reducible refine e_gdT ?_)); ((with_reducible refine e_gdT ?_)); ((with_reducible refine e_gdT ?_)); (((with_reducible refine e_opN v_len Imp.nil ?_))); ((with_reducible refine e_gdT ?_))
      by_cases t2 : i < two.length
      · obtain ⟨gb, ob, bb', cb, rfl, ld2, s1, s2, s3, s4⟩ := h2.at t2
        have hk2 := k2 two[i] (List.getElem_mem t2)
        refine e_opN v_lss Imp.nil ?_
        rw [decide_eq_true (by omega)]
        (((with_reducible refine e_opN v_pickF Imp.nil ?_))); ((with_reducible refine e_condT ?_)); (((with_reducible refine e_opN v_len Imp.nil ?_)))
        refine e_opN v_lss Imp.nil ?_
        rw [decide_eq_false (by omega)]
        ((with_reducible refine e_gdF2 ?_)); ((with_reducible refine e_gdF2 ?_)); ((with_reducible refine e_gdF2 ?_)); ((with_reducible refine e_gdF2 ?_)); ((with_reducible refine e_gdF2 ?_)); ((with_reducible refine e_gdF2 ?_)); ((with_reducible refine e_gdF2 ?_)); ((with_reducible refine e_gdF2 ?_)); (((with_reducible refine e_opN v_pickF Imp.nil ?_))); ((with_reducible refine e_gdT ?_)); ((with_reducible refine e_gdT ?_)); ((with_reducible refine e_gdT ?_)); (((with_reducible refine e_opN v_len Imp.nil ?_))); ((with_reducible refine e_gdT ?_))
        refine e_opN v_lss Imp.nil ?_
        rw [decide_eq_true (by omega)]
        ((with_reducible refine e_gdT ?_)); ((with_reducible refine e_gdT ?_)); ((with_reducible refine e_gdT ?_)); ((with_reducible refine e_gdT ?_)); ((with_reducible refine e_gdT ?_)); ((with_reducible refine e_gdT ?_))
        refine e_opN (v_ia i (by rfl) t2) Imp.nil ?_
        ((with_reducible refine e_gdT ?_))
        refine e_opN ld2 Imp.nil ?_
        refine e_imp (M := pu True :: _) (.pu trivial .refl) ?_
        ((with_reducible refine e_gdT ?_))
        (refine' e_call (lawPut (s4 (pu True)) s3 (by omega)) ?hp fun _ => ?_; (case hp => (repeat (first | exact Picks.nil | (apply Picks.cons; (focus (repeat constructor)))))); (try simp only [List.cons_append, List.nil_append, Bool.not_true, Bool.not_false]))
        rw [← stepsL_take t2]
        ((with_reducible refine e_gdT ?_)); (((with_reducible refine e_opN v_notT Imp.nil ?_))); ((with_reducible refine e_gdT ?_)); (((with_reducible refine e_opN v_pickT Imp.nil ?_))); (((with_reducible refine e_opN v_pickF Imp.nil ?_))); ((with_reducible refine e_condF ?_)); (((with_reducible refine e_opN (v_add ?h1 ?h2) Imp.nil ?_); (case h1 => omega); (case h2 => omega)))
        refine e_next1 (m - 1) (by omega) (.ex (i + 1) (.all ?_))
        (try simp only [List.cons_append, List.nil_append])
        rw [List.take_of_length_le (l := one) (i := i + 1) (by omega), List.take_of_length_le (l := one) (i := i) (by omega)]
        refine .pu (by refine ⟨by omega, ?_⟩; first | trivial | norm_cast) ?_
        (repeat (first | exact Imp.refl | exact Imp.nil | (apply Imp.pick; (focus ((repeat constructor); done))) | refine Imp.drop ?_))
      · refine e_opN v_lss Imp.nil ?_
        rw [decide_eq_false (by omega)]
        (((with_reducible refine e_opN v_pickF Imp.nil ?_))); ((with_reducible refine e_condF ?_)); ((with_reducible refine e_drS ?_))
        obtain ⟨L1, hL1⟩ : ∃ L, L = stepsL [] (one.take i) := ⟨_, rfl⟩
        obtain ⟨L2, hL2⟩ : ∃ L, L = stepsL [] (two.take i) := ⟨_, rfl⟩
        rw [← hL1, ← hL2]
        (refine' e_call (bytes) ?hp fun _ => ?_; (case hp => (repeat (first | exact Picks.nil | (apply Picks.cons; (focus (repeat constructor)))))); (try simp only [List.cons_append, List.nil_append, Bool.not_true, Bool.not_false]))
        rename_i q1
        obtain ⟨qa, qc⟩ := q1
        dsimp only
        refine e_slfacts .here fun f1 f2 f3 f4 => ?_
        refine e_stD (v_str (l := pk L1) (rd_sl (by simp) f4) (pk_none f4)) (.pick .here .nil) ?_
        (refine' e_call (xBytes) ?hp fun _ => ?_; (case hp => (repeat (first | exact Picks.nil | (apply Picks.cons; (focus (repeat constructor)))))); (try simp only [List.cons_append, List.nil_append, Bool.not_true, Bool.not_false]))
        rename_i q2
        obtain ⟨ra, rc⟩ := q2
        (((with_reducible refine e_obl ?hi ?_); (case hi => (repeat (first | exact Imp.refl | exact Imp.nil | (apply Imp.pick; (focus ((repeat constructor); done))) | refine Imp.drop ?_)))))
        dsimp only
        refine e_slfacts .here fun g1' g2' g3' g4' => ?_
        refine e_stS (v_str (l := pk L1) (rd_sl (by simp) g4') (pk_none g4')) (.pick .here .nil) ?_
        refine e_stS v_streq Imp.nil ?_
        rw [decide_eq_true rfl]
        ((with_reducible refine e_gdT ?_)); ((with_reducible refine e_gdT ?_)); ((with_reducible refine e_gdT ?_))
        (refine' e_call (bytes) ?hp fun _ => ?_; (case hp => (repeat (first | exact Picks.nil | (apply Picks.cons; (focus (repeat constructor)))))); (try simp only [List.cons_append, List.nil_append, Bool.not_true, Bool.not_false]))
        rename_i q3
        obtain ⟨sa, sc⟩ := q3
        ((with_reducible refine e_gdDT ?_))
        dsimp only
        refine e_slfacts .here fun i1 i2 i3 i4 => ?_
        refine e_stD (v_str (l := pk L2) (rd_sl (by simp) i4) (pk_none i4)) (.pick .here .nil) ?_
        ((with_reducible refine e_gdT ?_))
        (refine' e_call (xBytes) ?hp fun _ => ?_; (case hp => (repeat (first | exact Picks.nil | (apply Picks.cons; (focus (repeat constructor)))))); (try simp only [List.cons_append, List.nil_append, Bool.not_true, Bool.not_false]))
        rename_i q4
        obtain ⟨ta, tc⟩ := q4
        (((with_reducible refine e_obl ?hi ?_); (case hi => (repeat (first | exact Imp.refl | exact Imp.nil | (apply Imp.pick; (focus ((repeat constructor); done))) | refine Imp.drop ?_))))); ((with_reducible refine e_gdT ?_))
        dsimp only
        refine e_slfacts .here fun j1 j2 j3 j4 => ?_
        refine e_stS (v_str (l := pk L2) (rd_sl (by simp) j4) (pk_none j4)) (.pick .here .nil) ?_
        ((with_reducible refine e_gdT ?_))
        refine e_stS v_streq Imp.nil ?_
        rw [decide_eq_true rfl]
        (((with_reducible refine e_stS v_pickT Imp.nil ?_)))
        (first | refine e_ret (()) rfl ?_ | refine e_retT (()) ?_)
        (repeat (first | exact Imp.refl | exact Imp.nil | (apply Imp.pick; (focus ((repeat constructor); done))) | refine Imp.drop ?_))
end Go.Proofs.Ytpmcokpiplcnjaa.B
