/- No other lengths cost less: the law, walked. Rows of at most 2^20 numbers. -/
import Derived.Test.YtehfblkpbadikaaHuffB1
import Derived.Test.YtehfblkpbadikaaHuffKn
import Derived.Test.YtehfblkpbadikaaHuffReads0
set_option linter.unusedVariables false
set_option linter.unusedSimpArgs false
namespace Go.Proofs.Ytehfblkpbadikaa.HF
open Go Go.Proofs Go.RowKit Go.Proofs.Ytehfblkpbadikaa.Sh Go.Proofs.Ytehfblkpbadikaa.Sl Go.Proofs.Ytehfblkpbadikaa.T Go.Proofs.Ytehfblkpbadikaa.HM Go.Proofs.Ytehfblkpbadikaa.PM
theorem cost {W : World} {a b : Option Addr} {c d : Nat} {counts l : List Int} {A B : HP} {lim : Int} (hA : RdB W A a counts.length (counts.map I)) (hB : RdB W B b l.length (l.map I)) (hc : ∀ x ∈ counts, 0 ≤ x ∧ x ≤ 1099511627776) (hcl : counts.length ≤ 320) (hl : l.length ≤ 1099511627776) (hlim : lim ≤ 15) :
    Cn Try.prog 24 [.slice a counts.length c, .slice b l.length d, .int .i64 lim] W [A, B] (fun _ : Unit => .tuple #[.int .i64 (if okB counts l lim = true then costF counts l else 0), .bool (okB counts l lim && decide (krF l ≤ 32768))]) (fun _ => [A, B]) := by
  have bad : okB counts l lim = false → ∀ L : List HP, Ent W (A :: B :: L) (fun w => ∃ x : Unit, (.tuple #[.int .i64 0, .bool false] : Value) = .tuple #[.int .i64 (if okB counts l lim = true then costF counts l else 0), .bool (okB counts l lim && decide (krF l ≤ 32768))] ∧ sat W ([A, B] ++ L) w) := by
    intro h L
    rw [h]
    refine e_ret () rfl ?_
    exact .refl
  (refine S.law03_cost_cn fun F => ?_; unfold S.law03_cost; simp only [List.cons_append, List.nil_append])
  refine e_opN v_len Imp.nil ?_
  refine e_opN v_len Imp.nil ?_
  refine e_opN v_neq Imp.nil ?_
  by_cases hne : counts.length = l.length
  rotate_left
  · rw [decide_eq_true (by omega)]
    refine e_condT ?_
    exact bad (by unfold okB; rw [decide_eq_false hne]; rfl) F
  rw [decide_eq_false (by omega)]
  refine e_condF ?_
  refine e_loop3 (fun m x y z => (ex fun i : Nat => pu (m + i = l.length ∧ x = .int .i64 (costF (counts.take i) (l.take i)) ∧ y = .int .i64 (krF (l.take i)) ∧ z = .int .i64 (i : Int) ∧ (∀ (k : Nat) (h : k < counts.length) (h' : k < l.length), k < i → (0 ≤ l[k] ∧ l[k] ≤ lim) ∧ (counts[k] ≠ 0 → l[k] ≠ 0)))) :: A :: B :: F) l.length ?_ ?_
  · exact .ex 0 (.pu ⟨rfl, by simp [costF], by simp [krF], rfl, fun k _ _ h => absurd h (by omega)⟩ .refl)
  intro m ds x y z
  refine e_ex .here fun i => e_pu .here fun hi => ?_
  obtain ⟨hmi, rfl, rfl, rfl, hok⟩ := hi
  refine e_opN v_len Imp.nil ?_
  refine e_ask v_lss Imp.nil (fun h => ?_) (fun h => ?_)
  · have hil : i < l.length := by omega
    have hic : i < counts.length := by omega
    obtain ⟨g, o, rfl, _⟩ := hA.at_ (by omega)
    obtain ⟨g', o', rfl, _⟩ := hB.at_ (by omega)
    have la : RunV Try.prog W [A] (sLoad 3 (.pointer (some ⟨g, o + i, none⟩))) (.int .i64 counts[i]) := v_ldRd hA (I_get hic)
    have lb : RunV Try.prog W [B] (sLoad 3 (.pointer (some ⟨g', o' + i, none⟩))) (.int .i64 l[i]) := v_ldRd hB (I_get hil)
    have hbad := okB_bad (counts := counts) (l := l) (lim := lim) hic hil
    have hci := hc _ (List.getElem_mem hic)
    have ks := kr_snoc l[i] (l.take i)
    rw [← List.take_succ_eq_append_getElem hil] at ks
    have cs := cost_snoc (a := counts.take i) (b := l.take i) (c := counts[i]) (x := l[i]) (by simp; omega)
    rw [← List.take_succ_eq_append_getElem hil, ← List.take_succ_eq_append_getElem hic] at cs
    have kb := kr_b (l.take i)
    have kb2 := kr_b (l.take (i + 1))
    rw [List.length_take] at kb kb2
    have inb : ∀ j, (∀ (k : Nat) (h : k < counts.length) (h' : k < l.length), k < j → (0 ≤ l[k] ∧ l[k] ≤ lim) ∧ (counts[k] ≠ 0 → l[k] ≠ 0)) → ∀ x ∈ l.take j, 0 ≤ x ∧ x ≤ 15 := fun j hj x hx => by
      obtain ⟨k, hk, rfl⟩ := List.getElem_of_mem hx
      rw [List.length_take] at hk
      rw [List.getElem_take]
      have := (hj k (by omega) (by omega) (by omega)).1
      omega
    have inc : ∀ j, ∀ x ∈ counts.take j, 0 ≤ x ∧ x ≤ 1099511627776 := fun j x hx => hc x (List.mem_of_mem_take hx)
    have cb := cost_b (inc i) (inb i hok)
    rw [List.length_take] at cb
    refine e_condT ?_
    refine e_opN (v_ia1 i rfl hil) Imp.nil ?_
    refine e_opN lb (.pick (by (repeat constructor)) .nil) ?_
    refine e_opN v_lss Imp.nil ?_
    by_cases n1 : l[i] < 0
    · rw [decide_eq_true n1]
      ((with_reducible refine e_gdF1 ?_)); ((with_reducible refine e_gdF1 ?_)); ((with_reducible refine e_gdF1 ?_)); ((with_reducible refine e_gdF1 ?_)); ((with_reducible refine e_gdF1 ?_)); ((with_reducible refine e_gdF1 ?_)); (((with_reducible refine e_opN v_pickT Imp.nil ?_))); ((with_reducible refine e_gdF1 ?_)); ((with_reducible refine e_gdF1 ?_)); ((with_reducible refine e_gdF1 ?_)); ((with_reducible refine e_gdF1 ?_)); ((with_reducible refine e_gdF1 ?_)); ((with_reducible refine e_gdF1 ?_)); ((with_reducible refine e_gdU ?_)); ((with_reducible refine e_gdU ?_)); ((with_reducible refine e_gdU ?_)); ((with_reducible refine e_gdU ?_)); ((with_reducible refine e_gdU ?_)); ((with_reducible refine e_gdF1 ?_)); (((with_reducible refine e_opN v_pickT Imp.nil ?_))); ((with_reducible refine e_condT ?_))
      exact e_imp (by (repeat (first | exact Imp.refl | exact Imp.nil | (apply Imp.pick; (focus ((repeat constructor); done))) | refine Imp.drop ?_))) (bad (hbad (by simp [n1])) F)
    rw [decide_eq_false n1]
    refine e_gdT ?_
    refine e_gdT ?_
    refine e_gdT ?_
    refine e_opN (v_ia1 i rfl hil) Imp.nil ?_
    refine e_gdT ?_
    refine e_opN lb (.pick (by (repeat constructor)) .nil) ?_
    refine e_gdT ?_
    refine e_gdT ?_
    refine e_opN v_gtr Imp.nil ?_
    refine e_opN v_pickF Imp.nil ?_
    by_cases n2 : lim < l[i]
    · rw [decide_eq_true n2]
      ((with_reducible refine e_gdF1 ?_)); ((with_reducible refine e_gdF1 ?_)); ((with_reducible refine e_gdF1 ?_)); ((with_reducible refine e_gdF1 ?_)); ((with_reducible refine e_gdF1 ?_)); ((with_reducible refine e_gdF1 ?_)); ((with_reducible refine e_gdU ?_)); ((with_reducible refine e_gdU ?_)); ((with_reducible refine e_gdU ?_)); ((with_reducible refine e_gdU ?_)); ((with_reducible refine e_gdU ?_)); ((with_reducible refine e_gdF1 ?_)); (((with_reducible refine e_opN v_pickT Imp.nil ?_))); ((with_reducible refine e_condT ?_))
      exact e_imp (by (repeat (first | exact Imp.refl | exact Imp.nil | (apply Imp.pick; (focus ((repeat constructor); done))) | refine Imp.drop ?_))) (bad (hbad (by simp [n2])) F)
    rw [decide_eq_false n2]
    refine e_gdT ?_
    refine e_gdT ?_
    refine e_gdT ?_
    refine e_opN (v_ia1 i rfl hic) Imp.nil ?_
    refine e_gdT ?_
    refine e_opN la (.pick (by (repeat constructor)) .nil) ?_
    refine e_gdT ?_
    refine e_opN v_neq Imp.nil ?_
    refine e_gdT ?_
    by_cases n3 : counts[i] ≠ 0
    · rw [decide_eq_true n3]
      refine e_gdT ?_
      refine e_gdT ?_
      refine e_gdT ?_
      refine e_opN (v_ia1 i rfl hil) Imp.nil ?_
      refine e_gdT ?_
      refine e_opN lb (.pick (by (repeat constructor)) .nil) ?_
      refine e_gdT ?_
      refine e_opN v_eql Imp.nil ?_
      refine e_gdT ?_
      refine e_opN v_pickT Imp.nil ?_
      refine e_opN v_pickF Imp.nil ?_
      by_cases n4 : l[i] = 0
      · rw [decide_eq_true n4]
        refine e_condT ?_
        exact e_imp (by (repeat (first | exact Imp.refl | exact Imp.nil | (apply Imp.pick; (focus ((repeat constructor); done))) | refine Imp.drop ?_))) (bad (hbad (by simp [n3, n4])) F)
      rw [decide_eq_false n4]
      have hlast : counts[i] ≠ 0 → l[i] ≠ 0 := fun _ => n4
      refine e_condF ?_
      have hok' : ∀ (k : Nat) (h : k < counts.length) (h' : k < l.length), k < i + 1 → (0 ≤ l[k] ∧ l[k] ≤ lim) ∧ (counts[k] ≠ 0 → l[k] ≠ 0) := fun k hk hk' hlt => by
        by_cases c : k < i
        · exact hok k hk hk' c
        · have : k = i := by omega
          subst this
          exact ⟨⟨by omega, by omega⟩, hlast⟩
      have cb2 := cost_b (inc (i + 1)) (inb (i + 1) hok')
      rw [List.length_take] at cb2
      refine e_cut1 (fun v => pu (v = .int .i64 (krF (l.take (i + 1)))) :: A :: B :: F) ?_ ?_
      rotate_left
      · refine e_opN (v_ia1 i rfl hil) Imp.nil ?_
        refine e_opN lb (.pick (by (repeat constructor)) .nil) ?_
        refine e_ask v_gtr Imp.nil (fun h3 => ?_) (fun h3 => ?_)
        · rw [if_pos h3] at ks
          obtain ⟨X, hX⟩ := Int.eq_ofNat_of_zero_le (show 0 ≤ 15 - l[i] by omega)
          have hX2 : 15 - l[i].toNat = X := by omega
          have hp := pow15 (i := X) (by omega)
          have hps : (1 : Int) * ((2 ^ X : Nat) : Int) = 2 ^ (15 - l[i].toNat) := by rw [hX2, Int.one_mul]; push_cast; rfl
          refine e_condT ?_
          refine e_opN (v_ia1 i rfl hil) Imp.nil ?_
          refine e_opN lb (.pick (by (repeat constructor)) .nil) ?_
          refine e_opN (v_sub (by omega) (by omega)) Imp.nil ?_
          refine e_opN v_conv Imp.nil ?_
          rw [wrapu64' (by omega) (by omega), hX]
          refine e_opN (v_shl (by omega)) Imp.nil ?_
          rw [shl64 (by omega) (by omega) (by omega), hps]
          rw [← hps] at ks
          refine e_opN (v_add (by omega) (by omega)) Imp.nil ?_
          refine e_sat (.pu (by rw [ks, hps]) ?_)
          (repeat (first | exact Imp.refl | exact Imp.nil | (apply Imp.pick; (focus ((repeat constructor); done))) | refine Imp.drop ?_))
        · rw [if_neg h3, Int.add_zero] at ks
          refine e_condF ?_
          refine e_sat (.pu (by rw [ks]) ?_)
          (repeat (first | exact Imp.refl | exact Imp.nil | (apply Imp.pick; (focus ((repeat constructor); done))) | refine Imp.drop ?_))
      intro ds2 v
      refine e_pu .here fun hv => ?_
      subst hv
      refine e_drS ?_
      refine e_stS (v_ia1 i rfl hic) Imp.nil ?_
      refine e_stS la (.pick (by (repeat constructor)) .nil) ?_
      refine e_stS (v_ia1 i rfl hil) Imp.nil ?_
      refine e_stS lb (.pick (by (repeat constructor)) .nil) ?_
      have li := inb (i + 1) hok' l[i] (List.mem_take_iff_getElem.2 ⟨i, by omega, rfl⟩)
      have q1 : 0 ≤ counts[i] * l[i] := Int.mul_nonneg hci.1 li.1
      have q2 : counts[i] * l[i] ≤ 1099511627776 * 15 := Int.mul_le_mul hci.2 li.2 li.1 (by omega)
      refine e_stS (v_mul (by omega) (by omega)) Imp.nil ?_
      refine e_stS (v_add (by omega) (by omega)) Imp.nil ?_
      refine e_opN (v_add (by omega) (by omega)) Imp.nil ?_
      refine e_next3 (m - 1) (by omega) (.ex (i + 1) (.pu ⟨by omega, by rw [cs], rfl, by norm_cast, hok'⟩ ?_))
      exact .refl
    · rw [decide_eq_false n3]
      refine e_gdF2 ?_
      refine e_gdF2 ?_
      refine e_gdF2 ?_
      refine e_gdF2 ?_
      refine e_gdF2 ?_
      refine e_gdT ?_
      refine e_opN v_pickF Imp.nil ?_
      refine e_opN v_pickF Imp.nil ?_
      have hlast : counts[i] ≠ 0 → l[i] ≠ 0 := fun c => absurd c n3
      refine e_condF ?_
      have hok' : ∀ (k : Nat) (h : k < counts.length) (h' : k < l.length), k < i + 1 → (0 ≤ l[k] ∧ l[k] ≤ lim) ∧ (counts[k] ≠ 0 → l[k] ≠ 0) := fun k hk hk' hlt => by
        by_cases c : k < i
        · exact hok k hk hk' c
        · have : k = i := by omega
          subst this
          exact ⟨⟨by omega, by omega⟩, hlast⟩
      have cb2 := cost_b (inc (i + 1)) (inb (i + 1) hok')
      rw [List.length_take] at cb2
      refine e_cut1 (fun v => pu (v = .int .i64 (krF (l.take (i + 1)))) :: A :: B :: F) ?_ ?_
      rotate_left
      · refine e_opN (v_ia1 i rfl hil) Imp.nil ?_
        refine e_opN lb (.pick (by (repeat constructor)) .nil) ?_
        refine e_ask v_gtr Imp.nil (fun h3 => ?_) (fun h3 => ?_)
        · rw [if_pos h3] at ks
          obtain ⟨X, hX⟩ := Int.eq_ofNat_of_zero_le (show 0 ≤ 15 - l[i] by omega)
          have hX2 : 15 - l[i].toNat = X := by omega
          have hp := pow15 (i := X) (by omega)
          have hps : (1 : Int) * ((2 ^ X : Nat) : Int) = 2 ^ (15 - l[i].toNat) := by rw [hX2, Int.one_mul]; push_cast; rfl
          refine e_condT ?_
          refine e_opN (v_ia1 i rfl hil) Imp.nil ?_
          refine e_opN lb (.pick (by (repeat constructor)) .nil) ?_
          refine e_opN (v_sub (by omega) (by omega)) Imp.nil ?_
          refine e_opN v_conv Imp.nil ?_
          rw [wrapu64' (by omega) (by omega), hX]
          refine e_opN (v_shl (by omega)) Imp.nil ?_
          rw [shl64 (by omega) (by omega) (by omega), hps]
          rw [← hps] at ks
          refine e_opN (v_add (by omega) (by omega)) Imp.nil ?_
          refine e_sat (.pu (by rw [ks, hps]) ?_)
          (repeat (first | exact Imp.refl | exact Imp.nil | (apply Imp.pick; (focus ((repeat constructor); done))) | refine Imp.drop ?_))
        · rw [if_neg h3, Int.add_zero] at ks
          refine e_condF ?_
          refine e_sat (.pu (by rw [ks]) ?_)
          (repeat (first | exact Imp.refl | exact Imp.nil | (apply Imp.pick; (focus ((repeat constructor); done))) | refine Imp.drop ?_))
      intro ds2 v
      refine e_pu .here fun hv => ?_
      subst hv
      refine e_drS ?_
      refine e_stS (v_ia1 i rfl hic) Imp.nil ?_
      refine e_stS la (.pick (by (repeat constructor)) .nil) ?_
      refine e_stS (v_ia1 i rfl hil) Imp.nil ?_
      refine e_stS lb (.pick (by (repeat constructor)) .nil) ?_
      have li := inb (i + 1) hok' l[i] (List.mem_take_iff_getElem.2 ⟨i, by omega, rfl⟩)
      have q1 : 0 ≤ counts[i] * l[i] := Int.mul_nonneg hci.1 li.1
      have q2 : counts[i] * l[i] ≤ 1099511627776 * 15 := Int.mul_le_mul hci.2 li.2 li.1 (by omega)
      refine e_stS (v_mul (by omega) (by omega)) Imp.nil ?_
      refine e_stS (v_add (by omega) (by omega)) Imp.nil ?_
      refine e_opN (v_add (by omega) (by omega)) Imp.nil ?_
      refine e_next3 (m - 1) (by omega) (.ex (i + 1) (.pu ⟨by omega, by rw [cs], rfl, by norm_cast, hok'⟩ ?_))
      exact .refl
  · have hie : i = l.length := by omega
    subst hie
    have hfull : okB counts l lim = true := okB_of hne (fun x hx => by
      obtain ⟨k, hk, rfl⟩ := List.getElem_of_mem hx
      exact (hok k (by omega) hk hk).1) (fun k hk hk' => (hok k hk hk' hk').2)
    rw [List.take_length, List.take_of_length_le (show counts.length ≤ l.length by omega), hfull, if_pos rfl]
    refine e_condF ?_
    refine e_opN v_leq Imp.nil ?_
    rw [Bool.true_and]
    (first | refine e_ret (()) rfl ?_ | refine e_retT (()) ?_)
    exact .refl
theorem huffBest {W : World} {a b : Option Addr} {c d : Nat} {freq t : List Int} {lim : Int} {A : HP} (hA : ∀ A, RdB W A a freq.length (freq.map I)) (hB : ∀ A, RdB W A b t.length (t.map I)) (hl : freq.length ≤ 1048576) (ht : t.length ≤ 1048576) :
    Cn Try.prog 6 [.slice a freq.length c, .int .i64 lim, .slice b t.length d] W [A] (fun _ : Unit => .bool true) (fun _ => [A]) := by
  (refine S.law03_HuffBest_cn fun F => ?_; unfold S.law03_HuffBest; simp only [List.cons_append, List.nil_append])
  refine e_call (lengths (A := A) (lim := lim) (hA A) (by omega)) (.cons .here .nil) fun q => ?_
  obtain ⟨la, lc⟩ := q
  (try simp only [List.cons_append, List.nil_append, -eq_self])
  refine e_opN (v_extN (vs := [_, _]) .here) Imp.nil ?_
  refine e_opN (v_extN (vs := [_, _]) (.there .here)) Imp.nil ?_
  refine e_call num .nil fun _ => ?_
  (try simp only [List.cons_append, List.nil_append, -eq_self])
  refine e_opN v_neq Imp.nil ?_
  have h01 : lenE freq lim = 0 ∨ lenE freq lim = 1 := by unfold lenE; split; exact .inr rfl; exact .inl rfl
  rcases h01 with hE | hE
  rotate_left
  · have hv : lenV freq lim = [] := by unfold lenV; rw [if_pos (by rw [hE]; decide)]
    rw [hE, hv, decide_eq_true (by decide)]
    ((with_reducible refine e_gdF1 ?_)); ((with_reducible refine e_gdF1 ?_)); (((with_reducible refine e_opN v_pickT Imp.nil ?_))); ((with_reducible refine e_condT ?_)); (((with_reducible refine e_opN v_len Imp.nil ?_)))
    refine e_opN v_eql Imp.nil ?_
    rw [decide_eq_true (p := ((([] : List Int).length : Nat) : Int) = 0) rfl]
    refine e_gdT ?_
    refine e_call knows .nil fun _ => ?_
    (try simp only [List.cons_append, List.nil_append, -eq_self])
    (((with_reducible refine e_opN v_pickT Imp.nil ?_)))
    (first | refine e_ret (()) rfl ?_ | refine e_retT (()) ?_)
    (repeat (first | exact Imp.refl | exact Imp.nil | (apply Imp.pick; (focus ((repeat constructor); done))) | refine Imp.drop ?_))
  obtain ⟨f1, f2, f3, f4, f5, f6, f7, f8, f9⟩ := lenV_facts hE
  rw [hE, decide_eq_false (by decide)]
  refine e_gdT ?_
  refine e_call knows .nil fun _ => ?_
  (try simp only [List.cons_append, List.nil_append, -eq_self])
  ((with_reducible refine e_gdT ?_)); (((with_reducible refine e_opN v_notT Imp.nil ?_))); (((with_reducible refine e_opN v_pickF Imp.nil ?_))); ((with_reducible refine e_condF ?_))
  generalize hV : lenV freq lim = V at f1 f5 f6 f7 f8 f9 ⊢
  have hokV : okB freq V lim = true := okB_of f1.symm f5 fun i hi hi' hne => by
    have a1 := f4 freq[i] (List.getElem_mem _)
    have a2 := (f6 i hi hi').1 (by omega)
    omega
  refine e_slfacts .here fun g1 g2 g3 g4 => ?_
  have rdV : RdB W (Sl 1 3 la lc V.length (V.map I)) la V.length (V.map I) := rd_sl (by simp) g4
  refine e_call (cost (hA A) rdV f4 f2 (by omega) f3.2) (.cons (.there .here) (.cons .here .nil)) fun _ => ?_
  (try simp only [List.cons_append, List.nil_append, -eq_self])
  rw [hokV, if_pos rfl, decide_eq_true (show krF V ≤ 32768 from f7)]
  (((with_reducible refine' e_opN (v_extN ?hc) Imp.nil ?_); (case hc => (repeat (first | exact Nth.here | apply Nth.there))))); (((with_reducible refine' e_opN (v_extN ?hc) Imp.nil ?_); (case hc => (repeat (first | exact Nth.here | apply Nth.there))))); (((with_reducible refine e_opN v_notT Imp.nil ?_))); ((with_reducible refine e_condF ?_))
  refine e_loop2 (fun m x y => (ex fun i : Nat => pu (m + i = freq.length ∧ x = .int .i64 ((freq.take i).countP fun x => decide (0 < x)) ∧ y = .int .i64 (i : Int))) :: A :: Sl 1 3 la lc V.length (V.map I) :: F) freq.length ?_ ?_
  · exact .ex 0 (.pu ⟨rfl, rfl, rfl⟩ .refl)
  intro m ds x y
  refine e_ex .here fun i => e_pu .here fun hi => ?_
  obtain ⟨hmi, rfl, rfl⟩ := hi
  refine e_opN v_len Imp.nil ?_
  refine e_ask v_lss Imp.nil (fun h => ?_) (fun h => ?_)
  · have hil : i < freq.length := by omega
    have hiv : i < V.length := by omega
    obtain ⟨g, o, rfl, _⟩ := (hA A).at_ (by omega)
    obtain ⟨g', rfl⟩ := g4 (by omega)
    have lf : RunV Try.prog W [A] (sLoad 3 (.pointer (some ⟨g, o + i, none⟩))) (.int .i64 freq[i]) := v_ldRd (hA A) (I_get hil)
    have lv : RunV Try.prog W [Sl 1 3 (some ⟨g', 0, none⟩) lc V.length (V.map I)] (sLoad 3 (.pointer (some ⟨g', 0 + i, none⟩))) (.int .i64 V[i]) := v_ldRd rdV (I_get hiv)
    have hcs : (freq.take (i + 1)).countP (fun x => decide (0 < x)) = (freq.take i).countP (fun x => decide (0 < x)) + if 0 < freq[i] then 1 else 0 := by
      rw [List.take_succ_eq_append_getElem hil, List.countP_append]
      by_cases c : 0 < freq[i]
      · rw [if_pos c]; simp [c]
      · rw [if_neg c]; simp [c]
    have hcl : (freq.take i).countP (fun x => decide (0 < x)) ≤ i := by
      have := List.countP_le_length (p := fun x => decide (0 < x)) (l := freq.take i)
      rw [List.length_take] at this
      omega
    refine e_condT ?_
    refine e_cut1 (fun v => pu (v = .int .i64 ((freq.take (i + 1)).countP fun x => decide (0 < x))) :: A :: Sl 1 3 (some ⟨g', 0, none⟩) lc V.length (V.map I) :: F) ?_ ?_
    rotate_left
    · refine e_opN (v_ia1 i rfl hil) Imp.nil ?_
      refine e_opN lf (.pick (by (repeat constructor)) .nil) ?_
      refine e_ask v_gtr Imp.nil (fun h3 => ?_) (fun h3 => ?_)
      · rw [if_pos h3] at hcs
        refine e_condT ?_
        refine e_opN (v_add (by omega) (by omega)) Imp.nil ?_
        refine e_sat (.pu (by rw [hcs]; rfl) ?_)
        exact .refl
      · rw [if_neg h3] at hcs
        refine e_condF ?_
        refine e_sat (.pu (by rw [hcs]; rfl) ?_)
        exact .refl
    intro ds2 v
    refine e_pu .here fun hv => ?_
    subst hv
    refine e_drS ?_
    refine e_stS (v_ia1 i rfl hil) Imp.nil ?_
    refine e_stS lf (.pick (by (repeat constructor)) .nil) ?_
    refine e_stS v_gtr Imp.nil ?_
    refine e_stS (v_ia1 i rfl hiv) Imp.nil ?_
    refine e_stS lv (.pick (by (repeat constructor)) .nil) ?_
    refine e_stS v_gtr Imp.nil ?_
    refine e_stS (v_bneq Try.underlying4) Imp.nil ?_
    rw [decide_eq_decide.2 (f6 i hil hiv), decide_eq_false (fun c => c rfl)]
    refine e_condF ?_
    refine e_opN (v_add (by omega) (by omega)) Imp.nil ?_
    exact e_next2 (m - 1) (by omega) (.ex (i + 1) (.pu ⟨by omega, rfl, by norm_cast⟩ .refl))
  · have hie : i = freq.length := by omega
    subst hie
    rw [List.take_length]
    have hcl : freq.countP (fun x => decide (0 < x)) ≤ freq.length := List.countP_le_length
    refine e_condF ?_
    refine e_opN v_gtr Imp.nil ?_
    have tail : ∀ S : WP, S = (opN Try.prog (sCall (fn 24) [.slice a freq.length c, .slice b t.length d, .int .i64 lim]) noP fun x78 =>
        opN Try.prog (sExt x78 0) noP fun x79 => opN Try.prog (sExt x78 1) noP fun x80 => opN Try.prog (sUn .not x80) noP fun x82 => gdK x82 false (fun k => k (.int .i64 (costF freq V))) fun x84 => gdK x82 false (fun k => k x79) fun x85 =>
        gdK x82 false (opN Try.prog (sBin .leq 3 x84 x85) noP) fun x86 => opN Try.prog (sPick x82 (.bool true) x86) noP fun x87 => fun w => ∃ x : Unit, x87 = .bool true ∧ sat W ([A] ++ F) w) → Ent W (A :: Sl 1 3 la lc V.length (V.map I) :: F) S := by
      intro S hS
      subst hS
      refine e_call (cost (A := A) (B := Sl 1 3 la lc V.length (V.map I)) (hA A) (hB _) f4 f2 (by omega) f3.2) (.cons .here (.cons .here .nil)) fun _ => ?_
      (try simp only [List.cons_append, List.nil_append, -eq_self])
      refine e_opN (v_extN (vs := [_, _]) .here) Imp.nil ?_
      refine e_opN (v_extN (vs := [_, _]) (.there .here)) Imp.nil ?_
      refine e_opN v_not Imp.nil ?_
      cases hok : okB freq t lim with
      | false =>
        rw [Bool.false_and, show (!false) = true from rfl]
        ((with_reducible refine e_gdF1 ?_)); ((with_reducible refine e_gdF1 ?_)); ((with_reducible refine e_gdF1 ?_)); (((with_reducible refine e_opN v_pickT Imp.nil ?_)))
        (first | refine e_ret (()) rfl ?_ | refine e_retT (()) ?_)
        (repeat (first | exact Imp.refl | exact Imp.nil | (apply Imp.pick; (focus ((repeat constructor); done))) | refine Imp.drop ?_))
      | true =>
        rw [Bool.true_and, if_pos rfl]
        by_cases hk : krF t ≤ 32768
        · have := f9 t hok hk
          rw [decide_eq_true hk, show (!true) = false from rfl]
          refine e_gdT ?_
          refine e_gdT ?_
          refine e_gdT ?_
          refine e_opN v_leq Imp.nil ?_
          rw [decide_eq_true this]
          (((with_reducible refine e_opN v_pickF Imp.nil ?_)))
          (first | refine e_ret (()) rfl ?_ | refine e_retT (()) ?_)
          (repeat (first | exact Imp.refl | exact Imp.nil | (apply Imp.pick; (focus ((repeat constructor); done))) | refine Imp.drop ?_))
        · rw [decide_eq_false hk, show (!false) = true from rfl]
          ((with_reducible refine e_gdF1 ?_)); ((with_reducible refine e_gdF1 ?_)); ((with_reducible refine e_gdF1 ?_)); (((with_reducible refine e_opN v_pickT Imp.nil ?_)))
          (first | refine e_ret (()) rfl ?_ | refine e_retT (()) ?_)
          (repeat (first | exact Imp.refl | exact Imp.nil | (apply Imp.pick; (focus ((repeat constructor); done))) | refine Imp.drop ?_))
    by_cases hk2 : 1 < freq.countP fun x => decide (0 < x)
    · have hfull : fullB V = true := by
        have hkr := f8 hk2
        have hin : inL V := fun x hx => by have := f5 x hx; omega
        have hwk := wk_kr (l := V) fun x hx => (hin x hx).2
        rw [hkr] at hwk
        have hw : wk V 15 = 32768 := by
          have e : ((2 : Int) ^ 15) = ((32768 : Nat) : Int) := rfl
          rw [e] at hwk
          exact Int.ofNat.inj hwk
        unfold fullB
        rw [decide_eq_true (okL_iff.2 ⟨by omega, hin, by omega⟩), decide_eq_true hw]; rfl
      rw [decide_eq_true (by omega)]
      refine e_gdT ?_
      refine e_gdT ?_
      refine e_call (full rdV (by omega)) (.cons (.there .here) .nil) fun _ => ?_
      (try simp only [List.cons_append, List.nil_append, -eq_self])
      rw [hfull]
      refine e_gdT ?_
      refine e_opN v_notT Imp.nil ?_
      refine e_opN v_pickT Imp.nil ?_
      refine e_condF ?_
      refine e_imp (M := A :: Sl 1 3 la lc V.length (V.map I) :: F) (by (repeat (first | exact Imp.refl | exact Imp.nil | (apply Imp.pick; (focus ((repeat constructor); done))) | refine Imp.drop ?_))) ?_
      exact tail _ rfl
    · rw [decide_eq_false (by omega)]
      ((with_reducible refine e_gdF2 ?_)); ((with_reducible refine e_gdF2 ?_)); ((with_reducible refine e_gdF2 ?_)); (((with_reducible refine e_opN v_pickF Imp.nil ?_))); ((with_reducible refine e_condF ?_))
      exact tail _ rfl
theorem cn_pre {P : Program} {f : FuncId} {args : List Value} {W : World} {α : Type} {r : α → Value} (h : Cn P f args W [pu True] r (fun _ => [pu True])) : Cn P f args W [] r (fun _ => []) :=
  ⟨h.call, fun F w hw => (h.run F w ((Imp.pu (L := F) trivial .refl).sat hw)).mono fun e w' ⟨x, he, hs⟩ => ⟨x, he, hs.drop⟩⟩
end Go.Proofs.Ytehfblkpbadikaa.HF
