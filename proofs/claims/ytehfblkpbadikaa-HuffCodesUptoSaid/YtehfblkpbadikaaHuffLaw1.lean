/- The laws HuffCodes and HuffPrefix: what they do. No conditions but those that each names. -/
import Derived.Test.YtehfblkpbadikaaHuffKn
set_option linter.unusedVariables false
set_option linter.unusedSimpArgs false
namespace Go.Proofs.Ytehfblkpbadikaa.HF
open Go Go.Proofs Go.RowKit Go.Proofs.Ytehfblkpbadikaa.Sh Go.Proofs.Ytehfblkpbadikaa.Sl Go.Proofs.Ytehfblkpbadikaa.T Go.Proofs.Ytehfblkpbadikaa.HM
theorem v_beql {P : Program} {W : World} {t : TypeId} {ox oy : Operand} {a b : Bool} (ht : P.underlying t = some .bool) : RunV P W [] (sEq .eql t ox oy (.bool a) (.bool b)) (.bool (decide (a = b))) := fun w _ => by
  have h : (Op.equal t (.bool a) (.bool b)).run P w = .ok (a == b) w := by
    unfold Op.equal Op.maxDepth Op.equalIn
    simp only [Sem.run_bind, run_underlying ht, Result.andThen_ok]
    rfl
  simp [sEq, sv, eqGuard, binOp, h, Result.andThen]
  cases a <;> cases b <;> rfl
theorem cdL_len_le (l : List Int) : (cdL l).length ≤ l.length := by unfold cdL; split <;> simp [length_codes]
theorem huffCodes {W : World} {a : Option Addr} {cap : Nat} {l : List Int} (hr : ∀ A, RdB W A a l.length (l.map I)) (hl : l.length ≤ 1048576) :
    Cn Try.prog 5 [.slice a l.length cap] W [] (fun _ : Unit => .bool true) (fun _ => []) := by
  (refine S.law03_HuffCodes_cn fun F => ?_; unfold S.law03_HuffCodes; simp only [List.cons_append, List.nil_append])
  refine e_imp (M := pu True :: _) (.pu trivial .refl) ?_
  refine e_bslN (vs := []) rfl rfl (by simp) (by omega) fun g0 => ?_
  refine e_own (s := 1) (n := 0) .here (by rfl) (by unfold maxLen; omega) ?_
  refine e_app (m := l.length) (news := l.map I) .here (src_rd (e' := 3) (by kernel_rfl) (.there .here) (hr (pu True)) (rd_none (hr (pu True))) I_one) (by omega) (by omega) fun a1 c1 => ?_
  rw [Nat.zero_add, List.nil_append]
  refine e_slfacts .here fun f1 f2 f3 f4 => ?_
  have rdx : RdB W (Sl 1 3 a1 c1 l.length (l.map I)) a1 l.length (l.map I) := rd_sl (by simp) f4
  (refine' e_call (codes_ rdx (by omega)) ?hp fun _ => ?_; (case hp => (repeat (first | exact Picks.nil | (apply Picks.cons; (focus (repeat constructor)))))); (try simp only [List.cons_append, List.nil_append, Bool.not_true, Bool.not_false]))
  rename_i q
  obtain ⟨qa, qc⟩ := q
  (try dsimp only)
  (((with_reducible refine' e_opN (v_ext ?h1) Imp.nil ?_); (case h1 => rfl))); (((with_reducible refine' e_opN (v_ext ?h1) Imp.nil ?_); (case h1 => rfl)))
  refine e_slfacts .here fun g1 g2 g3 g4 => ?_
  refine e_imp (M := pu True :: _) (.pu trivial .refl) ?_
  (refine' e_call (refCodes (hr (pu True)) (by omega)) ?hp fun _ => ?_; (case hp => (repeat (first | exact Picks.nil | (apply Picks.cons; (focus (repeat constructor)))))); (try simp only [List.cons_append, List.nil_append, Bool.not_true, Bool.not_false]))
  rename_i r
  obtain ⟨ra, rc⟩ := r
  (try dsimp only)
  (((with_reducible refine' e_opN (v_ext ?h1) Imp.nil ?_); (case h1 => rfl))); (((with_reducible refine' e_opN (v_ext ?h1) Imp.nil ?_); (case h1 => rfl)))
  refine e_slfacts .here fun i1 i2 i3 i4 => ?_
  have hcl := cdL_len_le l
  (refine' e_call (sameInts (x := cdL l) (y := cdL l) (rd_sl (by simp) g4) (rd_sl (by simp) i4) (by omega)) ?hp fun _ => ?_; (case hp => (repeat (first | exact Picks.nil | (apply Picks.cons; (focus (repeat constructor)))))); (try simp only [List.cons_append, List.nil_append, Bool.not_true, Bool.not_false]))
  (first | rw [decide_eq_true rfl] | simp only [decide_true])
  ((with_reducible refine e_gdT ?_)); ((with_reducible refine e_gdT ?_))
  (refine' e_call (num) ?hp fun _ => ?_; (case hp => (repeat (first | exact Picks.nil | (apply Picks.cons; (focus (repeat constructor)))))); (try simp only [List.cons_append, List.nil_append, Bool.not_true, Bool.not_false]))
  ((with_reducible refine e_gdT ?_)); ((with_reducible refine e_gdT ?_))
  refine e_opN v_eql Imp.nil ?_
  (first | rw [decide_eq_true rfl] | simp only [decide_true])
  (((with_reducible refine e_opN v_pickT Imp.nil ?_))); ((with_reducible refine e_gdT ?_)); ((with_reducible refine e_gdT ?_))
  (refine' e_call (full rdx (by omega)) ?hp fun _ => ?_; (case hp => (repeat (first | exact Picks.nil | (apply Picks.cons; (focus (repeat constructor)))))); (try simp only [List.cons_append, List.nil_append, Bool.not_true, Bool.not_false]))
  ((with_reducible refine e_gdT ?_)); ((with_reducible refine e_gdT ?_))
  refine e_imp (M := pu True :: _) (.pu trivial .refl) ?_
  (refine' e_call (refFull (hr (pu True)) (by omega)) ?hp fun _ => ?_; (case hp => (repeat (first | exact Picks.nil | (apply Picks.cons; (focus (repeat constructor)))))); (try simp only [List.cons_append, List.nil_append, Bool.not_true, Bool.not_false]))
  ((with_reducible refine e_gdT ?_))
  refine e_opN (v_beql (by kernel_rfl)) Imp.nil ?_
  (first | rw [decide_eq_true rfl] | simp only [decide_true])
  (((with_reducible refine e_opN v_pickT Imp.nil ?_))); ((with_reducible refine e_gdT ?_)); ((with_reducible refine e_gdT ?_)); ((with_reducible refine e_gdT ?_))
  refine e_imp (M := pu True :: _) (.pu trivial .refl) ?_
  (refine' e_call (sameInts (x := l) (y := l) rdx (hr (pu True)) (by omega)) ?hp fun _ => ?_; (case hp => (repeat (first | exact Picks.nil | (apply Picks.cons; (focus (repeat constructor)))))); (try simp only [List.cons_append, List.nil_append, Bool.not_true, Bool.not_false]))
  (first | rw [decide_eq_true rfl] | simp only [decide_true])
  (((with_reducible refine e_opN v_pickT Imp.nil ?_))); ((with_reducible refine e_gdT ?_))
  (refine' e_call (knows) ?hp fun _ => ?_; (case hp => (repeat (first | exact Picks.nil | (apply Picks.cons; (focus (repeat constructor)))))); (try simp only [List.cons_append, List.nil_append, Bool.not_true, Bool.not_false]))
  (((with_reducible refine e_opN v_pickT Imp.nil ?_)))
  (first | refine e_ret (()) rfl ?_ | refine e_retT (()) ?_)
  (repeat (first | exact Imp.refl | exact Imp.nil | (apply Imp.pick; (focus ((repeat constructor); done))) | refine Imp.drop ?_))
theorem num_eq0 {l : List Int} : cdR l ≠ 0 ↔ ¬ okL l := by
  unfold cdR; by_cases h : okL l <;> simp [h]
theorem huffPrefix {W : World} {a : Option Addr} {cap : Nat} {l : List Int} (hr : ∀ A, RdB W A a l.length (l.map I)) (hb : ∀ x ∈ l, -9223372036854775808 ≤ x ∧ x ≤ 9223372036854775807) (hl : l.length ≤ 1048576) :
    Cn Try.prog 4 [.slice a l.length cap] W [] (fun _ : Unit => .bool true) (fun _ => []) := by
  (refine S.law03_HuffPrefix_cn fun F => ?_; unfold S.law03_HuffPrefix; simp only [List.cons_append, List.nil_append])
  refine e_imp (M := pu True :: _) (.pu trivial .refl) ?_
  (refine' e_call (codes_ (hr (pu True)) (by omega)) ?hp fun _ => ?_; (case hp => (repeat (first | exact Picks.nil | (apply Picks.cons; (focus (repeat constructor)))))); (try simp only [List.cons_append, List.nil_append, Bool.not_true, Bool.not_false]))
  rename_i q
  obtain ⟨qa, qc⟩ := q
  (try dsimp only)
  (((with_reducible refine' e_opN (v_ext ?h1) Imp.nil ?_); (case h1 => rfl))); (((with_reducible refine' e_opN (v_ext ?h1) Imp.nil ?_); (case h1 => rfl)))
  (refine' e_call (num) ?hp fun _ => ?_; (case hp => (repeat (first | exact Picks.nil | (apply Picks.cons; (focus (repeat constructor)))))); (try simp only [List.cons_append, List.nil_append, Bool.not_true, Bool.not_false]))
  refine e_opN v_neq Imp.nil ?_
  by_cases hok : ¬ okL l
  · rw [decide_eq_true (num_eq0.2 hok)]
    ((with_reducible refine e_gdF1 ?_)); ((with_reducible refine e_gdF1 ?_)); (((with_reducible refine e_opN v_pickT Imp.nil ?_))); ((with_reducible refine e_condT ?_))
    (refine' e_call (knows) ?hp fun _ => ?_; (case hp => (repeat (first | exact Picks.nil | (apply Picks.cons; (focus (repeat constructor)))))); (try simp only [List.cons_append, List.nil_append, Bool.not_true, Bool.not_false]))
    (first | refine e_ret (()) rfl ?_ | refine e_retT (()) ?_)
    (repeat (first | exact Imp.refl | exact Imp.nil | (apply Imp.pick; (focus ((repeat constructor); done))) | refine Imp.drop ?_))
  rw [decide_eq_false (fun c => hok (num_eq0.1 c))]
  have hok := Decidable.not_not.1 hok
  have hB : cdL l = codes l := by simp [cdL, hok]
  have hcl := length_codes l
  rw [hB, hcl]
  ((with_reducible refine e_gdT ?_))
  (refine' e_call (knows) ?hp fun _ => ?_; (case hp => (repeat (first | exact Picks.nil | (apply Picks.cons; (focus (repeat constructor)))))); (try simp only [List.cons_append, List.nil_append, Bool.not_true, Bool.not_false]))
  ((with_reducible refine e_gdT ?_)); (((with_reducible refine e_opN v_notT Imp.nil ?_))); (((with_reducible refine e_opN v_pickF Imp.nil ?_))); ((with_reducible refine e_condF ?_))
  refine e_slfacts .here fun f1 f2 f3 f4 => ?_
  have rdx : RdB W (Sl 1 3 qa qc l.length ((codes l).map I)) qa l.length ((codes l).map I) := rd_sl (by rw [List.length_map, hcl]) f4
  refine e_loop1 (fun m y => [ex fun i : Nat => all [pu (m + i = l.length ∧ y = .int .i64 (i : Int)), Sl 1 3 qa qc l.length ((codes l).map I), pu True]] ++ F) l.length ?_ ?_
  · refine .ex 0 (.all ?_)
    (try simp only [List.cons_append, List.nil_append, -eq_self])
    exact .pu ⟨by omega, rfl⟩ .refl
  intro m ds y
  (try simp only [List.cons_append, List.nil_append, -eq_self])
  refine e_ex Pick.here fun i => e_all Pick.here ?_
  (try simp only [List.cons_append, List.nil_append, -eq_self])
  refine e_pu Pick.here fun hi => ?_
  obtain ⟨hmi, rfl⟩ := hi
  (((with_reducible refine e_opN v_len Imp.nil ?_)))
  (refine e_ask v_lss Imp.nil (fun h => ?_) (fun h => ?_))
  · have hil : i < l.length := by omega
    obtain ⟨ga, oa, rfl, _⟩ := (hr (pu True)).at_ (by omega)
    obtain ⟨gq, rfl⟩ := f4 (by omega)
    refine e_condT ?_
    refine e_loop1 (fun m y => [ex fun k : Nat => all [pu (m + k = l.length ∧ y = .int .i64 (k : Int)), Sl 1 3 (some ⟨gq, 0, none⟩) qc l.length ((codes l).map I), pu True]] ++ F) l.length ?_ ?_
    · refine .ex 0 (.all ?_)
      (try simp only [List.cons_append, List.nil_append, -eq_self])
      exact .pu ⟨by omega, rfl⟩ .refl
    intro m2 ds y
    (try simp only [List.cons_append, List.nil_append, -eq_self])
    refine e_ex Pick.here fun k => e_all Pick.here ?_
    (try simp only [List.cons_append, List.nil_append, -eq_self])
    refine e_pu Pick.here fun hk => ?_
    obtain ⟨hmk, rfl⟩ := hk
    (((with_reducible refine e_opN v_len Imp.nil ?_)))
    (refine e_ask v_lss Imp.nil (fun h => ?_) (fun h => ?_))
    · have hkl : k < l.length := by omega
      have bi := hok.ins l[i] (List.getElem_mem hil)
      have bk := hok.ins l[k] (List.getElem_mem hkl)
      refine e_condT ?_
      refine e_opN (v_ia1 i (by rfl) hil) Imp.nil ?_
      refine e_opN (v_ldRd (hr (pu True)) (I_get hil)) (.pick (by (repeat constructor)) .nil) ?_
      refine e_opN (v_ia1 k (by rfl) hkl) Imp.nil ?_
      refine e_opN (v_ldRd (hr (pu True)) (I_get hkl)) (.pick (by (repeat constructor)) .nil) ?_
      have nxt : Ent W (Sl 1 3 (some ⟨gq, 0, none⟩) qc l.length ((codes l).map I) :: pu True :: F) (next1 (fun m y w => sat W ([ex fun k : Nat => all [pu (m + k = l.length ∧ y = .int .i64 (k : Int)), Sl 1 3 (some ⟨gq, 0, none⟩) qc l.length ((codes l).map I), pu True]] ++ F) w) m2 (.int .i64 ((k : Int) + 1))) := by
        refine e_next1 (m2 - 1) (by omega) (.ex (k + 1) (.all ?_))
        (try simp only [List.cons_append, List.nil_append, -eq_self])
        exact .pu ⟨by omega, by norm_cast⟩ .refl
      ((with_reducible refine e_drS ?_))
      refine e_askS v_neq Imp.nil (fun h1 => ?_) (fun h1 => ?_)
      · ((with_reducible refine e_gdT ?_)); ((with_reducible refine e_gdT ?_))
        refine e_askS v_gtr Imp.nil (fun h2 => ?_) (fun h2 => ?_)
        · (((with_reducible refine e_stS v_pickT Imp.nil ?_))); ((with_reducible refine e_gdT ?_)); ((with_reducible refine e_gdT ?_)); ((with_reducible refine e_gdT ?_))
          refine e_askS v_geq Imp.nil (fun h3 => ?_) (fun h3 => ?_)
          · (((with_reducible refine e_stS v_pickT Imp.nil ?_))); ((with_reducible refine e_gdT ?_)); ((with_reducible refine e_gdT ?_)); ((with_reducible refine e_gdT ?_))
            obtain ⟨x, hx⟩ := Int.eq_ofNat_of_zero_le (show 0 ≤ l[i] by omega)
            obtain ⟨z, hz⟩ := Int.eq_ofNat_of_zero_le (show 0 ≤ l[k] by omega)
            have hap := apart hil hkl (fun c => h1 (by rw [c])) hx hz (by omega) (by omega)
            have gk : ((codes l).map I)[0 + k]? = some (I (codeAt l k)) := by rw [Nat.zero_add, List.getElem?_map, codes, List.getElem?_map, List.getElem?_range hkl]; rfl
            have gi : ((codes l).map I)[0 + i]? = some (I (codeAt l i)) := by rw [Nat.zero_add, List.getElem?_map, codes, List.getElem?_map, List.getElem?_range hil]; rfl
            refine e_stS (v_ia1 k (by rfl) hkl) Imp.nil ?_
            ((with_reducible refine e_gdT ?_))
            refine e_stS (v_ldSl gk) (.pick .here .nil) ?_
            ((with_reducible refine e_gdT ?_)); ((with_reducible refine e_gdT ?_)); ((with_reducible refine e_gdT ?_)); (((with_reducible refine e_stS (v_sub ?h1 ?h2) Imp.nil ?_); (case h1 => omega); (case h2 => omega))); ((with_reducible refine e_gdT ?_))
            refine e_stS v_conv Imp.nil ?_
            rw [wrapu64' (by omega) (by omega), show l[k] - l[i] = ((z - x : Nat) : Int) by omega]
            ((with_reducible refine e_gdT ?_))
            refine e_stS (v_shr (by omega)) Imp.nil ?_
            rw [show ((codeAt l k : Int)).fdiv (2 ^ (min (((z - x : Nat) : Int)).toNat IntKind.i64.bits)) = ((codeAt l k / 2 ^ (z - x) : Nat) : Int) from by
              have : min (((z - x : Nat) : Int)).toNat IntKind.i64.bits = z - x := by simp only [IntKind.bits, Int.toNat_natCast]; omega
              rw [this, Int.fdiv_eq_ediv_of_nonneg _ (Int.le_of_lt (Int.pow_pos (by decide)))]
              norm_cast]
            ((with_reducible refine e_gdT ?_)); ((with_reducible refine e_gdT ?_)); ((with_reducible refine e_gdT ?_))
            refine e_stS (v_ia1 i (by rfl) hil) Imp.nil ?_
            ((with_reducible refine e_gdT ?_))
            refine e_stS (v_ldSl gi) (.pick .here .nil) ?_
            ((with_reducible refine e_gdT ?_))
            refine e_stS v_eql Imp.nil ?_
            rw [decide_eq_false (fun c => hap (by exact_mod_cast c))]
            (((with_reducible refine e_stS v_pickT Imp.nil ?_))); ((with_reducible refine e_condF ?_)); (((with_reducible refine e_opN (v_add ?h1 ?h2) Imp.nil ?_); (case h1 => omega); (case h2 => omega)))
            exact nxt
          · (((with_reducible refine e_stS v_pickT Imp.nil ?_))); ((with_reducible refine e_gdF2 ?_)); ((with_reducible refine e_gdF2 ?_)); ((with_reducible refine e_gdF2 ?_)); ((with_reducible refine e_gdF2 ?_)); ((with_reducible refine e_gdF2 ?_)); ((with_reducible refine e_gdF2 ?_)); ((with_reducible refine e_gdF2 ?_)); ((with_reducible refine e_gdF2 ?_)); ((with_reducible refine e_gdF2 ?_)); ((with_reducible refine e_gdF2 ?_)); ((with_reducible refine e_gdF2 ?_)); ((with_reducible refine e_gdF2 ?_)); ((with_reducible refine e_gdF2 ?_)); ((with_reducible refine e_gdF2 ?_)); (((with_reducible refine e_stS v_pickF Imp.nil ?_))); ((with_reducible refine e_condF ?_)); (((with_reducible refine e_opN (v_add ?h1 ?h2) Imp.nil ?_); (case h1 => omega); (case h2 => omega)))
            exact nxt
        · (((with_reducible refine e_stS v_pickT Imp.nil ?_))); ((with_reducible refine e_gdF2 ?_)); ((with_reducible refine e_gdF2 ?_)); ((with_reducible refine e_gdF2 ?_)); (((with_reducible refine e_stS v_pickF Imp.nil ?_))); ((with_reducible refine e_gdF2 ?_)); ((with_reducible refine e_gdF2 ?_)); ((with_reducible refine e_gdF2 ?_)); ((with_reducible refine e_gdF2 ?_)); ((with_reducible refine e_gdF2 ?_)); ((with_reducible refine e_gdF2 ?_)); ((with_reducible refine e_gdF2 ?_)); ((with_reducible refine e_gdF2 ?_)); ((with_reducible refine e_gdF2 ?_)); ((with_reducible refine e_gdF2 ?_)); ((with_reducible refine e_gdF2 ?_)); ((with_reducible refine e_gdF2 ?_)); ((with_reducible refine e_gdF2 ?_)); ((with_reducible refine e_gdF2 ?_)); (((with_reducible refine e_stS v_pickF Imp.nil ?_))); ((with_reducible refine e_condF ?_)); (((with_reducible refine e_opN (v_add ?h1 ?h2) Imp.nil ?_); (case h1 => omega); (case h2 => omega)))
          exact nxt
      · ((with_reducible refine e_gdF2 ?_)); ((with_reducible refine e_gdF2 ?_)); (((with_reducible refine e_stS v_pickF Imp.nil ?_))); ((with_reducible refine e_gdF2 ?_)); ((with_reducible refine e_gdF2 ?_)); ((with_reducible refine e_gdF2 ?_)); (((with_reducible refine e_stS v_pickF Imp.nil ?_))); ((with_reducible refine e_gdF2 ?_)); ((with_reducible refine e_gdF2 ?_)); ((with_reducible refine e_gdF2 ?_)); ((with_reducible refine e_gdF2 ?_)); ((with_reducible refine e_gdF2 ?_)); ((with_reducible refine e_gdF2 ?_)); ((with_reducible refine e_gdF2 ?_)); ((with_reducible refine e_gdF2 ?_)); ((with_reducible refine e_gdF2 ?_)); ((with_reducible refine e_gdF2 ?_)); ((with_reducible refine e_gdF2 ?_)); ((with_reducible refine e_gdF2 ?_)); ((with_reducible refine e_gdF2 ?_)); ((with_reducible refine e_gdF2 ?_)); (((with_reducible refine e_stS v_pickF Imp.nil ?_))); ((with_reducible refine e_condF ?_)); (((with_reducible refine e_opN (v_add ?h1 ?h2) Imp.nil ?_); (case h1 => omega); (case h2 => omega)))
        exact nxt
    · ((with_reducible refine e_condF ?_)); (((with_reducible refine e_opN (v_add ?h1 ?h2) Imp.nil ?_); (case h1 => omega); (case h2 => omega)))
      refine e_next1 (m - 1) (by omega) (.ex (i + 1) (.all ?_))
      (try simp only [List.cons_append, List.nil_append, -eq_self])
      exact .pu ⟨by omega, by norm_cast⟩ .refl
  · ((with_reducible refine e_condF ?_))
    (first | refine e_ret (()) rfl ?_ | refine e_retT (()) ?_)
    (repeat (first | exact Imp.refl | exact Imp.nil | (apply Imp.pick; (focus ((repeat constructor); done))) | refine Imp.drop ?_))
end Go.Proofs.Ytehfblkpbadikaa.HF
