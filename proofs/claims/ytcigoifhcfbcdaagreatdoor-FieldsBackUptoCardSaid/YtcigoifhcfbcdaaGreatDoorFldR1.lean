/- The document's texts: without blanks, in small letters, tokens, numbers. No conditions but those that each names. -/
import Derived.Test.YtcigoifhcfbcdaaGreatDoorFld3
import Derived.Test.YtcigoifhcfbcdaaGreatDoorFldE
import Derived.Test.YtcigoifhcfbcdaaGreatDoorFld6
set_option linter.unusedVariables false
set_option linter.unusedSimpArgs false
namespace Go.Proofs.YtcigoifhcfbcdaaGreatDoor.FD
open Go Go.Proofs Go.RowKit Go.Proofs.YtcigoifhcfbcdaaGreatDoor.Sh Go.Proofs.YtcigoifhcfbcdaaGreatDoor.Sl Go.Proofs.YtcigoifhcfbcdaaGreatDoor.T
theorem rblank {W : World} {c : UInt8} : Cn Tryz.prog 52 [Sl.B c] W [] (fun _ : Unit => .bool (isBl c)) (fun _ => []) := by
  (refine S.ref01_blank_cn fun F => ?_; unfold S.ref01_blank; simp only [List.cons_append, List.nil_append])
  refine e_opN (B_eq 9 rfl) Imp.nil ?_
  refine e_or1 (fun _ => B_eq 32 rfl) ?_
  refine e_ret () (by unfold isBl; rw [Bool.or_comm]; rfl) ?_
  (repeat (first | exact Imp.refl | exact Imp.nil | (apply Imp.pick; (focus ((repeat constructor); done))) | refine Imp.drop ?_))
theorem trimL_len (l : List UInt8) : (trimL l).length ≤ l.length := (List.dropWhile_sublist (p := isBl) (l := l)).length_le
theorem rtrim {W : World} {l : List UInt8} (hl : l.length ≤ 4611686018427387904) : Cn Tryz.prog 34 [txt l] W [] (fun _ : Unit => txt (trimB l)) (fun _ => []) := by
  have hlr : trimB l = trimR (trimL l) := trimLR l
  have hll := trimL_len l
  (refine S.ref01_Trim_cn fun F => ?_; unfold S.ref01_Trim; simp only [List.cons_append, List.nil_append])
  rw [hlr]
  refine e_loop1 (fun m y => (ex fun u : List UInt8 => pu (m = u.length ∧ y = txt u ∧ trimL u = trimL l ∧ u.length ≤ l.length)) :: F) l.length ?_ ?_
  · refine .ex l (.pu ⟨rfl, rfl, rfl, Nat.le_refl _⟩ ?_)
    (repeat (first | exact Imp.refl | exact Imp.nil | (apply Imp.pick; (focus ((repeat constructor); done))) | refine Imp.drop ?_))
  intro m ds y
  (try simp only [List.cons_append, List.nil_append, -eq_self])
  refine e_ex Pick.here fun u => e_pu Pick.here fun hi => ?_
  obtain ⟨hmi, rfl, htr, hul⟩ := hi
  have tail : u = trimL l → Ent W F (loop1 (fun I2 m2 _ y0_2 =>
     opN Tryz.prog (sLen #[9] 3 [y0_2]) noP fun x14 =>
     opN Tryz.prog (sBin .gtr 3 x14 (.int .i64 0)) noP fun x15 =>
     gdK x15 true (fun k => k y0_2) fun x17 =>
     gdK x15 true (fun k => k y0_2) fun x18 =>
     gdK x15 true (opN Tryz.prog (sLen #[9] 3 [x18]) noP) fun x19 =>
     gdK x15 true (opN Tryz.prog (sBin .sub 3 x19 (.int .i64 1)) noP) fun x20 =>
     gdK x15 true (opN Tryz.prog (sIx 9 x17 x20) noP) fun x21 =>
     gdK x15 true (opN Tryz.prog (sCall (fn 52) [x21]) noP) fun x22 =>
     opN Tryz.prog (sPick x15 x22 (.bool false)) noP fun x23 =>
     condS x23
     (opN Tryz.prog (sLen #[9] 3 [y0_2]) noP fun x26 =>
      opN Tryz.prog (sBin .sub 3 x26 (.int .i64 1)) noP fun x27 =>
      opN Tryz.prog (sSl 9 y0_2 none (some x27) none) noP fun x28 =>
      next1 I2 m2 x28)
     (fun w => ∃ x : Unit, y0_2 = txt (trimR (trimL l)) ∧ sat W ([] ++ F) w)) (txt u)) := by
    intro hu
    refine e_loop1 (fun m y => (ex fun v : List UInt8 => pu (m = v.length ∧ y = txt v ∧ trimR v = trimR (trimL l) ∧ v.length ≤ l.length)) :: F) u.length ?_ ?_
    · refine .ex u (.pu ⟨rfl, rfl, by rw [hu], hul⟩ ?_)
      (repeat (first | exact Imp.refl | exact Imp.nil | (apply Imp.pick; (focus ((repeat constructor); done))) | refine Imp.drop ?_))
    intro m2 ds2 y2
    (try simp only [List.cons_append, List.nil_append, -eq_self])
    refine e_ex Pick.here fun v => e_pu Pick.here fun hi => ?_
    obtain ⟨hm2, rfl, htv, hvl⟩ := hi
    refine e_opN v_lent Imp.nil ?_
    refine e_ask v_gtr Imp.nil (fun h => ?_) (fun h => ?_)
    · obtain ⟨n, hn⟩ : ∃ n, v.length = n + 1 := ⟨v.length - 1, by omega⟩
      ((with_reducible refine e_gdT ?_)); ((with_reducible refine e_gdT ?_)); ((with_reducible refine e_gdT ?_))
      refine e_opN v_lent Imp.nil ?_
      ((with_reducible refine e_gdT ?_)); (((with_reducible refine e_opN (v_sub ?h1 ?h2) Imp.nil ?_); (case h1 => omega); (case h2 => omega))); ((with_reducible refine e_gdT ?_))
      refine e_opN (v_ixS n (by omega) (by omega)) Imp.nil ?_
      ((with_reducible refine e_gdT ?_))
      refine e_call rblank .nil fun _ => ?_
      (try simp only [List.cons_append, List.nil_append, -eq_self])
      (((with_reducible refine e_opN v_pickT Imp.nil ?_)))
      cases hb : isBl (v[n]'(by omega)) with
      | true =>
        refine e_condT ?_
        refine e_opN v_lent Imp.nil ?_
        refine e_opN (v_sub (by omega) (by omega)) Imp.nil ?_
        refine e_opN (v_ssh n (by omega) (by omega)) Imp.nil ?_
        refine e_next1 (m2 - 1) (by omega) (.ex (v.take n) (.pu ⟨by rw [List.length_take]; omega, rfl, (trimR_t hn hb).symm.trans htv, by rw [List.length_take]; omega⟩ ?_))
        (repeat (first | exact Imp.refl | exact Imp.nil | (apply Imp.pick; (focus ((repeat constructor); done))) | refine Imp.drop ?_))
      | false =>
        refine e_condF ?_
        rw [← htv, trimR_f hn hb]
        (first | refine e_ret (()) rfl ?_ | refine e_retT (()) ?_)
        (repeat (first | exact Imp.refl | exact Imp.nil | (apply Imp.pick; (focus ((repeat constructor); done))) | refine Imp.drop ?_))
    · have h0 : v = [] := List.eq_nil_of_length_eq_zero (by omega)
      subst h0
      ((with_reducible refine e_gdF2 ?_)); ((with_reducible refine e_gdF2 ?_)); ((with_reducible refine e_gdF2 ?_)); ((with_reducible refine e_gdF2 ?_)); ((with_reducible refine e_gdF2 ?_)); ((with_reducible refine e_gdF2 ?_)); (((with_reducible refine e_opN v_pickF Imp.nil ?_))); ((with_reducible refine e_condF ?_))
      rw [← htv]
      (first | refine e_ret (()) rfl ?_ | refine e_retT (()) ?_)
      (repeat (first | exact Imp.refl | exact Imp.nil | (apply Imp.pick; (focus ((repeat constructor); done))) | refine Imp.drop ?_))
  refine e_opN v_lent Imp.nil ?_
  refine e_ask v_gtr Imp.nil (fun h => ?_) (fun h => ?_)
  · have h0 : 0 < u.length := by omega
    ((with_reducible refine e_gdT ?_)); ((with_reducible refine e_gdT ?_))
    refine e_opN (v_ixS 0 rfl h0) Imp.nil ?_
    ((with_reducible refine e_gdT ?_))
    refine e_call rblank .nil fun _ => ?_
    (try simp only [List.cons_append, List.nil_append, -eq_self])
    (((with_reducible refine e_opN v_pickT Imp.nil ?_)))
    cases hb : isBl u[0] with
    | true =>
      refine e_condT ?_
      refine e_opN (v_ssl 1 rfl (by omega)) Imp.nil ?_
      refine e_next1 (m - 1) (by omega) (.ex (u.drop 1) (.pu ⟨by rw [List.length_drop]; omega, rfl, (trimL_t h0 hb).symm.trans htr, by rw [List.length_drop]; omega⟩ ?_))
      (repeat (first | exact Imp.refl | exact Imp.nil | (apply Imp.pick; (focus ((repeat constructor); done))) | refine Imp.drop ?_))
    | false =>
      refine e_condF ?_
      exact tail (by rw [← htr, trimL_f h0 hb])
  · have h0 : u = [] := List.eq_nil_of_length_eq_zero (by omega)
    ((with_reducible refine e_gdF2 ?_)); ((with_reducible refine e_gdF2 ?_)); ((with_reducible refine e_gdF2 ?_)); (((with_reducible refine e_opN v_pickF Imp.nil ?_))); ((with_reducible refine e_condF ?_))
    exact tail (by rw [← htr, h0]; rfl)
theorem rlower {W : World} {l : List UInt8} (hl : l.length ≤ 4611686018427387904) : Cn Tryz.prog 35 [txt l] W [] (fun _ : Unit => txt (lowF l)) (fun _ => []) := by
  (refine S.ref01_Lower_cn fun F => ?_; unfold S.ref01_Lower; simp only [List.cons_append, List.nil_append])
  refine e_sbytesF Tryz.underlying57 Tryz.underlying5 fun g c rest => ?_
  refine e_loop1 (fun m y => [ex fun i : Nat => all [pu (m + i = l.length ∧ y = .int .i64 (i : Int)), pt g (.cells (((l.take i).map lowB ++ l.drop i).map B ++ rest).toArray 5 (l.length + rest.length, l.length + rest.length + 1))]] ++ F) l.length ?_ ?_
  · refine Imp.ex 0 (.all ?_)
    (try simp only [List.cons_append, List.nil_append, -eq_self])
    rw [List.take_zero, List.drop_zero, List.map_nil, List.nil_append]
    exact .pu ⟨by omega, rfl⟩ .refl
  intro m ds y
  (try simp only [List.cons_append, List.nil_append, -eq_self])
  refine e_ex Pick.here fun i => e_all Pick.here ?_
  (try simp only [List.cons_append, List.nil_append, -eq_self])
  refine e_pu Pick.here fun hi => ?_
  obtain ⟨hmi, rfl⟩ := hi
  refine e_opN v_len Imp.nil ?_
  (refine e_ask v_lss Imp.nil (fun h => ?_) (fun h => ?_))
  · have hil : i < l.length := by omega
    refine e_condT ?_
    have hcl : ((l.take i).map lowB ++ l.drop i).length = l.length := by simp; omega
    have hget : ((((l.take i).map lowB ++ l.drop i).map B ++ rest).toArray)[i]? = some (B l[i]) := by
      simp [List.getElem?_append, hil, Nat.min_eq_left (Nat.le_of_lt hil)]
      intro h0; omega
    have ld : RunV Tryz.prog W [pt g (.cells (((l.take i).map lowB ++ l.drop i).map B ++ rest).toArray 5 (l.length + rest.length, l.length + rest.length + 1))] (sLoad 5 (.pointer (some ⟨g, i, none⟩))) (B l[i]) := v_ld hget
    refine e_opN (v_ia1 i rfl hil) Imp.nil ?_
    rw [Nat.zero_add]
    refine e_opN ld (.pick .here .nil) ?_
    have step : ∀ x, x = lowB l[i] → (((l.take i).map lowB ++ l.drop i).map B ++ rest).toArray.setIfInBounds i (B x) = (((l.take (i + 1)).map lowB ++ l.drop (i + 1)).map B ++ rest).toArray := by
      intro x hx
      subst hx
      rw [List.setIfInBounds_toArray]
      congr 1
      rw [dr hil, List.take_succ_eq_append_getElem hil]
      rw [List.map_append, List.map_append, List.map_append, List.map_append]
      have hk : (List.map B (List.map lowB (List.take i l))).length = i := by simp; omega
      rw [List.append_assoc, List.append_assoc, List.append_assoc, List.set_append, if_neg (by rw [hk]; omega), hk, Nat.sub_self]
      rfl
    have h65 : ((65 : Int) ≤ (l[i].toNat : Int) ∧ (l[i].toNat : Int) ≤ 90) ↔ (65 ≤ l[i] ∧ l[i] ≤ 90) := by
      rw [UInt8.le_iff_toNat_le, UInt8.le_iff_toNat_le]
      simp only [show (65 : UInt8).toNat = 65 from rfl, show (90 : UInt8).toNat = 90 from rfl]
      omega
    have no : ¬ (65 ≤ l[i] ∧ l[i] ≤ 90) → Ent W (pt g (.cells (((l.take i).map lowB ++ l.drop i).map B ++ rest).toArray 5 (l.length + rest.length, l.length + rest.length + 1)) :: F) (opN Tryz.prog (sBin .add 3 (.int .i64 (i : Int)) (.int .i64 1)) noP fun x12 => next1 (fun m y w => sat W ([ex fun i : Nat => all [pu (m + i = l.length ∧ y = .int .i64 (i : Int)), pt g (.cells (((l.take i).map lowB ++ l.drop i).map B ++ rest).toArray 5 (l.length + rest.length, l.length + rest.length + 1))]] ++ F) w) m x12) := by
      intro hno
      have hlo : lowB l[i] = l[i] := if_neg hno
      have e2 : (((l.take i).map lowB ++ l.drop i).map B ++ rest).toArray = (((l.take (i + 1)).map lowB ++ l.drop (i + 1)).map B ++ rest).toArray := by
        rw [← step _ hlo.symm]
        refine Array.ext_getElem? fun j => ?_
        rw [Array.getElem?_setIfInBounds]
        by_cases hj : i = j
        · subst hj
          rw [if_pos rfl, hget, if_pos (by simp; omega)]
        · rw [if_neg hj]
      rw [e2]
      refine e_opN (v_add (by omega) (by omega)) Imp.nil ?_
      refine e_next1 (m - 1) (by omega) (.ex (i + 1) (.all ?_))
      (try simp only [List.cons_append, List.nil_append, -eq_self])
      exact .pu ⟨by omega, rfl⟩ .refl
    refine e_opN (v_geq (q := .u8) (a := (l[i].toNat : Int)) (b := 65)) Imp.nil ?_
    by_cases h1 : (65 : Int) ≤ (l[i].toNat : Int)
    · rw [decide_eq_true h1]
      refine e_gdT ?_
      refine e_gdT ?_
      refine e_gdT ?_
      refine e_opN (v_ia1 i rfl hil) Imp.nil ?_
      rw [Nat.zero_add]
      refine e_gdT ?_
      refine e_opN ld (.pick .here .nil) ?_
      refine e_gdT ?_
      refine e_opN (v_leq (q := .u8) (a := (l[i].toNat : Int)) (b := 90)) Imp.nil ?_
      refine e_opN v_pickT Imp.nil ?_
      by_cases h2 : (l[i].toNat : Int) ≤ 90
      · rw [decide_eq_true h2]
        refine e_condT ?_
        have hlo : lowB l[i] = l[i] + 32 := if_pos (h65.1 ⟨h1, h2⟩)
        have hn : (lowB l[i]).toNat = (l[i]).toNat + 32 := by
          rw [hlo, UInt8.toNat_add]
          simp only [show (32 : UInt8).toNat = 32 from rfl]
          omega
        refine e_opN (v_ia1 i rfl hil) Imp.nil ?_
        rw [Nat.zero_add]
        refine e_opN ld (.pick .here .nil) ?_
        refine e_opN (v_addw (q := .u8) (a := (l[i].toNat : Int)) (b := 32)) Imp.nil ?_
        rw [show IntKind.u8.wrap ((l[i].toNat : Int) + 32) = ((lowB l[i]).toNat : Int) by
          rw [hn]
          simp [IntKind.wrap, IntKind.signed, IntKind.bits]; omega]
        refine e_opN (v_ia1 i rfl hil) Imp.nil ?_
        rw [Nat.zero_add]
        refine e_stF (v := B (lowB l[i])) .here (by simp; omega) (by simp; omega) ?_
        rw [step _ rfl]
        refine e_opN (v_add (by omega) (by omega)) Imp.nil ?_
        refine e_next1 (m - 1) (by omega) (.ex (i + 1) (.all ?_))
        (try simp only [List.cons_append, List.nil_append, -eq_self])
        exact .pu ⟨by omega, rfl⟩ .refl
      · rw [decide_eq_false h2]
        refine e_condF ?_
        exact no (fun c => h2 (h65.2 c).2)
    · rw [decide_eq_false h1]
      refine e_gdF2 ?_
      refine e_gdF2 ?_
      refine e_gdF2 ?_
      refine e_gdF2 ?_
      refine e_gdF2 ?_
      refine e_opN v_pickF Imp.nil ?_
      refine e_condF ?_
      exact no (fun c => h1 (h65.2 c).1)
  · have hie : i = l.length := by omega
    subst hie
    refine e_condF ?_
    rw [List.take_length, List.drop_length, List.append_nil]
    have hrd := rd_row (W := W) (g := g) (e := 5) (fz := (l.length + rest.length, l.length + rest.length + 1)) (cs := (lowF l).map B) (rest := rest)
    have e1 : ((lowF l).map B).length = l.length := by simp [lowF]
    rw [e1] at hrd
    refine e_opN (v_str (l := lowF l) hrd (by intro h; cases h)) (.pick .here .nil) ?_
    (first | refine e_ret (()) rfl ?_ | refine e_retT (()) ?_)
    (repeat (first | exact Imp.refl | exact Imp.nil | (apply Imp.pick; (focus ((repeat constructor); done))) | refine Imp.drop ?_))
theorem rletter {W : World} {c : UInt8} : Cn Tryz.prog 53 [Sl.B c] W [] (fun _ : Unit => .bool (alnB c)) (fun _ => []) := by
  have ha := aln_i c.toNat_lt
  rw [u8_id] at ha
  (refine S.ref01_letter_cn fun F => ?_; unfold S.ref01_letter; simp only [List.cons_append, List.nil_append])
  refine e_opN (v_geq (q := .u8) (a := (c.toNat : Int)) (b := 97)) Imp.nil ?_
  refine e_and (fun _ => v_leq (q := .u8) (a := (c.toNat : Int)) (b := 122)) ?_
  refine e_orand (fun _ => v_geq (q := .u8) (a := (c.toNat : Int)) (b := 65)) (fun _ _ => v_leq (q := .u8) (a := (c.toNat : Int)) (b := 90)) ?_
  refine e_orand (fun _ => v_geq (q := .u8) (a := (c.toNat : Int)) (b := 48)) (fun _ _ => v_leq (q := .u8) (a := (c.toNat : Int)) (b := 57)) ?_
  rw [ha]
  (first | refine e_ret (()) rfl ?_ | refine e_retT (()) ?_)
  (repeat (first | exact Imp.refl | exact Imp.nil | (apply Imp.pick; (focus ((repeat constructor); done))) | refine Imp.drop ?_))
theorem rtoken {W : World} {l : List UInt8} (hl : l.length ≤ 4611686018427387904) : Cn Tryz.prog 36 [txt l] W [] (fun _ : Unit => .bool (tokF l)) (fun _ => []) := by
  (refine S.ref01_Token_cn fun F => ?_; unfold S.ref01_Token; simp only [List.cons_append, List.nil_append])
  refine e_loop1 (fun m y => (ex fun i : Nat => pu (m + i = l.length ∧ y = .int .i64 (i : Int) ∧ l.all tokB = (l.drop i).all tokB)) :: F) l.length ?_ ?_
  · refine .ex 0 (.pu ⟨by omega, rfl, rfl⟩ ?_)
    (repeat (first | exact Imp.refl | exact Imp.nil | (apply Imp.pick; (focus ((repeat constructor); done))) | refine Imp.drop ?_))
  intro m ds y
  (try simp only [List.cons_append, List.nil_append, -eq_self])
  refine e_ex Pick.here fun i => e_pu Pick.here fun hi => ?_
  obtain ⟨hmi, rfl, hall⟩ := hi
  refine e_opN v_lent Imp.nil ?_
  (refine e_ask v_lss Imp.nil (fun h => ?_) (fun h => ?_))
  · have hil : i < l.length := by omega
    have hnb : nb l = true := by cases l with
      | nil => simp at hil
      | cons _ _ => rfl
    refine e_condT ?_
    refine e_opN (v_ixS i rfl hil) Imp.nil ?_
    rw [dr hil, List.all_cons] at hall
    refine e_cut1 (fun z => pu (z = .bool (tokC.contains l[i])) :: F) ?_ ?_
    · intro ds2 z
      refine e_pu .here fun hz => ?_
      subst hz
      have htk : tokB l[i] = (alnB l[i] || tokC.contains l[i]) := rfl
      have go : tokB l[i] = true → Ent W F (opN Tryz.prog (sBin .add 3 (.int .i64 (i : Int)) (.int .i64 1)) noP fun x9 => next1 (fun m y w => sat W ((ex fun i : Nat => pu (m + i = l.length ∧ y = .int .i64 (i : Int) ∧ l.all tokB = (l.drop i).all tokB)) :: F) w) m x9) := by
        intro ht
        rw [ht, Bool.true_and] at hall
        refine e_opN (v_add (by omega) (by omega)) Imp.nil ?_
        refine e_next1 (m - 1) (by omega) (.ex (i + 1) (.pu ⟨by omega, rfl, hall⟩ ?_))
        (repeat (first | exact Imp.refl | exact Imp.nil | (apply Imp.pick; (focus ((repeat constructor); done))) | refine Imp.drop ?_))
      cases hc : tokC.contains l[i] with
      | true =>
        refine e_condT ?_
        exact go (by rw [htk, hc, Bool.or_true])
      | false =>
        rw [hc, Bool.or_false] at htk
        refine e_condF ?_
        refine e_opN (v_ixS i rfl hil) Imp.nil ?_
        refine e_call rletter .nil fun _ => ?_
        (try simp only [List.cons_append, List.nil_append, -eq_self])
        refine e_opN v_not Imp.nil ?_
        cases ha : alnB l[i] with
        | true =>
          refine e_condF ?_
          exact go (by rw [htk, ha])
        | false =>
          refine e_condT ?_
          have : tokF l = false := by
            unfold tokF
            rw [hall, htk, ha]; simp
          rw [this]
          (first | refine e_ret (()) rfl ?_ | refine e_retT (()) ?_)
          (repeat (first | exact Imp.refl | exact Imp.nil | (apply Imp.pick; (focus ((repeat constructor); done))) | refine Imp.drop ?_))
    · skip
      refine e_opN (B_eq 33 rfl) Imp.nil ?_
      refine e_cond (φ := l[i] = 33) rfl (fun h => e_sat (.pu (by rw [h]; rfl) .refl)) (fun h33 => ?_)
      refine e_opN (B_eq 35 rfl) Imp.nil ?_
      refine e_cond (φ := l[i] = 35) rfl (fun h => e_sat (.pu (by rw [h]; rfl) .refl)) (fun h35 => ?_)
      refine e_opN (B_eq 36 rfl) Imp.nil ?_
      refine e_cond (φ := l[i] = 36) rfl (fun h => e_sat (.pu (by rw [h]; rfl) .refl)) (fun h36 => ?_)
      refine e_opN (B_eq 37 rfl) Imp.nil ?_
      refine e_cond (φ := l[i] = 37) rfl (fun h => e_sat (.pu (by rw [h]; rfl) .refl)) (fun h37 => ?_)
      refine e_opN (B_eq 38 rfl) Imp.nil ?_
      refine e_cond (φ := l[i] = 38) rfl (fun h => e_sat (.pu (by rw [h]; rfl) .refl)) (fun h38 => ?_)
      refine e_opN (B_eq 39 rfl) Imp.nil ?_
      refine e_cond (φ := l[i] = 39) rfl (fun h => e_sat (.pu (by rw [h]; rfl) .refl)) (fun h39 => ?_)
      refine e_opN (B_eq 42 rfl) Imp.nil ?_
      refine e_cond (φ := l[i] = 42) rfl (fun h => e_sat (.pu (by rw [h]; rfl) .refl)) (fun h42 => ?_)
      refine e_opN (B_eq 43 rfl) Imp.nil ?_
      refine e_cond (φ := l[i] = 43) rfl (fun h => e_sat (.pu (by rw [h]; rfl) .refl)) (fun h43 => ?_)
      refine e_opN (B_eq 45 rfl) Imp.nil ?_
      refine e_cond (φ := l[i] = 45) rfl (fun h => e_sat (.pu (by rw [h]; rfl) .refl)) (fun h45 => ?_)
      refine e_opN (B_eq 46 rfl) Imp.nil ?_
      refine e_cond (φ := l[i] = 46) rfl (fun h => e_sat (.pu (by rw [h]; rfl) .refl)) (fun h46 => ?_)
      refine e_opN (B_eq 94 rfl) Imp.nil ?_
      refine e_cond (φ := l[i] = 94) rfl (fun h => e_sat (.pu (by rw [h]; rfl) .refl)) (fun h94 => ?_)
      refine e_opN (B_eq 95 rfl) Imp.nil ?_
      refine e_cond (φ := l[i] = 95) rfl (fun h => e_sat (.pu (by rw [h]; rfl) .refl)) (fun h95 => ?_)
      refine e_opN (B_eq 96 rfl) Imp.nil ?_
      refine e_cond (φ := l[i] = 96) rfl (fun h => e_sat (.pu (by rw [h]; rfl) .refl)) (fun h96 => ?_)
      refine e_opN (B_eq 124 rfl) Imp.nil ?_
      refine e_cond (φ := l[i] = 124) rfl (fun h => e_sat (.pu (by rw [h]; rfl) .refl)) (fun h124 => ?_)
      refine e_opN (B_eq 126 rfl) Imp.nil ?_
      refine e_sat (.pu ?_ .refl)
      rw [show tokC.contains l[i] = decide (l[i] = 126) by simp [tokC, h33, h35, h36, h37, h38, h39, h42, h43, h45, h46, h94, h95, h96, h124]]
  · rw [List.drop_of_length_le (by omega), List.all_nil] at hall
    refine e_condF ?_
    refine e_opN v_lent Imp.nil ?_
    refine e_opN v_gtr Imp.nil ?_
    have : tokF l = decide ((0 : Int) < (l.length : Int)) := by
      unfold tokF
      rw [hall, Bool.and_true]
      cases l <;> simp [nb]
    rw [this]
    (first | refine e_ret (()) rfl ?_ | refine e_retT (()) ?_)
    (repeat (first | exact Imp.refl | exact Imp.nil | (apply Imp.pick; (focus ((repeat constructor); done))) | refine Imp.drop ?_))
def worF (c : UInt8) : Int := if digB c then (c.toNat : Int) - 48 else -1
theorem rworth {W : World} {c : UInt8} : Cn Tryz.prog 58 [Sl.B c, .int .i64 10] W [] (fun _ : Unit => .int .i64 (worF c)) (fun _ => []) := by
  have hlt := c.toNat_lt
  have hd : digB c = true ↔ (48 ≤ c.toNat ∧ c.toNat ≤ 57) := by
    unfold digB
    rw [decide_eq_true_iff, UInt8.le_iff_toNat_le, UInt8.le_iff_toNat_le]
    exact Iff.rfl
  (refine S.ref01_worth_cn fun F => ?_; unfold S.ref01_worth; simp only [List.cons_append, List.nil_append])
  have eB : B c = .int .u8 (c.toNat : Int) := rfl
  rw [eB]
  refine e_cut1 (fun z => (ex fun n : Int => pu (z = .int .i64 n ∧ worF c = if 10 ≤ n then -1 else n)) :: F) ?_ ?_
  · intro ds z
    refine e_ex .here fun n => e_pu .here fun hz => ?_
    obtain ⟨rfl, hz⟩ := hz
    refine e_ask v_geq Imp.nil (fun h => ?_) (fun h => ?_)
    · refine e_condT ?_
      rw [hz, if_pos h]
      (first | refine e_ret (()) rfl ?_ | refine e_retT (()) ?_)
      (repeat (first | exact Imp.refl | exact Imp.nil | (apply Imp.pick; (focus ((repeat constructor); done))) | refine Imp.drop ?_))
    · refine e_condF ?_
      rw [hz, if_neg h]
      (first | refine e_ret (()) rfl ?_ | refine e_retT (()) ?_)
      (repeat (first | exact Imp.refl | exact Imp.nil | (apply Imp.pick; (focus ((repeat constructor); done))) | refine Imp.drop ?_))
  · have wrap : ∀ n : Int, 0 ≤ n → n < 256 → IntKind.u8.wrap n = n := fun n h1 h2 => by simp [IntKind.wrap, IntKind.signed, IntKind.bits]; omega
    have wrap2 : ∀ n : Int, 0 ≤ n → n < 256 → IntKind.i64.wrap n = n := fun n h1 h2 => by simp [IntKind.wrap, IntKind.signed, IntKind.bits]; omega
    refine e_opN v_geq Imp.nil ?_
    refine e_and (fun _ => v_leq) ?_
    refine e_cond (φ := (48 : Int) ≤ (c.toNat : Int) ∧ (c.toNat : Int) ≤ 57) (by rw [← Bool.decide_and]) (fun h => ?_) (fun h => ?_)
    · refine e_opN v_subw Imp.nil ?_
      refine e_opN v_conv Imp.nil ?_
      rw [wrap _ (by omega) (by omega), wrap2 _ (by omega) (by omega)]
      refine e_sat (.ex _ (.pu ⟨rfl, ?_⟩ .refl))
      unfold worF
      rw [if_pos (hd.2 (by omega)), if_neg (by omega)]
    · have hw : worF c = -1 := by unfold worF; rw [if_neg (fun x => h (by have := hd.1 x; omega))]
      rw [hw]
      refine e_opN v_geq Imp.nil ?_
      refine e_and (fun _ => v_leq) ?_
      refine e_cond (φ := (97 : Int) ≤ (c.toNat : Int) ∧ (c.toNat : Int) ≤ 102) (by rw [← Bool.decide_and]) (fun h => ?_) (fun h => ?_)
      · refine e_opN v_subw Imp.nil ?_
        refine e_opN v_conv Imp.nil ?_
        rw [wrap _ (by omega) (by omega), wrap2 _ (by omega) (by omega)]
        refine e_opN (v_add (by omega) (by omega)) Imp.nil ?_
        refine e_sat (.ex _ (.pu ⟨rfl, ?_⟩ .refl))
        rw [if_pos (by omega)]
      · refine e_opN v_geq Imp.nil ?_
        refine e_and (fun _ => v_leq) ?_
        refine e_cond (φ := (65 : Int) ≤ (c.toNat : Int) ∧ (c.toNat : Int) ≤ 70) (by rw [← Bool.decide_and]) (fun h => ?_) (fun h => ?_)
        · refine e_opN v_subw Imp.nil ?_
          refine e_opN v_conv Imp.nil ?_
          rw [wrap _ (by omega) (by omega), wrap2 _ (by omega) (by omega)]
          refine e_opN (v_add (by omega) (by omega)) Imp.nil ?_
          refine e_sat (.ex _ (.pu ⟨rfl, ?_⟩ .refl))
          rw [if_pos (by omega)]
        · refine e_sat (.ex _ (.pu ⟨rfl, ?_⟩ .refl))
          rw [if_neg (by omega)]
theorem rnumber {W : World} {l : List UInt8} (hl : l.length ≤ 4611686018427387904) : Cn Tryz.prog 41 [txt l, .int .i64 10, .int .i64 1000000000000000000] W [] (fun _ : Unit => .tuple #[.int .i64 (decF l).1, .int .i64 (decF l).2]) (fun _ => []) := by
  (refine S.ref01_number_cn fun F => ?_; unfold S.ref01_number; simp only [List.cons_append, List.nil_append])
  refine e_opN v_lent Imp.nil ?_
  refine e_ask v_eql Imp.nil (fun h => ?_) (fun h => ?_)
  · have h0 : l = [] := List.eq_nil_of_length_eq_zero (by omega)
    subst h0
    ((with_reducible refine e_condT ?_))
    (first | refine e_ret (()) rfl ?_ | refine e_retT (()) ?_)
    (repeat (first | exact Imp.refl | exact Imp.nil | (apply Imp.pick; (focus ((repeat constructor); done))) | refine Imp.drop ?_))
  have hnb : nb l = true := by cases l with
    | nil => exact absurd rfl h
    | cons _ _ => rfl
  refine e_condF ?_
  refine e_loop1 (fun m y => (ex fun i : Nat => pu (m + i = l.length ∧ y = .int .i64 (i : Int) ∧ l.all digB = (l.drop i).all digB)) :: F) l.length ?_ ?_
  · refine .ex 0 (.pu ⟨by omega, rfl, rfl⟩ ?_)
    (repeat (first | exact Imp.refl | exact Imp.nil | (apply Imp.pick; (focus ((repeat constructor); done))) | refine Imp.drop ?_))
  intro m ds y
  (try simp only [List.cons_append, List.nil_append, -eq_self])
  refine e_ex Pick.here fun i => e_pu Pick.here fun hi => ?_
  obtain ⟨hmi, rfl, hall⟩ := hi
  refine e_opN v_lent Imp.nil ?_
  refine e_ask v_lss Imp.nil (fun h => ?_) (fun h => ?_)
  · have hil : i < l.length := by omega
    refine e_condT ?_
    refine e_opN (v_ixS i rfl hil) Imp.nil ?_
    refine e_call rworth .nil fun _ => ?_
    (try simp only [List.cons_append, List.nil_append, -eq_self])
    rw [dr hil, List.all_cons] at hall
    refine e_ask v_lss Imp.nil (fun h1 => ?_) (fun h1 => ?_)
    · refine e_condT ?_
      have hf : digB l[i] = false := by
        cases hx : digB l[i] with
        | false => rfl
        | true => have := dg_b hx; unfold worF at h1; rw [if_pos hx] at h1; omega
      have : decF l = (0, 21) := by
        unfold decF
        rw [hall, hf, Bool.false_and, Bool.and_false]; rfl
      rw [this]
      (first | refine e_ret (()) rfl ?_ | refine e_retT (()) ?_)
      (repeat (first | exact Imp.refl | exact Imp.nil | (apply Imp.pick; (focus ((repeat constructor); done))) | refine Imp.drop ?_))
    · refine e_condF ?_
      have hf : digB l[i] = true := by
        cases hx : digB l[i] with
        | true => rfl
        | false => unfold worF at h1; rw [hx] at h1; simp at h1
      rw [hf, Bool.true_and] at hall
      refine e_opN (v_add (by omega) (by omega)) Imp.nil ?_
      refine e_next1 (m - 1) (by omega) (.ex (i + 1) (.pu ⟨by omega, rfl, hall⟩ ?_))
      (repeat (first | exact Imp.refl | exact Imp.nil | (apply Imp.pick; (focus ((repeat constructor); done))) | refine Imp.drop ?_))
  · rw [List.drop_of_length_le (by omega), List.all_nil] at hall
    refine e_condF ?_
    refine e_loop2 (fun m x y => (ex fun i : Nat => pu (m + i = l.length ∧ x = .int .i64 (valF (l.take i) : Int) ∧ y = .int .i64 (i : Int) ∧ valF (l.take i) ≤ 1000000000000000000)) :: F) l.length ?_ ?_
    · refine .ex 0 (.pu ⟨by omega, rfl, rfl, by simp [valF]⟩ ?_)
      (repeat (first | exact Imp.refl | exact Imp.nil | (apply Imp.pick; (focus ((repeat constructor); done))) | refine Imp.drop ?_))
    intro m2 ds2 x2 y2
    (try simp only [List.cons_append, List.nil_append, -eq_self])
    refine e_ex Pick.here fun j => e_pu Pick.here fun hi => ?_
    obtain ⟨hmj, rfl, rfl, hv⟩ := hi
    refine e_opN v_lent Imp.nil ?_
    refine e_ask v_lss Imp.nil (fun h => ?_) (fun h => ?_)
    · have hjl : j < l.length := by omega
      have hx := List.all_eq_true.1 hall _ (List.getElem_mem hjl)
      have hd := dg_b hx
      have hvt := valF_take hjl
      have hvl := valF_le (l := l) (j + 1)
      refine e_condT ?_
      refine e_opN (v_ixS j rfl hjl) Imp.nil ?_
      refine e_call rworth .nil fun _ => ?_
      (try simp only [List.cons_append, List.nil_append, -eq_self])
      rw [show worF l[j] = (l[j].toNat : Int) - 48 by unfold worF; rw [if_pos hx]]
      refine e_opN (v_sub (by omega) (by omega)) Imp.nil ?_
      refine e_opN (v_quo (by omega) (by omega) (by omega)) Imp.nil ?_
      refine e_ask v_gtr Imp.nil (fun h1 => ?_) (fun h1 => ?_)
      · refine e_condT ?_
        have : decF l = (0, 11) := by
          unfold decF
          rw [hnb, hall, if_pos (by rfl), if_neg (by omega)]
        rw [this]
        (first | refine e_ret (()) rfl ?_ | refine e_retT (()) ?_)
        (repeat (first | exact Imp.refl | exact Imp.nil | (apply Imp.pick; (focus ((repeat constructor); done))) | refine Imp.drop ?_))
      · refine e_condF ?_
        refine e_opN (v_mul (by omega) (by omega)) Imp.nil ?_
        refine e_opN (v_add (by omega) (by omega)) Imp.nil ?_
        refine e_opN (v_add (by omega) (by omega)) Imp.nil ?_
        rw [show (valF (l.take j) : Int) * 10 + ((l[j].toNat : Int) - 48) = (valF (l.take (j + 1)) : Int) by omega]
        refine e_next2 (m2 - 1) (by omega) (.ex (j + 1) (.pu ⟨by omega, rfl, rfl, by omega⟩ ?_))
        (repeat (first | exact Imp.refl | exact Imp.nil | (apply Imp.pick; (focus ((repeat constructor); done))) | refine Imp.drop ?_))
    · have hje : j = l.length := by omega
      subst hje
      rw [List.take_length] at hv ⊢
      refine e_condF ?_
      have : decF l = ((valF l : Int), 0) := by
        unfold decF
        rw [hnb, hall, if_pos (by rfl), if_pos hv]
      rw [this]
      (first | refine e_ret (()) rfl ?_ | refine e_retT (()) ?_)
      (repeat (first | exact Imp.refl | exact Imp.nil | (apply Imp.pick; (focus ((repeat constructor); done))) | refine Imp.drop ?_))
theorem rdecimal {W : World} {l : List UInt8} (hl : l.length ≤ 4611686018427387904) : Cn Tryz.prog 25 [txt l] W [] (fun _ : Unit => .tuple #[.int .i64 (decF l).1, .int .i64 (decF l).2]) (fun _ => []) := by
  (refine S.ref01_Decimal_cn fun F => ?_; unfold S.ref01_Decimal; simp only [List.cons_append, List.nil_append])
  (refine' e_call (rnumber hl) ?hp fun _ => ?_; (case hp => (repeat (first | exact Picks.nil | (apply Picks.cons; (focus (repeat constructor)))))); (try simp only [List.cons_append, List.nil_append, Bool.not_true, Bool.not_false]))
  refine e_opN (v_extN (vs := [_, _]) .here) Imp.nil ?_
  refine e_opN (v_extN (vs := [_, _]) (.there .here)) Imp.nil ?_
  (first | refine e_ret (()) rfl ?_ | refine e_retT (()) ?_)
  (repeat (first | exact Imp.refl | exact Imp.nil | (apply Imp.pick; (focus ((repeat constructor); done))) | refine Imp.drop ?_))
end Go.Proofs.YtcigoifhcfbcdaaGreatDoor.FD
