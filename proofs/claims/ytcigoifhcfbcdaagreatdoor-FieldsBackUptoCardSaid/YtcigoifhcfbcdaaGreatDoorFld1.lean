/- What bytes may be; texts in small letters; tokens. No conditions but those that each names. -/
import Derived.Test.YtcigoifhcfbcdaaGreatDoorFldB
set_option linter.unusedVariables false
set_option linter.unusedSimpArgs false
namespace Go.Proofs.YtcigoifhcfbcdaaGreatDoor.FD
open Go Go.Proofs Go.RowKit Go.Proofs.YtcigoifhcfbcdaaGreatDoor.Sh Go.Proofs.YtcigoifhcfbcdaaGreatDoor.Sl Go.Proofs.YtcigoifhcfbcdaaGreatDoor.T
instance zero256 : ZeroT Tryz.prog 75 (.agg (An 256 fun _ => 0)) := ⟨fun w => (Tryz.zeroValue75 w).trans (by
  have : Tryz.zeroCells75 = An 256 fun _ => 0 := by kernel_rfl
  rw [this])⟩
def u8 (i : Nat) : UInt8 := UInt8.ofNat i
theorem u8_nat {i : Nat} (h : i < 256) : (u8 i).toNat = i := by
  unfold u8
  rw [UInt8.toNat_ofNat']
  omega
def clT (i : Nat) : Int := if tokB (u8 i) then 1 else 0
def clV (i : Nat) : Int := clT i + (if i = 9 ∨ (32 ≤ i ∧ i ≠ 127) then 2 else 0)
def cls (i : Nat) : Int := clV i + (if 65 ≤ i ∧ i ≤ 90 then 4 else 0)
theorem aln_i {i : Nat} (h : i < 256) : ((decide ((97 : Int) ≤ (i : Int)) && decide ((i : Int) ≤ 122)) || (decide ((65 : Int) ≤ (i : Int)) && decide ((i : Int) ≤ 90)) || (decide ((48 : Int) ≤ (i : Int)) && decide ((i : Int) ≤ 57))) = alnB (u8 i) := by
  unfold alnB
  have e := u8_nat h
  simp only [UInt8.le_iff_toNat_le, e]
  rw [← Bool.decide_and, ← Bool.decide_and, ← Bool.decide_and, ← Bool.decide_or, ← Bool.decide_or, decide_eq_decide]
  simp only [show (97 : UInt8).toNat = 97 from rfl, show (122 : UInt8).toNat = 122 from rfl, show (65 : UInt8).toNat = 65 from rfl, show (90 : UInt8).toNat = 90 from rfl, show (48 : UInt8).toNat = 48 from rfl, show (57 : UInt8).toNat = 57 from rfl]
  omega
theorem tokC_b (c : UInt8) : tokC.contains c = true → 32 < c.toNat ∧ c.toNat < 127 := by
  refine all8 (p := fun c => tokC.contains c = true → 32 < c.toNat ∧ c.toNat < 127) ?_ c
  decide +kernel
def clA (i : Nat) (x : Int) : Nat → Int := fun j => if j < i then cls j else if j = i then x else 0
theorem clA_set {i : Nat} {x y : Int} : (An 256 (clA i x)).setIfInBounds i (.int .i64 y) = An 256 (clA i y) := by
  refine An_set.trans (An_congr fun j _ => ?_)
  unfold clA
  by_cases h : j = i
  · subst h; simp
  · simp [h]
theorem clA_at {i : Nat} {x : Int} (h : i < 256) : (An 256 (clA i x))[i]? = some (.int .i64 x) := by
  rw [An_get h]; simp [clA, I]
theorem clA_next {i : Nat} : An 256 (clA i (cls i)) = An 256 (clA (i + 1) 0) := An_congr fun j _ => by
  unfold clA
  by_cases h : j < i
  · rw [if_pos h, if_pos (by omega)]
  · by_cases h2 : j = i
    · subst h2; simp
    · rw [if_neg h, if_neg h2, if_neg (by omega)]; simp
theorem an_one {n : Nat} {f : Nat → Int} : ∀ u ∈ (An n f).toList, u.oneCell' = true := by
  intro u hu
  simp only [An] at hu
  obtain ⟨j, _, rfl⟩ := List.mem_map.1 hu
  rfl
theorem or1 : bitOp .or .i64 0 1 = 1 := by rfl
theorem or2 {x : Int} (h : x = 0 ∨ x = 1) : bitOp .or .i64 x 2 = x + 2 := by rcases h with rfl | rfl <;> rfl
theorem or4 {x : Int} (h : x = 0 ∨ x = 1 ∨ x = 2 ∨ x = 3) : bitOp .or .i64 x 4 = x + 4 := by rcases h with rfl | rfl | rfl | rfl <;> rfl
theorem clT_v (i : Nat) : clT i = 0 ∨ clT i = 1 := by unfold clT; split <;> simp
theorem clV_v (i : Nat) : clV i = 0 ∨ clV i = 1 ∨ clV i = 2 ∨ clV i = 3 := by
  have := clT_v i
  unfold clV
  split <;> omega
theorem classes {W : World} : Cn Tryz.prog 30 [] W [] (fun _ : Unit => .agg (An 256 cls)) (fun _ => []) := by
  (refine S.ascii_classes_cn fun F => ?_; unfold S.ascii_classes; simp only [List.cons_append, List.nil_append])
  refine e_newA fun b0 => ?_
  refine e_newA fun b1 => ?_
  refine e_loop1 (fun m y => [ex fun i : Nat => all [pu (m + i = 256 ∧ y = .int .i64 (i : Int)), pt b1 (.cells (An 256 (clA i 0)) 75 (0, 0)), pt b0 (.cells (An 256 fun _ => 0) 75 (0, 0))]] ++ F) 256 ?_ ?_
  · refine Imp.ex 0 (.all ?_)
    (try simp only [List.cons_append, List.nil_append, -eq_self])
    have e : An 256 (clA 0 0) = An 256 fun _ => 0 := An_congr fun j _ => by unfold clA; simp
    rw [e]
    exact .pu ⟨by omega, rfl⟩ .refl
  intro m ds y
  (try simp only [List.cons_append, List.nil_append, -eq_self])
  refine e_ex Pick.here fun i => e_all Pick.here ?_
  (try simp only [List.cons_append, List.nil_append, -eq_self])
  refine e_pu Pick.here fun hi => ?_
  obtain ⟨hmi, rfl⟩ := hi
  (refine e_ask v_lss Imp.nil (fun h => ?_) (fun h => ?_))
  · have hil : i < 256 := by omega
    refine e_condT ?_
    refine e_opN v_geq Imp.nil ?_
    refine e_and (fun _ => v_leq) ?_
    refine e_orand (fun _ => v_geq) (fun _ _ => v_leq) ?_
    refine e_orand (fun _ => v_geq) (fun _ _ => v_leq) ?_
    rw [aln_i hil]
    refine e_cut0 (pt b1 (.cells (An 256 (clA i (clT i))) 75 (0, 0)) :: pt b0 (.cells (An 256 fun _ => 0) 75 (0, 0)) :: F) ?_ ?_
    · intro ds1
      refine e_cut0 (pt b1 (.cells (An 256 (clA i (clV i))) 75 (0, 0)) :: pt b0 (.cells (An 256 fun _ => 0) 75 (0, 0)) :: F) ?_ ?_
      · intro ds2
        have fin : ∀ x, x = cls i → Ent W (pt b1 (.cells (An 256 (clA i x)) 75 (0, 0)) :: pt b0 (.cells (An 256 fun _ => 0) 75 (0, 0)) :: F) (next1 (fun m y w => sat W ([ex fun i : Nat => all [pu (m + i = 256 ∧ y = .int .i64 (i : Int)), pt b1 (.cells (An 256 (clA i 0)) 75 (0, 0)), pt b0 (.cells (An 256 fun _ => 0) 75 (0, 0))]] ++ F) w) m (.int .i64 ((i : Int) + 1))) := by
          intro x hx
          subst hx
          rw [clA_next]
          refine e_next1 (m - 1) (by omega) (.ex (i + 1) (.all ?_))
          (try simp only [List.cons_append, List.nil_append, -eq_self])
          exact .pu ⟨by omega, rfl⟩ .refl
        refine e_opN v_geq Imp.nil ?_
        refine e_and (fun _ => v_leq) ?_
        rw [← Bool.decide_and]
        by_cases h4 : (65 : Int) ≤ (i : Int) ∧ (i : Int) ≤ 90
        · rw [decide_eq_true h4]
          refine e_condT ?_
          refine e_opN (v_iaA i rfl hil) Imp.nil ?_
          rw [Nat.zero_add, Nat.mul_one]
          refine e_opN (v_ld (clA_at hil)) (.pick .here .nil) ?_
          refine e_opN v_or Imp.nil ?_
          refine e_opN (v_iaA i rfl hil) Imp.nil ?_
          rw [Nat.zero_add, Nat.mul_one]
          refine e_st .here (by rw [An_size]; exact hil) ?_
          rw [clA_set, or4 (clV_v i)]
          (((with_reducible refine e_opN (v_add ?h1 ?h2) Imp.nil ?_); (case h1 => omega); (case h2 => omega)))
          exact fin _ (by unfold cls; rw [if_pos (by omega)])
        · rw [decide_eq_false h4]
          refine e_condF ?_
          (((with_reducible refine e_opN (v_add ?h1 ?h2) Imp.nil ?_); (case h1 => omega); (case h2 => omega)))
          exact fin _ (by unfold cls; rw [if_neg (by omega), Int.add_zero])
      · have fin : ∀ b : Bool, b = decide (i = 9 ∨ (32 ≤ i ∧ i ≠ 127)) → Ent W (pt b1 (.cells (An 256 (clA i (clT i))) 75 (0, 0)) :: pt b0 (.cells (An 256 fun _ => 0) 75 (0, 0)) :: F) (condS (.bool b)
            (opN Tryz.prog (sIA 75 (.pointer (some ⟨b1, 0, none⟩)) (.int .i64 (i : Int))) noP fun x60 =>
              opN Tryz.prog (sLoad 3 x60) noP fun x61 =>
              opN Tryz.prog (sBin .or 3 x61 (.int .i64 2)) noP fun x62 =>
              opN Tryz.prog (sIA 75 (.pointer (some ⟨b1, 0, none⟩)) (.int .i64 (i : Int))) noP fun x63 =>
              opN Tryz.prog (sStore 3 x63 x62) noP fun _ => fun w => sat W (pt b1 (.cells (An 256 (clA i (clV i))) 75 (0, 0)) :: pt b0 (.cells (An 256 fun _ => 0) 75 (0, 0)) :: F) w)
            (fun w => sat W (pt b1 (.cells (An 256 (clA i (clV i))) 75 (0, 0)) :: pt b0 (.cells (An 256 fun _ => 0) 75 (0, 0)) :: F) w)) := by
          intro b hb
          by_cases h2 : i = 9 ∨ (32 ≤ i ∧ i ≠ 127)
          · rw [hb, decide_eq_true h2]
            refine e_condT ?_
            refine e_opN (v_iaA i rfl hil) Imp.nil ?_
            rw [Nat.zero_add, Nat.mul_one]
            refine e_opN (v_ld (clA_at hil)) (.pick .here .nil) ?_
            refine e_opN v_or Imp.nil ?_
            refine e_opN (v_iaA i rfl hil) Imp.nil ?_
            rw [Nat.zero_add, Nat.mul_one]
            refine e_st .here (by rw [An_size]; exact hil) ?_
            rw [clA_set, or2 (clT_v i), show clT i + 2 = clV i by unfold clV; rw [if_pos h2]]
            exact e_sat .refl
          · rw [hb, decide_eq_false h2]
            refine e_condF ?_
            rw [show clT i = clV i by unfold clV; rw [if_neg h2, Int.add_zero]]
            exact e_sat .refl
        refine e_opN v_eql Imp.nil ?_
        refine e_orand (fun _ => v_geq) (fun _ _ => v_neq) ?_
        refine fin _ ?_
        rw [← Bool.decide_and, ← Bool.decide_or, decide_eq_decide]
        omega
    · have finT : tokB (u8 i) = true → Ent W (pt b1 (.cells (An 256 (clA i 0)) 75 (0, 0)) :: pt b0 (.cells (An 256 fun _ => 0) 75 (0, 0)) :: F)
            (opN Tryz.prog (sIA 75 (.pointer (some ⟨b1, 0, none⟩)) (.int .i64 (i : Int))) noP fun x60 =>
              opN Tryz.prog (sLoad 3 x60) noP fun x61 =>
              opN Tryz.prog (sBin .or 3 x61 (.int .i64 1)) noP fun x62 =>
              opN Tryz.prog (sIA 75 (.pointer (some ⟨b1, 0, none⟩)) (.int .i64 (i : Int))) noP fun x63 =>
              opN Tryz.prog (sStore 3 x63 x62) noP fun _ => fun w => sat W (pt b1 (.cells (An 256 (clA i (clT i))) 75 (0, 0)) :: pt b0 (.cells (An 256 fun _ => 0) 75 (0, 0)) :: F) w) := by
        intro hb
        refine e_opN (v_iaA i rfl hil) Imp.nil ?_
        rw [Nat.zero_add, Nat.mul_one]
        refine e_opN (v_ld (clA_at hil)) (.pick .here .nil) ?_
        refine e_opN v_or Imp.nil ?_
        refine e_opN (v_iaA i rfl hil) Imp.nil ?_
        rw [Nat.zero_add, Nat.mul_one]
        refine e_st .here (by rw [An_size]; exact hil) ?_
        rw [clA_set, or1, show (1 : Int) = clT i by unfold clT; rw [hb]; rfl]
        exact e_sat .refl
      have finF : tokB (u8 i) = false → Ent W (pt b1 (.cells (An 256 (clA i 0)) 75 (0, 0)) :: pt b0 (.cells (An 256 fun _ => 0) 75 (0, 0)) :: F)
            (fun w => sat W (pt b1 (.cells (An 256 (clA i (clT i))) 75 (0, 0)) :: pt b0 (.cells (An 256 fun _ => 0) 75 (0, 0)) :: F) w) := by
        intro hb
        rw [show clT i = 0 by unfold clT; rw [hb]; rfl]
        exact e_sat .refl
      have htk : tokB (u8 i) = (alnB (u8 i) || tokC.contains (u8 i)) := rfl
      cases ha : alnB (u8 i) with
      | true =>
        rw [ha] at htk
        ((with_reducible refine e_gdF1 ?_)); ((with_reducible refine e_gdF1 ?_)); ((with_reducible refine e_gdF1 ?_)); ((with_reducible refine e_gdU ?_)); ((with_reducible refine e_gdU ?_)); ((with_reducible refine e_gdF1 ?_)); ((with_reducible refine e_gdF1 ?_)); ((with_reducible refine e_gdU ?_)); ((with_reducible refine e_gdU ?_)); ((with_reducible refine e_gdU ?_)); ((with_reducible refine e_gdU ?_)); ((with_reducible refine e_gdF1 ?_)); (((with_reducible refine e_opN v_pickT Imp.nil ?_))); ((with_reducible refine e_condT ?_))
        exact finT (by rw [htk]; rfl)
      | false =>
        rw [ha, Bool.false_or] at htk
        have hcb := tokC_b (u8 i)
        rw [u8_nat hil] at hcb
        ((with_reducible refine e_gdT ?_)); ((with_reducible refine e_gdT ?_))
        (refine e_ask v_gtr Imp.nil (fun h => ?_) (fun h => ?_))
        · ((with_reducible refine e_gdT ?_)); ((with_reducible refine e_gdT ?_)); ((with_reducible refine e_gdT ?_))
          (refine e_ask v_lss Imp.nil (fun h => ?_) (fun h => ?_))
          · ((with_reducible refine e_gdT ?_)); (((with_reducible refine e_opN v_pickT Imp.nil ?_))); ((with_reducible refine e_gdT ?_)); ((with_reducible refine e_gdT ?_)); ((with_reducible refine e_gdT ?_))
            refine e_opN v_conv Imp.nil ?_
            rw [show (IntKind.u8.wrap (i : Int)) = ((u8 i).toNat : Int) by rw [u8_nat hil]; simp [IntKind.wrap, IntKind.signed, IntKind.bits]; omega]
            ((with_reducible refine e_gdT ?_))
            refine e_call (indexByte (l := tokC) (c := u8 i)) .nil fun _ => ?_
            (try simp only [List.cons_append, List.nil_append, -eq_self])
            ((with_reducible refine e_gdT ?_))
            (refine e_ask v_geq Imp.nil (fun h => ?_) (fun h => ?_))
            · ((with_reducible refine e_gdT ?_)); (((with_reducible refine e_opN v_pickT Imp.nil ?_))); (((with_reducible refine e_opN v_pickF Imp.nil ?_))); ((with_reducible refine e_condT ?_))
              exact finT (by rw [htk]; simpa using ixF_nn.1 h)
            · ((with_reducible refine e_gdT ?_)); (((with_reducible refine e_opN v_pickT Imp.nil ?_))); (((with_reducible refine e_opN v_pickF Imp.nil ?_))); ((with_reducible refine e_condF ?_))
              exact finF (by rw [htk]; simpa using fun c => h (ixF_nn.2 c))
          · ((with_reducible refine e_gdT ?_)); (((with_reducible refine e_opN v_pickT Imp.nil ?_))); ((with_reducible refine e_gdT ?_)); ((with_reducible refine e_gdF2 ?_)); ((with_reducible refine e_gdF2 ?_)); ((with_reducible refine e_gdF2 ?_)); ((with_reducible refine e_gdF2 ?_)); ((with_reducible refine e_gdT ?_)); (((with_reducible refine e_opN v_pickF Imp.nil ?_))); (((with_reducible refine e_opN v_pickF Imp.nil ?_))); ((with_reducible refine e_condF ?_))
            exact finF (by rw [htk]; cases hx : tokC.contains (u8 i) with
              | true => have := hcb hx; omega
              | false => rfl)
        · ((with_reducible refine e_gdT ?_)); ((with_reducible refine e_gdF2 ?_)); ((with_reducible refine e_gdF2 ?_)); ((with_reducible refine e_gdT ?_)); (((with_reducible refine e_opN v_pickF Imp.nil ?_))); ((with_reducible refine e_gdT ?_)); ((with_reducible refine e_gdF2 ?_)); ((with_reducible refine e_gdF2 ?_)); ((with_reducible refine e_gdF2 ?_)); ((with_reducible refine e_gdF2 ?_)); ((with_reducible refine e_gdT ?_)); (((with_reducible refine e_opN v_pickF Imp.nil ?_))); (((with_reducible refine e_opN v_pickF Imp.nil ?_))); ((with_reducible refine e_condF ?_))
          exact finF (by rw [htk]; cases hx : tokC.contains (u8 i) with
            | true => have := hcb hx; omega
            | false => rfl)
  · have h256 : i = 256 := by omega
    subst h256
    refine e_condF ?_
    have e : An 256 (clA 256 0) = An 256 cls := An_congr fun j hj => by unfold clA; rw [if_pos hj]
    rw [e]
    refine e_opN (v_ldAgg (An_size 256 cls)) (.pick .here .nil) ?_
    refine e_stAgg (.there .here) (An_size 256 _) (An_size 256 _) an_one ?_
    refine e_stS (v_resA (An_size 256 cls)) (.pick .here .nil) ?_
    (first | refine e_ret (()) rfl ?_ | refine e_retT (()) ?_)
    (repeat (first | exact Imp.refl | exact Imp.nil | (apply Imp.pick; (focus ((repeat constructor); done))) | refine Imp.drop ?_))
theorem u8_id (c : UInt8) : u8 c.toNat = c := by simp [u8]
theorem and1 (c : UInt8) : bitOp .and .i64 (cls c.toNat) 1 = 0 ↔ tokB c = false := by
  refine all8 (p := fun c => bitOp .and .i64 (cls c.toNat) 1 = 0 ↔ tokB c = false) ?_ c
  decide +kernel
theorem and4 (c : UInt8) : bitOp .and .i64 (cls c.toNat) 4 ≠ 0 ↔ (65 ≤ c ∧ c ≤ 90) := by
  refine all8 (p := fun c => bitOp .and .i64 (cls c.toNat) 4 ≠ 0 ↔ (65 ≤ c ∧ c ≤ 90)) ?_ c
  decide +kernel
theorem all_ {W : World} {l : List UInt8} {bit : Int} {p : UInt8 → Bool} (hb : ∀ c : UInt8, bitOp .and .i64 (cls c.toNat) bit = 0 ↔ p c = false) (hl : l.length ≤ 4611686018427387904) :
    Cn Tryz.prog 29 [txt l, .int .i64 bit] W [] (fun _ : Unit => .bool (l.all p)) (fun _ => []) := by
  (refine S.ascii_all_cn fun F => ?_; unfold S.ascii_all; simp only [List.cons_append, List.nil_append])
  (refine' e_call (classes) ?hp fun _ => ?_; (case hp => (repeat (first | exact Picks.nil | (apply Picks.cons; (focus (repeat constructor)))))); (try simp only [List.cons_append, List.nil_append, Bool.not_true, Bool.not_false]))
  refine e_newA fun b1 => ?_
  refine e_stAgg .here (An_size 256 _) (An_size 256 _) an_one ?_
  refine e_opN v_lent Imp.nil ?_
  refine e_loop1 (fun m y => [ex fun i : Nat => all [pu (m + i = l.length ∧ y = .int .i64 (i : Int) ∧ l.all p = (l.drop i).all p), pt b1 (.cells (An 256 cls) 75 (0, 0))]] ++ F) l.length ?_ ?_
  · refine Imp.ex 0 (.all ?_)
    (try simp only [List.cons_append, List.nil_append, -eq_self])
    exact .pu ⟨by omega, rfl, rfl⟩ .refl
  intro m ds y
  (try simp only [List.cons_append, List.nil_append, -eq_self])
  refine e_ex Pick.here fun i => e_all Pick.here ?_
  (try simp only [List.cons_append, List.nil_append, -eq_self])
  refine e_pu Pick.here fun hi => ?_
  obtain ⟨hmi, rfl, hall⟩ := hi
  (refine e_ask v_lss Imp.nil (fun h => ?_) (fun h => ?_))
  · have hil : i < l.length := by omega
    refine e_condT ?_
    refine e_opN (v_ixS i rfl hil) Imp.nil ?_
    have hc := (l[i]).toNat_lt
    refine e_opN (v_iaA (l[i]).toNat rfl hc) Imp.nil ?_
    rw [Nat.zero_add, Nat.mul_one]
    refine e_opN (v_ld (An_get hc)) (.pick .here .nil) ?_
    refine e_opN v_and Imp.nil ?_
    rw [dr hil, List.all_cons] at hall
    refine e_ask v_eql Imp.nil (fun h => ?_) (fun h => ?_)
    · refine e_condT ?_
      rw [(hb _).1 h, Bool.false_and] at hall
      rw [hall]
      (first | refine e_ret (()) rfl ?_ | refine e_retT (()) ?_)
      (repeat (first | exact Imp.refl | exact Imp.nil | (apply Imp.pick; (focus ((repeat constructor); done))) | refine Imp.drop ?_))
    · refine e_condF ?_
      have hp : p l[i] = true := by
        cases hx : p l[i] with
        | true => rfl
        | false => exact absurd ((hb _).2 hx) h
      rw [hp, Bool.true_and] at hall
      (((with_reducible refine e_opN (v_add ?h1 ?h2) Imp.nil ?_); (case h1 => omega); (case h2 => omega)))
      refine e_next1 (m - 1) (by omega) (.ex (i + 1) (.all ?_))
      (try simp only [List.cons_append, List.nil_append, -eq_self])
      exact .pu ⟨by omega, rfl, hall⟩ .refl
  · refine e_condF ?_
    rw [List.drop_of_length_le (by omega), List.all_nil] at hall
    rw [hall]
    (first | refine e_ret (()) rfl ?_ | refine e_retT (()) ?_)
    (repeat (first | exact Imp.refl | exact Imp.nil | (apply Imp.pick; (focus ((repeat constructor); done))) | refine Imp.drop ?_))
theorem token {W : World} {l : List UInt8} (hl : l.length ≤ 4611686018427387904) : Cn Tryz.prog 16 [txt l] W [] (fun _ : Unit => .bool (tokF l)) (fun _ => []) := by
  (refine S.ascii_Token_cn fun F => ?_; unfold S.ascii_Token; simp only [List.cons_append, List.nil_append])
  have e0 : (Value.string ⟨#[]⟩) = txt [] := rfl
  rw [e0]
  refine e_ask v_strne Imp.nil (fun h => ?_) (fun h => ?_)
  · refine e_gdT ?_
    refine e_gdT ?_
    (refine' e_call (all_ and1 hl) ?hp fun _ => ?_; (case hp => (repeat (first | exact Picks.nil | (apply Picks.cons; (focus (repeat constructor)))))); (try simp only [List.cons_append, List.nil_append, Bool.not_true, Bool.not_false]))
    (((with_reducible refine e_opN v_pickT Imp.nil ?_)))
    have : tokF l = l.all tokB := by unfold tokF; cases l with
      | nil => exact absurd rfl h
      | cons _ _ => rfl
    rw [this]
    (first | refine e_ret (()) rfl ?_ | refine e_retT (()) ?_)
    (repeat (first | exact Imp.refl | exact Imp.nil | (apply Imp.pick; (focus ((repeat constructor); done))) | refine Imp.drop ?_))
  · have h : l = [] := Decidable.not_not.1 h
    subst h
    ((with_reducible refine e_gdF2 ?_)); ((with_reducible refine e_gdF2 ?_)); (((with_reducible refine e_opN v_pickF Imp.nil ?_)))
    (first | refine e_ret (()) rfl ?_ | refine e_retT (()) ?_)
    (repeat (first | exact Imp.refl | exact Imp.nil | (apply Imp.pick; (focus ((repeat constructor); done))) | refine Imp.drop ?_))
theorem lower {W : World} {l : List UInt8} (hl : l.length ≤ 4611686018427387904) : Cn Tryz.prog 17 [txt l] W [] (fun _ : Unit => txt (lowF l)) (fun _ => []) := by
  (refine S.ascii_Lower_cn fun F => ?_; unfold S.ascii_Lower; simp only [List.cons_append, List.nil_append])
  (refine' e_call (classes) ?hp fun _ => ?_; (case hp => (repeat (first | exact Picks.nil | (apply Picks.cons; (focus (repeat constructor)))))); (try simp only [List.cons_append, List.nil_append, Bool.not_true, Bool.not_false]))
  refine e_newA fun b1 => ?_
  refine e_stAgg .here (An_size 256 _) (An_size 256 _) an_one ?_
  refine e_sbytesF Tryz.underlying57 Tryz.underlying5 fun g c rest => ?_
  (((with_reducible refine e_opN v_len Imp.nil ?_)))
  refine e_loop1 (fun m y => [ex fun i : Nat => all [pu (m + i = l.length ∧ y = .int .i64 (i : Int)), pt g (.cells (((l.take i).map lowB ++ l.drop i).map B ++ rest).toArray 5 (l.length + rest.length, l.length + rest.length + 1)), pt b1 (.cells (An 256 cls) 75 (0, 0))]] ++ F) l.length ?_ ?_
  · refine Imp.ex 0 (.all ?_)
    (try simp only [List.cons_append, List.nil_append, -eq_self])
    rw [List.take_zero, List.drop_zero, List.map_nil, List.nil_append]
    exact .pu ⟨by omega, rfl⟩ .refl
  intro m ds y
  (try simp only [List.cons_append, List.nil_append, -eq_self])
  refine e_ex Pick.here fun i => e_all Pick.here ?_
  (try simp only [List.cons_append, List.nil_append, -eq_self])
  refine e_pu Pick.here fun hi => ?_
  obtain ⟨hmi, rfl⟩ := hi
  (refine e_ask v_lss Imp.nil (fun h => ?_) (fun h => ?_))
  · have hil : i < l.length := by omega
    refine e_condT ?_
    have hcl : ((l.take i).map lowB ++ l.drop i).length = l.length := by simp; omega
    have hget : ((((l.take i).map lowB ++ l.drop i).map B ++ rest).toArray)[i]? = some (B l[i]) := by
      simp [List.getElem?_append, hil, Nat.min_eq_left (Nat.le_of_lt hil)]
      intro h0; omega
    refine e_opN (v_ia1 i rfl hil) Imp.nil ?_
    rw [Nat.zero_add]
    refine e_opN (v_ld hget) (.pick .here .nil) ?_
    have hc := (l[i]).toNat_lt
    refine e_opN (v_iaA (l[i]).toNat rfl hc) Imp.nil ?_
    rw [Nat.zero_add, Nat.mul_one]
    refine e_opN (v_ld (An_get hc)) (.pick (.there .here) .nil) ?_
    refine e_opN v_and Imp.nil ?_
    have step : ∀ x, x = lowB l[i] → (((l.take i).map lowB ++ l.drop i).map B ++ rest).toArray.setIfInBounds i (B x) = (((l.take (i + 1)).map lowB ++ l.drop (i + 1)).map B ++ rest).toArray := by
      intro x hx
      subst hx
      rw [List.setIfInBounds_toArray]
      congr 1
      rw [dr hil, List.take_succ_eq_append_getElem hil]
      rw [List.map_append, List.map_append, List.map_append, List.map_append]
      have hk : (List.map B (List.map lowB (List.take i l))).length = i := by simp; omega
      rw [List.append_assoc, List.append_assoc, List.append_assoc, List.set_append, if_neg (by rw [hk]; omega), hk, Nat.sub_self]
      rfl
    refine e_ask v_neq Imp.nil (fun h => ?_) (fun h => ?_)
    · have h65 := (and4 l[i]).1 h
      have hlo : lowB l[i] = l[i] + 32 := if_pos h65
      have hn : (lowB l[i]).toNat = (l[i]).toNat + 32 := by
        rw [hlo, UInt8.toNat_add]
        have := UInt8.le_iff_toNat_le.1 h65.2
        simp only [show (90 : UInt8).toNat = 90 from rfl] at this
        simp only [show (32 : UInt8).toNat = 32 from rfl]
        omega
      refine e_condT ?_
      refine e_opN v_addw Imp.nil ?_
      rw [show IntKind.u8.wrap ((l[i].toNat : Int) + 32) = ((lowB l[i]).toNat : Int) by
        rw [hn]
        have := UInt8.le_iff_toNat_le.1 h65.2
        simp only [show (90 : UInt8).toNat = 90 from rfl] at this
        simp [IntKind.wrap, IntKind.signed, IntKind.bits]; omega]
      refine e_opN (v_ia1 i rfl hil) Imp.nil ?_
      rw [Nat.zero_add]
      refine e_stF (v := B (lowB l[i])) .here (by simp; omega) (by simp; omega) ?_
      rw [step _ rfl]
      (((with_reducible refine e_opN (v_add ?h1 ?h2) Imp.nil ?_); (case h1 => omega); (case h2 => omega)))
      refine e_next1 (m - 1) (by omega) (.ex (i + 1) (.all ?_))
      (try simp only [List.cons_append, List.nil_append, -eq_self])
      exact .pu ⟨by omega, rfl⟩ .refl
    · have hlo : lowB l[i] = l[i] := if_neg (fun c => h ((and4 l[i]).2 c))
      refine e_condF ?_
      have e2 : (((l.take i).map lowB ++ l.drop i).map B ++ rest).toArray = (((l.take (i + 1)).map lowB ++ l.drop (i + 1)).map B ++ rest).toArray := by
        rw [← step _ hlo.symm]
        refine Array.ext_getElem? fun j => ?_
        rw [Array.getElem?_setIfInBounds]
        by_cases hj : i = j
        · subst hj
          rw [if_pos rfl, hget, if_pos (by simp; omega)]
        · rw [if_neg hj]
      rw [e2]
      (((with_reducible refine e_opN (v_add ?h1 ?h2) Imp.nil ?_); (case h1 => omega); (case h2 => omega)))
      refine e_next1 (m - 1) (by omega) (.ex (i + 1) (.all ?_))
      (try simp only [List.cons_append, List.nil_append, -eq_self])
      exact .pu ⟨by omega, rfl⟩ .refl
  · have hie : i = l.length := by omega
    subst hie
    refine e_condF ?_
    rw [List.take_length, List.drop_length, List.append_nil]
    have hrd := rd_row (W := W) (g := g) (e := 5) (fz := (l.length + rest.length, l.length + rest.length + 1)) (cs := (lowF l).map B) (rest := rest)
    have e1 : ((lowF l).map B).length = l.length := by simp [lowF]
    rw [e1] at hrd
    refine e_opN (v_str (l := lowF l) hrd (by intro h; cases h)) (.pick .here .nil) ?_
    (first | refine e_ret (()) rfl ?_ | refine e_retT (()) ?_)
    (repeat (first | exact Imp.refl | exact Imp.nil | (apply Imp.pick; (focus ((repeat constructor); done))) | refine Imp.drop ?_))
end Go.Proofs.YtcigoifhcfbcdaaGreatDoor.FD
