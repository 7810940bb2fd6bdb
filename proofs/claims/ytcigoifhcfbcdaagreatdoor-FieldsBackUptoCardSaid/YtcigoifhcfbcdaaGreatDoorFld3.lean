/- Numbers in decimal. The library's own error (strconv.ErrRange) can be read: 'Gl'; a text must not be longer than what a slice may hold. -/
import Derived.Test.YtcigoifhcfbcdaaGreatDoorFld2
import Derived.Test.YtcigoifhcfbcdaaGreatDoorFldC
import Derived.Test.YtcigoifhcfbcdaaGreatDoorIface
import Derived.Lib.IfaceEq
set_option linter.unusedVariables false
set_option linter.unusedSimpArgs false
namespace Go.Proofs.YtcigoifhcfbcdaaGreatDoor.FD
open Go Go.Proofs Go.RowKit Go.Proofs.YtcigoifhcfbcdaaGreatDoor.Sh Go.Proofs.YtcigoifhcfbcdaaGreatDoor.Sl Go.Proofs.YtcigoifhcfbcdaaGreatDoor.T
/-- the library's error for numbers out of range can be read -/
class Gl (W : World) : Prop where
  lt : 2 < W.heap.size
  rd : ∃ t v, W.cell? ⟨2, 0, none⟩ = some (.iface t v)
theorem ifT : Tryz.prog.underlying 119 = some (.interface (Tryz.prog.methodsAt 119)) := by kernel_rfl
theorem v_mkP {W : World} {t u : TypeId} {a : Option Addr} (h : Tryz.prog.underlying t = some (.pointer u)) : RunV Tryz.prog W [] (sMkI t (.pointer a)) (.iface t (.pointer a)) := fun w _ => by
  simp [sMkI, Instr.makeInterface, run_underlying h]
theorem v_ifInt {W : World} {ox oy : Operand} {a b : Int} : RunV Tryz.prog W [] (sEq .eql 119 ox oy (.iface 170 (.int .i64 a)) (.iface 170 (.int .i64 b))) (.bool (a == b)) := fun w _ => by
  have := Lib.run_eql_iface_int (P := Tryz.prog) w (t := 119) (tx := 170) (k := .i64) (q := .i64) a b Tryz.underlying119 (by kernel_rfl) Tryz.underlying170
  simp [sEq, sv, eqGuard, this]
theorem rangeError {W : World} [hG : Gl W] {a l : List UInt8} (hl : l.length ≤ 281474976710656) : Cn Tryz.prog 97 [txt a, txt l] W [] (fun g : Nat => .pointer (some ⟨g, 0, none⟩)) (fun _ => []) := by
  obtain ⟨t, v, hv⟩ := hG.rd
  (refine S.strconv_rangeError_cn fun F => ?_; unfold S.strconv_rangeError; simp only [List.cons_append, List.nil_append])
  refine e_drS ?_
  refine e_stD (v_ldOld hG.lt hv) Imp.nil ?_
  (refine' e_call (clone hl) ?hp fun _ => ?_; (case hp => (repeat (first | exact Picks.nil | (apply Picks.cons; (focus (repeat constructor)))))); (try simp only [List.cons_append, List.nil_append, Bool.not_true, Bool.not_false]))
  refine e_obl Imp.nil ?_
  refine e_stS v_rv Imp.nil ?_
  refine e_boxA fun b => ?_
  (first | refine e_ret (b) rfl ?_ | refine e_retT (b) ?_)
  (repeat (first | exact Imp.refl | exact Imp.nil | (apply Imp.pick; (focus ((repeat constructor); done))) | refine Imp.drop ?_))
theorem toError {W : World} [hG : Gl W] {a l : List UInt8} {x y : Int} (hl : l.length ≤ 281474976710656) : Cn Tryz.prog 73 [txt a, txt l, .int .i64 x, .int .i64 y, .iface 170 (.int .i64 1)] W [] (fun g : Nat => .iface 172 (.pointer (some ⟨g, 0, none⟩))) (fun _ => []) := by
  (refine S.strconv_toError_cn fun F => ?_; unfold S.strconv_toError; simp only [List.cons_append, List.nil_append])
  refine e_opN v_mkI Imp.nil ?_
  refine e_opN v_ifInt Imp.nil ?_
  rw [show ((1 : Int) == 2) = false from rfl]
  refine e_condF ?_
  refine e_opN v_mkI Imp.nil ?_
  refine e_opN v_ifInt Imp.nil ?_
  rw [show ((1 : Int) == 1) = true from rfl]
  refine e_condT ?_
  refine e_call (rangeError hl) .nil fun g => ?_
  (try simp only [List.cons_append, List.nil_append, -eq_self])
  refine e_opN (v_mkP Tryz.underlying172) Imp.nil ?_
  (first | refine e_ret (g) rfl ?_ | refine e_retT (g) ?_)
  (repeat (first | exact Imp.refl | exact Imp.nil | (apply Imp.pick; (focus ((repeat constructor); done))) | refine Imp.drop ?_))
theorem valF_snoc (l : List UInt8) (c : UInt8) : valF (l ++ [c]) = valF l * 10 + (c.toNat - 48) := by simp [valF]
theorem valF_mono (l r : List UInt8) : valF l ≤ valF (l ++ r) := by
  induction r generalizing l with
  | nil => simp
  | cons c r ih =>
    have h1 := ih (l ++ [c])
    rw [valF_snoc] at h1
    have e : l ++ c :: r = l ++ [c] ++ r := by simp
    rw [e]; omega
theorem valF_take {l : List UInt8} {i : Nat} (h : i < l.length) : valF (l.take (i + 1)) = valF (l.take i) * 10 + (l[i].toNat - 48) := by
  rw [List.take_succ_eq_append_getElem h, valF_snoc]
theorem valF_le {l : List UInt8} (i : Nat) : valF (l.take i) ≤ valF l := by
  have := valF_mono (l.take i) (l.drop i)
  rwa [List.take_append_drop] at this
def puR (l : List UInt8) : Value := if valF l ≤ 9223372036854775807 then .tuple #[.int .u64 (valF l : Int), .nilIface] else .tuple #[.int .u64 9223372036854775807, .iface 170 (.int .i64 1)]
theorem parse0 {W : World} {l : List UInt8} (hn : l ≠ []) (hd : l.all digB = true) (hl : l.length ≤ 4611686018427387904) : Cn Tryz.prog 72 [txt l, .int .i64 10, .int .i64 63] W [] (fun _ : Unit => puR l) (fun _ => []) := by
  (refine S.istrconv_ParseUint_cn fun F => ?_; unfold S.istrconv_ParseUint; simp only [List.cons_append, List.nil_append])
  have e0 : (Value.string ⟨#[]⟩) = txt [] := rfl
  rw [e0]
  refine e_opN v_streq Imp.nil ?_
  rw [decide_eq_false hn]
  refine e_condF ?_
  refine e_opN v_eql Imp.nil ?_
  rw [decide_eq_false (by decide)]
  refine e_cut2d ?_
  refine e_opN v_leq Imp.nil ?_
  rw [decide_eq_true (by decide)]
  ((with_reducible refine e_gdT ?_)); ((with_reducible refine e_gdT ?_))
  refine e_opN v_leq Imp.nil ?_
  rw [decide_eq_true (by decide)]
  (((with_reducible refine e_opN v_pickT Imp.nil ?_))); ((with_reducible refine e_condT ?_))
  refine e_allds fun ds1 => ?_
  refine e_cut1d ?_
  refine e_opN v_eql Imp.nil ?_
  rw [decide_eq_false (by decide)]
  refine e_condF ?_
  refine e_opN v_lss Imp.nil ?_
  rw [decide_eq_false (by decide)]
  ((with_reducible refine e_gdT ?_)); ((with_reducible refine e_gdT ?_))
  refine e_opN v_gtr Imp.nil ?_
  rw [decide_eq_false (by decide)]
  (((with_reducible refine e_opN v_pickF Imp.nil ?_))); ((with_reducible refine e_condF ?_))
  refine e_allds fun ds2 => ?_
  refine e_cut1d ?_
  refine e_opN v_eql Imp.nil ?_
  rw [decide_eq_true (by decide)]
  refine e_condT ?_
  refine e_allds fun ds3 => ?_
  refine e_opN v_conv Imp.nil ?_
  refine e_opN (v_shl (by decide)) Imp.nil ?_
  refine e_opN v_subw Imp.nil ?_
  rw [show IntKind.u64.wrap (IntKind.u64.wrap (1 * 2 ^ (min (IntKind.u64.wrap 63).toNat IntKind.u64.bits)) - 1) = 9223372036854775807 by rfl]
  refine e_sbytesF Tryz.underlying57 Tryz.underlying5 fun g c rest => ?_
  (((with_reducible refine e_opN v_len Imp.nil ?_)))
  refine e_loop3 (fun m x y z => [ex fun i : Nat => all [pu (m + i = l.length ∧ x = .bool false ∧ y = .int .u64 (valF (l.take i) : Int) ∧ z = .int .i64 (i : Int) ∧ valF (l.take i) ≤ 9223372036854775807), pt g (.cells (l.map B ++ rest).toArray 5 (l.length + rest.length, l.length + rest.length + 1))]] ++ F) l.length ?_ ?_
  · refine Imp.ex 0 (.all ?_)
    (try simp only [List.cons_append, List.nil_append, -eq_self])
    exact .pu ⟨by omega, rfl, rfl, rfl, by simp [valF]⟩ .refl
  intro m ds x y z
  (try simp only [List.cons_append, List.nil_append, -eq_self])
  refine e_ex Pick.here fun i => e_all Pick.here ?_
  (try simp only [List.cons_append, List.nil_append, -eq_self])
  refine e_pu Pick.here fun hi => ?_
  obtain ⟨hmi, rfl, rfl, rfl, hv⟩ := hi
  (refine e_ask v_lss Imp.nil (fun h => ?_) (fun h => ?_))
  · have hil : i < l.length := by omega
    have hdi := dg_b (List.all_eq_true.1 hd _ (List.getElem_mem hil))
    have hvt := valF_take hil
    have hvl := valF_le (l := l) (i + 1)
    refine e_condT ?_
    refine e_opN (v_ia1 i rfl hil) Imp.nil ?_
    rw [Nat.zero_add]
    refine e_opN (v_ld (v := B l[i]) (by simp [List.getElem?_append, hil])) (.pick .here .nil) ?_
    obtain ⟨d, hde⟩ : ∃ d, d = l[i].toNat := ⟨_, rfl⟩
    have eB : B l[i] = .int .u8 (d : Int) := by rw [hde]; rfl
    rw [eB]
    rw [← hde] at hdi hvt
    refine e_cut2d ?_
    refine e_opN v_eql Imp.nil ?_
    rw [decide_eq_false (by omega)]
    ((with_reducible refine e_gdF2 ?_)); (((with_reducible refine e_opN v_pickF Imp.nil ?_))); ((with_reducible refine e_condF ?_))
    refine e_opN v_leq Imp.nil ?_
    rw [decide_eq_true (by omega)]
    ((with_reducible refine e_gdT ?_)); ((with_reducible refine e_gdT ?_))
    refine e_opN v_leq Imp.nil ?_
    rw [decide_eq_true (by omega)]
    (((with_reducible refine e_opN v_pickT Imp.nil ?_))); ((with_reducible refine e_condT ?_))
    refine e_opN v_subw Imp.nil ?_
    refine e_allds fun ds4 => ?_
    rw [show IntKind.u8.wrap ((d : Int) - 48) = (d : Int) - 48 by simp [IntKind.wrap, IntKind.signed, IntKind.bits]; omega]
    refine e_opN v_conv Imp.nil ?_
    refine e_opN v_geq Imp.nil ?_
    rw [show IntKind.u8.wrap 10 = 10 by rfl, decide_eq_false (by omega)]
    refine e_condF ?_
    have big : 9223372036854775807 < valF l → Ent W (pt g (.cells (l.map B ++ rest).toArray 5 (l.length + rest.length, l.length + rest.length + 1)) :: F) (opN Tryz.prog (sMkI 170 (.int .i64 1)) noP fun x143 => fun w => ∃ x : Unit, (.tuple #[.int .u64 9223372036854775807, x143] : Value) = puR l ∧ sat W ([] ++ F) w) := by
      intro hb
      refine e_opN v_mkI Imp.nil ?_
      refine e_ret () (by unfold puR; rw [if_neg (by omega)]) ?_
      (repeat (first | exact Imp.refl | exact Imp.nil | (apply Imp.pick; (focus ((repeat constructor); done))) | refine Imp.drop ?_))
    refine e_ask v_geq Imp.nil (fun h1 => ?_) (fun h1 => ?_)
    · refine e_condT ?_
      exact big (by omega)
    · refine e_condF ?_
      refine e_opN v_conv Imp.nil ?_
      refine e_opN v_mulw Imp.nil ?_
      rw [show IntKind.u64.wrap 10 = 10 by rfl, show IntKind.u64.wrap ((valF (l.take i) : Int) * 10) = (valF (l.take i) : Int) * 10 by simp [IntKind.wrap, IntKind.signed, IntKind.bits]; omega]
      refine e_opN v_conv Imp.nil ?_
      rw [show IntKind.u64.wrap ((d : Int) - 48) = (d : Int) - 48 by simp [IntKind.wrap, IntKind.signed, IntKind.bits]; omega]
      refine e_opN v_addw Imp.nil ?_
      by_cases h2 : (valF (l.take i) : Int) * 10 + ((d : Int) - 48) < 18446744073709551616
      · rw [show IntKind.u64.wrap ((valF (l.take i) : Int) * 10 + ((d : Int) - 48)) = (valF (l.take i) : Int) * 10 + ((d : Int) - 48) by simp [IntKind.wrap, IntKind.signed, IntKind.bits]; omega]
        refine e_opN v_lss Imp.nil ?_
        rw [decide_eq_false (by omega)]
        ((with_reducible refine e_gdT ?_)); ((with_reducible refine e_gdT ?_)); ((with_reducible refine e_gdT ?_))
        refine e_ask v_gtr Imp.nil (fun h3 => ?_) (fun h3 => ?_)
        · (((with_reducible refine e_opN v_pickF Imp.nil ?_))); ((with_reducible refine e_condT ?_))
          exact big (by omega)
        · (((with_reducible refine e_opN v_pickF Imp.nil ?_))); ((with_reducible refine e_condF ?_)); (((with_reducible refine e_opN (v_add ?h1 ?h2) Imp.nil ?_); (case h1 => omega); (case h2 => omega)))
          have he : ((valF (l.take i) : Int) * 10 + ((d : Int) - 48)) = (valF (l.take (i + 1)) : Int) := by omega
          rw [he]
          refine e_next3 (m - 1) (by omega) (.ex (i + 1) (.all ?_))
          (try simp only [List.cons_append, List.nil_append, -eq_self])
          exact .pu ⟨by omega, rfl, rfl, rfl, by omega⟩ .refl
      · rw [show IntKind.u64.wrap ((valF (l.take i) : Int) * 10 + ((d : Int) - 48)) = (valF (l.take i) : Int) * 10 + ((d : Int) - 48) - 18446744073709551616 by simp [IntKind.wrap, IntKind.signed, IntKind.bits]; omega]
        refine e_opN v_lss Imp.nil ?_
        rw [decide_eq_true (by omega)]
        ((with_reducible refine e_gdF1 ?_)); ((with_reducible refine e_gdF1 ?_)); ((with_reducible refine e_gdF1 ?_)); (((with_reducible refine e_opN v_pickT Imp.nil ?_))); ((with_reducible refine e_condT ?_))
        exact big (by omega)
  · have hie : i = l.length := by omega
    subst hie
    rw [List.take_length] at hv ⊢
    ((with_reducible refine e_condF ?_)); ((with_reducible refine e_gdF2 ?_)); ((with_reducible refine e_gdF2 ?_)); ((with_reducible refine e_gdF2 ?_)); (((with_reducible refine e_opN v_pickF Imp.nil ?_))); ((with_reducible refine e_condF ?_))
    refine e_ret () (by unfold puR; rw [if_pos hv]) ?_
    (repeat (first | exact Imp.refl | exact Imp.nil | (apply Imp.pick; (focus ((repeat constructor); done))) | refine Imp.drop ?_))
def puP (l : List UInt8) (g : Nat) : Value := if valF l ≤ 9223372036854775807 then .tuple #[.int .u64 (valF l : Int), .nilIface] else .tuple #[.int .u64 9223372036854775807, .iface 172 (.pointer (some ⟨g, 0, none⟩))]
theorem parse1 {W : World} [hG : Gl W] {l : List UInt8} (hn : l ≠ []) (hd : l.all digB = true) (hl : l.length ≤ 281474976710656) : Cn Tryz.prog 57 [txt l, .int .i64 10, .int .i64 63] W [] (fun g : Nat => puP l g) (fun _ => []) := by
  (refine S.strconv_ParseUint_cn fun F => ?_; unfold S.strconv_ParseUint; simp only [List.cons_append, List.nil_append])
  (refine' e_call (parse0 hn hd (by omega)) ?hp fun _ => ?_; (case hp => (repeat (first | exact Picks.nil | (apply Picks.cons; (focus (repeat constructor)))))); (try simp only [List.cons_append, List.nil_append, Bool.not_true, Bool.not_false]))
  unfold puR
  by_cases h : valF l ≤ 9223372036854775807
  · rw [if_pos h]
    (((with_reducible refine' e_opN (v_extN ?hc) Imp.nil ?_); (case hc => (repeat (first | exact Nth.here | apply Nth.there))))); (((with_reducible refine' e_opN (v_extN ?hc) Imp.nil ?_); (case hc => (repeat (first | exact Nth.here | apply Nth.there)))))
    refine e_opN (v_neIf0 ifT) Imp.nil ?_
    refine e_condF ?_
    refine e_ret 0 (by unfold puP; rw [if_pos h]) ?_
    (repeat (first | exact Imp.refl | exact Imp.nil | (apply Imp.pick; (focus ((repeat constructor); done))) | refine Imp.drop ?_))
  · rw [if_neg h]
    (((with_reducible refine' e_opN (v_extN ?hc) Imp.nil ?_); (case hc => (repeat (first | exact Nth.here | apply Nth.there))))); (((with_reducible refine' e_opN (v_extN ?hc) Imp.nil ?_); (case hc => (repeat (first | exact Nth.here | apply Nth.there)))))
    refine e_opN (v_neIf ifT) Imp.nil ?_
    refine e_condT ?_
    refine e_call (toError (a := [80, 97, 114, 115, 101, 85, 105, 110, 116]) hl) .nil fun g => ?_
    (try simp only [List.cons_append, List.nil_append, -eq_self])
    refine e_ret g (by unfold puP; rw [if_neg h]) ?_
    (repeat (first | exact Imp.refl | exact Imp.nil | (apply Imp.pick; (focus ((repeat constructor); done))) | refine Imp.drop ?_))
def dgC : List UInt8 := [48, 49, 50, 51, 52, 53, 54, 55, 56, 57, 97, 98, 99, 100, 101, 102]
theorem dg_ix (c : UInt8) : (ixF dgC (lowB c) < 0 ∨ 10 ≤ ixF dgC (lowB c)) ↔ digB c = false := by
  refine all8 (p := fun c => (ixF dgC (lowB c) < 0 ∨ 10 ≤ ixF dgC (lowB c)) ↔ digB c = false) ?_ c
  decide +kernel
theorem dg_low {l : List UInt8} (h : l.all digB = true) : lowF l = l := by
  unfold lowF
  conv => rhs; rw [← List.map_id l]
  refine List.map_congr_left fun c hc => ?_
  have := dg_b (List.all_eq_true.1 h c hc)
  unfold lowB
  rw [if_neg]
  · rfl
  · rintro ⟨h1, _⟩
    have := UInt8.le_iff_toNat_le.1 h1
    simp only [show (65 : UInt8).toNat = 65 from rfl] at this
    omega
theorem number {W : World} [hG : Gl W] {l : List UInt8} (hl : l.length ≤ 281474976710656) : Cn Tryz.prog 40 [txt l, .int .i64 10, .int .i64 1000000000000000000] W [] (fun _ : Unit => .tuple #[.int .i64 (decF l).1, .int .i64 (decF l).2]) (fun _ => []) := by
  (refine S.ascii_number_string_cn fun F => ?_; unfold S.ascii_number_string; simp only [List.cons_append, List.nil_append])
  (refine' e_call (lower (l := l) (by omega)) ?hp fun _ => ?_; (case hp => (repeat (first | exact Picks.nil | (apply Picks.cons; (focus (repeat constructor)))))); (try simp only [List.cons_append, List.nil_append, Bool.not_true, Bool.not_false]))
  have hlen : (lowF l).length = l.length := by simp [lowF]
  refine e_opN v_lent Imp.nil ?_
  rw [hlen]
  refine e_loop1 (fun m y => (ex fun i : Nat => pu (m + i = l.length ∧ y = .int .i64 (i : Int) ∧ l.all digB = (l.drop i).all digB)) :: F) l.length ?_ ?_
  · refine .ex 0 (.pu ⟨by omega, rfl, rfl⟩ ?_)
    (repeat (first | exact Imp.refl | exact Imp.nil | (apply Imp.pick; (focus ((repeat constructor); done))) | refine Imp.drop ?_))
  intro m ds y
  (try simp only [List.cons_append, List.nil_append, -eq_self])
  refine e_ex Pick.here fun i => e_pu Pick.here fun hi => ?_
  obtain ⟨hmi, rfl, hall⟩ := hi
  (refine e_ask v_lss Imp.nil (fun h => ?_) (fun h => ?_))
  · have hil : i < l.length := by omega
    refine e_condT ?_
    refine e_opN (v_ixS i rfl (by rw [hlen]; exact hil)) Imp.nil ?_
    have hg : (lowF l)[i]'(by rw [hlen]; exact hil) = lowB l[i] := by simp [lowF]
    rw [hg]
    refine e_call (indexByte (l := dgC) (c := lowB l[i])) .nil fun _ => ?_
    (try simp only [List.cons_append, List.nil_append, -eq_self])
    have hdx := dg_ix l[i]
    rw [dr hil, List.all_cons] at hall
    have bad : digB l[i] = false → decF l = (0, 21) := fun h => by
      rw [h, Bool.false_and] at hall
      unfold decF
      rw [hall, Bool.and_false]; rfl
    refine e_ask v_lss Imp.nil (fun h1 => ?_) (fun h1 => ?_)
    · ((with_reducible refine e_gdF1 ?_)); ((with_reducible refine e_gdF1 ?_)); ((with_reducible refine e_gdF1 ?_)); (((with_reducible refine e_opN v_pickT Imp.nil ?_))); ((with_reducible refine e_condT ?_))
      rw [bad (hdx.1 (.inl h1))]
      (first | refine e_ret (()) rfl ?_ | refine e_retT (()) ?_)
      (repeat (first | exact Imp.refl | exact Imp.nil | (apply Imp.pick; (focus ((repeat constructor); done))) | refine Imp.drop ?_))
    · ((with_reducible refine e_gdT ?_)); ((with_reducible refine e_gdT ?_)); ((with_reducible refine e_gdT ?_))
      refine e_ask v_geq Imp.nil (fun h2 => ?_) (fun h2 => ?_)
      · (((with_reducible refine e_opN v_pickF Imp.nil ?_))); ((with_reducible refine e_condT ?_))
        rw [bad (hdx.1 (.inr h2))]
        (first | refine e_ret (()) rfl ?_ | refine e_retT (()) ?_)
        (repeat (first | exact Imp.refl | exact Imp.nil | (apply Imp.pick; (focus ((repeat constructor); done))) | refine Imp.drop ?_))
      · (((with_reducible refine e_opN v_pickF Imp.nil ?_))); ((with_reducible refine e_condF ?_)); (((with_reducible refine e_opN (v_add ?h1 ?h2) Imp.nil ?_); (case h1 => omega); (case h2 => omega)))
        have hg : digB l[i] = true := by
          cases hx : digB l[i] with
          | true => rfl
          | false => have := hdx.2 hx; omega
        rw [hg, Bool.true_and] at hall
        refine e_next1 (m - 1) (by omega) (.ex (i + 1) (.pu ⟨by omega, rfl, hall⟩ ?_))
        (repeat (first | exact Imp.refl | exact Imp.nil | (apply Imp.pick; (focus ((repeat constructor); done))) | refine Imp.drop ?_))
  · rw [List.drop_of_length_le (by omega), List.all_nil] at hall
    refine e_condF ?_
    have e0 : (Value.string ⟨#[]⟩) = txt [] := rfl
    rw [e0, dg_low hall]
    refine e_ask v_streq Imp.nil (fun h1 => ?_) (fun h1 => ?_)
    · subst h1
      ((with_reducible refine e_condT ?_))
      (first | refine e_ret (()) rfl ?_ | refine e_retT (()) ?_)
      (repeat (first | exact Imp.refl | exact Imp.nil | (apply Imp.pick; (focus ((repeat constructor); done))) | refine Imp.drop ?_))
    · refine e_condF ?_
      have hnb : nb l = true := by cases l with
        | nil => exact absurd rfl h1
        | cons _ _ => rfl
      refine e_call (parse1 h1 hall hl) .nil fun g => ?_
      (try simp only [List.cons_append, List.nil_append, -eq_self])
      unfold puP
      by_cases h : valF l ≤ 9223372036854775807
      · rw [if_pos h]
        (((with_reducible refine' e_opN (v_extN ?hc) Imp.nil ?_); (case hc => (repeat (first | exact Nth.here | apply Nth.there))))); (((with_reducible refine' e_opN (v_extN ?hc) Imp.nil ?_); (case hc => (repeat (first | exact Nth.here | apply Nth.there)))))
        refine e_opN (v_neIf0 ifT) Imp.nil ?_
        ((with_reducible refine e_gdT ?_)); ((with_reducible refine e_gdT ?_)); ((with_reducible refine e_gdT ?_))
        refine e_opN v_conv Imp.nil ?_
        rw [show IntKind.u64.wrap 1000000000000000000 = 1000000000000000000 by rfl]
        ((with_reducible refine e_gdT ?_))
        refine e_ask v_gtr Imp.nil (fun h2 => ?_) (fun h2 => ?_)
        · (((with_reducible refine e_opN v_pickF Imp.nil ?_))); ((with_reducible refine e_condT ?_))
          have : decF l = (0, 11) := by
            unfold decF
            rw [hnb, hall, if_pos (by rfl), if_neg (by omega)]
          rw [this]
          (first | refine e_ret (()) rfl ?_ | refine e_retT (()) ?_)
          (repeat (first | exact Imp.refl | exact Imp.nil | (apply Imp.pick; (focus ((repeat constructor); done))) | refine Imp.drop ?_))
        · (((with_reducible refine e_opN v_pickF Imp.nil ?_))); ((with_reducible refine e_condF ?_))
          refine e_opN v_conv Imp.nil ?_
          have : decF l = ((valF l : Int), 0) := by
            unfold decF
            rw [hnb, hall, if_pos (by rfl), if_pos (by omega)]
          rw [this, show IntKind.i64.wrap (valF l : Int) = (valF l : Int) by simp [IntKind.wrap, IntKind.signed, IntKind.bits]; omega]
          (first | refine e_ret (()) rfl ?_ | refine e_retT (()) ?_)
          (repeat (first | exact Imp.refl | exact Imp.nil | (apply Imp.pick; (focus ((repeat constructor); done))) | refine Imp.drop ?_))
      · rw [if_neg h]
        (((with_reducible refine' e_opN (v_extN ?hc) Imp.nil ?_); (case hc => (repeat (first | exact Nth.here | apply Nth.there))))); (((with_reducible refine' e_opN (v_extN ?hc) Imp.nil ?_); (case hc => (repeat (first | exact Nth.here | apply Nth.there)))))
        refine e_opN (v_neIf ifT) Imp.nil ?_
        ((with_reducible refine e_gdF1 ?_)); ((with_reducible refine e_gdF1 ?_)); ((with_reducible refine e_gdF1 ?_)); ((with_reducible refine e_gdF1 ?_)); (((with_reducible refine e_opN v_pickT Imp.nil ?_))); ((with_reducible refine e_condT ?_))
        have : decF l = (0, 11) := by
          unfold decF
          rw [hnb, hall, if_pos (by rfl), if_neg (by omega)]
        rw [this]
        (first | refine e_ret (()) rfl ?_ | refine e_retT (()) ?_)
        (repeat (first | exact Imp.refl | exact Imp.nil | (apply Imp.pick; (focus ((repeat constructor); done))) | refine Imp.drop ?_))
theorem decimal {W : World} [hG : Gl W] {l : List UInt8} (hl : l.length ≤ 281474976710656) : Cn Tryz.prog 24 [txt l] W [] (fun _ : Unit => .tuple #[.int .i64 (decF l).1, .int .i64 (decF l).2]) (fun _ => []) := by
  (refine S.ascii_Decimal_cn fun F => ?_; unfold S.ascii_Decimal; simp only [List.cons_append, List.nil_append])
  (refine' e_call (number hl) ?hp fun _ => ?_; (case hp => (repeat (first | exact Picks.nil | (apply Picks.cons; (focus (repeat constructor)))))); (try simp only [List.cons_append, List.nil_append, Bool.not_true, Bool.not_false]))
  (((with_reducible refine' e_opN (v_extN ?hc) Imp.nil ?_); (case hc => (repeat (first | exact Nth.here | apply Nth.there))))); (((with_reducible refine' e_opN (v_extN ?hc) Imp.nil ?_); (case hc => (repeat (first | exact Nth.here | apply Nth.there)))))
  (first | refine e_ret (()) rfl ?_ | refine e_retT (()) ?_)
  (repeat (first | exact Imp.refl | exact Imp.nil | (apply Imp.pick; (focus ((repeat constructor); done))) | refine Imp.drop ?_))
end Go.Proofs.YtcigoifhcfbcdaaGreatDoor.FD
