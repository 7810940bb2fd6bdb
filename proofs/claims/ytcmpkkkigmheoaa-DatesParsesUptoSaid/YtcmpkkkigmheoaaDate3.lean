/- Numbers as digits; the names. No conditions but those that each names. -/
import Derived.Test.YtcmpkkkigmheoaaDate2
set_option linter.unusedVariables false
set_option linter.unusedSimpArgs false
namespace Go.Proofs.Ytcmpkkkigmheoaa.D
open Go Go.Proofs Go.RowKit Go.Proofs.Ytcmpkkkigmheoaa.Sh Go.Proofs.Ytcmpkkkigmheoaa.Sl Go.Proofs.Ytcmpkkkigmheoaa.T
def gV (f : Nat → UInt8) (n : Nat) : List Value := (List.range n).map fun j => Sl.B (f j)
theorem gV_len (f : Nat → UInt8) (n : Nat) : (gV f n).length = n := by simp [gV]
theorem gV_get {f : Nat → UInt8} {n k : Nat} (h : k < n) : (gV f n)[k]? = some (Sl.B (f k)) := by simp [gV, h]
theorem gV_set {f : Nat → UInt8} {n k : Nat} {c : UInt8} : (gV f n).set k (Sl.B c) = gV (fun q => if q = k then c else f q) n := by
  apply List.ext_getElem?
  intro j
  rw [List.getElem?_set, gV_len]
  by_cases hj : j < n
  · rw [gV_get hj, gV_get hj]
    by_cases c : k = j
    · subst c; rw [if_pos rfl, if_pos hj, if_pos rfl]
    · rw [if_neg c, if_neg (fun e => c e.symm)]
  · rw [List.getElem?_eq_none (by rw [gV_len]; omega), List.getElem?_eq_none (by rw [gV_len]; omega)]
    split
    · split
      · omega
      · rfl
    · rfl
def dgAt (n size : Nat) (fill : UInt8) (j : Nat) : UInt8 := if n / 10 ^ (size - 1 - j) = 0 ∧ j < size - 1 then fill else UInt8.ofNat (48 + n / 10 ^ (size - 1 - j) % 10)
def dg (n size : Nat) (fill : UInt8) : List UInt8 := (List.range size).map (dgAt n size fill)
theorem dg_len (n size : Nat) (fill : UInt8) : (dg n size fill).length = size := by simp [dg]
theorem u8_of (n : Nat) (h : n < 256) : (UInt8.ofNat n).toNat = n := by rw [UInt8.toNat_ofNat']; exact Nat.mod_eq_of_lt h
theorem digits {W : World} {n size : Nat} {fill : UInt8} (hn : n ≤ 9223372036854775807) (hs : 1 ≤ size ∧ size ≤ 16) : Cn Try.prog 42 [.int .i64 (n : Int), .int .i64 (size : Int), Sl.B fill] W [] (fun _ : Unit => txt (dg n size fill)) (fun _ => []) := by
  (refine S.dates_digits_cn fun F => ?_; unfold S.dates_digits; simp only [List.cons_append, List.nil_append])
  refine e_mksl size size rfl rfl (by omega) (by omega) (by unfold maxLen; omega) fun g => ?_
  have e0 : List.replicate size (Value.int .u8 0) = gV (fun _ => 0) size := by
    apply List.ext_getElem?
    intro j
    by_cases hj : j < size
    · rw [gV_get hj]; simp [hj, Sl.B]
    · rw [List.getElem?_eq_none (by simp; omega), List.getElem?_eq_none (by rw [gV_len]; omega)]
  rw [e0]
  (((with_reducible refine e_opN (v_sub ?h1 ?h2) Imp.nil ?_); (case h1 => omega); (case h2 => omega)))
  refine e_loop2 (fun m y0 y8 => [ex fun st : Nat × (Nat → UInt8) => all [pu (m + st.1 = size ∧ y0 = .int .i64 ((n / 10 ^ st.1 : Nat) : Int) ∧ y8 = .int .i64 ((size : Int) - 1 - st.1) ∧ ∀ j, j < size → size ≤ j + st.1 → st.2 j = dgAt n size fill j), Sl 1 5 (some ⟨g, 0, none⟩) size size (gV st.2 size)]] ++ F) size ?_ ?_
  · refine .ex (0, fun _ => 0) (.all ?_)
    (try simp only [List.cons_append, List.nil_append, -eq_self])
    refine .pu ⟨by omega, by simp, by simp, fun j h1 h2 => by omega⟩ ?_
    (repeat (first | exact Imp.refl | exact Imp.nil | (apply Imp.pick; (focus ((repeat constructor); done))) | refine Imp.drop ?_))
  intro m ds y0 y8
  (try simp only [List.cons_append, List.nil_append, -eq_self])
  refine e_ex Pick.here fun st => e_all Pick.here ?_
  obtain ⟨k, f⟩ := st
  (try simp only [List.cons_append, List.nil_append, -eq_self])
  refine e_pu Pick.here fun hi => ?_
  (try dsimp only at hi)
  obtain ⟨hmk, rfl, rfl, hf⟩ := hi
  (try dsimp only)
  (refine e_ask v_geq Imp.nil (fun h => ?_) (fun h => ?_))
  · obtain ⟨i, hik⟩ : ∃ i : Nat, i = size - 1 - k := ⟨_, rfl⟩
    have hi : (size : Int) - 1 - (k : Int) = (i : Int) := by omega
    have hdg : dgAt n size fill i = if n / 10 ^ k = 0 ∧ i < size - 1 then fill else UInt8.ofNat (48 + n / 10 ^ k % 10) := by unfold dgAt; rw [show size - 1 - i = k by omega]
    have hq : n / 10 ^ k ≤ n := Nat.div_le_self _ _
    have hsu : n / 10 ^ (k + 1) = n / 10 ^ k / 10 := by rw [Nat.pow_succ, Nat.div_div_eq_div_mul]
    rw [hi]
    generalize n / 10 ^ k = q at hdg hq hsu ⊢
    ((with_reducible refine e_condT ?_)); (((with_reducible refine e_opN (v_rem ?h1 ?h2) Imp.nil ?_); (case h1 => omega); (case h2 => omega))); (((with_reducible refine e_opN (v_add ?h1 ?h2) Imp.nil ?_); (case h1 => omega); (case h2 => omega)))
    rw [show (48 : Int) + (q : Int) % 10 = ((48 + q % 10 : Nat) : Int) by omega]
    refine e_opN v_conv Imp.nil ?_
    rw [show IntKind.u8.wrap ((48 + q % 10 : Nat) : Int) = ((48 + q % 10 : Nat) : Int) by simp only [IntKind.wrap, IntKind.bits, IntKind.signed]; simp; omega, show Value.int .u8 ((48 + q % 10 : Nat) : Int) = Sl.B (UInt8.ofNat (48 + q % 10)) by unfold Sl.B; rw [u8_of _ (by omega)]]
    refine e_opN (v_ia1 i (by rfl) (by omega)) Imp.nil ?_
    refine e_stSl (by (repeat constructor)) (by rw [gV_len]; omega) ?_
    rw [Nat.zero_add, gV_set]
    refine e_cut0 ([Sl 1 5 (some ⟨g, 0, none⟩) size size (gV (fun x => if x = i then dgAt n size fill i else f x) size)] ++ F) ?_ ?_
    rotate_left
    · refine e_ask v_eql Imp.nil (fun hq0 => ?_) (fun hq0 => ?_)
      · ((with_reducible refine e_gdT ?_)); ((with_reducible refine e_gdT ?_)); ((with_reducible refine e_gdT ?_)); (((with_reducible refine e_opN (v_sub ?h1 ?h2) Imp.nil ?_); (case h1 => omega); (case h2 => omega))); ((with_reducible refine e_gdT ?_))
        refine e_ask v_lss Imp.nil (fun hi0 => ?_) (fun hi0 => ?_)
        · (((with_reducible refine e_opN v_pickT Imp.nil ?_))); ((with_reducible refine e_condT ?_))
          refine e_opN (v_ia1 i (by rfl) (by omega)) Imp.nil ?_
          refine e_stSl (by (repeat constructor)) (by rw [gV_len]; omega) ?_
          rw [Nat.zero_add, gV_set]
          have e2 : (fun x => if x = i then fill else (fun y => if y = i then UInt8.ofNat (48 + q % 10) else f y) x) = fun x => if x = i then dgAt n size fill i else f x := funext fun x => by
            have hd1 : dgAt n size fill i = fill := by rw [hdg]; exact if_pos ⟨by omega, by omega⟩
            rw [hd1]
            by_cases c : x = i
            · rw [if_pos c, if_pos c]
            · simp only [if_neg c]
          rw [e2]
          refine e_sat ?_
          (repeat (first | exact Imp.refl | exact Imp.nil | (apply Imp.pick; (focus ((repeat constructor); done))) | refine Imp.drop ?_))
        · (((with_reducible refine e_opN v_pickT Imp.nil ?_))); ((with_reducible refine e_condF ?_))
          have e2 : (fun x => if x = i then UInt8.ofNat (48 + q % 10) else f x) = fun x => if x = i then dgAt n size fill i else f x := funext fun x => by
            have hd1 : dgAt n size fill i = UInt8.ofNat (48 + q % 10) := by rw [hdg]; exact if_neg (fun c => hi0 (by omega))
            rw [hd1]
          rw [e2]
          refine e_sat ?_
          (repeat (first | exact Imp.refl | exact Imp.nil | (apply Imp.pick; (focus ((repeat constructor); done))) | refine Imp.drop ?_))
      · ((with_reducible refine e_gdF2 ?_)); ((with_reducible refine e_gdF2 ?_)); ((with_reducible refine e_gdF2 ?_)); ((with_reducible refine e_gdF2 ?_)); (((with_reducible refine e_opN v_pickF Imp.nil ?_))); ((with_reducible refine e_condF ?_))
        have e2 : (fun x => if x = i then UInt8.ofNat (48 + q % 10) else f x) = fun x => if x = i then dgAt n size fill i else f x := funext fun x => by
          have hd1 : dgAt n size fill i = UInt8.ofNat (48 + q % 10) := by rw [hdg]; exact if_neg (fun c => hq0 (by omega))
          rw [hd1]
        rw [e2]
        refine e_sat ?_
        (repeat (first | exact Imp.refl | exact Imp.nil | (apply Imp.pick; (focus ((repeat constructor); done))) | refine Imp.drop ?_))
    intro ds2
    (try simp only [List.cons_append, List.nil_append, -eq_self])
    (((with_reducible refine e_opN (v_quo ?h1 ?h2 ?h3) Imp.nil ?_); (case h1 => omega); (case h2 => omega); (case h3 => omega))); (((with_reducible refine e_opN (v_sub ?h1 ?h2) Imp.nil ?_); (case h1 => omega); (case h2 => omega)))
    refine e_next2 (m - 1) (by omega) (.ex (k + 1, fun x => if x = i then dgAt n size fill i else f x) (.all ?_))
    (try simp only [List.cons_append, List.nil_append, -eq_self])
    refine .pu ⟨by omega, ?_, ?_, fun j h1 h2 => ?_⟩ ?_
    · rw [hsu]; simp
    · congr 1; push_cast; omega
    · by_cases c : j = i
      · rw [if_pos c, c]
      · simp only [if_neg c]; exact hf j h1 (by omega)
    · (repeat (first | exact Imp.refl | exact Imp.nil | (apply Imp.pick; (focus ((repeat constructor); done))) | refine Imp.drop ?_))
  · refine e_condF ?_
    have hk : k = size := by omega
    have e3 : gV f size = (dg n size fill).map Sl.B := by
      unfold gV dg
      rw [List.map_map]
      refine List.map_congr_left fun j hj => ?_
      have := List.mem_range.1 hj
      show Sl.B (f j) = Sl.B (dgAt n size fill j)
      rw [hf j (by omega) (by omega)]
    rw [e3]
    refine e_opN (v_str (l := dg n size fill) (n := size) (rd_sl (by rw [List.length_map, dg_len]) (fun _ => ⟨g, rfl⟩)) (fun c => by cases c)) (.pick (by (repeat constructor)) .nil) ?_
    (first | refine e_ret (()) rfl ?_ | refine e_retT (()) ?_)
    (repeat (first | exact Imp.refl | exact Imp.nil | (apply Imp.pick; (focus ((repeat constructor); done))) | refine Imp.drop ?_))
end Go.Proofs.Ytcmpkkkigmheoaa.D
