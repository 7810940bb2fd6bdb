/- Texts without blanks at both ends, cut at a byte, alike but for great letters. No conditions but those that each names. -/
import Derived.Test.YtcigoifhcfbcdaaGreatDoorFld1
import Derived.Test.YtcigoifhcfbcdaaGreatDoorShapes3
set_option linter.unusedVariables false
set_option linter.unusedSimpArgs false
namespace Go.Proofs.YtcigoifhcfbcdaaGreatDoor.FD
open Go Go.Proofs Go.RowKit Go.Proofs.YtcigoifhcfbcdaaGreatDoor.Sh Go.Proofs.YtcigoifhcfbcdaaGreatDoor.Sl Go.Proofs.YtcigoifhcfbcdaaGreatDoor.T
def Bn (n : Nat) (f : Nat → Bool) : Array Value := ((List.range n).map fun j => Value.bool (f j)).toArray
theorem Bn_size (n : Nat) (f : Nat → Bool) : (Bn n f).size = n := by simp [Bn]
theorem Bn_get {n j : Nat} {f : Nat → Bool} (h : j < n) : (Bn n f)[j]? = some (.bool (f j)) := by simp [Bn, h]
theorem Bn_congr {n : Nat} {f g : Nat → Bool} (h : ∀ j, j < n → f j = g j) : Bn n f = Bn n g := by
  unfold Bn
  congr 1
  exact List.map_congr_left fun j hj => by rw [h j (List.mem_range.1 hj)]
theorem Bn_set {n j : Nat} {f : Nat → Bool} {v : Bool} : (Bn n f).setIfInBounds j (.bool v) = Bn n fun i => if i = j then v else f i := by
  apply Array.ext_getElem?
  intro i
  rw [Array.getElem?_setIfInBounds, Bn_size]
  by_cases c : j = i
  · subst c
    rw [if_pos rfl]
    by_cases h : j < n
    · rw [if_pos h, Bn_get h]; simp
    · rw [if_neg h, Array.getElem?_eq_none (by rw [Bn_size]; omega)]
  · rw [if_neg c]
    by_cases h : i < n
    · rw [Bn_get h, Bn_get h, if_neg (fun e => c e.symm)]
    · rw [Array.getElem?_eq_none (by rw [Bn_size]; omega), Array.getElem?_eq_none (by rw [Bn_size]; omega)]
theorem bn_one {n : Nat} {f : Nat → Bool} : ∀ u ∈ (Bn n f).toList, u.oneCell' = true := by
  intro u hu
  simp only [Bn] at hu
  obtain ⟨j, _, rfl⟩ := List.mem_map.1 hu
  rfl
instance zeroSet : ZeroT Tryz.prog 149 (.agg (Bn 256 fun _ => false)) := ⟨fun w => (Tryz.zeroValue149 w).trans (by
  have : Tryz.zeroCells149 = Bn 256 fun _ => false := by kernel_rfl
  rw [this])⟩
def blN (j : Nat) : Bool := decide (j = 32 ∨ j = 9)
theorem blN_c (c : UInt8) : blN c.toNat = isBl c := by
  refine all8 (p := fun c => blN c.toNat = isBl c) ?_ c
  decide +kernel
theorem makeSet {W : World} : Cn Tryz.prog 80 [txt [32, 9]] W [] (fun _ : Unit => .tuple #[.agg (Bn 256 blN), .bool true]) (fun _ => []) := by
  (refine S.strings_makeASCIISet_cn fun F => ?_; unfold S.strings_makeASCIISet; simp only [List.cons_append, List.nil_append])
  refine e_newA fun b => ?_
  refine e_loop1 (fun m y => [ex fun i : Nat => all [pu (m + i = 2 ∧ y = .int .i64 (i : Int)), pt b (.cells (Bn 256 fun j => decide ((j = 32 ∧ 0 < i) ∨ (j = 9 ∧ 1 < i))) 149 (0, 0))]] ++ F) 2 ?_ ?_
  · refine Imp.ex 0 (.all ?_)
    (try simp only [List.cons_append, List.nil_append, -eq_self])
    refine .pu ⟨by omega, rfl⟩ ?_
    have e : (Bn 256 fun j => decide ((j = 32 ∧ 0 < 0) ∨ (j = 9 ∧ 1 < 0))) = Bn 256 fun _ => false := Bn_congr fun j _ => by simp
    rw [e]
    exact .refl
  intro m ds y
  (try simp only [List.cons_append, List.nil_append, -eq_self])
  refine e_ex Pick.here fun i => e_all Pick.here ?_
  (try simp only [List.cons_append, List.nil_append, -eq_self])
  refine e_pu Pick.here fun hi => ?_
  obtain ⟨hmi, rfl⟩ := hi
  refine e_opN v_lent Imp.nil ?_
  (refine e_ask v_lss Imp.nil (fun h => ?_) (fun h => ?_))
  · have hil : i < ([32, 9] : List UInt8).length := Int.ofNat_lt.1 h
    have hi2 : i < 2 := hil
    refine e_condT ?_
    have step : ∀ (c : UInt8), ([32, 9] : List UInt8)[i]? = some c → c.toNat < 128 → (Bn 256 fun j => if j = c.toNat then true else decide ((j = 32 ∧ 0 < i) ∨ (j = 9 ∧ 1 < i))) = (Bn 256 fun j => decide ((j = 32 ∧ 0 < i + 1) ∨ (j = 9 ∧ 1 < i + 1))) := by
      intro c hc _
      refine Bn_congr fun j _ => ?_
      have : i = 0 ∨ i = 1 := by omega
      rcases this with rfl | rfl
      · have : c = 32 := by simpa using hc.symm
        subst this
        by_cases h1 : j = 32 <;> simp [h1]
      · have : c = 9 := by simpa using hc.symm
        subst this
        by_cases h1 : j = 9 <;> simp [h1]
    have hc : ([32, 9] : List UInt8)[i].toNat < 128 := by
      have : i = 0 ∨ i = 1 := by omega
      rcases this with rfl | rfl
      · show (32 : UInt8).toNat < 128
        decide
      · show (9 : UInt8).toNat < 128
        decide
    refine e_opN (v_ixS (l := [32, 9]) i rfl hil) Imp.nil ?_
    have hstep := step _ (List.getElem?_eq_getElem hil) hc
    obtain ⟨c, hce⟩ : ∃ c, c = ([32, 9] : List UInt8)[i] := ⟨_, rfl⟩
    rw [← hce] at hstep hc ⊢
    refine e_opN (v_geq (q := .u8) (a := (c.toNat : Int)) (b := 128)) Imp.nil ?_
    rw [decide_eq_false (by omega)]
    refine e_condF ?_
    refine e_opN (v_iaA c.toNat rfl (by omega)) Imp.nil ?_
    rw [Nat.zero_add, Nat.mul_one]
    refine e_st .here (by rw [Bn_size]; omega) ?_
    rw [Bn_set, hstep]
    (((with_reducible refine e_opN (v_add ?h1 ?h2) Imp.nil ?_); (case h1 => omega); (case h2 => omega)))
    refine e_next1 (m - 1) (by omega) (.ex (i + 1) (.all ?_))
    (try simp only [List.cons_append, List.nil_append, -eq_self])
    exact .pu ⟨by omega, rfl⟩ .refl
  · have hi2 : i = 2 := by simp at h; omega
    subst hi2
    refine e_condF ?_
    have e : (Bn 256 fun j => decide ((j = 32 ∧ 0 < 2) ∨ (j = 9 ∧ 1 < 2))) = Bn 256 blN := Bn_congr fun j _ => by simp [blN]
    rw [e]
    refine e_opN (v_ldAgg (Bn_size 256 _)) (.pick .here .nil) ?_
    refine e_stAgg .here (Bn_size 256 _) (Bn_size 256 _) bn_one ?_
    refine e_stS (v_resA (Bn_size 256 _)) (.pick .here .nil) ?_
    (first | refine e_ret (()) rfl ?_ | refine e_retT (()) ?_)
    (repeat (first | exact Imp.refl | exact Imp.nil | (apply Imp.pick; (focus ((repeat constructor); done))) | refine Imp.drop ?_))
theorem contains {W : World} {g : Nat} {c : UInt8} : Cn Tryz.prog 100 [.pointer (some ⟨g, 0, none⟩), Sl.B c] W [pt g (.cells (Bn 256 blN) 149 (0, 0))] (fun _ : Unit => .bool (isBl c)) (fun _ => [pt g (.cells (Bn 256 blN) 149 (0, 0))]) := by
  (refine S.strings_asciiSet_contains_cn fun F => ?_; unfold S.strings_asciiSet_contains; simp only [List.cons_append, List.nil_append])
  (((with_reducible refine e_opN v_nil Imp.nil ?_)))
  have hc := c.toNat_lt
  refine e_opN (v_iaA c.toNat rfl hc) Imp.nil ?_
  rw [Nat.zero_add, Nat.mul_one]
  refine e_opN (v_ld (Bn_get hc)) (.pick .here .nil) ?_
  rw [blN_c]
  (first | refine e_ret (()) rfl ?_ | refine e_retT (()) ?_)
  (repeat (first | exact Imp.refl | exact Imp.nil | (apply Imp.pick; (focus ((repeat constructor); done))) | refine Imp.drop ?_))
theorem trimLeft {W : World} {g : Nat} {l : List UInt8} (hl : l.length ≤ 4611686018427387904) : Cn Tryz.prog 81 [txt l, .pointer (some ⟨g, 0, none⟩)] W [pt g (.cells (Bn 256 blN) 149 (0, 0))] (fun _ : Unit => txt (trimL l)) (fun _ => [pt g (.cells (Bn 256 blN) 149 (0, 0))]) := by
  (refine S.strings_trimLeftASCII_cn fun F => ?_; unfold S.strings_trimLeftASCII; simp only [List.cons_append, List.nil_append])
  refine e_loop1 (fun m y => [ex fun u : List UInt8 => all [pu (m = u.length ∧ y = txt u ∧ trimL u = trimL l ∧ u.length ≤ l.length), pt g (.cells (Bn 256 blN) 149 (0, 0))]] ++ F) l.length ?_ ?_
  · refine Imp.ex l (.all ?_)
    (try simp only [List.cons_append, List.nil_append, -eq_self])
    exact .pu ⟨rfl, rfl, rfl, Nat.le_refl _⟩ .refl
  intro m ds y
  (try simp only [List.cons_append, List.nil_append, -eq_self])
  refine e_ex Pick.here fun u => e_all Pick.here ?_
  (try simp only [List.cons_append, List.nil_append, -eq_self])
  refine e_pu Pick.here fun hi => ?_
  obtain ⟨hmi, rfl, htr, hul⟩ := hi
  refine e_opN v_lent Imp.nil ?_
  (refine e_ask v_gtr Imp.nil (fun h => ?_) (fun h => ?_))
  · have h0 : 0 < u.length := by omega
    refine e_condT ?_
    refine e_opN (v_ixS 0 rfl h0) Imp.nil ?_
    (refine' e_call (contains) ?hp fun _ => ?_; (case hp => (repeat (first | exact Picks.nil | (apply Picks.cons; (focus (repeat constructor)))))); (try simp only [List.cons_append, List.nil_append, Bool.not_true, Bool.not_false]))
    refine e_opN v_not Imp.nil ?_
    cases hb : isBl u[0] with
    | true =>
      refine e_condF ?_
      refine e_opN (v_ssl 1 rfl (by omega)) Imp.nil ?_
      refine e_next1 (m - 1) (by omega) (.ex (u.drop 1) (.all ?_))
      (try simp only [List.cons_append, List.nil_append, -eq_self])
      refine .pu ⟨by rw [List.length_drop]; omega, rfl, (trimL_t h0 hb).symm.trans htr, by rw [List.length_drop]; omega⟩ ?_
      (repeat (first | exact Imp.refl | exact Imp.nil | (apply Imp.pick; (focus ((repeat constructor); done))) | refine Imp.drop ?_))
    | false =>
      refine e_condT ?_
      rw [← htr, trimL_f h0 hb]
      (first | refine e_ret (()) rfl ?_ | refine e_retT (()) ?_)
      (repeat (first | exact Imp.refl | exact Imp.nil | (apply Imp.pick; (focus ((repeat constructor); done))) | refine Imp.drop ?_))
  · have h0 : u = [] := List.eq_nil_of_length_eq_zero (by omega)
    subst h0
    refine e_condF ?_
    rw [← htr]
    (first | refine e_ret (()) rfl ?_ | refine e_retT (()) ?_)
    (repeat (first | exact Imp.refl | exact Imp.nil | (apply Imp.pick; (focus ((repeat constructor); done))) | refine Imp.drop ?_))
theorem trimRight {W : World} {g : Nat} {l : List UInt8} (hl : l.length ≤ 4611686018427387904) : Cn Tryz.prog 82 [txt l, .pointer (some ⟨g, 0, none⟩)] W [pt g (.cells (Bn 256 blN) 149 (0, 0))] (fun _ : Unit => txt (trimR l)) (fun _ => [pt g (.cells (Bn 256 blN) 149 (0, 0))]) := by
  (refine S.strings_trimRightASCII_cn fun F => ?_; unfold S.strings_trimRightASCII; simp only [List.cons_append, List.nil_append])
  refine e_loop1 (fun m y => [ex fun u : List UInt8 => all [pu (m = u.length ∧ y = txt u ∧ trimR u = trimR l ∧ u.length ≤ l.length), pt g (.cells (Bn 256 blN) 149 (0, 0))]] ++ F) l.length ?_ ?_
  · refine Imp.ex l (.all ?_)
    (try simp only [List.cons_append, List.nil_append, -eq_self])
    exact .pu ⟨rfl, rfl, rfl, Nat.le_refl _⟩ .refl
  intro m ds y
  (try simp only [List.cons_append, List.nil_append, -eq_self])
  refine e_ex Pick.here fun u => e_all Pick.here ?_
  (try simp only [List.cons_append, List.nil_append, -eq_self])
  refine e_pu Pick.here fun hi => ?_
  obtain ⟨hmi, rfl, htr, hul⟩ := hi
  refine e_opN v_lent Imp.nil ?_
  (refine e_ask v_gtr Imp.nil (fun h => ?_) (fun h => ?_))
  · obtain ⟨n, hn⟩ : ∃ n, u.length = n + 1 := ⟨u.length - 1, by omega⟩
    refine e_condT ?_
    refine e_opN v_lent Imp.nil ?_
    refine e_opN (v_sub (by omega) (by omega)) Imp.nil ?_
    refine e_opN (v_ixS n (by omega) (by omega)) Imp.nil ?_
    (refine' e_call (contains) ?hp fun _ => ?_; (case hp => (repeat (first | exact Picks.nil | (apply Picks.cons; (focus (repeat constructor)))))); (try simp only [List.cons_append, List.nil_append, Bool.not_true, Bool.not_false]))
    refine e_opN v_not Imp.nil ?_
    cases hb : isBl (u[n]'(by omega)) with
    | true =>
      refine e_condF ?_
      refine e_opN v_lent Imp.nil ?_
      refine e_opN (v_sub (by omega) (by omega)) Imp.nil ?_
      refine e_opN (v_ssh n (by omega) (by omega)) Imp.nil ?_
      refine e_next1 (m - 1) (by omega) (.ex (u.take n) (.all ?_))
      (try simp only [List.cons_append, List.nil_append, -eq_self])
      refine .pu ⟨by rw [List.length_take]; omega, rfl, (trimR_t hn hb).symm.trans htr, by rw [List.length_take]; omega⟩ ?_
      (repeat (first | exact Imp.refl | exact Imp.nil | (apply Imp.pick; (focus ((repeat constructor); done))) | refine Imp.drop ?_))
    | false =>
      refine e_condT ?_
      rw [← htr, trimR_f hn hb]
      (first | refine e_ret (()) rfl ?_ | refine e_retT (()) ?_)
      (repeat (first | exact Imp.refl | exact Imp.nil | (apply Imp.pick; (focus ((repeat constructor); done))) | refine Imp.drop ?_))
  · have h0 : u = [] := List.eq_nil_of_length_eq_zero (by omega)
    subst h0
    refine e_condF ?_
    rw [← htr]
    (first | refine e_ret (()) rfl ?_ | refine e_retT (()) ?_)
    (repeat (first | exact Imp.refl | exact Imp.nil | (apply Imp.pick; (focus ((repeat constructor); done))) | refine Imp.drop ?_))
theorem trimR_len (l : List UInt8) : (trimR l).length ≤ l.length := by
  have h2 := (List.dropWhile_sublist (p := isBl) (l := l.reverse)).length_le
  unfold trimR
  rw [List.length_reverse] at h2 ⊢
  exact h2
theorem trimS {W : World} {l : List UInt8} (hl : l.length ≤ 4611686018427387904) : Cn Tryz.prog 64 [txt l, txt [32, 9]] W [] (fun _ : Unit => txt (trimB l)) (fun _ => []) := by
  (refine S.strings_Trim_cn fun F => ?_; unfold S.strings_Trim; simp only [List.cons_append, List.nil_append])
  have e0 : (Value.string ⟨#[]⟩) = txt [] := rfl
  rw [e0]
  refine e_ask v_streq Imp.nil (fun h => ?_) (fun h => ?_)
  · subst h
    ((with_reducible refine e_gdF1 ?_)); ((with_reducible refine e_gdF1 ?_)); (((with_reducible refine e_opN v_pickT Imp.nil ?_))); ((with_reducible refine e_condT ?_))
    (first | refine e_ret (()) rfl ?_ | refine e_retT (()) ?_)
    (repeat (first | exact Imp.refl | exact Imp.nil | (apply Imp.pick; (focus ((repeat constructor); done))) | refine Imp.drop ?_))
  · ((with_reducible refine e_gdT ?_)); ((with_reducible refine e_gdT ?_))
    refine e_opN v_streq Imp.nil ?_
    rw [decide_eq_false (by decide)]
    (((with_reducible refine e_opN v_pickF Imp.nil ?_))); ((with_reducible refine e_condF ?_))
    refine e_opN v_lent Imp.nil ?_
    refine e_opN v_eql Imp.nil ?_
    rw [decide_eq_false (by decide)]
    ((with_reducible refine e_gdF2 ?_)); ((with_reducible refine e_gdF2 ?_)); ((with_reducible refine e_gdF2 ?_)); (((with_reducible refine e_opN v_pickF Imp.nil ?_))); ((with_reducible refine e_condF ?_))
    (refine' e_call (makeSet) ?hp fun _ => ?_; (case hp => (repeat (first | exact Picks.nil | (apply Picks.cons; (focus (repeat constructor)))))); (try simp only [List.cons_append, List.nil_append, Bool.not_true, Bool.not_false]))
    refine e_opN (v_extN (vs := [_, _]) .here) Imp.nil ?_
    refine e_opN (v_extN (vs := [_, _]) (.there .here)) Imp.nil ?_
    refine e_newA fun b => ?_
    refine e_stAgg .here (Bn_size 256 _) (Bn_size 256 _) bn_one ?_
    refine e_condT ?_
    (refine' e_call (trimRight hl) ?hp fun _ => ?_; (case hp => (repeat (first | exact Picks.nil | (apply Picks.cons; (focus (repeat constructor)))))); (try simp only [List.cons_append, List.nil_append, Bool.not_true, Bool.not_false]))
    (refine' e_call (trimLeft (Nat.le_trans (trimR_len l) hl)) ?hp fun _ => ?_; (case hp => (repeat (first | exact Picks.nil | (apply Picks.cons; (focus (repeat constructor)))))); (try simp only [List.cons_append, List.nil_append, Bool.not_true, Bool.not_false]))
    (first | refine e_ret (()) rfl ?_ | refine e_retT (()) ?_)
    (repeat (first | exact Imp.refl | exact Imp.nil | (apply Imp.pick; (focus ((repeat constructor); done))) | refine Imp.drop ?_))
theorem trim {W : World} {l : List UInt8} (hl : l.length ≤ 4611686018427387904) : Cn Tryz.prog 50 [txt l] W [] (fun _ : Unit => txt (trimB l)) (fun _ => []) := by
  (refine S.ascii_Trim_cn fun F => ?_; unfold S.ascii_Trim; simp only [List.cons_append, List.nil_append])
  have e0 : (Value.string ⟨#[32, 9]⟩) = txt [32, 9] := rfl
  rw [e0]
  (refine' e_call (trimS hl) ?hp fun _ => ?_; (case hp => (repeat (first | exact Picks.nil | (apply Picks.cons; (focus (repeat constructor)))))); (try simp only [List.cons_append, List.nil_append, Bool.not_true, Bool.not_false]))
  (first | refine e_ret (()) rfl ?_ | refine e_retT (()) ?_)
  (repeat (first | exact Imp.refl | exact Imp.nil | (apply Imp.pick; (focus ((repeat constructor); done))) | refine Imp.drop ?_))
theorem cut_ix {c : UInt8} : ∀ {l : List UInt8}, (c ∈ l → cutS c l = true ∧ l.take (l.findIdx (· == c)) = cutA c l ∧ l.drop (l.findIdx (· == c) + 1) = cutB c l) ∧ (c ∉ l → cutS c l = false ∧ cutA c l = l ∧ cutB c l = [])
  | [] => ⟨fun h => (by cases h), fun _ => ⟨rfl, rfl, rfl⟩⟩
  | x :: r => by
    have ih := cut_ix (c := c) (l := r)
    by_cases hx : x = c
    · subst hx
      refine ⟨fun _ => ?_, fun h => absurd (List.mem_cons_self) h⟩
      simp [cutS, cutA, cutB, List.findIdx_cons]
    · have hb : (x == c) = false := by simpa using hx
      refine ⟨fun h => ?_, fun h => ?_⟩
      · have hr : c ∈ r := by
          rcases List.mem_cons.1 h with h | h
          · exact absurd h.symm hx
          · exact h
        obtain ⟨i1, i2, i3⟩ := ih.1 hr
        simp [cutS, cutA, cutB, List.findIdx_cons, hx, hb, i1, i2, i3]
      · obtain ⟨i1, i2, i3⟩ := ih.2 (fun c => h (List.mem_cons_of_mem _ c))
        simp [cutS, cutA, cutB, hx, i1, i2, i3]
theorem index1 {W : World} {l : List UInt8} {c : UInt8} (hl : l.length ≤ 4611686018427387904) : Cn Tryz.prog 65 [txt l, txt [c]] W [] (fun _ : Unit => .int .i64 (ixF l c)) (fun _ => []) := by
  (refine S.stringslite_Index_cn fun F => ?_; unfold S.stringslite_Index; simp only [List.cons_append, List.nil_append])
  refine e_opN v_lent Imp.nil ?_
  refine e_opN v_eql Imp.nil ?_
  rw [decide_eq_false (by simp)]
  ((with_reducible refine e_gdT ?_)); ((with_reducible refine e_gdT ?_)); ((with_reducible refine e_gdT ?_))
  refine e_ask v_streq Imp.nil (fun h => ?_) (fun h => ?_)
  · subst h
    (((with_reducible refine e_opN v_pickF Imp.nil ?_))); ((with_reducible refine e_condT ?_))
    have : ixF [c] c = 0 := by simp [ixF]
    rw [this]
    (first | refine e_ret (()) rfl ?_ | refine e_retT (()) ?_)
    (repeat (first | exact Imp.refl | exact Imp.nil | (apply Imp.pick; (focus ((repeat constructor); done))) | refine Imp.drop ?_))
  · (((with_reducible refine e_opN v_pickF Imp.nil ?_))); ((with_reducible refine e_condF ?_))
    refine e_opN v_eql Imp.nil ?_
    rw [decide_eq_true (by simp)]
    ((with_reducible refine e_condT ?_))
    refine e_opN (v_ixS (l := [c]) 0 rfl (by simp)) Imp.nil ?_
    rw [show ([c] : List UInt8)[0]'(by simp) = c from rfl]
    (refine' e_call (indexByte0) ?hp fun _ => ?_; (case hp => (repeat (first | exact Picks.nil | (apply Picks.cons; (focus (repeat constructor)))))); (try simp only [List.cons_append, List.nil_append, Bool.not_true, Bool.not_false]))
    (first | refine e_ret (()) rfl ?_ | refine e_retT (()) ?_)
    (repeat (first | exact Imp.refl | exact Imp.nil | (apply Imp.pick; (focus ((repeat constructor); done))) | refine Imp.drop ?_))
theorem cut0_ {W : World} {l : List UInt8} {c : UInt8} (hl : l.length ≤ 4611686018427387904) : Cn Tryz.prog 51 [txt l, txt [c]] W [] (fun _ : Unit => .tuple #[txt (cutA c l), txt (cutB c l), .bool (cutS c l)]) (fun _ => []) := by
  (refine S.stringslite_Cut_cn fun F => ?_; unfold S.stringslite_Cut; simp only [List.cons_append, List.nil_append])
  (refine' e_call (index1 hl) ?hp fun _ => ?_; (case hp => (repeat (first | exact Picks.nil | (apply Picks.cons; (focus (repeat constructor)))))); (try simp only [List.cons_append, List.nil_append, Bool.not_true, Bool.not_false]))
  have hcx := cut_ix (c := c) (l := l)
  (refine e_ask v_geq Imp.nil (fun h => ?_) (fun h => ?_))
  · have hm := ixF_nn.1 h
    obtain ⟨h1, h2, h3⟩ := hcx.1 hm
    have hlt : l.findIdx (· == c) < l.length := List.findIdx_lt_length_of_exists ⟨c, hm, by simp⟩
    rw [show ixF l c = ((l.findIdx (· == c) : Nat) : Int) from if_pos hm]
    refine e_condT ?_
    refine e_drS ?_
    refine e_stS (v_ssh (l.findIdx (· == c)) rfl (by omega)) Imp.nil ?_
    refine e_stS v_lent Imp.nil ?_
    refine e_stS (v_add (by simp; omega) (by simp; omega)) Imp.nil ?_
    refine e_stS (v_ssl (l.findIdx (· == c) + 1) (by simp) (by omega)) Imp.nil ?_
    rw [h2, h3, h1]
    (first | refine e_ret (()) rfl ?_ | refine e_retT (()) ?_)
    (repeat (first | exact Imp.refl | exact Imp.nil | (apply Imp.pick; (focus ((repeat constructor); done))) | refine Imp.drop ?_))
  · obtain ⟨h1, h2, h3⟩ := hcx.2 (fun c => h (ixF_nn.2 c))
    refine e_condF ?_
    rw [h1, h2, h3]
    have e0 : (Value.string ⟨#[]⟩) = txt [] := rfl
    rw [e0]
    (first | refine e_ret (()) rfl ?_ | refine e_retT (()) ?_)
    (repeat (first | exact Imp.refl | exact Imp.nil | (apply Imp.pick; (focus ((repeat constructor); done))) | refine Imp.drop ?_))
theorem cut_ {W : World} {l : List UInt8} {c : UInt8} (hl : l.length ≤ 4611686018427387904) : Cn Tryz.prog 32 [txt l, txt [c]] W [] (fun _ : Unit => .tuple #[txt (cutA c l), txt (cutB c l), .bool (cutS c l)]) (fun _ => []) := by
  (refine S.strings_Cut_cn fun F => ?_; unfold S.strings_Cut; simp only [List.cons_append, List.nil_append])
  (refine' e_call (cut0_ hl) ?hp fun _ => ?_; (case hp => (repeat (first | exact Picks.nil | (apply Picks.cons; (focus (repeat constructor)))))); (try simp only [List.cons_append, List.nil_append, Bool.not_true, Bool.not_false]))
  (((with_reducible refine' e_opN (v_extN ?hc) Imp.nil ?_); (case hc => (repeat (first | exact Nth.here | apply Nth.there))))); (((with_reducible refine' e_opN (v_extN ?hc) Imp.nil ?_); (case hc => (repeat (first | exact Nth.here | apply Nth.there))))); (((with_reducible refine' e_opN (v_extN ?hc) Imp.nil ?_); (case hc => (repeat (first | exact Nth.here | apply Nth.there)))))
  (first | refine e_ret (()) rfl ?_ | refine e_retT (()) ?_)
  (repeat (first | exact Imp.refl | exact Imp.nil | (apply Imp.pick; (focus ((repeat constructor); done))) | refine Imp.drop ?_))
def eqlF (a b : List UInt8) : Bool := decide (a.length = b.length) && decide (lowF a = lowF b)
theorem equal {W : World} {a b : List UInt8} (ha : a.length ≤ 4611686018427387904) (hb : b.length ≤ 4611686018427387904) : Cn Tryz.prog 44 [txt a, txt b] W [] (fun _ : Unit => .bool (eqlF a b)) (fun _ => []) := by
  (refine S.ascii_Equal_cn fun F => ?_; unfold S.ascii_Equal; simp only [List.cons_append, List.nil_append])
  refine e_opN v_lent Imp.nil ?_
  refine e_opN v_lent Imp.nil ?_
  refine e_ask v_eql Imp.nil (fun h => ?_) (fun h => ?_)
  · have e : eqlF a b = decide (lowF a = lowF b) := by unfold eqlF; rw [decide_eq_true (by omega)]; rfl
    rw [e]
    ((with_reducible refine e_gdT ?_)); ((with_reducible refine e_gdT ?_))
    (refine' e_call (lower ha) ?hp fun _ => ?_; (case hp => (repeat (first | exact Picks.nil | (apply Picks.cons; (focus (repeat constructor)))))); (try simp only [List.cons_append, List.nil_append, Bool.not_true, Bool.not_false]))
    ((with_reducible refine e_gdT ?_)); ((with_reducible refine e_gdT ?_))
    (refine' e_call (lower hb) ?hp fun _ => ?_; (case hp => (repeat (first | exact Picks.nil | (apply Picks.cons; (focus (repeat constructor)))))); (try simp only [List.cons_append, List.nil_append, Bool.not_true, Bool.not_false]))
    ((with_reducible refine e_gdT ?_))
    refine e_opN v_streq Imp.nil ?_
    (((with_reducible refine e_opN v_pickT Imp.nil ?_)))
    (first | refine e_ret (()) rfl ?_ | refine e_retT (()) ?_)
    (repeat (first | exact Imp.refl | exact Imp.nil | (apply Imp.pick; (focus ((repeat constructor); done))) | refine Imp.drop ?_))
  · have e : eqlF a b = false := by unfold eqlF; rw [decide_eq_false (by omega)]; rfl
    rw [e]
    ((with_reducible refine e_gdF2 ?_)); ((with_reducible refine e_gdF2 ?_)); ((with_reducible refine e_gdF2 ?_)); ((with_reducible refine e_gdF2 ?_)); ((with_reducible refine e_gdF2 ?_)); (((with_reducible refine e_opN v_pickF Imp.nil ?_)))
    (first | refine e_ret (()) rfl ?_ | refine e_retT (()) ?_)
    (repeat (first | exact Imp.refl | exact Imp.nil | (apply Imp.pick; (focus ((repeat constructor); done))) | refine Imp.drop ?_))
theorem hasPre {W : World} {l : List UInt8} (hl : l.length ≤ 4611686018427387904) : Cn Tryz.prog 76 [txt l, txt [87, 47]] W [] (fun _ : Unit => .bool (weakF l)) (fun _ => []) := by
  (refine S.stringslite_HasPrefix_cn fun F => ?_; unfold S.stringslite_HasPrefix; simp only [List.cons_append, List.nil_append])
  refine e_opN v_lent Imp.nil ?_
  refine e_opN v_lent Imp.nil ?_
  (refine e_ask v_geq Imp.nil (fun h => ?_) (fun h => ?_))
  · have h2 : 2 ≤ l.length := Int.ofNat_le.1 h
    ((with_reducible refine e_gdT ?_)); ((with_reducible refine e_gdT ?_)); ((with_reducible refine e_gdT ?_))
    refine e_opN v_lent Imp.nil ?_
    ((with_reducible refine e_gdT ?_))
    refine e_opN (v_ssh 2 rfl h2) Imp.nil ?_
    ((with_reducible refine e_gdT ?_)); ((with_reducible refine e_gdT ?_))
    refine e_opN v_streq Imp.nil ?_
    have e : decide (l.take 2 = [87, 47]) = weakF l := by
      unfold weakF
      rw [Bool.eq_iff_iff]; simp
    rw [e]
    (((with_reducible refine e_opN v_pickT Imp.nil ?_)))
    (first | refine e_ret (()) rfl ?_ | refine e_retT (()) ?_)
    (repeat (first | exact Imp.refl | exact Imp.nil | (apply Imp.pick; (focus ((repeat constructor); done))) | refine Imp.drop ?_))
  · have h2 : l.length < 2 := by simp at h; omega
    ((with_reducible refine e_gdF2 ?_)); ((with_reducible refine e_gdF2 ?_)); ((with_reducible refine e_gdF2 ?_)); ((with_reducible refine e_gdF2 ?_)); ((with_reducible refine e_gdF2 ?_)); ((with_reducible refine e_gdF2 ?_)); (((with_reducible refine e_opN v_pickF Imp.nil ?_)))
    have e : weakF l = false := by
      unfold weakF
      cases hx : (l.take 2 == [87, 47]) with
      | false => rfl
      | true =>
        have := congrArg List.length (by simpa using hx : l.take 2 = [87, 47])
        simp at this; omega
    rw [e]
    (first | refine e_ret (()) rfl ?_ | refine e_retT (()) ?_)
    (repeat (first | exact Imp.refl | exact Imp.nil | (apply Imp.pick; (focus ((repeat constructor); done))) | refine Imp.drop ?_))
theorem cutPre0 {W : World} {l : List UInt8} (hl : l.length ≤ 4611686018427387904) : Cn Tryz.prog 62 [txt l, txt [87, 47]] W [] (fun _ : Unit => .tuple #[txt (tagV l), .bool (weakF l)]) (fun _ => []) := by
  (refine S.stringslite_CutPrefix_cn fun F => ?_; unfold S.stringslite_CutPrefix; simp only [List.cons_append, List.nil_append])
  (refine' e_call (hasPre hl) ?hp fun _ => ?_; (case hp => (repeat (first | exact Picks.nil | (apply Picks.cons; (focus (repeat constructor)))))); (try simp only [List.cons_append, List.nil_append, Bool.not_true, Bool.not_false]))
  refine e_opN v_not Imp.nil ?_
  cases h : weakF l with
  | true =>
    have h2 : 2 ≤ l.length := by
      unfold weakF at h
      have := congrArg List.length (by simpa using h : l.take 2 = [87, 47])
      simp at this; omega
    refine e_condF ?_
    refine e_opN v_lent Imp.nil ?_
    refine e_opN (v_ssl 2 rfl h2) Imp.nil ?_
    rw [show tagV l = l.drop 2 by unfold tagV; rw [if_pos h]]
    (first | refine e_ret (()) rfl ?_ | refine e_retT (()) ?_)
    (repeat (first | exact Imp.refl | exact Imp.nil | (apply Imp.pick; (focus ((repeat constructor); done))) | refine Imp.drop ?_))
  | false =>
    refine e_condT ?_
    rw [show tagV l = l by unfold tagV; rw [h]; rfl]
    (first | refine e_ret (()) rfl ?_ | refine e_retT (()) ?_)
    (repeat (first | exact Imp.refl | exact Imp.nil | (apply Imp.pick; (focus ((repeat constructor); done))) | refine Imp.drop ?_))
theorem cutPre {W : World} {l : List UInt8} (hl : l.length ≤ 4611686018427387904) : Cn Tryz.prog 47 [txt l, txt [87, 47]] W [] (fun _ : Unit => .tuple #[txt (tagV l), .bool (weakF l)]) (fun _ => []) := by
  (refine S.strings_CutPrefix_cn fun F => ?_; unfold S.strings_CutPrefix; simp only [List.cons_append, List.nil_append])
  (refine' e_call (cutPre0 hl) ?hp fun _ => ?_; (case hp => (repeat (first | exact Picks.nil | (apply Picks.cons; (focus (repeat constructor)))))); (try simp only [List.cons_append, List.nil_append, Bool.not_true, Bool.not_false]))
  (((with_reducible refine' e_opN (v_extN ?hc) Imp.nil ?_); (case hc => (repeat (first | exact Nth.here | apply Nth.there))))); (((with_reducible refine' e_opN (v_extN ?hc) Imp.nil ?_); (case hc => (repeat (first | exact Nth.here | apply Nth.there)))))
  (first | refine e_ret (()) rfl ?_ | refine e_retT (()) ?_)
  (repeat (first | exact Imp.refl | exact Imp.nil | (apply Imp.pick; (focus ((repeat constructor); done))) | refine Imp.drop ?_))
end Go.Proofs.YtcigoifhcfbcdaaGreatDoor.FD
