/- A block with codes of its own. No conditions but those that each names. -/
import Derived.Test.YtehfblkpbadikaaInf7
set_option linter.unusedVariables false
set_option linter.unusedSimpArgs false
namespace Go.Proofs.Ytehfblkpbadikaa.Sl
open Go Go.Proofs Go.RowKit Go.Proofs.Ytehfblkpbadikaa.Sh
theorem v_slAh {P : Program} {W : World} {t e : TypeId} {s len : Nat} {g : Nat} {q : IntKind} {j : Int} (h : Nat) [ht : ArrT P t len e s] (hj : j = (h : Int)) (hl : h ≤ len) (h0 : 0 < len) : RunV P W [] (sSl t (.pointer (some ⟨g, 0, none⟩)) none (some (.int q j)) none) (.slice (some ⟨g, 0, none⟩) h len) := fun w _ => by
  have hne : len ≠ 0 := by omega
  simp [sSl, Instr.sliceAt, Instr.sliceBounds, ht.ut, ht.size, run_bound h hj hl, Instr.sureAddr, hne, Addr.add]
end Go.Proofs.Ytehfblkpbadikaa.Sl
namespace Go.Proofs.Ytehfblkpbadikaa.IF
open Go Go.Proofs Go.RowKit Go.Proofs.Ytehfblkpbadikaa.Sh Go.Proofs.Ytehfblkpbadikaa.Sl Go.Proofs.Ytehfblkpbadikaa.T Go.Proofs.Ytehfblkpbadikaa.HM Go.Proofs.Ytehfblkpbadikaa.HF Go.Proofs.Ytehfblkpbadikaa.B Go.Proofs.Ytehfblkpbadikaa.M
def ordL : List Nat := [16, 17, 18, 0, 8, 7, 9, 6, 10, 5, 11, 4, 12, 3, 13, 2, 14, 1, 15]
/-- the lengths of the code of lengths -/
def mCl (b : List UInt8) : List Nat → Nat → List Int → Except Int (Nat × List Int)
  | [], at_, l => .ok (at_, l)
  | k :: ks, at_, l => if takR b at_ 3 ≠ 0 then .error (takR b at_ 3) else mCl b ks (takAt b at_ 3) (l.set k (takN b at_ 3 : Int))
theorem mCl_len (b : List UInt8) : ∀ (ks : List Nat) {at_ a : Nat} {l r : List Int}, mCl b ks at_ l = .ok (a, r) → r.length = l.length
  | [], at_, a, l, r, h => by
    have := Prod.mk.inj (Except.ok.inj h)
    rw [← this.2]
  | k :: ks, at_, a, l, r, h => by
    rw [mCl] at h
    have := mCl_len b ks (ite_err h).2
    rw [this, List.length_set]
def mBoth (b : List UInt8) (most : Int) (h n : Nat) (l : List Int) (at_ : Nat) (out : List UInt8) : Except Int (Nat × List UInt8) :=
  match mRw l b n at_ with
  | .error e => .error e
  | .ok (a5, r) =>
    if ¬ (0 < r.getD 256 0 ∧ enoughB (r.take h) = true ∧ enoughB (r.drop h) = true) then .error 30 else
    if ¬ okL (r.take h) then .error 30 else
    if ¬ okL (r.drop h) then .error 30 else mS (r.take h) (r.drop h) b most a5 out
def mDyn (b : List UInt8) (most : Int) (at_ : Nat) (out : List UInt8) : Except Int (Nat × List UInt8) :=
  if takR b at_ 5 ≠ 0 then .error (takR b at_ 5) else
  if takR b (takAt b at_ 5) 5 ≠ 0 then .error (takR b (takAt b at_ 5) 5) else
  if takR b (takAt b (takAt b at_ 5) 5) 4 ≠ 0 then .error (takR b (takAt b (takAt b at_ 5) 5) 4) else
  if ¬ (takN b at_ 5 ≤ 29 ∧ takN b (takAt b at_ 5) 5 ≤ 29) then .error 31 else
  match mCl b (ordL.take (takN b (takAt b (takAt b at_ 5) 5) 4 + 4)) (takAt b (takAt b (takAt b at_ 5) 5) 4) (List.replicate 19 0) with
  | .error e => .error e
  | .ok (a4, l) => if ¬ fullB l = true then .error 30 else mBoth b most (takN b at_ 5 + 257) (takN b at_ 5 + 257 + takN b (takAt b at_ 5) 5 + 1) l a4 out
theorem takN_lt {b : List UInt8} {at_ : Nat} {k : Nat} : takN b at_ k < 2 ^ k := by
  unfold takN
  split
  · have := tak_lt (ub b) at_ ((k : Int)).toNat
    rwa [Int.toNat_natCast] at this
  · exact Nat.pow_pos (by omega)
theorem dynamic {W : World} {p at_ : Nat} {b out : List UInt8} {most : Int} (h1 : 0 ≤ most ∧ most ≤ 1048576) (h2 : (out.length : Int) ≤ most) :
    CnP Try.prog 69 [.pointer (some ⟨p, 0, none⟩)] W [IsS p b at_ out most] (fun _ : Ok (mDyn b most at_ out) => .tuple #[]) (fun x => [IsS p b x.1.1 x.1.2 most]) (fun y : Er (mDyn b most at_ out) => pn y.1) (fun _ => []) := by
  (refine S.inflate_stream_dynamic_cnP fun F => ?_; unfold S.inflate_stream_dynamic; simp only [List.cons_append, List.nil_append, -eq_self])
  obtain ⟨R, hR⟩ : ∃ R, R = mDyn b most at_ out := ⟨_, rfl⟩
  rw [← hR]
  unfold mDyn at hR
  (refine' e_callP (stake) ?hp (fun _ => ?_) (fun _ => ?_); (case hp => (repeat (first | exact Picks.nil | (apply Picks.cons; (focus (repeat constructor)))))); (all_goals (try simp only [List.cons_append, List.nil_append, Bool.not_true, Bool.not_false, -eq_self])))
  rotate_left
  · rename_i y
    rw [if_pos y.2] at hR
    refine e_pan ⟨_, hR⟩ rfl ?_
    (repeat (first | exact Imp.refl | exact Imp.nil | (apply Imp.pick; (focus ((repeat constructor); done))) | refine Imp.drop ?_))
  rename_i x1
  rw [if_neg (fun c => c x1.2)] at hR
  have hh := takN_lt (b := b) (at_ := at_) (k := 5)
  obtain ⟨nh, hhE⟩ : ∃ h, h = takN b at_ 5 := ⟨_, rfl⟩
  obtain ⟨a1, ha1⟩ : ∃ a, a = takAt b at_ 5 := ⟨_, rfl⟩
  rw [← hhE, ← ha1] at hR
  rw [show (takN b at_ 5) = nh from hhE.symm, ← ha1]
  rw [show takN b at_ ((5 : Nat) : Int) = nh from hhE.symm] at hh
  (refine' e_callP (stake) ?hp (fun _ => ?_) (fun _ => ?_); (case hp => (repeat (first | exact Picks.nil | (apply Picks.cons; (focus (repeat constructor)))))); (all_goals (try simp only [List.cons_append, List.nil_append, Bool.not_true, Bool.not_false, -eq_self])))
  rotate_left
  · rename_i y
    rw [if_pos y.2] at hR
    refine e_pan ⟨_, hR⟩ rfl ?_
    (repeat (first | exact Imp.refl | exact Imp.nil | (apply Imp.pick; (focus ((repeat constructor); done))) | refine Imp.drop ?_))
  rename_i x2
  rw [if_neg (fun c => c x2.2)] at hR
  have hd := takN_lt (b := b) (at_ := a1) (k := 5)
  obtain ⟨nd, hdE⟩ : ∃ h, h = takN b a1 5 := ⟨_, rfl⟩
  obtain ⟨a2, ha2⟩ : ∃ a, a = takAt b a1 5 := ⟨_, rfl⟩
  rw [← hdE, ← ha2] at hR
  rw [show (takN b a1 5) = nd from hdE.symm, ← ha2]
  rw [show takN b a1 ((5 : Nat) : Int) = nd from hdE.symm] at hd
  (refine' e_callP (stake) ?hp (fun _ => ?_) (fun _ => ?_); (case hp => (repeat (first | exact Picks.nil | (apply Picks.cons; (focus (repeat constructor)))))); (all_goals (try simp only [List.cons_append, List.nil_append, Bool.not_true, Bool.not_false, -eq_self])))
  rotate_left
  · rename_i y
    rw [if_pos y.2] at hR
    refine e_pan ⟨_, hR⟩ rfl ?_
    (repeat (first | exact Imp.refl | exact Imp.nil | (apply Imp.pick; (focus ((repeat constructor); done))) | refine Imp.drop ?_))
  rename_i x3
  rw [if_neg (fun c => c x3.2)] at hR
  have hc := takN_lt (b := b) (at_ := a2) (k := 4)
  obtain ⟨c, hcE⟩ : ∃ h, h = takN b a2 4 := ⟨_, rfl⟩
  obtain ⟨a3, ha3⟩ : ∃ a, a = takAt b a2 4 := ⟨_, rfl⟩
  rw [← hcE, ← ha3] at hR
  rw [show (takN b a2 4) = c from hcE.symm, ← ha3]
  rw [show takN b a2 ((4 : Nat) : Int) = c from hcE.symm] at hc
  have hop : (out.length : Int) ≤ 1048576 := by omega
  refine e_opN v_leq Imp.nil ?_
  by_cases hq : nh ≤ 29 ∧ nd ≤ 29
  rotate_left
  · rw [if_pos hq] at hR
    by_cases hq1 : nh ≤ 29
    · rw [decide_eq_true (by omega)]
      ((with_reducible refine e_gdT ?_)); ((with_reducible refine e_gdT ?_))
      refine e_opN v_leq Imp.nil ?_
      rw [decide_eq_false (by omega)]
      (((with_reducible refine e_opN v_pickT Imp.nil ?_)))
      (refine' e_callP (demand) ?hp (fun _ => ?_) (fun _ => ?_); (case hp => (repeat (first | exact Picks.nil | (apply Picks.cons; (focus (repeat constructor)))))); (all_goals (try simp only [List.cons_append, List.nil_append, Bool.not_true, Bool.not_false, -eq_self])))
      · rename_i x
        exact absurd x.2 (by decide)
      · refine e_pan ⟨_, hR⟩ rfl ?_
        (repeat (first | exact Imp.refl | exact Imp.nil | (apply Imp.pick; (focus ((repeat constructor); done))) | refine Imp.drop ?_))
    · rw [decide_eq_false (by omega)]
      ((with_reducible refine e_gdF2 ?_)); ((with_reducible refine e_gdF2 ?_)); (((with_reducible refine e_opN v_pickF Imp.nil ?_)))
      (refine' e_callP (demand) ?hp (fun _ => ?_) (fun _ => ?_); (case hp => (repeat (first | exact Picks.nil | (apply Picks.cons; (focus (repeat constructor)))))); (all_goals (try simp only [List.cons_append, List.nil_append, Bool.not_true, Bool.not_false, -eq_self])))
      · rename_i x
        exact absurd x.2 (by decide)
      · refine e_pan ⟨_, hR⟩ rfl ?_
        (repeat (first | exact Imp.refl | exact Imp.nil | (apply Imp.pick; (focus ((repeat constructor); done))) | refine Imp.drop ?_))
  rw [if_neg (fun c => c hq)] at hR
  obtain ⟨hq1, hq2⟩ := hq
  rw [decide_eq_true (by omega)]
  ((with_reducible refine e_gdT ?_)); ((with_reducible refine e_gdT ?_))
  refine e_opN v_leq Imp.nil ?_
  rw [decide_eq_true (by omega)]
  (((with_reducible refine e_opN v_pickT Imp.nil ?_)))
  (refine' e_callP (demand) ?hp (fun _ => ?_) (fun _ => ?_); (case hp => (repeat (first | exact Picks.nil | (apply Picks.cons; (focus (repeat constructor)))))); (all_goals (try simp only [List.cons_append, List.nil_append, Bool.not_true, Bool.not_false, -eq_self])))
  rotate_left
  · rename_i y
    exact absurd y.2 (by decide)
  refine e_mksl 19 19 (by rfl) (by rfl) (by omega) (by omega) (by decide) fun gl => ?_
  (((with_reducible refine e_opN v_rv Imp.nil ?_))); (((with_reducible refine e_newA fun g => ?_))); (((with_reducible refine' e_stAgg ?hp ?hn ?hv ?h1 ?_); (case hp => (repeat constructor)); (case hn => rfl); (case hv => rfl); (case h1 => simp [Value.oneCell']))); (((with_reducible refine e_opN (v_add ?h1 ?h2) Imp.nil ?_); (case h1 => omega); (case h2 => omega)))
  refine e_opN (v_slAh (c + 4) (by omega) (by omega) (by omega)) Imp.nil ?_
  obtain ⟨K, hK⟩ : ∃ K, K = c + 4 := ⟨_, rfl⟩
  rw [← hK] at hR ⊢
  have hK19 : K ≤ 19 := by omega
  obtain ⟨M, hM⟩ : ∃ M, M = mCl b (ordL.take K) a3 (List.replicate 19 0) := ⟨_, rfl⟩
  rw [← hM] at hR
  (((with_reducible refine e_opN v_len Imp.nil ?_)))
  refine e_loop1 (fun m y => [ex fun i : Nat => ex fun at1 : Nat => ex fun l : List Int => all [pu (m + i = K ∧ y = .int .i64 (i : Int) ∧ M = mCl b ((ordL.take K).drop i) at1 l ∧ l.length = 19), pt g (.cells #[(.int .i64 16), (.int .i64 17), (.int .i64 18), (.int .i64 0), (.int .i64 8), (.int .i64 7), (.int .i64 9), (.int .i64 6), (.int .i64 10), (.int .i64 5), (.int .i64 11), (.int .i64 4), (.int .i64 12), (.int .i64 3), (.int .i64 13), (.int .i64 2), (.int .i64 14), (.int .i64 1), (.int .i64 15)] 148 (0, 0)), Sl 1 3 (some ⟨gl, 0, none⟩) 19 19 (l.map I), IsS p b at1 out most]] ++ F) K ?_ ?_
  · refine .ex 0 (.ex a3 (.ex (List.replicate 19 0) (.all ?_)))
    (try simp only [List.cons_append, List.nil_append, -eq_self])
    refine .pu ⟨by omega, rfl, hM, by simp⟩ ?_
    rw [List.map_replicate]
    exact .pick (by (repeat constructor)) (.pick (by (repeat constructor)) (.pick (by (repeat constructor)) .refl))
  clear hM
  intro m ds y
  (try simp only [List.cons_append, List.nil_append, -eq_self])
  refine e_ex Pick.here fun i => e_ex Pick.here fun at1 => e_ex Pick.here fun l => e_all Pick.here ?_
  (try simp only [List.cons_append, List.nil_append, -eq_self])
  refine e_pu Pick.here fun hi => ?_
  obtain ⟨hmi, rfl, hM, hl19⟩ := hi
  (refine e_ask v_lss Imp.nil (fun h => ?_) (fun h => ?_))
  · have hiK : i < K := by omega
    have hog : (ordL.take K).drop i = ordL.getD i 0 :: (ordL.take K).drop (i + 1) := by
      have hlen : i < (ordL.take K).length := by rw [List.length_take, show ordL.length = 19 from rfl]; omega
      rw [List.drop_eq_getElem_cons hlen, List.getElem_take, List.getD_eq_getElem?_getD, List.getElem?_eq_getElem]
      rfl
    rw [hog, mCl] at hM
    obtain ⟨o, ho⟩ : ∃ o, o = ordL.getD i 0 := ⟨_, rfl⟩
    rw [← ho] at hM
    have hov : (#[(.int .i64 16), (.int .i64 17), (.int .i64 18), (.int .i64 0), (.int .i64 8), (.int .i64 7), (.int .i64 9), (.int .i64 6), (.int .i64 10), (.int .i64 5), (.int .i64 11), (.int .i64 4), (.int .i64 12), (.int .i64 3), (.int .i64 13), (.int .i64 2), (.int .i64 14), (.int .i64 1), (.int .i64 15)] : Array Value)[0 + i]? = some (.int .i64 (o : Int)) ∧ o < 19 := by
      rw [ho]
      have : i = 0 ∨ i = 1 ∨ i = 2 ∨ i = 3 ∨ i = 4 ∨ i = 5 ∨ i = 6 ∨ i = 7 ∨ i = 8 ∨ i = 9 ∨ i = 10 ∨ i = 11 ∨ i = 12 ∨ i = 13 ∨ i = 14 ∨ i = 15 ∨ i = 16 ∨ i = 17 ∨ i = 18 := by omega
      rcases this with rfl | rfl | rfl | rfl | rfl | rfl | rfl | rfl | rfl | rfl | rfl | rfl | rfl | rfl | rfl | rfl | rfl | rfl | rfl <;> exact ⟨rfl, by decide⟩
    refine e_condT ?_
    refine e_opN (v_ia1 i (by rfl) hiK) Imp.nil ?_
    refine e_opN (v_ld hov.1) (.pick (by (repeat constructor)) .nil) ?_
    (refine' e_callP (stake) ?hp (fun _ => ?_) (fun _ => ?_); (case hp => (repeat (first | exact Picks.nil | (apply Picks.cons; (focus (repeat constructor)))))); (all_goals (try simp only [List.cons_append, List.nil_append, Bool.not_true, Bool.not_false, -eq_self])))
    rotate_left
    · rename_i y
      rw [if_pos y.2] at hM
      rw [hM] at hR
      refine e_pan ⟨_, hR⟩ rfl ?_
      (repeat (first | exact Imp.refl | exact Imp.nil | (apply Imp.pick; (focus ((repeat constructor); done))) | refine Imp.drop ?_))
    rename_i x4
    rw [if_neg (fun c => c x4.2)] at hM
    refine e_opN (v_ia1 o (by rfl) (by omega)) Imp.nil ?_
    rw [Nat.zero_add]
    refine e_stSl (by (repeat constructor)) (by rw [List.length_map]; omega) ?_
    (((with_reducible refine e_opN (v_add ?h1 ?h2) Imp.nil ?_); (case h1 => omega); (case h2 => omega)))
    refine e_next1 (m - 1) (by omega) (.ex (i + 1) (.ex (takAt b at1 3) (.ex (l.set o (takN b at1 3 : Int)) (.all ?_))))
    (try simp only [List.cons_append, List.nil_append, -eq_self])
    refine .pu ⟨by omega, rfl, hM, by rw [List.length_set]; omega⟩ ?_
    rw [List.map_set]
    exact .pick (by (repeat constructor)) (.pick (by (repeat constructor)) (.pick (by (repeat constructor)) .refl))
  have hiK : i = K := by omega
  subst hiK
  rw [List.drop_eq_nil_of_le (by rw [List.length_take]; omega), mCl] at hM
  rw [hM] at hR
  simp only at hR
  refine e_condF ?_
  have hsl : RdB W (Sl 1 3 (some ⟨gl, 0, none⟩) 19 19 (l.map I)) (some ⟨gl, 0, none⟩) l.length (l.map I) := by
    rw [hl19]; exact rd_sl (by rw [List.length_map, hl19]) (fun _ => ⟨gl, rfl⟩)
  rw [show (Value.slice (some ⟨gl, 0, none⟩) 19 19) = .slice (some ⟨gl, 0, none⟩) l.length 19 by rw [hl19]]
  (refine' e_call (full hsl (by omega)) ?hp fun _ => ?_; (case hp => (repeat (first | exact Picks.nil | (apply Picks.cons; (focus (repeat constructor)))))); (try simp only [List.cons_append, List.nil_append, Bool.not_true, Bool.not_false]))
  (refine' e_callP (demand) ?hp (fun _ => ?_) (fun _ => ?_); (case hp => (repeat (first | exact Picks.nil | (apply Picks.cons; (focus (repeat constructor)))))); (all_goals (try simp only [List.cons_append, List.nil_append, Bool.not_true, Bool.not_false, -eq_self])))
  rotate_left
  · rename_i y
    rw [if_pos (by rw [y.2]; decide)] at hR
    refine e_pan ⟨_, hR⟩ rfl ?_
    (repeat (first | exact Imp.refl | exact Imp.nil | (apply Imp.pick; (focus ((repeat constructor); done))) | refine Imp.drop ?_))
  rename_i x5
  rw [if_neg (fun c => c x5.2)] at hR
  (refine' e_callP (decoder hsl (by omega)) ?hp (fun _ => ?_) (fun _ => ?_); (case hp => (repeat (first | exact Picks.nil | (apply Picks.cons; (focus (repeat constructor)))))); (all_goals (try simp only [List.cons_append, List.nil_append, Bool.not_true, Bool.not_false, -eq_self])))
  rotate_left
  · rename_i y
    have hf := x5.2
    unfold fullB at hf
    exact absurd (of_decide_eq_true (Bool.and_eq_true _ _ ▸ hf).1) y.2
  rename_i x6
  (((with_reducible refine e_opN (v_add ?h1 ?h2) Imp.nil ?_); (case h1 => omega); (case h2 => omega))); (((with_reducible refine e_opN (v_add ?h1 ?h2) Imp.nil ?_); (case h1 => omega); (case h2 => omega))); (((with_reducible refine e_opN (v_add ?h1 ?h2) Imp.nil ?_); (case h1 => omega); (case h2 => omega)))
  rw [show (nh : Int) + 257 + nd + 1 = ((nh + 257 + nd + 1 : Nat) : Int) by omega]
  unfold mBoth at hR
  (refine' e_callP (row (l := l) (out := out) (by omega) (by omega) (by omega)) ?hp (fun _ => ?_) (fun _ => ?_); (case hp => (repeat (first | exact Picks.nil | (apply Picks.cons; (focus (repeat constructor)))))); (all_goals (try simp only [List.cons_append, List.nil_append, Bool.not_true, Bool.not_false, -eq_self])))
  rotate_left
  · rename_i y
    rw [y.2] at hR
    refine e_pan ⟨_, hR⟩ rfl ?_
    (repeat (first | exact Imp.refl | exact Imp.nil | (apply Imp.pick; (focus ((repeat constructor); done))) | refine Imp.drop ?_))
  rename_i q
  obtain ⟨⟨⟨a5, r⟩, hrow⟩, ra, rc⟩ := q
  rw [hrow] at hR
  simp only at hR
  (try dsimp only)
  obtain ⟨hrl, hrb⟩ := mRow_ok (B := 320) (by omega) _ hrow (by simp) (by simp)
  obtain ⟨n, hn⟩ : ∃ n, n = nh + 257 + nd + 1 := ⟨_, rfl⟩
  obtain ⟨k, hk⟩ : ∃ n, n = nh + 257 := ⟨_, rfl⟩
  rw [← hk] at hR
  rw [← hn] at hrl ⊢
  refine e_slfacts (.there .here) fun f1 f2 f3 f4 => ?_
  obtain ⟨gr, rfl⟩ := f4 (by omega)
  have f4 : 0 < n → ∃ g', some (⟨gr, 0, none⟩ : Addr) = some ⟨g', 0, none⟩ := fun _ => ⟨gr, rfl⟩
  have hrd := rd_sl (W := W) (e := 3) (cap := rc) (cs := r.map I) (n := n) (by rw [List.length_map, hrl]) f4
  have hA0 : Option.map (fun x : Addr => x.add (0 * 1)) (some ⟨gr, 0, none⟩) = some ⟨gr, 0, none⟩ := by simp [addr_add]
  have hAk : Option.map (fun x : Addr => x.add (k * 1)) (some ⟨gr, 0, none⟩) = some ⟨gr, k, none⟩ := by simp [addr_add]
  have hla : (r.take k).length = k := by rw [List.length_take]; omega
  have hlb : (r.drop k).length = n - k := by rw [List.length_drop, hrl]
  have hRa := hrd.cut (l := 0) (h := k) (cap := rc) (by omega) (by omega) f2
  rw [if_neg (by omega), hA0, List.drop_zero, ← List.map_take, Nat.sub_zero] at hRa
  have hRb := hrd.cut (l := k) (h := n) (cap := rc) (by omega) (by omega) f2
  rw [if_neg (by omega), hAk, List.take_of_length_le (by rw [List.length_drop, List.length_map]; omega), ← List.map_drop] at hRb
  have hba : ∀ x ∈ r.take k, x ≤ 1048576 := fun x hx => by have := (hrb x (List.mem_of_mem_take hx)).2; omega
  have hbb : ∀ x ∈ r.drop k, x ≤ 1048576 := fun x hx => by have := (hrb x (List.mem_of_mem_drop hx)).2; omega
  ((with_reducible refine e_drS ?_)); (((with_reducible refine e_stS (v_add ?h1 ?h2) Imp.nil ?_); (case h1 => omega); (case h2 => omega)))
  rw [show (nh : Int) + 257 = (k : Int) by omega]
  refine e_stS (v_slh k (by rfl) (by omega)) Imp.nil ?_
  rw [if_neg (by omega), hA0]
  (((with_reducible refine e_stS (v_add ?h1 ?h2) Imp.nil ?_); (case h1 => omega); (case h2 => omega)))
  rw [show (nh : Int) + 257 = (k : Int) by omega]
  refine e_stS (v_sll k (by rfl) (by omega)) Imp.nil ?_
  rw [if_neg (by omega), hAk]
  have h256 : 256 < r.length := by omega
  refine e_opN (v_ia1 256 (by rfl) (by omega)) Imp.nil ?_
  refine e_opN (v_ldSl (v := I r[256]) (by rw [Nat.zero_add]; exact I_get h256)) (.pick (by (repeat constructor)) .nil) ?_
  refine e_opN v_gtr Imp.nil ?_
  have hg : r.getD 256 0 = r[256] := by rw [List.getD_eq_getElem?_getD, List.getElem?_eq_getElem h256]; rfl
  rw [hg] at hR
  rw [← hlb] at hRb
  have hlbn := hlb
  rw [← hlb]
  obtain ⟨la, hlaE⟩ : ∃ la, la = r.take k := ⟨_, rfl⟩
  obtain ⟨lb, hlbE⟩ : ∃ lb, lb = r.drop k := ⟨_, rfl⟩
  rw [← hlaE] at hR hRa hba hla
  rw [← hlbE] at hR hRb hbb hlbn ⊢
  rw [← hla] at hRa hRb ⊢
  have fin0 : ∀ (L : List HP) (kk : Value → WP), Imp W L F → ¬ ((0 : Int) < r[256] ∧ enoughB la = true ∧ enoughB lb = true) → Ent W L (opN Try.prog (sCall (fn 83) [.bool false, .int .i64 30]) (fun ch w => ∃ y : Er R, ch = pn y.1 ∧ sat W F w) kk) := by
    intro L kk hi hn
    rw [if_pos hn] at hR
    refine e_imp hi ?_
    refine e_callP (A := []) (F := F) demand .nil (fun x => ?_) (fun y => ?_)
    · exact absurd x.2 (by decide)
    · refine e_pan ⟨_, hR⟩ rfl ?_
      exact .refl
  by_cases hc1 : 0 < r[256]
  rotate_left
  · rw [decide_eq_false (by omega)]
    ((with_reducible refine e_gdF2 ?_)); ((with_reducible refine e_gdF2 ?_)); (((with_reducible refine e_opN v_pickF Imp.nil ?_))); ((with_reducible refine e_gdF2 ?_)); ((with_reducible refine e_gdF2 ?_)); (((with_reducible refine e_opN v_pickF Imp.nil ?_)))
    exact fin0 _ _ (by (repeat (first | exact Imp.refl | exact Imp.nil | (apply Imp.pick; (focus ((repeat constructor); done))) | refine Imp.drop ?_))) (fun c => hc1 c.1)
  rw [decide_eq_true (by omega)]
  ((with_reducible refine e_gdT ?_)); ((with_reducible refine e_gdT ?_))
  (refine' e_call (enough hRa (by omega) hba) ?hp fun _ => ?_; (case hp => (repeat (first | exact Picks.nil | (apply Picks.cons; (focus (repeat constructor)))))); (try simp only [List.cons_append, List.nil_append, Bool.not_true, Bool.not_false]))
  by_cases hc2 : enoughB la = true
  rotate_left
  · rw [show enoughB la = false by simpa using hc2]
    (((with_reducible refine e_opN v_pickT Imp.nil ?_))); ((with_reducible refine e_gdF2 ?_)); ((with_reducible refine e_gdF2 ?_)); (((with_reducible refine e_opN v_pickF Imp.nil ?_)))
    exact fin0 _ _ (by (repeat (first | exact Imp.refl | exact Imp.nil | (apply Imp.pick; (focus ((repeat constructor); done))) | refine Imp.drop ?_))) (fun c => hc2 c.2.1)
  rw [hc2]
  (((with_reducible refine e_opN v_pickT Imp.nil ?_))); ((with_reducible refine e_gdT ?_)); ((with_reducible refine e_gdT ?_))
  (refine' e_call (enough hRb (by omega) hbb) ?hp fun _ => ?_; (case hp => (repeat (first | exact Picks.nil | (apply Picks.cons; (focus (repeat constructor)))))); (try simp only [List.cons_append, List.nil_append, Bool.not_true, Bool.not_false]))
  by_cases hc3 : enoughB lb = true
  rotate_left
  · rw [show enoughB lb = false by simpa using hc3]
    (((with_reducible refine e_opN v_pickT Imp.nil ?_)))
    exact fin0 _ _ (by (repeat (first | exact Imp.refl | exact Imp.nil | (apply Imp.pick; (focus ((repeat constructor); done))) | refine Imp.drop ?_))) (fun c => hc3 c.2.2)
  rw [hc3]
  (((with_reducible refine e_opN v_pickT Imp.nil ?_)))
  (refine' e_callP (demand) ?hp (fun _ => ?_) (fun _ => ?_); (case hp => (repeat (first | exact Picks.nil | (apply Picks.cons; (focus (repeat constructor)))))); (all_goals (try simp only [List.cons_append, List.nil_append, Bool.not_true, Bool.not_false, -eq_self])))
  rotate_left
  · rename_i y
    exact absurd y.2 (by decide)
  rw [if_neg (fun c => c ⟨hc1, hc2, hc3⟩)] at hR
  (refine' e_callP (decoder hRa (by omega)) ?hp (fun _ => ?_) (fun _ => ?_); (case hp => (repeat (first | exact Picks.nil | (apply Picks.cons; (focus (repeat constructor)))))); (all_goals (try simp only [List.cons_append, List.nil_append, Bool.not_true, Bool.not_false, -eq_self])))
  rotate_left
  · rename_i y
    rw [if_pos y.2] at hR
    refine e_pan ⟨_, hR⟩ rfl ?_
    (repeat (first | exact Imp.refl | exact Imp.nil | (apply Imp.pick; (focus ((repeat constructor); done))) | refine Imp.drop ?_))
  rename_i x8
  rw [if_neg (fun c => c x8.2)] at hR
  (refine' e_callP (decoder hRb (by omega)) ?hp (fun _ => ?_) (fun _ => ?_); (case hp => (repeat (first | exact Picks.nil | (apply Picks.cons; (focus (repeat constructor)))))); (all_goals (try simp only [List.cons_append, List.nil_append, Bool.not_true, Bool.not_false, -eq_self])))
  rotate_left
  · rename_i y
    rw [if_pos y.2] at hR
    refine e_pan ⟨_, hR⟩ rfl ?_
    (repeat (first | exact Imp.refl | exact Imp.nil | (apply Imp.pick; (focus ((repeat constructor); done))) | refine Imp.drop ?_))
  rename_i x9
  rw [if_neg (fun c => c x9.2)] at hR
  rw [hR]
  (refine' e_callP (symbols (by have := x8.2.len; omega) (by have := x9.2.len; omega) h1 h2) ?hp (fun _ => ?_) (fun _ => ?_); (case hp => (repeat (first | exact Picks.nil | (apply Picks.cons; (focus (repeat constructor)))))); (all_goals (try simp only [List.cons_append, List.nil_append, Bool.not_true, Bool.not_false, -eq_self])))
  · rename_i x
    (first | refine e_ret (x) rfl ?_ | refine e_retT (x) ?_)
    (repeat (first | exact Imp.refl | exact Imp.nil | (apply Imp.pick; (focus ((repeat constructor); done))) | refine Imp.drop ?_))
  · rename_i y
    refine e_pan y rfl ?_
    (repeat (first | exact Imp.refl | exact Imp.nil | (apply Imp.pick; (focus ((repeat constructor); done))) | refine Imp.drop ?_))
end Go.Proofs.Ytehfblkpbadikaa.IF
