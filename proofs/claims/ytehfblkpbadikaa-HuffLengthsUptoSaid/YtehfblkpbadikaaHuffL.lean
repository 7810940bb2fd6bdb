/- The lengths of any frequencies, as the rows give them, or why there are none. No conditions. -/
import Derived.Test.YtehfblkpbadikaaHuffPm
import Derived.Test.YtehfblkpbadikaaHuffS3
set_option linter.unusedVariables false
set_option linter.unusedSimpArgs false
namespace Go.Proofs.Ytehfblkpbadikaa.HF
open Go Go.Proofs Go.RowKit Go.Proofs.Ytehfblkpbadikaa.Sh Go.Proofs.Ytehfblkpbadikaa.Sl Go.Proofs.Ytehfblkpbadikaa.T Go.Proofs.Ytehfblkpbadikaa.HM
theorem pairs_mem {p : E → Prop} {q : E → Prop} (hq : ∀ a b, p a → p b → q (a.1 + b.1, a.2 ++ b.2)) : ∀ {xs : List E}, (∀ x ∈ xs, p x) → ∀ y ∈ pairs xs, q y
  | [], _, y, hy => by simp [pairs] at hy
  | [_], _, y, hy => by simp [pairs] at hy
  | a :: b :: r, h, y, hy => by
    rcases List.mem_cons.1 hy with rfl | hy
    · exact hq a b (h a (by simp)) (h b (by simp))
    · exact pairs_mem hq (fun x hx => h x (by simp [hx])) y hy
def rowB (n : Int) (j : Nat) (e : E) : Prop := 0 < e.1 ∧ e.1 ≤ 1099511627776 * ((2 ^ j : Nat) : Int) ∧ 0 < e.2.length ∧ e.2.length ≤ 2 ^ j ∧ ∀ s ∈ e.2, 0 ≤ s ∧ s < n
theorem rowB_up {n : Int} {j : Nat} {e : E} (h : rowB n 0 e) : rowB n j e := by
  obtain ⟨h1, h2, h3, h4, h5⟩ := h
  have hp : 1 ≤ 2 ^ j := Nat.two_pow_pos j
  simp only [Nat.pow_zero] at h2 h4
  refine ⟨h1, ?_, h3, by omega, h5⟩
  have : (1 : Int) ≤ ((2 ^ j : Nat) : Int) := by exact_mod_cast hp
  omega
theorem rows_b {n : Int} {cs : List E} (h : ∀ e ∈ cs, rowB n 0 e) : ∀ j, ∀ e ∈ rows cs j, rowB n j e
  | 0, e, he => h e he
  | j + 1, e, he => by
    rcases mrg_mem Prod.fst _ _ he with c | c
    · exact rowB_up (h e c)
    · refine pairs_mem (p := rowB n j) (q := rowB n (j + 1)) (fun a b ha hb => ?_) (rows_b h j) e c
      obtain ⟨a1, a2, a3, a4, a5⟩ := ha
      obtain ⟨b1, b2, b3, b4, b5⟩ := hb
      have e2 : 2 ^ (j + 1) = 2 ^ j + 2 ^ j := by rw [Nat.pow_succ]; omega
      refine ⟨by show 0 < a.1 + b.1; omega, ?_, by simp; omega, by simp; omega, fun s hs => ?_⟩
      · show a.1 + b.1 ≤ _
        rw [e2]; push_cast; push_cast at a2 b2; omega
      · rcases List.mem_append.1 hs with c | c
        · exact a5 s c
        · exact b5 s c
def csF (freq : List Int) : List E := isort Prod.fst (coinsF 0 freq)
def badF (x : Int) : Prop := x < 0 ∨ 1099511627776 < x
instance (x : Int) : Decidable (badF x) := by unfold badF; infer_instance
/-- why there are no lengths; 0: there are -/
def lenE (freq : List Int) (lim : Int) : Int := if (320 < freq.length ∨ lim < 1 ∨ 15 < lim) ∨ (∃ x ∈ freq, badF x) ∨ 2 ^ lim.toNat < (csF freq).length then 1 else 0
def lenV (freq : List Int) (lim : Int) : List Int := if lenE freq lim ≠ 0 then [] else if (csF freq).length = 1 then (List.range freq.length).map fun s => (cnt (((csF freq).map PM.one)) s : Int) else (List.range freq.length).map (hist (csF freq) lim.toNat)
theorem cs_rowB {freq : List Int} (hf : ∀ x ∈ freq, ¬ badF x) : ∀ e ∈ csF freq, rowB freq.length 0 e := fun e he => by
  have he' := mem_isort _ _ _ he
  have hz := PM.coins_mem he'
  have hx : ∀ (l : List Int) (s : Int), e ∈ coinsF s l → e.1 ∈ l := by
    intro l
    induction l with
    | nil => intro s h; simp [coinsF] at h
    | cons x l ih =>
      intro s h
      unfold coinsF at h
      split at h
      · rcases List.mem_cons.1 h with rfl | h
        · simp
        · exact List.mem_cons_of_mem _ (ih _ h)
      · exact List.mem_cons_of_mem _ (ih _ h)
  have hb := hf _ (hx _ _ he')
  unfold badF at hb
  refine ⟨hz.1, by simp; omega, by rw [hz.2.1]; simp, by rw [hz.2.1]; simp, fun s hs => ?_⟩
  rw [hz.2.1] at hs
  rw [List.mem_singleton.1 hs]
  omega
theorem lengths {W : World} {a : Option Addr} {cap : Nat} {freq : List Int} {A : HP} {lim : Int} (hr : RdB W A a freq.length (freq.map I)) (hfl : freq.length ≤ 1099511627776) :
    Cn Try.prog 15 [.slice a freq.length cap, .int .i64 lim] W [A] (fun q : Option Addr × Nat => .tuple #[.slice q.1 (lenV freq lim).length q.2, .int .i64 (lenE freq lim)]) (fun q => [Sl 1 3 q.1 q.2 (lenV freq lim).length ((lenV freq lim).map I), A]) := by
  have bad : lenE freq lim = 1 → ∀ L : List HP, Ent W (A :: L) (fun w => ∃ q : Option Addr × Nat, (.tuple #[.slice none 0 0, .int .i64 1] : Value) = .tuple #[.slice q.1 (lenV freq lim).length q.2, .int .i64 (lenE freq lim)] ∧ sat W ([Sl 1 3 q.1 q.2 (lenV freq lim).length ((lenV freq lim).map I), A] ++ L) w) := by
    intro h L
    have hv : lenV freq lim = [] := by unfold lenV; rw [if_pos (by rw [h]; decide)]
    rw [h, hv]
    refine e_ret (none, 0) rfl ?_
    exact imp_nil .refl
  (refine S.huff_Lengths_cn fun F => ?_; unfold S.huff_Lengths; simp only [List.cons_append, List.nil_append])
  (((with_reducible refine e_opN v_len Imp.nil ?_)))
  refine e_opN v_gtr Imp.nil ?_
  by_cases hl : 320 < freq.length
  · rw [decide_eq_true (by omega)]
    ((with_reducible refine e_gdF1 ?_)); ((with_reducible refine e_gdF1 ?_)); (((with_reducible refine e_opN v_pickT Imp.nil ?_))); ((with_reducible refine e_gdF1 ?_)); ((with_reducible refine e_gdF1 ?_)); (((with_reducible refine e_opN v_pickT Imp.nil ?_))); ((with_reducible refine e_condT ?_))
    exact e_imp (by (repeat (first | exact Imp.refl | exact Imp.nil | (apply Imp.pick; (focus ((repeat constructor); done))) | refine Imp.drop ?_))) (bad (if_pos (.inl (.inl hl))) F)
  rw [decide_eq_false (by omega)]
  ((with_reducible refine e_gdT ?_)); ((with_reducible refine e_gdT ?_))
  refine e_opN v_lss Imp.nil ?_
  by_cases h1 : lim < 1
  · rw [decide_eq_true (by omega)]
    (((with_reducible refine e_opN v_pickF Imp.nil ?_))); ((with_reducible refine e_gdF1 ?_)); ((with_reducible refine e_gdF1 ?_)); (((with_reducible refine e_opN v_pickT Imp.nil ?_))); ((with_reducible refine e_condT ?_))
    exact e_imp (by (repeat (first | exact Imp.refl | exact Imp.nil | (apply Imp.pick; (focus ((repeat constructor); done))) | refine Imp.drop ?_))) (bad (if_pos (.inl (.inr (.inl h1)))) F)
  rw [decide_eq_false (by omega)]
  (((with_reducible refine e_opN v_pickF Imp.nil ?_))); ((with_reducible refine e_gdT ?_)); ((with_reducible refine e_gdT ?_))
  refine e_opN v_gtr Imp.nil ?_
  by_cases h15 : 15 < lim
  · rw [decide_eq_true (by omega)]
    (((with_reducible refine e_opN v_pickF Imp.nil ?_))); ((with_reducible refine e_condT ?_))
    exact e_imp (by (repeat (first | exact Imp.refl | exact Imp.nil | (apply Imp.pick; (focus ((repeat constructor); done))) | refine Imp.drop ?_))) (bad (if_pos (.inl (.inr (.inr h15)))) F)
  rw [decide_eq_false (by omega)]
  obtain ⟨L, rfl⟩ := Int.eq_ofNat_of_zero_le (show 0 ≤ lim by omega)
  obtain ⟨cs, hcs⟩ : ∃ cs, cs = csF freq := ⟨_, rfl⟩
  (((with_reducible refine e_opN v_pickF Imp.nil ?_))); ((with_reducible refine e_condF ?_)); (((with_reducible refine e_opN v_len Imp.nil ?_)))
  refine e_loop2 (fun m x y => [ex fun q : Option Addr × Nat => ex fun xs : List It => all [pu (∃ i : Nat, m + i = freq.length ∧ y = .int .i64 (i : Int) ∧ x = .slice q.1 xs.length q.2 ∧ xs.map er = coinsF 0 (freq.take i) ∧ xs.length ≤ i ∧ ∀ x ∈ freq.take i, ¬ badF x), Sl 2 86 q.1 q.2 xs.length (xs.flatMap ic), Arena xs, A]] ++ F) freq.length ?_ ?_
  · refine .ex (none, 0) (.ex [] (.all ?_))
    (try simp only [List.cons_append, List.nil_append, -eq_self])
    exact .pu ⟨0, by omega, rfl, rfl, rfl, Nat.le_refl _, fun x hx => by simp at hx⟩ (imp_nil (imp_ar0 .refl))
  intro m ds x y
  (try simp only [List.cons_append, List.nil_append, -eq_self])
  refine e_ex Pick.here fun q => e_ex Pick.here fun xs => e_all Pick.here ?_
  obtain ⟨qa, qc⟩ := q
  (try simp only [List.cons_append, List.nil_append, -eq_self])
  refine e_pu Pick.here fun hi => ?_
  obtain ⟨i, hmi, rfl, rfl, hxs, hxl, hok⟩ := hi
  (try dsimp only)
  (refine e_ask v_lss Imp.nil (fun h => ?_) (fun h => ?_))
  · have hil : i < freq.length := by omega
    obtain ⟨ga, oa, rfl, _⟩ := hr.at_ (by omega)
    have hbad : badF freq[i] → lenE freq L = 1 := fun h => if_pos (.inr (.inl ⟨_, List.getElem_mem hil, h⟩))
    have hok2 : ¬ badF freq[i] → ∀ x ∈ freq.take (i + 1), ¬ badF x := fun h x hx => by
      rw [List.take_succ_eq_append_getElem hil] at hx
      rcases List.mem_append.1 hx with c | c
      · exact hok x c
      · rw [List.mem_singleton.1 c]; exact h
    have hsn : coinsF 0 (freq.take (i + 1)) = coinsF 0 (freq.take i) ++ if 0 < freq[i] then [(freq[i], [(i : Int)])] else [] := by
      rw [List.take_succ_eq_append_getElem hil, coinsF_snoc, List.length_take, Nat.min_eq_left (by omega), Int.zero_add]
    refine e_condT ?_
    refine e_opN (v_ia1 i (by rfl) hil) Imp.nil ?_
    refine e_opN (v_ldRd hr (I_get hil)) (.pick (by (repeat constructor)) .nil) ?_
    refine e_opN v_lss Imp.nil ?_
    by_cases hn1 : freq[i] < 0
    · rw [decide_eq_true hn1]
      ((with_reducible refine e_gdF1 ?_)); ((with_reducible refine e_gdF1 ?_)); (((with_reducible refine e_opN v_pickT Imp.nil ?_))); ((with_reducible refine e_condT ?_))
      exact e_imp (by (repeat (first | exact Imp.refl | exact Imp.nil | (apply Imp.pick; (focus ((repeat constructor); done))) | refine Imp.drop ?_))) (bad (hbad (.inl hn1)) F)
    rw [decide_eq_false hn1]
    ((with_reducible refine e_gdT ?_)); ((with_reducible refine e_gdT ?_))
    refine e_opN v_gtr Imp.nil ?_
    by_cases hn2 : 1099511627776 < freq[i]
    · rw [decide_eq_true hn2]
      (((with_reducible refine e_opN v_pickF Imp.nil ?_))); ((with_reducible refine e_condT ?_))
      exact e_imp (by (repeat (first | exact Imp.refl | exact Imp.nil | (apply Imp.pick; (focus ((repeat constructor); done))) | refine Imp.drop ?_))) (bad (hbad (.inr hn2)) F)
    rw [decide_eq_false hn2]
    have hfi := hok2 (by unfold badF; omega)
    (((with_reducible refine e_opN v_pickF Imp.nil ?_))); ((with_reducible refine e_condF ?_))
    (refine e_ask v_gtr Imp.nil (fun h => ?_) (fun h => ?_))
    · refine e_condT ?_
      refine e_bsl1 fun g => ?_
      refine e_own (s := 1) (n := 1) (cs := [.int .i64 (i : Int)]) .here (by rfl) (by unfold maxLen; omega) ?_
      refine e_ar (x := ⟨freq[i], g, 1, [(i : Int)]⟩) rfl .here (.there .here) ?_
      (((with_reducible refine e_opN v_rv Imp.nil ?_)))
      refine e_bslS (s := 2) (vs := [av ⟨freq[i], g, 1, [(i : Int)]⟩]) rfl (by omega) rfl (by intro z hz; simp at hz; subst hz; rfl) (by omega) fun g4 => ?_
      refine e_app (m := 1) (news := ic ⟨freq[i], g, 1, [(i : Int)]⟩) (by (repeat constructor)) (src_pt (s := 2) (e' := 86) (by kernel_rfl) .here (by rfl) (ic_one _)) (by omega) (by omega) fun a' c' => ?_
      (((with_reducible refine e_opN (v_add ?h1 ?h2) Imp.nil ?_); (case h1 => omega); (case h2 => omega)))
      refine e_next2 (m - 1) (by omega) (.ex (a', c') (.ex (xs ++ [⟨freq[i], g, 1, [(i : Int)]⟩]) (.all ?_)))
      (try simp only [List.cons_append, List.nil_append, -eq_self])
      refine .pu ⟨i + 1, by omega, by norm_cast, by rw [List.length_append]; rfl, by rw [hsn, if_pos h, List.map_append, hxs]; rfl, by simp; omega, hfi⟩ ?_
      rw [List.flatMap_append, List.length_append, List.length_singleton, List.flatMap_singleton]
      refine .pick (by (repeat constructor)) (.convL (A := Arena (⟨freq[i], g, 1, [(i : Int)]⟩ :: xs)) (B := Arena (xs ++ [⟨freq[i], g, 1, [(i : Int)]⟩])) (by (repeat constructor)) (fun f hf y hy => hf y (by simp at hy ⊢; rcases hy with c | c; exact .inr c; exact .inl c)) ?_)
      (repeat (first | exact Imp.refl | exact Imp.nil | (apply Imp.pick; (focus ((repeat constructor); done))) | refine Imp.drop ?_))
    · refine e_condF ?_
      (((with_reducible refine e_opN (v_add ?h1 ?h2) Imp.nil ?_); (case h1 => omega); (case h2 => omega)))
      refine e_next2 (m - 1) (by omega) (.ex (qa, qc) (.ex xs (.all ?_)))
      (try simp only [List.cons_append, List.nil_append, -eq_self])
      refine .pu ⟨i + 1, by omega, by norm_cast, rfl, by rw [hsn, if_neg h, List.append_nil, hxs], by omega, hfi⟩ ?_
      (repeat (first | exact Imp.refl | exact Imp.nil | (apply Imp.pick; (focus ((repeat constructor); done))) | refine Imp.drop ?_))
  · have hie : i = freq.length := by omega
    subst hie
    rw [List.take_length] at hxs hok
    have hcx : cs.length = xs.length := by rw [hcs, csF, length_isort, ← hxs, List.length_map]
    obtain ⟨ci, hci⟩ : ∃ ci, ci = isort It.n xs := ⟨_, rfl⟩
    have hcil : ci.length = xs.length := by rw [hci, length_isort]
    have hce : ci.map er = cs := by rw [hci, isort_map It.n Prod.fst er (fun _ => rfl), hxs, hcs]; rfl
    have hcm : ∀ y ∈ ci, y ∈ xs := fun y hy => by rw [hci] at hy; exact mem_isort It.n xs y hy
    ((with_reducible refine e_condF ?_)); (((with_reducible refine e_opN v_len Imp.nil ?_)))
    refine e_opN v_conv Imp.nil ?_
    rw [wrapu64' (by omega) (by omega)]
    refine e_opN (v_shl (by omega)) Imp.nil ?_
    rw [shl64 (by omega) (by omega) (by omega)]
    refine e_opN v_gtr Imp.nil ?_
    by_cases hkL : 2 ^ L < cs.length
    · rw [decide_eq_true (by
        obtain ⟨Z, hZ⟩ : ∃ Z : Nat, Z = 2 ^ L := ⟨_, rfl⟩
        rw [← hZ] at hkL ⊢
        omega)]
      ((with_reducible refine e_condT ?_))
      exact e_imp (by (repeat (first | exact Imp.refl | exact Imp.nil | (apply Imp.pick; (focus ((repeat constructor); done))) | refine Imp.drop ?_))) (bad (if_pos (.inr (.inr (by rw [Int.toNat_natCast, ← hcs]; exact hkL)))) F)
    rw [decide_eq_false (by
      obtain ⟨Z, hZ⟩ : ∃ Z : Nat, Z = 2 ^ L := ⟨_, rfl⟩
      rw [← hZ] at hkL ⊢
      omega)]
    have hE : lenE freq L = 0 := by
      unfold lenE
      rw [if_neg]
      rintro ((c | c | c) | ⟨x, hx, c⟩ | c)
      · omega
      · omega
      · omega
      · exact hok x hx c
      · rw [Int.toNat_natCast, ← hcs] at c; exact hkL c
    have hV : lenV freq L = if cs.length = 1 then (List.range freq.length).map fun s => (cnt (cs.map PM.one) s : Int) else (List.range freq.length).map (hist cs L) := by
      unfold lenV
      rw [if_neg (fun c => c hE), ← hcs, Int.toNat_natCast]
    have hVl : (lenV freq L).length = freq.length := by rw [hV]; split <;> simp
    rw [hE, hVl]
    have hrb := rows_b (n := (freq.length : Int)) (cs := cs) (by rw [hcs]; exact cs_rowB hok)
    have hp15 : ∀ j, j ≤ 15 → 2 ^ j ≤ 32768 := fun j hj => pow15 hj
    have hrows : ∀ j, j < L → (rows cs j).length ≤ 1073741824 ∧ ∀ e ∈ rows cs j, 0 ≤ e.1 ∧ e.1 ≤ 1152921504606846976 ∧ 0 < e.2.length ∧ e.2.length ≤ 1073741824 := fun j hj => by
      refine ⟨by have := PM.rows_most cs j; omega, fun e he => ?_⟩
      obtain ⟨e1, e2, e3, e4, _⟩ := hrb j e he
      have hp := hp15 j (by omega)
      have hp' : ((2 ^ j : Nat) : Int) ≤ ((32768 : Nat) : Int) := Int.ofNat_le.2 hp
      omega
    ((with_reducible refine e_condF ?_)); (((with_reducible refine e_opN v_len Imp.nil ?_)))
    refine e_mksl freq.length freq.length (by rfl) (by rfl) (by omega) (by omega) (by unfold maxLen; omega) fun go => ?_
    rw [Ln_zero]
    refine e_opN v_eql Imp.nil ?_
    by_cases hk1 : cs.length = 1
    · obtain ⟨e, he⟩ := List.length_eq_one_iff.1 hk1
      obtain ⟨x, hx⟩ : ∃ x, xs = [x] := List.length_eq_one_iff.1 (by omega)
      subst hx
      have hxe : er x = e := by
        have : ci = [x] := by rw [hci]; rfl
        rw [this, he] at hce
        simpa using hce
      obtain ⟨e1, e2, e3, e4, e5⟩ := hrb 0 e (by rw [rows, he]; simp)
      have hone : x.w = [PM.one e] := by
        have hm := (PM.coins_mem (mem_isort _ _ _ (show e ∈ csF freq by rw [← hcs, he]; simp))).2.1
        rw [← hm, ← hxe]; rfl
      have hin := e5 (PM.one e) (by rw [← hxe]; show PM.one (er x) ∈ x.w; rw [hxe, hone]; simp)
      rw [decide_eq_true (by omega)]
      refine e_condT ?_
      refine e_slsome (a := qa) (by (repeat constructor)) (by simp) fun gq hgq => ?_
      subst hgq
      have rdc : RdL W (Sl 2 86 (some ⟨gq, 0, none⟩) qc [x].length ([x].flatMap ic)) (some ⟨gq, 0, none⟩) [x] := rd_slS (P := Try.prog) (by rw [ics_len]) (fun _ => ⟨gq, rfl⟩)
      have w0 := v_itW rdc (j := 0) (by simp)
      have r0 := rd_ar (W := W) (xs := [x]) (x := x) (by simp)
      rw [hone] at r0
      obtain ⟨S, hS⟩ : ∃ S : Nat, (S : Int) = PM.one e := ⟨(PM.one e).toNat, by omega⟩
      refine e_opN (v_ia 0 (by rfl) (by simp)) Imp.nil ?_
      refine e_opN v_fa Imp.nil ?_
      refine e_opN w0 (.pick (by (repeat constructor)) .nil) ?_
      rw [show ([x] : List It)[0] = x from rfl, hone]
      refine e_opN (v_ia1 0 (by rfl) (by simp)) Imp.nil ?_
      refine e_opN (v_ldRd (j := 0) r0 (v := I (PM.one e)) rfl) (.pick (by (repeat constructor)) .nil) ?_
      refine e_opN (v_ia1 S (by exact hS.symm) (by omega)) Imp.nil ?_
      rw [Nat.zero_add]
      refine e_stSl (g := go) (cs := Ln freq.length fun _ => 0) (v := I 1) (j := S) (by (repeat constructor)) (by rw [Ln_len]; omega) ?_
      rw [show (Ln freq.length fun _ => 0).set S (I 1) = Ln freq.length fun i => if i = S then 1 else 0 from Ln_set]
      refine e_ret (some ⟨go, 0, none⟩, freq.length) rfl ?_
      have hLn : (Ln freq.length fun i => if i = S then 1 else 0) = (lenV freq L).map I := by
        rw [hV, if_pos hk1]
        refine Ln_ext (by simp) fun j hj => ?_
        rw [List.map_map, List.getElem?_map, List.getElem?_range hj]
        simp only [Option.map_some, Function.comp]
        congr 2
        rw [he]
        simp only [List.map_cons, List.map_nil, cnt, ← hS]
        by_cases c : j = S
        · subst c; simp
        · rw [if_neg c, if_neg (fun d => c (by omega))]; simp
      rw [hLn]
      (repeat (first | exact Imp.refl | exact Imp.nil | (apply Imp.pick; (focus ((repeat constructor); done))) | refine Imp.drop ?_))
    rw [decide_eq_false (by omega)]
    rw [if_neg hk1] at hV
    have hfinal : (lenV freq L).map I = Ln freq.length (hist cs L) := by rw [hV, List.map_map]; rfl
    rw [hfinal]
    ((with_reducible refine e_condF ?_))
    (refine' e_call (sortedA (by omega)) ?hp fun _ => ?_; (case hp => (repeat (first | exact Picks.nil | (apply Picks.cons; (focus (repeat constructor)))))); (try simp only [List.cons_append, List.nil_append, Bool.not_true, Bool.not_false]))
    rw [← hci]
    (((with_reducible refine e_opN (v_sub ?h1 ?h2) Imp.nil ?_); (case h1 => omega); (case h2 => omega)))
    refine e_slfacts .here fun f1 f2 f3 f4 => ?_
    have rdc : RdL W (Sl 2 86 qa qc xs.length (ci.flatMap ic)) qa ci := by
      unfold RdL
      rw [hcil]
      exact rd_slS (P := Try.prog) (by rw [ics_len, hcil]) f4
    refine e_loop2 (fun m x y => [ex fun j : Nat => ex fun q : Option Addr × Nat => ex fun rs : List It => ex fun ar : List It => all [pu (m + j = L - 1 ∧ y = .int .i64 (j : Int) ∧ x = .slice q.1 rs.length q.2 ∧ rs.map er = rows cs j ∧ (∀ y ∈ rs, y ∈ ar) ∧ (∀ y ∈ ci, y ∈ ar) ∧ (j = 0 → q = (qa, qc) ∧ rs = ci)), (if j = 0 then pu True else Sl 2 86 q.1 q.2 rs.length (rs.flatMap ic)), Arena ar, Sl 2 86 qa qc xs.length (ci.flatMap ic), Sl 1 3 (some ⟨go, 0, none⟩) freq.length freq.length (Ln freq.length fun _ => 0), A]] ++ F) (L - 1) ?_ ?_
    · refine .ex 0 (.ex (qa, qc) (.ex ci (.ex xs (.all ?_))))
      (try simp only [List.cons_append, List.nil_append, -eq_self])
      refine .pu ⟨by omega, rfl, by rw [hcil], hce, hcm, hcm, fun _ => ⟨rfl, rfl⟩⟩ ?_
      rw [if_pos rfl]
      refine .pu trivial ?_
      exact .pick (by (repeat constructor)) (.pick (by (repeat constructor)) (.pick (by (repeat constructor)) (.pick (by (repeat constructor)) .refl)))
    intro m2 ds x y
    (try simp only [List.cons_append, List.nil_append, -eq_self])
    refine e_ex Pick.here fun j => e_ex Pick.here fun q => e_ex Pick.here fun rs => e_ex Pick.here fun ar => e_all Pick.here ?_
    obtain ⟨ra, rc⟩ := q
    (try simp only [List.cons_append, List.nil_append, -eq_self])
    refine e_pu Pick.here fun hj => ?_
    obtain ⟨hmj, rfl, rfl, hrs, hra, hca, hj0⟩ := hj
    (try dsimp only)
    have hrl : rs.length = (rows cs j).length := by rw [← hrs, List.length_map]
    have hmem : ∀ y ∈ rs, er y ∈ rows cs j := fun y hy => by rw [← hrs]; exact List.mem_map.2 ⟨y, hy, rfl⟩
    have hbj := hrows j (by omega)
    have hb1 : ∀ y ∈ rs, 0 ≤ y.n ∧ y.n ≤ 1152921504606846976 ∧ 0 < y.w.length ∧ y.w.length ≤ 1073741824 := fun y hy => hbj.2 (er y) (hmem y hy)
    (refine e_ask v_lss Imp.nil (fun h => ?_) (fun h => ?_))
    · have hjL : j < L - 1 := by omega
      refine e_condT ?_
      have step : ∀ (q : Option Addr × Nat) (ps ar' : List It), ps.map er = pairs (rs.map er) → (∀ y ∈ ps, y ∈ ar') → (∀ y ∈ ar, y ∈ ar') → Ent W (Sl 2 86 q.1 q.2 ps.length (ps.flatMap ic) :: Arena ar' :: Sl 2 86 qa qc xs.length (ci.flatMap ic) :: Sl 1 3 (some ⟨go, 0, none⟩) freq.length freq.length (Ln freq.length fun _ => 0) :: A :: F) (opN Try.prog (sCall (fn 47) [.slice qa xs.length qc, .slice q.1 ps.length q.2]) noP fun x117 =>
           opN Try.prog (sBin .add 3 (.int .i64 (j : Int)) (.int .i64 1)) noP fun x118 =>
           next2 (fun m x y w => sat W ([ex fun j : Nat => ex fun q : Option Addr × Nat => ex fun rs : List It => ex fun ar : List It => all [pu (m + j = L - 1 ∧ y = .int .i64 (j : Int) ∧ x = .slice q.1 rs.length q.2 ∧ rs.map er = rows cs j ∧ (∀ y ∈ rs, y ∈ ar) ∧ (∀ y ∈ ci, y ∈ ar) ∧ (j = 0 → q = (qa, qc) ∧ rs = ci)), (if j = 0 then pu True else Sl 2 86 q.1 q.2 rs.length (rs.flatMap ic)), Arena ar, Sl 2 86 qa qc xs.length (ci.flatMap ic), Sl 1 3 (some ⟨go, 0, none⟩) freq.length freq.length (Ln freq.length fun _ => 0), A]] ++ F) w) m2 x117 x118) := by
        intro q ps ar' hps hpa haa
        obtain ⟨pa, pc⟩ := q
        (try dsimp only)
        have hpl : ps.length ≤ 1073741824 := by
          have e1 : ps.length = (pairs (rs.map er)).length := by rw [← hps, List.length_map]
          have e2 : ∀ n, ∀ l : List E, l.length ≤ n → (pairs l).length ≤ l.length := by
            intro n
            induction n with
            | zero =>
              intro l hl
              have hl0 : l = [] := List.eq_nil_of_length_eq_zero (by omega)
              subst hl0
              simp [pairs]
            | succ n ih =>
              intro l hl
              match l, hl with
              | [], _ => simp [pairs]
              | [x], _ => simp [pairs]
              | x :: y :: r, hl => have := ih r (by simp at hl; omega); simp [pairs]; omega
          have := e2 _ (rs.map er) (Nat.le_refl _)
          rw [List.length_map] at this
          omega
        refine e_slfacts .here fun g1 g2 g3 g4 => ?_
        have rdp : RdL W (Sl 2 86 pa pc ps.length (ps.flatMap ic)) pa ps := rd_slS (P := Try.prog) (by rw [ics_len]) g4
        rw [← hcil]
        rw [← hcil] at rdc f2
        (refine' e_call (mergeC rdc rdp f2 g2 (by omega) hpl) ?hp fun _ => ?_; (case hp => (repeat (first | exact Picks.nil | (apply Picks.cons; (focus (repeat constructor)))))); (try simp only [List.cons_append, List.nil_append, Bool.not_true, Bool.not_false]))
        rename_i q3
        obtain ⟨ma, mc⟩ := q3
        (try dsimp only)
        (((with_reducible refine e_opN (v_add ?h1 ?h2) Imp.nil ?_); (case h1 => omega); (case h2 => omega)))
        refine e_next2 (m2 - 1) (by omega) (.ex (j + 1) (.ex (ma, mc) (.ex (mrg It.n ci ps) (.ex ar' (.all ?_)))))
        (try simp only [List.cons_append, List.nil_append, -eq_self])
        refine .pu ⟨by omega, by norm_cast, by rw [mrg_len], ?_, fun y hy => ?_, fun y hy => haa y (hca y hy), fun c => by omega⟩ ?_
        · rw [mrg_map It.n Prod.fst er (fun _ => rfl), hce, hps, hrs]; rfl
        · rcases mrg_mem It.n ci ps hy with c | c
          · exact haa y (hca y c)
          · exact hpa y c
        · rw [if_neg (by omega), mrg_len]
          exact .pick (by (repeat constructor)) (.pick (by (repeat constructor)) (.pick (by (repeat constructor)) (.pick (by (repeat constructor)) (.pick (by (repeat constructor)) (by (repeat (first | exact Imp.refl | exact Imp.nil | (apply Imp.pick; (focus ((repeat constructor); done))) | refine Imp.drop ?_)))))))
      by_cases c0 : j = 0
      · rw [if_pos c0]
        obtain ⟨e1, e2⟩ := hj0 c0
        injection e1 with e1 e3
        subst e1; subst e3
        refine e_imp (M := Sl 2 86 ra rc xs.length (ci.flatMap ic) :: Arena ar :: Sl 1 3 (some ⟨go, 0, none⟩) freq.length freq.length (Ln freq.length fun _ => 0) :: A :: F) (by (repeat (first | exact Imp.refl | exact Imp.nil | (apply Imp.pick; (focus ((repeat constructor); done))) | refine Imp.drop ?_))) ?_
        rw [e2]
        rw [e2] at step hra hb1
        refine pairsLoop rdc hra (by omega) hb1 fun q ps ar' k1 k2 k3 => ?_
        exact e_imp (by (repeat (first | exact Imp.refl | exact Imp.nil | (apply Imp.pick; (focus ((repeat constructor); done))) | refine Imp.drop ?_))) (step q ps ar' k1 k2 k3)
      · rw [if_neg c0]
        refine e_slfacts .here fun g1 g2 g3 g4 => ?_
        have rdr : RdL W (Sl 2 86 ra rc rs.length (rs.flatMap ic)) ra rs := rd_slS (P := Try.prog) (by rw [ics_len]) g4
        refine pairsLoop rdr hra (by omega) hb1 fun q ps ar' k1 k2 k3 => ?_
        exact e_imp (by (repeat (first | exact Imp.refl | exact Imp.nil | (apply Imp.pick; (focus ((repeat constructor); done))) | refine Imp.drop ?_))) (step q ps ar' k1 k2 k3)
    · have hjL : j = L - 1 := by omega
      subst hjL
      refine e_condF ?_
      by_cases hk0 : cs.length = 0
      · have hh : (Ln freq.length fun _ => 0) = Ln freq.length (hist cs L) := by
          refine Ln_congr fun s _ => ?_
          unfold hist
          rw [hk0]; rfl
        rw [hh]
        refine e_loop1 (fun m y => [pu (y = .int .i64 0), Sl 1 3 (some ⟨go, 0, none⟩) freq.length freq.length (Ln freq.length (hist cs L)), A] ++ F) 0 ?_ ?_
        · (try simp only [List.cons_append, List.nil_append, -eq_self])
          refine .pu rfl ?_
          (repeat (first | exact Imp.refl | exact Imp.nil | (apply Imp.pick; (focus ((repeat constructor); done))) | refine Imp.drop ?_))
        intro m ds y
        (try simp only [List.cons_append, List.nil_append, -eq_self])
        refine e_pu Pick.here fun hy => ?_
        subst hy
        refine e_opN (v_mul (by omega) (by omega)) Imp.nil ?_
        refine e_opN (v_sub (by omega) (by omega)) Imp.nil ?_
        refine e_opN v_lss Imp.nil ?_
        rw [decide_eq_false (by omega)]
        refine e_condF ?_
        refine e_ret (some ⟨go, 0, none⟩, freq.length) rfl ?_
        (repeat (first | exact Imp.refl | exact Imp.nil | (apply Imp.pick; (focus ((repeat constructor); done))) | refine Imp.drop ?_))
      have hlast : 2 * cs.length - 2 ≤ (rows cs (L - 1)).length ∧ ∀ e ∈ rows cs (L - 1), ∀ s ∈ e.2, 0 ≤ s ∧ s < (freq.length : Int) := by
        refine ⟨PM.rows_enough (by omega) (by rw [show L - 1 + 1 = L by omega]; omega), fun e he s hs => (hrb (L - 1) e he).2.2.2.2 s hs⟩
      have hb2 : ∀ y ∈ rs, y.w.length ≤ 1073741824 ∧ ∀ s ∈ y.w, 0 ≤ s ∧ s < (freq.length : Int) := fun y hy => ⟨(hb1 y hy).2.2.2, hlast.2 (er y) (hmem y hy)⟩
      have fin : Ent W (Sl 1 3 (some ⟨go, 0, none⟩) freq.length freq.length (Ln freq.length fun s => (cnt (((rs.map er).take (2 * xs.length - 2)).flatMap fun e => e.2) s : Int)) :: A :: F) (fun w => ∃ x : Option Addr × Nat, (.tuple #[.slice (some ⟨go, 0, none⟩) freq.length freq.length, .int .i64 0] : Value) = .tuple #[.slice x.1 freq.length x.2, .int .i64 0] ∧ sat W ([Sl 1 3 x.1 x.2 freq.length (Ln freq.length (hist cs L)), A] ++ F) w) := by
        refine e_ret (some ⟨go, 0, none⟩, freq.length) rfl ?_
        rw [hrs, ← hcx]
        exact .refl
      by_cases c0 : L - 1 = 0
      · rw [if_pos c0]
        obtain ⟨e1, e2⟩ := hj0 c0
        injection e1 with e1 e3
        subst e1; subst e3
        refine e_imp (M := Sl 1 3 (some ⟨go, 0, none⟩) freq.length freq.length (Ln freq.length fun _ => 0) :: Sl 2 86 ra rc xs.length (ci.flatMap ic) :: Arena ar :: A :: F) (by (repeat (first | exact Imp.refl | exact Imp.nil | (apply Imp.pick; (focus ((repeat constructor); done))) | refine Imp.drop ?_))) ?_
        subst e2
        refine histLoop rdc hra (by omega) ⟨by omega, by omega⟩ (by omega) hb2 ?_
        exact fin
      · rw [if_neg c0]
        refine e_slfacts .here fun g1 g2 g3 g4 => ?_
        have rdr : RdL W (Sl 2 86 ra rc rs.length (rs.flatMap ic)) ra rs := rd_slS (P := Try.prog) (by rw [ics_len]) g4
        refine e_imp (M := Sl 1 3 (some ⟨go, 0, none⟩) freq.length freq.length (Ln freq.length fun _ => 0) :: Sl 2 86 ra rc rs.length (rs.flatMap ic) :: Arena ar :: A :: F) (by (repeat (first | exact Imp.refl | exact Imp.nil | (apply Imp.pick; (focus ((repeat constructor); done))) | refine Imp.drop ?_))) ?_
        refine histLoop rdr hra (by omega) ⟨by omega, by omega⟩ (by omega) hb2 ?_
        exact fin
end Go.Proofs.Ytehfblkpbadikaa.HF
