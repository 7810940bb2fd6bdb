/- The document's lengths of any frequencies: the same as the program's. Rows of at most 2^40 numbers. -/
import Derived.Test.YtehfblkpbadikaaHuffRp
set_option linter.unusedVariables false
set_option linter.unusedSimpArgs false
namespace Go.Proofs.Ytehfblkpbadikaa.HF
open Go Go.Proofs Go.RowKit Go.Proofs.Ytehfblkpbadikaa.Sh Go.Proofs.Ytehfblkpbadikaa.Sl Go.Proofs.Ytehfblkpbadikaa.T Go.Proofs.Ytehfblkpbadikaa.HM
theorem rlengths {W : World} {a : Option Addr} {cap : Nat} {freq : List Int} {A : HP} {lim : Int} (hr : RdB W A a freq.length (freq.map I)) (hfl : freq.length ≤ 1099511627776) :
    Cn Try.prog 16 [.slice a freq.length cap, .int .i64 lim] W [A] (fun q : Option Addr × Nat => .tuple #[.slice q.1 (lenV freq lim).length q.2, .int .i64 (lenE freq lim)]) (fun q => [Sl 1 3 q.1 q.2 (lenV freq lim).length ((lenV freq lim).map I), A]) := by
  have bad : lenE freq lim = 1 → ∀ L : List HP, Ent W (A :: L) (fun w => ∃ q : Option Addr × Nat, (.tuple #[.slice none 0 0, .int .i64 1] : Value) = .tuple #[.slice q.1 (lenV freq lim).length q.2, .int .i64 (lenE freq lim)] ∧ sat W ([Sl 1 3 q.1 q.2 (lenV freq lim).length ((lenV freq lim).map I), A] ++ L) w) := by
    intro h L
    have hv : lenV freq lim = [] := by unfold lenV; rw [if_pos (by rw [h]; decide)]
    rw [h, hv]
    refine e_ret (none, 0) rfl ?_
    exact imp_nil .refl
  (refine S.ref03_Lengths_cn fun F => ?_; unfold S.ref03_Lengths; simp only [List.cons_append, List.nil_append])
  refine e_opN v_len Imp.nil ?_
  refine e_opN v_gtr Imp.nil ?_
  by_cases hl : 320 < freq.length
  · rw [decide_eq_true (by omega)]
    ((with_reducible refine e_gdF1 ?_)); ((with_reducible refine e_gdF1 ?_)); (((with_reducible refine e_opN v_pickT Imp.nil ?_))); ((with_reducible refine e_gdF1 ?_)); ((with_reducible refine e_gdF1 ?_)); (((with_reducible refine e_opN v_pickT Imp.nil ?_))); ((with_reducible refine e_condT ?_))
    exact e_imp (by (repeat (first | exact Imp.refl | exact Imp.nil | (apply Imp.pick; (focus ((repeat constructor); done))) | refine Imp.drop ?_))) (bad (if_pos (.inl (.inl hl))) F)
  rw [decide_eq_false (by omega)]
  ((with_reducible refine e_gdT ?_)); ((with_reducible refine e_gdT ?_))
  refine e_opN v_lss Imp.nil ?_
  by_cases h1 : lim < 1
  · rw [decide_eq_true (by omega)]
    (((with_reducible refine e_opN v_pickF Imp.nil ?_))); ((with_reducible refine e_gdF1 ?_)); ((with_reducible refine e_gdF1 ?_)); (((with_reducible refine e_opN v_pickT Imp.nil ?_))); ((with_reducible refine e_condT ?_))
    exact e_imp (by (repeat (first | exact Imp.refl | exact Imp.nil | (apply Imp.pick; (focus ((repeat constructor); done))) | refine Imp.drop ?_))) (bad (if_pos (.inl (.inr (.inl h1)))) F)
  rw [decide_eq_false (by omega)]
  (((with_reducible refine e_opN v_pickF Imp.nil ?_))); ((with_reducible refine e_gdT ?_)); ((with_reducible refine e_gdT ?_))
  refine e_opN v_gtr Imp.nil ?_
  by_cases h15 : 15 < lim
  · rw [decide_eq_true (by omega)]
    (((with_reducible refine e_opN v_pickF Imp.nil ?_))); ((with_reducible refine e_condT ?_))
    exact e_imp (by (repeat (first | exact Imp.refl | exact Imp.nil | (apply Imp.pick; (focus ((repeat constructor); done))) | refine Imp.drop ?_))) (bad (if_pos (.inl (.inr (.inr h15)))) F)
  rw [decide_eq_false (by omega)]
  obtain ⟨L, rfl⟩ := Int.eq_ofNat_of_zero_le (show 0 ≤ lim by omega)
  obtain ⟨cs, hcs⟩ : ∃ cs, cs = csF freq := ⟨_, rfl⟩
  have hcl : cs.length = (coinsF 0 freq).length := by rw [hcs, csF, length_isort]
  (((with_reducible refine e_opN v_pickF Imp.nil ?_))); ((with_reducible refine e_condF ?_))
  refine e_loop2 (fun m x y => (ex fun i : Nat => pu (m + i = freq.length ∧ x = .int .i64 ((coinsF 0 (freq.take i)).length : Nat) ∧ y = .int .i64 (i : Int) ∧ (coinsF 0 (freq.take i)).length ≤ i ∧ ∀ x ∈ freq.take i, ¬ badF x)) :: A :: F) freq.length ?_ ?_
  · refine .ex 0 (.pu ⟨rfl, rfl, rfl, Nat.le_refl _, fun x hx => by simp at hx⟩ ?_)
    exact .refl
  intro m ds x y
  refine e_ex .here fun i => e_pu .here fun hi => ?_
  obtain ⟨hmi, rfl, rfl, hcn, hok⟩ := hi
  refine e_opN v_len Imp.nil ?_
  refine e_ask v_lss Imp.nil (fun h => ?_) (fun h => ?_)
  · have hil : i < freq.length := by omega
    obtain ⟨ga, oa, rfl, _⟩ := hr.at_ (by omega)
    have lf : RunV Try.prog W [A] (sLoad 3 (.pointer (some ⟨ga, oa + i, none⟩))) (.int .i64 freq[i]) := v_ldRd hr (I_get hil)
    have hbad : badF freq[i] → lenE freq L = 1 := fun h => if_pos (.inr (.inl ⟨_, List.getElem_mem hil, h⟩))
    have hok2 : ¬ badF freq[i] → ∀ x ∈ freq.take (i + 1), ¬ badF x := fun h x hx => by
      rw [List.take_succ_eq_append_getElem hil] at hx
      rcases List.mem_append.1 hx with c | c
      · exact hok x c
      · rw [List.mem_singleton.1 c]; exact h
    have hsn : (coinsF 0 (freq.take (i + 1))).length = (coinsF 0 (freq.take i)).length + if 0 < freq[i] then 1 else 0 := by
      rw [List.take_succ_eq_append_getElem hil, coinsF_snoc, List.length_append]
      split <;> simp
    refine e_condT ?_
    refine e_opN (v_ia1 i rfl hil) Imp.nil ?_
    refine e_opN lf (.pick (by (repeat constructor)) .nil) ?_
    refine e_opN v_lss Imp.nil ?_
    by_cases hn1 : freq[i] < 0
    · rw [decide_eq_true hn1]
      ((with_reducible refine e_gdF1 ?_)); ((with_reducible refine e_gdF1 ?_)); ((with_reducible refine e_gdF1 ?_)); ((with_reducible refine e_gdF1 ?_)); ((with_reducible refine e_gdF1 ?_)); (((with_reducible refine e_opN v_pickT Imp.nil ?_))); ((with_reducible refine e_condT ?_))
      exact e_imp (by (repeat (first | exact Imp.refl | exact Imp.nil | (apply Imp.pick; (focus ((repeat constructor); done))) | refine Imp.drop ?_))) (bad (hbad (.inl hn1)) F)
    rw [decide_eq_false hn1]
    refine e_gdT ?_
    refine e_gdT ?_
    refine e_gdT ?_
    refine e_opN (v_ia1 i rfl hil) Imp.nil ?_
    refine e_gdT ?_
    refine e_opN lf (.pick (by (repeat constructor)) .nil) ?_
    refine e_gdT ?_
    refine e_opN v_gtr Imp.nil ?_
    refine e_opN v_pickF Imp.nil ?_
    by_cases hn2 : 1099511627776 < freq[i]
    · rw [decide_eq_true hn2]
      refine e_condT ?_
      exact e_imp (by (repeat (first | exact Imp.refl | exact Imp.nil | (apply Imp.pick; (focus ((repeat constructor); done))) | refine Imp.drop ?_))) (bad (hbad (.inr hn2)) F)
    rw [decide_eq_false hn2]
    have hfi := hok2 (by unfold badF; omega)
    refine e_condF ?_
    refine e_opN (v_ia1 i rfl hil) Imp.nil ?_
    refine e_opN lf (.pick (by (repeat constructor)) .nil) ?_
    refine e_ask v_gtr Imp.nil (fun h3 => ?_) (fun h3 => ?_)
    · rw [if_pos h3] at hsn
      refine e_condT ?_
      refine e_opN (v_add (by omega) (by omega)) Imp.nil ?_
      refine e_opN (v_add (by omega) (by omega)) Imp.nil ?_
      refine e_next2 (m - 1) (by omega) (.ex (i + 1) (.pu ⟨by omega, by rw [hsn]; rfl, rfl, by omega, hfi⟩ ?_))
      exact .refl
    · rw [if_neg h3, Nat.add_zero] at hsn
      refine e_condF ?_
      refine e_opN (v_add (by omega) (by omega)) Imp.nil ?_
      refine e_next2 (m - 1) (by omega) (.ex (i + 1) (.pu ⟨by omega, by rw [hsn]; rfl, rfl, by omega, hfi⟩ ?_))
      exact .refl
  have hie : i = freq.length := by omega
  subst hie
  rw [List.take_length] at hok hcn ⊢
  rw [← hcl] at hcn ⊢
  refine e_condF ?_
  refine e_opN v_conv Imp.nil ?_
  rw [wrapu64' (by omega) (by omega)]
  refine e_opN (v_shl (by omega)) Imp.nil ?_
  rw [shl64 (by omega) (by omega) (by omega)]
  refine e_opN v_gtr Imp.nil ?_
  by_cases hkL : 2 ^ L < cs.length
  · rw [decide_eq_true (by
      obtain ⟨Z, hZ⟩ : ∃ Z : Nat, Z = 2 ^ L := ⟨_, rfl⟩
      rw [← hZ] at hkL ⊢
      omega)]
    ((with_reducible refine e_condT ?_))
    exact e_imp (by (repeat (first | exact Imp.refl | exact Imp.nil | (apply Imp.pick; (focus ((repeat constructor); done))) | refine Imp.drop ?_))) (bad (if_pos (.inr (.inr (by rw [Int.toNat_natCast, ← hcs]; exact hkL)))) F)
  rw [decide_eq_false (by
    obtain ⟨Z, hZ⟩ : ∃ Z : Nat, Z = 2 ^ L := ⟨_, rfl⟩
    rw [← hZ] at hkL ⊢
    omega)]
  have hE : lenE freq L = 0 := by
    unfold lenE
    rw [if_neg]
    rintro ((c | c | c) | ⟨x, hx, c⟩ | c)
    · omega
    · omega
    · omega
    · exact hok x hx c
    · rw [Int.toNat_natCast, ← hcs] at c; exact hkL c
  have hV : lenV freq L = if cs.length = 1 then (List.range freq.length).map fun s => (cnt (cs.map PM.one) s : Int) else (List.range freq.length).map (hist cs L) := by
    unfold lenV
    rw [if_neg (fun c => c hE), ← hcs, Int.toNat_natCast]
  have hVl : (lenV freq L).length = freq.length := by rw [hV]; split <;> simp
  rw [hE, hVl]
  have hrb := rows_b (n := (freq.length : Int)) (cs := cs) (by rw [hcs]; exact cs_rowB hok)
  have hp15 : ∀ j, j ≤ 15 → 2 ^ j ≤ 32768 := fun j hj => pow15 hj
  have hrows : ∀ j, j < L → (rows cs j).length ≤ 2 * cs.length ∧ ∀ e ∈ rows cs j, 0 ≤ e.1 ∧ e.1 ≤ 1152921504606846976 ∧ 0 < e.2.length ∧ e.2.length ≤ 1073741824 := fun j hj => by
    refine ⟨PM.rows_most cs j, fun e he => ?_⟩
    obtain ⟨e1, e2, e3, e4, _⟩ := hrb j e he
    have hp := hp15 j (by omega)
    have hp' : ((2 ^ j : Nat) : Int) ≤ ((32768 : Nat) : Int) := Int.ofNat_le.2 hp
    omega
  refine e_condF ?_
  refine e_opN v_len Imp.nil ?_
  refine e_mksl freq.length freq.length (by rfl) (by rfl) (by omega) (by omega) (by unfold maxLen; omega) fun go => ?_
  rw [Ln_zero]
  refine e_call (coins hr hok (by omega)) (.cons (.there .here) .nil) fun q => ?_
  obtain ⟨⟨qa, qc⟩, ⟨xs, hxe, hx320⟩⟩ := q
  (try simp only [List.cons_append, List.nil_append, -eq_self])
  (try dsimp only)
  have hxl : xs.length = cs.length := by rw [hcs, ← hxe, List.length_map]
  rw [← hcs] at hxe
  refine e_slfacts .here fun f1 f2 f3 f4 => ?_
  have rdc : RdL W (Sl 2 95 qa qc xs.length (xs.flatMap ic)) qa xs := rd_slG f1 f4
  refine e_opN v_eql Imp.nil ?_
  by_cases hk1 : cs.length = 1
  · obtain ⟨e, he⟩ := List.length_eq_one_iff.1 hk1
    obtain ⟨x, hx⟩ : ∃ x, xs = [x] := List.length_eq_one_iff.1 (by omega)
    subst hx
    have hxe1 : er x = e := by rw [he] at hxe; simpa using hxe
    obtain ⟨e1, e2, e3, e4, e5⟩ := hrb 0 e (by rw [rows, he]; simp)
    have hone : x.w = [PM.one e] := by
      have hm := (PM.coins_mem (mem_isort _ _ _ (show e ∈ csF freq by rw [← hcs, he]; simp))).2.1
      rw [← hm, ← hxe1]; rfl
    have hin := e5 (PM.one e) (by rw [← hxe1]; show PM.one (er x) ∈ x.w; rw [hxe1, hone]; simp)
    rw [decide_eq_true (by omega)]
    refine e_condT ?_
    obtain ⟨gq, rfl⟩ := f4 (by simp)
    have w0 := v_itW rdc (j := 0) (by simp)
    have r0 := rd_ar (W := W) (xs := [x]) (x := x) (by simp)
    rw [hone] at r0
    obtain ⟨S, hS⟩ : ∃ S : Nat, (S : Int) = PM.one e := ⟨(PM.one e).toNat, by omega⟩
    refine e_opN (v_ia 0 (by rfl) (by simp)) Imp.nil ?_
    refine e_opN v_fa Imp.nil ?_
    refine e_opN w0 (.pick (by (repeat constructor)) .nil) ?_
    rw [show ([x] : List It)[0] = x from rfl, hone]
    refine e_opN (v_ia1 0 (by rfl) (by simp)) Imp.nil ?_
    refine e_opN (v_ldRd (j := 0) r0 (v := I (PM.one e)) rfl) (.pick (by (repeat constructor)) .nil) ?_
    refine e_opN (v_ia1 S (by exact hS.symm) (by omega)) Imp.nil ?_
    rw [Nat.zero_add]
    refine e_stSl (g := go) (cs := Ln freq.length fun _ => 0) (v := I 1) (j := S) (by (repeat constructor)) (by rw [Ln_len]; omega) ?_
    rw [show (Ln freq.length fun _ => 0).set S (I 1) = Ln freq.length fun i => if i = S then 1 else 0 from Ln_set]
    refine e_ret (some ⟨go, 0, none⟩, freq.length) rfl ?_
    have hLn : (Ln freq.length fun i => if i = S then 1 else 0) = (lenV freq L).map I := by
      rw [hV, if_pos hk1]
      refine Ln_ext (by simp) fun j hj => ?_
      rw [List.map_map, List.getElem?_map, List.getElem?_range hj]
      simp only [Option.map_some, Function.comp]
      congr 2
      rw [he]
      simp only [List.map_cons, List.map_nil, cnt, ← hS]
      by_cases c : j = S
      · subst c; simp
      · rw [if_neg c, if_neg (fun d => c (by omega))]; simp
    rw [hLn]
    (repeat (first | exact Imp.refl | exact Imp.nil | (apply Imp.pick; (focus ((repeat constructor); done))) | refine Imp.drop ?_))
  rw [decide_eq_false (by omega)]
  rw [if_neg hk1] at hV
  have hfinal : (lenV freq L).map I = Ln freq.length (hist cs L) := by rw [hV, List.map_map]; rfl
  rw [hfinal]
  refine e_condF ?_
  refine e_loop2 (fun m x y => (ex fun st : ((Option Addr × Nat) × Nat) × (List It × List It) => all [pu (m + st.1.2 = L - 1 ∧ y = .int .i64 (st.1.2 + 1 : Nat) ∧ x = .slice st.1.1.1 st.2.1.length st.1.1.2 ∧ st.2.1.map er = rows cs st.1.2 ∧ (∀ y ∈ st.2.1, y ∈ st.2.2) ∧ (∀ y ∈ xs, y ∈ st.2.2) ∧ (st.1.2 = 0 → st.1.1 = (qa, qc) ∧ st.2.1 = xs)), (if st.1.2 = 0 then pu True else Sl 2 95 st.1.1.1 st.1.1.2 st.2.1.length (st.2.1.flatMap ic)), Arena st.2.2]) :: Sl 2 95 qa qc xs.length (xs.flatMap ic) :: Sl 1 3 (some ⟨go, 0, none⟩) freq.length freq.length (Ln freq.length fun _ => 0) :: A :: F) (L - 1) ?_ ?_
  · refine .ex (((qa, qc), 0), (xs, xs)) (.all ?_)
    (try simp only [List.cons_append, List.nil_append, -eq_self])
    refine .pu ⟨by (try dsimp only); omega, rfl, rfl, hxe, fun y hy => hy, fun y hy => hy, fun _ => ⟨rfl, rfl⟩⟩ ?_
    rw [if_pos rfl]
    refine .pu trivial ?_
    exact .pick (by (repeat constructor)) (.pick (by (repeat constructor)) (.pick (by (repeat constructor)) (.pick (by (repeat constructor)) .refl)))
  intro m2 ds2 x y
  refine e_ex .here fun st => e_all .here ?_
  obtain ⟨⟨⟨ra, rc⟩, j⟩, ⟨rs, ar⟩⟩ := st
  (try simp only [List.cons_append, List.nil_append, -eq_self])
  refine e_pu .here fun hj => ?_
  (try dsimp only at hj)
  (try dsimp only)
  obtain ⟨hmj, rfl, rfl, hrs, hra, hca, hj0⟩ := hj
  have hrl : rs.length = (rows cs j).length := by rw [← hrs, List.length_map]
  have hmem : ∀ y ∈ rs, er y ∈ rows cs j := fun y hy => by rw [← hrs]; exact List.mem_map.2 ⟨y, hy, rfl⟩
  have hbj := hrows j (by omega)
  have hb1 : ∀ y ∈ rs, 0 ≤ y.n ∧ y.n ≤ 1152921504606846976 ∧ 0 < y.w.length ∧ y.w.length ≤ 1073741824 := fun y hy => hbj.2 (er y) (hmem y hy)
  refine e_ask v_lss Imp.nil (fun h => ?_) (fun h => ?_)
  · have hjL : j < L - 1 := by omega
    refine e_condT ?_
    have step : ∀ (q : Option Addr × Nat) (ps ar' : List It), ps.map er = pairs (rs.map er) → (∀ y ∈ ps, y ∈ ar') → (∀ y ∈ ar, y ∈ ar') → Ent W (Sl 2 95 q.1 q.2 ps.length (ps.flatMap ic) :: Arena ar' :: Sl 2 95 qa qc xs.length (xs.flatMap ic) :: Sl 1 3 (some ⟨go, 0, none⟩) freq.length freq.length (Ln freq.length fun _ => 0) :: A :: F) (opN Try.prog (sCall (fn 49) [.slice qa xs.length qc, .slice q.1 ps.length q.2]) noP fun x118 =>
           opN Try.prog (sBin .add 3 (.int .i64 ((j + 1 : Nat) : Int)) (.int .i64 1)) noP fun x78 =>
           next2 (fun m x y w => sat W ((ex fun st : ((Option Addr × Nat) × Nat) × (List It × List It) => all [pu (m + st.1.2 = L - 1 ∧ y = .int .i64 (st.1.2 + 1 : Nat) ∧ x = .slice st.1.1.1 st.2.1.length st.1.1.2 ∧ st.2.1.map er = rows cs st.1.2 ∧ (∀ y ∈ st.2.1, y ∈ st.2.2) ∧ (∀ y ∈ xs, y ∈ st.2.2) ∧ (st.1.2 = 0 → st.1.1 = (qa, qc) ∧ st.2.1 = xs)), (if st.1.2 = 0 then pu True else Sl 2 95 st.1.1.1 st.1.1.2 st.2.1.length (st.2.1.flatMap ic)), Arena st.2.2]) :: Sl 2 95 qa qc xs.length (xs.flatMap ic) :: Sl 1 3 (some ⟨go, 0, none⟩) freq.length freq.length (Ln freq.length fun _ => 0) :: A :: F) w) m2 x118 x78) := by
      intro q ps ar' hps hpa haa
      obtain ⟨pa, pc⟩ := q
      (try dsimp only)
      have hpl : ps.length ≤ rs.length := by
        have e1 : ps.length = (pairs (rs.map er)).length := by rw [← hps, List.length_map]
        have e2 : ∀ n, ∀ l : List E, l.length ≤ n → (pairs l).length ≤ l.length := by
          intro n
          induction n with
          | zero =>
            intro l hl
            have hl0 : l = [] := List.eq_nil_of_length_eq_zero (by omega)
            subst hl0
            simp [pairs]
          | succ n ih =>
            intro l hl
            match l, hl with
            | [], _ => simp [pairs]
            | [x], _ => simp [pairs]
            | x :: y :: r, hl => have := ih r (by simp at hl; omega); simp [pairs]; omega
        have := e2 _ (rs.map er) (Nat.le_refl _)
        rw [List.length_map] at this
        omega
      refine e_slfacts .here fun g1 g2 g3 g4 => ?_
      have rdp : RdL W (Sl 2 95 pa pc ps.length (ps.flatMap ic)) pa ps := rd_slG g1 g4
      refine e_call (rmerged rdc rdp f2 g2 (by omega) (by omega)) (.cons (.there (.there .here)) (.cons .here .nil)) fun q3 => ?_
      obtain ⟨ma, mc⟩ := q3
      (try simp only [List.cons_append, List.nil_append, -eq_self])
      (try dsimp only)
      refine e_opN (v_add (by omega) (by omega)) Imp.nil ?_
      have e1 : xs.length + ps.length = (mrg It.n xs ps).length := by rw [mrg_len]
      rw [e1]
      refine e_next2 (m2 - 1) (by omega) (.ex (((ma, mc), j + 1), (mrg It.n xs ps, ar')) (.all ?_))
      (try simp only [List.cons_append, List.nil_append, -eq_self])
      (try dsimp only)
      refine .pu ⟨by omega, rfl, rfl, ?_, fun y hy => ?_, fun y hy => haa y (hca y hy), fun c => by omega⟩ ?_
      · rw [mrg_map It.n Prod.fst er (fun _ => rfl), hxe, hps, hrs]; rfl
      · rcases mrg_mem It.n xs ps hy with c | c
        · exact haa y (hca y c)
        · exact hpa y c
      · rw [if_neg (by omega)]
        (repeat (first | exact Imp.refl | exact Imp.nil | (apply Imp.pick; (focus ((repeat constructor); done))) | refine Imp.drop ?_))
    by_cases c0 : j = 0
    · rw [if_pos c0]
      obtain ⟨e1, e2⟩ := hj0 c0
      injection e1 with e1 e3
      subst e1; subst e3; subst e2
      refine e_imp (M := Sl 2 95 ra rc rs.length (rs.flatMap ic) :: Arena ar :: Sl 1 3 (some ⟨go, 0, none⟩) freq.length freq.length (Ln freq.length fun _ => 0) :: A :: F) (by (repeat (first | exact Imp.refl | exact Imp.nil | (apply Imp.pick; (focus ((repeat constructor); done))) | refine Imp.drop ?_))) ?_
      refine rpairsLoop rdc hra (by omega) hb1 fun q ps ar' k1 k2 k3 => ?_
      exact e_imp (by (repeat (first | exact Imp.refl | exact Imp.nil | (apply Imp.pick; (focus ((repeat constructor); done))) | refine Imp.drop ?_))) (step q ps ar' k1 k2 k3)
    · rw [if_neg c0]
      refine e_slfacts .here fun g1 g2 g3 g4 => ?_
      have rdr : RdL W (Sl 2 95 ra rc rs.length (rs.flatMap ic)) ra rs := rd_slG g1 g4
      refine rpairsLoop rdr hra (by omega) hb1 fun q ps ar' k1 k2 k3 => ?_
      exact e_imp (by (repeat (first | exact Imp.refl | exact Imp.nil | (apply Imp.pick; (focus ((repeat constructor); done))) | refine Imp.drop ?_))) (step q ps ar' k1 k2 k3)
  · have hjL : j = L - 1 := by omega
    subst hjL
    refine e_condF ?_
    by_cases hk0 : cs.length = 0
    · have hh : (Ln freq.length fun _ => 0) = Ln freq.length (hist cs L) := by
        refine Ln_congr fun s _ => ?_
        unfold hist
        rw [hk0]; rfl
      rw [hh]
      refine e_loop1 (fun m y => pu (y = .int .i64 0) :: Sl 1 3 (some ⟨go, 0, none⟩) freq.length freq.length (Ln freq.length (hist cs L)) :: A :: F) 0 ?_ ?_
      · refine .pu rfl ?_
        (repeat (first | exact Imp.refl | exact Imp.nil | (apply Imp.pick; (focus ((repeat constructor); done))) | refine Imp.drop ?_))
      intro m ds y
      refine e_pu Pick.here fun hy => ?_
      subst hy
      refine e_opN (v_mul (by omega) (by omega)) Imp.nil ?_
      refine e_opN (v_sub (by omega) (by omega)) Imp.nil ?_
      refine e_opN v_lss Imp.nil ?_
      rw [decide_eq_false (by omega)]
      refine e_condF ?_
      refine e_ret (some ⟨go, 0, none⟩, freq.length) rfl ?_
      (repeat (first | exact Imp.refl | exact Imp.nil | (apply Imp.pick; (focus ((repeat constructor); done))) | refine Imp.drop ?_))
    have hlast : 2 * cs.length - 2 ≤ (rows cs (L - 1)).length ∧ ∀ e ∈ rows cs (L - 1), ∀ s ∈ e.2, 0 ≤ s ∧ s < (freq.length : Int) := by
      refine ⟨PM.rows_enough (by omega) (by rw [show L - 1 + 1 = L by omega]; omega), fun e he s hs => (hrb (L - 1) e he).2.2.2.2 s hs⟩
    have hb2 : ∀ y ∈ rs, y.w.length ≤ 1073741824 ∧ ∀ s ∈ y.w, 0 ≤ s ∧ s < (freq.length : Int) := fun y hy => ⟨(hb1 y hy).2.2.2, hlast.2 (er y) (hmem y hy)⟩
    have fin : Ent W (Sl 1 3 (some ⟨go, 0, none⟩) freq.length freq.length (Ln freq.length fun s => (cnt (((rs.map er).take (2 * cs.length - 2)).flatMap fun e => e.2) s : Int)) :: A :: F) (fun w => ∃ x : Option Addr × Nat, (.tuple #[.slice (some ⟨go, 0, none⟩) freq.length freq.length, .int .i64 0] : Value) = .tuple #[.slice x.1 freq.length x.2, .int .i64 0] ∧ sat W ([Sl 1 3 x.1 x.2 freq.length (Ln freq.length (hist cs L)), A] ++ F) w) := by
      refine e_ret (some ⟨go, 0, none⟩, freq.length) rfl ?_
      rw [hrs]
      exact .refl
    by_cases c0 : L - 1 = 0
    · rw [if_pos c0]
      obtain ⟨e1, e2⟩ := hj0 c0
      injection e1 with e1 e3
      subst e1; subst e3; subst e2
      refine e_imp (M := Sl 1 3 (some ⟨go, 0, none⟩) freq.length freq.length (Ln freq.length fun _ => 0) :: Sl 2 95 ra rc rs.length (rs.flatMap ic) :: Arena ar :: A :: F) (by (repeat (first | exact Imp.refl | exact Imp.nil | (apply Imp.pick; (focus ((repeat constructor); done))) | refine Imp.drop ?_))) ?_
      refine rhistLoop rdc hra (by omega) ⟨by omega, by omega⟩ (by omega) hb2 ?_
      exact fin
    · rw [if_neg c0]
      refine e_slfacts .here fun g1 g2 g3 g4 => ?_
      have rdr : RdL W (Sl 2 95 ra rc rs.length (rs.flatMap ic)) ra rs := rd_slG g1 g4
      refine e_imp (M := Sl 1 3 (some ⟨go, 0, none⟩) freq.length freq.length (Ln freq.length fun _ => 0) :: Sl 2 95 ra rc rs.length (rs.flatMap ic) :: Arena ar :: A :: F) (by (repeat (first | exact Imp.refl | exact Imp.nil | (apply Imp.pick; (focus ((repeat constructor); done))) | refine Imp.drop ?_))) ?_
      refine rhistLoop rdr hra (by omega) ⟨by omega, by omega⟩ (by omega) hb2 ?_
      exact fin
end Go.Proofs.Ytehfblkpbadikaa.HF
