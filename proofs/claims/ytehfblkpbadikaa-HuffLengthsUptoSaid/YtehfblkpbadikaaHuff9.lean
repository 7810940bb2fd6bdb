/- The lengths of few frequencies, as the rows give them. Conditions: what lengths_ names. -/
import Derived.Test.YtehfblkpbadikaaHuff8
set_option linter.unusedVariables false
set_option linter.unusedSimpArgs false
namespace Go.Proofs.Ytehfblkpbadikaa.HF
open Go Go.Proofs Go.RowKit Go.Proofs.Ytehfblkpbadikaa.Sh Go.Proofs.Ytehfblkpbadikaa.Sl Go.Proofs.Ytehfblkpbadikaa.T Go.Proofs.Ytehfblkpbadikaa.HM
def coinsF : Int → List Int → List E
  | _, [] => []
  | s, x :: l => if 0 < x then (x, [s]) :: coinsF (s + 1) l else coinsF (s + 1) l
theorem coinsF_snoc (x : Int) : ∀ (s : Int) (l : List Int), coinsF s (l ++ [x]) = coinsF s l ++ if 0 < x then [(x, [s + l.length])] else []
  | s, [] => by simp [coinsF]
  | s, y :: l => by
    have ih := coinsF_snoc x (s + 1) l
    have e : s + 1 + (l.length : Int) = s + ((l.length + 1 : Nat) : Int) := by push_cast; omega
    rw [e] at ih
    simp only [List.cons_append, coinsF, ih, List.length_cons]
    split <;> simp
theorem mrg_len {α : Type} (key : α → Int) : ∀ us bs : List α, (mrg key us bs).length = us.length + bs.length
  | [], bs => by simp [mrg]
  | a :: us, bs => by
    have ih := mrg_len key us (bs.dropWhile fun b => decide (key b < key a))
    have h : bs.length = (bs.takeWhile fun b => decide (key b < key a)).length + (bs.dropWhile fun b => decide (key b < key a)).length := by
      rw [← List.length_append, List.takeWhile_append_dropWhile]
    simp only [mrg, List.length_append, List.length_cons, ih]
    omega
/-- how often a symbol stands in the first items -/
def hist (cs : List E) (L : Nat) (s : Nat) : Int := (cnt (((rows cs (L - 1)).take (2 * cs.length - 2)).flatMap fun e => e.2) s : Int)
theorem lengths_ {W : World} {a : Option Addr} {cap : Nat} {freq : List Int} {A : HP} {L : Nat} {cs : List E} (hr : RdB W A a freq.length (freq.map I)) (hf : ∀ x ∈ freq, 0 ≤ x ∧ x ≤ 1099511627776) (hl : freq.length ≤ 320) (h1 : 1 ≤ L) (h15 : L ≤ 15)
    (hcs : cs = isort Prod.fst (coinsF 0 freq)) (hk2 : 2 ≤ cs.length) (hk20 : cs.length < 20) (hkL : cs.length ≤ 2 ^ L)
    (hrows : ∀ j, j < L → (rows cs j).length ≤ 1073741824 ∧ ∀ e ∈ rows cs j, 0 ≤ e.1 ∧ e.1 ≤ 1152921504606846976 ∧ 0 < e.2.length ∧ e.2.length ≤ 1073741824)
    (hlast : 2 * cs.length - 2 ≤ (rows cs (L - 1)).length ∧ ∀ e ∈ rows cs (L - 1), ∀ s ∈ e.2, 0 ≤ s ∧ s < (freq.length : Int)) :
    Cn Try.prog 15 [.slice a freq.length cap, .int .i64 (L : Int)] W [A] (fun q : Option Addr × Nat => .tuple #[.slice q.1 freq.length q.2, .int .i64 0]) (fun q => [Sl 1 3 q.1 q.2 freq.length (Ln freq.length (hist cs L)), A]) := by
  (refine S.huff_Lengths_cn fun F => ?_; unfold S.huff_Lengths; simp only [List.cons_append, List.nil_append])
  (((with_reducible refine e_opN v_len Imp.nil ?_)))
  refine e_opN v_gtr Imp.nil ?_
  rw [decide_eq_false (by omega)]
  ((with_reducible refine e_gdT ?_)); ((with_reducible refine e_gdT ?_))
  refine e_opN v_lss Imp.nil ?_
  rw [decide_eq_false (by omega)]
  (((with_reducible refine e_opN v_pickF Imp.nil ?_))); ((with_reducible refine e_gdT ?_)); ((with_reducible refine e_gdT ?_))
  refine e_opN v_gtr Imp.nil ?_
  rw [decide_eq_false (by omega)]
  (((with_reducible refine e_opN v_pickF Imp.nil ?_))); ((with_reducible refine e_condF ?_)); (((with_reducible refine e_opN v_len Imp.nil ?_)))
  refine e_loop2 (fun m x y => [ex fun q : Option Addr × Nat => ex fun xs : List It => all [pu (∃ i : Nat, m + i = freq.length ∧ y = .int .i64 (i : Int) ∧ x = .slice q.1 xs.length q.2 ∧ xs.map er = coinsF 0 (freq.take i) ∧ xs.length ≤ i), Sl 2 86 q.1 q.2 xs.length (xs.flatMap ic), Arena xs, A]] ++ F) freq.length ?_ ?_
  · refine .ex (none, 0) (.ex [] (.all ?_))
    (try simp only [List.cons_append, List.nil_append, -eq_self])
    exact .pu ⟨0, by omega, rfl, rfl, rfl, Nat.le_refl _⟩ (imp_nil (imp_ar0 .refl))
  intro m ds x y
  (try simp only [List.cons_append, List.nil_append, -eq_self])
  refine e_ex Pick.here fun q => e_ex Pick.here fun xs => e_all Pick.here ?_
  obtain ⟨qa, qc⟩ := q
  (try simp only [List.cons_append, List.nil_append, -eq_self])
  refine e_pu Pick.here fun hi => ?_
  obtain ⟨i, hmi, rfl, rfl, hxs, hxl⟩ := hi
  (try dsimp only)
  (refine e_ask v_lss Imp.nil (fun h => ?_) (fun h => ?_))
  · have hil : i < freq.length := by omega
    obtain ⟨ga, oa, rfl, _⟩ := hr.at_ (by omega)
    have hfi := hf freq[i] (List.getElem_mem hil)
    have hsn : coinsF 0 (freq.take (i + 1)) = coinsF 0 (freq.take i) ++ if 0 < freq[i] then [(freq[i], [(i : Int)])] else [] := by
      rw [List.take_succ_eq_append_getElem hil, coinsF_snoc, List.length_take, Nat.min_eq_left (by omega), Int.zero_add]
    refine e_condT ?_
    refine e_opN (v_ia1 i (by rfl) hil) Imp.nil ?_
    refine e_opN (v_ldRd hr (I_get hil)) (.pick (by (repeat constructor)) .nil) ?_
    refine e_opN v_lss Imp.nil ?_
    rw [decide_eq_false (by omega)]
    ((with_reducible refine e_gdT ?_)); ((with_reducible refine e_gdT ?_))
    refine e_opN v_gtr Imp.nil ?_
    rw [decide_eq_false (by omega)]
    (((with_reducible refine e_opN v_pickF Imp.nil ?_))); ((with_reducible refine e_condF ?_))
    (refine e_ask v_gtr Imp.nil (fun h => ?_) (fun h => ?_))
    · refine e_condT ?_
      refine e_bsl1 fun g => ?_
      refine e_own (s := 1) (n := 1) (cs := [.int .i64 (i : Int)]) .here (by rfl) (by unfold maxLen; omega) ?_
      refine e_ar (x := ⟨freq[i], g, 1, [(i : Int)]⟩) rfl .here (.there .here) ?_
      (((with_reducible refine e_opN v_rv Imp.nil ?_)))
      refine e_bslS (s := 2) (vs := [av ⟨freq[i], g, 1, [(i : Int)]⟩]) rfl (by omega) rfl (by intro z hz; simp at hz; subst hz; rfl) (by omega) fun g4 => ?_
      refine e_app (m := 1) (news := ic ⟨freq[i], g, 1, [(i : Int)]⟩) (by (repeat constructor)) (src_pt (s := 2) (e' := 86) (by kernel_rfl) .here (by rfl) (ic_one _)) (by omega) (by omega) fun a' c' => ?_
      (((with_reducible refine e_opN (v_add ?h1 ?h2) Imp.nil ?_); (case h1 => omega); (case h2 => omega)))
      refine e_next2 (m - 1) (by omega) (.ex (a', c') (.ex (xs ++ [⟨freq[i], g, 1, [(i : Int)]⟩]) (.all ?_)))
      (try simp only [List.cons_append, List.nil_append, -eq_self])
      refine .pu ⟨i + 1, by omega, by norm_cast, by rw [List.length_append]; rfl, by rw [hsn, if_pos h, List.map_append, hxs]; rfl, by simp; omega⟩ ?_
      rw [List.flatMap_append, List.length_append, List.length_singleton, List.flatMap_singleton]
      refine .pick (by (repeat constructor)) (.convL (A := Arena (⟨freq[i], g, 1, [(i : Int)]⟩ :: xs)) (B := Arena (xs ++ [⟨freq[i], g, 1, [(i : Int)]⟩])) (by (repeat constructor)) (fun f hf y hy => hf y (by simp at hy ⊢; rcases hy with c | c; exact .inr c; exact .inl c)) ?_)
      (repeat (first | exact Imp.refl | exact Imp.nil | (apply Imp.pick; (focus ((repeat constructor); done))) | refine Imp.drop ?_))
    · refine e_condF ?_
      (((with_reducible refine e_opN (v_add ?h1 ?h2) Imp.nil ?_); (case h1 => omega); (case h2 => omega)))
      refine e_next2 (m - 1) (by omega) (.ex (qa, qc) (.ex xs (.all ?_)))
      (try simp only [List.cons_append, List.nil_append, -eq_self])
      refine .pu ⟨i + 1, by omega, by norm_cast, rfl, by rw [hsn, if_neg h, List.append_nil, hxs], by omega⟩ ?_
      (repeat (first | exact Imp.refl | exact Imp.nil | (apply Imp.pick; (focus ((repeat constructor); done))) | refine Imp.drop ?_))
  · have hie : i = freq.length := by omega
    subst hie
    rw [List.take_length] at hxs
    have hcx : cs.length = xs.length := by rw [hcs, length_isort, ← hxs, List.length_map]
    obtain ⟨ci, hci⟩ : ∃ ci, ci = isort It.n xs := ⟨_, rfl⟩
    have hcil : ci.length = xs.length := by rw [hci, length_isort]
    have hce : ci.map er = cs := by rw [hci, isort_map It.n Prod.fst er (fun _ => rfl), hxs, hcs]
    have hcm : ∀ y ∈ ci, y ∈ xs := fun y hy => by rw [hci] at hy; exact mem_isort It.n xs y hy
    ((with_reducible refine e_condF ?_)); (((with_reducible refine e_opN v_len Imp.nil ?_)))
    refine e_opN v_conv Imp.nil ?_
    rw [wrapu64' (by omega) (by omega)]
    refine e_opN (v_shl (by omega)) Imp.nil ?_
    rw [shl64 (by omega) (by omega) (by omega)]
    refine e_opN v_gtr Imp.nil ?_
    rw [decide_eq_false (by
      obtain ⟨Z, hZ⟩ : ∃ Z : Nat, Z = 2 ^ L := ⟨_, rfl⟩
      rw [← hZ] at hkL ⊢
      omega)]
    ((with_reducible refine e_condF ?_)); (((with_reducible refine e_opN v_len Imp.nil ?_)))
    refine e_mksl freq.length freq.length (by rfl) (by rfl) (by omega) (by omega) (by unfold maxLen; omega) fun go => ?_
    rw [Ln_zero]
    refine e_opN v_eql Imp.nil ?_
    rw [decide_eq_false (by omega)]
    ((with_reducible refine e_condF ?_))
    (refine' e_call (sorted (by omega)) ?hp fun _ => ?_; (case hp => (repeat (first | exact Picks.nil | (apply Picks.cons; (focus (repeat constructor)))))); (try simp only [List.cons_append, List.nil_append, Bool.not_true, Bool.not_false]))
    rw [← hci]
    (((with_reducible refine e_opN (v_sub ?h1 ?h2) Imp.nil ?_); (case h1 => omega); (case h2 => omega)))
    refine e_slfacts .here fun f1 f2 f3 f4 => ?_
    have rdc : RdL W (Sl 2 86 qa qc xs.length (ci.flatMap ic)) qa ci := by
      unfold RdL
      rw [hcil]
      exact rd_slS (P := Try.prog) (by rw [ics_len, hcil]) f4
    refine e_loop2 (fun m x y => [ex fun j : Nat => ex fun q : Option Addr × Nat => ex fun rs : List It => ex fun ar : List It => all [pu (m + j = L - 1 ∧ y = .int .i64 (j : Int) ∧ x = .slice q.1 rs.length q.2 ∧ rs.map er = rows cs j ∧ (∀ y ∈ rs, y ∈ ar) ∧ (∀ y ∈ ci, y ∈ ar) ∧ (j = 0 → q = (qa, qc) ∧ rs = ci)), (if j = 0 then pu True else Sl 2 86 q.1 q.2 rs.length (rs.flatMap ic)), Arena ar, Sl 2 86 qa qc xs.length (ci.flatMap ic), Sl 1 3 (some ⟨go, 0, none⟩) freq.length freq.length (Ln freq.length fun _ => 0), A]] ++ F) (L - 1) ?_ ?_
    · refine .ex 0 (.ex (qa, qc) (.ex ci (.ex xs (.all ?_))))
      (try simp only [List.cons_append, List.nil_append, -eq_self])
      refine .pu ⟨by omega, rfl, by rw [hcil], hce, hcm, hcm, fun _ => ⟨rfl, rfl⟩⟩ ?_
      rw [if_pos rfl]
      refine .pu trivial ?_
      exact .pick (by (repeat constructor)) (.pick (by (repeat constructor)) (.pick (by (repeat constructor)) (.pick (by (repeat constructor)) .refl)))
    intro m2 ds x y
    (try simp only [List.cons_append, List.nil_append, -eq_self])
    refine e_ex Pick.here fun j => e_ex Pick.here fun q => e_ex Pick.here fun rs => e_ex Pick.here fun ar => e_all Pick.here ?_
    obtain ⟨ra, rc⟩ := q
    (try simp only [List.cons_append, List.nil_append, -eq_self])
    refine e_pu Pick.here fun hj => ?_
    obtain ⟨hmj, rfl, rfl, hrs, hra, hca, hj0⟩ := hj
    (try dsimp only)
    have hrl : rs.length = (rows cs j).length := by rw [← hrs, List.length_map]
    have hmem : ∀ y ∈ rs, er y ∈ rows cs j := fun y hy => by rw [← hrs]; exact List.mem_map.2 ⟨y, hy, rfl⟩
    have hbj := hrows j (by omega)
    have hb1 : ∀ y ∈ rs, 0 ≤ y.n ∧ y.n ≤ 1152921504606846976 ∧ 0 < y.w.length ∧ y.w.length ≤ 1073741824 := fun y hy => hbj.2 (er y) (hmem y hy)
    (refine e_ask v_lss Imp.nil (fun h => ?_) (fun h => ?_))
    · have hjL : j < L - 1 := by omega
      refine e_condT ?_
      have step : ∀ (q : Option Addr × Nat) (ps ar' : List It), ps.map er = pairs (rs.map er) → (∀ y ∈ ps, y ∈ ar') → (∀ y ∈ ar, y ∈ ar') → Ent W (Sl 2 86 q.1 q.2 ps.length (ps.flatMap ic) :: Arena ar' :: Sl 2 86 qa qc xs.length (ci.flatMap ic) :: Sl 1 3 (some ⟨go, 0, none⟩) freq.length freq.length (Ln freq.length fun _ => 0) :: A :: F) (opN Try.prog (sCall (fn 47) [.slice qa xs.length qc, .slice q.1 ps.length q.2]) noP fun x117 =>
           opN Try.prog (sBin .add 3 (.int .i64 (j : Int)) (.int .i64 1)) noP fun x118 =>
           next2 (fun m x y w => sat W ([ex fun j : Nat => ex fun q : Option Addr × Nat => ex fun rs : List It => ex fun ar : List It => all [pu (m + j = L - 1 ∧ y = .int .i64 (j : Int) ∧ x = .slice q.1 rs.length q.2 ∧ rs.map er = rows cs j ∧ (∀ y ∈ rs, y ∈ ar) ∧ (∀ y ∈ ci, y ∈ ar) ∧ (j = 0 → q = (qa, qc) ∧ rs = ci)), (if j = 0 then pu True else Sl 2 86 q.1 q.2 rs.length (rs.flatMap ic)), Arena ar, Sl 2 86 qa qc xs.length (ci.flatMap ic), Sl 1 3 (some ⟨go, 0, none⟩) freq.length freq.length (Ln freq.length fun _ => 0), A]] ++ F) w) m2 x117 x118) := by
        intro q ps ar' hps hpa haa
        obtain ⟨pa, pc⟩ := q
        (try dsimp only)
        have hpl : ps.length ≤ 1073741824 := by
          have e1 : ps.length = (pairs (rs.map er)).length := by rw [← hps, List.length_map]
          have e2 : ∀ n, ∀ l : List E, l.length ≤ n → (pairs l).length ≤ l.length := by
            intro n
            induction n with
            | zero =>
              intro l hl
              have hl0 : l = [] := List.eq_nil_of_length_eq_zero (by omega)
              subst hl0
              simp [pairs]
            | succ n ih =>
              intro l hl
              match l, hl with
              | [], _ => simp [pairs]
              | [x], _ => simp [pairs]
              | x :: y :: r, hl => have := ih r (by simp at hl; omega); simp [pairs]; omega
          have := e2 _ (rs.map er) (Nat.le_refl _)
          rw [List.length_map] at this
          omega
        refine e_slfacts .here fun g1 g2 g3 g4 => ?_
        have rdp : RdL W (Sl 2 86 pa pc ps.length (ps.flatMap ic)) pa ps := rd_slS (P := Try.prog) (by rw [ics_len]) g4
        rw [← hcil]
        rw [← hcil] at rdc f2
        (refine' e_call (mergeC rdc rdp f2 g2 (by omega) hpl) ?hp fun _ => ?_; (case hp => (repeat (first | exact Picks.nil | (apply Picks.cons; (focus (repeat constructor)))))); (try simp only [List.cons_append, List.nil_append, Bool.not_true, Bool.not_false]))
        rename_i q3
        obtain ⟨ma, mc⟩ := q3
        (try dsimp only)
        (((with_reducible refine e_opN (v_add ?h1 ?h2) Imp.nil ?_); (case h1 => omega); (case h2 => omega)))
        refine e_next2 (m2 - 1) (by omega) (.ex (j + 1) (.ex (ma, mc) (.ex (mrg It.n ci ps) (.ex ar' (.all ?_)))))
        (try simp only [List.cons_append, List.nil_append, -eq_self])
        refine .pu ⟨by omega, by norm_cast, by rw [mrg_len], ?_, fun y hy => ?_, fun y hy => haa y (hca y hy), fun c => by omega⟩ ?_
        · rw [mrg_map It.n Prod.fst er (fun _ => rfl), hce, hps, hrs]; rfl
        · rcases mrg_mem It.n ci ps hy with c | c
          · exact haa y (hca y c)
          · exact hpa y c
        · rw [if_neg (by omega), mrg_len]
          exact .pick (by (repeat constructor)) (.pick (by (repeat constructor)) (.pick (by (repeat constructor)) (.pick (by (repeat constructor)) (.pick (by (repeat constructor)) (by (repeat (first | exact Imp.refl | exact Imp.nil | (apply Imp.pick; (focus ((repeat constructor); done))) | refine Imp.drop ?_)))))))
      by_cases c0 : j = 0
      · rw [if_pos c0]
        obtain ⟨e1, e2⟩ := hj0 c0
        injection e1 with e1 e3
        subst e1; subst e3
        refine e_imp (M := Sl 2 86 ra rc xs.length (ci.flatMap ic) :: Arena ar :: Sl 1 3 (some ⟨go, 0, none⟩) freq.length freq.length (Ln freq.length fun _ => 0) :: A :: F) (by (repeat (first | exact Imp.refl | exact Imp.nil | (apply Imp.pick; (focus ((repeat constructor); done))) | refine Imp.drop ?_))) ?_
        rw [e2]
        rw [e2] at step hra hb1
        refine pairsLoop rdc hra (by omega) hb1 fun q ps ar' k1 k2 k3 => ?_
        exact e_imp (by (repeat (first | exact Imp.refl | exact Imp.nil | (apply Imp.pick; (focus ((repeat constructor); done))) | refine Imp.drop ?_))) (step q ps ar' k1 k2 k3)
      · rw [if_neg c0]
        refine e_slfacts .here fun g1 g2 g3 g4 => ?_
        have rdr : RdL W (Sl 2 86 ra rc rs.length (rs.flatMap ic)) ra rs := rd_slS (P := Try.prog) (by rw [ics_len]) g4
        refine pairsLoop rdr hra (by omega) hb1 fun q ps ar' k1 k2 k3 => ?_
        exact e_imp (by (repeat (first | exact Imp.refl | exact Imp.nil | (apply Imp.pick; (focus ((repeat constructor); done))) | refine Imp.drop ?_))) (step q ps ar' k1 k2 k3)
    · have hjL : j = L - 1 := by omega
      subst hjL
      refine e_condF ?_
      have hb2 : ∀ y ∈ rs, y.w.length ≤ 1073741824 ∧ ∀ s ∈ y.w, 0 ≤ s ∧ s < (freq.length : Int) := fun y hy => ⟨(hb1 y hy).2.2.2, hlast.2 (er y) (hmem y hy)⟩
      have fin : Ent W (Sl 1 3 (some ⟨go, 0, none⟩) freq.length freq.length (Ln freq.length fun s => (cnt (((rs.map er).take (2 * xs.length - 2)).flatMap fun e => e.2) s : Int)) :: A :: F) (fun w => ∃ x : Option Addr × Nat, (.tuple #[.slice (some ⟨go, 0, none⟩) freq.length freq.length, .int .i64 0] : Value) = .tuple #[.slice x.1 freq.length x.2, .int .i64 0] ∧ sat W ([Sl 1 3 x.1 x.2 freq.length (Ln freq.length (hist cs L)), A] ++ F) w) := by
        refine e_ret (some ⟨go, 0, none⟩, freq.length) rfl ?_
        rw [hrs, ← hcx]
        exact .refl
      by_cases c0 : L - 1 = 0
      · rw [if_pos c0]
        obtain ⟨e1, e2⟩ := hj0 c0
        injection e1 with e1 e3
        subst e1; subst e3
        refine e_imp (M := Sl 1 3 (some ⟨go, 0, none⟩) freq.length freq.length (Ln freq.length fun _ => 0) :: Sl 2 86 ra rc xs.length (ci.flatMap ic) :: Arena ar :: A :: F) (by (repeat (first | exact Imp.refl | exact Imp.nil | (apply Imp.pick; (focus ((repeat constructor); done))) | refine Imp.drop ?_))) ?_
        subst e2
        refine histLoop rdc hra (by omega) ⟨by omega, by omega⟩ (by omega) hb2 ?_
        exact fin
      · rw [if_neg c0]
        refine e_slfacts .here fun g1 g2 g3 g4 => ?_
        have rdr : RdL W (Sl 2 86 ra rc rs.length (rs.flatMap ic)) ra rs := rd_slS (P := Try.prog) (by rw [ics_len]) g4
        refine e_imp (M := Sl 1 3 (some ⟨go, 0, none⟩) freq.length freq.length (Ln freq.length fun _ => 0) :: Sl 2 86 ra rc rs.length (rs.flatMap ic) :: Arena ar :: A :: F) (by (repeat (first | exact Imp.refl | exact Imp.nil | (apply Imp.pick; (focus ((repeat constructor); done))) | refine Imp.drop ?_))) ?_
        refine histLoop rdr hra (by omega) ⟨by omega, by omega⟩ (by omega) hb2 ?_
        exact fin
end Go.Proofs.Ytehfblkpbadikaa.HF
