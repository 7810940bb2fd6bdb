/- The document's pairs of a row's items; how often symbols stand in a row's beginning. No conditions but those that each names. -/
import Derived.Test.YtehfblkpbadikaaHuffRm
set_option linter.unusedVariables false
set_option linter.unusedSimpArgs false
namespace Go.Proofs.Ytehfblkpbadikaa.HF
open Go Go.Proofs Go.RowKit Go.Proofs.Ytehfblkpbadikaa.Sh Go.Proofs.Ytehfblkpbadikaa.Sl Go.Proofs.Ytehfblkpbadikaa.T Go.Proofs.Ytehfblkpbadikaa.HM
theorem rpairsLoop {W : World} {A : HP} {F : List HP} {ra : Option Addr} {rc : Nat} {rs ar : List It} {K : Value → WP} (hA : RdL W A ra rs) (hm : ∀ y ∈ rs, y ∈ ar) (hl : rs.length ≤ 268435456)
    (hb : ∀ y ∈ rs, 0 ≤ y.n ∧ y.n ≤ 1152921504606846976 ∧ 0 < y.w.length ∧ y.w.length ≤ 1073741824)
    (hK : ∀ (q : Option Addr × Nat) (ps ar' : List It), ps.map er = pairs (rs.map er) → (∀ y ∈ ps, y ∈ ar') → (∀ y ∈ ar, y ∈ ar') → Ent W (Sl 2 95 q.1 q.2 ps.length (ps.flatMap ic) :: Arena ar' :: A :: F) (K (.slice q.1 ps.length q.2))) :
    Ent W (A :: Arena ar :: F) (loop2 (fun I3 m3 _ y12 y13 =>
          opN Try.prog (sBin .add 3 y13 (.int .i64 1)) noP fun x80 =>
          opN Try.prog (sLen #[92] 3 [(.slice ra rs.length rc)]) noP fun x82 =>
          opN Try.prog (sBin .lss 3 x80 x82) noP fun x83 =>
          condS x83
          (drS (stD Try.prog (sIA 92 (.slice ra rs.length rc) y13) fun D3 x89 =>
            stD Try.prog (sFA 95 x89 0) fun D4 x90 =>
            stD Try.prog (sLoad 3 x90) fun D5 x91 =>
            stD Try.prog (sBin .add 3 y13 (.int .i64 1)) fun D8 x94 =>
            stD Try.prog (sIA 92 (.slice ra rs.length rc) x94) fun D9 x95 =>
            stD Try.prog (sFA 95 x95 0) fun D10 x96 =>
            stD Try.prog (sLoad 3 x96) fun D11 x97 =>
            stD Try.prog (sBin .add 3 x91 x97) fun D12 x98 =>
            stD Try.prog (sIA 92 (.slice ra rs.length rc) y13) fun D16 x102 =>
            stD Try.prog (sFA 95 x102 1) fun D17 x103 =>
            stD Try.prog (sLoad 22 x103) fun D18 x104 =>
            stD Try.prog (sBin .add 3 y13 (.int .i64 1)) fun D22 x108 =>
            stD Try.prog (sIA 92 (.slice ra rs.length rc) x108) fun D23 x109 =>
            stD Try.prog (sFA 95 x109 1) fun D24 x110 =>
            stD Try.prog (sLoad 22 x110) fun D25 x111 =>
            opN Try.prog (sBuildSl 22 0 []) noP fun x99 =>
            (fun w => D25 w ∧ (fun w => D24 w ∧ (fun w => D23 w ∧ (fun w => D22 w ∧ (fun w => D18 w ∧ (fun w => D17 w ∧ (fun w => D16 w ∧ (fun w => D12 w ∧ (fun w => D11 w ∧ (fun w => D10 w ∧ (fun w => D9 w ∧ (fun w => D8 w ∧ (fun w => D5 w ∧ (fun w => D4 w ∧ (fun w => D3 w ∧ (opN Try.prog (sApp #[22, 22] 22 [x99, x104]) noP fun x105 =>
                      (fun w => D25 w ∧ (fun w => D24 w ∧ (fun w => D23 w ∧ (fun w => D22 w ∧ (fun w => D12 w ∧ (fun w => D11 w ∧ (fun w => D10 w ∧ (fun w => D9 w ∧ (fun w => D8 w ∧ (fun w => D5 w ∧ (fun w => D4 w ∧ (fun w => D3 w ∧ (opN Try.prog (sApp #[22, 22] 22 [x105, x111]) noP fun x112 =>
                      (fun w => D12 w ∧ (fun w => D11 w ∧ (fun w => D10 w ∧ (fun w => D9 w ∧ (fun w => D8 w ∧ (fun w => D5 w ∧ (fun w => D4 w ∧ (fun w => D3 w ∧ (stS Try.prog (sBuild 95 [(0, x98), (1, x112)]) fun x113 =>
                      opN Try.prog (sBuildSl 92 1 [(0, x113)]) noP fun x114 =>
                      opN Try.prog (sApp #[92, 92] 92 [y12, x114]) noP fun x115 =>
                      opN Try.prog (sBin .add 3 y13 (.int .i64 2)) noP fun x85 =>
                      next2 I3 m3 x115 x85) w) w) w) w) w) w) w) w)) w) w) w) w) w) w) w) w) w) w) w) w)) w) w) w) w) w) w) w) w) w) w) w) w) w) w) w)))
          (K y12)) (.slice none 0 0) (.int .i64 0)) := by
  refine e_loop2 (fun m x y => (ex fun q : Option Addr × Nat => ex fun ps : List It => ex fun ar' : List It => all [pu (∃ i : Nat, m + i = rs.length ∧ y = .int .i64 (i : Int) ∧ x = .slice q.1 ps.length q.2 ∧ ps.map er ++ pairs ((rs.map er).drop i) = pairs (rs.map er) ∧ (∀ y ∈ ps, y ∈ ar') ∧ (∀ y ∈ ar, y ∈ ar') ∧ ps.length ≤ i), Sl 2 95 q.1 q.2 ps.length (ps.flatMap ic), Arena ar', A]) :: F) rs.length ?_ ?_
  · refine .ex (none, 0) (.ex [] (.ex ar (.all ?_)))
    (try simp only [List.cons_append, List.nil_append, -eq_self])
    refine .pu ⟨0, by omega, rfl, rfl, rfl, (fun y hy => (by cases hy)), (fun y hy => hy), Nat.le_refl _⟩ (imp_nil ?_)
    (repeat (first | exact Imp.refl | exact Imp.nil | (apply Imp.pick; (focus ((repeat constructor); done))) | refine Imp.drop ?_))
  intro m ds x y
  refine e_ex Pick.here fun q => e_ex Pick.here fun ps => e_ex Pick.here fun ar' => e_all Pick.here ?_
  obtain ⟨qa, qc⟩ := q
  (try simp only [List.cons_append, List.nil_append, -eq_self])
  refine e_pu Pick.here fun hi => ?_
  obtain ⟨i, hmi, rfl, rfl, hps, hpa, haa, hpl⟩ := hi
  (try dsimp only)
  refine e_opN (v_add (by omega) (by omega)) Imp.nil ?_
  refine e_opN v_len Imp.nil ?_
  refine e_ask v_lss Imp.nil (fun h => ?_) (fun h => ?_)
  · have h1 : i + 1 < rs.length := by omega
    have h0 : i < rs.length := by omega
    obtain ⟨g, o, rfl, _⟩ := hA.at_ (by omega)
    obtain ⟨u, hu⟩ : ∃ u, u = rs[i] := ⟨_, rfl⟩
    obtain ⟨v, hv⟩ : ∃ v, v = rs[i + 1] := ⟨_, rfl⟩
    have n0 := v_itN hA h0
    have n1 := v_itN hA h1
    have w0 := v_itW hA h0
    have w1 := v_itW hA h1
    rw [← hu] at n0 w0
    rw [← hv] at n1 w1
    have hum : u ∈ rs := by rw [hu]; exact List.getElem_mem h0
    have hvm : v ∈ rs := by rw [hv]; exact List.getElem_mem h1
    have bu := hb u hum
    have bv := hb v hvm
    have ru := rd_ar (W := W) (haa u (hm u hum))
    have rv := rd_ar (W := W) (haa v (hm v hvm))
    refine e_condT ?_
    refine e_drS ?_
    refine e_stD (v_ia i (by rfl) h0) Imp.nil ?_
    refine e_stD v_fa Imp.nil ?_
    refine e_stD n0 (.pick (by (repeat constructor)) .nil) ?_
    refine e_stD (v_add (by omega) (by omega)) Imp.nil ?_
    refine e_stD (v_ia (i + 1) (by rfl) h1) Imp.nil ?_
    refine e_stD v_fa Imp.nil ?_
    refine e_stD n1 (.pick (by (repeat constructor)) .nil) ?_
    refine e_stD (v_add (by omega) (by omega)) Imp.nil ?_
    refine e_stD (v_ia i (by rfl) h0) Imp.nil ?_
    refine e_stD v_fa Imp.nil ?_
    refine e_stD w0 (.pick (by (repeat constructor)) .nil) ?_
    refine e_stD (v_add (by omega) (by omega)) Imp.nil ?_
    refine e_stD (v_ia (i + 1) (by rfl) h1) Imp.nil ?_
    refine e_stD v_fa Imp.nil ?_
    refine e_stD w1 (.pick (by (repeat constructor)) .nil) ?_
    refine e_bsl0 (s := 1) (e := 3) fun z => ?_
    iterate 15 refine e_obl (by (repeat (first | exact Imp.refl | exact Imp.nil | (apply Imp.pick; (focus ((repeat constructor); done))) | refine Imp.drop ?_))) ?_
    refine e_app (m := u.w.length) (news := u.w.map I) .here (src_rd (e' := 3) (by kernel_rfl) (.there (.there .here)) ru (by simp) (by intro z hz; obtain ⟨s, _, rfl⟩ := List.mem_map.1 hz; rfl)) (by omega) (by omega) fun b1 d1 => ?_
    iterate 12 refine e_obl (by (repeat (first | exact Imp.refl | exact Imp.nil | (apply Imp.pick; (focus ((repeat constructor); done))) | refine Imp.drop ?_))) ?_
    refine e_app (m := v.w.length) (news := v.w.map I) .here (src_rd (e' := 3) (by kernel_rfl) (.there (.there .here)) rv (by simp) (by intro z hz; obtain ⟨s, _, rfl⟩ := List.mem_map.1 hz; rfl)) (by omega) (by omega) fun b2 d2 => ?_
    rw [Nat.zero_add, List.nil_append, ← List.map_append, ← List.length_append]
    refine e_slsome (a := b2) .here (by rw [List.length_append]; omega) fun g3 hg3 => ?_
    subst hg3
    iterate 8 refine e_obl (by (repeat (first | exact Imp.refl | exact Imp.nil | (apply Imp.pick; (focus ((repeat constructor); done))) | refine Imp.drop ?_))) ?_
    refine e_ar (xs := ar') (x := ⟨u.n + v.n, g3, d2, u.w ++ v.w⟩) rfl .here (.there .here) ?_
    refine e_stS v_rv Imp.nil ?_
    refine e_bslS (s := 2) (vs := [av ⟨u.n + v.n, g3, d2, u.w ++ v.w⟩]) rfl (by omega) rfl (by intro z hz; simp at hz; subst hz; rfl) (by omega) fun g4 => ?_
    refine e_app (m := 1) (news := ic ⟨u.n + v.n, g3, d2, u.w ++ v.w⟩) (by (repeat constructor)) (src_pt (s := 2) (e' := 95) (by kernel_rfl) .here (by rfl) (ic_one _)) (by omega) (by omega) fun a' c' => ?_
    refine e_opN (v_add (by omega) (by omega)) Imp.nil ?_
    refine e_next2 (m - 2) (by omega) (.ex (a', c') (.ex (ps ++ [⟨u.n + v.n, g3, d2, u.w ++ v.w⟩]) (.ex (⟨u.n + v.n, g3, d2, u.w ++ v.w⟩ :: ar') (.all ?_))))
    (try simp only [List.cons_append, List.nil_append, -eq_self])
    refine .pu ⟨i + 2, by omega, by rfl, by rw [List.length_append]; rfl, ?_, ?_, fun y hy => List.mem_cons_of_mem _ (haa y hy), by simp; omega⟩ ?_
    · rw [← hps, pairs_drop (i := i) (by simpa using h1), List.map_append, List.append_assoc]
      simp [er, hu, hv]
    · intro y hy
      rcases List.mem_append.1 hy with c | c
      · exact List.mem_cons_of_mem _ (hpa y c)
      · rw [List.mem_singleton.1 c]; exact List.mem_cons_self
    · rw [List.flatMap_append, List.length_append, List.length_singleton, List.flatMap_singleton]
      (repeat (first | exact Imp.refl | exact Imp.nil | (apply Imp.pick; (focus ((repeat constructor); done))) | refine Imp.drop ?_))
  · refine e_condF ?_
    rw [pairs_end (by simp; omega), List.append_nil] at hps
    exact hK (qa, qc) ps ar' hps hpa haa
theorem rhistLoop {W : World} {A : HP} {F : List HP} {ra : Option Addr} {rc go len k : Nat} {rs ar : List It} {K : WP} (hA : RdL W A ra rs) (hm : ∀ y ∈ rs, y ∈ ar) (hl : 2 * k - 2 ≤ rs.length) (hk : 1 ≤ k ∧ k ≤ 1048576) (hlen : len ≤ 1048576)
    (hb : ∀ y ∈ rs, y.w.length ≤ 1073741824 ∧ ∀ s ∈ y.w, 0 ≤ s ∧ s < len)
    (hK : Ent W (Sl 1 3 (some ⟨go, 0, none⟩) len len (Ln len fun s => (cnt (((rs.map er).take (2 * k - 2)).flatMap fun e => e.2) s : Int)) :: F) K) :
    Ent W (Sl 1 3 (some ⟨go, 0, none⟩) len len (Ln len fun _ => 0) :: A :: Arena ar :: F) (loop1 (fun I4 m4 _ y14 =>
          opN Try.prog (sBin .mul 3 (.int .i64 2) (.int .i64 (k : Int))) noP fun x121 =>
          opN Try.prog (sBin .sub 3 x121 (.int .i64 2)) noP fun x122 =>
          opN Try.prog (sBin .lss 3 y14 x122) noP fun x123 =>
          condS x123
          (loop1 (fun I5 m5 _ y15 =>
            opN Try.prog (sIA 92 (.slice ra rs.length rc) y14) noP fun x129 =>
            opN Try.prog (sFA 95 x129 1) noP fun x130 =>
            opN Try.prog (sLoad 22 x130) noP fun x131 =>
            opN Try.prog (sLen #[22] 3 [x131]) noP fun x132 =>
            opN Try.prog (sBin .lss 3 y15 x132) noP fun x133 =>
            condS x133
            (opN Try.prog (sIA 92 (.slice ra rs.length rc) y14) noP fun x139 =>
             opN Try.prog (sFA 95 x139 1) noP fun x140 =>
             opN Try.prog (sLoad 22 x140) noP fun x141 =>
             opN Try.prog (sIA 22 x141 y15) noP fun x143 =>
             opN Try.prog (sLoad 3 x143) noP fun x144 =>
             opN Try.prog (sIA 22 (.slice (some ⟨go, 0, none⟩) len len) x144) noP fun x145 =>
             opN Try.prog (sLoad 3 x145) noP fun x146 =>
             opN Try.prog (sBin .add 3 x146 (.int .i64 1)) noP fun x147 =>
             opN Try.prog (sIA 22 (.slice (some ⟨go, 0, none⟩) len len) x144) noP fun x148 =>
             opN Try.prog (sStore 3 x148 x147) noP fun _ =>
             opN Try.prog (sBin .add 3 y15 (.int .i64 1)) noP fun x135 =>
             next1 I5 m5 x135)
            (opN Try.prog (sBin .add 3 y14 (.int .i64 1)) noP fun x125 =>
             next1 I4 m4 x125)) (.int .i64 0))
          K) (.int .i64 0)) := by
  obtain ⟨P, hP⟩ : ∃ P : Nat → List Int, P = fun i => ((rs.map er).take i).flatMap fun e => e.2 := ⟨_, rfl⟩
  have hPb : ∀ i, i ≤ 2097152 → (P i).length ≤ 1073741824 * i := by
    intro i hi
    rw [hP]
    clear hi
    induction i with
    | zero => simp
    | succ i ih =>
      by_cases c : i < rs.length
      · simp only [] at ih ⊢
        rw [List.take_succ_eq_append_getElem (by simpa using c), List.flatMap_append, List.length_append]
        have := (hb rs[i] (List.getElem_mem c)).1
        simp only [List.flatMap_singleton, List.getElem_map, er]
        omega
      · simp only [] at ih ⊢
        rw [List.take_of_length_le (by simp; omega)]
        rw [List.take_of_length_le (by simp; omega)] at ih
        omega
  refine e_loop1 (fun m y => (ex fun i : Nat => all [pu (m + i = 2 * k - 2 ∧ y = .int .i64 (i : Int)), Sl 1 3 (some ⟨go, 0, none⟩) len len (Ln len fun s => (cnt (P i) s : Int)), A, Arena ar]) :: F) (2 * k - 2) ?_ ?_
  · refine .ex 0 (.all ?_)
    (try simp only [List.cons_append, List.nil_append, -eq_self])
    refine .pu ⟨by omega, rfl⟩ ?_
    rw [show P 0 = [] by rw [hP]; rfl]
    exact .pick .here (by (repeat (first | exact Imp.refl | exact Imp.nil | (apply Imp.pick; (focus ((repeat constructor); done))) | refine Imp.drop ?_)))
  intro m ds y
  refine e_ex Pick.here fun i => e_all Pick.here ?_
  (try simp only [List.cons_append, List.nil_append, -eq_self])
  refine e_pu Pick.here fun hi => ?_
  obtain ⟨hmi, rfl⟩ := hi
  refine e_opN (v_mul (by omega) (by omega)) Imp.nil ?_
  refine e_opN (v_sub (by omega) (by omega)) Imp.nil ?_
  refine e_ask v_lss Imp.nil (fun h => ?_) (fun h => ?_)
  · have hik : i < rs.length := by omega
    obtain ⟨g, o, rfl, _⟩ := hA.at_ (by omega)
    have hmem : rs[i] ∈ rs := List.getElem_mem hik
    have w0 := v_itW hA hik
    have r0 := rd_ar (W := W) (hm _ hmem)
    have b0 := hb _ hmem
    have hP1 : P (i + 1) = P i ++ rs[i].w := by
      rw [hP]; simp only []
      rw [List.take_succ_eq_append_getElem (by simpa using hik), List.flatMap_append]; simp [er]
    obtain ⟨u, hu⟩ : ∃ u, u = rs[i] := ⟨_, rfl⟩
    rw [← hu] at w0 r0 b0 hP1
    refine e_condT ?_
    refine e_loop1 (fun m y => (ex fun j : Nat => all [pu (m + j = u.w.length ∧ y = .int .i64 (j : Int)), Sl 1 3 (some ⟨go, 0, none⟩) len len (Ln len fun s => (cnt (P i ++ u.w.take j) s : Int)), A, Arena ar]) :: F) u.w.length ?_ ?_
    · refine .ex 0 (.all ?_)
      (try simp only [List.cons_append, List.nil_append, -eq_self])
      refine .pu ⟨by omega, rfl⟩ ?_
      rw [List.take_zero, List.append_nil]
      (repeat (first | exact Imp.refl | exact Imp.nil | (apply Imp.pick; (focus ((repeat constructor); done))) | refine Imp.drop ?_))
    intro m2 ds y
    refine e_ex Pick.here fun j => e_all Pick.here ?_
    (try simp only [List.cons_append, List.nil_append, -eq_self])
    refine e_pu Pick.here fun hj => ?_
    obtain ⟨hmj, rfl⟩ := hj
    refine e_opN (v_ia i (by rfl) hik) Imp.nil ?_
    refine e_opN v_fa Imp.nil ?_
    refine e_opN w0 (.pick (by (repeat constructor)) .nil) ?_
    refine e_opN v_len Imp.nil ?_
    refine e_ask v_lss Imp.nil (fun h2 => ?_) (fun h2 => ?_)
    · have hjl : j < u.w.length := by omega
      obtain ⟨s0, s1⟩ := b0.2 u.w[j] (List.getElem_mem hjl)
      obtain ⟨s, hs⟩ := Int.eq_ofNat_of_zero_le s0
      have hsl : s < len := by omega
      have hc1 := cnt_le s (P i ++ u.w.take j)
      have hc2 := hPb i (by omega)
      rw [List.length_append, List.length_take] at hc1
      refine e_condT ?_
      refine e_opN (v_ia i (by rfl) hik) Imp.nil ?_
      refine e_opN v_fa Imp.nil ?_
      refine e_opN w0 (.pick (by (repeat constructor)) .nil) ?_
      refine e_opN (v_ia1 j (by rfl) hjl) Imp.nil ?_
      refine e_opN (v_ldRd r0 (I_get hjl)) (.pick (by (repeat constructor)) .nil) ?_
      refine e_opN (v_ia1 s hs hsl) Imp.nil ?_
      refine e_opN (v_ldSl (v := I (cnt (P i ++ u.w.take j) s)) (by rw [Nat.zero_add]; exact Ln_get hsl)) (.pick .here .nil) ?_
      have hi2 : 1073741824 * i ≤ 1073741824 * 2097152 := Nat.mul_le_mul_left _ (by omega)
      refine e_opN (v_add (by omega) (by omega)) Imp.nil ?_
      refine e_opN (v_ia1 s hs hsl) Imp.nil ?_
      refine e_stSl .here (by rw [Ln_len]; omega) ?_
      rw [show (Ln len fun s => (cnt (P i ++ u.w.take j) s : Int)).set (0 + s) (.int .i64 ((cnt (P i ++ u.w.take j) s : Int) + 1)) = Ln len (fun s => (cnt (P i ++ u.w.take (j + 1)) s : Int)) from by
        rw [Nat.zero_add]
        refine Ln_set.trans (Ln_congr fun z hz => ?_)
        rw [List.take_succ_eq_append_getElem hjl, ← List.append_assoc, cnt_append (l := P i ++ u.w.take j)]
        by_cases e : z = s
        · subst e; rw [if_pos rfl]; simp [cnt, hs]
        · have hne : ¬ (u.w[j] = (z : Int)) := by omega
          rw [if_neg e]; simp [cnt, hne]]
      refine e_opN (v_add (by omega) (by omega)) Imp.nil ?_
      refine e_next1 (m2 - 1) (by omega) (.ex (j + 1) (.all ?_))
      (try simp only [List.cons_append, List.nil_append, -eq_self])
      exact .pu ⟨by omega, rfl⟩ .refl
    · have : j = u.w.length := by omega
      subst this
      refine e_condF ?_
      refine e_opN (v_add (by omega) (by omega)) Imp.nil ?_
      rw [List.take_length, ← hP1]
      refine e_next1 (m - 1) (by omega) (.ex (i + 1) (.all ?_))
      (try simp only [List.cons_append, List.nil_append, -eq_self])
      exact .pu ⟨by omega, rfl⟩ .refl
  · have hie : i = 2 * k - 2 := by omega
    subst hie
    refine e_condF ?_
    refine e_imp (.pick .here (.drop (.drop .refl))) ?_
    rw [hP]
    exact hK
end Go.Proofs.Ytehfblkpbadikaa.HF
