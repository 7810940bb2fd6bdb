/- The law HuffDecoded: what it does. No conditions but those that each names. -/
import Derived.Test.YtehfblkpbadikaaHuffDecM
import Derived.Test.YtehfblkpbadikaaHuffReads0
set_option linter.unusedVariables false
set_option linter.unusedSimpArgs false
namespace Go.Proofs.Ytehfblkpbadikaa.HF
open Go Go.Proofs Go.RowKit Go.Proofs.Ytehfblkpbadikaa.Sh Go.Proofs.Ytehfblkpbadikaa.Sl Go.Proofs.Ytehfblkpbadikaa.T Go.Proofs.Ytehfblkpbadikaa.HM Go.Proofs.Ytehfblkpbadikaa.B Go.Proofs.Ytehfblkpbadikaa.M
theorem e_wfact {W : World} {L L' : List HP} {S : WP} {r : Nat} {b : List Bool} (p : Pick L (IsW r b) L') (h : b.length ≤ 8388608 → Ent W L S) : Ent W L S := fun w hw => by
  obtain ⟨f, ⟨q, ha⟩, _⟩ := (hw.pick p).fst
  obtain ⟨_, _, _, ⟨_, _, _, ⟨_, _, hp, _⟩, _⟩, _⟩ := ha
  exact h hp w hw
def cws (l ds : List Int) : List Bool := ds.flatMap (cw l)
theorem cws_snoc (l ds : List Int) (s : Int) : cws l (ds ++ [s]) = cws l ds ++ cw l s := by simp [cws]
theorem cws_take {l ds : List Int} {j : Nat} (h : j < ds.length) : cws l (ds.take (j + 1)) = cws l (ds.take j) ++ cw l ds[j] := by
  rw [List.take_succ_eq_append_getElem h, cws_snoc]
theorem cws_read {l ds : List Int} {j : Nat} (h : j < ds.length) : ∃ rest, (ub (pk (cws l ds))).drop (cws l (ds.take j)).length = cw l ds[j] ++ rest := by
  have e : cws l ds = cws l (ds.take j) ++ (cw l ds[j] ++ cws l (ds.drop (j + 1))) := by
    unfold cws
    rw [← List.flatMap_cons, ← List.drop_eq_getElem_cons h, ← List.flatMap_append, List.take_append_drop]
  rw [ub_pk]
  unfold padTo8
  refine ⟨cws l (ds.drop (j + 1)) ++ List.replicate ((8 - (cws l ds).length % 8) % 8) false, ?_⟩
  obtain ⟨R, hR⟩ : ∃ R, R = List.replicate ((8 - (cws l ds).length % 8) % 8) false := ⟨_, rfl⟩
  rw [← hR, e, List.append_assoc, List.drop_left, List.append_assoc]
theorem ph0 {l : List Int} {s : Int} {L : List Bool} (h : phR (codes l) l s L = 0) : (∃ p, sym (codes l) l s = some p) ∧ phL (codes l) l s L = L ++ cw l s := by
  unfold phR at h
  unfold phL cw
  cases hs : sym (codes l) l s with
  | none => rw [hs] at h; cases h
  | some p =>
    rw [hs] at h
    simp only at h
    refine ⟨⟨p, rfl⟩, ?_⟩
    simp only
    unfold putL
    rw [if_pos h]; simp
theorem ph1 {l : List Int} {s : Int} {L : List Bool} (h : phR (codes l) l s L ≠ 0) : phL (codes l) l s L = L := by
  unfold phR at h
  unfold phL
  cases hs : sym (codes l) l s with
  | none => rfl
  | some p =>
    rw [hs] at h
    simp only at h ⊢
    unfold putL
    rw [if_neg h]
theorem huffDecoded {W : World} {a a2 : Option Addr} {cap c2 : Nat} {l z : List Int} (hr : ∀ A, RdB W A a l.length (l.map I)) (hl : l.length ≤ 1048576) (hz : ∀ A, RdB W A a2 z.length (z.map I)) (hzl : z.length ≤ 1048576) :
    Cn Try.prog 14 [.slice a l.length cap, .slice a2 z.length c2] W [] (fun _ : Unit => .bool true) (fun _ => []) := by
  (refine S.law03_HuffDecoded_cn fun F => ?_; unfold S.law03_HuffDecoded; simp only [List.cons_append, List.nil_append])
  refine e_imp (M := pu True :: _) (.pu trivial .refl) ?_
  (refine' e_call (codes_ (hr (pu True)) (by omega)) ?hp fun _ => ?_; (case hp => (repeat (first | exact Picks.nil | (apply Picks.cons; (focus (repeat constructor)))))); (try simp only [List.cons_append, List.nil_append, Bool.not_true, Bool.not_false]))
  rename_i q
  obtain ⟨qa, qc⟩ := q
  (try dsimp only)
  refine e_opN (v_ext (v := .slice qa (cdL l).length qc) rfl) Imp.nil ?_
  refine e_opN (v_ext (v := .int .i64 (cdR l)) rfl) Imp.nil ?_
  refine e_imp (M := pu True :: Sl 1 3 qa qc (cdL l).length ((cdL l).map I) :: F) (.pu trivial (by (repeat (first | exact Imp.refl | exact Imp.nil | (apply Imp.pick; (focus ((repeat constructor); done))) | refine Imp.drop ?_)))) ?_
  by_cases hok : ¬ okL l
  · have hR : cdR l = 30 := by simp [cdR, hok]
    have hB : cdL l = [] := by simp [cdL, hok]
    rw [hR, hB]
    (refine' e_call (newDec0 (hr (pu True)) (by omega) hok) ?hp fun _ => ?_; (case hp => (repeat (first | exact Picks.nil | (apply Picks.cons; (focus (repeat constructor)))))); (try simp only [List.cons_append, List.nil_append, Bool.not_true, Bool.not_false]))
    (((with_reducible refine' e_opN (v_ext ?h1) Imp.nil ?_); (case h1 => rfl))); (((with_reducible refine' e_opN (v_ext ?h1) Imp.nil ?_); (case h1 => rfl)))
    (refine' e_call (num) ?hp fun _ => ?_; (case hp => (repeat (first | exact Picks.nil | (apply Picks.cons; (focus (repeat constructor)))))); (try simp only [List.cons_append, List.nil_append, Bool.not_true, Bool.not_false]))
    refine e_opN v_neq Imp.nil ?_
    rw [decide_eq_true (by omega)]
    ((with_reducible refine e_gdF1 ?_)); ((with_reducible refine e_gdF1 ?_)); ((with_reducible refine e_gdF1 ?_)); (((with_reducible refine e_opN v_pickT Imp.nil ?_))); ((with_reducible refine e_gdF1 ?_)); ((with_reducible refine e_gdF1 ?_)); (((with_reducible refine e_opN v_pickT Imp.nil ?_))); ((with_reducible refine e_condT ?_))
    (refine' e_call (num) ?hp fun _ => ?_; (case hp => (repeat (first | exact Picks.nil | (apply Picks.cons; (focus (repeat constructor)))))); (try simp only [List.cons_append, List.nil_append, Bool.not_true, Bool.not_false]))
    (refine' e_call (num) ?hp fun _ => ?_; (case hp => (repeat (first | exact Picks.nil | (apply Picks.cons; (focus (repeat constructor)))))); (try simp only [List.cons_append, List.nil_append, Bool.not_true, Bool.not_false]))
    refine e_opN v_eql Imp.nil ?_
    (first | rw [decide_eq_true rfl] | simp only [decide_true])
    ((with_reducible refine e_gdT ?_)); ((with_reducible refine e_gdT ?_)); (((with_reducible refine e_opN v_len Imp.nil ?_))); ((with_reducible refine e_gdT ?_))
    refine e_opN v_eql Imp.nil ?_
    rw [decide_eq_true (by rfl)]
    (((with_reducible refine e_opN v_pickT Imp.nil ?_))); ((with_reducible refine e_gdT ?_)); ((with_reducible refine e_gdT ?_)); (((with_reducible refine e_opN v_eqNil0 Imp.nil ?_))); (((with_reducible refine e_opN v_pickT Imp.nil ?_))); ((with_reducible refine e_gdT ?_))
    (refine' e_call (knows) ?hp fun _ => ?_; (case hp => (repeat (first | exact Picks.nil | (apply Picks.cons; (focus (repeat constructor)))))); (try simp only [List.cons_append, List.nil_append, Bool.not_true, Bool.not_false]))
    (((with_reducible refine e_opN v_pickT Imp.nil ?_)))
    (first | refine e_ret (()) rfl ?_ | refine e_retT (()) ?_)
    (repeat (first | exact Imp.refl | exact Imp.nil | (apply Imp.pick; (focus ((repeat constructor); done))) | refine Imp.drop ?_))
  have hok := Decidable.not_not.1 hok
  have hR : cdR l = 0 := by simp [cdR, hok]
  have hB : cdL l = codes l := by simp [cdL, hok]
  have hcl := length_codes l
  rw [hR, hB]
  (refine' e_call (newDec (hr (pu True)) hok) ?hp fun _ => ?_; (case hp => (repeat (first | exact Picks.nil | (apply Picks.cons; (focus (repeat constructor)))))); (try simp only [List.cons_append, List.nil_append, Bool.not_true, Bool.not_false]))
  rename_i d
  refine e_opN (v_ext (v := .pointer (some ⟨d, 0, none⟩)) rfl) Imp.nil ?_
  refine e_opN (v_ext (v := .int .i64 0) rfl) Imp.nil ?_
  (refine' e_call (num) ?hp fun _ => ?_; (case hp => (repeat (first | exact Picks.nil | (apply Picks.cons; (focus (repeat constructor)))))); (try simp only [List.cons_append, List.nil_append, Bool.not_true, Bool.not_false]))
  refine e_opN v_neq Imp.nil ?_
  rw [decide_eq_false (by omega)]
  ((with_reducible refine e_gdT ?_)); ((with_reducible refine e_gdT ?_))
  (refine' e_call (num) ?hp fun _ => ?_; (case hp => (repeat (first | exact Picks.nil | (apply Picks.cons; (focus (repeat constructor)))))); (try simp only [List.cons_append, List.nil_append, Bool.not_true, Bool.not_false]))
  ((with_reducible refine e_gdT ?_))
  refine e_opN v_neq Imp.nil ?_
  rw [decide_eq_false (by omega)]
  (((with_reducible refine e_opN v_pickF Imp.nil ?_))); ((with_reducible refine e_gdT ?_))
  (refine' e_call (knows) ?hp fun _ => ?_; (case hp => (repeat (first | exact Picks.nil | (apply Picks.cons; (focus (repeat constructor)))))); (try simp only [List.cons_append, List.nil_append, Bool.not_true, Bool.not_false]))
  ((with_reducible refine e_gdT ?_)); (((with_reducible refine e_opN v_notT Imp.nil ?_))); (((with_reducible refine e_opN v_pickF Imp.nil ?_))); ((with_reducible refine e_condF ?_)); (((with_reducible refine e_opN v_eqNil1 Imp.nil ?_))); ((with_reducible refine e_gdT ?_)); ((with_reducible refine e_gdT ?_)); (((with_reducible refine e_opN v_len Imp.nil ?_))); ((with_reducible refine e_gdT ?_)); ((with_reducible refine e_gdT ?_)); (((with_reducible refine e_opN v_len Imp.nil ?_))); ((with_reducible refine e_gdT ?_))
  refine e_opN v_neq Imp.nil ?_
  rw [decide_eq_false (by rw [hcl]; simp)]
  (((with_reducible refine e_opN v_pickF Imp.nil ?_))); ((with_reducible refine e_condF ?_))
  (refine' e_call (newWriter) ?hp fun _ => ?_; (case hp => (repeat (first | exact Picks.nil | (apply Picks.cons; (focus (repeat constructor)))))); (try simp only [List.cons_append, List.nil_append, Bool.not_true, Bool.not_false]))
  rename_i w
  refine e_imp (M := Sl 1 3 qa qc (codes l).length ((codes l).map I) :: IsW w [] :: IsDec d l :: F) (by (repeat (first | exact Imp.refl | exact Imp.nil | (apply Imp.pick; (focus ((repeat constructor); done))) | refine Imp.drop ?_))) ?_
  refine e_slfacts .here fun f1 f2 f3 f4 => ?_
  have rdc : RdB W (Sl 1 3 qa qc (codes l).length ((codes l).map I)) qa (codes l).length ((codes l).map I) := rd_sl (by simp) f4
  refine e_loop2 (fun m x y => [ex fun ds : List Int => ex fun q : Option Addr × Nat => all [pu (∃ i : Nat, m + i = 1000 ∧ y = .int .i64 (i : Int) ∧ x = .slice q.1 ds.length q.2 ∧ ds.length ≤ i ∧ ∀ s ∈ ds, ∃ p, sym (codes l) l s = some p), IsW w (cws l ds), Sl 1 3 q.1 q.2 ds.length (ds.map I), Sl 1 3 qa qc (codes l).length ((codes l).map I), pu True, IsDec d l]] ++ F) 1000 ?_ ?_
  · refine .ex [] (.ex (none, 0) (.all ?_))
    (try simp only [List.cons_append, List.nil_append, -eq_self])
    refine .pu ⟨0, by omega, rfl, rfl, Nat.le_refl _, (fun s hs => (by cases hs))⟩ ?_
    exact .pick (by (repeat constructor)) (imp_nil (.pick (by (repeat constructor)) (.pu trivial (.pick (by (repeat constructor)) .refl))))
  intro m ds2 x y
  (try simp only [List.cons_append, List.nil_append, -eq_self])
  refine e_ex Pick.here fun ds => e_ex Pick.here fun q => e_all Pick.here ?_
  obtain ⟨ya, yc⟩ := q
  (try simp only [List.cons_append, List.nil_append, -eq_self])
  refine e_pu Pick.here fun hi => ?_
  obtain ⟨i, hmi, rfl, rfl, hdl, hds⟩ := hi
  (try dsimp only)
  have stop : Ent W (IsW w (cws l ds) :: Sl 1 3 ya yc ds.length (ds.map I) :: Sl 1 3 qa qc (codes l).length ((codes l).map I) :: pu True :: IsDec d l :: F) (opN Try.prog (sCall (fn 33) [.pointer (some ⟨w, 0, none⟩)]) noP fun x93 =>
      opN Try.prog (sCall (fn 37) [x93]) noP fun x94 =>
      loop1 (fun I2 m2 _ y13 =>
       opN Try.prog (sLen #[22] 3 [.slice ya ds.length yc]) noP fun x97 =>
       opN Try.prog (sBin .lss 3 y13 x97) noP fun x98 =>
       condS x98
       (opN Try.prog (sCall (fn 39) [.pointer (some ⟨d, 0, none⟩), x94]) noP fun x104 =>
        opN Try.prog (sExt x104 0) noP fun x105 =>
        opN Try.prog (sExt x104 1) noP fun x106 =>
        opN Try.prog (sCall (fn 18) [x106]) noP fun x108 =>
        opN Try.prog (sEq .neq 3 (.tmp 108) (.const (.int .i64 0)) x108 (.int .i64 0)) noP fun x109 =>
        gdK x109 false (fun k => k x105) fun x111 =>
        gdK x109 false (fun k => k (.slice ya ds.length yc)) fun x112 =>
        gdK x109 false (fun k => k y13) fun x113 =>
        gdK x109 false (opN Try.prog (sIA 22 x112 x113) noP) fun x114 =>
        gdK x109 false (opN Try.prog (sLoad 3 x114) noP) fun x115 =>
        gdK x109 false (opN Try.prog (sEq .neq 3 (.tmp 111) (.tmp 115) x111 x115) noP) fun x116 =>
        opN Try.prog (sPick x109 (.bool true) x116) noP fun x117 =>
        condS x117
        (fun w => ∃ x : Unit, Value.bool false = Value.bool true ∧ sat W F w)
        (opN Try.prog (sBin .add 3 y13 (.int .i64 1)) noP fun x100 =>
         next1 I2 m2 x100))
       (opN Try.prog (sCall (fn 41) [x94]) noP fun x119 =>
        opN Try.prog (sBin .lss 3 x119 (.int .i64 8)) noP fun x120 w => ∃ x : Unit, x120 = Value.bool true ∧ sat W F w)) (.int .i64 0)) := by
    refine e_wfact .here fun hLm => ?_
    obtain ⟨X, hX⟩ : ∃ X, X = cws l ds := ⟨_, rfl⟩
    rw [← hX] at hLm ⊢
    have hpk := length_pk X
    (refine' e_call (B.bytes) ?hp fun _ => ?_; (case hp => (repeat (first | exact Picks.nil | (apply Picks.cons; (focus (repeat constructor)))))); (try simp only [List.cons_append, List.nil_append, Bool.not_true, Bool.not_false]))
    rename_i q1
    obtain ⟨ba, bc⟩ := q1
    (try dsimp only)
    refine e_slfacts .here fun g1 g2 g3 g4 => ?_
    (refine' e_call (newReader (b := pk X) (rd_sl (by simp) g4) (no_none g4) (by omega)) ?hp fun _ => ?_; (case hp => (repeat (first | exact Picks.nil | (apply Picks.cons; (focus (repeat constructor)))))); (try simp only [List.cons_append, List.nil_append, Bool.not_true, Bool.not_false]))
    rename_i r
    refine e_imp (M := IsR r (pk X) 0 :: Sl 1 3 ya yc ds.length (ds.map I) :: IsDec d l :: F) (by (repeat (first | exact Imp.refl | exact Imp.nil | (apply Imp.pick; (focus ((repeat constructor); done))) | refine Imp.drop ?_))) ?_
    refine e_slfacts (.there .here) fun i1 i2 i3 i4 => ?_
    refine e_loop1 (fun m y => [ex fun j : Nat => all [pu (m + j = ds.length ∧ y = .int .i64 (j : Int)), IsR r (pk X) (cws l (ds.take j)).length, Sl 1 3 ya yc ds.length (ds.map I), IsDec d l]] ++ F) ds.length ?_ ?_
    · refine .ex 0 (.all ?_)
      (try simp only [List.cons_append, List.nil_append, -eq_self])
      refine .pu ⟨by omega, rfl⟩ ?_
      exact .pick (by (repeat constructor)) (.pick (by (repeat constructor)) (.pick (by (repeat constructor)) .refl))
    intro m3 ds3 y
    (try simp only [List.cons_append, List.nil_append, -eq_self])
    refine e_ex Pick.here fun j => e_all Pick.here ?_
    (try simp only [List.cons_append, List.nil_append, -eq_self])
    refine e_pu Pick.here fun hj => ?_
    obtain ⟨hmj, rfl⟩ := hj
    (((with_reducible refine e_opN v_len Imp.nil ?_)))
    (refine e_ask v_lss Imp.nil (fun h => ?_) (fun h => ?_))
    · have hjl : j < ds.length := by omega
      obtain ⟨p, hp⟩ := hds ds[j] (List.getElem_mem hjl)
      obtain ⟨rest, hrest⟩ := cws_read (l := l) hjl
      rw [← hX] at hrest
      have hn := nxt_cw hok hp hrest
      obtain ⟨gy, rfl⟩ := i4 (by omega)
      refine e_condT ?_
      (refine' e_call (next) ?hp fun _ => ?_; (case hp => (repeat (first | exact Picks.nil | (apply Picks.cons; (focus (repeat constructor)))))); (try simp only [List.cons_append, List.nil_append, Bool.not_true, Bool.not_false]))
      rw [hn]
      (try dsimp only)
      refine e_opN (v_ext (v := .int .i64 ds[j]) rfl) Imp.nil ?_
      refine e_opN (v_ext (v := .int .i64 0) rfl) Imp.nil ?_
      (refine' e_call (num) ?hp fun _ => ?_; (case hp => (repeat (first | exact Picks.nil | (apply Picks.cons; (focus (repeat constructor)))))); (try simp only [List.cons_append, List.nil_append, Bool.not_true, Bool.not_false]))
      refine e_opN v_neq Imp.nil ?_
      rw [decide_eq_false (by omega)]
      ((with_reducible refine e_gdT ?_)); ((with_reducible refine e_gdT ?_)); ((with_reducible refine e_gdT ?_)); ((with_reducible refine e_gdT ?_))
      refine e_opN (v_ia1 j (by rfl) hjl) Imp.nil ?_
      ((with_reducible refine e_gdT ?_))
      refine e_opN (v_ldSl (v := I ds[j]) (by rw [Nat.zero_add]; exact I_get hjl)) (.pick (by (repeat constructor)) .nil) ?_
      ((with_reducible refine e_gdT ?_))
      refine e_opN v_neq Imp.nil ?_
      rw [decide_eq_false (by simp)]
      (((with_reducible refine e_opN v_pickF Imp.nil ?_))); ((with_reducible refine e_condF ?_)); (((with_reducible refine e_opN (v_add ?h1 ?h2) Imp.nil ?_); (case h1 => omega); (case h2 => omega)))
      refine e_next1 (m3 - 1) (by omega) (.ex (j + 1) (.all ?_))
      (try simp only [List.cons_append, List.nil_append, -eq_self])
      refine .pu ⟨by omega, by norm_cast⟩ ?_
      rw [cws_take hjl, List.length_append]
      exact .pick (by (repeat constructor)) (.pick (by (repeat constructor)) (.pick (by (repeat constructor)) .refl))
    · have : j = ds.length := by omega
      subst this
      rw [List.take_length, ← hX]
      refine e_condF ?_
      (refine' e_call (B.left) ?hp fun _ => ?_; (case hp => (repeat (first | exact Picks.nil | (apply Picks.cons; (focus (repeat constructor)))))); (try simp only [List.cons_append, List.nil_append, Bool.not_true, Bool.not_false]))
      refine e_opN v_lss Imp.nil ?_
      rw [decide_eq_true (by omega)]
      refine e_ret () rfl ?_
      (repeat (first | exact Imp.refl | exact Imp.nil | (apply Imp.pick; (focus ((repeat constructor); done))) | refine Imp.drop ?_))
  (((with_reducible refine e_opN v_len Imp.nil ?_)))
  (refine e_ask v_lss Imp.nil (fun h => ?_) (fun h => ?_))
  · have hiz : i < z.length := by omega
    obtain ⟨gz, oz, rfl, _⟩ := (hz (pu True)).at_ (by omega)
    ((with_reducible refine e_gdT ?_)); ((with_reducible refine e_gdT ?_))
    (refine e_ask v_lss Imp.nil (fun h => ?_) (fun h => ?_))
    · (((with_reducible refine e_opN v_pickT Imp.nil ?_))); ((with_reducible refine e_condT ?_))
      refine e_opN (v_ia1 i (by rfl) hiz) Imp.nil ?_
      refine e_opN (v_ldRd (hz (pu True)) (I_get hiz)) (.pick (by (repeat constructor)) .nil) ?_
      (refine' e_call (hput rdc (hr (pu True))) ?hp fun _ => ?_; (case hp => (repeat (first | exact Picks.nil | (apply Picks.cons; (focus (repeat constructor)))))); (try simp only [List.cons_append, List.nil_append, Bool.not_true, Bool.not_false]))
      (refine' e_call (num) ?hp fun _ => ?_; (case hp => (repeat (first | exact Picks.nil | (apply Picks.cons; (focus (repeat constructor)))))); (try simp only [List.cons_append, List.nil_append, Bool.not_true, Bool.not_false]))
      (refine e_ask v_eql Imp.nil (fun h => ?_) (fun h => ?_))
      · obtain ⟨hp, hL⟩ := ph0 h
        rw [hL]
        refine e_condT ?_
        refine e_opN (v_ia1 i (by rfl) hiz) Imp.nil ?_
        refine e_opN (v_ldRd (hz (pu True)) (I_get hiz)) (.pick (by (repeat constructor)) .nil) ?_
        refine e_bsl1 fun g => ?_
        refine e_app (m := 1) (news := [I z[i]]) (by (repeat constructor)) (src_pt (e' := 3) (by kernel_rfl) .here (by rfl) (I_one (l := [z[i]]))) (by omega) (by omega) fun a' c' => ?_
        (((with_reducible refine e_opN (v_add ?h1 ?h2) Imp.nil ?_); (case h1 => omega); (case h2 => omega)))
        refine e_next2 (m - 1) (by omega) (.ex (ds ++ [z[i]]) (.ex (a', c') (.all ?_)))
        (try simp only [List.cons_append, List.nil_append, -eq_self])
        refine .pu ⟨i + 1, by omega, congrArg (Value.int .i64) (by omega), by rw [List.length_append]; rfl, by simp; omega, fun s hs => ?_⟩ ?_
        · rcases List.mem_append.1 hs with c | c
          · exact hds s c
          · rw [List.mem_singleton.1 c]; exact hp
        · rw [cws_snoc, List.map_append, List.length_append]
          exact .pick (by (repeat constructor)) (.pick (by (repeat constructor)) (.pick (by (repeat constructor)) (.pick (by (repeat constructor)) (.pick (by (repeat constructor)) (by (repeat (first | exact Imp.refl | exact Imp.nil | (apply Imp.pick; (focus ((repeat constructor); done))) | refine Imp.drop ?_)))))))
      · rw [ph1 h]
        ((with_reducible refine e_condF ?_)); (((with_reducible refine e_opN (v_add ?h1 ?h2) Imp.nil ?_); (case h1 => omega); (case h2 => omega)))
        refine e_next2 (m - 1) (by omega) (.ex ds (.ex (ya, yc) (.all ?_)))
        (try simp only [List.cons_append, List.nil_append, -eq_self])
        refine .pu ⟨i + 1, by omega, congrArg (Value.int .i64) (by omega), rfl, by omega, hds⟩ ?_
        exact .pick (by (repeat constructor)) (.pick (by (repeat constructor)) (.pick (by (repeat constructor)) (.pick (by (repeat constructor)) (.pick (by (repeat constructor)) (by (repeat (first | exact Imp.refl | exact Imp.nil | (apply Imp.pick; (focus ((repeat constructor); done))) | refine Imp.drop ?_)))))))
    · (((with_reducible refine e_opN v_pickT Imp.nil ?_))); ((with_reducible refine e_condF ?_))
      exact stop
  · ((with_reducible refine e_gdF2 ?_)); ((with_reducible refine e_gdF2 ?_)); (((with_reducible refine e_opN v_pickF Imp.nil ?_))); ((with_reducible refine e_condF ?_))
    exact stop
end Go.Proofs.Ytehfblkpbadikaa.HF
