/- The document's own codes, runs, order. No conditions but those that each names. (10 texts made one; each says below what it is.) -/
import Derived.Test.YthoeeahdkdcceaaGreatK7
import Derived.KernelRfl
set_option linter.unusedVariables false
set_option linter.unusedSimpArgs false
set_option linter.unusedSectionVars false
namespace Go.Proofs.YthoeeahdkdcceaaGreat.IF
open Go Go.Proofs Go.RowKit Sh Sl T HM HF B M
theorem cntA_snoc (ps : List Pz) (p : Pz) (s : Nat) : cntA (ps ++ [p]) s = cntA ps s + if symA p = (s : Int) then 1 else 0 := by
 unfold cntA
 rw [List.countP_append]
 by_cases c : symA p = (s : Int)
 ·rw [if_pos c, List.countP_cons_of_pos (by simpa using c)]; rfl
 ·rw [if_neg c, List.countP_cons_of_neg (by simpa using c)]; rfl
theorem cntB_snoc (ps : List Pz) (p : Pz) (s : Nat) : cntB (ps ++ [p]) s = cntB ps s + if p.len ≠ 0 /\ (disS p.dist).1 = (s : Int) then 1 else 0 := by
 unfold cntB
 rw [List.countP_append]
 by_cases c : p.len ≠ 0 /\ (disS p.dist).1 = (s : Int)
 ·rw [if_pos c, List.countP_cons_of_pos (by simpa using c)]; rfl
 ·rw [if_neg c, List.countP_cons_of_neg (by simpa using c)]; rfl
theorem cntA_le (ps : List Pz) (s : Nat) : cntA ps s <= ps.length := List.countP_le_length
theorem cntB_le (ps : List Pz) (s : Nat) : cntB ps s <= ps.length := List.countP_le_length
def LA (ps : List Pz) : List Value := Ln 286 fun s => (cntA ps s : Int) + if s = 256 then 1 else 0
def LB (ps : List Pz) : List Value := Ln 30 fun s => (cntB ps s : Int)
theorem LA_frq (ps : List Pz) : LA ps = (frqA ps).map I := by unfold LA Ln frqA; rw [List.map_map]; rfl
theorem LB_frq (ps : List Pz) : LB ps = (frqB ps).map I := by unfold LB Ln frqB; rw [List.map_map]; rfl
theorem LA_get {ps : List Pz} {n : Nat} (h : n < 286) : (LA ps)[0 + n]? = some (.int .i64 ((cntA ps n : Int) + if n = 256 then 1 else 0)) := by rw [Nat.zero_add]; exact Ln_get h
theorem LB_get {ps : List Pz} {n : Nat} (h : n < 30) : (LB ps)[0 + n]? = some (.int .i64 (cntB ps n : Int)) := by rw [Nat.zero_add]; exact Ln_get h
theorem LA_set {ps : List Pz} {p : Pz} {n : Nat} (hn : symA p = (n : Int)) : (LA ps).set (0 + n) (.int .i64 (((cntA ps n : Int) + if n = 256 then 1 else 0) + 1)) = LA (ps ++ [p]) := by
 rw [Nat.zero_add]
 refine (Ln_set (v := ((cntA ps n : Int) + if n = 256 then 1 else 0) + 1)).trans (Ln_congr fun j hj => ?_)
 rw [cntA_snoc, hn]
 by_cases c : j = n
 ·subst c; rw [if_pos rfl, if_pos rfl]; push_cast; omega
 ·rw [if_neg (show ¬ ((n : Int) = (j : Int)) by omega), if_neg c, Nat.add_zero]
theorem LB_set {ps : List Pz} {p : Pz} {n : Nat} (h0 : p.len ≠ 0) (hn : (disS p.dist).1 = (n : Int)) : (LB ps).set (0 + n) (.int .i64 ((cntB ps n : Int) + 1)) = LB (ps ++ [p]) := by
 rw [Nat.zero_add]
 refine (Ln_set (v := (cntB ps n : Int) + 1)).trans (Ln_congr fun j hj => ?_)
 rw [cntB_snoc, hn]
 by_cases c : j = n
 ·subst c; rw [if_pos rfl, if_pos ⟨h0, rfl⟩]; rfl
 ·rw [if_neg c, if_neg (fun h => c (by have := h.2; omega)), Nat.add_zero]
theorem LB_skip {ps : List Pz} {p : Pz} (h0 : p.len = 0) : LB ps = LB (ps ++ [p]) := Ln_congr fun j hj => by rw [cntB_snoc, if_neg (fun h => h.1 h0), Nat.add_zero]
theorem rown {W : World} {AL : HP} {pa ba : Option Addr} {pc bn bc : Nat} {ps : List Pz} (hA : RdB W AL pa (ps.length * 3) (ps.flatMap pPz)) (hl : ps.length <= 1048576) (hg : ∀ p ∈ ps, goodP p) :
  Cn p_ 95 [.agg #[.slice pa ps.length pc, .slice ba bn bc]] W [AL] (fun q : (Option Addr × Nat) × (Option Addr × Nat) => .tuple #[.slice q.1.1 (ownA ps).length q.1.2, .slice q.2.1 (ownB ps).length q.2.2]) (fun q => [Sl 1 3 q.1.1 q.1.2 (ownA ps).length ((ownA ps).map I), Sl 1 3 q.2.1 q.2.2 (ownB ps).length ((ownB ps).map I), AL]) := by
 (refine S.ref06_own_cn fun F => ?_; unfold S.ref06_own; simp only [ca_, na_])
 refine e_boxA fun b1 => ?_
 refine e_mksl 286 286 (by rfl) (by rfl) (by omega) (by omega) (by unfold maxLen; omega) fun ga => ?_
 refine e_mksl 30 30 (by rfl) (by rfl) (by omega) (by omega) (by unfold maxLen; omega) fun gb => ?_
 refine e_opN (v_ia1 256 (by rfl) (by omega)) .nil ?_
 refine e_stSl (by repeat constructor) (by rw [List.length_replicate]; omega) ?_
 have z1 : (List.replicate 286 (Value.int .i64 0)).set (0 + 256) (.int .i64 1) = LA [] := by
  rw [Nat.zero_add, Ln_zero]
  refine (Ln_set (v := 1)).trans (Ln_congr fun j hj => ?_)
  by_cases c : j = 256
  ·rw [if_pos c]; rfl
  ·rw [if_neg c]; rfl
 have z2 : List.replicate 30 (Value.int .i64 0) = LB [] := Ln_zero 30
 rw [z1, z2]
 refine e_loop1 (fun m y => (ex fun i : Nat => all [pu (m + i = ps.length /\ y = .int .i64 (i : Int)), Sl 1 3 (some ⟨ga, 0, none⟩) 286 286 (LA (ps.take i)), Sl 1 3 (some ⟨gb, 0, none⟩) 30 30 (LB (ps.take i))]) :: pt b1 (.cells #[.slice pa ps.length pc, .slice ba bn bc] 92) :: AL :: F) ps.length ?_ ?_
 ·refine .ex 0 (.all ?_)
  (try simp only [ca_, na_, -eq_self])
  refine .pu ⟨by omega, rfl⟩ ?_
  rw [List.take_zero]
  (repeat (first | exact .refl | exact .nil | (apply Imp.pick; (focus ((repeat constructor); done))) | refine .drop ?_))
 intro m ds y
 refine e_ex .here fun i => e_all .here ?_
 (try simp only [ca_, na_, -eq_self])
 refine e_pu .here fun hk => ?_
 obtain ⟨hmi, rfl⟩ := hk
 refine e_opN v_fa0 .nil ?_; (((refine' e_opN (v_ldN ?hc) ?hi ?_); (case hi => exact .pick (by repeat constructor) .nil); (case hc => repeat constructor))); refine e_opN v_len .nil ?_
 refine e_opN v_lss .nil ?_
 by_cases hlt : (i : Int) < (ps.length : Int)
 ·rw [dT_ hlt]
  have hi : i < ps.length := by omega
  have hgp := hg _ (List.getElem_mem hi)
  have htk : ps.take (i + 1) = ps.take i ++ [ps[i]] := List.take_succ_eq_append_getElem hi
  have hcl : (ps.take i).length <= 1048576 := by rw [List.length_take]; omega
  obtain ⟨g, o, rfl, _⟩ := hA.at_ (by omega)
  have l0 : RunV p_ W [AL] (sLoad 3 (.pointer (some ⟨g, o + i * 3 + 0, none⟩))) (I ps[i].len) := v_ldRd2 hA (pz_get hi 0 (by omega))
  have l1 : RunV p_ W [AL] (sLoad 3 (.pointer (some ⟨g, o + i * 3 + 1, none⟩))) (I ps[i].dist) := v_ldRd2 hA (pz_get hi 1 (by omega))
  have l2 : RunV p_ W [AL] (sLoad 5 (.pointer (some ⟨g, o + i * 3 + 2, none⟩))) (Sl.B ps[i].c) := v_ldRd2 hA (pz_get hi 2 (by omega))
  obtain ⟨p, hp⟩ : ∃ p, p = ps[i] := ⟨_, rfl⟩
  rw [<- hp] at hgp htk l0 l1 l2
  refine e_condT ?_; refine e_opN v_fa0 .nil ?_; (((refine' e_opN (v_ldN ?hc) ?hi ?_); (case hi => exact .pick (by repeat constructor) .nil); (case hc => repeat constructor)))
  refine e_opN (v_ia i rfl hi) .nil ?_
  refine e_opN v_fa .nil ?_
  refine e_opN l0 (.pick (by repeat constructor) .nil) ?_
  unfold I
  refine e_opN v_eql .nil ?_
  by_cases h0 : p.len = 0
  ·rw [dT_ h0]
   have hs : symA p = (p.c.toNat : Int) := by unfold symA; rw [if_pos h0]
   have hc := p.c.toNat_lt
   have hcl2 := cntA_le (ps.take i) p.c.toNat
   refine e_condT ?_; refine e_opN v_fa0 .nil ?_; (((refine' e_opN (v_ldN ?hc) ?hi ?_); (case hi => exact .pick (by repeat constructor) .nil); (case hc => repeat constructor)))
   refine e_opN (v_ia i rfl hi) .nil ?_
   refine e_opN v_fa .nil ?_
   refine e_opN l2 (.pick (by repeat constructor) .nil) ?_
   rw [show Sl.B p.c = .int .u8 (p.c.toNat : Int) from rfl]
   refine e_opN (v_ia1 p.c.toNat rfl (by omega)) .nil ?_
   refine e_opN (v_ldSl (LA_get (by omega))) (.pick (by repeat constructor) .nil) ?_
   refine e_opN (v_add (by split <;> omega) (by split <;> omega)) .nil ?_
   refine e_opN (v_ia1 p.c.toNat rfl (by omega)) .nil ?_
   refine e_stSl (by repeat constructor) (by unfold LA; rw [Ln_len]; omega) ?_
   rw [LA_set hs, LB_skip h0, <- htk]
   (refine e_opN (v_add (by omega) (by omega)) .nil ?_)
   refine e_next1 (m - 1) (by omega) (.ex (i + 1) (.all ?_))
   (try simp only [ca_, na_, -eq_self])
   refine .pu ⟨by omega, by rfl⟩ ?_
   (repeat (first | exact .refl | exact .nil | (apply Imp.pick; (focus ((repeat constructor); done))) | refine .drop ?_))
  ·rw [dF_ h0]
   obtain ⟨c1, c2, c3, c4⟩ : 3 <= p.len /\ p.len <= 258 /\ 1 <= p.dist /\ p.dist <= 32768 := by
    rcases hgp with h | h
    ·exact absurd h.1 h0
    ·exact h
   obtain ⟨s, x, k, hs, h1, h2, _⟩ := lenS_ok c1 c2
   obtain ⟨t, y, j, ht, g1, _⟩ := disS_ok c3 c4
   have hsA : symA p = (s : Int) := by unfold symA; rw [if_neg h0, hs]
   have hsB : (disS p.dist).1 = (t : Int) := by rw [ht]
   have hcl2 := cntA_le (ps.take i) s
   have hcl3 := cntB_le (ps.take i) t
   refine e_condF ?_; refine e_opN v_fa0 .nil ?_; (((refine' e_opN (v_ldN ?hc) ?hi ?_); (case hi => exact .pick (by repeat constructor) .nil); (case hc => repeat constructor)))
   refine e_opN (v_ia i rfl hi) .nil ?_
   refine e_opN v_fa .nil ?_
   refine e_opN l0 (.pick (by repeat constructor) .nil) ?_
   unfold I
   (refine' e_call (rLength c1 c2) ?hp fun _ => ?_; (case hp => (repeat (first | exact Picks.nil | (apply Picks.cons; (focus repeat constructor))))); (try simp only [ca_, na_, Bool.not_true, Bool.not_false]))
   rw [hs]
   (((refine' e_opN (v_extN ?hc) .nil ?_); (case hc => repeat constructor))); (((refine' e_opN (v_extN ?hc) .nil ?_); (case hc => repeat constructor))); (((refine' e_opN (v_extN ?hc) .nil ?_); (case hc => repeat constructor))); refine e_opN v_fa0 .nil ?_; (((refine' e_opN (v_ldN ?hc) ?hi ?_); (case hi => exact .pick (by repeat constructor) .nil); (case hc => repeat constructor)))
   refine e_opN (v_ia i rfl hi) .nil ?_
   refine e_opN v_fa .nil ?_
   refine e_opN l1 (.pick (by repeat constructor) .nil) ?_
   unfold I
   (refine' e_call (rDistance c3 c4) ?hp fun _ => ?_; (case hp => (repeat (first | exact Picks.nil | (apply Picks.cons; (focus repeat constructor))))); (try simp only [ca_, na_, Bool.not_true, Bool.not_false]))
   rw [ht]
   (((refine' e_opN (v_extN ?hc) .nil ?_); (case hc => repeat constructor))); (((refine' e_opN (v_extN ?hc) .nil ?_); (case hc => repeat constructor))); (((refine' e_opN (v_extN ?hc) .nil ?_); (case hc => repeat constructor)))
   refine e_opN (v_ia1 s rfl (by omega)) .nil ?_
   refine e_opN (v_ldSl (LA_get (by omega))) (.pick (by repeat constructor) .nil) ?_
   refine e_opN (v_add (by split <;> omega) (by split <;> omega)) .nil ?_
   refine e_opN (v_ia1 s rfl (by omega)) .nil ?_
   refine e_stSl (by repeat constructor) (by unfold LA; rw [Ln_len]; omega) ?_
   rw [LA_set hsA]
   refine e_opN (v_ia1 t rfl (by omega)) .nil ?_
   refine e_opN (v_ldSl (LB_get (by omega))) (.pick (by repeat constructor) .nil) ?_
   refine e_opN (v_add (by omega) (by omega)) .nil ?_
   refine e_opN (v_ia1 t rfl (by omega)) .nil ?_
   refine e_stSl (by repeat constructor) (by unfold LB; rw [Ln_len]; omega) ?_
   rw [LB_set h0 hsB, <- htk]
   (refine e_opN (v_add (by omega) (by omega)) .nil ?_)
   refine e_next1 (m - 1) (by omega) (.ex (i + 1) (.all ?_))
   (try simp only [ca_, na_, -eq_self])
   refine .pu ⟨by omega, by rfl⟩ ?_
   (repeat (first | exact .refl | exact .nil | (apply Imp.pick; (focus ((repeat constructor); done))) | refine .drop ?_))
 ·rw [dF_ hlt]
  have hie : i = ps.length := by omega
  rw [hie, List.take_length, LA_frq, LB_frq]
  have fa := frqA_len ps
  have fb := frqB_len ps
  have r1 : RdB W (Sl 1 3 (some ⟨ga, 0, none⟩) 286 286 ((frqA ps).map I)) (some ⟨ga, 0, none⟩) (frqA ps).length ((frqA ps).map I) := by rw [fa]; exact rd_sl (by rw [List.length_map, fa]) (fun _ => ⟨ga, rfl⟩)
  have r2 : RdB W (Sl 1 3 (some ⟨gb, 0, none⟩) 30 30 ((frqB ps).map I)) (some ⟨gb, 0, none⟩) (frqB ps).length ((frqB ps).map I) := by rw [fb]; exact rd_sl (by rw [List.length_map, fb]) (fun _ => ⟨gb, rfl⟩)
  have hla := rlengths (W := W) (cap := 286) (lim := 15) r1 (by omega)
  have hlb := rlengths (W := W) (cap := 30) (lim := 15) r2 (by omega)
  rw [fa, show lenV (frqA ps) 15 = ownA ps from rfl] at hla
  rw [fb, show lenV (frqB ps) 15 = ownB ps from rfl] at hlb
  obtain ⟨VA, hVA⟩ : ∃ V, V = ownA ps := ⟨_, rfl⟩
  obtain ⟨VB, hVB⟩ : ∃ V, V = ownB ps := ⟨_, rfl⟩
  rw [<- hVA] at hla ⊢
  rw [<- hVB] at hlb ⊢
  refine e_condF ?_
  (refine' e_call (hla) ?hp fun _ => ?_; (case hp => (repeat (first | exact Picks.nil | (apply Picks.cons; (focus repeat constructor))))); (try simp only [ca_, na_, Bool.not_true, Bool.not_false]))
  rename_i qa
  obtain ⟨a1, c1⟩ := qa
  (try dsimp only)
  (((refine' e_opN (v_extN ?hc) .nil ?_); (case hc => repeat constructor))); (((refine' e_opN (v_extN ?hc) .nil ?_); (case hc => repeat constructor)))
  (refine' e_call (hlb) ?hp fun _ => ?_; (case hp => (repeat (first | exact Picks.nil | (apply Picks.cons; (focus repeat constructor))))); (try simp only [ca_, na_, Bool.not_true, Bool.not_false]))
  rename_i qb
  obtain ⟨a2, c2⟩ := qb
  (try dsimp only)
  (((refine' e_opN (v_extN ?hc) .nil ?_); (case hc => repeat constructor))); (((refine' e_opN (v_extN ?hc) .nil ?_); (case hc => repeat constructor)))
  (first | refine e_ret (((a1, c1), (a2, c2))) rfl ?_ | refine e_retT (((a1, c1), (a2, c2))) ?_)
  (repeat (first | exact .refl | exact .nil | (apply Imp.pick; (focus ((repeat constructor); done))) | refine .drop ?_))
def upG (l : List Int) (least : Nat) : Nat -> Nat
 | 0 => least
 | n + 1 => if l[n]? = some 0 then upG l least n else max (upG l least n) (n + 1)
theorem upG_F (l : List Int) (least : Nat) : ∀ n, n <= l.length -> least <= n -> upG l least n = upF l least n
 | 0, h, h2 => by rw [upG, upF]; omega
 | n + 1, h, h2 => by
  rw [upG, upF]
  have hle : ∀ k, k <= n -> upG l least k <= max least k := by
   intro k hk
   induction k with
   | zero => rw [upG]; omega
   | succ k ih =>
    have := ih (by omega)
    rw [upG]
    split <;> omega
  by_cases c : l[n]? = some 0
  ·rw [if_pos c]
   by_cases d : least < n + 1
   ·rw [if_pos ⟨d, c⟩]
    exact upG_F l least n (by omega) (by omega)
   ·rw [if_neg (fun x => d x.1)]
    have hz : ∀ k, k <= n -> upG l least k = least := by
     intro k hk
     induction k with
     | zero => rw [upG]
     | succ k ih =>
      have := hle (k + 1) hk
      have := ih (by omega)
      rw [upG]
      split <;> omega
    rw [hz n (Nat.le_refl _)]; omega
  ·rw [if_neg c, if_neg (fun x => c x.2)]
   have := hle n (Nat.le_refl _)
   omega
theorem rupto {W : World} {a : Option Addr} {cap least : Nat} {l : List Int} {A : HP} (hr : RdB W A a l.length (l.map I)) (hl : l.length <= 1099511627776) (hm : least <= l.length) :
  Cn p_ 119 [.slice a l.length cap, .int .i64 (least : Int)] W [A] (fun _ : Unit => .int .i64 (upto l least : Int)) (fun _ => [A]) := by
 (refine S.ref06_upto_cn fun F => ?_; unfold S.ref06_upto; simp only [ca_, na_])
 refine e_loop2 (fun m y z => pu (∃ i : Nat, m + i = l.length /\ y = .int .i64 (upG l least i : Int) /\ z = .int .i64 (i : Int)) :: A :: F) l.length ?_ ?_
 ·exact .pu ⟨0, by omega, rfl, rfl⟩ .refl
 intro m ds y z
 refine e_pu .here fun hk => ?_
 obtain ⟨i, hmi, rfl, rfl⟩ := hk
 refine e_opN v_len .nil ?_
 refine e_opN v_lss .nil ?_
 by_cases hlt : (i : Int) < (l.length : Int)
 ·rw [dT_ hlt]
  have hi : i < l.length := by omega
  obtain ⟨g, o, rfl, _⟩ := hr.at_ (by omega)
  have hu : upG l least (i + 1) = if l[i]? = some 0 then upG l least i else max (upG l least i) (i + 1) := rfl
  rw [List.getElem?_eq_getElem hi] at hu
  refine e_condT ?_
  refine e_opN (v_ia1 i rfl hi) .nil ?_
  refine e_opN (v_ldRd hr (v := .int .i64 l[i]) (I_get hi)) (.pick (by repeat constructor) .nil) ?_
  refine e_opN v_neq .nil ?_
  by_cases h0 : l[i] = 0
  ·rw [dF_ (fun h => h h0)]
   rw [if_pos (by rw [h0])] at hu
   refine e_condF ?_; (refine e_opN (v_add (by omega) (by omega)) .nil ?_)
   exact e_next2 (m - 1) (by omega) (.pu ⟨i + 1, by omega, by rw [hu], by rfl⟩ .refl)
  ·rw [dT_ h0]
   rw [if_neg (fun h => h0 (Option.some.inj h))] at hu
   refine e_condT ?_; (refine e_opN (v_add (by omega) (by omega)) .nil ?_)
   refine e_opN v_max .nil ?_
   rw [show (if (upG l least i : Int) < (i : Int) + 1 then (i : Int) + 1 else (upG l least i : Int)) = (upG l least (i + 1) : Int) by rw [hu]; split <;> omega]
   (refine e_opN (v_add (by omega) (by omega)) .nil ?_)
   exact e_next2 (m - 1) (by omega) (.pu ⟨i + 1, by omega, rfl, by rfl⟩ .refl)
 ·rw [dF_ hlt]
  have hie : i = l.length := by omega
  rw [hie, upG_F l least l.length (Nat.le_refl _) hm]
  refine e_condF ?_
  (first | refine e_ret (()) rfl ?_ | refine e_retT (()) ?_)
  exact .refl
def ord19 : List Value := [(.int .i64 16), (.int .i64 17), (.int .i64 18), (.int .i64 0), (.int .i64 8), (.int .i64 7), (.int .i64 9), (.int .i64 6), (.int .i64 10), (.int .i64 5), (.int .i64 11), (.int .i64 4), (.int .i64 12), (.int .i64 3), (.int .i64 13), (.int .i64 2), (.int .i64 14), (.int .i64 1), (.int .i64 15)]
theorem rorder6 {W : World} : Cn p_ 121 [] W [] (fun g : Nat => .slice (some ⟨g, 0, none⟩) 19 19) (fun g => [pt g (.cells ord19.toArray 3)]) := by
 (refine S.ref06_order_cn fun F => ?_; unfold S.ref06_order; simp only [ca_, na_])
 refine e_bslN (vs := ord19) rfl rfl (by intro v hv; unfold ord19 at hv; simp at hv; rcases hv with rfl | rfl | rfl | rfl | rfl | rfl | rfl | rfl | rfl | rfl | rfl | rfl | rfl | rfl | rfl | rfl | rfl | rfl | rfl <;> rfl) (by omega) fun g => ?_
 (first | refine e_ret (g) rfl ?_ | refine e_retT (g) ?_)
 exact .refl
theorem rruns {W : World} {a : Option Addr} {c : Nat} {row : List Int} {A : HP} (hA : RdB W A a row.length (row.map I)) (hl : row.length <= 1048576) :
  Cn p_ 120 [.slice a row.length c] W [A] (fun q : Option Addr × Nat => .slice q.1 (runsF row).length q.2) (fun q => [Sl 3 180 q.1 q.2 (runsF row).length ((runsF row).flatMap tdC), A]) := by
 have hrl := runsN_len row (row.length + 1) 0
 change (runsF row).length <= row.length + 1 at hrl
 (refine S.ref06_runs_cn fun F => ?_; unfold S.ref06_runs; simp only [ca_, na_])
 refine e_loop2 (fun m x y => (ex fun st : (Option Addr × Nat) × Nat => all [pu (m + st.2 = (runsF row).length /\ x = .slice st.1.1 ((runsF row).take st.2).length st.1.2 /\ y = .int .i64 (atR row st.2 : Int)), Sl 3 180 st.1.1 st.1.2 ((runsF row).take st.2).length (((runsF row).take st.2).flatMap tdC)]) :: A :: F) (runsF row).length ?_ ?_
 ·refine .ex ((none, 0), 0) (.all ?_)
  (try simp only [ca_, na_, -eq_self])
  refine .pu ⟨by omega, rfl, rfl⟩ ?_
  exact imp_nil (by (repeat (first | exact .refl | exact .nil | (apply Imp.pick; (focus ((repeat constructor); done))) | refine .drop ?_)))
 intro m ds x y
 refine e_ex .here fun st => e_all .here ?_
 obtain ⟨⟨oa, oc⟩, k⟩ := st
 (try simp only [ca_, na_, -eq_self])
 refine e_pu .here fun hk => ?_
 (try dsimp only at hk)
 obtain ⟨hmk, rfl, rfl⟩ := hk
 (try dsimp only)
 have htkl : ((runsF row).take k).length <= 1048577 := by rw [List.length_take]; omega
 obtain ⟨g1, g2⟩ := runs_get (row := row) (k := k) (by omega)
 obtain ⟨d1, d2⟩ := runs_drop row k (by omega)
 obtain ⟨i, hi⟩ : ∃ i, i = atR row k := ⟨_, rfl⟩
 have hnx : atR row (k + 1) = if i < row.length then i + (tdAt row i).2 else i := by rw [atR, <- hi]
 rw [<- hi] at g1 g2 d1 ⊢
 refine e_opN v_len .nil ?_
 refine e_opN v_lss .nil ?_
 by_cases h1 : (i : Int) < (row.length : Int)
 rotate_left
 ·rw [dF_ h1]
  have : k = (runsF row).length := by
   rcases Nat.lt_or_ge k (runsF row).length with c | c
   ·exact absurd (g1.2 c) (by omega)
   ·omega
  subst this
  rw [List.take_length]
  refine e_condF ?_
  (first | refine e_ret ((oa, oc)) rfl ?_ | refine e_retT ((oa, oc)) ?_)
  (repeat (first | exact .refl | exact .nil | (apply Imp.pick; (focus ((repeat constructor); done))) | refine .drop ?_))
 rw [dT_ h1]
 have hil : i < row.length := by omega
 have hkl := g1.1 hil
 refine e_condT ?_
 obtain ⟨g, o, rfl, _⟩ := hA.at_ (by omega)
 refine e_opN (v_ia1 i rfl hil) .nil ?_
 refine e_opN (v_ldRd hA (v := I row[i]) (I_get hil)) (.pick (by repeat constructor) .nil) ?_
 obtain ⟨v, hv⟩ : ∃ v, v = row[i] := ⟨_, rfl⟩
 have hvi : row[i]? = some v := by rw [hv]; exact List.getElem?_eq_getElem hil
 have hgd : row.getD i 0 = v := by rw [List.getD_eq_getElem?_getD, hvi]; rfl
 rw [<- hv]
 clear hv
 unfold I
 obtain ⟨N, hN⟩ : ∃ N, N = sameN row v i row.length 1 := ⟨_, rfl⟩
 refine e_loop1 (fun m2 y => (ex fun n : Nat => pu (m2 + i + n = row.length /\ y = .int .i64 (n : Int) /\ 1 <= n /\ sameN row v i m2 n = N)) :: Sl 3 180 oa oc ((runsF row).take k).length (((runsF row).take k).flatMap tdC) :: A :: F) (row.length - i - 1) ?_ ?_
 ·exact .ex 1 (.pu ⟨by omega, rfl, by omega, by rw [hN]; exact sameN_fuel _ _ _ (by omega) (by omega)⟩ .refl)
 intro m2 ds y5
 refine e_ex .here fun n => e_pu .here fun hn => ?_
 obtain ⟨hmn, rfl, hn1, hs⟩ := hn
 have stop : m2 = 0 \/ ¬ row[i + n]? = some v -> n = N := fun h => by
  rw [<- hs]
  rcases h with rfl | h
  ·rfl
  ·cases m2 with
   | zero => rfl
   | succ m2 => rw [sameN, if_neg h]
 (refine e_opN (v_add (by omega) (by omega)) .nil ?_); refine e_opN v_len .nil ?_
 by_cases h2 : (i : Int) + (n : Int) < (row.length : Int)
 ·refine e_opN v_lss .nil ?_
  rw [dT_ h2]
  refine e_gdT ?_; refine e_gdT ?_; refine e_gdT ?_; refine e_gdT ?_; (refine e_opN (v_add (by omega) (by omega)) .nil ?_); refine e_gdT ?_
  refine e_opN (v_ia1 (i + n) (by rfl) (by omega)) .nil ?_
  refine e_gdT ?_
  refine e_opN (v_ldRd hA (v := I row[i + n]) (I_get (by omega))) (.pick (by repeat constructor) .nil) ?_
  refine e_gdT ?_; refine e_gdT ?_
  unfold I
  refine e_opN v_eql .nil ?_
  by_cases h3 : row[i + n] = v
  ·rw [dT_ h3]
   refine e_opN v_pickT .nil ?_; refine e_condT ?_; (refine e_opN (v_add (by omega) (by omega)) .nil ?_)
   obtain ⟨m2, rfl⟩ : ∃ x, m2 = x + 1 := ⟨m2 - 1, by omega⟩
   refine e_next1 m2 (by omega) (.ex (n + 1) (.pu ⟨by omega, rfl, by omega, ?_⟩ (by (repeat (first | exact .refl | exact .nil | (apply Imp.pick; (focus ((repeat constructor); done))) | refine .drop ?_)))))
   rw [<- hs, sameN, if_pos (by rw [List.getElem?_eq_getElem (by omega), h3])]
  ·rw [dF_ h3]
   refine e_opN v_pickT .nil ?_; refine e_condF ?_
   have hnN := stop (by rw [List.getElem?_eq_getElem (by omega)]; exact .inr (fun h => h3 (Option.some.inj h)))
   clear stop hs
   subst hnN
   have htd : tdAt row i = if v = 0 /\ 11 <= n then (⟨18, 7, min n 138 - 11⟩, min n 138) else if v = 0 /\ 3 <= n then (⟨17, 3, n - 3⟩, n) else if (v ≠ 0 /\ 3 <= n) /\ (0 < i /\ row[i - 1]? = some v) then (⟨16, 2, min n 6 - 3⟩, min n 6) else (⟨v, 0, 0⟩, 1) := by
    unfold tdAt
    simp only
    rw [hgd, <- hN]
   have htn := tdAt_n hil
   obtain ⟨tn, htn2⟩ : ∃ tn, tn = tdAt row i := ⟨_, rfl⟩
   rw [<- htn2] at htd htn hnx g2
   have e4 : ((runsF row).take k).flatMap tdC ++ tdC tn.1 = ((runsF row).take (k + 1)).flatMap tdC := by
    rw [List.take_succ_eq_append_getElem hkl, List.flatMap_append, List.flatMap_singleton]
    have := g2 hkl
    rw [List.getElem?_eq_getElem hkl] at this
    rw [Option.some.inj this]
   have e5 : ((runsF row).take k).length + 1 = ((runsF row).take (k + 1)).length := by rw [List.length_take, List.length_take]; omega
   rw [if_pos hil] at hnx
   refine e_opN v_eql .nil ?_
   by_cases k0 : v = 0
   ·rw [dT_ k0]
    refine e_gdT ?_; refine e_gdT ?_
    refine e_opN v_geq .nil ?_
    by_cases k11 : (11 : Int) <= (n : Int)
    ·rw [dT_ k11]
     rw [if_pos ⟨k0, by omega⟩] at htd
     refine e_opN v_pickT .nil ?_; refine e_condT ?_
     refine e_opN v_min .nil ?_
     rw [show (if (138 : Int) < (n : Int) then (138 : Int) else (n : Int)) = ((min n 138 : Nat) : Int) by split <;> omega]
     (refine e_opN (v_sub (by omega) (by omega)) .nil ?_); refine e_opN v_rv .nil ?_
     rw [show ((min n 138 : Nat) : Int) - 11 = ((min n 138 - 11 : Nat) : Int) by omega]
     have hv : tdV tn.1 = .agg #[.int .i64 18, .int .i64 7, .int .i64 ((min n 138 - 11 : Nat) : Int)] := by rw [htd]; rfl
     have hst : (i : Int) + ((min n 138 : Nat) : Int) = (atR row (k + 1) : Int) := by rw [hnx, htd]; rfl
     rw [<- hv]
     refine e_bslS (n := 1) (vs := [tdV tn.1]) rfl (by decide) rfl (by intro v hv; rw [List.mem_singleton.1 hv]; rfl) (by decide) fun gb => ?_
     refine e_app (m := 1) (news := tdC tn.1) (by (repeat constructor) : Pick _ (Sl 3 180 oa oc ((runsF row).take k).length (((runsF row).take k).flatMap tdC)) _) (src_pt (s := 3) (e' := 180) (by kernel_rfl) (by repeat constructor) (by rfl) (by intro u hu; simp [tdV, Value.cells] at hu; rcases hu with rfl | rfl | rfl <;> rfl)) (by omega) (by omega) fun a4 c4 => ?_
     rw [e4, e5]
     refine e_opN (v_add (by omega) (by omega)) .nil ?_
     rw [hst]
     refine e_next2 (m - 1) (by omega) (.ex ((a4, c4), k + 1) (.all ?_))
     (try simp only [ca_, na_, -eq_self])
     refine .pu ⟨by omega, rfl, rfl⟩ ?_
     (repeat (first | exact .refl | exact .nil | (apply Imp.pick; (focus ((repeat constructor); done))) | refine .drop ?_))
    ·rw [dF_ k11]
     rw [if_neg (fun h => k11 (by omega))] at htd
     refine e_opN v_pickT .nil ?_; refine e_condF ?_
     refine e_opN v_eql .nil ?_
     rw [dT_ k0]
     refine e_gdT ?_; refine e_gdT ?_
     refine e_opN v_geq .nil ?_
     by_cases k3 : (3 : Int) <= (n : Int)
     ·rw [dT_ k3]
      rw [if_pos ⟨k0, by omega⟩] at htd
      refine e_opN v_pickT .nil ?_; refine e_condT ?_; (refine e_opN (v_sub (by omega) (by omega)) .nil ?_); refine e_opN v_rv .nil ?_
      rw [show (n : Int) - 3 = ((n - 3 : Nat) : Int) by omega]
      have hv : tdV tn.1 = .agg #[.int .i64 17, .int .i64 3, .int .i64 ((n - 3 : Nat) : Int)] := by rw [htd]; rfl
      have hst : (i : Int) + (n : Int) = (atR row (k + 1) : Int) := by rw [hnx, htd]; rfl
      rw [<- hv]
      refine e_bslS (n := 1) (vs := [tdV tn.1]) rfl (by decide) rfl (by intro v hv; rw [List.mem_singleton.1 hv]; rfl) (by decide) fun gb => ?_
      refine e_app (m := 1) (news := tdC tn.1) (by (repeat constructor) : Pick _ (Sl 3 180 oa oc ((runsF row).take k).length (((runsF row).take k).flatMap tdC)) _) (src_pt (s := 3) (e' := 180) (by kernel_rfl) (by repeat constructor) (by rfl) (by intro u hu; simp [tdV, Value.cells] at hu; rcases hu with rfl | rfl | rfl <;> rfl)) (by omega) (by omega) fun a4 c4 => ?_
      rw [e4, e5]
      refine e_opN (v_add (by omega) (by omega)) .nil ?_
      rw [hst]
      refine e_next2 (m - 1) (by omega) (.ex ((a4, c4), k + 1) (.all ?_))
      (try simp only [ca_, na_, -eq_self])
      refine .pu ⟨by omega, rfl, rfl⟩ ?_
      (repeat (first | exact .refl | exact .nil | (apply Imp.pick; (focus ((repeat constructor); done))) | refine .drop ?_))
     ·rw [dF_ k3]
      rw [if_neg (fun h => k3 (by omega)), if_neg (fun h => h.1.1 k0)] at htd
      have hv : tdV tn.1 = .agg #[.int .i64 v, .int .i64 0, .int .i64 0] := by rw [htd]; rfl
      have hst : (i : Int) + 1 = (atR row (k + 1) : Int) := by rw [hnx, htd]; rfl
      refine e_opN v_pickT .nil ?_; refine e_condF ?_
      refine e_opN v_neq .nil ?_
      rw [dF_ (fun h => h k0)]
      refine e_gdF2 ?_; refine e_gdF2 ?_; refine e_opN v_pickF .nil ?_; refine e_gdF2 ?_; refine e_gdF2 ?_; refine e_gdF2 ?_; refine e_gdF2 ?_; refine e_gdF2 ?_; refine e_gdF2 ?_; refine e_gdF2 ?_; refine e_opN v_pickF .nil ?_; refine e_gdF2 ?_; refine e_gdF2 ?_; refine e_opN v_pickF .nil ?_; refine e_condF ?_; refine e_opN v_rv .nil ?_
      rw [<- hv]
      refine e_bslS (n := 1) (vs := [tdV tn.1]) rfl (by decide) rfl (by intro v hv; rw [List.mem_singleton.1 hv]; rfl) (by decide) fun gb => ?_
      refine e_app (m := 1) (news := tdC tn.1) (by (repeat constructor) : Pick _ (Sl 3 180 oa oc ((runsF row).take k).length (((runsF row).take k).flatMap tdC)) _) (src_pt (s := 3) (e' := 180) (by kernel_rfl) (by repeat constructor) (by rfl) (by intro u hu; simp [tdV, Value.cells] at hu; rcases hu with rfl | rfl | rfl <;> rfl)) (by omega) (by omega) fun a4 c4 => ?_
      rw [e4, e5]
      refine e_opN (v_add (by omega) (by omega)) .nil ?_
      rw [hst]
      refine e_next2 (m - 1) (by omega) (.ex ((a4, c4), k + 1) (.all ?_))
      (try simp only [ca_, na_, -eq_self])
      refine .pu ⟨by omega, rfl, rfl⟩ ?_
      (repeat (first | exact .refl | exact .nil | (apply Imp.pick; (focus ((repeat constructor); done))) | refine .drop ?_))
   ·rw [dF_ k0]
    rw [if_neg (fun h => k0 h.1), if_neg (fun h => k0 h.1)] at htd
    have hv0 : ¬ ((v ≠ 0 /\ 3 <= n) /\ (0 < i /\ row[i - 1]? = some v)) -> tdV tn.1 = .agg #[.int .i64 v, .int .i64 0, .int .i64 0] /\ (i : Int) + 1 = (atR row (k + 1) : Int) := fun h => by
     rw [if_neg h] at htd
     exact ⟨by rw [htd]; rfl, by rw [hnx, htd]; rfl⟩
    refine e_gdF2 ?_; refine e_gdF2 ?_; refine e_opN v_pickF .nil ?_; refine e_condF ?_
    refine e_opN v_eql .nil ?_
    rw [dF_ k0]
    refine e_gdF2 ?_; refine e_gdF2 ?_; refine e_opN v_pickF .nil ?_; refine e_condF ?_
    refine e_opN v_neq .nil ?_
    rw [dT_ k0]
    refine e_gdT ?_; refine e_gdT ?_
    refine e_opN v_gtr .nil ?_
    by_cases ki : (0 : Int) < (i : Int)
    rotate_left
    ·rw [dF_ ki]
     obtain ⟨hv, hst⟩ := hv0 (fun h => ki (by omega))
     refine e_opN v_pickT .nil ?_; refine e_gdF2 ?_; refine e_gdF2 ?_; refine e_gdF2 ?_; refine e_gdF2 ?_; refine e_gdF2 ?_; refine e_gdF2 ?_; refine e_gdF2 ?_; refine e_opN v_pickF .nil ?_; refine e_gdF2 ?_; refine e_gdF2 ?_; refine e_opN v_pickF .nil ?_; refine e_condF ?_; refine e_opN v_rv .nil ?_
     rw [<- hv]
     refine e_bslS (n := 1) (vs := [tdV tn.1]) rfl (by decide) rfl (by intro v hv; rw [List.mem_singleton.1 hv]; rfl) (by decide) fun gb => ?_
     refine e_app (m := 1) (news := tdC tn.1) (by (repeat constructor) : Pick _ (Sl 3 180 oa oc ((runsF row).take k).length (((runsF row).take k).flatMap tdC)) _) (src_pt (s := 3) (e' := 180) (by kernel_rfl) (by repeat constructor) (by rfl) (by intro u hu; simp [tdV, Value.cells] at hu; rcases hu with rfl | rfl | rfl <;> rfl)) (by omega) (by omega) fun a4 c4 => ?_
     rw [e4, e5]
     refine e_opN (v_add (by omega) (by omega)) .nil ?_
     rw [hst]
     refine e_next2 (m - 1) (by omega) (.ex ((a4, c4), k + 1) (.all ?_))
     (try simp only [ca_, na_, -eq_self])
     refine .pu ⟨by omega, rfl, rfl⟩ ?_
     (repeat (first | exact .refl | exact .nil | (apply Imp.pick; (focus ((repeat constructor); done))) | refine .drop ?_))
    rw [dT_ ki]
    refine e_opN v_pickT .nil ?_; refine e_gdT ?_; refine e_gdT ?_; refine e_gdT ?_; (refine e_opN (v_sub (by omega) (by omega)) .nil ?_); refine e_gdT ?_
    refine e_opN (v_ia1 (i - 1) (by omega) (by omega)) .nil ?_
    refine e_gdT ?_
    refine e_opN (v_ldRd hA (v := I row[i - 1]) (I_get (by omega))) (.pick (by repeat constructor) .nil) ?_
    refine e_gdT ?_; refine e_gdT ?_
    unfold I
    refine e_opN v_eql .nil ?_
    by_cases kv : row[i - 1] = v
    rotate_left
    ·rw [dF_ kv]
     obtain ⟨hv, hst⟩ := hv0 (fun h => kv (by have := h.2.2; rw [List.getElem?_eq_getElem (by omega)] at this; exact Option.some.inj this))
     refine e_opN v_pickT .nil ?_; refine e_gdF2 ?_; refine e_gdF2 ?_; refine e_opN v_pickF .nil ?_; refine e_condF ?_; refine e_opN v_rv .nil ?_
     rw [<- hv]
     refine e_bslS (n := 1) (vs := [tdV tn.1]) rfl (by decide) rfl (by intro v hv; rw [List.mem_singleton.1 hv]; rfl) (by decide) fun gb => ?_
     refine e_app (m := 1) (news := tdC tn.1) (by (repeat constructor) : Pick _ (Sl 3 180 oa oc ((runsF row).take k).length (((runsF row).take k).flatMap tdC)) _) (src_pt (s := 3) (e' := 180) (by kernel_rfl) (by repeat constructor) (by rfl) (by intro u hu; simp [tdV, Value.cells] at hu; rcases hu with rfl | rfl | rfl <;> rfl)) (by omega) (by omega) fun a4 c4 => ?_
     rw [e4, e5]
     refine e_opN (v_add (by omega) (by omega)) .nil ?_
     rw [hst]
     refine e_next2 (m - 1) (by omega) (.ex ((a4, c4), k + 1) (.all ?_))
     (try simp only [ca_, na_, -eq_self])
     refine .pu ⟨by omega, rfl, rfl⟩ ?_
     (repeat (first | exact .refl | exact .nil | (apply Imp.pick; (focus ((repeat constructor); done))) | refine .drop ?_))
    rw [dT_ kv]
    refine e_opN v_pickT .nil ?_; refine e_gdT ?_; refine e_gdT ?_
    refine e_opN v_geq .nil ?_
    by_cases k3 : (3 : Int) <= (n : Int)
    rotate_left
    ·rw [dF_ k3]
     obtain ⟨hv, hst⟩ := hv0 (fun h => k3 (by omega))
     refine e_opN v_pickT .nil ?_; refine e_condF ?_; refine e_opN v_rv .nil ?_
     rw [<- hv]
     refine e_bslS (n := 1) (vs := [tdV tn.1]) rfl (by decide) rfl (by intro v hv; rw [List.mem_singleton.1 hv]; rfl) (by decide) fun gb => ?_
     refine e_app (m := 1) (news := tdC tn.1) (by (repeat constructor) : Pick _ (Sl 3 180 oa oc ((runsF row).take k).length (((runsF row).take k).flatMap tdC)) _) (src_pt (s := 3) (e' := 180) (by kernel_rfl) (by repeat constructor) (by rfl) (by intro u hu; simp [tdV, Value.cells] at hu; rcases hu with rfl | rfl | rfl <;> rfl)) (by omega) (by omega) fun a4 c4 => ?_
     rw [e4, e5]
     refine e_opN (v_add (by omega) (by omega)) .nil ?_
     rw [hst]
     refine e_next2 (m - 1) (by omega) (.ex ((a4, c4), k + 1) (.all ?_))
     (try simp only [ca_, na_, -eq_self])
     refine .pu ⟨by omega, rfl, rfl⟩ ?_
     (repeat (first | exact .refl | exact .nil | (apply Imp.pick; (focus ((repeat constructor); done))) | refine .drop ?_))
    rw [dT_ k3]
    rw [if_pos ⟨⟨k0, by omega⟩, by omega, by rw [List.getElem?_eq_getElem (by omega), kv]⟩] at htd
    refine e_opN v_pickT .nil ?_; refine e_condT ?_
    refine e_opN v_min .nil ?_
    rw [show (if (6 : Int) < (n : Int) then (6 : Int) else (n : Int)) = ((min n 6 : Nat) : Int) by split <;> omega]
    (refine e_opN (v_sub (by omega) (by omega)) .nil ?_); refine e_opN v_rv .nil ?_
    rw [show ((min n 6 : Nat) : Int) - 3 = ((min n 6 - 3 : Nat) : Int) by omega]
    have hv : tdV tn.1 = .agg #[.int .i64 16, .int .i64 2, .int .i64 ((min n 6 - 3 : Nat) : Int)] := by rw [htd]; rfl
    have hst : (i : Int) + ((min n 6 : Nat) : Int) = (atR row (k + 1) : Int) := by rw [hnx, htd]; rfl
    rw [<- hv]
    refine e_bslS (n := 1) (vs := [tdV tn.1]) rfl (by decide) rfl (by intro v hv; rw [List.mem_singleton.1 hv]; rfl) (by decide) fun gb => ?_
    refine e_app (m := 1) (news := tdC tn.1) (by (repeat constructor) : Pick _ (Sl 3 180 oa oc ((runsF row).take k).length (((runsF row).take k).flatMap tdC)) _) (src_pt (s := 3) (e' := 180) (by kernel_rfl) (by repeat constructor) (by rfl) (by intro u hu; simp [tdV, Value.cells] at hu; rcases hu with rfl | rfl | rfl <;> rfl)) (by omega) (by omega) fun a4 c4 => ?_
    rw [e4, e5]
    refine e_opN (v_add (by omega) (by omega)) .nil ?_
    rw [hst]
    refine e_next2 (m - 1) (by omega) (.ex ((a4, c4), k + 1) (.all ?_))
    (try simp only [ca_, na_, -eq_self])
    refine .pu ⟨by omega, rfl, rfl⟩ ?_
    (repeat (first | exact .refl | exact .nil | (apply Imp.pick; (focus ((repeat constructor); done))) | refine .drop ?_))
 ·refine e_opN v_lss .nil ?_
  rw [dF_ h2]
  refine e_gdF2 ?_; refine e_gdF2 ?_; refine e_gdF2 ?_; refine e_gdF2 ?_; refine e_gdF2 ?_; refine e_gdF2 ?_; refine e_gdF2 ?_; refine e_gdF2 ?_; refine e_opN v_pickF .nil ?_; refine e_condF ?_
  have hnN := stop (by exact .inl (by omega))
  clear stop hs
  subst hnN
  have htd : tdAt row i = if v = 0 /\ 11 <= n then (⟨18, 7, min n 138 - 11⟩, min n 138) else if v = 0 /\ 3 <= n then (⟨17, 3, n - 3⟩, n) else if (v ≠ 0 /\ 3 <= n) /\ (0 < i /\ row[i - 1]? = some v) then (⟨16, 2, min n 6 - 3⟩, min n 6) else (⟨v, 0, 0⟩, 1) := by
   unfold tdAt
   simp only
   rw [hgd, <- hN]
  have htn := tdAt_n hil
  obtain ⟨tn, htn2⟩ : ∃ tn, tn = tdAt row i := ⟨_, rfl⟩
  rw [<- htn2] at htd htn hnx g2
  have e4 : ((runsF row).take k).flatMap tdC ++ tdC tn.1 = ((runsF row).take (k + 1)).flatMap tdC := by
   rw [List.take_succ_eq_append_getElem hkl, List.flatMap_append, List.flatMap_singleton]
   have := g2 hkl
   rw [List.getElem?_eq_getElem hkl] at this
   rw [Option.some.inj this]
  have e5 : ((runsF row).take k).length + 1 = ((runsF row).take (k + 1)).length := by rw [List.length_take, List.length_take]; omega
  rw [if_pos hil] at hnx
  refine e_opN v_eql .nil ?_
  by_cases k0 : v = 0
  ·rw [dT_ k0]
   refine e_gdT ?_; refine e_gdT ?_
   refine e_opN v_geq .nil ?_
   by_cases k11 : (11 : Int) <= (n : Int)
   ·rw [dT_ k11]
    rw [if_pos ⟨k0, by omega⟩] at htd
    refine e_opN v_pickT .nil ?_; refine e_condT ?_
    refine e_opN v_min .nil ?_
    rw [show (if (138 : Int) < (n : Int) then (138 : Int) else (n : Int)) = ((min n 138 : Nat) : Int) by split <;> omega]
    (refine e_opN (v_sub (by omega) (by omega)) .nil ?_); refine e_opN v_rv .nil ?_
    rw [show ((min n 138 : Nat) : Int) - 11 = ((min n 138 - 11 : Nat) : Int) by omega]
    have hv : tdV tn.1 = .agg #[.int .i64 18, .int .i64 7, .int .i64 ((min n 138 - 11 : Nat) : Int)] := by rw [htd]; rfl
    have hst : (i : Int) + ((min n 138 : Nat) : Int) = (atR row (k + 1) : Int) := by rw [hnx, htd]; rfl
    rw [<- hv]
    refine e_bslS (n := 1) (vs := [tdV tn.1]) rfl (by decide) rfl (by intro v hv; rw [List.mem_singleton.1 hv]; rfl) (by decide) fun gb => ?_
    refine e_app (m := 1) (news := tdC tn.1) (by (repeat constructor) : Pick _ (Sl 3 180 oa oc ((runsF row).take k).length (((runsF row).take k).flatMap tdC)) _) (src_pt (s := 3) (e' := 180) (by kernel_rfl) (by repeat constructor) (by rfl) (by intro u hu; simp [tdV, Value.cells] at hu; rcases hu with rfl | rfl | rfl <;> rfl)) (by omega) (by omega) fun a4 c4 => ?_
    rw [e4, e5]
    refine e_opN (v_add (by omega) (by omega)) .nil ?_
    rw [hst]
    refine e_next2 (m - 1) (by omega) (.ex ((a4, c4), k + 1) (.all ?_))
    (try simp only [ca_, na_, -eq_self])
    refine .pu ⟨by omega, rfl, rfl⟩ ?_
    (repeat (first | exact .refl | exact .nil | (apply Imp.pick; (focus ((repeat constructor); done))) | refine .drop ?_))
   ·rw [dF_ k11]
    rw [if_neg (fun h => k11 (by omega))] at htd
    refine e_opN v_pickT .nil ?_; refine e_condF ?_
    refine e_opN v_eql .nil ?_
    rw [dT_ k0]
    refine e_gdT ?_; refine e_gdT ?_
    refine e_opN v_geq .nil ?_
    by_cases k3 : (3 : Int) <= (n : Int)
    ·rw [dT_ k3]
     rw [if_pos ⟨k0, by omega⟩] at htd
     refine e_opN v_pickT .nil ?_; refine e_condT ?_; (refine e_opN (v_sub (by omega) (by omega)) .nil ?_); refine e_opN v_rv .nil ?_
     rw [show (n : Int) - 3 = ((n - 3 : Nat) : Int) by omega]
     have hv : tdV tn.1 = .agg #[.int .i64 17, .int .i64 3, .int .i64 ((n - 3 : Nat) : Int)] := by rw [htd]; rfl
     have hst : (i : Int) + (n : Int) = (atR row (k + 1) : Int) := by rw [hnx, htd]; rfl
     rw [<- hv]
     refine e_bslS (n := 1) (vs := [tdV tn.1]) rfl (by decide) rfl (by intro v hv; rw [List.mem_singleton.1 hv]; rfl) (by decide) fun gb => ?_
     refine e_app (m := 1) (news := tdC tn.1) (by (repeat constructor) : Pick _ (Sl 3 180 oa oc ((runsF row).take k).length (((runsF row).take k).flatMap tdC)) _) (src_pt (s := 3) (e' := 180) (by kernel_rfl) (by repeat constructor) (by rfl) (by intro u hu; simp [tdV, Value.cells] at hu; rcases hu with rfl | rfl | rfl <;> rfl)) (by omega) (by omega) fun a4 c4 => ?_
     rw [e4, e5]
     refine e_opN (v_add (by omega) (by omega)) .nil ?_
     rw [hst]
     refine e_next2 (m - 1) (by omega) (.ex ((a4, c4), k + 1) (.all ?_))
     (try simp only [ca_, na_, -eq_self])
     refine .pu ⟨by omega, rfl, rfl⟩ ?_
     (repeat (first | exact .refl | exact .nil | (apply Imp.pick; (focus ((repeat constructor); done))) | refine .drop ?_))
    ·rw [dF_ k3]
     rw [if_neg (fun h => k3 (by omega)), if_neg (fun h => h.1.1 k0)] at htd
     have hv : tdV tn.1 = .agg #[.int .i64 v, .int .i64 0, .int .i64 0] := by rw [htd]; rfl
     have hst : (i : Int) + 1 = (atR row (k + 1) : Int) := by rw [hnx, htd]; rfl
     refine e_opN v_pickT .nil ?_; refine e_condF ?_
     refine e_opN v_neq .nil ?_
     rw [dF_ (fun h => h k0)]
     refine e_gdF2 ?_; refine e_gdF2 ?_; refine e_opN v_pickF .nil ?_; refine e_gdF2 ?_; refine e_gdF2 ?_; refine e_gdF2 ?_; refine e_gdF2 ?_; refine e_gdF2 ?_; refine e_gdF2 ?_; refine e_gdF2 ?_; refine e_opN v_pickF .nil ?_; refine e_gdF2 ?_; refine e_gdF2 ?_; refine e_opN v_pickF .nil ?_; refine e_condF ?_; refine e_opN v_rv .nil ?_
     rw [<- hv]
     refine e_bslS (n := 1) (vs := [tdV tn.1]) rfl (by decide) rfl (by intro v hv; rw [List.mem_singleton.1 hv]; rfl) (by decide) fun gb => ?_
     refine e_app (m := 1) (news := tdC tn.1) (by (repeat constructor) : Pick _ (Sl 3 180 oa oc ((runsF row).take k).length (((runsF row).take k).flatMap tdC)) _) (src_pt (s := 3) (e' := 180) (by kernel_rfl) (by repeat constructor) (by rfl) (by intro u hu; simp [tdV, Value.cells] at hu; rcases hu with rfl | rfl | rfl <;> rfl)) (by omega) (by omega) fun a4 c4 => ?_
     rw [e4, e5]
     refine e_opN (v_add (by omega) (by omega)) .nil ?_
     rw [hst]
     refine e_next2 (m - 1) (by omega) (.ex ((a4, c4), k + 1) (.all ?_))
     (try simp only [ca_, na_, -eq_self])
     refine .pu ⟨by omega, rfl, rfl⟩ ?_
     (repeat (first | exact .refl | exact .nil | (apply Imp.pick; (focus ((repeat constructor); done))) | refine .drop ?_))
  ·rw [dF_ k0]
   rw [if_neg (fun h => k0 h.1), if_neg (fun h => k0 h.1)] at htd
   have hv0 : ¬ ((v ≠ 0 /\ 3 <= n) /\ (0 < i /\ row[i - 1]? = some v)) -> tdV tn.1 = .agg #[.int .i64 v, .int .i64 0, .int .i64 0] /\ (i : Int) + 1 = (atR row (k + 1) : Int) := fun h => by
    rw [if_neg h] at htd
    exact ⟨by rw [htd]; rfl, by rw [hnx, htd]; rfl⟩
   refine e_gdF2 ?_; refine e_gdF2 ?_; refine e_opN v_pickF .nil ?_; refine e_condF ?_
   refine e_opN v_eql .nil ?_
   rw [dF_ k0]
   refine e_gdF2 ?_; refine e_gdF2 ?_; refine e_opN v_pickF .nil ?_; refine e_condF ?_
   refine e_opN v_neq .nil ?_
   rw [dT_ k0]
   refine e_gdT ?_; refine e_gdT ?_
   refine e_opN v_gtr .nil ?_
   by_cases ki : (0 : Int) < (i : Int)
   rotate_left
   ·rw [dF_ ki]
    obtain ⟨hv, hst⟩ := hv0 (fun h => ki (by omega))
    refine e_opN v_pickT .nil ?_; refine e_gdF2 ?_; refine e_gdF2 ?_; refine e_gdF2 ?_; refine e_gdF2 ?_; refine e_gdF2 ?_; refine e_gdF2 ?_; refine e_gdF2 ?_; refine e_opN v_pickF .nil ?_; refine e_gdF2 ?_; refine e_gdF2 ?_; refine e_opN v_pickF .nil ?_; refine e_condF ?_; refine e_opN v_rv .nil ?_
    rw [<- hv]
    refine e_bslS (n := 1) (vs := [tdV tn.1]) rfl (by decide) rfl (by intro v hv; rw [List.mem_singleton.1 hv]; rfl) (by decide) fun gb => ?_
    refine e_app (m := 1) (news := tdC tn.1) (by (repeat constructor) : Pick _ (Sl 3 180 oa oc ((runsF row).take k).length (((runsF row).take k).flatMap tdC)) _) (src_pt (s := 3) (e' := 180) (by kernel_rfl) (by repeat constructor) (by rfl) (by intro u hu; simp [tdV, Value.cells] at hu; rcases hu with rfl | rfl | rfl <;> rfl)) (by omega) (by omega) fun a4 c4 => ?_
    rw [e4, e5]
    refine e_opN (v_add (by omega) (by omega)) .nil ?_
    rw [hst]
    refine e_next2 (m - 1) (by omega) (.ex ((a4, c4), k + 1) (.all ?_))
    (try simp only [ca_, na_, -eq_self])
    refine .pu ⟨by omega, rfl, rfl⟩ ?_
    (repeat (first | exact .refl | exact .nil | (apply Imp.pick; (focus ((repeat constructor); done))) | refine .drop ?_))
   rw [dT_ ki]
   refine e_opN v_pickT .nil ?_; refine e_gdT ?_; refine e_gdT ?_; refine e_gdT ?_; (refine e_opN (v_sub (by omega) (by omega)) .nil ?_); refine e_gdT ?_
   refine e_opN (v_ia1 (i - 1) (by omega) (by omega)) .nil ?_
   refine e_gdT ?_
   refine e_opN (v_ldRd hA (v := I row[i - 1]) (I_get (by omega))) (.pick (by repeat constructor) .nil) ?_
   refine e_gdT ?_; refine e_gdT ?_
   unfold I
   refine e_opN v_eql .nil ?_
   by_cases kv : row[i - 1] = v
   rotate_left
   ·rw [dF_ kv]
    obtain ⟨hv, hst⟩ := hv0 (fun h => kv (by have := h.2.2; rw [List.getElem?_eq_getElem (by omega)] at this; exact Option.some.inj this))
    refine e_opN v_pickT .nil ?_; refine e_gdF2 ?_; refine e_gdF2 ?_; refine e_opN v_pickF .nil ?_; refine e_condF ?_; refine e_opN v_rv .nil ?_
    rw [<- hv]
    refine e_bslS (n := 1) (vs := [tdV tn.1]) rfl (by decide) rfl (by intro v hv; rw [List.mem_singleton.1 hv]; rfl) (by decide) fun gb => ?_
    refine e_app (m := 1) (news := tdC tn.1) (by (repeat constructor) : Pick _ (Sl 3 180 oa oc ((runsF row).take k).length (((runsF row).take k).flatMap tdC)) _) (src_pt (s := 3) (e' := 180) (by kernel_rfl) (by repeat constructor) (by rfl) (by intro u hu; simp [tdV, Value.cells] at hu; rcases hu with rfl | rfl | rfl <;> rfl)) (by omega) (by omega) fun a4 c4 => ?_
    rw [e4, e5]
    refine e_opN (v_add (by omega) (by omega)) .nil ?_
    rw [hst]
    refine e_next2 (m - 1) (by omega) (.ex ((a4, c4), k + 1) (.all ?_))
    (try simp only [ca_, na_, -eq_self])
    refine .pu ⟨by omega, rfl, rfl⟩ ?_
    (repeat (first | exact .refl | exact .nil | (apply Imp.pick; (focus ((repeat constructor); done))) | refine .drop ?_))
   rw [dT_ kv]
   refine e_opN v_pickT .nil ?_; refine e_gdT ?_; refine e_gdT ?_
   refine e_opN v_geq .nil ?_
   by_cases k3 : (3 : Int) <= (n : Int)
   rotate_left
   ·rw [dF_ k3]
    obtain ⟨hv, hst⟩ := hv0 (fun h => k3 (by omega))
    refine e_opN v_pickT .nil ?_; refine e_condF ?_; refine e_opN v_rv .nil ?_
    rw [<- hv]
    refine e_bslS (n := 1) (vs := [tdV tn.1]) rfl (by decide) rfl (by intro v hv; rw [List.mem_singleton.1 hv]; rfl) (by decide) fun gb => ?_
    refine e_app (m := 1) (news := tdC tn.1) (by (repeat constructor) : Pick _ (Sl 3 180 oa oc ((runsF row).take k).length (((runsF row).take k).flatMap tdC)) _) (src_pt (s := 3) (e' := 180) (by kernel_rfl) (by repeat constructor) (by rfl) (by intro u hu; simp [tdV, Value.cells] at hu; rcases hu with rfl | rfl | rfl <;> rfl)) (by omega) (by omega) fun a4 c4 => ?_
    rw [e4, e5]
    refine e_opN (v_add (by omega) (by omega)) .nil ?_
    rw [hst]
    refine e_next2 (m - 1) (by omega) (.ex ((a4, c4), k + 1) (.all ?_))
    (try simp only [ca_, na_, -eq_self])
    refine .pu ⟨by omega, rfl, rfl⟩ ?_
    (repeat (first | exact .refl | exact .nil | (apply Imp.pick; (focus ((repeat constructor); done))) | refine .drop ?_))
   rw [dT_ k3]
   rw [if_pos ⟨⟨k0, by omega⟩, by omega, by rw [List.getElem?_eq_getElem (by omega), kv]⟩] at htd
   refine e_opN v_pickT .nil ?_; refine e_condT ?_
   refine e_opN v_min .nil ?_
   rw [show (if (6 : Int) < (n : Int) then (6 : Int) else (n : Int)) = ((min n 6 : Nat) : Int) by split <;> omega]
   (refine e_opN (v_sub (by omega) (by omega)) .nil ?_); refine e_opN v_rv .nil ?_
   rw [show ((min n 6 : Nat) : Int) - 3 = ((min n 6 - 3 : Nat) : Int) by omega]
   have hv : tdV tn.1 = .agg #[.int .i64 16, .int .i64 2, .int .i64 ((min n 6 - 3 : Nat) : Int)] := by rw [htd]; rfl
   have hst : (i : Int) + ((min n 6 : Nat) : Int) = (atR row (k + 1) : Int) := by rw [hnx, htd]; rfl
   rw [<- hv]
   refine e_bslS (n := 1) (vs := [tdV tn.1]) rfl (by decide) rfl (by intro v hv; rw [List.mem_singleton.1 hv]; rfl) (by decide) fun gb => ?_
   refine e_app (m := 1) (news := tdC tn.1) (by (repeat constructor) : Pick _ (Sl 3 180 oa oc ((runsF row).take k).length (((runsF row).take k).flatMap tdC)) _) (src_pt (s := 3) (e' := 180) (by kernel_rfl) (by repeat constructor) (by rfl) (by intro u hu; simp [tdV, Value.cells] at hu; rcases hu with rfl | rfl | rfl <;> rfl)) (by omega) (by omega) fun a4 c4 => ?_
   rw [e4, e5]
   refine e_opN (v_add (by omega) (by omega)) .nil ?_
   rw [hst]
   refine e_next2 (m - 1) (by omega) (.ex ((a4, c4), k + 1) (.all ?_))
   (try simp only [ca_, na_, -eq_self])
   refine .pu ⟨by omega, rfl, rfl⟩ ?_
   (repeat (first | exact .refl | exact .nil | (apply Imp.pick; (focus ((repeat constructor); done))) | refine .drop ?_))
theorem td_get : ∀ {T : List Td} {i j : Nat} (h : i < T.length), j < 3 -> (T.flatMap tdC)[i * 3 + j]? = (tdC T[i])[j]?
 | y :: T, 0, j, h, hj => by
  rw [List.flatMap_cons, List.getElem?_append_left (by simp [tdC]; omega)]
  simp
 | y :: T, i + 1, j, h, hj => by
  rw [List.flatMap_cons, List.getElem?_append_right (by simp [tdC]; omega), show (i + 1) * 3 + j - (tdC y).length = i * 3 + j by simp [tdC]; omega]
  exact td_get (by simpa using h) hj
theorem td_len (T : List Td) : (T.flatMap tdC).length = T.length * 3 := by
 induction T with
 | nil => rfl
 | cons y T ih => rw [List.flatMap_cons, List.length_append, ih, List.length_cons]; simp [tdC]; omega
theorem kn_one {T : List Td} (h : knT T = 1) (h0 : 0 < cntT T 0) : cntT T 1 = 0 := by
 unfold knT frq0 at h
 rw [show (List.range 19).map (fun s => (cntT T s : Int)) = (cntT T 0 : Int) :: (cntT T 1 : Int) :: ((List.range 17).map fun s => (cntT T (s + 2) : Int)) from rfl] at h
 rw [List.countP_cons, List.countP_cons] at h
 by_cases c : cntT T 1 = 0
 ·exact c
 ·rw [if_pos (by simp; omega), if_pos (by simp; omega)] at h
  omega
theorem rhead {W : World} {w ga gb c1 c2 : Nat} {la lb : List Int} {L : List Bool} (va : ∀ x ∈ la, 0 <= x /\ x <= 15) (vb : ∀ x ∈ lb, 0 <= x /\ x <= 15) (h1 : la.length = 286) (h2 : lb.length = 30) (hc1 : la.length <= c1) (hc2 : lb.length <= c2) (hL : L.length + (hdX la lb).length <= 8388608) :
  Cn p_ 96 [.pointer (some ⟨w, 0, none⟩), .slice (some ⟨ga, 0, none⟩) la.length c1, .slice (some ⟨gb, 0, none⟩) lb.length c2] W [IsX w L, Sl 1 3 (some ⟨ga, 0, none⟩) c1 la.length (la.map I), Sl 1 3 (some ⟨gb, 0, none⟩) c2 lb.length (lb.map I)] (fun _ : Unit => .tuple #[])
   (fun _ => [IsX w (L ++ hdX la lb), Sl 1 3 (some ⟨ga, 0, none⟩) c1 la.length (la.map I), Sl 1 3 (some ⟨gb, 0, none⟩) c2 lb.length (lb.map I)]) := by
 obtain ⟨T, hT⟩ : ∃ T, T = runsF (hdRow la lb) := ⟨_, rfl⟩
 obtain ⟨u1, u2, u3⟩ := upto_ok la 257 (by omega)
 obtain ⟨w1, w2, w3⟩ := upto_ok lb 1 (by omega)
 have hrow : (hdRow la lb).length = upto la 257 + upto lb 1 := by
  unfold hdRow; rw [List.length_append, List.length_take, List.length_take]; omega
 have hrv := hdRow_b va vb
 have hTl : T.length <= 1000 := by
  have := runsN_len (hdRow la lb) ((hdRow la lb).length + 1) 0
  rw [hT]; unfold runsF; omega
 have hTs : ∀ t ∈ T, 0 <= t.sym /\ t.sym <= 18 /\ t.extra < 2 ^ t.bits /\ t.bits <= 7 := fun t ht => runsN_sym hrv _ _ t (by rw [hT] at ht; exact ht)
 obtain ⟨D, hD⟩ : ∃ D, D = hdLen la lb := ⟨_, rfl⟩
 have hDe : lenV (frqT T) 7 = D := by rw [hD, hT]; rfl
 have hDE : lenE (frqT T) 7 = 0 := by rw [hT]; exact frqT_E (by omega)
 have hD19 : D.length = 19 := by rw [<- hDe, (PM.lenV_facts hDE).1]; unfold frqT; rw [oneK_len]; simp [frq0]
 have hDv : ∀ x ∈ D, 0 <= x /\ x <= 7 := fun x hx => (PM.lenV_facts hDE).2.2.2.2.1 x (by rw [hDe]; exact hx)
 obtain ⟨O, hO⟩ : ∃ O, O = hdOrd D := ⟨_, rfl⟩
 have hO19 : O.length = 19 := by rw [hO]; simp [hdOrd, ordL]
 have hOv : ∀ x ∈ O, 0 <= x /\ x <= 7 := fun x hx => by
  rw [hO] at hx
  obtain ⟨k, _, rfl⟩ := List.mem_map.1 hx
  rw [List.getD_eq_getElem?_getD]
  cases hk : D[k]? with
  | none => exact ⟨by simp, by simp⟩
  | some y => exact hDv y (List.mem_of_getElem? hk)
 obtain ⟨q1, q2, q3⟩ := upto_ok O 4 (by omega)
 obtain ⟨c, hc⟩ : ∃ c, c = upto O 4 := ⟨_, rfl⟩
 rw [<- hc] at q1 q2 q3
 have hX : hdX la lb = bitsOf (upto la 257 - 257) 5 ++ (bitsOf (upto lb 1 - 1) 5 ++ (bitsOf (c - 4) 4 ++ ((O.take c).flatMap (fun n => bitsOf n.toNat 3) ++ T.flatMap (tdB D)))) := by
  unfold hdX
  simp only
  rw [<- hD, <- hO, <- hc, <- hT]
  simp only [List.append_assoc]
  rfl
 rw [hX] at hL ⊢
 simp only [List.length_append, length_bitsOf] at hL
 obtain ⟨M0, hM0⟩ : ∃ M0, M0 = L ++ (bitsOf (upto la 257 - 257) 5 ++ (bitsOf (upto lb 1 - 1) 5 ++ bitsOf (c - 4) 4)) := ⟨_, rfl⟩
 have hM0l : M0.length = L.length + 14 := by rw [hM0]; simp only [List.length_append, length_bitsOf]
 have hfin : L ++ (bitsOf (upto la 257 - 257) 5 ++ (bitsOf (upto lb 1 - 1) 5 ++ (bitsOf (c - 4) 4 ++ ((O.take c).flatMap (fun n => bitsOf n.toNat 3) ++ T.flatMap (tdB D))))) = M0 ++ (O.take c).flatMap (fun n => bitsOf n.toNat 3) ++ T.flatMap (tdB D) := by
  rw [hM0]; simp only [List.append_assoc]
 rw [hfin]
 have hrowe : hdRow la lb = la.take (upto la 257) ++ lb.take (upto lb 1) := rfl
 obtain ⟨R, hR⟩ : ∃ R, R = hdRow la lb := ⟨_, rfl⟩
 rw [<- hR] at hrow hrowe hT
 obtain ⟨ua, hua⟩ : ∃ ua, ua = upto la 257 := ⟨_, rfl⟩
 obtain ⟨ub_, hub⟩ : ∃ ub_, ub_ = upto lb 1 := ⟨_, rfl⟩
 have ra : RdB W (Sl 1 3 (some ⟨ga, 0, none⟩) c1 la.length (la.map I)) (some ⟨ga, 0, none⟩) la.length (la.map I) := rd_sl (by rw [List.length_map]) (fun _ => ⟨ga, rfl⟩)
 have rb : RdB W (Sl 1 3 (some ⟨gb, 0, none⟩) c2 lb.length (lb.map I)) (some ⟨gb, 0, none⟩) lb.length (lb.map I) := rd_sl (by rw [List.length_map]) (fun _ => ⟨gb, rfl⟩)
 (refine S.ref06_head_cn fun F => ?_; unfold S.ref06_head; simp only [ca_, na_])
 (refine' e_call (rupto (cap := c1) (least := 257) ra (by omega) (by omega)) ?hp fun _ => ?_; (case hp => (repeat (first | exact Picks.nil | (apply Picks.cons; (focus repeat constructor))))); (try simp only [ca_, na_, Bool.not_true, Bool.not_false]))
 (refine' e_call (rupto (cap := c2) (least := 1) rb (by omega) (by omega)) ?hp fun _ => ?_; (case hp => (repeat (first | exact Picks.nil | (apply Picks.cons; (focus repeat constructor))))); (try simp only [ca_, na_, Bool.not_true, Bool.not_false]))
 rw [<- hua, <- hub]
 rw [<- hua] at u1 u2 u3 hrow hrowe
 rw [<- hub] at w1 w2 w3 hrow hrowe
 have ta : (la.take ua).length = ua := by rw [List.length_take]; omega
 have tb : (lb.take ub_).length = ub_ := by rw [List.length_take]; omega
 have ra2 : RdB W (Sl 1 3 (some ⟨ga, 0, none⟩) c1 la.length (la.map I)) (some ⟨ga, 0, none⟩) ua ((la.take ua).map I) := by rw [List.map_take]; exact rd_pre ra u1
 have rb2 : RdB W (Sl 1 3 (some ⟨gb, 0, none⟩) c2 lb.length (lb.map I)) (some ⟨gb, 0, none⟩) ub_ ((lb.take ub_).map I) := by rw [List.map_take]; exact rd_pre rb w1
 refine e_drS ?_
 refine e_stD (v_slh0 ua rfl (by omega)) .nil ?_
 refine e_stD (v_slh0 ub_ rfl (by omega)) .nil ?_
 refine e_bsl0 fun gz => ?_
 (((refine e_obl ?hi ?_); (case hi => (repeat (first | exact .refl | exact .nil | (apply Imp.pick; (focus ((repeat constructor); done))) | refine .drop ?_))))); (((refine e_obl ?hi ?_); (case hi => (repeat (first | exact .refl | exact .nil | (apply Imp.pick; (focus ((repeat constructor); done))) | refine .drop ?_)))))
 refine e_app (m := ua) (news := (la.take ua).map I) .here (src_rd (A := Sl 1 3 (some ⟨ga, 0, none⟩) c1 la.length (la.map I)) (e' := 3) (by kernel_rfl) (by repeat constructor) ra2 (fun c => by cases c) I_one) (by omega) (by omega) fun a1 k1 => ?_
 (((refine e_obl ?hi ?_); (case hi => (repeat (first | exact .refl | exact .nil | (apply Imp.pick; (focus ((repeat constructor); done))) | refine .drop ?_)))))
 refine e_app (m := ub_) (news := (lb.take ub_).map I) .here (src_rd (A := Sl 1 3 (some ⟨gb, 0, none⟩) c2 lb.length (lb.map I)) (e' := 3) (by kernel_rfl) (by repeat constructor) rb2 (fun c => by cases c) I_one) (by omega) (by omega) fun a2 k2 => ?_
 rw [show [] ++ (la.take ua).map I ++ (lb.take ub_).map I = R.map I by rw [hrowe, List.map_append, List.nil_append], show 0 + ua + ub_ = R.length by omega]
 refine e_slfacts .here fun _ _ _ fr4 => ?_
 have rR : RdB W (Sl 1 3 a2 k2 R.length (R.map I)) a2 R.length (R.map I) := rd_sl (by rw [List.length_map]) fr4
 have hrr := rruns (W := W) (c := k2) rR (by omega)
 rw [<- hT] at hrr
 (refine' e_call (hrr) ?hp fun _ => ?_; (case hp => (repeat (first | exact Picks.nil | (apply Picks.cons; (focus repeat constructor))))); (try simp only [ca_, na_, Bool.not_true, Bool.not_false]))
 rename_i qt
 obtain ⟨tq, tc⟩ := qt
 (try dsimp only)
 refine e_mksl 19 19 (by rfl) (by rfl) (by omega) (by omega) (by unfold maxLen; omega) fun gc => ?_
 refine e_slfacts (by (repeat constructor) : Pick _ (Sl 3 180 tq tc T.length (T.flatMap tdC)) _) fun _ _ _ ft4 => ?_
 have rT : RdB W (Sl 3 180 tq tc T.length (T.flatMap tdC)) tq (T.length * 3) (T.flatMap tdC) := rd_slG (td_len T) ft4
 obtain ⟨AT, hAT⟩ : ∃ AT, AT = Sl 3 180 tq tc T.length (T.flatMap tdC) := ⟨_, rfl⟩
 obtain ⟨SA, hSA⟩ : ∃ SA, SA = Sl 1 3 (some ⟨ga, 0, none⟩) c1 la.length (la.map I) := ⟨_, rfl⟩
 obtain ⟨SB, hSB⟩ : ∃ SB, SB = Sl 1 3 (some ⟨gb, 0, none⟩) c2 lb.length (lb.map I) := ⟨_, rfl⟩
 rw [<- hAT] at rT
 rw [<- hAT, <- hSA, <- hSB]
 refine e_loop2 (fun m y z => (ex fun k : Nat => all [pu (m + k = T.length /\ y = .int .i64 (knT (T.take k) : Int) /\ z = .int .i64 (k : Int)), Sl 1 3 (some ⟨gc, 0, none⟩) 19 19 (Ln 19 fun s => (cntT (T.take k) s : Int))]) :: AT :: IsX w L :: SA :: SB :: F) T.length ?_ ?_
 ·refine .ex 0 (.all ?_)
  (try simp only [ca_, na_, -eq_self])
  refine .pu ⟨by omega, rfl, rfl⟩ ?_
  rw [Ln_zero]
  (repeat (first | exact .refl | exact .nil | (apply Imp.pick; (focus ((repeat constructor); done))) | refine .drop ?_))
 intro m ds y z
 refine e_ex .here fun k => e_all .here ?_
 (try simp only [ca_, na_, -eq_self])
 refine e_pu .here fun hk => ?_
 obtain ⟨hmk, rfl, rfl⟩ := hk
 refine e_opN v_len .nil ?_
 refine e_opN v_lss .nil ?_
 by_cases hlt : (k : Int) < (T.length : Int)
 ·rw [dT_ hlt]
  have hk : k < T.length := by omega
  have hts := hTs _ (List.getElem_mem hk)
  have htk : T.take (k + 1) = T.take k ++ [T[k]] := List.take_succ_eq_append_getElem hk
  obtain ⟨g, o, rfl, _⟩ := rT.at_ (by omega)
  have l0 : RunV p_ W [AT] (sLoad 3 (.pointer (some ⟨g, o + k * 3 + 0, none⟩))) (I T[k].sym) := v_ldRd2 rT (td_get hk (by omega))
  obtain ⟨t, ht⟩ : ∃ t, t = T[k] := ⟨_, rfl⟩
  rw [<- ht] at hts htk l0
  obtain ⟨n, hn⟩ := Int.eq_ofNat_of_zero_le hts.1
  have hn19 : n < 19 := by omega
  have hknS := knT_snoc (T := T.take k) hn hn19
  rw [<- htk] at hknS
  have hcs : ∀ s, cntT (T.take (k + 1)) s = cntT (T.take k) s + if t.sym = (s : Int) then 1 else 0 := fun s => by rw [htk]; exact cntT_snoc _ _ _
  have hc1' := cntT_le (T.take k) n
  have hc2' := knT_le (T.take k)
  have hc3 : (T.take k).length <= 1000 := by rw [List.length_take]; omega
  rw [hn] at l0
  have hld : (Ln 19 fun s => (cntT (T.take k) s : Int))[0 + n]? = some (.int .i64 (cntT (T.take k) n : Int)) := by rw [Nat.zero_add]; exact Ln_get hn19
  refine e_condT ?_
  refine e_cut1 (fun z => pu (z = .int .i64 (knT (T.take (k + 1)) : Int)) :: Sl 1 3 (some ⟨gc, 0, none⟩) 19 19 (Ln 19 fun s => (cntT (T.take k) s : Int)) :: AT :: IsX w L :: SA :: SB :: F) ?_ ?_
  rotate_left
  ·refine e_opN (v_ia k rfl hk) .nil ?_
   refine e_opN v_fa .nil ?_
   refine e_opN l0 (.pick (by repeat constructor) .nil) ?_
   unfold I
   refine e_opN (v_ia1 n rfl hn19) .nil ?_
   refine e_opN (v_ldSl hld) (.pick (by repeat constructor) .nil) ?_
   refine e_opN v_eql .nil ?_
   by_cases h0 : (cntT (T.take k) n : Int) = 0
   ·rw [dT_ h0]
    rw [if_pos (by omega)] at hknS
    refine e_condT ?_; (refine e_opN (v_add (by omega) (by omega)) .nil ?_)
    refine e_sat (.pu (by rw [hknS]; rfl) ?_)
    (repeat (first | exact .refl | exact .nil | (apply Imp.pick; (focus ((repeat constructor); done))) | refine .drop ?_))
   ·rw [dF_ h0]
    rw [if_neg (by omega)] at hknS
    refine e_condF ?_
    refine e_sat (.pu (by rw [hknS, Nat.add_zero]) ?_)
    (repeat (first | exact .refl | exact .nil | (apply Imp.pick; (focus ((repeat constructor); done))) | refine .drop ?_))
  intro ds z
  refine e_pu .here fun hz => ?_
  subst hz
  refine e_opN (v_ia k rfl hk) .nil ?_
  refine e_opN v_fa .nil ?_
  refine e_opN l0 (.pick (by repeat constructor) .nil) ?_
  unfold I
  refine e_opN (v_ia1 n rfl hn19) .nil ?_
  refine e_opN (v_ldSl hld) (.pick (by repeat constructor) .nil) ?_
  refine e_opN (v_add (by omega) (by omega)) .nil ?_
  refine e_opN (v_ia1 n rfl hn19) .nil ?_
  refine e_stSl (by repeat constructor) (by rw [Ln_len]; omega) ?_
  have hset : (Ln 19 fun s => (cntT (T.take k) s : Int)).set (0 + n) (.int .i64 ((cntT (T.take k) n : Int) + 1)) = Ln 19 fun s => (cntT (T.take (k + 1)) s : Int) := by
   rw [Nat.zero_add]
   refine (Ln_set (v := (cntT (T.take k) n : Int) + 1)).trans (Ln_congr fun j hj => ?_)
   rw [hcs, hn]
   by_cases cj : j = n
   ·subst cj; rw [if_pos rfl, if_pos rfl]; rfl
   ·rw [if_neg cj, if_neg (by omega)]; rfl
  rw [hset]
  (refine e_opN (v_add (by omega) (by omega)) .nil ?_)
  refine e_next2 (m - 1) (by omega) (.ex (k + 1) (.all ?_))
  (try simp only [ca_, na_, -eq_self])
  refine .pu ⟨by omega, rfl, by rfl⟩ ?_
  (repeat (first | exact .refl | exact .nil | (apply Imp.pick; (focus ((repeat constructor); done))) | refine .drop ?_))
 rw [dF_ hlt]
 have hke : k = T.length := by omega
 rw [hke, List.take_length, <- frq0_Ln]
 have hf19 : (frq0 T).length = 19 := by simp [frq0]
 have hfg : ∀ (j : Nat) (h : j < (frq0 T).length), (frq0 T)[j] = (cntT T j : Int) := fun j h => by simp [frq0]
 have hkT := knT_le T
 refine e_condF ?_
 refine e_cut0 (Sl 1 3 (some ⟨gc, 0, none⟩) 19 19 ((frqT T).map I) :: AT :: IsX w L :: SA :: SB :: F) ?_ ?_
 rotate_left
 ·refine e_opN v_eql .nil ?_
  by_cases k1 : (knT T : Int) = 1
  rotate_left
  ·rw [dF_ k1]
   refine e_gdF2 ?_; refine e_gdF2 ?_; refine e_gdF2 ?_; refine e_gdF2 ?_; refine e_opN v_pickF .nil ?_; refine e_condF ?_
   refine e_opN v_eql .nil ?_
   rw [dF_ k1]
   refine e_condF ?_
   have : frqT T = frq0 T := by
    unfold frqT oneK
    rw [if_neg (fun h => k1 (by rw [show knT T = (frq0 T).countP fun x => decide (0 < x) from rfl, h]; rfl))]
   rw [this]
   refine e_sat ?_
   (repeat (first | exact .refl | exact .nil | (apply Imp.pick; (focus ((repeat constructor); done))) | refine .drop ?_))
  rw [dT_ k1]
  have hk1 : knT T = 1 := by omega
  have hgD : ∀ (j : Nat) (h : j < (frq0 T).length), (frq0 T).getD j 0 = (frq0 T)[j] := fun j h => by rw [List.getD_eq_getElem?_getD, List.getElem?_eq_getElem h]; rfl
  have hoK : frqT T = if (0 : Int) < (cntT T 0 : Int) then (frq0 T).set 1 ((cntT T 1 : Int) + 1) else (frq0 T).set 0 ((cntT T 0 : Int) + 1) := by
   unfold frqT oneK
   rw [if_pos (show ((frq0 T).countP fun x => decide (0 < x)) = 1 from hk1), hgD 0 (by omega), hgD 1 (by omega), hfg 0 (by omega), hfg 1 (by omega)]
  refine e_gdT ?_; refine e_gdT ?_
  refine e_opN (v_ia1 0 (by rfl) (by omega)) .nil ?_
  refine e_gdT ?_; (((refine' e_opN (v_ldSl ?hc) ?hi ?_); (case hi => (repeat (first | exact .refl | exact .nil | (apply Imp.pick; (focus ((repeat constructor); done))) | refine .drop ?_))); (case hc => rfl))); refine e_gdT ?_
  refine e_opN (v_eql (a := (cntT T 0 : Int))) .nil ?_
  by_cases h0 : (cntT T 0 : Int) = 0
  ·rw [dT_ h0]
   rw [if_neg (by omega), h0] at hoK
   refine e_opN v_pickT .nil ?_; refine e_condT ?_
   refine e_opN (v_ia1 0 (by rfl) (by omega)) .nil ?_
   refine e_stSl (by repeat constructor) (by rw [List.length_map]; omega) ?_
   rw [show ((frq0 T).map I).set (0 + 0) (.int .i64 1) = (frqT T).map I by rw [hoK, List.map_set]; rfl]
   refine e_sat ?_
   (repeat (first | exact .refl | exact .nil | (apply Imp.pick; (focus ((repeat constructor); done))) | refine .drop ?_))
  ·rw [dF_ h0]
   rw [if_pos (by omega), kn_one hk1 (by omega)] at hoK
   refine e_opN v_pickT .nil ?_; refine e_condF ?_
   refine e_opN v_eql .nil ?_
   rw [dT_ k1]
   refine e_condT ?_
   refine e_opN (v_ia1 1 (by rfl) (by omega)) .nil ?_
   refine e_stSl (by repeat constructor) (by rw [List.length_map]; omega) ?_
   rw [show ((frq0 T).map I).set (0 + 1) (.int .i64 1) = (frqT T).map I by rw [hoK, List.map_set]; rfl]
   refine e_sat ?_
   (repeat (first | exact .refl | exact .nil | (apply Imp.pick; (focus ((repeat constructor); done))) | refine .drop ?_))
 intro ds
 have hfT19 : (frqT T).length = 19 := by unfold frqT; rw [oneK_len]; exact hf19
 have hrf : RdB W (Sl 1 3 (some ⟨gc, 0, none⟩) 19 19 ((frqT T).map I)) (some ⟨gc, 0, none⟩) (frqT T).length ((frqT T).map I) := by
  rw [hfT19]
  exact rd_sl (by rw [List.length_map, hfT19]) (fun _ => ⟨gc, rfl⟩)
 have hln := rlengths (W := W) (cap := 19) (lim := 7) hrf (by omega)
 rw [hfT19, hDe, hDE] at hln
 (refine' e_call (hln) ?hp fun _ => ?_; (case hp => (repeat (first | exact Picks.nil | (apply Picks.cons; (focus repeat constructor))))); (try simp only [ca_, na_, Bool.not_true, Bool.not_false]))
 rename_i qD
 (((refine' e_opN (v_extN ?hc) .nil ?_); (case hc => repeat constructor))); (((refine' e_opN (v_extN ?hc) .nil ?_); (case hc => repeat constructor)))
 refine e_slfacts .here fun _ hnd hcd hfd => ?_
 obtain ⟨qDa, qDc⟩ := qD
 (try dsimp only at *)
 obtain ⟨gd, rfl⟩ := hfd (by omega)
 have rD : RdB W (Sl 1 3 (some ⟨gd, 0, none⟩) qDc D.length (D.map I)) (some ⟨gd, 0, none⟩) D.length (D.map I) := rd_sl (by rw [List.length_map]) (fun _ => ⟨gd, rfl⟩)
 (refine' e_call (refCodes (cap := qDc) rD (by omega)) ?hp fun _ => ?_; (case hp => (repeat (first | exact Picks.nil | (apply Picks.cons; (focus repeat constructor))))); (try simp only [ca_, na_, Bool.not_true, Bool.not_false]))
 rename_i qS
 obtain ⟨sa, sc⟩ := qS
 (try dsimp only)
 (((refine' e_opN (v_extN ?hc) .nil ?_); (case hc => repeat constructor))); (((refine' e_opN (v_extN ?hc) .nil ?_); (case hc => repeat constructor)))
 refine e_slfacts .here fun _ _ _ hfc => ?_
 have rC : RdB W (Sl 1 3 sa sc (cdL D).length ((cdL D).map I)) sa (cdL D).length ((cdL D).map I) := rd_sl (by rw [List.length_map]) hfc
 (refine' e_call (rorder6) ?hp fun _ => ?_; (case hp => (repeat (first | exact Picks.nil | (apply Picks.cons; (focus repeat constructor))))); (try simp only [ca_, na_, Bool.not_true, Bool.not_false]))
 rename_i go
 obtain ⟨AO, hAO⟩ : ∃ AO, AO = pt go (.cells ord19.toArray 3) := ⟨_, rfl⟩
 have rOr : RdB W (pt go (.cells ord19.toArray 3)) (some ⟨go, 0, none⟩) 19 ord19 := rd_pt rfl
 rw [<- hAO] at rOr ⊢
 obtain ⟨AC, hAC⟩ : ∃ AC, AC = Sl 1 3 sa sc (cdL D).length ((cdL D).map I) := ⟨_, rfl⟩
 obtain ⟨AD, hAD⟩ : ∃ AD, AD = Sl 1 3 (some ⟨gd, 0, none⟩) qDc D.length (D.map I) := ⟨_, rfl⟩
 rw [<- hAC] at rC ⊢
 rw [<- hAD] at rD ⊢
 refine e_loop2 (fun m y z => (ex fun st : (Option Addr × Nat) × Nat => all [pu (m + st.2 = 19 /\ st.2 <= 19 /\ y = .slice st.1.1 st.2 st.1.2 /\ z = .int .i64 (st.2 : Int)), Sl 1 3 st.1.1 st.1.2 st.2 ((O.take st.2).map I)]) :: AO :: AC :: AD :: AT :: IsX w L :: SA :: SB :: F) 19 ?_ ?_
 ·refine .ex ((none, 0), 0) (.all ?_)
  (try simp only [ca_, na_, -eq_self])
  refine .pu ⟨rfl, by omega, rfl, rfl⟩ ?_
  refine imp_nil ?_
  (repeat (first | exact .refl | exact .nil | (apply Imp.pick; (focus ((repeat constructor); done))) | refine .drop ?_))
 intro m ds y z
 refine e_ex .here fun st => e_all .here ?_
 obtain ⟨⟨ta_, tc_⟩, i⟩ := st
 (try simp only [ca_, na_, -eq_self])
 refine e_pu .here fun hi => ?_
 (try dsimp only at hi)
 obtain ⟨hmi, hi19, rfl, rfl⟩ := hi
 (try dsimp only)
 refine e_opN v_lss .nil ?_
 by_cases hlt2 : (i : Int) < 19
 ·rw [dT_ hlt2]
  refine e_condT ?_
  obtain ⟨k, hk, hk19⟩ := ordL_lt ⟨i, by omega⟩
  (try dsimp only at hk)
  have hkv : ord19[i]? = some (.int .i64 (k : Int)) := by
   have : i = 0 \/ i = 1 \/ i = 2 \/ i = 3 \/ i = 4 \/ i = 5 \/ i = 6 \/ i = 7 \/ i = 8 \/ i = 9 \/ i = 10 \/ i = 11 \/ i = 12 \/ i = 13 \/ i = 14 \/ i = 15 \/ i = 16 \/ i = 17 \/ i = 18 := by omega
   rcases this with rfl | rfl | rfl | rfl | rfl | rfl | rfl | rfl | rfl | rfl | rfl | rfl | rfl | rfl | rfl | rfl | rfl | rfl | rfl <;> (have hk' := Option.some.inj hk; subst hk'; rfl)
  refine e_opN (v_ia1 i rfl (by omega)) .nil ?_
  refine e_opN (v_ldRd rOr hkv) (.pick (by repeat constructor) .nil) ?_
  refine e_opN (v_ia1 k (by rfl) (by omega)) .nil ?_
  have hOi : O[i]'(by omega) = D[k]'(by omega) := by
   have h1 : O[i]? = some (D.getD k 0) := by rw [hO]; unfold hdOrd; rw [List.getElem?_map, hk]; rfl
   rw [List.getElem?_eq_getElem (by omega), List.getD_eq_getElem?_getD, List.getElem?_eq_getElem (by omega)] at h1
   exact Option.some.inj h1
  have hld : (D.map I)[k]? = some (.int .i64 (O[i]'(by omega))) := by rw [hOi]; exact I_get (by omega)
  refine e_opN (v_ldRd rD hld) (.pick (by repeat constructor) .nil) ?_
  refine e_bsl1 fun gb => ?_
  refine e_app (m := 1) (news := [I (O[i]'(by omega))]) (by (repeat constructor) : Pick _ (Sl 1 3 ta_ tc_ i ((O.take i).map I)) _) (src_pt (s := 1) (e' := 3) (by kernel_rfl) .here (by rfl) (by intro u hu; simp at hu; rw [hu]; rfl)) (by omega) (by omega) fun a' c' => ?_
  have htk : (O.take i).map I ++ [I (O[i]'(by omega))] = (O.take (i + 1)).map I := by rw [List.take_succ_eq_append_getElem (by omega), List.map_append]; rfl
  rw [htk]
  (refine e_opN (v_add (by omega) (by omega)) .nil ?_)
  refine e_next2 (m - 1) (by omega) (.ex ((a', c'), i + 1) (.all ?_))
  (try simp only [ca_, na_, -eq_self])
  refine .pu ⟨by omega, by omega, rfl, by norm_cast⟩ ?_
  (repeat (first | exact .refl | exact .nil | (apply Imp.pick; (focus ((repeat constructor); done))) | refine .drop ?_))
 have hi19' : i = 19 := by omega
 subst hi19'
 rw [dF_ hlt2]
 refine e_condF ?_
 rw [show (O.take 19).map I = O.map I by rw [List.take_of_length_le (by omega)], show (19 : Nat) = O.length from hO19.symm]
 refine e_slfacts .here fun _ ho2 ho3 ho4 => ?_
 obtain ⟨gw, rfl⟩ := ho4 (by omega)
 have rO : RdB W (Sl 1 3 (some ⟨gw, 0, none⟩) tc_ O.length (O.map I)) (some ⟨gw, 0, none⟩) O.length (O.map I) := rd_sl (by rw [List.length_map]) (fun _ => ⟨gw, rfl⟩)
 have hup := rupto (W := W) (cap := tc_) (least := 4) rO (by omega) (by omega)
 rw [<- hc] at hup
 (refine' e_call (hup) ?hp fun _ => ?_; (case hp => (repeat (first | exact Picks.nil | (apply Picks.cons; (focus repeat constructor))))); (try simp only [ca_, na_, Bool.not_true, Bool.not_false]))
 (refine e_opN (v_sub (by omega) (by omega)) .nil ?_)
 (refine' e_call (xPut (l := L) (n := (ua : Int) - 257) (k := 5)) ?hp fun _ => ?_; (case hp => (repeat (first | exact Picks.nil | (apply Picks.cons; (focus repeat constructor))))); (try simp only [ca_, na_, Bool.not_true, Bool.not_false]))
 rw [putL_i (e := ua - 257) (k := 5) (j := 5) (by omega) rfl (by omega) (by omega) (by omega)]
 (refine e_opN (v_sub (by omega) (by omega)) .nil ?_)
 (refine' e_call (xPut (l := L ++ bitsOf (ua - 257) 5) (n := (ub_ : Int) - 1) (k := 5)) ?hp fun _ => ?_; (case hp => (repeat (first | exact Picks.nil | (apply Picks.cons; (focus repeat constructor))))); (try simp only [ca_, na_, Bool.not_true, Bool.not_false]))
 rw [putL_i (e := ub_ - 1) (k := 5) (j := 5) (by omega) rfl (by omega) (by omega) (by rw [List.length_append, length_bitsOf]; omega)]
 (refine e_opN (v_sub (by omega) (by omega)) .nil ?_)
 (refine' e_call (xPut (l := L ++ bitsOf (ua - 257) 5 ++ bitsOf (ub_ - 1) 5) (n := (c : Int) - 4) (k := 4)) ?hp fun _ => ?_; (case hp => (repeat (first | exact Picks.nil | (apply Picks.cons; (focus repeat constructor))))); (try simp only [ca_, na_, Bool.not_true, Bool.not_false]))
 rw [putL_i (e := c - 4) (k := 4) (j := 4) (by omega) rfl (by omega) (by omega) (by simp only [List.length_append, length_bitsOf]; omega)]
 rw [show L ++ bitsOf (ua - 257) 5 ++ bitsOf (ub_ - 1) 5 ++ bitsOf (c - 4) 4 = M0 by rw [hM0, hua, hub]; simp only [List.append_assoc]]
 have hcl : (O.take c).length = c := by rw [List.length_take]; omega
 refine e_loop1 (fun m y => (ex fun i : Nat => all [pu (m + i = c /\ y = .int .i64 (i : Int)), IsX w (M0 ++ ((O.take c).take i).flatMap (fun n => bitsOf n.toNat 3))]) :: Sl 1 3 (some ⟨gw, 0, none⟩) tc_ O.length (O.map I) :: AC :: AD :: AT :: SA :: SB :: F) c ?_ ?_
 ·refine .ex 0 (.all ?_)
  (try simp only [ca_, na_, -eq_self])
  refine .pu ⟨by omega, rfl⟩ ?_
  rw [List.take_zero, List.flatMap_nil, List.append_nil]
  (repeat (first | exact .refl | exact .nil | (apply Imp.pick; (focus ((repeat constructor); done))) | refine .drop ?_))
 intro m ds y
 refine e_ex .here fun i => e_all .here ?_
 (try simp only [ca_, na_, -eq_self])
 refine e_pu .here fun hi => ?_
 obtain ⟨hmi, rfl⟩ := hi
 refine e_opN v_lss .nil ?_
 by_cases hlt3 : (i : Int) < (c : Int)
 ·rw [dT_ hlt3]
  refine e_condT ?_
  refine e_opN (v_ia1 i (by rfl) (by omega)) .nil ?_
  have hld : (O.map I)[0 + i]? = some (.int .i64 (O[i]'(by omega))) := by rw [Nat.zero_add]; exact I_get (by omega)
  refine e_opN (v_ldSl hld) (.pick (by repeat constructor) .nil) ?_
  have hv := hOv _ (List.getElem_mem (show i < O.length by omega))
  have hfl := fltL_take (f := fun n : Int => bitsOf n.toNat 3) (l := O.take c) (k := i) (by omega)
  have hfe := fltL_le (f := fun n : Int => bitsOf n.toNat 3) (l := O.take c) (k := i) (by omega)
  have hel : (O.take c)[i]'(by omega) = O[i]'(by omega) := List.getElem_take
  rw [hel] at hfl hfe
  obtain ⟨v, hvv⟩ : ∃ v, v = O[i]'(by omega) := ⟨_, rfl⟩
  rw [<- hvv] at hv hfl hfe ⊢
  (try dsimp only at hfe)
  rw [length_bitsOf] at hfe
  (refine' e_call (xPut (l := M0 ++ ((O.take c).take i).flatMap (fun n => bitsOf n.toNat 3)) (n := v) (k := 3)) ?hp fun _ => ?_; (case hp => (repeat (first | exact Picks.nil | (apply Picks.cons; (focus repeat constructor))))); (try simp only [ca_, na_, Bool.not_true, Bool.not_false]))
  rw [putL_i (e := v.toNat) (k := 3) (j := 3) (by omega) rfl (by omega) (by omega) (by rw [List.length_append]; omega)]
  (refine e_opN (v_add (by omega) (by omega)) .nil ?_)
  refine e_next1 (m - 1) (by omega) (.ex (i + 1) (.all ?_))
  (try simp only [ca_, na_, -eq_self])
  rw [hfl, <- List.append_assoc]
  refine .pu ⟨by omega, by norm_cast⟩ ?_
  (repeat (first | exact .refl | exact .nil | (apply Imp.pick; (focus ((repeat constructor); done))) | refine .drop ?_))
 have hic : i = c := by omega
 subst hic
 rw [dF_ hlt3, List.take_of_length_le (show (O.take i).length <= i by omega)]
 obtain ⟨M1, hM1⟩ : ∃ M1, M1 = M0 ++ (O.take i).flatMap (fun n => bitsOf n.toNat 3) := ⟨_, rfl⟩
 rw [<- hM1]
 have hM1l : M1.length + (T.flatMap (tdB D)).length <= 8388608 := by rw [hM1, List.length_append]; omega
 refine e_condF ?_
 refine e_loop1 (fun m y => (ex fun k : Nat => all [pu (m + k = T.length /\ y = .int .i64 (k : Int)), IsX w (M1 ++ (T.take k).flatMap (tdB D))]) :: AC :: AD :: AT :: SA :: SB :: F) T.length ?_ ?_
 ·refine .ex 0 (.all ?_)
  (try simp only [ca_, na_, -eq_self])
  refine .pu ⟨by omega, rfl⟩ ?_
  rw [List.take_zero, List.flatMap_nil, List.append_nil]
  (repeat (first | exact .refl | exact .nil | (apply Imp.pick; (focus ((repeat constructor); done))) | refine .drop ?_))
 intro m ds y
 refine e_ex .here fun k => e_all .here ?_
 (try simp only [ca_, na_, -eq_self])
 refine e_pu .here fun hi => ?_
 obtain ⟨hmk2, rfl⟩ := hi
 refine e_opN v_len .nil ?_
 refine e_opN v_lss .nil ?_
 by_cases hlt4 : (k : Int) < (T.length : Int)
 ·rw [dT_ hlt4]
  have hk : k < T.length := by omega
  have hts := hTs _ (List.getElem_mem hk)
  have hfl := fltL_take (f := tdB D) (l := T) hk
  have hfe := fltL_le (f := tdB D) (l := T) hk
  obtain ⟨g, o, rfl, _⟩ := rT.at_ (by omega)
  have l0 : RunV p_ W [AT] (sLoad 3 (.pointer (some ⟨g, o + k * 3 + 0, none⟩))) (I T[k].sym) := v_ldRd2 rT (td_get hk (by omega))
  have l1 : RunV p_ W [AT] (sLoad 3 (.pointer (some ⟨g, o + k * 3 + 1, none⟩))) (I (T[k].bits : Int)) := v_ldRd2 rT (td_get hk (by omega))
  have l2 : RunV p_ W [AT] (sLoad 3 (.pointer (some ⟨g, o + k * 3 + 2, none⟩))) (I (T[k].extra : Int)) := v_ldRd2 rT (td_get hk (by omega))
  obtain ⟨t, ht⟩ : ∃ t, t = T[k] := ⟨_, rfl⟩
  rw [<- ht] at hts hfl hfe l0 l1 l2
  unfold tdB at hfe
  rw [List.length_append, length_bitsOf] at hfe
  change ((T.take k).flatMap (tdB D)).length + ((cwd D t.sym).length + t.bits) <= (T.flatMap (tdB D)).length at hfe
  obtain ⟨Mk, hMk⟩ : ∃ Mk, Mk = M1 ++ (T.take k).flatMap (tdB D) := ⟨_, rfl⟩
  have hMkl : Mk.length = M1.length + ((T.take k).flatMap (tdB D)).length := by rw [hMk, List.length_append]
  rw [<- hMk]
  refine e_condT ?_
  refine e_opN (v_ia k rfl hk) .nil ?_
  refine e_opN v_fa .nil ?_
  refine e_opN l0 (.pick (by repeat constructor) .nil) ?_
  unfold I
  refine e_call (rput (L := Mk) (s := t.sym) rC rD) (.cons (by repeat constructor) (.cons (by repeat constructor) (.cons (by repeat constructor) .nil))) fun _ => ?_
  (try simp only [ca_, na_, -eq_self])
  rw [phL_cwd (by omega)]
  refine e_drS ?_
  refine e_stS (v_ia k rfl hk) .nil ?_
  refine e_stS v_fa .nil ?_
  refine e_stS l2 (.pick (by repeat constructor) .nil) ?_
  refine e_stS (v_ia k rfl hk) .nil ?_
  refine e_stS v_fa .nil ?_
  refine e_stS l1 (.pick (by repeat constructor) .nil) ?_
  unfold I
  (refine' e_call (xPut (l := Mk ++ cwd D t.sym) (n := (t.extra : Int)) (k := (t.bits : Int))) ?hp fun _ => ?_; (case hp => (repeat (first | exact Picks.nil | (apply Picks.cons; (focus repeat constructor))))); (try simp only [ca_, na_, Bool.not_true, Bool.not_false]))
  rw [putL_ok (by omega) hts.2.2.1 (by rw [List.length_append]; omega)]
  (refine e_opN (v_add (by omega) (by omega)) .nil ?_)
  refine e_next1 (m - 1) (by omega) (.ex (k + 1) (.all ?_))
  (try simp only [ca_, na_, -eq_self])
  rw [hfl, <- List.append_assoc, <- hMk]
  unfold tdB
  rw [<- List.append_assoc]
  refine .pu ⟨by omega, by norm_cast⟩ ?_
  (repeat (first | exact .refl | exact .nil | (apply Imp.pick; (focus ((repeat constructor); done))) | refine .drop ?_))
 rw [dF_ hlt4]
 have hke2 : k = T.length := by omega
 rw [hke2, List.take_length]
 refine e_condF ?_
 (first | refine e_ret (()) rfl ?_ | refine e_retT (()) ?_)
 (repeat (first | exact .refl | exact .nil | (apply Imp.pick; (focus ((repeat constructor); done))) | refine .drop ?_))
theorem rsymbols {W : World} {w bn bc pc c1 c2 : Nat} {pa ba a1 a2 : Option Addr} {AL A1 A2 : HP} {ps : List Pz} {la lb : List Int} {L : List Bool} (hA : RdB W AL pa (ps.length * 3) (ps.flatMap pPz)) (hl : ps.length <= 1048576) (hg : ∀ p ∈ ps, goodP p) (r1 : RdB W A1 a1 la.length (la.map I)) (r2 : RdB W A2 a2 lb.length (lb.map I))
  (h1 : la.length <= 1000) (h2 : lb.length <= 1000) (hL : L.length + (encX la lb ps).length <= 8388608) :
  Cn p_ 94 [.pointer (some ⟨w, 0, none⟩), .agg #[.slice pa ps.length pc, .slice ba bn bc], .slice a1 la.length c1, .slice a2 lb.length c2] W [IsX w L, AL, A1, A2] (fun _ : Unit => .tuple #[]) (fun _ => [IsX w (L ++ encX la lb ps), AL, A1, A2]) := by
 have hE : (encX la lb ps).length = (ps.flatMap (encD la lb)).length + (cwd la 256).length := by unfold encX; rw [List.length_append]
 (refine S.ref06_symbols_cn fun F => ?_; unfold S.ref06_symbols; simp only [ca_, na_])
 refine e_boxA fun b5 => ?_
 refine e_call (refCodes (cap := c1) r1 (by omega)) (.cons (by repeat constructor) .nil) fun q1 => ?_
 obtain ⟨k1, d1⟩ := q1
 (try simp only [ca_, na_, -eq_self])
 (try dsimp only)
 (((refine' e_opN (v_extN ?hc) .nil ?_); (case hc => repeat constructor))); (((refine' e_opN (v_extN ?hc) .nil ?_); (case hc => repeat constructor)))
 refine e_slfacts .here fun _ _ _ f1 => ?_
 have rc1 : RdB W (Sl 1 3 k1 d1 (cdL la).length ((cdL la).map I)) k1 (cdL la).length ((cdL la).map I) := rd_sl (by rw [List.length_map]) f1
 obtain ⟨C1, hC1⟩ : ∃ C1, C1 = Sl 1 3 k1 d1 (cdL la).length ((cdL la).map I) := ⟨_, rfl⟩
 rw [<- hC1] at rc1 ⊢
 refine e_call (refCodes (cap := c2) r2 (by omega)) (.cons (by repeat constructor) .nil) fun q2 => ?_
 obtain ⟨k2, d2⟩ := q2
 (try simp only [ca_, na_, -eq_self])
 (try dsimp only)
 (((refine' e_opN (v_extN ?hc) .nil ?_); (case hc => repeat constructor))); (((refine' e_opN (v_extN ?hc) .nil ?_); (case hc => repeat constructor)))
 refine e_slfacts .here fun _ _ _ f2 => ?_
 have rc2 : RdB W (Sl 1 3 k2 d2 (cdL lb).length ((cdL lb).map I)) k2 (cdL lb).length ((cdL lb).map I) := rd_sl (by rw [List.length_map]) f2
 obtain ⟨C2, hC2⟩ : ∃ C2, C2 = Sl 1 3 k2 d2 (cdL lb).length ((cdL lb).map I) := ⟨_, rfl⟩
 rw [<- hC2] at rc2 ⊢
 refine e_loop1 (fun m y => (ex fun i : Nat => all [pu (m + i = ps.length /\ y = .int .i64 (i : Int)), IsX w (L ++ (ps.take i).flatMap (encD la lb))]) :: pt b5 (.cells #[.slice pa ps.length pc, .slice ba bn bc] 92) :: AL :: A1 :: A2 :: C1 :: C2 :: F) ps.length ?_ ?_
 ·refine .ex 0 (.all ?_)
  (try simp only [ca_, na_, -eq_self])
  refine .pu ⟨by omega, rfl⟩ ?_
  rw [List.take_zero, List.flatMap_nil, List.append_nil]
  (repeat (first | exact .refl | exact .nil | (apply Imp.pick; (focus ((repeat constructor); done))) | refine .drop ?_))
 intro m ds y
 refine e_ex .here fun i => e_all .here ?_
 (try simp only [ca_, na_, -eq_self])
 refine e_pu .here fun hk => ?_
 obtain ⟨hmi, rfl⟩ := hk
 refine e_opN v_fa0 .nil ?_; (((refine' e_opN (v_ldN ?hc) ?hi ?_); (case hi => exact .pick (by repeat constructor) .nil); (case hc => repeat constructor))); refine e_opN v_len .nil ?_
 refine e_opN v_lss .nil ?_
 by_cases hlt : (i : Int) < (ps.length : Int)
 ·rw [dT_ hlt]
  have hi : i < ps.length := by omega
  have hgp := hg _ (List.getElem_mem hi)
  have hfl := fltL_take (f := encD la lb) (l := ps) hi
  have hfe := fltL_le (f := encD la lb) (l := ps) hi
  obtain ⟨g, o, rfl, _⟩ := hA.at_ (by omega)
  have l0 : RunV p_ W [AL] (sLoad 3 (.pointer (some ⟨g, o + i * 3 + 0, none⟩))) (I ps[i].len) := v_ldRd2 hA (pz_get hi 0 (by omega))
  have l1 : RunV p_ W [AL] (sLoad 3 (.pointer (some ⟨g, o + i * 3 + 1, none⟩))) (I ps[i].dist) := v_ldRd2 hA (pz_get hi 1 (by omega))
  have l2 : RunV p_ W [AL] (sLoad 5 (.pointer (some ⟨g, o + i * 3 + 2, none⟩))) (Sl.B ps[i].c) := v_ldRd2 hA (pz_get hi 2 (by omega))
  obtain ⟨p, hp⟩ : ∃ p, p = ps[i] := ⟨_, rfl⟩
  rw [<- hp] at hgp hfl hfe l0 l1 l2
  obtain ⟨M, hM⟩ : ∃ M, M = L ++ (ps.take i).flatMap (encD la lb) := ⟨_, rfl⟩
  have hMl : M.length = L.length + ((ps.take i).flatMap (encD la lb)).length := by rw [hM, List.length_append]
  rw [<- hM]
  refine e_condT ?_; refine e_opN v_fa0 .nil ?_; (((refine' e_opN (v_ldN ?hc) ?hi ?_); (case hi => exact .pick (by repeat constructor) .nil); (case hc => repeat constructor)))
  refine e_opN (v_ia i rfl hi) .nil ?_
  refine e_opN v_fa .nil ?_
  refine e_opN l0 (.pick (by repeat constructor) .nil) ?_
  unfold I
  refine e_opN v_eql .nil ?_
  by_cases h0 : p.len = 0
  ·rw [dT_ h0]
   have he : encD la lb p = cwd la p.c.toNat := by unfold encD; rw [if_pos h0]
   rw [he] at hfl hfe
   have hc := p.c.toNat_lt
   refine e_condT ?_; refine e_opN v_fa0 .nil ?_; (((refine' e_opN (v_ldN ?hc) ?hi ?_); (case hi => exact .pick (by repeat constructor) .nil); (case hc => repeat constructor)))
   refine e_opN (v_ia i rfl hi) .nil ?_
   refine e_opN v_fa .nil ?_
   refine e_opN l2 (.pick (by repeat constructor) .nil) ?_
   rw [show Sl.B p.c = .int .u8 (p.c.toNat : Int) from rfl]
   refine e_opN (v_conv (q := .i64)) .nil ?_
   rw [w64 (by omega) (by omega)]
   refine e_call (rput (L := M) (s := (p.c.toNat : Int)) rc1 r1) (.cons (by repeat constructor) (.cons (by repeat constructor) (.cons (by repeat constructor) .nil))) fun _ => ?_
   (try simp only [ca_, na_, -eq_self])
   rw [phL_cwd (by omega)]
   (refine e_opN (v_add (by omega) (by omega)) .nil ?_)
   refine e_next1 (m - 1) (by omega) (.ex (i + 1) (.all ?_))
   (try simp only [ca_, na_, -eq_self])
   rw [hfl, <- List.append_assoc, <- hM]
   refine .pu ⟨by omega, by rfl⟩ ?_
   (repeat (first | exact .refl | exact .nil | (apply Imp.pick; (focus ((repeat constructor); done))) | refine .drop ?_))
  ·rw [dF_ h0]
   obtain ⟨e1, e2, e3, e4⟩ : 3 <= p.len /\ p.len <= 258 /\ 1 <= p.dist /\ p.dist <= 32768 := by
    rcases hgp with h | h
    ·exact absurd h.1 h0
    ·exact h
   obtain ⟨s, x, k, hs, h1', h2', _, _, hx, hk5, _⟩ := lenS_ok e1 e2
   obtain ⟨t, y, j, ht, g1, _, _, hy, hj13, _⟩ := disS_ok e3 e4
   have he : encD la lb p = (cwd la (s : Int) ++ bitsOf x k) ++ (cwd lb (t : Int) ++ bitsOf y j) := by unfold encD; rw [if_neg h0, hs, ht]; simp only [Int.toNat_natCast]
   rw [he] at hfl hfe
   simp only [List.length_append, length_bitsOf] at hfe
   refine e_condF ?_; refine e_opN v_fa0 .nil ?_; (((refine' e_opN (v_ldN ?hc) ?hi ?_); (case hi => exact .pick (by repeat constructor) .nil); (case hc => repeat constructor)))
   refine e_opN (v_ia i rfl hi) .nil ?_
   refine e_opN v_fa .nil ?_
   refine e_opN l0 (.pick (by repeat constructor) .nil) ?_
   unfold I
   (refine' e_call (rLength e1 e2) ?hp fun _ => ?_; (case hp => (repeat (first | exact Picks.nil | (apply Picks.cons; (focus repeat constructor))))); (try simp only [ca_, na_, Bool.not_true, Bool.not_false]))
   rw [hs]
   (((refine' e_opN (v_extN ?hc) .nil ?_); (case hc => repeat constructor))); (((refine' e_opN (v_extN ?hc) .nil ?_); (case hc => repeat constructor))); (((refine' e_opN (v_extN ?hc) .nil ?_); (case hc => repeat constructor))); refine e_opN v_fa0 .nil ?_; (((refine' e_opN (v_ldN ?hc) ?hi ?_); (case hi => exact .pick (by repeat constructor) .nil); (case hc => repeat constructor)))
   refine e_opN (v_ia i rfl hi) .nil ?_
   refine e_opN v_fa .nil ?_
   refine e_opN l1 (.pick (by repeat constructor) .nil) ?_
   unfold I
   (refine' e_call (rDistance e3 e4) ?hp fun _ => ?_; (case hp => (repeat (first | exact Picks.nil | (apply Picks.cons; (focus repeat constructor))))); (try simp only [ca_, na_, Bool.not_true, Bool.not_false]))
   rw [ht]
   (((refine' e_opN (v_extN ?hc) .nil ?_); (case hc => repeat constructor))); (((refine' e_opN (v_extN ?hc) .nil ?_); (case hc => repeat constructor))); (((refine' e_opN (v_extN ?hc) .nil ?_); (case hc => repeat constructor)))
   refine e_call (rput (L := M) (s := (s : Int)) rc1 r1) (.cons (by repeat constructor) (.cons (by repeat constructor) (.cons (by repeat constructor) .nil))) fun _ => ?_
   (try simp only [ca_, na_, -eq_self])
   rw [phL_cwd (by omega)]
   (refine' e_call (xPut (l := M ++ cwd la (s : Int)) (n := (x : Int)) (k := (k : Int))) ?hp fun _ => ?_; (case hp => (repeat (first | exact Picks.nil | (apply Picks.cons; (focus repeat constructor))))); (try simp only [ca_, na_, Bool.not_true, Bool.not_false]))
   rw [putL_ok (by omega) hx (by rw [List.length_append]; omega)]
   refine e_call (rput (L := M ++ cwd la (s : Int) ++ bitsOf x k) (s := (t : Int)) rc2 r2) (.cons (by repeat constructor) (.cons (by repeat constructor) (.cons (by repeat constructor) .nil))) fun _ => ?_
   (try simp only [ca_, na_, -eq_self])
   rw [phL_cwd (by simp only [List.length_append, length_bitsOf]; omega)]
   (refine' e_call (xPut (l := M ++ cwd la (s : Int) ++ bitsOf x k ++ cwd lb (t : Int)) (n := (y : Int)) (k := (j : Int))) ?hp fun _ => ?_; (case hp => (repeat (first | exact Picks.nil | (apply Picks.cons; (focus repeat constructor))))); (try simp only [ca_, na_, Bool.not_true, Bool.not_false]))
   rw [putL_ok (by omega) hy (by simp only [List.length_append, length_bitsOf]; omega)]
   (refine e_opN (v_add (by omega) (by omega)) .nil ?_)
   refine e_next1 (m - 1) (by omega) (.ex (i + 1) (.all ?_))
   (try simp only [ca_, na_, -eq_self])
   rw [hfl, <- List.append_assoc, <- hM]
   simp only [<- List.append_assoc]
   refine .pu ⟨by omega, by rfl⟩ ?_
   (repeat (first | exact .refl | exact .nil | (apply Imp.pick; (focus ((repeat constructor); done))) | refine .drop ?_))
 ·rw [dF_ hlt]
  have hie : i = ps.length := by omega
  rw [hie, List.take_length]
  refine e_condF ?_
  refine e_call (rput (L := L ++ ps.flatMap (encD la lb)) (s := 256) rc1 r1) (.cons (by repeat constructor) (.cons (by repeat constructor) (.cons (by repeat constructor) .nil))) fun _ => ?_
  (try simp only [ca_, na_, -eq_self])
  rw [phL_cwd (by rw [List.length_append]; omega), List.append_assoc, show ps.flatMap (encD la lb) ++ cwd la 256 = encX la lb ps from rfl]
  (first | refine e_ret (()) rfl ?_ | refine e_retT (()) ?_)
  (repeat (first | exact .refl | exact .nil | (apply Imp.pick; (focus ((repeat constructor); done))) | refine .drop ?_))
theorem rstored {W : World} {w c : Nat} {a : Option Addr} {M : List Bool} {A : HP} {x : Blk} (hr : RdB W A a x.2.length (x.2.map Sl.B)) (hb : x.2.length <= 65535) (hM : M.length + 100 + 8 * x.2.length <= 8388608) :
  Cn p_ 57 [.pointer (some ⟨w, 0, none⟩), .slice a x.2.length c] W [IsX w M, A] (fun _ : Unit => .tuple #[]) (fun _ => [IsX w (stoX M x), A]) := by
 have hl := length_pad M
 have hp : (pk (padTo8 M ++ bitsOf x.2.length 16 ++ bitsOf (65535 - x.2.length) 16)).length <= (M.length + 7) / 8 + 4 := by
  rw [length_pk]; simp only [List.length_append, length_bitsOf]; omega
 have h8 : (padTo8 M ++ bitsOf x.2.length 16 ++ bitsOf (65535 - x.2.length) 16).length % 8 = 0 := by
  simp only [List.length_append, length_bitsOf]; omega
 have hrw : rawL (padTo8 M ++ bitsOf x.2.length 16 ++ bitsOf (65535 - x.2.length) 16) x.2 = stoX M x := by
  unfold rawL rawR
  rw [if_neg (show ¬ 1048576 < _ by omega), if_pos rfl]
  unfold stoX
  congr 1
  unfold padTo8 at h8 ⊢
  rw [h8]
  simp
 (refine S.ref06_stored_cn fun F => ?_; unfold S.ref06_stored; simp only [ca_, na_])
 (refine' e_call (xAlign (l := M)) ?hp fun _ => ?_; (case hp => (repeat (first | exact Picks.nil | (apply Picks.cons; (focus repeat constructor))))); (try simp only [ca_, na_, Bool.not_true, Bool.not_false]))
 refine e_opN v_len .nil ?_
 (refine' e_call (xPut (l := padTo8 M) (n := (x.2.length : Int)) (k := 16)) ?hp fun _ => ?_; (case hp => (repeat (first | exact Picks.nil | (apply Picks.cons; (focus repeat constructor))))); (try simp only [ca_, na_, Bool.not_true, Bool.not_false]))
 rw [putL_i (e := x.2.length) (k := 16) (j := 16) rfl rfl (by omega) (by omega) (by omega)]
 refine e_opN v_len .nil ?_; (refine e_opN (v_sub (by omega) (by omega)) .nil ?_)
 (refine' e_call (xPut (l := padTo8 M ++ bitsOf x.2.length 16) (n := 65535 - (x.2.length : Int)) (k := 16)) ?hp fun _ => ?_; (case hp => (repeat (first | exact Picks.nil | (apply Picks.cons; (focus repeat constructor))))); (try simp only [ca_, na_, Bool.not_true, Bool.not_false]))
 rw [putL_i (e := 65535 - x.2.length) (k := 16) (j := 16) (by omega) rfl (by omega) (by omega) (by rw [List.length_append, length_bitsOf]; omega)]
 refine e_call (xRaw (l := padTo8 M ++ bitsOf x.2.length 16 ++ bitsOf (65535 - x.2.length) 16) (cap := c) hr (rd_none_ hr) (by omega)) (.cons (by repeat constructor) (.cons (by repeat constructor) .nil)) fun _ => ?_
 (try simp only [ca_, na_, -eq_self])
 rw [hrw]
 (first | refine e_ret (()) rfl ?_ | refine e_retT (()) ?_)
 (repeat (first | exact .refl | exact .nil | (apply Imp.pick; (focus ((repeat constructor); done))) | refine .drop ?_))
theorem xNewX {W : World} {p : Nat} {L L' M : List HP} (k : Pick L (pt p (.cells #[.slice none 0 0] 86)) L') (h : Imp W L' M) : Imp W L (IsX p [] :: M) := by
 refine .ex (none, 0) (.all ?_)
 (try simp only [ca_, na_])
 exact .pick k (imp_nil (.pu (by simp) h))
def wayB (k last : Nat) (x : Blk) : List Bool := bitsOf last 1 ++ bitsOf k 2 ++ (if k = 1 then fixX x else dynX x)
theorem wayB_len (k last : Nat) (x : Blk) : (wayB k last x).length = 3 + (if k = 1 then (fixX x).length else (dynX x).length) := by
 unfold wayB
 simp only [List.length_append, length_bitsOf]
 split <;> omega
theorem rway {W : World} {k last : Nat} {AL : HP} {x : Blk} {v : Bv} (hk : k = 1 \/ k = 2) (hl : last <= 1) (hA : RdB W AL v.1.1 (x.1.length * 3) (x.1.flatMap pPz)) (hg : goodB x) :
  Cn p_ 75 [.int .i64 (k : Int), .int .i64 (last : Int), bwV (x, v)] W [AL] (fun p : Nat => .pointer (some ⟨p, 0, none⟩)) (fun p => [IsX p (wayB k last x), AL]) := by
 have hpn := hg.pn
 have hfx := fixX_le (x := x) hg.g hpn
 have hdx := dynX_le (x := x) hg.g hpn
 obtain ⟨⟨la_, lc⟩, ⟨ba, bc⟩⟩ := v
 unfold bwV
 (try dsimp only at hA)
 (try dsimp only)
 (refine S.ref06_way_cn fun F => ?_; unfold S.ref06_way; simp only [ca_, na_])
 refine e_boxA fun b5 => ?_
 refine e_opN v_rv .nil ?_; refine e_boxA fun g => ?_
 rename Nat => p
 refine e_imp (M := IsX p [] :: pt b5 (.cells #[.slice la_ x.1.length lc, .slice ba x.2.length bc] 92) :: AL :: F) (xNewX (p := p) (by repeat constructor) .refl) ?_
 have hl' : (last : Int) = 0 \/ (last : Int) = 1 := by omega
 (refine' e_call (xPut (l := []) (n := (last : Int)) (k := 1)) ?hp fun _ => ?_; (case hp => (repeat (first | exact Picks.nil | (apply Picks.cons; (focus repeat constructor))))); (try simp only [ca_, na_, Bool.not_true, Bool.not_false]))
 rw [putL_i (e := last) (k := 1) (j := 1) rfl rfl (by omega) (by omega) (by simp)]
 (refine' e_call (xPut (l := [] ++ bitsOf last 1) (n := (k : Int)) (k := 2)) ?hp fun _ => ?_; (case hp => (repeat (first | exact Picks.nil | (apply Picks.cons; (focus repeat constructor))))); (try simp only [ca_, na_, Bool.not_true, Bool.not_false]))
 rw [putL_i (e := k) (k := 2) (j := 2) rfl rfl (by omega) (by omega) (by simp only [List.length_append, length_bitsOf, List.length_nil]; omega)]
 refine e_opN v_eql .nil ?_
 by_cases h1 : k = 1
 ·subst h1
  rw [dT_ (by rfl)]
  refine e_condT ?_
  (refine' e_call (rfixed) ?hp fun _ => ?_; (case hp => (repeat (first | exact Picks.nil | (apply Picks.cons; (focus repeat constructor))))); (try simp only [ca_, na_, Bool.not_true, Bool.not_false]))
  rename_i qq
  obtain ⟨⟨qa, ka⟩, ⟨qb, kb⟩⟩ := qq
  (try dsimp only)
  (((refine' e_opN (v_extN ?hc) .nil ?_); (case hc => repeat constructor))); (((refine' e_opN (v_extN ?hc) .nil ?_); (case hc => repeat constructor))); (((refine' e_opN (v_ldAgg ?hn) ?hi ?_); (case hi => exact .pick (by repeat constructor) .nil); (case hn => rfl)))
  refine e_slfacts (by (repeat constructor) : Pick _ (Sl 1 3 qa ka litL.length (litL.map I)) _) fun _ _ _ fa => ?_
  refine e_slfacts (by (repeat constructor) : Pick _ (Sl 1 3 qb kb dstL.length (dstL.map I)) _) fun _ _ _ fb => ?_
  have ra : RdB W (Sl 1 3 qa ka litL.length (litL.map I)) qa litL.length (litL.map I) := rd_sl (by rw [List.length_map]) fa
  have rb : RdB W (Sl 1 3 qb kb dstL.length (dstL.map I)) qb dstL.length (dstL.map I) := rd_sl (by rw [List.length_map]) fb
  refine e_call (rsymbols (w := p) (L := [] ++ bitsOf last 1 ++ bitsOf 1 2) (c1 := ka) (c2 := kb) (pc := lc) (ba := ba) (bn := x.2.length) (bc := bc) (ps := x.1) hA (by omega) hg.g ra rb (by rw [lit_len]; omega) (by rw [dst_len]; omega) (by
   change _ + (fixX x).length <= _
   simp only [List.length_append, length_bitsOf, List.length_nil]; omega)) (.cons (by repeat constructor) (.cons (by repeat constructor) (.cons (by repeat constructor) (.cons (by repeat constructor) .nil)))) fun _ => ?_
  (try simp only [ca_, na_, -eq_self])
  rw [show bitsOf last 1 ++ bitsOf 1 2 ++ encX litL dstL x.1 = wayB 1 last x by unfold wayB fixX; rw [if_pos rfl, List.append_assoc]]
  (first | refine e_ret (p) rfl ?_ | refine e_retT (p) ?_)
  (repeat (first | exact .refl | exact .nil | (apply Imp.pick; (focus ((repeat constructor); done))) | refine .drop ?_))
 ·have h2 : k = 2 := by omega
  subst h2
  rw [dF_ (by decide)]
  refine e_condF ?_
  refine e_opN v_eql .nil ?_
  rw [dT_ (by rfl)]
  refine e_condT ?_
  obtain ⟨l1, l2⟩ := own_len (ps := x.1) (by omega)
  have v1 := lenV_b15 (frqA x.1) 15
  have v2 := lenV_b15 (frqB x.1) 15
  change ∀ z ∈ ownA x.1, 0 <= z /\ z <= 15 at v1
  change ∀ z ∈ ownB x.1, 0 <= z /\ z <= 15 at v2
  have hdx' : dynX x = hdX (ownA x.1) (ownB x.1) ++ encX (ownA x.1) (ownB x.1) x.1 := rfl
  have hwb : wayB 2 last x = [] ++ bitsOf last 1 ++ bitsOf 2 2 ++ hdX (ownA x.1) (ownB x.1) ++ encX (ownA x.1) (ownB x.1) x.1 := by
   unfold wayB dynX; rw [if_neg (by decide), List.nil_append]; simp only [List.append_assoc]
  rw [hdx', List.length_append] at hdx
  rw [hwb]
  have hO := rown (W := W) (pc := lc) (ba := ba) (bn := x.2.length) (bc := bc) (ps := x.1) hA (by omega) hg.g
  (try dsimp only at hO)
  clear hdx' hwb
  generalize ownA x.1 = A5 at *
  generalize ownB x.1 = B5 at *
  (((refine' e_opN (v_ldAgg ?hn) ?hi ?_); (case hi => exact .pick (by repeat constructor) .nil); (case hn => rfl)))
  (refine' e_call (hO) ?hp fun _ => ?_; (case hp => (repeat (first | exact Picks.nil | (apply Picks.cons; (focus repeat constructor))))); (try simp only [ca_, na_, Bool.not_true, Bool.not_false]))
  rename_i qq
  obtain ⟨⟨qa, ka⟩, ⟨qb, kb⟩⟩ := qq
  (try dsimp only)
  (((refine' e_opN (v_extN ?hc) .nil ?_); (case hc => repeat constructor))); (((refine' e_opN (v_extN ?hc) .nil ?_); (case hc => repeat constructor)))
  refine e_slfacts (by (repeat constructor) : Pick _ (Sl 1 3 qa ka A5.length (A5.map I)) _) fun _ ca _ fa => ?_
  refine e_slfacts (by (repeat constructor) : Pick _ (Sl 1 3 qb kb B5.length (B5.map I)) _) fun _ cb _ fb => ?_
  have ra : RdB W (Sl 1 3 qa ka A5.length (A5.map I)) qa A5.length (A5.map I) := rd_sl (by rw [List.length_map]) fa
  have rb : RdB W (Sl 1 3 qb kb B5.length (B5.map I)) qb B5.length (B5.map I) := rd_sl (by rw [List.length_map]) fb
  obtain ⟨ga, rfl⟩ := fa (by omega)
  obtain ⟨gb, rfl⟩ := fb (by omega)
  refine e_call (rhead (w := p) (ga := ga) (gb := gb) (c1 := ka) (c2 := kb) (L := [] ++ bitsOf last 1 ++ bitsOf 2 2) v1 v2 l1 l2 ca cb (by simp only [List.length_append, length_bitsOf, List.length_nil]; omega)) (.cons (by repeat constructor) (.cons (by repeat constructor) (.cons (by repeat constructor) .nil))) fun _ => ?_
  (try simp only [ca_, na_, -eq_self])
  (((refine' e_opN (v_ldAgg ?hn) ?hi ?_); (case hi => exact .pick (by repeat constructor) .nil); (case hn => rfl)))
  refine e_call (rsymbols (w := p) (L := [] ++ bitsOf last 1 ++ bitsOf 2 2 ++ hdX A5 B5) (c1 := ka) (c2 := kb) (pc := lc) (ba := ba) (bn := x.2.length) (bc := bc) (ps := x.1) hA (by omega) hg.g ra rb (by omega) (by omega) (by
   simp only [List.length_append, length_bitsOf, List.length_nil]; omega)) (.cons (by repeat constructor) (.cons (by repeat constructor) (.cons (by repeat constructor) (.cons (by repeat constructor) .nil)))) fun _ => ?_
  (try simp only [ca_, na_, -eq_self])
  (first | refine e_ret (p) rfl ?_ | refine e_retT (p) ?_)
  (repeat (first | exact .refl | exact .nil | (apply Imp.pick; (focus ((repeat constructor); done))) | refine .drop ?_))
def bestH (k g last : Nat) (x : Blk) : HP := if k = 0 then pu True else IsX g (wayB k last x)
def bestP (k g : Nat) : Value := if k = 0 then .pointer none else .pointer (some ⟨g, 0, none⟩)
theorem rput06 {W : World} {w last : Nat} {level : Int} {A : HP} {x : Blk} {v : Bv} {L : List Bool} (hl : last <= 1) (hA : RdB W A v.1.1 (x.1.length * 3) (x.1.flatMap pPz)) (hB : RdB W A v.2.1 x.2.length (x.2.map Sl.B)) (hg : goodB x) (hL : L.length <= 6000000) :
  Cn p_ 55 [.pointer (some ⟨w, 0, none⟩), bwV (x, v), .int .i64 level, .int .i64 (last : Int)] W [IsX w L, A] (fun _ : Unit => .tuple #[]) (fun _ => [IsX w (putX level L last x), A]) := by
 have hw := fun k hk => rway (W := W) (k := k) (last := last) (AL := A) (x := x) (v := v) hk hl hA hg
 have hb2 := best_le2 L.length level x
 have hpX : putX level L last x = wayX (best L.length level x) (L ++ bitsOf last 1 ++ bitsOf (best L.length level x) 2) x := rfl
 have hpl := (putX_len level L last x).2
 have hsl := sizX_le (x := x) 0 L.length hg
 have e1 : sizX 1 L.length x = (wayB 1 last x).length := by rw [wayB_len, if_pos rfl]; rfl
 have e2 : sizX 2 L.length x = (wayB 2 last x).length := by rw [wayB_len, if_neg (by decide)]; rfl
 have e0 : sizX 0 L.length x = 8 * ((L.length % 8 + 10) / 8) + 32 + 8 * x.2.length - L.length % 8 := rfl
 have hst0 : stoN L.length x = sizX 0 L.length x := rfl
 have hs1 := sizX_le (x := x) 1 L.length hg
 have hs2 := sizX_le (x := x) 2 L.length hg
 have hbd : best L.length level x = if ¬ 0 < level then 0 else if sizX 2 L.length x < (if sizX 1 L.length x < sizX 0 L.length x then sizX 1 L.length x else sizX 0 L.length x) then 2 else if sizX 1 L.length x < sizX 0 L.length x then 1 else 0 := rfl
 have hbn := hg.bn
 rw [hpX] at hpl
 rw [hpX]
 rw [hst0] at hpl
 rw [e1, e2] at hbd
 rw [e1] at hs1
 rw [e2] at hs2
 obtain ⟨s0, hs0⟩ : ∃ s0, s0 = sizX 0 L.length x := ⟨_, rfl⟩
 rw [<- hs0] at hbd e0 hsl hpl
 obtain ⟨bst_, hbst⟩ : ∃ bst_, bst_ = best L.length level x := ⟨_, rfl⟩
 rw [<- hbst] at hb2 hpl hbd ⊢
 obtain ⟨⟨la, lc⟩, ⟨ba, bc⟩⟩ := v
 unfold bwV at hw ⊢
 (try dsimp only at hw hA hB)
 (try dsimp only)
 (refine S.ref06_put_cn fun F => ?_; unfold S.ref06_put; simp only [ca_, na_])
 refine e_boxA fun b5 => ?_
 obtain ⟨T, hT⟩ : ∃ T, T = 8 * ((L.length % 8 + 10) / 8) - L.length % 8 := ⟨_, rfl⟩
 refine e_loop1 (fun m y => pu (∃ k : Nat, 3 <= k /\ m + k = T /\ y = .int .i64 (k : Int)) :: IsX w L :: pt b5 (.cells #[.slice la x.1.length lc, .slice ba x.2.length bc] 92) :: A :: F) (T - 3) ?_ ?_
 ·refine .pu ⟨3, by omega, by omega, rfl⟩ ?_
  (repeat (first | exact .refl | exact .nil | (apply Imp.pick; (focus ((repeat constructor); done))) | refine .drop ?_))
 intro m ds y
 refine e_pu .here fun hk => ?_
 obtain ⟨k, hk3, hmk, rfl⟩ := hk
 refine e_ex .here fun qx => e_all .here ?_
 (try simp only [ca_, na_, -eq_self])
 refine e_opN v_nil .nil ?_; refine e_opN v_fa0 .nil ?_; (((refine' e_opN (v_ldN ?hc) ?hi ?_); (case hi => exact .pick (by repeat constructor) .nil); (case hc => repeat constructor))); refine e_opN v_len .nil ?_; (refine e_opN (v_add (by omega) (by omega)) .nil ?_); (((refine e_opN (v_rem ?h1 ?h2) .nil ?_); (case h1 => omega); (case h2 => omega)))
 refine e_opN v_neq .nil ?_
 by_cases hm : m = 0
 rotate_left
 ·rw [dT_ (by omega)]
  refine e_condT ?_; (refine e_opN (v_add (by omega) (by omega)) .nil ?_)
  refine e_next1 (m - 1) (by omega) (.pu ⟨k + 1, by omega, by omega, by rfl⟩ ?_)
  refine .ex qx (.all ?_)
  (try simp only [ca_, na_, -eq_self])
  (repeat (first | exact .refl | exact .nil | (apply Imp.pick; (focus ((repeat constructor); done))) | refine .drop ?_))
 rw [dF_ (by omega)]
 refine e_condF ?_; (refine e_opN (v_add (by omega) (by omega)) .nil ?_); refine e_opN v_fa0 .nil ?_; (((refine' e_opN (v_ldN ?hc) ?hi ?_); (case hi => exact .pick (by repeat constructor) .nil); (case hc => repeat constructor))); refine e_opN v_len .nil ?_; (refine e_opN (v_mul (by omega) (by omega)) .nil ?_); (refine e_opN (v_add (by omega) (by omega)) .nil ?_)
 refine e_imp (M := IsX w L :: pt b5 (.cells #[.slice la x.1.length lc, .slice ba x.2.length bc] 92) :: A :: F) ?_ ?_
 ·refine .ex qx (.all ?_)
  (try simp only [ca_, na_, -eq_self])
  (repeat (first | exact .refl | exact .nil | (apply Imp.pick; (focus ((repeat constructor); done))) | refine .drop ?_))
 obtain ⟨s1, hs1'⟩ : ∃ s1, s1 = (wayB 1 last x).length := ⟨_, rfl⟩
 obtain ⟨s2, hs2'⟩ : ∃ s2, s2 = (wayB 2 last x).length := ⟨_, rfl⟩
 rw [<- hs1'] at hbd hs1
 rw [<- hs2'] at hbd hs2
 have hls : (k : Int) + 32 + 8 * (x.2.length : Int) = (s0 : Int) := by omega
 rw [hls]
 refine e_loop3 (fun m y z u => (ex fun q : Nat × Nat × Nat => all [pu (m + q.1 = 2 /\ u = .int .i64 ((q.1 : Int) + 1) /\ z = bestP q.2.1 q.2.2 /\ y = .int .i64 ((if q.2.1 = 0 then s0 else if q.2.1 = 1 then s1 else s2 : Nat) : Int) /\ ((q.1 = 0 /\ q.2.1 = 0) \/ (0 < level /\ q.1 = 1 /\ q.2.1 = if s1 < s0 then 1 else 0) \/ (0 < level /\ q.1 = 2 /\ q.2.1 = bst_))), bestH q.2.1 q.2.2 last x]) :: IsX w L :: pt b5 (.cells #[.slice la x.1.length lc, .slice ba x.2.length bc] 92) :: A :: F) 2 ?_ ?_
 ·refine .ex (0, 0, 0) (.all ?_)
  (try simp only [ca_, na_, -eq_self])
  refine .pu ⟨rfl, rfl, rfl, rfl, .inl ⟨rfl, rfl⟩⟩ ?_
  unfold bestH
  rw [if_pos rfl]
  exact .pu trivial (by (repeat (first | exact .refl | exact .nil | (apply Imp.pick; (focus ((repeat constructor); done))) | refine .drop ?_)))
 intro m3 ds3 y z u
 refine e_ex .here fun q => e_all .here ?_
 obtain ⟨i, bk, g⟩ := q
 (try simp only [ca_, na_, -eq_self])
 (try dsimp only)
 refine e_pu .here fun hq => ?_
 obtain ⟨hmi, rfl, rfl, rfl, hrel⟩ := hq
 refine e_opN v_leq .nil ?_
 by_cases hgo : (i : Int) + 1 <= 2 /\ 0 < level
 ·obtain ⟨hi2, hlv⟩ := hgo
  rw [dT_ hi2]
  refine e_gdT ?_; refine e_gdT ?_
  refine e_opN v_gtr .nil ?_
  rw [dT_ hlv]
  refine e_opN v_pickT .nil ?_; refine e_condT ?_; (((refine' e_opN (v_ldAgg ?hn) ?hi ?_); (case hi => exact .pick (by repeat constructor) .nil); (case hn => rfl)))
  rw [if_neg (fun h => h hlv)] at hbd
  have hk12 : i + 1 = 1 \/ i + 1 = 2 := by omega
  refine e_call (hw (i + 1) hk12) (.cons (by repeat constructor) .nil) fun g2 => ?_
  (try simp only [ca_, na_, -eq_self])
  refine e_ex .here fun qz => e_all .here ?_
  (try simp only [ca_, na_, -eq_self])
  obtain ⟨lw, hlw⟩ : ∃ lw, lw = (wayB (i + 1) last x).length := ⟨_, rfl⟩
  have hlw' : lw = if i = 0 then s1 else s2 := by
   rw [hlw]
   rcases hk12 with h | h
   ·rw [if_pos (by omega), hs1', h]
   ·rw [if_neg (by omega), hs2', h]
  obtain ⟨cur, hcur⟩ : ∃ cur, cur = (if bk = 0 then s0 else if bk = 1 then s1 else s2) := ⟨_, rfl⟩
  rw [<- hlw, <- hcur]
  refine e_opN v_nil .nil ?_; refine e_opN v_fa0 .nil ?_; (((refine' e_opN (v_ldN ?hc) ?hi ?_); (case hi => exact .pick (by repeat constructor) .nil); (case hc => repeat constructor))); refine e_opN v_len .nil ?_
  refine e_opN v_lss .nil ?_
  by_cases hc : (lw : Int) < (cur : Int)
  ·rw [dT_ hc]
   refine e_condT ?_; refine e_opN v_nil .nil ?_; refine e_opN v_fa0 .nil ?_; (((refine' e_opN (v_ldN ?hc) ?hi ?_); (case hi => exact .pick (by repeat constructor) .nil); (case hc => repeat constructor))); refine e_opN v_len .nil ?_; (refine e_opN (v_add (by omega) (by omega)) .nil ?_)
   refine e_next3 (m3 - 1) (by omega) (.ex (i + 1, i + 1, g2) (.all ?_))
   (try simp only [ca_, na_, -eq_self])
   (try dsimp only)
   refine .pu ⟨by omega, by rfl, ?_, ?_, ?_⟩ ?_
   ·unfold bestP; rw [if_neg (by omega)]
   ·rw [if_neg (by omega), hlw']
    congr 2
    rcases hk12 with h | h
    ·rw [if_pos (by omega), if_pos (by omega)]
    ·rw [if_neg (by omega), if_neg (by omega)]
   ·rcases hrel with ⟨h1, h2⟩ | ⟨_, h1, h2⟩ | ⟨_, h1, h2⟩
    ·refine .inr (.inl ⟨hlv, by omega, ?_⟩)
     rw [if_pos h2] at hcur
     rw [if_pos h1] at hlw'
     rw [if_pos (by omega)]; omega
    ·refine .inr (.inr ⟨hlv, by omega, ?_⟩)
     rw [if_neg (by omega)] at hlw'
     have hcu : cur = if s1 < s0 then s1 else s0 := by
      rw [hcur, h2]; split <;> simp
     rw [hbd, if_pos (by omega)]; omega
    ·omega
   unfold bestH
   rw [if_neg (show ¬ i + 1 = 0 by omega)]
   refine .ex qz (.all ?_)
   (try simp only [ca_, na_, -eq_self])
   rw [<- hlw]
   (repeat (first | exact .refl | exact .nil | (apply Imp.pick; (focus ((repeat constructor); done))) | refine .drop ?_))
  ·rw [dF_ hc]
   refine e_condF ?_; (refine e_opN (v_add (by omega) (by omega)) .nil ?_)
   refine e_next3 (m3 - 1) (by omega) (.ex (i + 1, bk, g) (.all ?_))
   (try simp only [ca_, na_, -eq_self])
   (try dsimp only)
   refine .pu ⟨by omega, by rfl, by rfl, by rw [hcur], ?_⟩ ?_
   ·rcases hrel with ⟨h1, h2⟩ | ⟨_, h1, h2⟩ | ⟨_, h1, h2⟩
    ·refine .inr (.inl ⟨hlv, by omega, ?_⟩)
     rw [if_pos h2] at hcur
     rw [if_pos h1] at hlw'
     rw [if_neg (by omega)]; omega
    ·refine .inr (.inr ⟨hlv, by omega, ?_⟩)
     rw [if_neg (by omega)] at hlw'
     have hcu : cur = if s1 < s0 then s1 else s0 := by
      rw [hcur, h2]; split <;> simp
     rw [hbd, if_neg (by omega), h2]
    ·omega
   (repeat (first | exact .refl | exact .nil | (apply Imp.pick; (focus ((repeat constructor); done))) | refine .drop ?_))
 ·have hbk : bk = bst_ := by
   rcases hrel with ⟨h1, h2⟩ | ⟨hlv, h1, h2⟩ | ⟨_, h1, h2⟩
   ·rw [if_pos (by omega)] at hbd; omega
   ·omega
   ·exact h2
  subst hbk
  by_cases hi2 : (i : Int) + 1 <= 2
  ·have hlv : ¬ 0 < level := fun h => hgo ⟨hi2, h⟩
   rw [dT_ hi2]
   refine e_gdT ?_; refine e_gdT ?_
   refine e_opN v_gtr .nil ?_
   rw [dF_ hlv]
   refine e_opN v_pickT .nil ?_; refine e_condF ?_
   by_cases h0 : bk = 0
   ·subst h0
    unfold bestP bestH
    rw [if_pos rfl]
    refine e_pu .here fun _ => ?_
    refine e_opN v_neNil0 .nil ?_; refine e_condF ?_
    (refine' e_call (xPut (l := L) (n := (last : Int)) (k := 1)) ?hp fun _ => ?_; (case hp => (repeat (first | exact Picks.nil | (apply Picks.cons; (focus repeat constructor))))); (try simp only [ca_, na_, Bool.not_true, Bool.not_false]))
    rw [putL_i (e := last) (k := 1) (j := 1) rfl rfl (by omega) (by omega) (by omega)]
    (refine' e_call (xPut (l := L ++ bitsOf last 1) (n := 0) (k := 2)) ?hp fun _ => ?_; (case hp => (repeat (first | exact Picks.nil | (apply Picks.cons; (focus repeat constructor))))); (try simp only [ca_, na_, Bool.not_true, Bool.not_false]))
    rw [putL_i (n := 0) (e := 0) (k := 2) (j := 2) rfl rfl (by omega) (by omega) (by rw [List.length_append, length_bitsOf]; omega)]
    refine e_opN v_fa0 .nil ?_; (((refine' e_opN (v_ldN ?hc) ?hi ?_); (case hi => exact .pick (by repeat constructor) .nil); (case hc => repeat constructor)))
    refine e_call (rstored (w := w) (c := bc) (M := L ++ bitsOf last 1 ++ bitsOf 0 2) (x := x) hB (by omega) (by simp only [List.length_append, length_bitsOf]; omega)) (.cons (by repeat constructor) (.cons (by repeat constructor) .nil)) fun _ => ?_
    (try simp only [ca_, na_, -eq_self])
    rw [show wayX 0 (L ++ bitsOf last 1 ++ bitsOf 0 2) x = stoX (L ++ bitsOf last 1 ++ bitsOf 0 2) x by unfold wayX; rw [if_pos rfl]]
    (first | refine e_ret (()) rfl ?_ | refine e_retT (()) ?_)
    (repeat (first | exact .refl | exact .nil | (apply Imp.pick; (focus ((repeat constructor); done))) | refine .drop ?_))
   ·have hwx : wayX bk (L ++ bitsOf last 1 ++ bitsOf bk 2) x = L ++ wayB bk last x := by
     unfold wayX wayB
     rw [if_neg h0]
     rcases (show bk = 1 \/ bk = 2 by omega) with h | h
     ·rw [if_pos h, if_pos h]; simp only [List.append_assoc]
     ·rw [if_neg (by omega), if_neg (by omega)]; simp only [List.append_assoc]
    rw [hwx, List.length_append] at hpl
    rw [hwx]
    unfold bestP bestH
    rw [if_neg h0, if_neg h0]
    obtain ⟨Y, hY⟩ : ∃ Y, Y = wayB bk last x := ⟨_, rfl⟩
    rw [<- hY] at hpl ⊢
    clear hwx
    refine e_ex .here fun qz => e_all .here ?_
    (try simp only [ca_, na_, -eq_self])
    refine e_ex (by repeat constructor) fun qw => e_all .here ?_
    (try simp only [ca_, na_, -eq_self])
    obtain ⟨za, zc⟩ := qz
    obtain ⟨wa, wc⟩ := qw
    (try dsimp only)
    refine e_opN v_neNil1 .nil ?_; refine e_condT ?_; refine e_drS ?_; refine e_stS v_nil .nil ?_; refine e_stS v_fa0 .nil ?_; (((refine' e_stS (v_ldN ?hc) ?hi ?_); (case hi => exact .pick (by repeat constructor) .nil); (case hc => repeat constructor))); refine e_stS v_nil .nil ?_; refine e_stS v_fa0 .nil ?_; (((refine' e_stS (v_ldN ?hc) ?hi ?_); (case hi => exact .pick (by repeat constructor) .nil); (case hc => repeat constructor)))
    refine e_slfacts (by (repeat constructor) : Pick _ (Sl 1 5 za zc Y.length (Y.map fun b => Sl.B (bb b))) _) fun _ _ _ fz => ?_
    have rz : RdB W (Sl 1 5 za zc Y.length (Y.map fun b => Sl.B (bb b))) za Y.length (Y.map fun b => Sl.B (bb b)) := rd_sl (by rw [List.length_map]) fz
    refine e_app (m := Y.length) (news := Y.map fun b => Sl.B (bb b)) (.there .here) (src_rd (A := Sl 1 5 za zc Y.length (Y.map fun b => Sl.B (bb b))) (e' := 5) (by kernel_rfl) (by repeat constructor) rz (fun c => by
     rcases Nat.eq_zero_or_pos Y.length with h | h
     ·exact h
     ·obtain ⟨g', hg'⟩ := fz h
      rw [c] at hg'; cases hg') (fun u hu => by obtain ⟨y, _, rfl⟩ := List.mem_map.1 hu; rfl)) (by omega) (by omega) fun a1 k1 => ?_
    rw [<- List.map_append, <- List.length_append]
    refine e_stS v_nil .nil ?_; refine e_stS v_fa0 .nil ?_; (((refine' e_stN ?hp ?ho ?_); (case hp => (repeat constructor)); (case ho => repeat constructor)))
    (first | refine e_ret (()) rfl ?_ | refine e_retT (()) ?_)
    refine .ex (a1, k1) (.all ?_)
    (try simp only [ca_, na_, -eq_self])
    refine .pick (by repeat constructor) (.pick (by repeat constructor) (.pu (by rw [List.length_append]; omega) ?_))
    (repeat (first | exact .refl | exact .nil | (apply Imp.pick; (focus ((repeat constructor); done))) | refine .drop ?_))
  ·rw [dF_ hi2]
   refine e_gdF2 ?_; refine e_gdF2 ?_; refine e_opN v_pickF .nil ?_; refine e_condF ?_
   by_cases h0 : bk = 0
   ·subst h0
    unfold bestP bestH
    rw [if_pos rfl]
    refine e_pu .here fun _ => ?_
    refine e_opN v_neNil0 .nil ?_; refine e_condF ?_
    (refine' e_call (xPut (l := L) (n := (last : Int)) (k := 1)) ?hp fun _ => ?_; (case hp => (repeat (first | exact Picks.nil | (apply Picks.cons; (focus repeat constructor))))); (try simp only [ca_, na_, Bool.not_true, Bool.not_false]))
    rw [putL_i (e := last) (k := 1) (j := 1) rfl rfl (by omega) (by omega) (by omega)]
    (refine' e_call (xPut (l := L ++ bitsOf last 1) (n := 0) (k := 2)) ?hp fun _ => ?_; (case hp => (repeat (first | exact Picks.nil | (apply Picks.cons; (focus repeat constructor))))); (try simp only [ca_, na_, Bool.not_true, Bool.not_false]))
    rw [putL_i (n := 0) (e := 0) (k := 2) (j := 2) rfl rfl (by omega) (by omega) (by rw [List.length_append, length_bitsOf]; omega)]
    refine e_opN v_fa0 .nil ?_; (((refine' e_opN (v_ldN ?hc) ?hi ?_); (case hi => exact .pick (by repeat constructor) .nil); (case hc => repeat constructor)))
    refine e_call (rstored (w := w) (c := bc) (M := L ++ bitsOf last 1 ++ bitsOf 0 2) (x := x) hB (by omega) (by simp only [List.length_append, length_bitsOf]; omega)) (.cons (by repeat constructor) (.cons (by repeat constructor) .nil)) fun _ => ?_
    (try simp only [ca_, na_, -eq_self])
    rw [show wayX 0 (L ++ bitsOf last 1 ++ bitsOf 0 2) x = stoX (L ++ bitsOf last 1 ++ bitsOf 0 2) x by unfold wayX; rw [if_pos rfl]]
    (first | refine e_ret (()) rfl ?_ | refine e_retT (()) ?_)
    (repeat (first | exact .refl | exact .nil | (apply Imp.pick; (focus ((repeat constructor); done))) | refine .drop ?_))
   ·have hwx : wayX bk (L ++ bitsOf last 1 ++ bitsOf bk 2) x = L ++ wayB bk last x := by
     unfold wayX wayB
     rw [if_neg h0]
     rcases (show bk = 1 \/ bk = 2 by omega) with h | h
     ·rw [if_pos h, if_pos h]; simp only [List.append_assoc]
     ·rw [if_neg (by omega), if_neg (by omega)]; simp only [List.append_assoc]
    rw [hwx, List.length_append] at hpl
    rw [hwx]
    unfold bestP bestH
    rw [if_neg h0, if_neg h0]
    obtain ⟨Y, hY⟩ : ∃ Y, Y = wayB bk last x := ⟨_, rfl⟩
    rw [<- hY] at hpl ⊢
    clear hwx
    refine e_ex .here fun qz => e_all .here ?_
    (try simp only [ca_, na_, -eq_self])
    refine e_ex (by repeat constructor) fun qw => e_all .here ?_
    (try simp only [ca_, na_, -eq_self])
    obtain ⟨za, zc⟩ := qz
    obtain ⟨wa, wc⟩ := qw
    (try dsimp only)
    refine e_opN v_neNil1 .nil ?_; refine e_condT ?_; refine e_drS ?_; refine e_stS v_nil .nil ?_; refine e_stS v_fa0 .nil ?_; (((refine' e_stS (v_ldN ?hc) ?hi ?_); (case hi => exact .pick (by repeat constructor) .nil); (case hc => repeat constructor))); refine e_stS v_nil .nil ?_; refine e_stS v_fa0 .nil ?_; (((refine' e_stS (v_ldN ?hc) ?hi ?_); (case hi => exact .pick (by repeat constructor) .nil); (case hc => repeat constructor)))
    refine e_slfacts (by (repeat constructor) : Pick _ (Sl 1 5 za zc Y.length (Y.map fun b => Sl.B (bb b))) _) fun _ _ _ fz => ?_
    have rz : RdB W (Sl 1 5 za zc Y.length (Y.map fun b => Sl.B (bb b))) za Y.length (Y.map fun b => Sl.B (bb b)) := rd_sl (by rw [List.length_map]) fz
    refine e_app (m := Y.length) (news := Y.map fun b => Sl.B (bb b)) (.there .here) (src_rd (A := Sl 1 5 za zc Y.length (Y.map fun b => Sl.B (bb b))) (e' := 5) (by kernel_rfl) (by repeat constructor) rz (fun c => by
     rcases Nat.eq_zero_or_pos Y.length with h | h
     ·exact h
     ·obtain ⟨g', hg'⟩ := fz h
      rw [c] at hg'; cases hg') (fun u hu => by obtain ⟨y, _, rfl⟩ := List.mem_map.1 hu; rfl)) (by omega) (by omega) fun a1 k1 => ?_
    rw [<- List.map_append, <- List.length_append]
    refine e_stS v_nil .nil ?_; refine e_stS v_fa0 .nil ?_; (((refine' e_stN ?hp ?ho ?_); (case hp => (repeat constructor)); (case ho => repeat constructor)))
    (first | refine e_ret (()) rfl ?_ | refine e_retT (()) ?_)
    refine .ex (a1, k1) (.all ?_)
    (try simp only [ca_, na_, -eq_self])
    refine .pick (by repeat constructor) (.pick (by repeat constructor) (.pu (by rw [List.length_append]; omega) ?_))
    (repeat (first | exact .refl | exact .nil | (apply Imp.pick; (focus ((repeat constructor); done))) | refine .drop ?_))
theorem rDeflate {W : World} {a : Option Addr} {c : Nat} {level : Int} {b : List UInt8} {A : HP} (hA : RdB W A a b.length (b.map Sl.B)) (hc : b.length <= c) :
  Cn p_ 42 [.slice a b.length c, .int .i64 level] W [A] (fun q : Option Addr × Nat => .tuple #[.slice q.1 (dflB b level).length q.2, .int .i64 (dflE b level)]) (fun q => [Sl 1 5 q.1 q.2 (dflB b level).length ((dflB b level).map Sl.B), A]) := by
 have bad : ∀ (e : Int) (L : List HP), dflE b level = e -> e ≠ 0 -> Ent W (A :: L) (fun w => ∃ q : Option Addr × Nat, (.tuple #[.slice none 0 0, .int .i64 e] : Value) = .tuple #[.slice q.1 (dflB b level).length q.2, .int .i64 (dflE b level)] /\ sat W ([Sl 1 5 q.1 q.2 (dflB b level).length ((dflB b level).map Sl.B), A] ++ L) w) := by
  intro e L h h0
  have hv : dflB b level = [] := by unfold dflB; rw [if_neg (by rw [h]; exact h0)]
  rw [h, hv]
  refine e_ret (none, 0) rfl ?_
  exact imp_nil .refl
 (refine S.ref06_Deflate_cn fun F => ?_; unfold S.ref06_Deflate; simp only [ca_, na_])
 refine e_opN v_lss .nil ?_
 by_cases hw1 : level < 0
 ·rw [dT_ hw1]
  refine e_gdF1 ?_; refine e_gdF1 ?_; refine e_opN v_pickT .nil ?_; refine e_condT ?_
  exact bad 1 F (by unfold dflE; rw [if_pos (.inl hw1)]) (by decide)
 rw [dF_ hw1]
 refine e_gdT ?_; refine e_gdT ?_
 refine e_opN v_gtr .nil ?_
 by_cases hw2 : 9 < level
 ·rw [dT_ hw2]
  refine e_opN v_pickF .nil ?_; refine e_condT ?_
  exact bad 1 F (by unfold dflE; rw [if_pos (.inr hw2)]) (by decide)
 rw [dF_ hw2]
 have hw : ¬ (level < 0 \/ 9 < level) := fun h => h.elim hw1 hw2
 refine e_opN v_pickF .nil ?_; refine e_condF ?_; refine e_opN v_len .nil ?_
 refine e_opN v_gtr .nil ?_
 by_cases hs : (524288 : Int) < (b.length : Int)
 ·rw [dT_ hs]
  refine e_condT ?_
  exact bad 6 F (by unfold dflE; rw [if_neg hw, if_pos (by omega)]) (by decide)
 rw [dF_ hs]
 have hE : dflE b level = 0 := by unfold dflE; rw [if_neg hw, if_neg (by omega)]
 have hlv : 0 <= level := by omega
 have hbl : b.length <= 524288 := by omega
 refine e_condF ?_; refine e_opN v_rv .nil ?_; refine e_boxA fun g => ?_
 rename Nat => w
 refine e_imp (M := IsX w [] :: A :: F) (xNewX (p := w) (by repeat constructor) .refl) ?_
 refine e_call (rblocks (c := c) (level := level) hA hc (by omega) (by omega)) (.cons (by repeat constructor) .nil) fun q => ?_
 obtain ⟨⟨xa, xc⟩, X⟩ := q
 (try simp only [ca_, na_, -eq_self])
 refine e_pu .here fun hX => ?_
 (try dsimp only at hX)
 (try dsimp only)
 obtain ⟨hXf, hXk⟩ := hX
 obtain ⟨hG, hn⟩ := blks_G b hlv
 have hXl : X.length = (blksF b level).length := by rw [<- hXf, List.length_map]
 have hbnd := puts0_bnd (b := b) (level := level) hlv hbl
 have hXb : X.length <= 1000 := by omega
 have hne := blks_ne b level
 have hpos : 0 < X.length := by rw [hXl]; exact List.length_pos_iff.2 hne
 have hdX : dflX b level = pgX level (blksF b level) X.length := by unfold pgX dflX; rw [if_neg (by omega)]
 have hdB : dflB b level = pk (dflX b level) := by unfold dflB; rw [if_pos hE]
 refine e_slsome .here hpos fun gx hgx => ?_
 subst hgx
 refine e_loop1 (fun m y => (ex fun i : Nat => all [pu (m + i = X.length /\ y = .int .i64 (i : Int)), IsX w (pgX level (blksF b level) i)]) :: Sl 2 92 (some ⟨gx, 0, none⟩) xc X.length (X.flatMap bwC) :: BAr X :: A :: F) X.length ?_ ?_
 ·refine .ex 0 (.all ?_)
  (try simp only [ca_, na_, -eq_self])
  refine .pu ⟨by omega, rfl⟩ ?_
  rw [show pgX level (blksF b level) 0 = [] by unfold pgX; rw [if_pos (by omega)]; rfl]
  (repeat (first | exact .refl | exact .nil | (apply Imp.pick; (focus ((repeat constructor); done))) | refine .drop ?_))
 intro m ds y
 refine e_ex .here fun i => e_all .here ?_
 (try simp only [ca_, na_, -eq_self])
 refine e_pu .here fun hi => ?_
 obtain ⟨hmi, rfl⟩ := hi
 refine e_opN v_len .nil ?_
 refine e_opN v_lss .nil ?_
 by_cases hlt : (i : Int) < (X.length : Int)
 ·rw [dT_ hlt]
  have hi : i < X.length := by omega
  have hib : i < (blksF b level).length := by omega
  have hk := hXk _ (List.getElem_mem hi)
  have hx1 : X[i].1 = (blksF b level)[i] := by
   have := List.getElem_map (f := Prod.fst) (l := X) (i := i) (h := by rw [List.length_map]; exact hi)
   rw [<- this]
   congr 1
  obtain ⟨fr, hok⟩ := blkG_all hG _ (List.getElem_mem hib)
  have hst := pg_step (level := level) hib
  have hLi : (pgX level (blksF b level) i).length <= 6000000 := by unfold pgX; rw [if_pos hib]; exact hbnd i
  rw [<- hx1] at hok hst
  refine e_condT ?_
  have ld : RunV p_ W [Sl 2 92 (some ⟨gx, 0, none⟩) xc X.length (X.flatMap bwC)] (sLoad 92 (.pointer (some ⟨gx, 0 + i * 2, none⟩))) (bwV X[i]) := v_ldRdG (vs := bwC X[i]) (rd_slG (bw_len _) (fun _ => ⟨gx, rfl⟩)) rfl (fun j hj => bw_get hi hj)
  refine e_cut1 (fun z => pu (z = .int .i64 ((if i + 1 = X.length then 1 else 0 : Nat) : Int)) :: IsX w (pgX level (blksF b level) i) :: Sl 2 92 (some ⟨gx, 0, none⟩) xc X.length (X.flatMap bwC) :: BAr X :: A :: F) ?_ ?_
  rotate_left
  ·(refine e_opN v_len .nil ?_); (refine e_opN (v_sub (by omega) (by omega)) .nil ?_)
   refine e_opN v_eql .nil ?_
   by_cases hz : (i : Int) = (X.length : Int) - 1
   ·rw [dT_ hz]
    refine e_condT ?_
    refine e_sat (.pu (by rw [if_pos (by omega)]; rfl) ?_)
    (repeat (first | exact .refl | exact .nil | (apply Imp.pick; (focus ((repeat constructor); done))) | refine .drop ?_))
   ·rw [dF_ hz]
    refine e_condF ?_
    refine e_sat (.pu (by rw [if_neg (by omega)]; rfl) ?_)
    (repeat (first | exact .refl | exact .nil | (apply Imp.pick; (focus ((repeat constructor); done))) | refine .drop ?_))
  intro ds z
  refine e_pu .here fun hz => ?_
  subst hz
  refine e_opN (v_ia i (by rfl) hi) .nil ?_
  refine e_opN ld (.pick (by repeat constructor) .nil) ?_
  refine e_call (rput06 (w := w) (x := X[i].1) (v := X[i].2) (last := if i + 1 = X.length then 1 else 0) (L := pgX level (blksF b level) i) (level := level) (by split <;> omega) (bar_l (List.getElem_mem hi) hk) (bar_b (List.getElem_mem hi) hk) (okBk.good hok) hLi) (.cons (by repeat constructor) (.cons (by repeat constructor) .nil)) fun _ => ?_
  (try simp only [ca_, na_, -eq_self])
  (refine e_opN (v_add (by omega) (by omega)) .nil ?_)
  refine e_next1 (m - 1) (by omega) (.ex (i + 1) (.all ?_))
  (try simp only [ca_, na_, -eq_self])
  rw [hst, hXl]
  refine .pu ⟨by omega, by norm_cast⟩ ?_
  (repeat (first | exact .refl | exact .nil | (apply Imp.pick; (focus ((repeat constructor); done))) | refine .drop ?_))
 ·rw [dF_ hlt]
  have hie : i = X.length := by omega
  subst hie
  rw [<- hdX]
  refine e_condF ?_
  (refine' e_call (xBytes (l := dflX b level)) ?hp fun _ => ?_; (case hp => (repeat (first | exact Picks.nil | (apply Picks.cons; (focus repeat constructor))))); (try simp only [ca_, na_, Bool.not_true, Bool.not_false]))
  rename_i q
  rw [hdB, hE]
  (first | refine e_ret (q) rfl ?_ | refine e_retT (q) ?_)
  (repeat (first | exact .refl | exact .nil | (apply Imp.pick; (focus ((repeat constructor); done))) | refine .drop ?_))
end Go.Proofs.YthoeeahdkdcceaaGreat.IF
namespace Go.Proofs.YthoeeahdkdcceaaGreat.GZ
open Go Go.Proofs Go.RowKit Sh Sl T IF
theorem shr1 {n : Nat} : ((n : Int).fdiv (2 ^ (min ((1 : Int)).toNat IntKind.u32.bits))) = ((n / 2 : Nat) : Int) := shr32 (n := n) (k := 1) (by decide)
theorem rAdd {W : World} {s : Nat} {a : Option Addr} {c : Nat} {b : List UInt8} {A : HP} (hs : s < 4294967296) (hr : RdB W A a b.length (b.map Sl.B)) (hb : b.length <= 4611686018427387904) :
  Cn p_ 16 [.int .u32 (s : Int), .slice a b.length c] W [A] (fun _ : Unit => .int .u32 (addF s b : Int)) (fun _ => [A]) := by
 (refine S.ref07_Add_cn fun F => ?_; unfold S.ref07_Add; simp only [ca_, na_])
 refine e_opN (v_inv hs) .nil ?_
 refine e_loop2 (fun m y z => pu (∃ i : Nat, m + i = b.length /\ y = .int .u32 (crcF (inv s) (b.take i) : Int) /\ z = .int .i64 (i : Int)) :: A :: F) b.length ?_ ?_
 ·refine .pu ⟨0, by omega, rfl, rfl⟩ ?_
  (repeat (first | exact .refl | exact .nil | (apply Imp.pick; (focus ((repeat constructor); done))) | refine .drop ?_))
 intro m ds y z
 refine e_pu .here fun hk => ?_
 obtain ⟨i, hmi, rfl, rfl⟩ := hk
 refine e_opN v_len .nil ?_
 refine e_opN v_lss .nil ?_
 by_cases hlt : (i : Int) < (b.length : Int)
 ·rw [dT_ hlt]
  have hi : i < b.length := by omega
  obtain ⟨g, o, rfl, _⟩ := hr.at_ (by omega)
  have hst : crcF (inv s) (b.take (i + 1)) = tbl ((crcF (inv s) (b.take i) % 256) ^^^ b[i].toNat) ^^^ (crcF (inv s) (b.take i) / 256) := by
   rw [List.take_succ_eq_append_getElem hi, crcF_snoc]
  have hcl := crcF_lt (b.take i) (inv_lt hs)
  obtain ⟨C, hC⟩ : ∃ C, C = crcF (inv s) (b.take i) := ⟨_, rfl⟩
  rw [<- hC] at hst hcl ⊢
  have hx := b[i].toNat_lt
  refine e_condT ?_
  refine e_opN (v_ia1 i rfl hi) .nil ?_
  refine e_opN (v_ldRd hr (v := .int .u8 (b[i].toNat : Int)) (B_get hi)) (.pick (by repeat constructor) .nil) ?_
  refine e_opN (v_conv (q := .u32)) .nil ?_
  obtain ⟨x, hxe⟩ : ∃ x, x = b[i].toNat := ⟨_, rfl⟩
  rw [<- hxe] at hst hx ⊢
  rw [wrapu32 (by omega)]
  refine e_loop3 (fun m y z u => pu (∃ k : Nat, m + k = 8 /\ y = .int .u32 (bitR C x k : Int) /\ z = .int .u32 ((x / 2 ^ k : Nat) : Int) /\ u = .int .i64 (k : Int)) :: A :: F) 8 ?_ ?_
  ·refine .pu ⟨0, rfl, by rw [bitR_0], by rw [Nat.pow_zero, Nat.div_one], rfl⟩ ?_
   (repeat (first | exact .refl | exact .nil | (apply Imp.pick; (focus ((repeat constructor); done))) | refine .drop ?_))
  intro m8 ds8 y z u
  refine e_pu .here fun hk => ?_
  obtain ⟨k, hmk, rfl, rfl, rfl⟩ := hk
  refine e_opN v_lss .nil ?_
  by_cases hk8 : (k : Int) < 8
  ·rw [dT_ hk8]
   refine e_condT ?_
   have hbl := bitR_lt (k := k) hcl (show x < 256 from hx)
   have hxl : x / 2 ^ k < 4294967296 := Nat.lt_of_le_of_lt (Nat.div_le_self _ _) (by omega)
   have hsu := bitR_succ C x k
   have hx2 : x / 2 ^ k / 2 = x / 2 ^ (k + 1) := by rw [Nat.pow_succ, Nat.div_div_eq_div_mul]
   refine e_opN v_xor .nil ?_
   rw [xor32 hbl hxl]
   refine e_opN v_and .nil ?_
   rw [and1_32 (xor_lt32 hbl hxl)]
   refine e_opN v_eql .nil ?_
   refine e_opN (v_shr (by decide)) .nil ?_
   rw [shr1]
   refine e_opN (v_shr (by decide)) .nil ?_
   rw [shr1, hx2]
   obtain ⟨X, hX⟩ : ∃ X, X = bitR C x k ^^^ x / 2 ^ k := ⟨_, rfl⟩
   rw [<- hX] at hsu ⊢
   by_cases hp : X % 2 = 1
   ·rw [if_pos hp] at hsu
    rw [dT_ (by omega)]
    refine e_condT ?_
    refine e_opN v_xor .nil ?_
    rw [show (3988292384 : Int) = ((3988292384 : Nat) : Int) from rfl, xor32 (by omega) (by decide), show bitR C x k / 2 ^^^ 3988292384 = bitR C x (k + 1) from hsu.symm]
    (refine e_opN (v_add (by omega) (by omega)) .nil ?_)
    refine e_next3 (m8 - 1) (by omega) (.pu ⟨k + 1, by omega, rfl, rfl, by rfl⟩ ?_)
    (repeat (first | exact .refl | exact .nil | (apply Imp.pick; (focus ((repeat constructor); done))) | refine .drop ?_))
   ·rw [if_neg hp] at hsu
    rw [dF_ (by omega), <- hsu]
    refine e_condF ?_; (refine e_opN (v_add (by omega) (by omega)) .nil ?_)
    refine e_next3 (m8 - 1) (by omega) (.pu ⟨k + 1, by omega, rfl, rfl, by rfl⟩ ?_)
    (repeat (first | exact .refl | exact .nil | (apply Imp.pick; (focus ((repeat constructor); done))) | refine .drop ?_))
  obtain rfl : k = 8 := by omega
  rw [dF_ hk8, bitR_8 C hx, <- hst]
  refine e_condF ?_; (refine e_opN (v_add (by omega) (by omega)) .nil ?_)
  refine e_next2 (m - 1) (by omega) (.pu ⟨i + 1, by omega, rfl, by rfl⟩ ?_)
  (repeat (first | exact .refl | exact .nil | (apply Imp.pick; (focus ((repeat constructor); done))) | refine .drop ?_))
 have hie : i = b.length := by omega
 subst hie
 have hcl := crcF_lt b (inv_lt hs)
 rw [dF_ hlt, List.take_length]
 refine e_condF ?_
 refine e_opN (v_inv hcl) .nil ?_
 (first | refine e_ret (()) rfl ?_ | refine e_retT (()) ?_)
 (repeat (first | exact .refl | exact .nil | (apply Imp.pick; (focus ((repeat constructor); done))) | refine .drop ?_))
theorem rCrc {W : World} {a : Option Addr} {c : Nat} {b : List UInt8} {A : HP} (hr : RdB W A a b.length (b.map Sl.B)) (hb : b.length <= 4611686018427387904) :
  Cn p_ 14 [.slice a b.length c] W [A] (fun _ : Unit => .int .u32 (crc b : Int)) (fun _ => [A]) := by
 (refine S.ref07_Crc_cn fun F => ?_; unfold S.ref07_Crc; simp only [ca_, na_])
 (refine' e_call (rAdd (s := 0) (by decide) hr hb) ?hp fun _ => ?_; (case hp => (repeat (first | exact Picks.nil | (apply Picks.cons; (focus repeat constructor))))); (try simp only [ca_, na_, Bool.not_true, Bool.not_false]))
 (first | refine e_ret (()) rfl ?_ | refine e_retT (()) ?_)
 exact .refl
theorem rfour {W : World} {n : Nat} (hn : n < 4294967296) :
  Cn p_ 63 [.int .u32 (n : Int)] W [] (fun q : Nat => .slice (some ⟨q, 0, none⟩) (four n).length (four n).length) (fun q => [Sl 1 5 (some ⟨q, 0, none⟩) (four n).length (four n).length ((four n).map Sl.B)]) := by
 (refine S.ref07_four_cn fun F => ?_; unfold S.ref07_four; simp only [ca_, na_])
 refine e_opN (v_conv (q := .u8)) .nil ?_
 rw [wrapu8m]
 refine e_opN (v_shr (by decide)) .nil ?_
 rw [show (8 : Int) = ((8 : Nat) : Int) from rfl, shr32 (by omega)]
 refine e_opN (v_conv (q := .u8)) .nil ?_
 rw [wrapu8m]
 refine e_opN (v_shr (by decide)) .nil ?_
 rw [show (16 : Int) = ((16 : Nat) : Int) from rfl, shr32 (by omega)]
 refine e_opN (v_conv (q := .u8)) .nil ?_
 rw [wrapu8m]
 refine e_opN (v_shr (by decide)) .nil ?_
 rw [show (24 : Int) = ((24 : Nat) : Int) from rfl, shr32 (by omega)]
 refine e_opN (v_conv (q := .u8)) .nil ?_
 rw [wrapu8m]
 have hf : (four n).map Sl.B = [.int .u8 ((n % 256 : Nat) : Int), .int .u8 ((n / 2 ^ 8 % 256 : Nat) : Int), .int .u8 ((n / 2 ^ 16 % 256 : Nat) : Int), .int .u8 ((n / 2 ^ 24 % 256 : Nat) : Int)] := by
  unfold four
  simp only [List.map_cons, List.map_nil]
  rw [Go.Proofs.YthoeeahdkdcceaaGreat.M.B_ofNat (by omega), Go.Proofs.YthoeeahdkdcceaaGreat.M.B_ofNat (by omega), Go.Proofs.YthoeeahdkdcceaaGreat.M.B_ofNat (by omega), Go.Proofs.YthoeeahdkdcceaaGreat.M.B_ofNat (by omega)]
 refine e_bslN (vs := (four n).map Sl.B) rfl (by rw [hf]; rfl) (by intro v hv; obtain ⟨c, _, rfl⟩ := List.mem_map.1 hv; rfl) (by omega) fun gd => ?_
 refine e_own (s := 1) (e := 5) (cs := (four n).map Sl.B) (n := 4) .here rfl (by decide) ?_
 (first | refine e_ret (gd) rfl ?_ | refine e_retT (gd) ?_)
 (repeat (first | exact .refl | exact .nil | (apply Imp.pick; (focus ((repeat constructor); done))) | refine .drop ?_))
theorem rHead {W : World} {n : Int} : Cn p_ 43 [.int .i64 n] W [] (fun q : Option Addr × Nat => .slice q.1 (gzH (n % 4294967296).toNat).length q.2) (fun q => [Sl 1 5 q.1 q.2 (gzH (n % 4294967296).toNat).length ((gzH (n % 4294967296).toNat).map Sl.B)]) := by
 obtain ⟨m, hm⟩ : ∃ m, m = (n % 4294967296).toNat := ⟨_, rfl⟩
 have hml : m < 4294967296 := by omega
 rw [<- hm]
 (refine S.ref07_Head_cn fun F => ?_; unfold S.ref07_Head; simp only [ca_, na_])
 refine e_bslN (vs := ([31, 139, 8, 0] : List UInt8).map Sl.B) rfl rfl (by intro v hv; obtain ⟨c, _, rfl⟩ := List.mem_map.1 hv; rfl) (by omega) fun g1 => ?_
 refine e_opN (v_conv (q := .u32)) .nil ?_
 rw [wrapu32m, <- hm]
 refine e_own (s := 1) (e := 5) (cs := ([31, 139, 8, 0] : List UInt8).map Sl.B) (n := 4) .here rfl (by decide) ?_
 (refine' e_call (rfour hml) ?hp fun _ => ?_; (case hp => (repeat (first | exact Picks.nil | (apply Picks.cons; (focus repeat constructor))))); (try simp only [ca_, na_, Bool.not_true, Bool.not_false]))
 rename_i g4
 refine e_app (m := 4) (news := (four m).map Sl.B) (.there .here) (src_rd (A := Sl 1 5 (some ⟨g4, 0, none⟩) (four m).length (four m).length ((four m).map Sl.B)) (e' := 5) (by kernel_rfl) (by repeat constructor) (rd_sl (by rfl) (fun _ => ⟨g4, rfl⟩)) (fun c => by cases c) B_one) (by decide) (by decide) fun a3 c3 => ?_
 refine e_bslN (vs := ([0, 255] : List UInt8).map Sl.B) rfl rfl (by intro v hv; obtain ⟨c, _, rfl⟩ := List.mem_map.1 hv; rfl) (by omega) fun gd => ?_
 refine e_app (m := 2) (news := ([0, 255] : List UInt8).map Sl.B) (.there .here) (src_pt (s := 1) (e' := 5) (by kernel_rfl) .here (by rfl) (bl_one [0, 255])) (by decide) (by decide) fun a2 c2 => ?_
 rw [<- List.map_append, <- List.map_append, show 4 + 4 + 2 = (gzH m).length from rfl, show ([31, 139, 8, 0] ++ four m) ++ [0, 255] = gzH m from rfl]
 (first | refine e_ret ((a2, c2)) rfl ?_ | refine e_retT ((a2, c2)) ?_)
 (repeat (first | exact .refl | exact .nil | (apply Imp.pick; (focus ((repeat constructor); done))) | refine .drop ?_))
theorem gzT_len (b : List UInt8) : (gzT b).length = 8 := rfl
theorem rTail {W : World} {a : Option Addr} {c : Nat} {b : List UInt8} {A : HP} (hr : RdB W A a b.length (b.map Sl.B)) (hb : b.length <= 4611686018427387904) :
  Cn p_ 44 [.slice a b.length c] W [A] (fun q : Option Addr × Nat => .slice q.1 (gzT b).length q.2) (fun q => [Sl 1 5 q.1 q.2 (gzT b).length ((gzT b).map Sl.B), A]) := by
 (refine S.ref07_Tail_cn fun F => ?_; unfold S.ref07_Tail; simp only [ca_, na_])
 refine e_call (rCrc (c := c) hr hb) (.cons (by repeat constructor) .nil) fun _ => ?_
 (try simp only [ca_, na_, -eq_self])
 (refine' e_call (rfour (crc_lt b)) ?hp fun _ => ?_; (case hp => (repeat (first | exact Picks.nil | (apply Picks.cons; (focus repeat constructor))))); (try simp only [ca_, na_, Bool.not_true, Bool.not_false]))
 rename_i g4
 refine e_opN v_len .nil ?_
 refine e_opN (v_conv (q := .u32)) .nil ?_
 rw [wrapu32m, show ((b.length : Int) % 4294967296).toNat = b.length % 4294967296 by omega]
 (refine' e_call (rfour (n := b.length % 4294967296) (by omega)) ?hp fun _ => ?_; (case hp => (repeat (first | exact Picks.nil | (apply Picks.cons; (focus repeat constructor))))); (try simp only [ca_, na_, Bool.not_true, Bool.not_false]))
 rename_i g5
 refine e_app (m := 4) (news := (four (b.length % 4294967296)).map Sl.B) (by (repeat constructor) : Pick _ (Sl 1 5 (some ⟨g4, 0, none⟩) (four (crc b)).length (four (crc b)).length ((four (crc b)).map Sl.B)) _) (src_rd (A := Sl 1 5 (some ⟨g5, 0, none⟩) (four (b.length % 4294967296)).length (four (b.length % 4294967296)).length ((four (b.length % 4294967296)).map Sl.B)) (e' := 5) (by kernel_rfl) (by repeat constructor) (rd_sl (by rfl) (fun _ => ⟨g5, rfl⟩)) (fun c => by cases c) B_one) (by rw [show (four (crc b)).length = 4 from rfl]; decide) (by rw [show (four (crc b)).length = 4 from rfl]; decide) fun a3 c3 => ?_
 rw [<- List.map_append, show (four (crc b)).length + 4 = (gzT b).length from rfl, show four (crc b) ++ four (b.length % 4294967296) = gzT b from rfl]
 (first | refine e_ret ((a3, c3)) rfl ?_ | refine e_retT ((a3, c3)) ?_)
 (repeat (first | exact .refl | exact .nil | (apply Imp.pick; (focus ((repeat constructor); done))) | refine .drop ?_))
theorem rPack {W : World} {a : Option Addr} {c : Nat} {b : List UInt8} {A : HP} {level mtime : Int} (hr : RdB W A a b.length (b.map Sl.B)) (hc : b.length <= c) (hb : b.length <= 4611686018427387904) :
  Cn p_ 11 [.slice a b.length c, .int .i64 level, .int .i64 mtime] W [A] (fun q : Option Addr × Nat => .tuple #[.slice q.1 (pkB b level mtime).length q.2, .int .i64 (pkE b level mtime)]) (fun q => [Sl 1 5 q.1 q.2 (pkB b level mtime).length ((pkB b level mtime).map Sl.B), A]) := by
 have bad : ∀ (e : Int) (L : List HP), pkE b level mtime = e -> e ≠ 0 -> Ent W (A :: L) (fun w => ∃ q : Option Addr × Nat, (.tuple #[.slice none 0 0, .int .i64 e] : Value) = .tuple #[.slice q.1 (pkB b level mtime).length q.2, .int .i64 (pkE b level mtime)] /\ sat W ([Sl 1 5 q.1 q.2 (pkB b level mtime).length ((pkB b level mtime).map Sl.B), A] ++ L) w) := by
  intro e L h h0
  have hv : pkB b level mtime = [] := by unfold pkB; rw [if_neg (by rw [h]; exact h0)]
  rw [h, hv]
  refine e_ret (none, 0) rfl ?_
  exact imp_nil .refl
 (refine S.ref07_Pack_cn fun F => ?_; unfold S.ref07_Pack; simp only [ca_, na_])
 refine e_opN v_lss .nil ?_
 by_cases h0 : mtime < 0
 ·rw [dT_ h0]
  refine e_gdF1 ?_; refine e_gdF1 ?_; refine e_opN v_pickT .nil ?_; refine e_condT ?_
  exact bad 1 F (by unfold pkE; rw [if_pos (.inl h0)]) (by decide)
 rw [dF_ h0]
 refine e_gdT ?_; refine e_gdT ?_
 refine e_opN v_geq .nil ?_
 by_cases h1 : 4294967296 <= mtime
 ·rw [dT_ h1]
  refine e_opN v_pickF .nil ?_; refine e_condT ?_
  exact bad 1 F (by unfold pkE; rw [if_pos (.inr (by omega))]) (by decide)
 rw [dF_ h1]
 have hE : pkE b level mtime = dflE b level := by unfold pkE; rw [if_neg (by omega)]
 refine e_opN v_pickF .nil ?_; refine e_condF ?_
 refine e_call (rDeflate (c := c) (level := level) hr hc) (.cons (by repeat constructor) .nil) fun q => ?_
 obtain ⟨qa, qc⟩ := q
 (try simp only [ca_, na_, -eq_self])
 (try dsimp only)
 refine e_opN (v_ext (v := .slice qa (dflB b level).length qc) rfl) .nil ?_
 refine e_opN (v_ext (v := .int .i64 (dflE b level)) rfl) .nil ?_
 refine e_opN v_neq .nil ?_
 by_cases hd : dflE b level = 0
 rotate_left
 ·rw [dT_ hd]
  refine e_condT ?_
  refine e_imp (M := A :: F) (by (repeat (first | exact .refl | exact .nil | (apply Imp.pick; (focus ((repeat constructor); done))) | refine .drop ?_))) ?_
  exact bad _ F hE hd
 rw [dF_ (fun h => h hd)]
 have hpb : pkB b level mtime = gzH mtime.toNat ++ dflB b level ++ gzT b := by unfold pkB; rw [if_pos (by rw [hE]; exact hd)]
 have hbl := (dflE_0 hd).2.2
 have hdl := dfl_small hd
 refine e_condF ?_
 (refine' e_call (rHead (n := mtime)) ?hp fun _ => ?_; (case hp => (repeat (first | exact Picks.nil | (apply Picks.cons; (focus repeat constructor))))); (try simp only [ca_, na_, Bool.not_true, Bool.not_false]))
 rename_i q2
 obtain ⟨ha, hc2⟩ := q2
 (try dsimp only)
 rw [show mtime % 4294967296 = mtime from Int.emod_eq_of_lt (by omega) (by omega)]
 have hhl := gzH_len mtime.toNat
 obtain ⟨D, hD⟩ : ∃ D, D = dflB b level := ⟨_, rfl⟩
 rw [<- hD] at hdl hpb ⊢
 obtain ⟨H0, hH0⟩ : ∃ H0, H0 = gzH mtime.toNat := ⟨_, rfl⟩
 rw [<- hH0] at hhl hpb ⊢
 have hDl : D.length <= 1048576 := by omega
 clear hdl
 refine e_slfacts (by (repeat constructor) : Pick _ (Sl 1 5 qa qc D.length (D.map Sl.B)) _) fun _ g2 g3 g4 => ?_
 have hrD : RdB W (Sl 1 5 qa qc D.length (D.map Sl.B)) qa D.length (D.map Sl.B) := rd_sl (by rw [List.length_map]) g4
 refine e_app (m := D.length) (news := D.map Sl.B) .here (src_rd (A := Sl 1 5 qa qc D.length (D.map Sl.B)) (e' := 5) (by kernel_rfl) (by repeat constructor) hrD (rd_none_ hrD) B_one) (by omega) (by omega) fun a3 c3 => ?_
 rw [<- List.map_append, <- List.length_append]
 have hTl := gzT_len b
 refine e_call (rTail (c := c) hr hb) (.cons (by repeat constructor) .nil) fun q4 => ?_
 obtain ⟨a4, c4⟩ := q4
 (try simp only [ca_, na_, -eq_self])
 (try dsimp only)
 obtain ⟨T0, hT0⟩ : ∃ T0, T0 = gzT b := ⟨_, rfl⟩
 rw [<- hT0] at hTl hpb ⊢
 refine e_slfacts (by (repeat constructor) : Pick _ (Sl 1 5 a4 c4 T0.length (T0.map Sl.B)) _) fun _ _ _ t4 => ?_
 have hrT : RdB W (Sl 1 5 a4 c4 T0.length (T0.map Sl.B)) a4 T0.length (T0.map Sl.B) := rd_sl (by rw [List.length_map]) t4
 refine e_app (m := T0.length) (news := T0.map Sl.B) (by (repeat constructor) : Pick _ (Sl 1 5 a3 c3 (H0 ++ D).length ((H0 ++ D).map Sl.B)) _) (src_rd (A := Sl 1 5 a4 c4 T0.length (T0.map Sl.B)) (e' := 5) (by kernel_rfl) (by repeat constructor) hrT (rd_none_ hrT) B_one) (by rw [List.length_append]; omega) (by rw [List.length_append]; omega) fun a5 c5 => ?_
 rw [<- List.map_append, <- List.length_append, <- hpb, hE, hd]
 (first | refine e_ret ((a5, c5)) rfl ?_ | refine e_retT ((a5, c5)) ?_)
 (repeat (first | exact .refl | exact .nil | (apply Imp.pick; (focus ((repeat constructor); done))) | refine .drop ?_))
end Go.Proofs.YthoeeahdkdcceaaGreat.GZ
namespace Go.Proofs.YthoeeahdkdcceaaGreat.K
open Go Go.Proofs Sh Sl T
def IsL (g cap : Nat) (b : List UInt8) : HP := Sl 1 5 (some ⟨g, 0, none⟩) cap (b.length + 2) ((b ++ [201, 202]).map B)
theorem lent {W : World} {a : Option Addr} {cap : Nat} {b : List UInt8} {A : HP} (hr : RdB W A a b.length (b.map B)) (ha : a = none -> b.length = 0) (hb : b.length <= 140737488355000) :
  Cn p_ 9 [.slice a b.length cap] W [A] (fun q : Nat × Nat => .slice (some ⟨q.1, 0, none⟩) b.length q.2) (fun q => [IsL q.1 q.2 b, A]) := by
 (refine S.law01_Lent_cn fun F => ?_; unfold S.law01_Lent; simp only [ca_, na_])
 refine e_bslN (vs := []) rfl rfl (by simp) (by omega) fun g0 => ?_
 refine e_own (s := 1) (n := 0) .here (by rfl) (by unfold maxLen; omega) ?_
 refine e_app (m := b.length) (news := b.map B) .here (src_rd (A := A) (e' := 5) (by kernel_rfl) (.there .here) hr ha B_one) (by omega) (by omega) fun a1 c1 => ?_
 rw [Nat.zero_add, List.nil_append]
 refine e_bslN (vs := [B 201, B 202]) rfl rfl (by intro v hv; simp at hv; rcases hv with rfl | rfl <;> rfl) (by omega) fun g2 => ?_
 refine e_app (m := 2) (news := [B 201, B 202]) (.there .here) (src_pt (e' := 5) (by kernel_rfl) .here (by rfl) (B_one (l := [201, 202]))) (by omega) (by omega) fun a3 c3 => ?_
 refine e_opN v_len .nil ?_
 refine e_slfacts .here fun h1 h2 h3 h4 => ?_
 obtain ⟨g3, rfl⟩ := h4 (by omega)
 refine e_opN (v_slh b.length (by rfl) (by omega)) .nil ?_
 rw [if_neg (by omega)]
 refine e_ret (g3, c3) (by simp [Addr.add]) ?_
 unfold IsL
 rw [List.map_append]
 (repeat (first | exact .refl | exact .nil | (apply Imp.pick; (focus ((repeat constructor); done))) | refine .drop ?_))
theorem rdL {W : World} {g cap : Nat} {b : List UInt8} : RdB W (IsL g cap b) (some ⟨g, 0, none⟩) b.length (b.map B) := by
 have hrd : RdB W (IsL g cap b) (some ⟨g, 0, none⟩) (b.length + 2) ((b ++ [201, 202]).map B) := rd_sl (by simp) (fun _ => ⟨g, rfl⟩)
 have h := hrd.cut (cap := b.length + 2) (l := 0) (h := b.length) (by omega) (by omega) (by omega)
 rw [if_neg (by omega), Nat.sub_zero, List.drop_zero, show List.take b.length (List.map B (b ++ [201, 202])) = b.map B by rw [List.map_append, List.take_left' (by simp)]] at h
 exact h
theorem stays {W : World} {a : Option Addr} {g cap cap2 : Nat} {b : List UInt8} {A : HP} (hr : RdB W A a b.length (b.map B)) (ha : a = none -> b.length = 0) (hb : b.length <= 140737488355000) :
  Cn p_ 17 [.slice (some ⟨g, 0, none⟩) b.length cap, .slice a b.length cap2] W [IsL g cap b, A] (fun _ : Unit => .bool true) (fun _ => [IsL g cap b, A]) := by
 (refine S.law01_Stays_cn fun F => ?_; unfold S.law01_Stays; simp only [ca_, na_])
 unfold IsL
 refine e_slfacts .here fun h1 h2 h3 h4 => ?_
 have hrd : RdB W (Sl 1 5 (some ⟨g, 0, none⟩) cap (b.length + 2) ((b ++ [201, 202]).map B)) (some ⟨g, 0, none⟩) (b.length + 2) ((b ++ [201, 202]).map B) := rd_sl (by simp) (fun _ => ⟨g, rfl⟩)
 refine e_opN v_len .nil ?_; (refine e_opN (v_add (by omega) (by omega)) .nil ?_)
 refine e_opN (v_slh (b.length + 2) (by norm_cast) (by omega)) .nil ?_
 rw [if_neg (by omega)]
 refine e_drS ?_; refine e_stS v_len .nil ?_
 refine e_stS (v_slh b.length (by rfl) (by omega)) .nil ?_
 rw [if_neg (by omega)]
 have hcut := hrd.cut (l := 0) (h := b.length) (by omega) (by omega) (by omega)
 rw [if_neg (by omega), Nat.sub_zero, List.drop_zero, show List.take b.length (List.map B (b ++ [201, 202])) = b.map B by rw [List.map_append, List.take_left' (by simp)]] at hcut
 refine e_stS (v_str (l := b) hcut (fun c => by cases c)) (.pick (by repeat constructor) .nil) ?_
 refine e_stS (v_str (l := b) hr ha) (.pick (by repeat constructor) .nil) ?_
 refine e_stS v_streq .nil ?_
 rw [dT_ rfl]
 refine e_gdT ?_; refine e_gdT ?_; refine e_gdT ?_; refine e_stS v_len .nil ?_; refine e_gdT ?_
 refine e_stS (v_ia1 b.length (by rfl) (by omega)) .nil ?_
 refine e_gdT ?_
 refine e_stS (v_ldSl (cs := (b ++ [201, 202]).map B) (v := B 201) (by rw [List.map_append]; simp)) (.pick (by repeat constructor) .nil) ?_
 refine e_gdT ?_
 refine e_stS v_eql .nil ?_
 rw [dT_ (show (((201 : UInt8).toNat : Nat) : Int) = 201 from rfl)]
 refine e_stS v_pickT .nil ?_; refine e_gdT ?_; refine e_gdT ?_; refine e_gdT ?_; refine e_stS v_len .nil ?_; refine e_gdT ?_; (refine e_stS (v_add (by omega) (by omega)) .nil ?_); refine e_gdT ?_
 refine e_stS (v_ia1 (b.length + 1) (by norm_cast) (by omega)) .nil ?_
 refine e_gdT ?_
 refine e_stS (v_ldSl (cs := (b ++ [201, 202]).map B) (v := B 202) (by rw [List.map_append]; simp)) (.pick (by repeat constructor) .nil) ?_
 refine e_gdT ?_
 refine e_stS v_eql .nil ?_
 rw [dT_ (show (((202 : UInt8).toNat : Nat) : Int) = 202 from rfl)]
 refine e_stS v_pickT .nil ?_
 (first | refine e_ret (()) rfl ?_ | refine e_retT (()) ?_)
 (repeat (first | exact .refl | exact .nil | (apply Imp.pick; (focus ((repeat constructor); done))) | refine .drop ?_))
end Go.Proofs.YthoeeahdkdcceaaGreat.K
namespace Go.Proofs.YthoeeahdkdcceaaGreat.GZ
open Go Go.Proofs Go.RowKit Sh Sl T HM HF B M K IF
theorem sl_nn' {a : Option Addr} {n : Nat} (h : 0 < n -> ∃ g, a = some ⟨g, 0, none⟩) : a = none -> n = 0 := fun c => by
 rcases Nat.eq_zero_or_pos n with z | z
 ·exact z
 ·obtain ⟨_, e⟩ := h z; rw [c] at e; cases e
theorem gzipPacks {W : World} {a : Option Addr} {c s : Nat} {b : List UInt8} {level mtime : Int} (hr : ∀ A, RdB W A a b.length (b.map Sl.B)) (ha : a = none -> b.length = 0) (hc : b.length <= c) (hb : b.length <= 1048576) (hs : s < 4294967296) :
  Cn p_ 3 [.slice a b.length c, .int .i64 level, .int .i64 mtime, .int .u32 (s : Int)] W [] (fun _ : Unit => .bool true) (fun _ => []) := by
 (refine S.law07_GzipPacks_cn fun F => ?_; unfold S.law07_GzipPacks; simp only [ca_, na_])
 refine e_imp (M := pu True :: F) (.pu trivial .refl) ?_
 refine e_call (lent (A := pu True) (cap := c) (hr (pu True)) ha (by omega)) (.cons (by repeat constructor) .nil) fun q => ?_
 obtain ⟨g, gc⟩ := q
 (try simp only [ca_, na_, -eq_self])
 (try dsimp only)
 refine e_imp (M := Sl 1 5 (some ⟨g, 0, none⟩) gc (b.length + 2) ((b ++ [201, 202]).map Sl.B) :: pu True :: F) .refl ?_
 refine e_slfacts .here fun _ f2 _ _ => ?_
 refine e_imp (M := IsL g gc b :: pu True :: F) .refl ?_
 refine e_call (pack (c := gc) (level := level) (mtime := mtime) (b := b) (A := IsL g gc b) rdL (by omega) (by omega)) (.cons .here .nil) fun q => ?_
 obtain ⟨qa, qc⟩ := q
 (try simp only [ca_, na_, -eq_self])
 (try dsimp only)
 refine e_opN (v_ext (v := .slice qa (pkB b level mtime).length qc) rfl) .nil ?_
 refine e_opN (v_ext (v := .int .i64 (pkE b level mtime)) rfl) .nil ?_
 refine e_call (rPack (c := c) (level := level) (mtime := mtime) (b := b) (A := pu True) (hr (pu True)) hc (by omega)) (.cons (by repeat constructor) .nil) fun q => ?_
 obtain ⟨ra, rc⟩ := q
 (try simp only [ca_, na_, -eq_self])
 (try dsimp only)
 refine e_opN (v_ext (v := .slice ra (pkB b level mtime).length rc) rfl) .nil ?_
 refine e_opN (v_ext (v := .int .i64 (pkE b level mtime)) rfl) .nil ?_
 refine e_slfacts (by (repeat constructor) : Pick _ (Sl 1 5 qa qc (pkB b level mtime).length ((pkB b level mtime).map Sl.B)) _) fun _ _ _ s1 => ?_
 refine e_slfacts (by (repeat constructor) : Pick _ (Sl 1 5 ra rc (pkB b level mtime).length ((pkB b level mtime).map Sl.B)) _) fun _ _ _ s2 => ?_
 obtain ⟨D, hD⟩ : ∃ D, D = pkB b level mtime := ⟨_, rfl⟩
 rw [<- hD] at s1 s2 ⊢
 refine e_opN (v_str (l := D) (rd_sl (by rw [List.length_map]) s1) (sl_nn' s1)) (.pick (by repeat constructor) .nil) ?_
 refine e_opN (v_str (l := D) (rd_sl (by rw [List.length_map]) s2) (sl_nn' s2)) (.pick (by repeat constructor) .nil) ?_
 refine e_opN v_streq .nil ?_
 rw [dT_ rfl]
 refine e_gdT ?_; refine e_gdT ?_
 (refine' e_call (num7) ?hp fun _ => ?_; (case hp => (repeat (first | exact Picks.nil | (apply Picks.cons; (focus repeat constructor))))); (try simp only [ca_, na_, Bool.not_true, Bool.not_false]))
 refine e_gdT ?_; refine e_gdT ?_
 refine e_opN v_eql .nil ?_
 rw [dT_ rfl]
 refine e_opN v_pickT .nil ?_; refine e_gdT ?_; refine e_gdT ?_
 refine e_call (crc_ (c := gc) (b := b) (A := IsL g gc b) rdL (by omega)) (.cons (by repeat constructor) .nil) fun _ => ?_
 (try simp only [ca_, na_, -eq_self])
 refine e_gdT ?_; refine e_gdT ?_
 refine e_call (rCrc (c := c) (b := b) (A := pu True) (hr (pu True)) (by omega)) (.cons (by repeat constructor) .nil) fun _ => ?_
 (try simp only [ca_, na_, -eq_self])
 refine e_gdT ?_
 refine e_opN v_eql .nil ?_
 rw [dT_ rfl]
 refine e_opN v_pickT .nil ?_; refine e_gdT ?_; refine e_gdT ?_; refine e_gdT ?_
 refine e_call (add (s := s) (c := gc) (b := b) (A := IsL g gc b) hs rdL (by omega)) (.cons (by repeat constructor) .nil) fun _ => ?_
 (try simp only [ca_, na_, -eq_self])
 refine e_gdT ?_; refine e_gdT ?_; refine e_gdT ?_
 refine e_call (rAdd (s := s) (c := c) (b := b) (A := pu True) hs (hr (pu True)) (by omega)) (.cons (by repeat constructor) .nil) fun _ => ?_
 (try simp only [ca_, na_, -eq_self])
 refine e_gdT ?_
 refine e_opN v_eql .nil ?_
 rw [dT_ rfl]
 refine e_opN v_pickT .nil ?_; refine e_gdT ?_; refine e_gdT ?_; refine e_gdT ?_
 (refine' e_call (stays (A := pu True) (hr (pu True)) ha (by omega)) ?hp fun _ => ?_; (case hp => (repeat (first | exact Picks.nil | (apply Picks.cons; (focus repeat constructor))))); (try simp only [ca_, na_, Bool.not_true, Bool.not_false]))
 refine e_opN v_pickT .nil ?_; refine e_gdT ?_
 (refine' e_call (knows7) ?hp fun _ => ?_; (case hp => (repeat (first | exact Picks.nil | (apply Picks.cons; (focus repeat constructor))))); (try simp only [ca_, na_, Bool.not_true, Bool.not_false]))
 refine e_opN v_pickT .nil ?_
 (first | refine e_ret (()) rfl ?_ | refine e_retT (()) ?_)
 (repeat (first | exact .refl | exact .nil | (apply Imp.pick; (focus ((repeat constructor); done))) | refine .drop ?_))
end Go.Proofs.YthoeeahdkdcceaaGreat.GZ
namespace Go.Proofs.YthoeeahdkdcceaaGreat.Sl
open Go Go.RowKit Sh
variable {P : Program} {H : Type} {enc : TypeId × Value -> H} {W : World}
theorem open_bsc {t e : TypeId} {sp : Nat -> Bool} {held : Bool} {v : Value} {d : DataW H} {ps : List MemPlace} {r : Reach} {b0 : Nat} (ht : P.underlying t = some (.slice e)) (hc : P.cellsOf e = 1) (he : P.underlying e = some (.int .u8)) (hval : Value.okWide P W r b0 t v) (hd : DataW.Trod enc P W 0 sp held t v d ps) :
  ∃ (a : Option Addr) (c : Nat) (b : List UInt8), v = .slice a b.length c /\ (a = none -> b.length = 0) /\ (∀ A, RdB W A a b.length (b.map B)) /\ b.length <= Rows.uptoBulk d /\ b.length <= c := by
 obtain ⟨fuel, hf⟩ := open_slice (e := e) ht hval hd
 obtain ⟨a, c, b, e1, g1, g2, g3, g4, g5⟩ := open_bytes (e := e) ht hc he hf
 exact ⟨a, c, b, by injection e1, g3, g4, by simp at g5; omega, g1⟩
end Go.Proofs.YthoeeahdkdcceaaGreat.Sl
