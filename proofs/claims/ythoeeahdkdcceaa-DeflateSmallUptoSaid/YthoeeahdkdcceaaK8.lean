/- Deflate, in one piece. No conditions but those that each names. (8 texts made one; each says below what it is.) -/
import Derived.Test.YthoeeahdkdcceaaK7
import Derived.KernelRfl
set_option linter.unusedVariables false
set_option linter.unusedSimpArgs false
set_option linter.unusedSectionVars false
namespace Go.Proofs.Ythoeeahdkdcceaa.IF
open Go Go.Proofs Go.RowKit Sh Sl T HM HF B M
theorem bv_get {level : Int} : ∀ {X : List (Blk × Bv)} {i j : Nat} (h : i < X.length), j < 3 → (X.flatMap (bvC level))[i * 3 + j]? = (bvC level X[i])[j]?
 | y :: X, 0, j, h, hj => by
  rw [List.flatMap_cons, List.getElem?_append_left (by rw [bv_len]; omega)]
  simp
 | y :: X, i + 1, j, h, hj => by
  rw [List.flatMap_cons, List.getElem?_append_right (by rw [bv_len]; omega), bv_len, show (i + 1) * 3 + j - 3 = i * 3 + j by omega]
  exact bv_get (by simpa using h) hj
theorem bvs_len (level : Int) (X : List (Blk × Bv)) : (X.flatMap (bvC level)).length = X.length * 3 := by
 induction X with
 | nil => rfl
 | cons y X ih => rw [List.flatMap_cons, List.length_append, ih, bv_len, List.length_cons]; omega
theorem puts0_nil (level : Int) (L : List Bool) : puts0 level L [] = L := rfl
theorem puts0_cons (level : Int) (L : List Bool) (x : Blk) (xs : List Blk) : puts0 level L (x :: xs) = puts0 level (putX level L 0 x) xs := by unfold puts0; rw [List.foldl_cons]
theorem puts0_snoc (level : Int) (L : List Bool) (xs : List Blk) (x : Blk) : puts0 level L (xs ++ [x]) = putX level (puts0 level L xs) 0 x := by
 unfold puts0; rw [List.foldl_append, List.foldl_cons, List.foldl_nil]
theorem putsX_snoc (level : Int) : ∀ (xs : List Blk) (L : List Bool) (x : Blk), putsX level L (xs ++ [x]) = putX level (puts0 level L xs) 1 x
 | [], L, x => by rw [List.nil_append, putsX, puts0_nil]
 | y :: r, L, x => by
  have ih := putsX_snoc level r (putX level L 0 y) x
  rw [puts0_cons, ← ih]
  cases r with
  | nil => simp only [ca_, na_, putsX]
  | cons z r => rw [List.cons_append, List.cons_append, putsX]
theorem bytesN_app : ∀ (xs ys : List Blk), bytesN (xs ++ ys) = bytesN xs + bytesN ys
 | [], ys => by simp [bytesN]
 | x :: xs, ys => by rw [List.cons_append, bytesN, bytesN, bytesN_app xs ys]; omega
theorem puts0_bnd {b : List UInt8} {level : Int} (hlv : 0 ≤ level) (hb : b.length ≤ 524288) (i : Nat) : (puts0 level [] ((blksF b level).take i)).length ≤ 6000000 := by
 obtain ⟨hG, hn⟩ := blks_G b hlv
 have h1 := puts0_len level ((blksF b level).take i) []
 have h2 := bytesN_G hG
 have h3 := bytesN_app ((blksF b level).take i) ((blksF b level).drop i)
 rw [List.take_append_drop] at h3
 rw [List.length_take] at h1
 simp only [List.length_nil] at h1
 omega
theorem wrong {W : World} {n : Int} : Cn Try.prog 26 [.int .i64 n] W [] (fun _ : Unit => .bool (decide (n < 0 ∨ 9 < n))) (fun _ => []) := by
 (refine S.deflate_wrong_cn fun F => ?_; unfold S.deflate_wrong; simp only [ca_, na_])
 refine e_opN v_lss .nil ?_
 by_cases h : n < 0
 ·rw [decide_eq_true h, decide_eq_true (Or.inl h)]
  (refine e_gdF1 ?_); (refine e_gdF1 ?_); (refine e_opN v_pickT .nil ?_)
  (first | refine e_ret (()) rfl ?_ | refine e_retT (()) ?_)
  exact .refl
 ·rw [decide_eq_false h]
  (refine e_gdT ?_); (refine e_gdT ?_)
  refine e_opN v_gtr .nil ?_
  (refine e_opN v_pickF .nil ?_)
  rw [show decide (n < 0 ∨ 9 < n) = decide (9 < n) from decide_eq_decide.2 ⟨fun x => x.resolve_left h, .inr⟩]
  (first | refine e_ret (()) rfl ?_ | refine e_retT (()) ?_)
  exact .refl
def pgX (level : Int) (xs : List Blk) (i : Nat) : List Bool := if i < xs.length then puts0 level [] (xs.take i) else putsX level [] xs
theorem pg_step {level : Int} {xs : List Blk} {i : Nat} (h : i < xs.length) : pgX level xs (i + 1) = putX level (pgX level xs i) (if i + 1 = xs.length then 1 else 0) xs[i] := by
 unfold pgX
 rw [if_pos h]
 by_cases c : i + 1 = xs.length
 ·rw [if_neg (by omega), if_pos c]
  have e : xs = xs.take i ++ [xs[i]] := by rw [← List.take_succ_eq_append_getElem h, List.take_of_length_le (by omega)]
  conv => lhs; rw [e]
  exact putsX_snoc _ _ _ _
 ·rw [if_pos (by omega), if_neg c, List.take_succ_eq_append_getElem h, puts0_snoc]
theorem deflate {W : World} {a : Option Addr} {c : Nat} {level : Int} {b : List UInt8} {A : HP} (hA : RdB W A a b.length (b.map Sl.B)) (hc : b.length ≤ c) :
  Cn Try.prog 10 [.slice a b.length c, .int .i64 level] W [A] (fun q : Option Addr × Nat => .tuple #[.slice q.1 (dflB b level).length q.2, .int .i64 (dflE b level)]) (fun q => [Sl 1 5 q.1 q.2 (dflB b level).length ((dflB b level).map Sl.B), A]) := by
 have bad : ∀ (e : Int) (L : List HP), dflE b level = e → e ≠ 0 → Ent W (A :: L) (fun w => ∃ q : Option Addr × Nat, (.tuple #[.slice none 0 0, .int .i64 e] : Value) = .tuple #[.slice q.1 (dflB b level).length q.2, .int .i64 (dflE b level)] ∧ sat W ([Sl 1 5 q.1 q.2 (dflB b level).length ((dflB b level).map Sl.B), A] ++ L) w) := by
  intro e L h h0
  have hv : dflB b level = [] := by unfold dflB; rw [if_neg (by rw [h]; exact h0)]
  rw [h, hv]
  refine e_ret (none, 0) rfl ?_
  exact imp_nil .refl
 (refine S.deflate_Deflate_cn fun F => ?_; unfold S.deflate_Deflate; simp only [ca_, na_])
 (refine' e_call (wrong (n := level)) ?hp fun _ => ?_; (case hp => (repeat (first | exact Picks.nil | (apply Picks.cons; (focus repeat constructor))))); (try simp only [ca_, na_, Bool.not_true, Bool.not_false]))
 by_cases hw : level < 0 ∨ 9 < level
 ·rw [decide_eq_true hw]
  (refine e_condT ?_)
  exact bad 1 F (by unfold dflE; rw [if_pos hw]) (by decide)
 rw [decide_eq_false hw]
 (refine e_condF ?_); (refine e_opN v_len .nil ?_)
 refine e_opN v_gtr .nil ?_
 by_cases hs : (524288 : Int) < (b.length : Int)
 ·rw [decide_eq_true hs]
  (refine e_condT ?_)
  exact bad 6 F (by unfold dflE; rw [if_neg hw, if_pos (by omega)]) (by decide)
 rw [decide_eq_false hs]
 have hE : dflE b level = 0 := by unfold dflE; rw [if_neg hw, if_neg (by omega)]
 have hlv : 0 ≤ level := by omega
 have hbl : b.length ≤ 524288 := by omega
 (refine e_condF ?_)
 (refine' e_call (newWriter) ?hp fun _ => ?_; (case hp => (repeat (first | exact Picks.nil | (apply Picks.cons; (focus repeat constructor))))); (try simp only [ca_, na_, Bool.not_true, Bool.not_false]))
 rename_i w
 refine e_call (dblocks (c := c) (level := level) hA hc (by omega) (by omega)) (.cons (by repeat constructor) .nil) fun q => ?_
 obtain ⟨⟨xa, xc⟩, ⟨pa, pc⟩, X⟩ := q
 (try simp only [ca_, na_, -eq_self])
 refine e_pu .here fun hX => ?_
 (try dsimp only at hX)
 (try dsimp only)
 obtain ⟨hXf, hXk⟩ := hX
 obtain ⟨hG, hn⟩ := blks_G b hlv
 have hXl : X.length = (blksF b level).length := by rw [← hXf, List.length_map]
 have hbnd := puts0_bnd (b := b) (level := level) hlv hbl
 have hXb : X.length ≤ 1000 := by omega
 have hne := blks_ne b level
 have hpos : 0 < X.length := by rw [hXl]; exact List.length_pos_iff.2 hne
 have hdX : dflX b level = pgX level (blksF b level) X.length := by unfold pgX dflX; rw [if_neg (by omega)]
 have hdB : dflB b level = pk (dflX b level) := by unfold dflB; rw [if_pos hE]
 refine e_slsome .here hpos fun gx hgx => ?_
 subst hgx
 refine e_opN v_len .nil ?_
 obtain ⟨AL, hAL⟩ : ∃ AL, AL = Sl 3 89 pa pc (pcsL b level).length ((pcsL b level).flatMap pPz) := ⟨_, rfl⟩
 rw [← hAL] at hXk ⊢
 refine e_loop1 (fun m y => (ex fun i : Nat => all [pu (m + i = X.length ∧ y = .int .i64 (i : Int)), IsW w (pgX level (blksF b level) i)]) :: Sl 3 61 (some ⟨gx, 0, none⟩) xc X.length (X.flatMap (bvC level)) :: AL :: A :: F) X.length ?_ ?_
 ·refine .ex 0 (.all ?_)
  (try simp only [ca_, na_, -eq_self])
  refine .pu ⟨by omega, rfl⟩ ?_
  rw [show pgX level (blksF b level) 0 = [] by unfold pgX; rw [if_pos (by omega)]; rfl]
  (repeat (first | exact .refl | exact .nil | (apply Imp.pick; (focus ((repeat constructor); done))) | refine .drop ?_))
 intro m ds y
 refine e_ex .here fun i => e_all .here ?_
 (try simp only [ca_, na_, -eq_self])
 refine e_pu .here fun hi => ?_
 obtain ⟨hmi, rfl⟩ := hi
 refine e_opN v_lss .nil ?_
 by_cases hlt : (i : Int) < (X.length : Int)
 ·rw [decide_eq_true hlt]
  have hi : i < X.length := by omega
  have hib : i < (blksF b level).length := by omega
  have hk := hXk _ (List.getElem_mem hi)
  have hx1 : X[i].1 = (blksF b level)[i] := by
   have := List.getElem_map (f := Prod.fst) (l := X) (i := i) (h := by rw [List.length_map]; exact hi)
   rw [← this]
   congr 1
  obtain ⟨fr, hok⟩ := blkG_all hG _ (List.getElem_mem hib)
  have hst := pg_step (level := level) hib
  have hLi : (pgX level (blksF b level) i).length ≤ 6000000 := by unfold pgX; rw [if_pos hib]; exact hbnd i
  rw [← hx1] at hok hst
  (refine e_condT ?_)
  refine e_opN (v_ia i (by rfl) hi) .nil ?_
  have ld : RunV Try.prog W [Sl 3 61 (some ⟨gx, 0, none⟩) xc X.length (X.flatMap (bvC level))] (sLoad 61 (.pointer (some ⟨gx, 0 + i * 3, none⟩))) (bvV level X[i]) := v_ldRdG (vs := bvC level X[i]) (rd_slG (bvs_len _ _) (fun _ => ⟨gx, rfl⟩)) rfl (fun j hj => bv_get hi hj)
  refine e_opN ld (.pick (by repeat constructor) .nil) ?_
  obtain ⟨⟨x, v⟩, hxv⟩ : ∃ z, z = X[i] := ⟨_, rfl⟩
  rw [← hxv] at hk hok hst ⊢
  (try dsimp only at hok hst)
  unfold bvV
  (refine e_newA fun g => ?_); (((refine' e_stAgg ?hp ?hn ?hv ?h1 ?_); (case hp => (repeat constructor)); (case hn => rfl); (case hv => rfl); (case h1 => simp [Value.oneCell'])))
  rename Nat => b9
  refine e_cut1 (fun z => pu (z = .int .i64 ((if i + 1 = X.length then 1 else 0 : Nat) : Int)) :: pt b9 (.cells #[.slice v.1.1 x.1.length v.1.2, .slice v.2.1 x.2.length v.2.2, .int .i64 level] 61) :: IsW w (pgX level (blksF b level) i) :: Sl 3 61 (some ⟨gx, 0, none⟩) xc X.length (X.flatMap (bvC level)) :: AL :: A :: F) ?_ ?_
  rotate_left
  ·(refine e_opN v_len .nil ?_); (((refine e_opN (v_sub ?h1 ?h2) .nil ?_); (case h1 => omega); (case h2 => omega)))
   refine e_opN v_eql .nil ?_
   by_cases hz : (i : Int) = (X.length : Int) - 1
   ·rw [decide_eq_true hz]
    (refine e_condT ?_)
    refine e_sat (.pu (by rw [if_pos (by omega)]; rfl) ?_)
    (repeat (first | exact .refl | exact .nil | (apply Imp.pick; (focus ((repeat constructor); done))) | refine .drop ?_))
   ·rw [decide_eq_false hz]
    (refine e_condF ?_)
    refine e_sat (.pu (by rw [if_neg (by omega)]; rfl) ?_)
    (repeat (first | exact .refl | exact .nil | (apply Imp.pick; (focus ((repeat constructor); done))) | refine .drop ?_))
  intro ds z
  refine e_pu .here fun hz => ?_
  subst hz
  (((refine' e_opN (v_ldAgg ?hn) ?hi ?_); (case hi => (repeat (first | exact .refl | exact .nil | (apply Imp.pick; (focus ((repeat constructor); done))) | refine .drop ?_))); (case hn => rfl)))
  refine e_call (dput (w := w) (last := if i + 1 = X.length then 1 else 0) (L := pgX level (blksF b level) i) (level := level) hk (okBk.good hok) (by split <;> omega) hLi) (.cons (by repeat constructor) (.cons (by repeat constructor) (.cons (by repeat constructor) .nil))) fun _ => ?_
  (try simp only [ca_, na_, -eq_self])
  (((refine e_opN (v_add ?h1 ?h2) .nil ?_); (case h1 => omega); (case h2 => omega)))
  refine e_next1 (m - 1) (by omega) (.ex (i + 1) (.all ?_))
  (try simp only [ca_, na_, -eq_self])
  rw [hst, hXl]
  refine .pu ⟨by omega, by norm_cast⟩ ?_
  (repeat (first | exact .refl | exact .nil | (apply Imp.pick; (focus ((repeat constructor); done))) | refine .drop ?_))
 ·rw [decide_eq_false hlt]
  have hie : i = X.length := by omega
  subst hie
  rw [← hdX]
  (refine e_condF ?_)
  (refine' e_call (Go.Proofs.Ythoeeahdkdcceaa.B.bytes (l := dflX b level)) ?hp fun _ => ?_; (case hp => (repeat (first | exact Picks.nil | (apply Picks.cons; (focus repeat constructor))))); (try simp only [ca_, na_, Bool.not_true, Bool.not_false]))
  rename_i q
  rw [hdB, hE]
  (first | refine e_ret (q) rfl ?_ | refine e_retT (q) ?_)
  (repeat (first | exact .refl | exact .nil | (apply Imp.pick; (focus ((repeat constructor); done))) | refine .drop ?_))
end Go.Proofs.Ythoeeahdkdcceaa.IF
namespace Go.Proofs.Ythoeeahdkdcceaa.Sl
open Go Go.RowKit Sh
variable {P : Program} {W : World} {L L' : List HP} {Kp : PK} {k : Value → WP}
theorem e_bconst {t e e' : TypeId} {g n c : Nat} {cs : Array Value} (ht : P.underlying t = some (.slice e)) (he : P.underlying e = some (.int .u8)) (p : Pick L (pt g (.cells cs e' (0, 0))) L')
  (h : Ent W (pt g (.cells cs e' (cs.size, cs.size + 1)) :: L') (k (.slice (some ⟨g, 0, none⟩) n c))) : Ent W L (opN P (sConv t t (.slice (some ⟨g, 0, none⟩) n c)) Kp k) := fun w hw => by
 have hp := hw.pick p
 have hg := hp.pt_.1
 have hsh : w.shape? g = some (e', cs.size) := by unfold World.shape?; rw [hg]
 have hrun : (sConv t t (.slice (some ⟨g, 0, none⟩) n c)).run P w = .ok (.value (.slice (some ⟨g, 0, none⟩) n c)) (w.freeze ⟨g, cs.size, none⟩ 1) := by
  simp [sConv, convert, run_underlying ht, run_underlying he, markStringish, hsh]
 refine ⟨?_⟩
 rw [hrun]
 refine h _ (hp.turn (w' := w.freeze ⟨g, cs.size, none⟩ 1) rfl rfl rfl ?_ ?_ ?_)
 ·simp [World.freeze]
 ·simp [World.freeze, Array.getElem?_modify, hg]
 ·intro i hi
  simp only [World.freeze]
  rw [if_neg (by decide), Array.getElem?_modify, if_neg (fun c => hi c.symm)]
end Go.Proofs.Ythoeeahdkdcceaa.Sl
namespace Go.Proofs.Ythoeeahdkdcceaa.IF
open Go Go.Proofs Go.RowKit Sh Sl T HM HF B M
theorem num6 {W : World} {n : Int} : Cn Try.prog 12 [.int .i64 n] W [] (fun _ : Unit => .int .i64 n) (fun _ => []) := by
 (refine S.law06_num_cn fun F => ?_; unfold S.law06_num; simp only [ca_, na_])
 (first | refine e_ret (()) rfl ?_ | refine e_retT (()) ?_)
 exact .refl
def kn0 : List UInt8 := [97, 98, 99]
set_option maxRecDepth 100000 in
theorem kn6a : dflB kn0 0 = [1, 3, 0, 252, 255, 97, 98, 99] := by
 have : decide (dflB kn0 0 = [1, 3, 0, 252, 255, 97, 98, 99]) = true := by decide +kernel
 exact of_decide_eq_true this
set_option maxRecDepth 100000 in
theorem kn6b : dflB kn0 6 = [75, 76, 74, 6, 0] := by
 have : decide (dflB kn0 6 = [75, 76, 74, 6, 0]) = true := by decide +kernel
 exact of_decide_eq_true this
theorem knows6 {W : World} : Cn Try.prog 14 [] W [] (fun _ : Unit => .bool true) (fun _ => []) := by
 have h1 := fun A : HP => fun (g : Nat) (h : RdB W A (some ⟨g, 0, none⟩) 3 (kn0.map Sl.B)) => deflate (W := W) (a := some ⟨g, 0, none⟩) (c := 3) (level := 6) (b := kn0) (A := A) h (by decide)
 have h2 := fun A : HP => fun (g : Nat) (h : RdB W A (some ⟨g, 0, none⟩) 3 (kn0.map Sl.B)) => deflate (W := W) (a := some ⟨g, 0, none⟩) (c := 3) (level := 0) (b := kn0) (A := A) h (by decide)
 rw [kn6b, show dflE kn0 6 = 0 from by decide] at h1
 rw [kn6a, show dflE kn0 0 = 0 from by decide] at h2
 (refine S.law06_knows_cn fun F => ?_; unfold S.law06_knows; simp only [ca_, na_])
 refine e_bslN (vs := kn0.map Sl.B) rfl rfl (by intro v hv; obtain ⟨c, _, rfl⟩ := List.mem_map.1 hv; rfl) (by omega) fun g => ?_
 refine e_bconst (e := 5) (by kernel_rfl) (by kernel_rfl) .here ?_
 (refine' e_call (h1 _ g (rd_pt (by rfl))) ?hp fun _ => ?_; (case hp => (repeat (first | exact Picks.nil | (apply Picks.cons; (focus repeat constructor))))); (try simp only [ca_, na_, Bool.not_true, Bool.not_false]))
 rename_i q
 obtain ⟨qa, qc⟩ := q
 (try dsimp only)
 (((refine' e_opN (v_extN ?hc) .nil ?_); (case hc => (repeat (first | exact Nth.here | apply Nth.there))))); (((refine' e_opN (v_extN ?hc) .nil ?_); (case hc => (repeat (first | exact Nth.here | apply Nth.there)))))
 refine e_bslN (vs := kn0.map Sl.B) rfl rfl (by intro v hv; obtain ⟨c, _, rfl⟩ := List.mem_map.1 hv; rfl) (by omega) fun g2 => ?_
 refine e_bconst (e := 5) (by kernel_rfl) (by kernel_rfl) .here ?_
 (refine' e_call (h2 _ g2 (rd_pt (by rfl))) ?hp fun _ => ?_; (case hp => (repeat (first | exact Picks.nil | (apply Picks.cons; (focus repeat constructor))))); (try simp only [ca_, na_, Bool.not_true, Bool.not_false]))
 rename_i q2
 obtain ⟨qa2, qc2⟩ := q2
 (try dsimp only)
 (((refine' e_opN (v_extN ?hc) .nil ?_); (case hc => (repeat (first | exact Nth.here | apply Nth.there))))); (((refine' e_opN (v_extN ?hc) .nil ?_); (case hc => (repeat (first | exact Nth.here | apply Nth.there)))))
 (refine' e_call (num6) ?hp fun _ => ?_; (case hp => (repeat (first | exact Picks.nil | (apply Picks.cons; (focus repeat constructor))))); (try simp only [ca_, na_, Bool.not_true, Bool.not_false]))
 (refine' e_call (num6) ?hp fun _ => ?_; (case hp => (repeat (first | exact Picks.nil | (apply Picks.cons; (focus repeat constructor))))); (try simp only [ca_, na_, Bool.not_true, Bool.not_false]))
 (((refine e_opN (v_add ?h1 ?h2) .nil ?_); (case h1 => omega); (case h2 => omega)))
 refine e_slsome .here (by decide) fun h2 hg2 => ?_
 subst hg2
 refine e_slsome (.there (.there .here)) (by decide) fun h1 hg1 => ?_
 subst hg1
 refine e_opN v_eql .nil ?_
 rw [decide_eq_true (by decide)]
 (refine e_gdT ?_); (refine e_gdT ?_)
 refine e_opN (v_str (l := [75, 76, 74, 6, 0]) (rd_sl (by decide) (fun _ => ⟨h1, rfl⟩)) (fun c => by cases c)) (.pick (by repeat constructor) .nil) ?_
 (refine e_gdT ?_)
 refine e_opN (v_streq (l := [75, 76, 74, 6, 0]) (m := [75, 76, 74, 6, 0])) .nil ?_
 rw [decide_eq_true rfl]
 (refine e_opN v_pickT .nil ?_); (refine e_gdT ?_); (refine e_gdT ?_); (refine e_opN v_len .nil ?_); (refine e_gdT ?_)
 refine e_opN v_eql .nil ?_
 rw [decide_eq_true (by decide)]
 (refine e_opN v_pickT .nil ?_); (refine e_gdT ?_); (refine e_gdT ?_)
 refine e_opN (v_ia1 7 (by rfl) (by decide)) .nil ?_
 (refine e_gdT ?_); (((refine' e_opN (v_ldSl ?hc) ?hi ?_); (case hi => (repeat (first | exact .refl | exact .nil | (apply Imp.pick; (focus ((repeat constructor); done))) | refine .drop ?_))); (case hc => rfl))); (refine e_gdT ?_)
 rw [show Sl.B 99 = .int .u8 99 from rfl]
 refine e_opN v_eql .nil ?_
 rw [decide_eq_true (by decide)]
 (refine e_opN v_pickT .nil ?_)
 (first | refine e_ret (()) rfl ?_ | refine e_retT (()) ?_)
 (repeat (first | exact .refl | exact .nil | (apply Imp.pick; (focus ((repeat constructor); done))) | refine .drop ?_))
end Go.Proofs.Ythoeeahdkdcceaa.IF
namespace Go.Proofs.Ythoeeahdkdcceaa.Sl
open Go Go.RowKit Sh
theorem e_dup {P : Program} {W : World} {L : List HP} {Kp : PK} {k : Value → WP} {t e : TypeId} {b : List UInt8} {y : Value} [ht : SlT P t e 1 1] (hsrc : ∀ L w, sat W L w → Src P 1 t y b.length (b.map B) w) (hb : b.length ≤ 70368744177664)
  (h : ∀ a' c', (a' = none → b.length = 0) → (0 < b.length → ∃ g, a' = some ⟨g, 0, none⟩) → Ent W (Sl 1 e a' c' b.length (b.map B) :: L) (k (.slice a' b.length c'))) :
  Ent W L (opN P (sBuildSl t 0 []) Kp fun x => opN P (sApp #[t, t] t [x, y]) Kp k) := by
 refine e_bslN (n := 0) (vs := []) rfl rfl (by simp) (by omega) fun g => ?_
 refine e_own (s := 1) (cs := []) (n := 0) .here rfl (by decide) ?_
 refine e_app (m := b.length) (news := b.map B) .here (hsrc _) (by omega) (by omega) fun a1 c1 => ?_
 rw [Nat.zero_add, List.nil_append]
 refine e_slfacts .here fun f1 f2 f3 f4 => ?_
 refine h a1 c1 (fun c => ?_) f4
 rcases Nat.eq_zero_or_pos b.length with z | z
 ·exact z
 ·obtain ⟨_, e⟩ := f4 z; rw [c] at e; cases e
theorem dup_rd {P : Program} {W : World} {t e : TypeId} {a : Option Addr} {cap : Nat} {b : List UInt8} (hk : P.underlying t = some (.slice e)) (hr : ∀ A, RdB W A a b.length (b.map B)) (ha : a = none → b.length = 0) :
  ∀ L w, sat W L w → Src P 1 t (.slice a b.length cap) b.length (b.map B) w := fun L w hw =>
 src_rd (L := pu True :: L) (L' := L) (A := pu True) hk .here (hr _) ha B_one w ((Imp.pu trivial .refl).sat hw)
end Go.Proofs.Ythoeeahdkdcceaa.Sl
namespace Go.Proofs.Ythoeeahdkdcceaa.IF
open Go Go.Proofs Go.RowKit Sh Sl T HM HF B M
end Go.Proofs.Ythoeeahdkdcceaa.IF
namespace Go.Proofs.Ythoeeahdkdcceaa.IF
open Go Go.Proofs Go.RowKit Sh Sl T HM HF B M
theorem sl_nn {a : Option Addr} {n : Nat} (h : 0 < n → ∃ g, a = some ⟨g, 0, none⟩) : a = none → n = 0 := fun c => by
 rcases Nat.eq_zero_or_pos n with z | z
 ·exact z
 ·obtain ⟨_, e⟩ := h z; rw [c] at e; cases e
end Go.Proofs.Ythoeeahdkdcceaa.IF
namespace Go.Proofs.Ythoeeahdkdcceaa.IF
open Go Go.Proofs Go.RowKit Sh Sl T HM HF B M
theorem bk_get : ∀ {X : List (Int × Int)} {i : Nat} (h : i < X.length), (X.flatMap blk)[i * 2]? = some (I X[i].1)
 | y :: X, 0, h => rfl
 | y :: X, i + 1, h => by
  rw [List.flatMap_cons, List.getElem?_append_right (by simp [blk]; omega), show (i + 1) * 2 - (blk y).length = i * 2 by simp [blk]; omega]
  exact bk_get (by simpa using h)
structure Hd (φ : Prop) : Prop where
 h : φ
theorem small_facts {b : List UInt8} {level : Int} (hb : b.length ≤ 1048576) (hE : dflE b level = 0) (hE0 : dflE b 0 = 0) : ∃ Z : Nat, (1 ≤ Z ∧ Z ≤ 1000) ∧ Hd (Z = max 1 ((b.length + 29999) / 30000) ∧ (dflB b level).length ≤ b.length + 5 * (b.length / 22000 + 1) + 6 + b.length / 1000) ∧ (dflB b 0).length = b.length + 5 * Z ∧ (aL (dflB b 0) 1048576).length = Z ∧ ∀ y ∈ aL (dflB b 0) 1048576, y.1 = 0 := by
 obtain ⟨z1, z2, z3⟩ := dfl_zero hE0
 exact ⟨_, ⟨Nat.le_max_left _ _, Nat.max_le.2 ⟨by omega, by omega⟩⟩, ⟨rfl, dfl_small hE⟩, z1, z2, z3⟩
theorem deflateSmall {W : World} {a : Option Addr} {c : Nat} {b : List UInt8} {level : Int} (hr : ∀ A, RdB W A a b.length (b.map Sl.B)) (ha : a = none → b.length = 0) (hb : b.length ≤ 1048576) :
  Cn Try.prog 7 [.slice a b.length c, .int .i64 level] W [] (fun _ : Unit => .bool true) (fun _ => []) := by
 (refine S.law06_DeflateSmall_cn fun F => ?_; unfold S.law06_DeflateSmall; simp only [ca_, na_])
 refine e_dup (dup_rd (e := 5) (by kernel_rfl) hr ha) (by omega) fun a1 c1 n1 s1 => ?_
 refine e_slfacts .here fun _ f2 f3 f4 => ?_
 refine e_call (deflate (c := c1) (level := level) (b := b) (rd_sl (by rw [List.length_map]) s1) f2) (.cons .here .nil) fun q => ?_
 obtain ⟨qa, qc⟩ := q
 (try simp only [ca_, na_, -eq_self])
 (try dsimp only)
 refine e_opN (v_ext (v := .slice qa (dflB b level).length qc) rfl) .nil ?_
 refine e_opN (v_ext (v := .int .i64 (dflE b level)) rfl) .nil ?_
 (refine' e_call (num6) ?hp fun _ => ?_; (case hp => (repeat (first | exact Picks.nil | (apply Picks.cons; (focus repeat constructor))))); (try simp only [ca_, na_, Bool.not_true, Bool.not_false]))
 refine e_opN v_neq .nil ?_
 by_cases hE : dflE b level = 0
 rotate_left
 ·rw [decide_eq_true hE]
  (refine e_gdF1 ?_); (refine e_gdF1 ?_); (refine e_opN v_pickT .nil ?_); (refine e_condT ?_)
  (refine' e_call (knows6) ?hp fun _ => ?_; (case hp => (repeat (first | exact Picks.nil | (apply Picks.cons; (focus repeat constructor))))); (try simp only [ca_, na_, Bool.not_true, Bool.not_false]))
  (first | refine e_ret (()) rfl ?_ | refine e_retT (()) ?_)
  (repeat (first | exact .refl | exact .nil | (apply Imp.pick; (focus ((repeat constructor); done))) | refine .drop ?_))
 have hE0 : dflE b 0 = 0 := by
  obtain ⟨_, _, h⟩ := dflE_0 hE
  unfold dflE
  rw [if_neg (by decide), if_neg (by omega)]
 obtain ⟨zE, _, _, _⟩ := dfl_aE hE0
 obtain ⟨Z, hZb, hid0, z1, z2, z3⟩ : ∃ Z : Nat, (1 ≤ Z ∧ Z ≤ 1000) ∧ Hd (Z = max 1 ((b.length + 29999) / 30000) ∧ (dflB b level).length ≤ b.length + 5 * (b.length / 22000 + 1) + 6 + b.length / 1000) ∧ (dflB b 0).length = b.length + 5 * Z ∧ (aL (dflB b 0) 1048576).length = Z ∧ ∀ y ∈ aL (dflB b 0) 1048576, y.1 = 0 := small_facts hb hE hE0
 rw [decide_eq_false (fun h => h hE)]
 (refine e_gdT ?_)
 (refine' e_call (knows6) ?hp fun _ => ?_; (case hp => (repeat (first | exact Picks.nil | (apply Picks.cons; (focus repeat constructor))))); (try simp only [ca_, na_, Bool.not_true, Bool.not_false]))
 (refine e_gdT ?_); (refine e_opN v_notT .nil ?_); (refine e_opN v_pickF .nil ?_); (refine e_condF ?_)
 refine e_dup (dup_rd (e := 5) (by kernel_rfl) hr ha) (by omega) fun a2 c2 n2 s2 => ?_
 refine e_slfacts .here fun _ g2 g3 g4 => ?_
 have hD2 := deflate (W := W) (c := c2) (level := 0) (b := b) (A := Sl 1 5 a2 c2 b.length (b.map Sl.B)) (rd_sl (by rw [List.length_map]) s2) g2
 rw [hE0] at hD2
 obtain ⟨C, hC⟩ : ∃ C, C = dflB b 0 := ⟨_, rfl⟩
 obtain ⟨D, hD⟩ : ∃ D, D = dflB b level := ⟨_, rfl⟩
 rw [← hC] at hD2 z1 z2 z3 zE
 rw [← hD] at hid0 ⊢
 (refine' e_call (hD2) ?hp fun _ => ?_; (case hp => (repeat (first | exact Picks.nil | (apply Picks.cons; (focus repeat constructor))))); (try simp only [ca_, na_, Bool.not_true, Bool.not_false]))
 rename_i q2
 obtain ⟨pa, pc⟩ := q2
 (try dsimp only)
 (((refine' e_opN (v_extN ?hc) .nil ?_); (case hc => (repeat (first | exact Nth.here | apply Nth.there))))); (((refine' e_opN (v_extN ?hc) .nil ?_); (case hc => (repeat (first | exact Nth.here | apply Nth.there)))))
 refine e_slfacts .here fun _ i2 i3 i4 => ?_
 have hB := blocks (W := W) (cap := pc) (b := C) (most := 1048576) (A := Sl 1 5 pa pc C.length (C.map Sl.B)) (rd_sl (by rw [List.length_map]) i4) (sl_nn i4) (by omega)
 rw [zE] at hB
 obtain ⟨X, hX⟩ : ∃ X, X = aL C 1048576 := ⟨_, rfl⟩
 rw [← hX] at hB z2 z3
 (refine' e_call (hB) ?hp fun _ => ?_; (case hp => (repeat (first | exact Picks.nil | (apply Picks.cons; (focus repeat constructor))))); (try simp only [ca_, na_, Bool.not_true, Bool.not_false]))
 rename_i q3
 obtain ⟨xa, xc⟩ := q3
 (try dsimp only)
 (((refine' e_opN (v_extN ?hc) .nil ?_); (case hc => (repeat (first | exact Nth.here | apply Nth.there))))); (((refine' e_opN (v_extN ?hc) .nil ?_); (case hc => (repeat (first | exact Nth.here | apply Nth.there)))))
 refine e_slsome .here (by omega) fun gx hgx => ?_
 subst hgx
 refine e_loop1 (fun m y => pu (∃ i : Nat, m + i = X.length ∧ y = .int .i64 (i : Int)) :: Sl 2 49 (some ⟨gx, 0, none⟩) xc X.length (X.flatMap blk) :: Sl 1 5 pa pc C.length (C.map Sl.B) :: Sl 1 5 qa qc D.length (D.map Sl.B) :: F) X.length ?_ ?_
 ·refine .pu ⟨0, by omega, rfl⟩ ?_
  (repeat (first | exact .refl | exact .nil | (apply Imp.pick; (focus ((repeat constructor); done))) | refine .drop ?_))
 intro m ds y
 refine e_pu .here fun hi => ?_
 obtain ⟨i, hmi, rfl⟩ := hi
 refine e_opN v_len .nil ?_
 refine e_opN v_lss .nil ?_
 by_cases hlt : (i : Int) < (X.length : Int)
 ·rw [decide_eq_true hlt]
  have hi : i < X.length := by omega
  (refine e_condT ?_)
  refine e_opN (v_ia i (by rfl) hi) .nil ?_
  have hld : (X.flatMap blk)[0 + i * 2]? = some (.int .i64 0) := by
   rw [Nat.zero_add, bk_get hi, z3 _ (List.getElem_mem hi)]; rfl
  (refine e_opN v_fa .nil ?_)
  have ld : RunV Try.prog W [Sl 2 49 (some ⟨gx, 0, none⟩) xc X.length (X.flatMap blk)] (sLoad 3 (.pointer (some ⟨gx, 0 + i * 2 + 0, none⟩))) (.int .i64 0) := v_ldSl hld
  refine e_opN ld (.pick (by repeat constructor) .nil) ?_
  refine e_opN v_neq .nil ?_
  rw [decide_eq_false (by decide)]
  (refine e_condF ?_); (((refine e_opN (v_add ?h1 ?h2) .nil ?_); (case h1 => omega); (case h2 => omega)))
  refine e_next1 (m - 1) (by omega) (.pu ⟨i + 1, by omega, by norm_cast⟩ ?_)
  (repeat (first | exact .refl | exact .nil | (apply Imp.pick; (focus ((repeat constructor); done))) | refine .drop ?_))
 rw [decide_eq_false hlt]
 have hid : Hd (D.length ≤ b.length + 5 * (b.length / 22000 + 1) + 6 + b.length / 1000 ∧ C.length = b.length + 5 * Z ∧ X.length = Z ∧ Z = max 1 ((b.length + 29999) / 30000)) := by
  obtain ⟨h1, h2⟩ := hid0
  exact ⟨h2, z1, z2, h1⟩
 clear hid0 z1 z2 z3 zE hE0 hlt hmi hX hC hD hD2 hB i2 i3 g2 g3 f2 f3 hE n1 n2 i4 g4 s1 s2
 refine e_condF ?_
 refine e_opN v_len .nil ?_
 refine e_opN (v_add (by omega) (by omega)) .nil ?_
 refine e_opN (v_quo (by omega) (by omega) (by omega)) .nil ?_
 refine e_opN v_max .nil ?_
 rw [show (if (1 : Int) < ((b.length : Int) + 29999) / 30000 then ((b.length : Int) + 29999) / 30000 else 1) = (Z : Int) by obtain ⟨_, _, _, hZ⟩ := hid; rw [hZ]; split <;> omega]
 refine e_opN v_len .nil ?_
 refine e_opN v_len .nil ?_
 refine e_opN v_len .nil ?_
 obtain ⟨d1, hd1⟩ : ∃ d1 : Int, d1 = (b.length : Int) / 22000 := ⟨_, rfl⟩
 have hd1b : 0 ≤ d1 ∧ d1 ≤ 1000 := by omega
 refine e_opN (v_quo (by omega) (by omega) (by omega)) .nil ?_
 rw [← hd1]
 have hid1 : Hd (d1 = (b.length : Int) / 22000) := ⟨hd1⟩
 clear hd1
 refine e_opN (v_add (by omega) (by omega)) .nil ?_
 refine e_opN (v_mul (by omega) (by omega)) .nil ?_
 refine e_opN (v_add (by omega) (by omega)) .nil ?_
 refine e_opN (v_add (by omega) (by omega)) .nil ?_
 refine e_opN v_len .nil ?_
 obtain ⟨d2, hd2⟩ : ∃ d2 : Int, d2 = (b.length : Int) / 1000 := ⟨_, rfl⟩
 have hd2b : 0 ≤ d2 ∧ d2 ≤ 10000 := by omega
 refine e_opN (v_quo (by omega) (by omega) (by omega)) .nil ?_
 rw [← hd2]
 have hid2 : Hd (d2 = (b.length : Int) / 1000) := ⟨hd2⟩
 clear hd2
 refine e_opN (v_add (by omega) (by omega)) .nil ?_
 refine e_opN v_leq .nil ?_
 rw [decide_eq_true (by obtain ⟨h1, _⟩ := hid; obtain ⟨h2⟩ := hid1; obtain ⟨h3⟩ := hid2; omega)]
 (refine e_gdT ?_); (refine e_gdT ?_)
 (refine' e_call (num6) ?hp fun _ => ?_; (case hp => (repeat (first | exact Picks.nil | (apply Picks.cons; (focus repeat constructor))))); (try simp only [ca_, na_, Bool.not_true, Bool.not_false]))
 (refine e_gdT ?_); (refine e_gdT ?_)
 (refine' e_call (num6) ?hp fun _ => ?_; (case hp => (repeat (first | exact Picks.nil | (apply Picks.cons; (focus repeat constructor))))); (try simp only [ca_, na_, Bool.not_true, Bool.not_false]))
 (refine e_gdT ?_); (((refine e_opN (v_add ?h1 ?h2) .nil ?_); (case h1 => omega); (case h2 => omega))); (refine e_gdT ?_)
 refine e_opN v_eql .nil ?_
 rw [decide_eq_true (by omega)]
 (refine e_opN v_pickT .nil ?_); (refine e_gdT ?_); (refine e_gdT ?_); (refine e_opN v_len .nil ?_); (refine e_gdT ?_); (refine e_gdT ?_); (refine e_opN v_len .nil ?_); (refine e_gdT ?_); (refine e_gdT ?_); (((refine e_opN (v_mul ?h1 ?h2) .nil ?_); (case h1 => omega); (case h2 => omega))); (refine e_gdT ?_); (((refine e_opN (v_add ?h1 ?h2) .nil ?_); (case h1 => omega); (case h2 => omega))); (refine e_gdT ?_)
 refine e_opN v_eql .nil ?_
 rw [decide_eq_true (by obtain ⟨_, h1, _⟩ := hid; omega)]
 (refine e_opN v_pickT .nil ?_); (refine e_gdT ?_); (refine e_gdT ?_); (refine e_opN v_len .nil ?_); (refine e_gdT ?_); (refine e_gdT ?_)
 refine e_opN v_eql .nil ?_
 rw [decide_eq_true (by obtain ⟨_, _, h1, _⟩ := hid; omega)]
 (refine e_opN v_pickT .nil ?_)
 (first | refine e_ret (()) rfl ?_ | refine e_retT (()) ?_)
 (repeat (first | exact .refl | exact .nil | (apply Imp.pick; (focus ((repeat constructor); done))) | refine .drop ?_))
end Go.Proofs.Ythoeeahdkdcceaa.IF
namespace Go.Proofs.Ythoeeahdkdcceaa.Sl
open Go Go.RowKit Sh
variable {P : Program} {H : Type} {enc : TypeId × Value → H} {W : World}
theorem open_bs {t e : TypeId} {sp : Nat → Bool} {held : Bool} {v : Value} {d : DataW H} {ps : List MemPlace} {r : Reach} {b0 : Nat} (ht : P.underlying t = some (.slice e)) (hc : P.cellsOf e = 1) (he : P.underlying e = some (.int .u8)) (hval : Value.okWide P W r b0 t v) (hd : DataW.Trod enc P W 0 sp held t v d ps) :
  ∃ (a : Option Addr) (c : Nat) (b : List UInt8), v = .slice a b.length c ∧ (a = none → b.length = 0) ∧ (∀ A, RdB W A a b.length (b.map B)) ∧ b.length ≤ Rows.uptoBulk d := by
 obtain ⟨fuel, hf⟩ := open_slice (e := e) ht hval hd
 obtain ⟨a, c, b, e1, g1, g2, g3, g4, g5⟩ := open_bytes (e := e) ht hc he hf
 exact ⟨a, c, b, by injection e1, g3, g4, by simp at g5; omega⟩
end Go.Proofs.Ythoeeahdkdcceaa.Sl
