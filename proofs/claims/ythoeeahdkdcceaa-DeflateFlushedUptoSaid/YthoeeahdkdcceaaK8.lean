/- Whatever is compressed is read back; how long it is; what a stream flushes. Plain; no program in sight. No conditions but those that each names. (10 texts made one; each says below what it is.) -/
import Derived.Test.YthoeeahdkdcceaaK7
set_option linter.unusedVariables false
set_option linter.unusedSimpArgs false
set_option linter.unusedSectionVars false
namespace Go.Proofs.Ythoeeahdkdcceaa.IF
open Go Go.Proofs Go.RowKit HM HF B M
theorem putX_ge (level : Int) (L : List Bool) (last : Nat) (x : Blk) : L.length + 3 ≤ (putX level L last x).length := by
 rw [putX_eq]; simp only [List.length_append, length_bitsOf]; omega
theorem putsX_ge (level : Int) : ∀ (xs : List Blk) (L : List Bool), L.length + 3 * xs.length ≤ (putsX level L xs).length
 | [], L => by simp [putsX]
 | [x], L => putX_ge level L 1 x
 | x :: y :: r, L => by
  have h1 := putX_ge level L 0 x
  have h2 := putsX_ge level (y :: r) (putX level L 0 x)
  rw [putsX, List.length_cons]
  omega
theorem puts0_ge (level : Int) : ∀ (xs : List Blk) (L : List Bool), L.length + 3 * xs.length ≤ (puts0 level L xs).length
 | [], L => by simp [puts0]
 | x :: r, L => by
  have h1 := putX_ge level L 0 x
  have h2 := puts0_ge level r (putX level L 0 x)
  have e : puts0 level L (x :: r) = puts0 level (putX level L 0 x) r := rfl
  rw [e, List.length_cons]
  omega
theorem dflE_0 {b : List UInt8} {level : Int} (h : dflE b level = 0) : 0 ≤ level ∧ level ≤ 9 ∧ b.length ≤ 524288 := by
 unfold dflE at h
 by_cases h1 : level < 0 ∨ 9 < level
 ·rw [if_pos h1] at h; exact absurd h (by decide)
 ·rw [if_neg h1] at h
  by_cases h2 : 524288 < b.length
  ·rw [if_pos h2] at h; exact absurd h (by decide)
  ·exact ⟨by omega, by omega, by omega⟩
theorem dflX_len {b : List UInt8} {level : Int} (hlv : 0 ≤ level) : ((dflX b level).length + 7) / 8 ≤ 5 * (b.length / 8192 + 1) + b.length := by
 obtain ⟨hG, hn⟩ := blks_G b hlv
 have h1 := putsX_len level (blksF b level) []
 have h2 := bytesN_G hG
 unfold dflX
 simp only [List.length_nil] at h1
 omega
theorem dflB_len {b : List UInt8} {level : Int} (h : dflE b level = 0) : (dflB b level).length = ((dflX b level).length + 7) / 8 := by
 unfold dflB
 rw [if_pos h, length_pk]
theorem dflB_ub {b : List UInt8} {level : Int} (h : dflE b level = 0) : ∃ Z, ub (dflB b level) = dflX b level ++ Z := by
 unfold dflB
 rw [if_pos h, ub_pk]
 exact ⟨_, rfl⟩

theorem dfl_small {b : List UInt8} {level : Int} (h : dflE b level = 0) : (dflB b level).length ≤ b.length + 5 * (b.length / 22000 + 1) + 6 + b.length / 1000 := by
 obtain ⟨h1, h2, h3⟩ := dflE_0 h
 have hl := dflB_len h
 have hx := dflX_len (b := b) h1
 omega

def fluB (w : List UInt8) (level : Int) : List UInt8 := if w = [] then [] else pk (fluX w level)
theorem flu_ub {w : List UInt8} {level : Int} : ub (pk (fluX w level)) = fluX w level := by
 rw [ub_pk]
 unfold padTo8
 rw [fluX_8]
 simp
theorem fluX_ge (w : List UInt8) (level : Int) : (blksF w level).length + 1 ≤ (fluX w level).length := by
 have h := puts0_ge level (blksF w level) []
 unfold fluX
 rw [stoX_len]
 simp only [List.length_append, List.length_nil, length_bitsOf] at h ⊢
 omega
def outF (level : Int) (ws : List (List UInt8)) : List UInt8 := ws.flatMap fun w => fluB w level
theorem outF_snoc (level : Int) (ws : List (List UInt8)) (w : List UInt8) : outF level (ws ++ [w]) = outF level ws ++ fluB w level := by
 unfold outF; rw [List.flatMap_append]; simp
theorem flus_loop {level most : Int} (hlv : 0 ≤ level) (post : List UInt8) : ∀ (ws : List (List UInt8)) (pre o : List UInt8) (f : Nat) (l : List (Int × Int)), (((o.length + ws.flatten.length : Nat) : Int) ≤ most) → 8 * (outF level ws).length ≤ f →
  ∃ (g : Nat) (l' : List (Int × Int)), f ≤ g + 8 * (outF level ws).length ∧ mLoop (pre ++ (outF level ws ++ post)) most f (8 * pre.length) o l = mLoop (pre ++ (outF level ws ++ post)) most g (8 * (pre.length + (outF level ws).length)) (o ++ ws.flatten) l'
 | [], pre, o, f, l, hm, hf => ⟨f, l, by simp [outF], by simp [outF]⟩
 | w :: ws, pre, o, f, l, hm, hf => by
  have e : outF level (w :: ws) = fluB w level ++ outF level ws := by unfold outF; rw [List.flatMap_cons]
  rw [List.flatten_cons, List.length_append] at hm
  by_cases hw : w = []
  ·subst hw
   have e2 : outF level ([] :: ws) = outF level ws := by rw [e]; unfold fluB; rw [if_pos rfl]; rfl
   rw [e2] at hf ⊢
   obtain ⟨g, l', h1, h2⟩ := flus_loop (most := most) hlv post ws pre o f l (by simp only [List.length_nil] at hm; omega) hf
   exact ⟨g, l', h1, by rw [h2]; simp⟩
  ·have ef : fluB w level = pk (fluX w level) := by unfold fluB; rw [if_neg hw]
   rw [ef] at e
   have hl8 : 8 * (pk (fluX w level)).length = (fluX w level).length := by
    have := congrArg List.length (flu_ub (w := w) (level := level))
    rw [length_ub] at this
    exact this
   have hge := fluX_ge w level
   rw [e, List.length_append] at hf ⊢
   have hass : pre ++ (pk (fluX w level) ++ outF level ws ++ post) = (pre ++ pk (fluX w level)) ++ (outF level ws ++ post) := by simp only [List.append_assoc]
   obtain ⟨B, hB⟩ : ∃ B, B = pre ++ (pk (fluX w level) ++ outF level ws ++ post) := ⟨_, rfl⟩
   have hBl : B.length = pre.length + ((pk (fluX w level)).length + (outF level ws).length + post.length) := by rw [hB]; simp only [List.length_append]
   have hd : (ub B).drop (8 * pre.length) = fluX w level ++ ub (outF level ws ++ post) := by
    rw [hB, ub_app, List.drop_left' (length_ub pre), List.append_assoc, ub_app, flu_ub]
   obtain ⟨k, hk⟩ : ∃ k, f = k + ((blksF w level).length + 1) := ⟨f - ((blksF w level).length + 1), by omega⟩
   obtain ⟨l1, h1⟩ := flu_loop (b := w) (pre := o) (B := B) (base := 8 * pre.length) (f := k) (level := level) (most := most) (l := l) hlv (by omega) (by omega) hd (by omega)
   obtain ⟨g, l', h2, h3⟩ := flus_loop (most := most) hlv post ws (pre ++ pk (fluX w level)) (o ++ w) k l1 (by rw [List.length_append]; omega) (by omega)
   rw [← hB]
   rw [← hass, ← hB] at h3
   refine ⟨g, l', by omega, ?_⟩
   rw [hk, h1, show 8 * pre.length + (fluX w level).length = 8 * (pre ++ pk (fluX w level)).length by rw [List.length_append]; omega, h3]
   rw [List.length_append, List.flatten_cons, List.append_assoc, Nat.add_assoc]
theorem flush_back {level : Int} (hlv : 0 ≤ level) {ws : List (List UInt8)} (hm : ws.flatten.length ≤ 1048576) (hl : (outF level ws).length + 2 ≤ 1048576) :
  aE (outF level ws ++ [3, 0]) 1048576 = 0 ∧ aO (outF level ws ++ [3, 0]) 1048576 = ws.flatten := by
 obtain ⟨g, l', h1, h2⟩ := flus_loop (most := 1048576) hlv [3, 0] ws [] [] (8 * (outF level ws ++ [3, 0]).length + 1) [] (by simp only [List.length_nil]; omega) (by rw [List.length_append]; omega)
 simp only [List.nil_append, List.length_nil, Nat.zero_add, Nat.mul_zero] at h2
 obtain ⟨B, hB⟩ : ∃ B, B = outF level ws ++ [3, 0] := ⟨_, rfl⟩
 have hBl : B.length = (outF level ws).length + 2 := by rw [hB, List.length_append]; rfl
 rw [← hB] at h1 h2 ⊢
 obtain ⟨g, rfl⟩ : ∃ g', g = g' + 1 := ⟨g - 1, by omega⟩
 obtain ⟨n, hn⟩ : ∃ n, n = 8 * (outF level ws).length := ⟨_, rfl⟩
 have d0 : (ub B).drop n = bitsOf 1 1 ++ (bitsOf 1 2 ++ (([] : List Pc).flatMap (encP litL dstL) ++ (cw litL 256 ++ List.replicate 6 false))) := by
  rw [hB, hn, ub_app, List.drop_left' (length_ub _)]
  decide +kernel
 have hat : n ≤ 8 * B.length := by omega
 obtain ⟨r1, r2, r3⟩ := take_bits (e := 1) (k := 1) (by omega) (by decide) hat d0
 have hat1 := left_at hat d0
 have d1 := drop_at d0
 rw [length_bitsOf] at hat1 d1
 obtain ⟨s1, s2, s3⟩ := take_bits (e := 1) (k := 2) (by omega) (by decide) hat1 d1
 have hat2 := left_at hat1 d1
 have d2 := drop_at d1
 rw [length_bitsOf] at hat2 d2
 have hs := mS_enc (most := 1048576) (out := ws.flatten) (ps := []) ok_lit ok_dst (lit_has (s := 256) (by omega)) trivial (fun p hp => by cases hp) (by simp only [List.foldl_nil]; omega) hat2 d2
 have r1' : takR B n 1 = 0 := r1
 have r2' : takN B n 1 = 1 := r2
 have r3' : takAt B n 1 = n + 1 := r3
 have s1' : takR B (n + 1) 2 = 0 := s1
 have s2' : takN B (n + 1) 2 = 1 := s2
 have s3' : takAt B (n + 1) 2 = n + 1 + 2 := s3
 have hall : ∃ at_ l2, mAll B 1048576 = .ok (at_, ws.flatten, l2) := by
  unfold mAll
  rw [if_neg (by omega), if_neg (by omega), h2, ← hn, mLoop, r1', if_neg (fun c => c rfl), r3', s1', if_neg (fun c => c rfl), s2', s3']
  unfold mKind
  rw [if_neg (by decide), if_pos rfl, hs]
  simp only
  rw [r2', if_neg (by decide)]
  exact ⟨_, _, rfl⟩
 obtain ⟨a, l2, hall⟩ := hall
 unfold aE aO
 rw [hall]
 exact ⟨rfl, rfl⟩
theorem stream_back {level : Int} {ws : List (List UInt8)} {w : List UInt8} (hE : dflE w level = 0) (hm : ws.flatten.length + w.length ≤ 1048576) (hl : (outF level ws ++ dflB w level).length ≤ 1048576) :
  aE (outF level ws ++ dflB w level) 1048576 = 0 ∧ aO (outF level ws ++ dflB w level) 1048576 = ws.flatten ++ w ∧ aU (outF level ws ++ dflB w level) 1048576 = ((outF level ws ++ dflB w level).length : Int) := by
 obtain ⟨hlv, _, _⟩ := dflE_0 hE
 obtain ⟨Z, hZ⟩ := dflB_ub hE
 have hdl := dflB_len hE
 have hge := putsX_ge level (blksF w level) []
 have hX : (dflX w level).length = (putsX level [] (blksF w level)).length := rfl
 simp only [List.length_nil] at hge
 obtain ⟨g, l', h1, h2⟩ := flus_loop (most := 1048576) hlv (dflB w level) ws [] [] (8 * (outF level ws ++ dflB w level).length + 1) [] (by simp only [List.length_nil]; omega) (by rw [List.length_append]; omega)
 simp only [List.nil_append, List.length_nil, Nat.zero_add, Nat.mul_zero] at h2
 obtain ⟨B, hB⟩ : ∃ B, B = outF level ws ++ dflB w level := ⟨_, rfl⟩
 have hBl : B.length = (outF level ws).length + (dflB w level).length := by rw [hB, List.length_append]
 rw [← hB] at h1 h2 hl ⊢
 have hd : (ub B).drop (8 * (outF level ws).length) = dflX w level ++ Z := by
  rw [hB, ub_app, List.drop_left' (length_ub _), hZ]
 have hdf := dfl_loop (b := w) (pre := ws.flatten) (B := B) (base := 8 * (outF level ws).length) (f := g) (level := level) (most := 1048576) (l := l') hlv (by omega) (by omega) hd (by omega) (by omega)
 have hall : mAll B 1048576 = .ok (8 * (outF level ws).length + (dflX w level).length, ws.flatten ++ w, l' ++ kd0 level [] (blksF w level)) := by
  unfold mAll
  rw [if_neg (by omega), if_neg (by omega), h2, hdf]
 unfold aE aO aU
 rw [hall]
 refine ⟨rfl, rfl, ?_⟩
 simp only
 omega
end Go.Proofs.Ythoeeahdkdcceaa.IF
namespace Go.Proofs.Ythoeeahdkdcceaa.IF
open Go Go.Proofs Go.RowKit Sh Sl T HM HF B M
theorem bv_get {level : Int} : ∀ {X : List (Blk × Bv)} {i j : Nat} (h : i < X.length), j < 3 → (X.flatMap (bvC level))[i * 3 + j]? = (bvC level X[i])[j]?
 | y :: X, 0, j, h, hj => by
  rw [List.flatMap_cons, List.getElem?_append_left (by rw [bv_len]; omega)]
  simp
 | y :: X, i + 1, j, h, hj => by
  rw [List.flatMap_cons, List.getElem?_append_right (by rw [bv_len]; omega), bv_len, show (i + 1) * 3 + j - 3 = i * 3 + j by omega]
  exact bv_get (by simpa using h) hj
theorem bvs_len (level : Int) (X : List (Blk × Bv)) : (X.flatMap (bvC level)).length = X.length * 3 := by
 induction X with
 | nil => rfl
 | cons y X ih => rw [List.flatMap_cons, List.length_append, ih, bv_len, List.length_cons]; omega
theorem puts0_nil (level : Int) (L : List Bool) : puts0 level L [] = L := rfl
theorem puts0_cons (level : Int) (L : List Bool) (x : Blk) (xs : List Blk) : puts0 level L (x :: xs) = puts0 level (putX level L 0 x) xs := by unfold puts0; rw [List.foldl_cons]
theorem puts0_snoc (level : Int) (L : List Bool) (xs : List Blk) (x : Blk) : puts0 level L (xs ++ [x]) = putX level (puts0 level L xs) 0 x := by
 unfold puts0; rw [List.foldl_append, List.foldl_cons, List.foldl_nil]
theorem putsX_snoc (level : Int) : ∀ (xs : List Blk) (L : List Bool) (x : Blk), putsX level L (xs ++ [x]) = putX level (puts0 level L xs) 1 x
 | [], L, x => by rw [List.nil_append, putsX, puts0_nil]
 | y :: r, L, x => by
  have ih := putsX_snoc level r (putX level L 0 y) x
  rw [puts0_cons, ← ih]
  cases r with
  | nil => simp only [ca_, na_, putsX]
  | cons z r => rw [List.cons_append, List.cons_append, putsX]
theorem bytesN_app : ∀ (xs ys : List Blk), bytesN (xs ++ ys) = bytesN xs + bytesN ys
 | [], ys => by simp [bytesN]
 | x :: xs, ys => by rw [List.cons_append, bytesN, bytesN, bytesN_app xs ys]; omega
theorem puts0_bnd {b : List UInt8} {level : Int} (hlv : 0 ≤ level) (hb : b.length ≤ 524288) (i : Nat) : (puts0 level [] ((blksF b level).take i)).length ≤ 6000000 := by
 obtain ⟨hG, hn⟩ := blks_G b hlv
 have h1 := puts0_len level ((blksF b level).take i) []
 have h2 := bytesN_G hG
 have h3 := bytesN_app ((blksF b level).take i) ((blksF b level).drop i)
 rw [List.take_append_drop] at h3
 rw [List.length_take] at h1
 simp only [List.length_nil] at h1
 omega
theorem wrong {W : World} {n : Int} : Cn Try.prog 26 [.int .i64 n] W [] (fun _ : Unit => .bool (decide (n < 0 ∨ 9 < n))) (fun _ => []) := by
 (refine S.deflate_wrong_cn fun F => ?_; unfold S.deflate_wrong; simp only [ca_, na_])
 refine e_opN v_lss .nil ?_
 by_cases h : n < 0
 ·rw [decide_eq_true h, decide_eq_true (Or.inl h)]
  (refine e_gdF1 ?_); (refine e_gdF1 ?_); (refine e_opN v_pickT .nil ?_)
  (first | refine e_ret (()) rfl ?_ | refine e_retT (()) ?_)
  exact .refl
 ·rw [decide_eq_false h]
  (refine e_gdT ?_); (refine e_gdT ?_)
  refine e_opN v_gtr .nil ?_
  (refine e_opN v_pickF .nil ?_)
  rw [show decide (n < 0 ∨ 9 < n) = decide (9 < n) from decide_eq_decide.2 ⟨fun x => x.resolve_left h, .inr⟩]
  (first | refine e_ret (()) rfl ?_ | refine e_retT (()) ?_)
  exact .refl
def pgX (level : Int) (xs : List Blk) (i : Nat) : List Bool := if i < xs.length then puts0 level [] (xs.take i) else putsX level [] xs
theorem pg_step {level : Int} {xs : List Blk} {i : Nat} (h : i < xs.length) : pgX level xs (i + 1) = putX level (pgX level xs i) (if i + 1 = xs.length then 1 else 0) xs[i] := by
 unfold pgX
 rw [if_pos h]
 by_cases c : i + 1 = xs.length
 ·rw [if_neg (by omega), if_pos c]
  have e : xs = xs.take i ++ [xs[i]] := by rw [← List.take_succ_eq_append_getElem h, List.take_of_length_le (by omega)]
  conv => lhs; rw [e]
  exact putsX_snoc _ _ _ _
 ·rw [if_pos (by omega), if_neg c, List.take_succ_eq_append_getElem h, puts0_snoc]
theorem deflate {W : World} {a : Option Addr} {c : Nat} {level : Int} {b : List UInt8} {A : HP} (hA : RdB W A a b.length (b.map Sl.B)) (hc : b.length ≤ c) :
  Cn Try.prog 10 [.slice a b.length c, .int .i64 level] W [A] (fun q : Option Addr × Nat => .tuple #[.slice q.1 (dflB b level).length q.2, .int .i64 (dflE b level)]) (fun q => [Sl 1 5 q.1 q.2 (dflB b level).length ((dflB b level).map Sl.B), A]) := by
 have bad : ∀ (e : Int) (L : List HP), dflE b level = e → e ≠ 0 → Ent W (A :: L) (fun w => ∃ q : Option Addr × Nat, (.tuple #[.slice none 0 0, .int .i64 e] : Value) = .tuple #[.slice q.1 (dflB b level).length q.2, .int .i64 (dflE b level)] ∧ sat W ([Sl 1 5 q.1 q.2 (dflB b level).length ((dflB b level).map Sl.B), A] ++ L) w) := by
  intro e L h h0
  have hv : dflB b level = [] := by unfold dflB; rw [if_neg (by rw [h]; exact h0)]
  rw [h, hv]
  refine e_ret (none, 0) rfl ?_
  exact imp_nil .refl
 (refine S.deflate_Deflate_cn fun F => ?_; unfold S.deflate_Deflate; simp only [ca_, na_])
 (refine' e_call (wrong (n := level)) ?hp fun _ => ?_; (case hp => (repeat (first | exact Picks.nil | (apply Picks.cons; (focus repeat constructor))))); (try simp only [ca_, na_, Bool.not_true, Bool.not_false]))
 by_cases hw : level < 0 ∨ 9 < level
 ·rw [decide_eq_true hw]
  (refine e_condT ?_)
  exact bad 1 F (by unfold dflE; rw [if_pos hw]) (by decide)
 rw [decide_eq_false hw]
 (refine e_condF ?_); (refine e_opN v_len .nil ?_)
 refine e_opN v_gtr .nil ?_
 by_cases hs : (524288 : Int) < (b.length : Int)
 ·rw [decide_eq_true hs]
  (refine e_condT ?_)
  exact bad 6 F (by unfold dflE; rw [if_neg hw, if_pos (by omega)]) (by decide)
 rw [decide_eq_false hs]
 have hE : dflE b level = 0 := by unfold dflE; rw [if_neg hw, if_neg (by omega)]
 have hlv : 0 ≤ level := by omega
 have hbl : b.length ≤ 524288 := by omega
 (refine e_condF ?_)
 (refine' e_call (newWriter) ?hp fun _ => ?_; (case hp => (repeat (first | exact Picks.nil | (apply Picks.cons; (focus repeat constructor))))); (try simp only [ca_, na_, Bool.not_true, Bool.not_false]))
 rename_i w
 refine e_call (dblocks (c := c) (level := level) hA hc (by omega) (by omega)) (.cons (by repeat constructor) .nil) fun q => ?_
 obtain ⟨⟨xa, xc⟩, ⟨pa, pc⟩, X⟩ := q
 (try simp only [ca_, na_, -eq_self])
 refine e_pu .here fun hX => ?_
 (try dsimp only at hX)
 (try dsimp only)
 obtain ⟨hXf, hXk⟩ := hX
 obtain ⟨hG, hn⟩ := blks_G b hlv
 have hXl : X.length = (blksF b level).length := by rw [← hXf, List.length_map]
 have hbnd := puts0_bnd (b := b) (level := level) hlv hbl
 have hXb : X.length ≤ 1000 := by omega
 have hne := blks_ne b level
 have hpos : 0 < X.length := by rw [hXl]; exact List.length_pos_iff.2 hne
 have hdX : dflX b level = pgX level (blksF b level) X.length := by unfold pgX dflX; rw [if_neg (by omega)]
 have hdB : dflB b level = pk (dflX b level) := by unfold dflB; rw [if_pos hE]
 refine e_slsome .here hpos fun gx hgx => ?_
 subst hgx
 refine e_opN v_len .nil ?_
 obtain ⟨AL, hAL⟩ : ∃ AL, AL = Sl 3 89 pa pc (pcsL b level).length ((pcsL b level).flatMap pPz) := ⟨_, rfl⟩
 rw [← hAL] at hXk ⊢
 refine e_loop1 (fun m y => (ex fun i : Nat => all [pu (m + i = X.length ∧ y = .int .i64 (i : Int)), IsW w (pgX level (blksF b level) i)]) :: Sl 3 61 (some ⟨gx, 0, none⟩) xc X.length (X.flatMap (bvC level)) :: AL :: A :: F) X.length ?_ ?_
 ·refine .ex 0 (.all ?_)
  (try simp only [ca_, na_, -eq_self])
  refine .pu ⟨by omega, rfl⟩ ?_
  rw [show pgX level (blksF b level) 0 = [] by unfold pgX; rw [if_pos (by omega)]; rfl]
  (repeat (first | exact .refl | exact .nil | (apply Imp.pick; (focus ((repeat constructor); done))) | refine .drop ?_))
 intro m ds y
 refine e_ex .here fun i => e_all .here ?_
 (try simp only [ca_, na_, -eq_self])
 refine e_pu .here fun hi => ?_
 obtain ⟨hmi, rfl⟩ := hi
 refine e_opN v_lss .nil ?_
 by_cases hlt : (i : Int) < (X.length : Int)
 ·rw [decide_eq_true hlt]
  have hi : i < X.length := by omega
  have hib : i < (blksF b level).length := by omega
  have hk := hXk _ (List.getElem_mem hi)
  have hx1 : X[i].1 = (blksF b level)[i] := by
   have := List.getElem_map (f := Prod.fst) (l := X) (i := i) (h := by rw [List.length_map]; exact hi)
   rw [← this]
   congr 1
  obtain ⟨fr, hok⟩ := blkG_all hG _ (List.getElem_mem hib)
  have hst := pg_step (level := level) hib
  have hLi : (pgX level (blksF b level) i).length ≤ 6000000 := by unfold pgX; rw [if_pos hib]; exact hbnd i
  rw [← hx1] at hok hst
  (refine e_condT ?_)
  refine e_opN (v_ia i (by rfl) hi) .nil ?_
  have ld : RunV Try.prog W [Sl 3 61 (some ⟨gx, 0, none⟩) xc X.length (X.flatMap (bvC level))] (sLoad 61 (.pointer (some ⟨gx, 0 + i * 3, none⟩))) (bvV level X[i]) := v_ldRdG (vs := bvC level X[i]) (rd_slG (bvs_len _ _) (fun _ => ⟨gx, rfl⟩)) rfl (fun j hj => bv_get hi hj)
  refine e_opN ld (.pick (by repeat constructor) .nil) ?_
  obtain ⟨⟨x, v⟩, hxv⟩ : ∃ z, z = X[i] := ⟨_, rfl⟩
  rw [← hxv] at hk hok hst ⊢
  (try dsimp only at hok hst)
  unfold bvV
  (refine e_newA fun g => ?_); (((refine' e_stAgg ?hp ?hn ?hv ?h1 ?_); (case hp => (repeat constructor)); (case hn => rfl); (case hv => rfl); (case h1 => simp [Value.oneCell'])))
  rename Nat => b9
  refine e_cut1 (fun z => pu (z = .int .i64 ((if i + 1 = X.length then 1 else 0 : Nat) : Int)) :: pt b9 (.cells #[.slice v.1.1 x.1.length v.1.2, .slice v.2.1 x.2.length v.2.2, .int .i64 level] 61) :: IsW w (pgX level (blksF b level) i) :: Sl 3 61 (some ⟨gx, 0, none⟩) xc X.length (X.flatMap (bvC level)) :: AL :: A :: F) ?_ ?_
  rotate_left
  ·(refine e_opN v_len .nil ?_); (((refine e_opN (v_sub ?h1 ?h2) .nil ?_); (case h1 => omega); (case h2 => omega)))
   refine e_opN v_eql .nil ?_
   by_cases hz : (i : Int) = (X.length : Int) - 1
   ·rw [decide_eq_true hz]
    (refine e_condT ?_)
    refine e_sat (.pu (by rw [if_pos (by omega)]; rfl) ?_)
    (repeat (first | exact .refl | exact .nil | (apply Imp.pick; (focus ((repeat constructor); done))) | refine .drop ?_))
   ·rw [decide_eq_false hz]
    (refine e_condF ?_)
    refine e_sat (.pu (by rw [if_neg (by omega)]; rfl) ?_)
    (repeat (first | exact .refl | exact .nil | (apply Imp.pick; (focus ((repeat constructor); done))) | refine .drop ?_))
  intro ds z
  refine e_pu .here fun hz => ?_
  subst hz
  (((refine' e_opN (v_ldAgg ?hn) ?hi ?_); (case hi => (repeat (first | exact .refl | exact .nil | (apply Imp.pick; (focus ((repeat constructor); done))) | refine .drop ?_))); (case hn => rfl)))
  refine e_call (dput (w := w) (last := if i + 1 = X.length then 1 else 0) (L := pgX level (blksF b level) i) (level := level) hk (okBk.good hok) (by split <;> omega) hLi) (.cons (by repeat constructor) (.cons (by repeat constructor) (.cons (by repeat constructor) .nil))) fun _ => ?_
  (try simp only [ca_, na_, -eq_self])
  (((refine e_opN (v_add ?h1 ?h2) .nil ?_); (case h1 => omega); (case h2 => omega)))
  refine e_next1 (m - 1) (by omega) (.ex (i + 1) (.all ?_))
  (try simp only [ca_, na_, -eq_self])
  rw [hst, hXl]
  refine .pu ⟨by omega, by norm_cast⟩ ?_
  (repeat (first | exact .refl | exact .nil | (apply Imp.pick; (focus ((repeat constructor); done))) | refine .drop ?_))
 ·rw [decide_eq_false hlt]
  have hie : i = X.length := by omega
  subst hie
  rw [← hdX]
  (refine e_condF ?_)
  (refine' e_call (Go.Proofs.Ythoeeahdkdcceaa.B.bytes (l := dflX b level)) ?hp fun _ => ?_; (case hp => (repeat (first | exact Picks.nil | (apply Picks.cons; (focus repeat constructor))))); (try simp only [ca_, na_, Bool.not_true, Bool.not_false]))
  rename_i q
  rw [hdB, hE]
  (first | refine e_ret (q) rfl ?_ | refine e_retT (q) ?_)
  (repeat (first | exact .refl | exact .nil | (apply Imp.pick; (focus ((repeat constructor); done))) | refine .drop ?_))
end Go.Proofs.Ythoeeahdkdcceaa.IF
namespace Go.Proofs.Ythoeeahdkdcceaa.IF
open Go Go.Proofs Go.RowKit Sh Sl T HM HF B M
structure Stm where
 level : Int
 wait : List UInt8
 all_ : Nat
 closed : Bool
def okSt (S : Stm) : Prop := S.all_ ≤ 524288 ∧ S.wait.length ≤ S.all_ ∧ 0 ≤ S.level ∧ S.level ≤ 9
def IsSt (p : Nat) (S : Stm) : HP := ex fun q : Option Addr × Nat => all [pt p (.cells #[.int .i64 S.level, .slice q.1 S.wait.length q.2, .int .i64 (S.all_ : Int), .bool true, .bool S.closed] 37), Sl 1 5 q.1 q.2 S.wait.length (S.wait.map Sl.B), pu (okSt S)]
def opE (S : Stm) : Int := if S.closed then 64 else 0
def wrE (S : Stm) (b : List UInt8) : Int := if S.closed then 64 else if 524288 - S.all_ < b.length then 6 else 0
def wrS (S : Stm) (b : List UInt8) : Stm := if wrE S b = 0 then { S with wait := S.wait ++ b, all_ := S.all_ + b.length } else S
def flO (S : Stm) : List UInt8 := if S.closed then [] else fluB S.wait S.level
def flS (S : Stm) : Stm := if S.closed then S else { S with wait := [] }
def clE (S : Stm) : Int := if S.closed then 64 else dflE S.wait S.level
def clO (S : Stm) : List UInt8 := if S.closed then [] else dflB S.wait S.level
def clS (S : Stm) : Stm := { S with closed := true }
theorem newStream {W : World} {n : Int} : Cn Try.prog 25 [.int .i64 n] W [] (fun p : Nat => .tuple #[.pointer (if n < 0 ∨ 9 < n then none else some ⟨p, 0, none⟩), .int .i64 (if n < 0 ∨ 9 < n then 1 else 0)]) (fun p => [if n < 0 ∨ 9 < n then pu True else IsSt p ⟨n, [], 0, false⟩]) := by
 (refine S.deflate_NewStream_cn fun F => ?_; unfold S.deflate_NewStream; simp only [ca_, na_])
 (refine' e_call (wrong (n := n)) ?hp fun _ => ?_; (case hp => (repeat (first | exact Picks.nil | (apply Picks.cons; (focus repeat constructor))))); (try simp only [ca_, na_, Bool.not_true, Bool.not_false]))
 by_cases h : n < 0 ∨ 9 < n
 ·rw [decide_eq_true h]
  simp only [if_pos h]
  (refine e_condT ?_)
  (first | refine e_ret (0) rfl ?_ | refine e_retT (0) ?_)
  exact .pu trivial .refl
 ·rw [decide_eq_false h]
  simp only [if_neg h]
  (refine e_condF ?_); (refine e_opN v_rv .nil ?_); (refine e_boxA fun g => ?_)
  rename Nat => g
  (first | refine e_ret (g) rfl ?_ | refine e_retT (g) ?_)
  refine .ex (none, 0) (.all ?_)
  (try simp only [ca_, na_, -eq_self])
  refine .pick (by repeat constructor) ?_
  exact imp_nil (.pu ⟨by simp only; omega, by simp, by simp only; omega, by simp only; omega⟩ (by (repeat (first | exact .refl | exact .nil | (apply Imp.pick; (focus ((repeat constructor); done))) | refine .drop ?_))))
theorem open_ {W : World} {p : Nat} {level : Int} {a : Option Addr} {n c : Nat} {m : Int} {cl : Bool} : Cn Try.prog 34 [.pointer (some ⟨p, 0, none⟩)] W [pt p (.cells #[.int .i64 level, .slice a n c, .int .i64 m, .bool true, .bool cl] 37)] (fun _ : Unit => .int .i64 (if cl then 64 else 0)) (fun _ => [pt p (.cells #[.int .i64 level, .slice a n c, .int .i64 m, .bool true, .bool cl] 37)]) := by
 (refine S.deflate_Stream_open_cn fun F => ?_; unfold S.deflate_Stream_open; simp only [ca_, na_])
 refine e_cut1 (fun z => pu (z = .bool false) :: pt p (.cells #[.int .i64 level, .slice a n c, .int .i64 m, .bool true, .bool cl] 37) :: F) ?_ ?_
 ·intro ds z
  refine e_pu .here fun hz => ?_
  subst hz
  (refine e_condF ?_); (refine e_opN v_nil .nil ?_); (refine e_opN v_fa0 .nil ?_); (((refine' e_opN (v_ldN ?hc) ?hi ?_); (case hi => (repeat (first | exact .refl | exact .nil | (apply Imp.pick; (focus ((repeat constructor); done))) | refine .drop ?_))); (case hc => (repeat (first | exact Nth.here | apply Nth.there)))))
  cases cl with
  | true =>
   (refine e_condT ?_)
   (first | refine e_ret (()) rfl ?_ | refine e_retT (()) ?_)
   exact .refl
  | false =>
   (refine e_condF ?_)
   (first | refine e_ret (()) rfl ?_ | refine e_retT (()) ?_)
   exact .refl
 ·(refine e_opN v_eqNil1 .nil ?_); (refine e_condF ?_); (refine e_opN v_nil .nil ?_); (refine e_opN v_fa0 .nil ?_); (((refine' e_opN (v_ldN ?hc) ?hi ?_); (case hi => (repeat (first | exact .refl | exact .nil | (apply Imp.pick; (focus ((repeat constructor); done))) | refine .drop ?_))); (case hc => (repeat (first | exact Nth.here | apply Nth.there))))); (refine e_opN v_notT .nil ?_)
  refine e_sat (.pu rfl .refl)
theorem write {W : World} {p : Nat} {S : Stm} {a : Option Addr} {c : Nat} {b : List UInt8} {A : HP} (hA : RdB W A a b.length (b.map Sl.B)) :
  Cn Try.prog 17 [.pointer (some ⟨p, 0, none⟩), .slice a b.length c] W [IsSt p S, A] (fun _ : Unit => .int .i64 (wrE S b)) (fun _ => [IsSt p (wrS S b), A]) := by
 obtain ⟨lv, w, al, cl⟩ := S
 (refine S.deflate_Stream_Write_cn fun F => ?_; unfold S.deflate_Stream_Write; simp only [ca_, na_])
 refine e_ex .here fun q => e_all .here ?_
 obtain ⟨qa, qc⟩ := q
 (try simp only [ca_, na_, -eq_self])
 refine e_pu (.there (.there .here)) fun hok => ?_
 have hok' := hok
 obtain ⟨k1, k2, k3, k4⟩ := hok'
 (try dsimp only at k1 k2 k3 k4)
 (refine' e_call (open_) ?hp fun _ => ?_; (case hp => (repeat (first | exact Picks.nil | (apply Picks.cons; (focus repeat constructor))))); (try simp only [ca_, na_, Bool.not_true, Bool.not_false]))
 refine e_opN v_neq .nil ?_
 cases cl with
 | true =>
  rw [decide_eq_true (by decide)]
  (refine e_condT ?_)
  (first | refine e_ret (()) rfl ?_ | refine e_retT (()) ?_)
  refine .ex (qa, qc) (.all ?_)
  (try simp only [ca_, na_, -eq_self])
  refine .pick (by repeat constructor) (.pick (by repeat constructor) (.pu hok ?_))
  (repeat (first | exact .refl | exact .nil | (apply Imp.pick; (focus ((repeat constructor); done))) | refine .drop ?_))
 | false =>
  rw [decide_eq_false (by decide)]
  (refine e_condF ?_); (refine e_opN v_len .nil ?_); (refine e_opN v_nil .nil ?_); (refine e_opN v_fa0 .nil ?_); (((refine' e_opN (v_ldN ?hc) ?hi ?_); (case hi => (repeat (first | exact .refl | exact .nil | (apply Imp.pick; (focus ((repeat constructor); done))) | refine .drop ?_))); (case hc => (repeat (first | exact Nth.here | apply Nth.there))))); (((refine e_opN (v_sub ?h1 ?h2) .nil ?_); (case h1 => omega); (case h2 => omega)))
  refine e_opN v_gtr .nil ?_
  by_cases h : (524288 : Int) - (al : Int) < (b.length : Int)
  ·rw [decide_eq_true h]
   (refine e_condT ?_)
   have e1 : wrE ⟨lv, w, al, false⟩ b = 6 := by unfold wrE; simp only [Bool.false_eq_true, if_false]; rw [if_pos (by omega)]
   have e2 : wrS ⟨lv, w, al, false⟩ b = ⟨lv, w, al, false⟩ := by unfold wrS; rw [if_neg (by rw [e1]; decide)]
   rw [e1, e2]
   (first | refine e_ret (()) rfl ?_ | refine e_retT (()) ?_)
   refine .ex (qa, qc) (.all ?_)
   (try simp only [ca_, na_, -eq_self])
   refine .pick (by repeat constructor) (.pick (by repeat constructor) (.pu hok ?_))
   (repeat (first | exact .refl | exact .nil | (apply Imp.pick; (focus ((repeat constructor); done))) | refine .drop ?_))
  ·rw [decide_eq_false h]
   have e1 : wrE ⟨lv, w, al, false⟩ b = 0 := by unfold wrE; simp only [Bool.false_eq_true, if_false]; rw [if_neg (by omega)]
   have e2 : wrS ⟨lv, w, al, false⟩ b = ⟨lv, w ++ b, al + b.length, false⟩ := by unfold wrS; rw [if_pos e1]
   rw [e1, e2]
   (refine e_condF ?_); (refine e_opN v_nil .nil ?_); (refine e_opN v_fa0 .nil ?_); (((refine' e_opN (v_ldN ?hc) ?hi ?_); (case hi => (repeat (first | exact .refl | exact .nil | (apply Imp.pick; (focus ((repeat constructor); done))) | refine .drop ?_))); (case hc => (repeat (first | exact Nth.here | apply Nth.there))))); (refine e_opN v_len .nil ?_); (((refine e_opN (v_add ?h1 ?h2) .nil ?_); (case h1 => omega); (case h2 => omega))); (refine e_opN v_nil .nil ?_); (refine e_opN v_fa0 .nil ?_); (((refine' e_stN ?hp ?ho ?_); (case hp => (repeat constructor)); (case ho => (repeat (first | exact Put.here | apply Put.there))))); (refine e_opN v_nil .nil ?_); (refine e_opN v_fa0 .nil ?_); (((refine' e_opN (v_ldN ?hc) ?hi ?_); (case hi => (repeat (first | exact .refl | exact .nil | (apply Imp.pick; (focus ((repeat constructor); done))) | refine .drop ?_))); (case hc => (repeat (first | exact Nth.here | apply Nth.there)))))
   refine e_app (m := b.length) (news := b.map Sl.B) (by repeat constructor) (src_rd (A := A) (e' := 5) (by kernel_rfl) (by repeat constructor) hA (rd_none_ hA) B_one) (by omega) (by omega) fun a' c' => ?_
   (refine e_opN v_nil .nil ?_); (refine e_opN v_fa0 .nil ?_); (((refine' e_stN ?hp ?ho ?_); (case hp => (repeat constructor)); (case ho => (repeat (first | exact Put.here | apply Put.there)))))
   (first | refine e_ret (()) rfl ?_ | refine e_retT (()) ?_)
   refine .ex (a', c') (.all ?_)
   (try simp only [ca_, na_, -eq_self])
   rw [List.map_append, List.length_append]
   refine .pick (by repeat constructor) (.pick (by repeat constructor) (.pu ⟨by simp only; omega, by simp only [List.length_append]; omega, k3, k4⟩ ?_))
   (repeat (first | exact .refl | exact .nil | (apply Imp.pick; (focus ((repeat constructor); done))) | refine .drop ?_))
theorem flush {W : World} {p : Nat} {S : Stm} :
  Cn Try.prog 15 [.pointer (some ⟨p, 0, none⟩)] W [IsSt p S] (fun q : Option Addr × Nat => .tuple #[.slice q.1 (flO S).length q.2, .int .i64 (opE S)]) (fun q => [Sl 1 5 q.1 q.2 (flO S).length ((flO S).map Sl.B), IsSt p (flS S)]) := by
 obtain ⟨lv, w, al, cl⟩ := S
 (refine S.deflate_Stream_Flush_cn fun F => ?_; unfold S.deflate_Stream_Flush; simp only [ca_, na_])
 refine e_ex .here fun q => e_all .here ?_
 obtain ⟨qa, qc⟩ := q
 (try simp only [ca_, na_, -eq_self])
 refine e_pu (.there (.there .here)) fun hok => ?_
 have hok' := hok
 obtain ⟨k1, k2, k3, k4⟩ := hok'
 (try dsimp only at k1 k2 k3 k4)
 (refine' e_call (open_) ?hp fun _ => ?_; (case hp => (repeat (first | exact Picks.nil | (apply Picks.cons; (focus repeat constructor))))); (try simp only [ca_, na_, Bool.not_true, Bool.not_false]))
 refine e_opN v_neq .nil ?_
 cases cl with
 | true =>
  rw [decide_eq_true (by decide)]
  (refine e_gdF1 ?_); (refine e_gdF1 ?_); (refine e_gdF1 ?_); (refine e_gdF1 ?_); (refine e_gdF1 ?_); (refine e_gdF1 ?_); (refine e_opN v_pickT .nil ?_); (refine e_condT ?_)
  (first | refine e_ret ((none, 0)) rfl ?_ | refine e_retT ((none, 0)) ?_)
  unfold flO flS
  simp only [if_true]
  refine imp_nil (.ex (qa, qc) (.all ?_))
  (try simp only [ca_, na_, -eq_self])
  refine .pick (by repeat constructor) (.pick (by repeat constructor) (.pu hok ?_))
  (repeat (first | exact .refl | exact .nil | (apply Imp.pick; (focus ((repeat constructor); done))) | refine .drop ?_))
 | false =>
  rw [decide_eq_false (by decide)]
  (refine e_gdT ?_); (refine e_gdT ?_); (refine e_opN v_nil .nil ?_); (refine e_gdT ?_); (refine e_opN v_fa0 .nil ?_); (refine e_gdT ?_); (((refine' e_opN (v_ldN ?hc) ?hi ?_); (case hi => (repeat (first | exact .refl | exact .nil | (apply Imp.pick; (focus ((repeat constructor); done))) | refine .drop ?_))); (case hc => (repeat (first | exact Nth.here | apply Nth.there))))); (refine e_gdT ?_); (refine e_opN v_len .nil ?_); (refine e_gdT ?_)
  refine e_opN v_eql .nil ?_
  by_cases h : (w.length : Int) = 0
  ·rw [decide_eq_true h]
   have hw : w = [] := List.length_eq_zero_iff.1 (by omega)
   subst hw
   (refine e_opN v_pickF .nil ?_); (refine e_condT ?_)
   have e1 : flO ⟨lv, [], al, false⟩ = [] := by unfold flO fluB; simp
   have e2 : flS ⟨lv, [], al, false⟩ = ⟨lv, [], al, false⟩ := by unfold flS; simp
   rw [e1, e2]
   (first | refine e_ret ((none, 0)) rfl ?_ | refine e_retT ((none, 0)) ?_)
   refine imp_nil (.ex (qa, qc) (.all ?_))
   (try simp only [ca_, na_, -eq_self])
   refine .pick (by repeat constructor) (.pick (by repeat constructor) (.pu hok ?_))
   (repeat (first | exact .refl | exact .nil | (apply Imp.pick; (focus ((repeat constructor); done))) | refine .drop ?_))
  rw [decide_eq_false h]
  have hw : ¬ w = [] := fun c => h (by rw [c]; rfl)
  have e1 : flO ⟨lv, w, al, false⟩ = pk (fluX w lv) := by unfold flO fluB; simp only [Bool.false_eq_true, if_false]; rw [if_neg hw]
  have e2 : flS ⟨lv, w, al, false⟩ = ⟨lv, [], al, false⟩ := by unfold flS; simp
  rw [e1, e2]
  (refine e_opN v_pickF .nil ?_); (refine e_condF ?_)
  (refine' e_call (newWriter) ?hp fun _ => ?_; (case hp => (repeat (first | exact Picks.nil | (apply Picks.cons; (focus repeat constructor))))); (try simp only [ca_, na_, Bool.not_true, Bool.not_false]))
  rename_i wr
  (refine e_drS ?_); (refine e_stS v_nil .nil ?_); (refine e_stS v_fa0 .nil ?_); (((refine' e_stS (v_ldN ?hc) ?hi ?_); (case hi => (repeat (first | exact .refl | exact .nil | (apply Imp.pick; (focus ((repeat constructor); done))) | refine .drop ?_))); (case hc => (repeat (first | exact Nth.here | apply Nth.there))))); (refine e_stS v_nil .nil ?_); (refine e_stS v_fa0 .nil ?_); (((refine' e_stS (v_ldN ?hc) ?hi ?_); (case hi => (repeat (first | exact .refl | exact .nil | (apply Imp.pick; (focus ((repeat constructor); done))) | refine .drop ?_))); (case hc => (repeat (first | exact Nth.here | apply Nth.there)))))
  refine e_slfacts (by (repeat constructor) : Pick _ (Sl 1 5 qa qc w.length (w.map Sl.B)) _) fun _ f2 f3 f4 => ?_
  have hA : RdB W (Sl 1 5 qa qc w.length (w.map Sl.B)) qa w.length (w.map Sl.B) := rd_sl (by rw [List.length_map]) f4
  refine e_call (dblocks (c := qc) (level := lv) hA f2 (by omega) (by omega)) (.cons (by repeat constructor) .nil) fun q => ?_
  obtain ⟨⟨xa, xc⟩, ⟨pa, pc⟩, X⟩ := q
  (try simp only [ca_, na_, -eq_self])
  refine e_pu .here fun hX => ?_
  (try dsimp only at hX)
  (try dsimp only)
  obtain ⟨hXf, hXk⟩ := hX
  obtain ⟨hG, hn⟩ := blks_G w k3
  have hXl : X.length = (blksF w lv).length := by rw [← hXf, List.length_map]
  have hbnd := puts0_bnd (b := w) (level := lv) k3 (by omega)
  have hXb : X.length ≤ 1000 := by omega
  have hne := blks_ne w lv
  have hpos : 0 < X.length := by rw [hXl]; exact List.length_pos_iff.2 hne
  refine e_slsome .here hpos fun gx hgx => ?_
  subst hgx
  obtain ⟨AB, hAB⟩ : ∃ AB, AB = Sl 1 5 qa qc w.length (w.map Sl.B) := ⟨_, rfl⟩
  obtain ⟨AL, hAL⟩ : ∃ AL, AL = Sl 3 89 pa pc (pcsL w lv).length ((pcsL w lv).flatMap pPz) := ⟨_, rfl⟩
  rw [← hAL, ← hAB] at hXk ⊢
  (refine e_stS v_len .nil ?_)
  refine e_loop1 (fun m y => (ex fun i : Nat => all [pu (m + i = X.length ∧ y = .int .i64 (i : Int)), IsW wr (puts0 lv [] ((blksF w lv).take i))]) :: Sl 3 61 (some ⟨gx, 0, none⟩) xc X.length (X.flatMap (bvC lv)) :: AL :: AB :: pt p (.cells #[.int .i64 lv, .slice qa w.length qc, .int .i64 (al : Int), .bool true, .bool false] 37) :: F) X.length ?_ ?_
  ·refine .ex 0 (.all ?_)
   (try simp only [ca_, na_, -eq_self])
   refine .pu ⟨by omega, rfl⟩ ?_
   rw [List.take_zero, puts0_nil]
   (repeat (first | exact .refl | exact .nil | (apply Imp.pick; (focus ((repeat constructor); done))) | refine .drop ?_))
  intro m ds y
  refine e_ex .here fun i => e_all .here ?_
  (try simp only [ca_, na_, -eq_self])
  refine e_pu .here fun hi => ?_
  obtain ⟨hmi, rfl⟩ := hi
  refine e_opN v_lss .nil ?_
  by_cases hlt : (i : Int) < (X.length : Int)
  ·rw [decide_eq_true hlt]
   have hi : i < X.length := by omega
   have hib : i < (blksF w lv).length := by omega
   have hk := hXk _ (List.getElem_mem hi)
   have hx1 : X[i].1 = (blksF w lv)[i] := by
    have := List.getElem_map (f := Prod.fst) (l := X) (i := i) (h := by rw [List.length_map]; exact hi)
    rw [← this]
    congr 1
   obtain ⟨fr, hok⟩ := blkG_all hG _ (List.getElem_mem hib)
   have hst : puts0 lv [] ((blksF w lv).take (i + 1)) = putX lv (puts0 lv [] ((blksF w lv).take i)) 0 (blksF w lv)[i] := by
    rw [List.take_succ_eq_append_getElem hib, puts0_snoc]
   have hLi := hbnd i
   rw [← hx1] at hok hst
   (refine e_condT ?_)
   refine e_opN (v_ia i (by rfl) hi) .nil ?_
   have ld : RunV Try.prog W [Sl 3 61 (some ⟨gx, 0, none⟩) xc X.length (X.flatMap (bvC lv))] (sLoad 61 (.pointer (some ⟨gx, 0 + i * 3, none⟩))) (bvV lv X[i]) := v_ldRdG (vs := bvC lv X[i]) (rd_slG (bvs_len _ _) (fun _ => ⟨gx, rfl⟩)) rfl (fun j hj => bv_get hi hj)
   refine e_opN ld (.pick (by repeat constructor) .nil) ?_
   obtain ⟨⟨x, v⟩, hxv⟩ : ∃ z, z = X[i] := ⟨_, rfl⟩
   rw [← hxv] at hk hok hst ⊢
   (try dsimp only at hok hst)
   unfold bvV
   (refine e_newA fun g => ?_); (((refine' e_stAgg ?hp ?hn ?hv ?h1 ?_); (case hp => (repeat constructor)); (case hn => rfl); (case hv => rfl); (case h1 => simp [Value.oneCell']))); (((refine' e_opN (v_ldAgg ?hn) ?hi ?_); (case hi => (repeat (first | exact .refl | exact .nil | (apply Imp.pick; (focus ((repeat constructor); done))) | refine .drop ?_))); (case hn => rfl)))
   refine e_call (dput (w := wr) (last := 0) (L := puts0 lv [] ((blksF w lv).take i)) (level := lv) hk (okBk.good hok) (by omega) hLi) (.cons (by repeat constructor) (.cons (by repeat constructor) (.cons (by repeat constructor) .nil))) fun _ => ?_
   (try simp only [ca_, na_, -eq_self])
   (((refine e_opN (v_add ?h1 ?h2) .nil ?_); (case h1 => omega); (case h2 => omega)))
   refine e_next1 (m - 1) (by omega) (.ex (i + 1) (.all ?_))
   (try simp only [ca_, na_, -eq_self])
   rw [hst]
   refine .pu ⟨by omega, by norm_cast⟩ ?_
   (repeat (first | exact .refl | exact .nil | (apply Imp.pick; (focus ((repeat constructor); done))) | refine .drop ?_))
  ·rw [decide_eq_false hlt]
   have hie : i = X.length := by omega
   have hLi := hbnd i
   rw [hie, hXl, List.take_length] at hLi ⊢
   obtain ⟨M, hM⟩ : ∃ M, M = puts0 lv [] (blksF w lv) := ⟨_, rfl⟩
   have hfl : fluX w lv = stoX (M ++ bitsOf 0 3) ([], []) := by rw [hM]; rfl
   rw [← hM] at hLi ⊢
   (refine e_condF ?_)
   (refine' e_call (put (l := M) (n := 0) (k := 3)) ?hp fun _ => ?_; (case hp => (repeat (first | exact Picks.nil | (apply Picks.cons; (focus repeat constructor))))); (try simp only [ca_, na_, Bool.not_true, Bool.not_false]))
   rw [putL_i (n := 0) (e := 0) (k := 3) (j := 3) rfl rfl (by omega) (by omega) (by omega)]
   (refine e_opN v_rv .nil ?_)
   have hd := dstored (W := W) (AL := pu True) (AB := pu True) (x := (([], []) : Blk)) (v := ((none, 0), (none, 0))) (level := 0) (w := wr) (M := M ++ bitsOf 0 3) ⟨rd_nil rfl, rd_nil rfl, by decide⟩ (by decide) (by simp only [List.length_append, length_bitsOf, List.length_nil]; omega)
   unfold bvV at hd
   (try dsimp only at hd)
   rw [← hfl] at hd
   refine e_imp (M := IsW wr (M ++ bitsOf 0 3) :: pu True :: pt p (.cells #[.int .i64 lv, .slice qa w.length qc, .int .i64 (al : Int), .bool true, .bool false] 37) :: F) ?_ ?_
   ·refine .pick (by repeat constructor) (.pu trivial ?_)
    (repeat (first | exact .refl | exact .nil | (apply Imp.pick; (focus ((repeat constructor); done))) | refine .drop ?_))
   refine e_call hd (.cons (by repeat constructor) (.cons (by repeat constructor) .nil)) fun _ => ?_
   (try simp only [ca_, na_, -eq_self])
   (refine e_opN v_nil .nil ?_); (refine e_opN v_fa0 .nil ?_); (((refine' e_stN ?hp ?ho ?_); (case hp => (repeat constructor)); (case ho => (repeat (first | exact Put.here | apply Put.there)))))
   (refine' e_call (Go.Proofs.Ythoeeahdkdcceaa.B.bytes (l := fluX w lv)) ?hp fun _ => ?_; (case hp => (repeat (first | exact Picks.nil | (apply Picks.cons; (focus repeat constructor))))); (try simp only [ca_, na_, Bool.not_true, Bool.not_false]))
   rename_i q
   (first | refine e_ret (q) rfl ?_ | refine e_retT (q) ?_)
   refine .pick (by repeat constructor) (.ex (none, 0) (.all ?_))
   (try simp only [ca_, na_, -eq_self])
   refine .pick (by repeat constructor) (imp_nil (.pu ⟨k1, Nat.zero_le _, k3, k4⟩ ?_))
   (repeat (first | exact .refl | exact .nil | (apply Imp.pick; (focus ((repeat constructor); done))) | refine .drop ?_))
theorem close {W : World} {p : Nat} {S : Stm} :
  Cn Try.prog 16 [.pointer (some ⟨p, 0, none⟩)] W [IsSt p S] (fun q : Option Addr × Nat => .tuple #[.slice q.1 (clO S).length q.2, .int .i64 (clE S)]) (fun q => [Sl 1 5 q.1 q.2 (clO S).length ((clO S).map Sl.B), IsSt p (clS S)]) := by
 obtain ⟨lv, w, al, cl⟩ := S
 (refine S.deflate_Stream_Close_cn fun F => ?_; unfold S.deflate_Stream_Close; simp only [ca_, na_])
 refine e_ex .here fun q => e_all .here ?_
 obtain ⟨qa, qc⟩ := q
 (try simp only [ca_, na_, -eq_self])
 refine e_pu (.there (.there .here)) fun hok => ?_
 have hok' := hok
 obtain ⟨k1, k2, k3, k4⟩ := hok'
 (try dsimp only at k1 k2 k3 k4)
 (refine' e_call (open_) ?hp fun _ => ?_; (case hp => (repeat (first | exact Picks.nil | (apply Picks.cons; (focus repeat constructor))))); (try simp only [ca_, na_, Bool.not_true, Bool.not_false]))
 refine e_opN v_neq .nil ?_
 cases cl with
 | true =>
  rw [decide_eq_true (by decide)]
  (refine e_condT ?_)
  unfold clO clE clS
  simp only [if_true]
  (first | refine e_ret ((none, 0)) rfl ?_ | refine e_retT ((none, 0)) ?_)
  refine imp_nil (.ex (qa, qc) (.all ?_))
  (try simp only [ca_, na_, -eq_self])
  refine .pick (by repeat constructor) (.pick (by repeat constructor) (.pu hok ?_))
  (repeat (first | exact .refl | exact .nil | (apply Imp.pick; (focus ((repeat constructor); done))) | refine .drop ?_))
 | false =>
  rw [decide_eq_false (by decide)]
  (refine e_condF ?_); (refine e_opN v_nil .nil ?_); (refine e_opN v_fa0 .nil ?_); (((refine' e_stN ?hp ?ho ?_); (case hp => (repeat constructor)); (case ho => (repeat (first | exact Put.here | apply Put.there))))); (refine e_drS ?_); (refine e_stS v_nil .nil ?_); (refine e_stS v_fa0 .nil ?_); (((refine' e_stS (v_ldN ?hc) ?hi ?_); (case hi => (repeat (first | exact .refl | exact .nil | (apply Imp.pick; (focus ((repeat constructor); done))) | refine .drop ?_))); (case hc => (repeat (first | exact Nth.here | apply Nth.there))))); (refine e_stS v_nil .nil ?_); (refine e_stS v_fa0 .nil ?_); (((refine' e_stS (v_ldN ?hc) ?hi ?_); (case hi => (repeat (first | exact .refl | exact .nil | (apply Imp.pick; (focus ((repeat constructor); done))) | refine .drop ?_))); (case hc => (repeat (first | exact Nth.here | apply Nth.there)))))
  refine e_slfacts (by (repeat constructor) : Pick _ (Sl 1 5 qa qc w.length (w.map Sl.B)) _) fun _ f2 f3 f4 => ?_
  have hA : RdB W (Sl 1 5 qa qc w.length (w.map Sl.B)) qa w.length (w.map Sl.B) := rd_sl (by rw [List.length_map]) f4
  refine e_call (deflate (c := qc) (level := lv) hA f2) (.cons (by repeat constructor) .nil) fun q => ?_
  obtain ⟨xa, xc⟩ := q
  (try simp only [ca_, na_, -eq_self])
  (try dsimp only)
  unfold clO clE clS
  simp only [Bool.false_eq_true, if_false]
  refine e_stS (v_ext (v := .slice xa (dflB w lv).length xc) rfl) .nil ?_
  refine e_stS (v_ext (v := .int .i64 (dflE w lv)) rfl) .nil ?_
  (first | refine e_ret ((xa, xc)) rfl ?_ | refine e_retT ((xa, xc)) ?_)
  refine .pick (by repeat constructor) (.ex (qa, qc) (.all ?_))
  (try simp only [ca_, na_, -eq_self])
  refine .pick (by repeat constructor) (.pick (by repeat constructor) (.pu ⟨k1, k2, k3, k4⟩ ?_))
  (repeat (first | exact .refl | exact .nil | (apply Imp.pick; (focus ((repeat constructor); done))) | refine .drop ?_))
end Go.Proofs.Ythoeeahdkdcceaa.IF
namespace Go.Proofs.Ythoeeahdkdcceaa.Sl
open Go Go.RowKit Sh
variable {P : Program} {W : World} {L L' : List HP} {Kp : PK} {k : Value → WP}
theorem e_bconst {t e e' : TypeId} {g n c : Nat} {cs : Array Value} (ht : P.underlying t = some (.slice e)) (he : P.underlying e = some (.int .u8)) (p : Pick L (pt g (.cells cs e' (0, 0))) L')
  (h : Ent W (pt g (.cells cs e' (cs.size, cs.size + 1)) :: L') (k (.slice (some ⟨g, 0, none⟩) n c))) : Ent W L (opN P (sConv t t (.slice (some ⟨g, 0, none⟩) n c)) Kp k) := fun w hw => by
 have hp := hw.pick p
 have hg := hp.pt_.1
 have hsh : w.shape? g = some (e', cs.size) := by unfold World.shape?; rw [hg]
 have hrun : (sConv t t (.slice (some ⟨g, 0, none⟩) n c)).run P w = .ok (.value (.slice (some ⟨g, 0, none⟩) n c)) (w.freeze ⟨g, cs.size, none⟩ 1) := by
  simp [sConv, convert, run_underlying ht, run_underlying he, markStringish, hsh]
 refine ⟨?_⟩
 rw [hrun]
 refine h _ (hp.turn (w' := w.freeze ⟨g, cs.size, none⟩ 1) rfl rfl rfl ?_ ?_ ?_)
 ·simp [World.freeze]
 ·simp [World.freeze, Array.getElem?_modify, hg]
 ·intro i hi
  simp only [World.freeze]
  rw [if_neg (by decide), Array.getElem?_modify, if_neg (fun c => hi c.symm)]
end Go.Proofs.Ythoeeahdkdcceaa.Sl
namespace Go.Proofs.Ythoeeahdkdcceaa.IF
open Go Go.Proofs Go.RowKit Sh Sl T HM HF B M
theorem num6 {W : World} {n : Int} : Cn Try.prog 12 [.int .i64 n] W [] (fun _ : Unit => .int .i64 n) (fun _ => []) := by
 (refine S.law06_num_cn fun F => ?_; unfold S.law06_num; simp only [ca_, na_])
 (first | refine e_ret (()) rfl ?_ | refine e_retT (()) ?_)
 exact .refl
def kn0 : List UInt8 := [97, 98, 99]
set_option maxRecDepth 100000 in
theorem kn6a : dflB kn0 0 = [1, 3, 0, 252, 255, 97, 98, 99] := by
 have : decide (dflB kn0 0 = [1, 3, 0, 252, 255, 97, 98, 99]) = true := by decide +kernel
 exact of_decide_eq_true this
set_option maxRecDepth 100000 in
theorem kn6b : dflB kn0 6 = [75, 76, 74, 6, 0] := by
 have : decide (dflB kn0 6 = [75, 76, 74, 6, 0]) = true := by decide +kernel
 exact of_decide_eq_true this
theorem knows6 {W : World} : Cn Try.prog 14 [] W [] (fun _ : Unit => .bool true) (fun _ => []) := by
 have h1 := fun A : HP => fun (g : Nat) (h : RdB W A (some ⟨g, 0, none⟩) 3 (kn0.map Sl.B)) => deflate (W := W) (a := some ⟨g, 0, none⟩) (c := 3) (level := 6) (b := kn0) (A := A) h (by decide)
 have h2 := fun A : HP => fun (g : Nat) (h : RdB W A (some ⟨g, 0, none⟩) 3 (kn0.map Sl.B)) => deflate (W := W) (a := some ⟨g, 0, none⟩) (c := 3) (level := 0) (b := kn0) (A := A) h (by decide)
 rw [kn6b, show dflE kn0 6 = 0 from by decide] at h1
 rw [kn6a, show dflE kn0 0 = 0 from by decide] at h2
 (refine S.law06_knows_cn fun F => ?_; unfold S.law06_knows; simp only [ca_, na_])
 refine e_bslN (vs := kn0.map Sl.B) rfl rfl (by intro v hv; obtain ⟨c, _, rfl⟩ := List.mem_map.1 hv; rfl) (by omega) fun g => ?_
 refine e_bconst (e := 5) (by kernel_rfl) (by kernel_rfl) .here ?_
 (refine' e_call (h1 _ g (rd_pt (by rfl))) ?hp fun _ => ?_; (case hp => (repeat (first | exact Picks.nil | (apply Picks.cons; (focus repeat constructor))))); (try simp only [ca_, na_, Bool.not_true, Bool.not_false]))
 rename_i q
 obtain ⟨qa, qc⟩ := q
 (try dsimp only)
 (((refine' e_opN (v_extN ?hc) .nil ?_); (case hc => (repeat (first | exact Nth.here | apply Nth.there))))); (((refine' e_opN (v_extN ?hc) .nil ?_); (case hc => (repeat (first | exact Nth.here | apply Nth.there)))))
 refine e_bslN (vs := kn0.map Sl.B) rfl rfl (by intro v hv; obtain ⟨c, _, rfl⟩ := List.mem_map.1 hv; rfl) (by omega) fun g2 => ?_
 refine e_bconst (e := 5) (by kernel_rfl) (by kernel_rfl) .here ?_
 (refine' e_call (h2 _ g2 (rd_pt (by rfl))) ?hp fun _ => ?_; (case hp => (repeat (first | exact Picks.nil | (apply Picks.cons; (focus repeat constructor))))); (try simp only [ca_, na_, Bool.not_true, Bool.not_false]))
 rename_i q2
 obtain ⟨qa2, qc2⟩ := q2
 (try dsimp only)
 (((refine' e_opN (v_extN ?hc) .nil ?_); (case hc => (repeat (first | exact Nth.here | apply Nth.there))))); (((refine' e_opN (v_extN ?hc) .nil ?_); (case hc => (repeat (first | exact Nth.here | apply Nth.there)))))
 (refine' e_call (num6) ?hp fun _ => ?_; (case hp => (repeat (first | exact Picks.nil | (apply Picks.cons; (focus repeat constructor))))); (try simp only [ca_, na_, Bool.not_true, Bool.not_false]))
 (refine' e_call (num6) ?hp fun _ => ?_; (case hp => (repeat (first | exact Picks.nil | (apply Picks.cons; (focus repeat constructor))))); (try simp only [ca_, na_, Bool.not_true, Bool.not_false]))
 (((refine e_opN (v_add ?h1 ?h2) .nil ?_); (case h1 => omega); (case h2 => omega)))
 refine e_slsome .here (by decide) fun h2 hg2 => ?_
 subst hg2
 refine e_slsome (.there (.there .here)) (by decide) fun h1 hg1 => ?_
 subst hg1
 refine e_opN v_eql .nil ?_
 rw [decide_eq_true (by decide)]
 (refine e_gdT ?_); (refine e_gdT ?_)
 refine e_opN (v_str (l := [75, 76, 74, 6, 0]) (rd_sl (by decide) (fun _ => ⟨h1, rfl⟩)) (fun c => by cases c)) (.pick (by repeat constructor) .nil) ?_
 (refine e_gdT ?_)
 refine e_opN (v_streq (l := [75, 76, 74, 6, 0]) (m := [75, 76, 74, 6, 0])) .nil ?_
 rw [decide_eq_true rfl]
 (refine e_opN v_pickT .nil ?_); (refine e_gdT ?_); (refine e_gdT ?_); (refine e_opN v_len .nil ?_); (refine e_gdT ?_)
 refine e_opN v_eql .nil ?_
 rw [decide_eq_true (by decide)]
 (refine e_opN v_pickT .nil ?_); (refine e_gdT ?_); (refine e_gdT ?_)
 refine e_opN (v_ia1 7 (by rfl) (by decide)) .nil ?_
 (refine e_gdT ?_); (((refine' e_opN (v_ldSl ?hc) ?hi ?_); (case hi => (repeat (first | exact .refl | exact .nil | (apply Imp.pick; (focus ((repeat constructor); done))) | refine .drop ?_))); (case hc => rfl))); (refine e_gdT ?_)
 rw [show Sl.B 99 = .int .u8 99 from rfl]
 refine e_opN v_eql .nil ?_
 rw [decide_eq_true (by decide)]
 (refine e_opN v_pickT .nil ?_)
 (first | refine e_ret (()) rfl ?_ | refine e_retT (()) ?_)
 (repeat (first | exact .refl | exact .nil | (apply Imp.pick; (focus ((repeat constructor); done))) | refine .drop ?_))
end Go.Proofs.Ythoeeahdkdcceaa.IF
namespace Go.Proofs.Ythoeeahdkdcceaa.IF
open Go Go.Proofs Go.RowKit Sh Sl T HM HF B M
theorem sl_nn {a : Option Addr} {n : Nat} (h : 0 < n → ∃ g, a = some ⟨g, 0, none⟩) : a = none → n = 0 := fun c => by
 rcases Nat.eq_zero_or_pos n with z | z
 ·exact z
 ·obtain ⟨_, e⟩ := h z; rw [c] at e; cases e
end Go.Proofs.Ythoeeahdkdcceaa.IF
namespace Go.Proofs.Ythoeeahdkdcceaa.IF
open Go Go.Proofs Go.RowKit Sh Sl T HM HF B M
abbrev Bs := List UInt8 × (Option Addr × Nat)
def bsV (x : Bs) : Value := .slice x.2.1 x.1.length x.2.2
structure BsOk (W : World) (x : Bs) : Prop where
 c : x.1.length ≤ x.2.2
 n : x.2.1 = none → x.1.length = 0
 r : ∀ A, RdB W A x.2.1 x.1.length (x.1.map Sl.B)
theorem bs_src {P : Program} {W : World} {t e : TypeId} {a : Option Addr} {cap : Nat} {b : List UInt8} (hk : P.underlying t = some (.slice e)) (hr : ∀ A, RdB W A a b.length (b.map Sl.B)) (ha : a = none → b.length = 0) :
  ∀ L w, sat W L w → Src P 1 t (.slice a b.length cap) b.length (b.map Sl.B) w := fun L w hw =>
 src_rd (L := pu True :: L) (L' := L) (A := pu True) hk .here (hr _) ha B_one w ((Imp.pu trivial .refl).sat hw)
end Go.Proofs.Ythoeeahdkdcceaa.IF
namespace Go.Proofs.Ythoeeahdkdcceaa.IF
open Go Go.Proofs Go.RowKit Sh Sl T HM HF B M
theorem fluB_len {w : List UInt8} {level : Int} (h0 : 0 ≤ level) (hw : w.length ≤ 524288) : (fluB w level).length ≤ 1000000 := by
 unfold fluB
 split
 ·simp
 ·have h1 := puts0_bnd (b := w) (level := level) h0 hw (blksF w level).length
  rw [List.take_length] at h1
  rw [length_pk]
  unfold fluX
  rw [stoX_len]
  simp only [List.length_append, length_bitsOf, List.length_nil]
  omega
theorem sum_mem {α : Type} {m : α → Nat} : ∀ {l : List α} {x : α}, x ∈ l → m x ≤ (l.map m).sum
 | y :: l, x, h => by
  rw [List.map_cons, List.sum_cons]
  rcases List.mem_cons.1 h with rfl | h
  ·omega
  ·have := sum_mem (m := m) h; omega
theorem sum_len {α : Type} {m : α → Nat} (hm : ∀ x, 1 ≤ m x) : ∀ (l : List α), l.length ≤ (l.map m).sum
 | [] => Nat.le_refl _
 | y :: l => by
  have := sum_len hm l
  have := hm y
  rw [List.map_cons, List.sum_cons, List.length_cons]; omega
theorem open_bsl {P : Program} {H : Type} {enc : TypeId × Value → H} {W : World} {t e f : TypeId} {sp : Nat → Bool} {held : Bool} {v : Value} {d : DataW H} {ps : List MemPlace} {r : Reach} {b0 : Nat} (ht : P.underlying t = some (.slice e)) (hc : P.cellsOf e = 1) (he : P.underlying e = some (.slice f)) (hf : P.cellsOf f = 1) (hg : P.underlying f = some (.int .u8)) (hval : Value.okWide P W r b0 t v) (hd : DataW.Trod enc P W 0 sp held t v d ps) :
  ∃ (a : Option Addr) (c : Nat) (l : List Bs), v = .slice a l.length c ∧ (∀ A, RdB W A a l.length (l.map bsV)) ∧ (∀ x ∈ l, BsOk W x) ∧ (∀ x ∈ l, x.1.length ≤ Rows.uptoBulk d) ∧ l.length ≤ Rows.uptoBulk d := by
 obtain ⟨fuel, hfu⟩ := open_slice (e := e) ht hval hd
 obtain ⟨a, n, c, l, e1, g1, g2, g3, g4, g5⟩ := open_old (rd := fun (x : Bs) cs => cs = [bsV x] ∧ BsOk W x) (m := fun x => x.1.length + 1) ht hc (by omega) (fun n cs x hx => by
  obtain ⟨a, cap, b, rfl, h1, h2, h3, h4, h5⟩ := open_bytes he hf hg hx
  exact ⟨(b, (a, cap)), ⟨rfl, ⟨h1, h3, h4⟩⟩, h5⟩) hfu
 have hl := g4.len
 subst hl
 refine ⟨a, c, l, by injection e1, fun A => ⟨by simp, fun hn => ?_⟩, fun x hx => ?_, fun x hx => ?_, ?_⟩
 ·obtain ⟨g, o, rfl, hg, hcc⟩ := g4.at_ hn
  refine ⟨g, o, rfl, fun w L hw j v hv => ?_⟩
  rw [List.getElem?_map] at hv
  have hj : j < l.length := by
   rcases Nat.lt_or_ge j l.length with c | c
   ·exact c
   ·rw [List.getElem?_eq_none c] at hv; cases hv
  obtain ⟨cs, h1, ⟨h2, _⟩, h3⟩ := hcc j hj
  rw [h2] at h3
  have := h3 0 (bsV l[j]) rfl
  rw [List.getElem?_eq_getElem hj] at hv
  have hv' : bsV l[j] = v := Option.some.inj hv
  rw [hw.base.cell (p := ⟨g, o + j, none⟩) hg, ← hv']
  simpa using this
 ·obtain ⟨i, hi, rfl⟩ := List.mem_iff_getElem.1 hx
  obtain ⟨g, o, rfl, hg, hcc⟩ := g4.at_ (by omega)
  obtain ⟨cs, h1, ⟨_, h2⟩, h3⟩ := hcc i hi
  exact h2
 ·have := sum_mem (m := fun x : Bs => x.1.length + 1) hx
  simp only at this g5
  omega
 ·have := sum_len (m := fun x : Bs => x.1.length + 1) (fun _ => by simp) l
  simp only at this g5
  omega
def wsI (l : List Bs) (i : Nat) : List (List UInt8) := (l.take i).map Prod.fst
theorem wsI_succ {l : List Bs} {i : Nat} (h : i < l.length) : wsI l (i + 1) = wsI l i ++ [l[i].1] := by
 unfold wsI
 rw [List.take_succ_eq_append_getElem h, List.map_append]; rfl
theorem deflateFlushed {W : World} {level : Int} {a : Option Addr} {c : Nat} {l : List Bs} (hr : ∀ A, RdB W A a l.length (l.map bsV)) (hx : ∀ x ∈ l, BsOk W x) (hlen : ∀ x ∈ l, x.1.length ≤ 1048576) (hll : l.length ≤ 1048576) :
  Cn Try.prog 8 [.int .i64 level, .slice a l.length c] W [] (fun _ : Unit => .bool true) (fun _ => []) := by
 (refine S.law06_DeflateFlushed_cn fun F => ?_; unfold S.law06_DeflateFlushed; simp only [ca_, na_])
 (refine' e_call (newStream (n := level)) ?hp fun _ => ?_; (case hp => (repeat (first | exact Picks.nil | (apply Picks.cons; (focus repeat constructor))))); (try simp only [ca_, na_, Bool.not_true, Bool.not_false]))
 rename_i p
 by_cases hw : level < 0 ∨ 9 < level
 ·simp only [if_pos hw]
  (((refine' e_opN (v_extN ?hc) .nil ?_); (case hc => (repeat (first | exact Nth.here | apply Nth.there))))); (((refine' e_opN (v_extN ?hc) .nil ?_); (case hc => (repeat (first | exact Nth.here | apply Nth.there)))))
  (refine' e_call (num6) ?hp fun _ => ?_; (case hp => (repeat (first | exact Picks.nil | (apply Picks.cons; (focus repeat constructor))))); (try simp only [ca_, na_, Bool.not_true, Bool.not_false]))
  refine e_opN v_neq .nil ?_
  rw [decide_eq_true (by decide)]
  (refine e_gdF1 ?_); (refine e_gdF1 ?_); (refine e_opN v_pickT .nil ?_); (refine e_gdF1 ?_); (refine e_gdF1 ?_); (refine e_opN v_pickT .nil ?_); (refine e_condT ?_)
  (refine' e_call (num6) ?hp fun _ => ?_; (case hp => (repeat (first | exact Picks.nil | (apply Picks.cons; (focus repeat constructor))))); (try simp only [ca_, na_, Bool.not_true, Bool.not_false]))
  refine e_opN v_eql .nil ?_
  rw [decide_eq_false (by decide)]
  (refine e_opN v_neNil0 .nil ?_)
  refine e_opN (v_beqlG (by kernel_rfl)) .nil ?_
  rw [decide_eq_true (by decide)]
  (refine e_gdT ?_)
  (refine' e_call (knows6) ?hp fun _ => ?_; (case hp => (repeat (first | exact Picks.nil | (apply Picks.cons; (focus repeat constructor))))); (try simp only [ca_, na_, Bool.not_true, Bool.not_false]))
  (refine e_opN v_pickT .nil ?_)
  (first | refine e_ret (()) rfl ?_ | refine e_retT (()) ?_)
  (repeat (first | exact .refl | exact .nil | (apply Imp.pick; (focus ((repeat constructor); done))) | refine .drop ?_))
 simp only [if_neg hw]
 have hlv : 0 ≤ level := by omega
 have hE0 : dflE [] level = 0 := by unfold dflE; rw [if_neg hw, if_neg (by decide)]
 have hs0 : (dflB [] level).length ≤ 11 := by
  have := dfl_small hE0
  simp at this
  exact this
 (((refine' e_opN (v_extN ?hc) .nil ?_); (case hc => (repeat (first | exact Nth.here | apply Nth.there))))); (((refine' e_opN (v_extN ?hc) .nil ?_); (case hc => (repeat (first | exact Nth.here | apply Nth.there)))))
 (refine' e_call (num6) ?hp fun _ => ?_; (case hp => (repeat (first | exact Picks.nil | (apply Picks.cons; (focus repeat constructor))))); (try simp only [ca_, na_, Bool.not_true, Bool.not_false]))
 refine e_opN v_neq .nil ?_
 rw [decide_eq_false (by decide)]
 (refine e_gdT ?_); (refine e_gdT ?_); (refine e_opN v_eqNil1 .nil ?_); (refine e_opN v_pickF .nil ?_); (refine e_gdT ?_)
 (refine' e_call (knows6) ?hp fun _ => ?_; (case hp => (repeat (first | exact Picks.nil | (apply Picks.cons; (focus repeat constructor))))); (try simp only [ca_, na_, Bool.not_true, Bool.not_false]))
 (refine e_gdT ?_); (refine e_opN v_notT .nil ?_); (refine e_opN v_pickF .nil ?_); (refine e_condF ?_)
 refine e_cut2 (fun y z => (ex fun st : ((Option Addr × Nat) × (Option Addr × Nat)) × Nat => all [pu (y = .slice st.1.1.1 (wsI l st.2).flatten.length st.1.1.2 ∧ z = .slice st.1.2.1 (outF level (wsI l st.2)).length st.1.2.2 ∧ (outF level (wsI l st.2)).length ≤ 524288 ∧ (wsI l st.2).flatten.length ≤ 524288), Sl 1 5 st.1.1.1 st.1.1.2 (wsI l st.2).flatten.length ((wsI l st.2).flatten.map Sl.B), Sl 1 5 st.1.2.1 st.1.2.2 (outF level (wsI l st.2)).length ((outF level (wsI l st.2)).map Sl.B), IsSt p ⟨level, [], (wsI l st.2).flatten.length, false⟩]) :: F) ?_ ?_
 rotate_left
 ·refine e_loop3 (fun m y z u => (ex fun st : ((Option Addr × Nat) × (Option Addr × Nat)) × Nat => all [pu (m + st.2 = l.length ∧ u = .int .i64 (st.2 : Int) ∧ y = .slice st.1.1.1 (wsI l st.2).flatten.length st.1.1.2 ∧ z = .slice st.1.2.1 (outF level (wsI l st.2)).length st.1.2.2 ∧ (outF level (wsI l st.2)).length ≤ 524288 ∧ (wsI l st.2).flatten.length ≤ 524288), Sl 1 5 st.1.1.1 st.1.1.2 (wsI l st.2).flatten.length ((wsI l st.2).flatten.map Sl.B), Sl 1 5 st.1.2.1 st.1.2.2 (outF level (wsI l st.2)).length ((outF level (wsI l st.2)).map Sl.B), IsSt p ⟨level, [], (wsI l st.2).flatten.length, false⟩]) :: F) l.length ?_ ?_
  ·refine .ex (((none, 0), (none, 0)), 0) (.all ?_)
   (try simp only [ca_, na_, -eq_self])
   refine .pu ⟨by omega, rfl, rfl, rfl, by simp [wsI, outF], by simp [wsI]⟩ ?_
   exact imp_nil (imp_nil (by (repeat (first | exact .refl | exact .nil | (apply Imp.pick; (focus ((repeat constructor); done))) | refine .drop ?_))))
  intro m ds y z u
  refine e_ex .here fun st => e_all .here ?_
  obtain ⟨⟨⟨qa, qc⟩, ⟨oa, oc⟩⟩, i⟩ := st
  (try simp only [ca_, na_, -eq_self])
  refine e_pu .here fun hi => ?_
  (try dsimp only at hi)
  obtain ⟨hmi, rfl, rfl, rfl, ho5, hf5⟩ := hi
  (try dsimp only)
  obtain ⟨Fl, hFl⟩ : ∃ Fl, Fl = (wsI l i).flatten := ⟨_, rfl⟩
  obtain ⟨Ou, hOu⟩ : ∃ Ou, Ou = outF level (wsI l i) := ⟨_, rfl⟩
  rw [← hFl] at hf5 ⊢
  rw [← hOu] at ho5 ⊢
  refine e_opN v_len .nil ?_
  refine e_opN v_lss .nil ?_
  by_cases hlt : (i : Int) < (l.length : Int)
  rotate_left
  ·rw [decide_eq_false hlt]
   (refine e_condF ?_)
   refine e_sat (.ex (((qa, qc), (oa, oc)), i) (.all ?_))
   (try simp only [ca_, na_, -eq_self])
   rw [← hFl, ← hOu]
   refine .pu ⟨rfl, rfl, ho5, hf5⟩ ?_
   (repeat (first | exact .refl | exact .nil | (apply Imp.pick; (focus ((repeat constructor); done))) | refine .drop ?_))
  rw [decide_eq_true hlt]
  have hil : i < l.length := by omega
  have hsu := wsI_succ hil
  have hok := hx _ (List.getElem_mem hil)
  have hbl := hlen _ (List.getElem_mem hil)
  obtain ⟨g0, o0, ha0, _⟩ := (hr (pu True)).at_ (show 0 < l.length by omega)
  have hra := hr (pu True)
  rw [ha0] at hra ⊢
  have hld : (l.map bsV)[i]? = some (bsV l[i]) := by rw [List.getElem?_map, List.getElem?_eq_getElem hil]; rfl
  obtain ⟨⟨b, ⟨ba, bc⟩⟩, hb⟩ : ∃ b, b = l[i] := ⟨_, rfl⟩
  rw [← hb] at hsu hok hld hbl
  unfold bsV at hld
  (try dsimp only at hsu hok hld hbl)
  have hrb := hok.r
  have hnb := hok.n
  (try dsimp only at hrb hnb)
  (refine e_condT ?_)
  refine e_bsl0 fun gb => ?_
  refine e_opN (v_ia1 i rfl hil) .nil ?_
  refine e_opN (v_ldRd hra hld) (.pu trivial .nil) ?_
  refine e_app (m := b.length) (news := b.map Sl.B) .here (bs_src (e := 5) (by kernel_rfl) hrb hnb _) (by omega) (by omega) fun a1 c1 => ?_
  rw [Nat.zero_add, List.nil_append]
  refine e_slfacts .here fun _ f2 f3 f4 => ?_
  have hr1 : RdB W (Sl 1 5 a1 c1 b.length (b.map Sl.B)) a1 b.length (b.map Sl.B) := rd_sl (by rw [List.length_map]) f4
  refine e_call (write (p := p) (S := ⟨level, [], Fl.length, false⟩) (c := c1) (b := b) hr1) (.cons (by repeat constructor) (.cons (by repeat constructor) .nil)) fun _ => ?_
  (try simp only [ca_, na_, -eq_self])
  (refine' e_call (num6) ?hp fun _ => ?_; (case hp => (repeat (first | exact Picks.nil | (apply Picks.cons; (focus repeat constructor))))); (try simp only [ca_, na_, Bool.not_true, Bool.not_false]))
  refine e_opN v_neq .nil ?_
  have hwE : wrE ⟨level, [], Fl.length, false⟩ b = if 524288 - Fl.length < b.length then 6 else 0 := rfl
  by_cases hbig : 524288 - Fl.length < b.length
  ·rw [if_pos hbig] at hwE
   have hwS : wrS ⟨level, [], Fl.length, false⟩ b = ⟨level, [], Fl.length, false⟩ := by unfold wrS; rw [if_neg (by rw [hwE]; decide)]
   rw [hwE, hwS, decide_eq_true (by decide)]
   (refine e_condT ?_)
   refine e_sat (.ex (((qa, qc), (oa, oc)), i) (.all ?_))
   (try simp only [ca_, na_, -eq_self])
   rw [← hFl, ← hOu]
   refine .pu ⟨rfl, rfl, ho5, hf5⟩ ?_
   (repeat (first | exact .refl | exact .nil | (apply Imp.pick; (focus ((repeat constructor); done))) | refine .drop ?_))
  rw [if_neg hbig] at hwE
  have hwS : wrS ⟨level, [], Fl.length, false⟩ b = ⟨level, b, Fl.length + b.length, false⟩ := by unfold wrS; rw [if_pos hwE]; rfl
  rw [hwE, hwS, decide_eq_false (by decide)]
  (refine e_condF ?_)
  refine e_opN (v_ia1 i rfl hil) .nil ?_
  refine e_opN (v_ldRd hra hld) (.pu trivial .nil) ?_
  refine e_app (m := b.length) (news := b.map Sl.B) (by (repeat constructor) : Pick _ (Sl 1 5 qa qc Fl.length (Fl.map Sl.B)) _) (bs_src (e := 5) (by kernel_rfl) hrb hnb _) (by omega) (by omega) fun a2 c2 => ?_
  rw [← List.map_append, ← List.length_append]
  obtain ⟨Fl2, hFl2⟩ : ∃ Fl2, Fl2 = Fl ++ b := ⟨_, rfl⟩
  have hF2l : Fl.length + b.length = Fl2.length := by rw [hFl2, List.length_append]
  rw [← hFl2]
  have hFB := flush (W := W) (p := p) (S := ⟨level, b, Fl2.length, false⟩)
  rw [show flO ⟨level, b, Fl2.length, false⟩ = fluB b level from rfl, show flS ⟨level, b, Fl2.length, false⟩ = ⟨level, [], Fl2.length, false⟩ from rfl, show opE ⟨level, b, Fl2.length, false⟩ = 0 from rfl] at hFB
  (refine' e_call (hFB) ?hp fun _ => ?_; (case hp => (repeat (first | exact Picks.nil | (apply Picks.cons; (focus repeat constructor))))); (try simp only [ca_, na_, Bool.not_true, Bool.not_false]))
  rename_i q
  obtain ⟨fa, fc⟩ := q
  (try dsimp only)
  (((refine' e_opN (v_extN ?hc) .nil ?_); (case hc => (repeat (first | exact Nth.here | apply Nth.there))))); (((refine' e_opN (v_extN ?hc) .nil ?_); (case hc => (repeat (first | exact Nth.here | apply Nth.there)))))
  (refine' e_call (num6) ?hp fun _ => ?_; (case hp => (repeat (first | exact Picks.nil | (apply Picks.cons; (focus repeat constructor))))); (try simp only [ca_, na_, Bool.not_true, Bool.not_false]))
  refine e_opN v_neq .nil ?_
  rw [decide_eq_false (by decide)]
  have hfbl := fluB_len (w := b) hlv (by omega)
  obtain ⟨Q, hQ⟩ : ∃ Q, Q = fluB b level := ⟨_, rfl⟩
  rw [← hQ] at hfbl ⊢
  (refine e_condF ?_)
  refine e_slfacts .here fun _ g2 g3 g4 => ?_
  have hr2 : RdB W (Sl 1 5 fa fc Q.length (Q.map Sl.B)) fa Q.length (Q.map Sl.B) := rd_sl (by rw [List.length_map]) g4
  refine e_app (m := Q.length) (news := Q.map Sl.B) (by (repeat constructor) : Pick _ (Sl 1 5 oa oc Ou.length (Ou.map Sl.B)) _) (src_rd (A := Sl 1 5 fa fc Q.length (Q.map Sl.B)) (e' := 5) (by kernel_rfl) (by repeat constructor) hr2 (sl_nn g4) B_one) (by omega) (by omega) fun a3 c3 => ?_
  rw [← List.map_append, ← List.length_append]
  obtain ⟨Ou2, hOu2⟩ : ∃ Ou2, Ou2 = Ou ++ Q := ⟨_, rfl⟩
  have hO2 : Ou2 = outF level (wsI l (i + 1)) := by rw [hOu2, hsu, outF_snoc, hOu, hQ]
  have hF2 : Fl2 = (wsI l (i + 1)).flatten := by rw [hFl2, hsu, List.flatten_append, hFl]; simp
  rw [← hOu2]
  (refine e_opN v_len .nil ?_)
  refine e_opN v_gtr .nil ?_
  by_cases ho : (524288 : Int) < (Ou2.length : Int)
  ·rw [decide_eq_true ho]
   (refine e_condT ?_)
   (refine' e_call (knows6) ?hp fun _ => ?_; (case hp => (repeat (first | exact Picks.nil | (apply Picks.cons; (focus repeat constructor))))); (try simp only [ca_, na_, Bool.not_true, Bool.not_false]))
   (first | refine e_ret (()) rfl ?_ | refine e_retT (()) ?_)
   (repeat (first | exact .refl | exact .nil | (apply Imp.pick; (focus ((repeat constructor); done))) | refine .drop ?_))
  rw [decide_eq_false ho]
  (refine e_condF ?_)
  refine e_slfacts (.here) fun _ k2 k3 k4 => ?_
  have hr3 : RdB W (Sl 1 5 a3 c3 Ou2.length (Ou2.map Sl.B)) a3 Ou2.length (Ou2.map Sl.B) := rd_sl (by rw [List.length_map]) k4
  refine e_bsl0 fun gc => ?_
  refine e_app (m := Ou2.length) (news := Ou2.map Sl.B) .here (src_rd (A := Sl 1 5 a3 c3 Ou2.length (Ou2.map Sl.B)) (e' := 5) (by kernel_rfl) (by repeat constructor) hr3 (sl_nn k4) B_one) (by omega) (by omega) fun a4 c4 => ?_
  rw [Nat.zero_add, List.nil_append]
  refine e_bslN (vs := ([3, 0] : List UInt8).map Sl.B) rfl rfl (by intro v hv; obtain ⟨c, _, rfl⟩ := List.mem_map.1 hv; rfl) (by omega) fun gd => ?_
  refine e_app (m := 2) (news := ([3, 0] : List UInt8).map Sl.B) (.there .here) (src_pt (s := 1) (e' := 5) (by kernel_rfl) .here (by rfl) (by intro u hu; simp at hu; rcases hu with rfl | rfl <;> rfl)) (by omega) (by omega) fun a5 c5 => ?_
  rw [← List.map_append, show Ou2.length + 2 = (Ou2 ++ [3, 0]).length by simp]
  obtain ⟨e1, e2⟩ := flush_back (level := level) hlv (ws := wsI l (i + 1)) (by rw [← hF2]; omega) (by rw [← hO2]; omega)
  rw [← hO2] at e1 e2
  rw [← hF2] at e2
  refine e_slfacts .here fun _ l2 l3 l4 => ?_
  have hI := inflate (W := W) (cap := c5) (b := Ou2 ++ [3, 0]) (most := 1048576) (A := Sl 1 5 a5 c5 (Ou2 ++ [3, 0]).length ((Ou2 ++ [3, 0]).map Sl.B)) (rd_sl (by rw [List.length_map]) l4) (sl_nn l4) (by rw [List.length_append]; simp only [List.length_cons, List.length_nil]; omega)
  rw [e1, e2] at hI
  (refine' e_call (hI) ?hp fun _ => ?_; (case hp => (repeat (first | exact Picks.nil | (apply Picks.cons; (focus repeat constructor))))); (try simp only [ca_, na_, Bool.not_true, Bool.not_false]))
  rename_i q2
  obtain ⟨ia, ic⟩ := q2
  (try dsimp only)
  (((refine' e_opN (v_extN ?hc) .nil ?_); (case hc => (repeat (first | exact Nth.here | apply Nth.there))))); (((refine' e_opN (v_extN ?hc) .nil ?_); (case hc => (repeat (first | exact Nth.here | apply Nth.there))))); (((refine' e_opN (v_extN ?hc) .nil ?_); (case hc => (repeat (first | exact Nth.here | apply Nth.there)))))
  (refine' e_call (num6) ?hp fun _ => ?_; (case hp => (repeat (first | exact Picks.nil | (apply Picks.cons; (focus repeat constructor))))); (try simp only [ca_, na_, Bool.not_true, Bool.not_false]))
  refine e_opN v_neq .nil ?_
  rw [decide_eq_false (by decide)]
  (refine e_gdT ?_); (refine e_gdT ?_)
  refine e_slfacts .here fun _ m2 m3 m4 => ?_
  refine e_opN (v_str (l := Fl2) (rd_sl (by rw [List.length_map]) m4) (sl_nn m4)) (.pick (by repeat constructor) .nil) ?_
  (refine e_gdT ?_); (refine e_gdT ?_)
  refine e_slfacts (by (repeat constructor) : Pick _ (Sl 1 5 a2 c2 Fl2.length (Fl2.map Sl.B)) _) fun _ r2 r3 r4 => ?_
  refine e_opN (v_str (l := Fl2) (rd_sl (e := 5) (cap := c2) (by rw [List.length_map]) r4) (sl_nn r4)) (.pick (by repeat constructor) .nil) ?_
  (refine e_gdT ?_)
  refine e_opN v_strne .nil ?_
  rw [decide_eq_false (fun h => h rfl)]
  (refine e_opN v_pickF .nil ?_); (refine e_condF ?_); (((refine e_opN (v_add ?h1 ?h2) .nil ?_); (case h1 => omega); (case h2 => omega)))
  refine e_next3 (m - 1) (by omega) (.ex (((a2, c2), (a3, c3)), i + 1) (.all ?_))
  (try simp only [ca_, na_, -eq_self])
  rw [← hF2, ← hO2]
  refine .pu ⟨by omega, by norm_cast, rfl, rfl, by omega, by omega⟩ ?_
  (repeat (first | exact .refl | exact .nil | (apply Imp.pick; (focus ((repeat constructor); done))) | refine .drop ?_))
 intro ds y z
 refine e_ex .here fun st => e_all .here ?_
 obtain ⟨⟨⟨qa, qc⟩, ⟨oa, oc⟩⟩, i⟩ := st
 (try simp only [ca_, na_, -eq_self])
 refine e_pu .here fun hi => ?_
 (try dsimp only at hi)
 obtain ⟨rfl, rfl, ho5, hf5⟩ := hi
 (try dsimp only)
 have hCB := close (W := W) (p := p) (S := ⟨level, [], (wsI l i).flatten.length, false⟩)
 rw [show clO ⟨level, [], (wsI l i).flatten.length, false⟩ = dflB [] level from rfl, show clE ⟨level, [], (wsI l i).flatten.length, false⟩ = dflE [] level from rfl, hE0, show clS ⟨level, [], (wsI l i).flatten.length, false⟩ = ⟨level, [], (wsI l i).flatten.length, true⟩ from rfl] at hCB
 have hSB := stream_back (ws := wsI l i) hE0 (by simp only [List.length_nil]; omega) (by rw [List.length_append]; omega)
 rw [List.append_nil] at hSB
 obtain ⟨e1, e2, e3⟩ := hSB
 obtain ⟨Fl, hFl⟩ : ∃ Fl, Fl = (wsI l i).flatten := ⟨_, rfl⟩
 obtain ⟨Ou, hOu⟩ : ∃ Ou, Ou = outF level (wsI l i) := ⟨_, rfl⟩
 obtain ⟨Q, hQ⟩ : ∃ Q, Q = dflB [] level := ⟨_, rfl⟩
 rw [← hFl] at hf5 hCB e2 ⊢
 rw [← hOu] at ho5 e1 e2 e3 ⊢
 rw [← hQ] at hCB e1 e2 e3 hs0
 (refine' e_call (hCB) ?hp fun _ => ?_; (case hp => (repeat (first | exact Picks.nil | (apply Picks.cons; (focus repeat constructor))))); (try simp only [ca_, na_, Bool.not_true, Bool.not_false]))
 rename_i q
 obtain ⟨fa, fc⟩ := q
 (try dsimp only)
 (((refine' e_opN (v_extN ?hc) .nil ?_); (case hc => (repeat (first | exact Nth.here | apply Nth.there))))); (((refine' e_opN (v_extN ?hc) .nil ?_); (case hc => (repeat (first | exact Nth.here | apply Nth.there)))))
 refine e_slfacts .here fun _ g2 g3 g4 => ?_
 have hr2 : RdB W (Sl 1 5 fa fc Q.length (Q.map Sl.B)) fa Q.length (Q.map Sl.B) := rd_sl (by rw [List.length_map]) g4
 refine e_app (m := Q.length) (news := Q.map Sl.B) (by (repeat constructor) : Pick _ (Sl 1 5 oa oc Ou.length (Ou.map Sl.B)) _) (src_rd (A := Sl 1 5 fa fc Q.length (Q.map Sl.B)) (e' := 5) (by kernel_rfl) (by repeat constructor) hr2 (sl_nn g4) B_one) (by omega) (by omega) fun a3 c3 => ?_
 rw [← List.map_append, ← List.length_append]
 have hOl : (Ou ++ Q).length ≤ 1048576 := by rw [List.length_append]; omega
 obtain ⟨R, hR⟩ : ∃ R, R = Ou ++ Q := ⟨_, rfl⟩
 rw [← hR] at e1 e2 e3 hOl ⊢
 (refine e_opN v_len .nil ?_)
 refine e_opN v_gtr .nil ?_
 rw [decide_eq_false (by omega)]
 (refine e_condF ?_)
 refine e_slfacts .here fun _ l2 l3 l4 => ?_
 have hI := inflate (W := W) (cap := c3) (b := R) (most := 1048576) (A := Sl 1 5 a3 c3 R.length (R.map Sl.B)) (rd_sl (by rw [List.length_map]) l4) (sl_nn l4) (by omega)
 rw [e1, e2, e3] at hI
 (refine' e_call (hI) ?hp fun _ => ?_; (case hp => (repeat (first | exact Picks.nil | (apply Picks.cons; (focus repeat constructor))))); (try simp only [ca_, na_, Bool.not_true, Bool.not_false]))
 rename_i q2
 obtain ⟨ia, ic⟩ := q2
 (try dsimp only)
 (((refine' e_opN (v_extN ?hc) .nil ?_); (case hc => (repeat (first | exact Nth.here | apply Nth.there))))); (((refine' e_opN (v_extN ?hc) .nil ?_); (case hc => (repeat (first | exact Nth.here | apply Nth.there))))); (((refine' e_opN (v_extN ?hc) .nil ?_); (case hc => (repeat (first | exact Nth.here | apply Nth.there)))))
 have hC2 := close (W := W) (p := p) (S := ⟨level, [], Fl.length, true⟩)
 rw [show clO ⟨level, [], Fl.length, true⟩ = [] from rfl, show clE ⟨level, [], Fl.length, true⟩ = 64 from rfl] at hC2
 (refine' e_call (hC2) ?hp fun _ => ?_; (case hp => (repeat (first | exact Picks.nil | (apply Picks.cons; (focus repeat constructor))))); (try simp only [ca_, na_, Bool.not_true, Bool.not_false]))
 rename_i q3
 obtain ⟨ca, cc⟩ := q3
 (try dsimp only)
 (((refine' e_opN (v_extN ?hc) .nil ?_); (case hc => (repeat (first | exact Nth.here | apply Nth.there))))); (((refine' e_opN (v_extN ?hc) .nil ?_); (case hc => (repeat (first | exact Nth.here | apply Nth.there)))))
 (refine' e_call (num6) ?hp fun _ => ?_; (case hp => (repeat (first | exact Picks.nil | (apply Picks.cons; (focus repeat constructor))))); (try simp only [ca_, na_, Bool.not_true, Bool.not_false]))
 (refine' e_call (num6) ?hp fun _ => ?_; (case hp => (repeat (first | exact Picks.nil | (apply Picks.cons; (focus repeat constructor))))); (try simp only [ca_, na_, Bool.not_true, Bool.not_false]))
 (((refine e_opN (v_add ?h1 ?h2) .nil ?_); (case h1 => omega); (case h2 => omega)))
 refine e_opN v_eql .nil ?_
 rw [decide_eq_true (by decide)]
 (refine e_gdT ?_); (refine e_gdT ?_)
 refine e_slfacts (by (repeat constructor) : Pick _ (Sl 1 5 ia ic Fl.length (Fl.map Sl.B)) _) fun _ m2 m3 m4 => ?_
 refine e_opN (v_str (l := Fl) (rd_sl (e := 5) (cap := ic) (by rw [List.length_map]) m4) (sl_nn m4)) (.pick (by repeat constructor) .nil) ?_
 (refine e_gdT ?_); (refine e_gdT ?_)
 refine e_slfacts (by (repeat constructor) : Pick _ (Sl 1 5 qa qc Fl.length (Fl.map Sl.B)) _) fun _ r2 r3 r4 => ?_
 refine e_opN (v_str (l := Fl) (rd_sl (e := 5) (cap := qc) (by rw [List.length_map]) r4) (sl_nn r4)) (.pick (by repeat constructor) .nil) ?_
 (refine e_gdT ?_)
 refine e_opN v_streq .nil ?_
 rw [decide_eq_true rfl]
 (refine e_opN v_pickT .nil ?_); (refine e_gdT ?_); (refine e_gdT ?_); (refine e_gdT ?_); (refine e_opN v_len .nil ?_); (refine e_gdT ?_)
 refine e_opN v_eql .nil ?_
 rw [decide_eq_true rfl]
 (refine e_opN v_pickT .nil ?_); (refine e_gdT ?_); (refine e_gdT ?_)
 (refine' e_call (num6) ?hp fun _ => ?_; (case hp => (repeat (first | exact Picks.nil | (apply Picks.cons; (focus repeat constructor))))); (try simp only [ca_, na_, Bool.not_true, Bool.not_false]))
 (refine e_gdT ?_)
 refine e_opN v_eql .nil ?_
 rw [decide_eq_true (by decide)]
 (refine e_opN v_pickT .nil ?_)
 (first | refine e_ret (()) rfl ?_ | refine e_retT (()) ?_)
 (repeat (first | exact .refl | exact .nil | (apply Imp.pick; (focus ((repeat constructor); done))) | refine .drop ?_))
end Go.Proofs.Ythoeeahdkdcceaa.IF
