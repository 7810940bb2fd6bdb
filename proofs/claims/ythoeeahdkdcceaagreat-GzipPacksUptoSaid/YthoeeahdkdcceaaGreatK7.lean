/- A block, put in the way that takes the fewest bits. No conditions but those that each names. (21 texts made one; each says below what it is.) -/
import Derived.Test.YthoeeahdkdcceaaGreatK6
set_option linter.unusedVariables false
set_option linter.unusedSimpArgs false
set_option linter.unusedSectionVars false
namespace Go.Proofs.YthoeeahdkdcceaaGreat.IF
open Go Go.Proofs Go.RowKit Sh Sl T HM HF B M
theorem rd_none_ {W : World} {a : Option Addr} {n : Nat} {cs : List Value} {A : HP} (h : RdB W A a n cs) (c : a = none) : n = 0 := by
 rcases Nat.eq_zero_or_pos n with z | z
 ·exact z
 ·obtain ⟨_, _, e, _⟩ := h.at_ z
  rw [c] at e; cases e
structure goodB (x : Blk) : Prop where
 g : ∀ p ∈ x.1, goodP p
 pn : x.1.length <= 30000
 bn : x.2.length <= 30258
theorem okBk.good {b : List UInt8} {fr : Nat} {x : Blk} (h : okBk b fr x) : goodB x := ⟨gPs_good h.gps, h.pn, h.bn⟩
variable {W : World} {AL AB : HP} {x : Blk} {v : Bv} {level : Int}
theorem dstored {w : Nat} {M : List Bool} (hx : BkOk W AL AB (x, v)) (hb : x.2.length <= 65535) (hM : M.length + 100 + 8 * x.2.length <= 8388608) :
  Cn p_ 52 [bvV level (x, v), .pointer (some ⟨w, 0, none⟩)] W [IsW w M, AB] (fun _ : Unit => .tuple #[]) (fun _ => [IsW w (stoX M x), AB]) := by
 have hl := length_pad M
 have hp : (pk (padTo8 M ++ bitsOf x.2.length 16 ++ bitsOf (65535 - x.2.length) 16)).length <= (M.length + 7) / 8 + 4 := by
  rw [length_pk]; simp only [List.length_append, length_bitsOf]; omega
 have h8 : (padTo8 M ++ bitsOf x.2.length 16 ++ bitsOf (65535 - x.2.length) 16).length % 8 = 0 := by
  simp only [List.length_append, length_bitsOf]; omega
 have hr : rawL (padTo8 M ++ bitsOf x.2.length 16 ++ bitsOf (65535 - x.2.length) 16) x.2 = stoX M x := by
  unfold rawL rawR
  rw [if_neg (show ¬ 1048576 < _ by omega), if_pos rfl]
  unfold stoX
  congr 1
  unfold padTo8 at h8 ⊢
  rw [h8]
  simp
 obtain ⟨⟨la, lc⟩, ⟨ba, bc⟩⟩ := v
 unfold bvV
 (try dsimp only)
 (refine S.deflate_block_stored_cn fun F => ?_; unfold S.deflate_block_stored; simp only [ca_, na_])
 refine e_boxA fun b2 => ?_
 (refine' e_call (align (l := M)) ?hp fun _ => ?_; (case hp => (repeat (first | exact Picks.nil | (apply Picks.cons; (focus repeat constructor))))); (try simp only [ca_, na_, Bool.not_true, Bool.not_false]))
 refine e_opN v_fa0 .nil ?_; (((refine' e_opN (v_ldN ?hc) ?hi ?_); (case hi => exact .pick (by repeat constructor) .nil); (case hc => repeat constructor))); refine e_opN v_len .nil ?_
 (refine' e_call (put (l := padTo8 M) (n := (x.2.length : Int)) (k := 16)) ?hp fun _ => ?_; (case hp => (repeat (first | exact Picks.nil | (apply Picks.cons; (focus repeat constructor))))); (try simp only [ca_, na_, Bool.not_true, Bool.not_false]))
 rw [putL_i (e := x.2.length) (k := 16) (j := 16) rfl rfl (by omega) (by omega) (by omega)]
 refine e_opN v_fa0 .nil ?_; (((refine' e_opN (v_ldN ?hc) ?hi ?_); (case hi => exact .pick (by repeat constructor) .nil); (case hc => repeat constructor))); refine e_opN v_len .nil ?_; (refine e_opN (v_sub (by omega) (by omega)) .nil ?_)
 (refine' e_call (put (l := padTo8 M ++ bitsOf x.2.length 16) (n := 65535 - (x.2.length : Int)) (k := 16)) ?hp fun _ => ?_; (case hp => (repeat (first | exact Picks.nil | (apply Picks.cons; (focus repeat constructor))))); (try simp only [ca_, na_, Bool.not_true, Bool.not_false]))
 rw [putL_i (e := 65535 - x.2.length) (k := 16) (j := 16) (by omega) rfl (by omega) (by omega) (by rw [List.length_append, length_bitsOf]; omega)]
 refine e_opN v_fa0 .nil ?_; (((refine' e_opN (v_ldN ?hc) ?hi ?_); (case hi => exact .pick (by repeat constructor) .nil); (case hc => repeat constructor)))
 refine e_call (raw (l := padTo8 M ++ bitsOf x.2.length 16 ++ bitsOf (65535 - x.2.length) 16) (cap := bc) hx.rb (rd_none_ hx.rb) (by omega)) (.cons (by repeat constructor) (.cons (by repeat constructor) .nil)) fun _ => ?_
 (try simp only [ca_, na_, -eq_self])
 rw [hr]
 (first | refine e_ret (()) rfl ?_ | refine e_retT (()) ?_)
 (repeat (first | exact .refl | exact .nil | (apply Imp.pick; (focus ((repeat constructor); done))) | refine .drop ?_))
theorem dfixed {w : Nat} {M : List Bool} (hx : BkOk W AL AB (x, v)) (hg : goodB x) (hM : M.length + (fixX x).length <= 8388608) :
  Cn p_ 66 [bvV level (x, v), .pointer (some ⟨w, 0, none⟩)] W [IsW w M, AL] (fun _ : Unit => .tuple #[]) (fun _ => [IsW w (M ++ fixX x), AL]) := by
 obtain ⟨⟨la, lc⟩, ⟨ba, bc⟩⟩ := v
 have hpn := hg.pn
 unfold fixX at hM ⊢
 obtain ⟨A5, hA5⟩ : ∃ A5, A5 = litL := ⟨_, rfl⟩
 obtain ⟨B5, hB5⟩ : ∃ B5, B5 = dstL := ⟨_, rfl⟩
 have l1 : A5.length <= 1000 := by rw [hA5, lit_len]; omega
 have l2 : B5.length <= 1000 := by rw [hB5, dst_len]; omega
 unfold bvV
 (try dsimp only)
 (refine S.deflate_block_fixed_cn fun F => ?_; unfold S.deflate_block_fixed; simp only [ca_, na_])
 rw [<- hA5, <- hB5] at hM ⊢
 refine e_boxA fun b2 => ?_
 have hF := fixedL (W := W)
 rw [<- hA5, <- hB5] at hF
 (refine' e_call (hF) ?hp fun _ => ?_; (case hp => (repeat (first | exact Picks.nil | (apply Picks.cons; (focus repeat constructor))))); (try simp only [ca_, na_, Bool.not_true, Bool.not_false]))
 rename_i q
 obtain ⟨⟨a1, c1⟩, ⟨a2, c2⟩⟩ := q
 (try dsimp only)
 (((refine' e_opN (v_extN ?hc) .nil ?_); (case hc => repeat constructor))); (((refine' e_opN (v_extN ?hc) .nil ?_); (case hc => repeat constructor))); refine e_drS ?_; (((refine' e_stD (v_ldAgg ?hn) ?hi ?_); (case hi => exact .pick (by repeat constructor) .nil); (case hn => rfl)))
 refine e_slfacts .here fun _ _ _ h1 => ?_
 refine e_slfacts (.there .here) fun _ _ _ h2 => ?_
 have r1 : RdB W (Sl 1 3 a1 c1 A5.length (A5.map I)) a1 A5.length (A5.map I) := rd_sl (by rw [List.length_map]) h1
 have r2 : RdB W (Sl 1 3 a2 c2 B5.length (B5.map I)) a2 B5.length (B5.map I) := rd_sl (by rw [List.length_map]) h2
 refine e_call (newSet (cap := c1) r1 (by omega)) (.cons (by repeat constructor) .nil) fun q1 => ?_
 (try simp only [ca_, na_, -eq_self])
 (((refine e_obl ?hi ?_); (case hi => (repeat (first | exact .refl | exact .nil | (apply Imp.pick; (focus ((repeat constructor); done))) | refine .drop ?_)))))
 refine e_call (newSet (cap := c2) r2 (by omega)) (.cons (by repeat constructor) .nil) fun q2 => ?_
 (try simp only [ca_, na_, -eq_self])
 (((refine e_obl ?hi ?_); (case hi => (repeat (first | exact .refl | exact .nil | (apply Imp.pick; (focus ((repeat constructor); done))) | refine .drop ?_)))))
 (refine' e_call (into (w := w)) ?hp fun _ => ?_; (case hp => (repeat (first | exact Picks.nil | (apply Picks.cons; (focus repeat constructor))))); (try simp only [ca_, na_, Bool.not_true, Bool.not_false]))
 rename_i g
 (((refine e_obl ?hi ?_); (case hi => (repeat (first | exact .refl | exact .nil | (apply Imp.pick; (focus ((repeat constructor); done))) | refine .drop ?_)))))
 refine e_imp (M := Put2 A5 B5 ((a1, c1), q1) ((a2, c2), q2) w g M [] :: AL :: pt b2 (.cells #[.slice la x.1.length lc, .slice ba x.2.length bc, .int .i64 level] 79) :: F) ?_ ?_
 ·unfold Put2 IsSet
  refine .all ?_
  (try simp only [ca_, na_, -eq_self])
  rw [List.flatMap_nil, List.append_nil]
  refine .pick (by repeat constructor) (.all ?_)
  (try simp only [ca_, na_, -eq_self])
  refine .pick (by repeat constructor) (.pick (by repeat constructor) (.all ?_))
  (try simp only [ca_, na_, -eq_self])
  (repeat (first | exact .refl | exact .nil | (apply Imp.pick; (focus ((repeat constructor); done))) | refine .drop ?_))
 refine e_call (symbols_ (f := 107) (cap := [.pointer (some ⟨g, 0, none⟩)]) (J := Put2 A5 B5 ((a1, c1), q1) ((a2, c2), q2) w g M) (va := sv A5 ((a1, c1), q1)) (vb := sv B5 ((a2, c2), q2)) (ps := x.1) hx.rl (by omega) hg.g
  (fun d e r h => into1 (emis_good hg.g e (by rw [h]; simp)) (by have := emis_cut (la := A5) (lb := B5) h; omega))) (.cons (by repeat constructor) (.cons (by repeat constructor) .nil)) fun _ => ?_
 (try simp only [ca_, na_, -eq_self])
 refine e_all (M := [IsW w (M ++ (emis x.1).flatMap (emB A5 B5)), IsSet A5 ((a1, c1), q1), IsSet B5 ((a2, c2), q2), pt g (.cells #[.pointer (some ⟨w, 0, none⟩)] 73)]) (.there .here) ?_
 (try simp only [ca_, na_, -eq_self])
 rw [emis_bits]
 (first | refine e_ret (()) rfl ?_ | refine e_retT (()) ?_)
 (repeat (first | exact .refl | exact .nil | (apply Imp.pick; (focus ((repeat constructor); done))) | refine .drop ?_))
theorem ddynamic {w : Nat} {M : List Bool} (hx : BkOk W AL AB (x, v)) (hg : goodB x) (hM : M.length + (dynX x).length <= 8388608) :
  Cn p_ 67 [bvV level (x, v), .pointer (some ⟨w, 0, none⟩)] W [IsW w M, AL] (fun _ : Unit => .tuple #[]) (fun _ => [IsW w (M ++ dynX x), AL]) := by
 obtain ⟨⟨la, lc⟩, ⟨ba, bc⟩⟩ := v
 have hpn := hg.pn
 obtain ⟨l1, l2⟩ := own_len (ps := x.1) (by omega)
 have v1 := lenV_b15 (frqA x.1) 15
 have v2 := lenV_b15 (frqB x.1) 15
 change ∀ z ∈ ownA x.1, 0 <= z /\ z <= 15 at v1
 change ∀ z ∈ ownB x.1, 0 <= z /\ z <= 15 at v2
 have hdx : dynX x = hdX (ownA x.1) (ownB x.1) ++ encX (ownA x.1) (ownB x.1) x.1 := rfl
 rw [hdx, List.length_append] at hM
 rw [hdx, <- List.append_assoc]
 unfold bvV
 (try dsimp only)
 (refine S.deflate_block_dynamic_cn fun F => ?_; unfold S.deflate_block_dynamic; simp only [ca_, na_])
 have hO := own (W := W) (pc := lc) (ba := ba) (bn := x.2.length) (bc := bc) (level := level) (ps := x.1) hx.rl (by omega) hg.g
 (try dsimp only at hO)
 clear hdx
 generalize ownA x.1 = A5 at *
 generalize ownB x.1 = B5 at *
 refine e_boxA fun b2 => ?_
 (((refine' e_opN (v_ldAgg ?hn) ?hi ?_); (case hi => exact .pick (by repeat constructor) .nil); (case hn => rfl)))
 (refine' e_call (hO) ?hp fun _ => ?_; (case hp => (repeat (first | exact Picks.nil | (apply Picks.cons; (focus repeat constructor))))); (try simp only [ca_, na_, Bool.not_true, Bool.not_false]))
 rename_i q
 obtain ⟨qa, qb⟩ := q
 (try dsimp only)
 refine e_opN (v_ext (v := setV (sv A5 qa)) rfl) .nil ?_
 refine e_opN (v_ext (v := setV (sv B5 qb)) rfl) .nil ?_
 unfold setV
 (try dsimp only)
 refine e_newA fun g => ?_; refine e_newA fun g => ?_; (((refine' e_stAgg ?hp ?hn ?hv ?h1 ?_); (case hp => (repeat constructor)); (case hn => rfl); (case hv => rfl); (case h1 => simp [Value.oneCell']))); (((refine' e_stAgg ?hp ?hn ?hv ?h1 ?_); (case hp => (repeat constructor)); (case hn => rfl); (case hv => rfl); (case h1 => simp [Value.oneCell']))); (((refine' e_opN (v_ldAgg ?hn) ?hi ?_); (case hi => exact .pick (by repeat constructor) .nil); (case hn => rfl))); (((refine' e_opN (v_ldAgg ?hn) ?hi ?_); (case hi => exact .pick (by repeat constructor) .nil); (case hn => rfl)))
 refine e_call (head (w := w) (L := M) (qa := qa) (qb := qb) v1 v2 l1 l2 (by omega)) (.cons (by repeat constructor) (.cons (by repeat constructor) (.cons (by repeat constructor) .nil))) fun _ => ?_
 (try simp only [ca_, na_, -eq_self])
 refine e_drS ?_; (((refine' e_stD (v_ldAgg ?hn) ?hi ?_); (case hi => exact .pick (by repeat constructor) .nil); (case hn => rfl))); (((refine' e_stD (v_ldAgg ?hn) ?hi ?_); (case hi => exact .pick (by repeat constructor) .nil); (case hn => rfl))); (((refine' e_stD (v_ldAgg ?hn) ?hi ?_); (case hi => exact .pick (by repeat constructor) .nil); (case hn => rfl)))
 (refine' e_call (into (w := w)) ?hp fun _ => ?_; (case hp => (repeat (first | exact Picks.nil | (apply Picks.cons; (focus repeat constructor))))); (try simp only [ca_, na_, Bool.not_true, Bool.not_false]))
 rename_i g2
 (((refine e_obl ?hi ?_); (case hi => (repeat (first | exact .refl | exact .nil | (apply Imp.pick; (focus ((repeat constructor); done))) | refine .drop ?_))))); (((refine e_obl ?hi ?_); (case hi => (repeat (first | exact .refl | exact .nil | (apply Imp.pick; (focus ((repeat constructor); done))) | refine .drop ?_))))); (((refine e_obl ?hi ?_); (case hi => (repeat (first | exact .refl | exact .nil | (apply Imp.pick; (focus ((repeat constructor); done))) | refine .drop ?_)))))
 refine e_imp (M := Put2 A5 B5 qa qb w g2 (M ++ hdX A5 B5) [] :: AL :: F) ?_ ?_
 ·unfold Put2
  refine .all ?_
  (try simp only [ca_, na_, -eq_self])
  rw [List.flatMap_nil, List.append_nil]
  (repeat (first | exact .refl | exact .nil | (apply Imp.pick; (focus ((repeat constructor); done))) | refine .drop ?_))
 refine e_call (symbols_ (f := 107) (cap := [.pointer (some ⟨g2, 0, none⟩)]) (J := Put2 A5 B5 qa qb w g2 (M ++ hdX A5 B5)) (va := sv A5 qa) (vb := sv B5 qb) (ps := x.1) hx.rl (by omega) hg.g
  (fun d e r h => into1 (emis_good hg.g e (by rw [h]; simp)) (by have := emis_cut (la := A5) (lb := B5) h; rw [List.length_append]; omega))) (.cons (by repeat constructor) (.cons (by repeat constructor) .nil)) fun _ => ?_
 (try simp only [ca_, na_, -eq_self])
 refine e_all (M := [IsW w ((M ++ hdX A5 B5) ++ (emis x.1).flatMap (emB A5 B5)), IsSet A5 qa, IsSet B5 qb, pt g2 (.cells #[.pointer (some ⟨w, 0, none⟩)] 73)]) (.there .here) ?_
 (try simp only [ca_, na_, -eq_self])
 rw [emis_bits]
 (first | refine e_ret (()) rfl ?_ | refine e_retT (()) ?_)
 (repeat (first | exact .refl | exact .nil | (apply Imp.pick; (focus ((repeat constructor); done))) | refine .drop ?_))
end Go.Proofs.YthoeeahdkdcceaaGreat.IF
namespace Go.Proofs.YthoeeahdkdcceaaGreat.IF
open Go Go.Proofs Go.RowKit Sh Sl T HM HF B M
variable {W : World} {AL AB : HP} {x : Blk} {v : Bv} {level : Int}
def wayF (k : Nat) : FuncId := if k = 0 then 52 else if k = 1 then 66 else 67
theorem dway {k w : Nat} {M : List Bool} (hx : BkOk W AL AB (x, v)) (hg : goodB x) (hM : M.length <= 6500000) :
  Cn p_ (wayF k) [bvV level (x, v), .pointer (some ⟨w, 0, none⟩)] W [IsW w M, AL, AB] (fun _ : Unit => .tuple #[]) (fun _ => [IsW w (wayX k M x), AL, AB]) := by
 have hpn := hg.pn
 have hbn := hg.bn
 unfold wayF wayX
 by_cases h0 : k = 0
 ·rw [if_pos h0, if_pos h0]
  exact Cn.frame (R := [AL]) (dstored (level := level) (w := w) (M := M) hx (by omega) (by omega)) (fun F => e_sat (by (repeat (first | exact .refl | exact .nil | (apply Imp.pick; (focus ((repeat constructor); done))) | refine .drop ?_)))) (fun _ F => e_sat (by (repeat (first | exact .refl | exact .nil | (apply Imp.pick; (focus ((repeat constructor); done))) | refine .drop ?_))))
 ·rw [if_neg h0, if_neg h0]
  by_cases h1 : k = 1
  ·rw [if_pos h1, if_pos h1]
   have := fixX_le (x := x) hg.g hpn
   exact Cn.frame (R := [AB]) (dfixed (level := level) (w := w) (M := M) hx hg (by omega)) (fun F => e_sat (by (repeat (first | exact .refl | exact .nil | (apply Imp.pick; (focus ((repeat constructor); done))) | refine .drop ?_)))) (fun _ F => e_sat (by (repeat (first | exact .refl | exact .nil | (apply Imp.pick; (focus ((repeat constructor); done))) | refine .drop ?_))))
  ·rw [if_neg h1, if_neg h1]
   have := dynX_le (x := x) hg.g hpn
   exact Cn.frame (R := [AB]) (ddynamic (level := level) (w := w) (M := M) hx hg (by omega)) (fun F => e_sat (by (repeat (first | exact .refl | exact .nil | (apply Imp.pick; (focus ((repeat constructor); done))) | refine .drop ?_)))) (fun _ F => e_sat (by (repeat (first | exact .refl | exact .nil | (apply Imp.pick; (focus ((repeat constructor); done))) | refine .drop ?_))))
def sizX (k n : Nat) (x : Blk) : Nat := if k = 0 then stoN n x else if k = 1 then 3 + (fixX x).length else 3 + (dynX x).length
theorem wayX_len (k n : Nat) (x : Blk) : (wayX k (bitsOf 0 (n % 8) ++ bitsOf 0 3) x).length = n % 8 + sizX k n x := by
 unfold wayX sizX
 split
 ·rw [stoX_len]
  simp only [List.length_append, length_bitsOf]
  unfold stoN
  omega
 ·split
  ·simp only [List.length_append, length_bitsOf]; omega
  ·simp only [List.length_append, length_bitsOf]; omega
theorem sizX_le (k n : Nat) (hg : goodB x) : sizX k n x <= 1500100 := by
 have h1 := fixX_le (x := x) hg.g hg.pn
 have h2 := dynX_le (x := x) hg.g hg.pn
 have h3 := hg.bn
 unfold sizX
 split
 ·unfold stoN; omega
 ·split <;> omega
theorem dsize {k n : Nat} (hx : BkOk W AL AB (x, v)) (hg : goodB x) (hn : n <= 1099511627776) :
  Cn p_ 68 [bvV level (x, v), fn (wayF k), .int .i64 (n : Int)] W [AL, AB] (fun _ : Unit => .int .i64 (sizX k n x : Int)) (fun _ => [AL, AB]) := by
 have hlen := wayX_len k n x
 have hle := sizX_le k n hg
 have hw := fun w => dway (k := k) (w := w) (level := level) (M := bitsOf 0 (n % 8) ++ bitsOf 0 3) hx hg (by simp only [List.length_append, length_bitsOf]; omega)
 obtain ⟨⟨la, lc⟩, ⟨ba, bc⟩⟩ := v
 unfold bvV at hw ⊢
 (try dsimp only at hw)
 (try dsimp only)
 (refine S.deflate_block_size_cn fun F => ?_; unfold S.deflate_block_size; simp only [ca_, na_])
 refine e_boxA fun b3 => ?_
 (refine' e_call (newWriter) ?hp fun _ => ?_; (case hp => (repeat (first | exact Picks.nil | (apply Picks.cons; (focus repeat constructor))))); (try simp only [ca_, na_, Bool.not_true, Bool.not_false]))
 rename_i w
 (((refine e_opN (v_rem ?h1 ?h2) .nil ?_); (case h1 => omega); (case h2 => omega)))
 have hmod : (n : Int) % 8 = ((n % 8 : Nat) : Int) := by omega
 (refine' e_call (put (l := []) (n := 0) (k := (n : Int) % 8)) ?hp fun _ => ?_; (case hp => (repeat (first | exact Picks.nil | (apply Picks.cons; (focus repeat constructor))))); (try simp only [ca_, na_, Bool.not_true, Bool.not_false]))
 rw [putL_i (n := 0) (e := 0) (k := (n : Int) % 8) (j := n % 8) rfl hmod (by omega) (Nat.two_pow_pos _) (by simp only [List.length_nil]; omega), List.nil_append]
 (refine' e_call (put (l := bitsOf 0 (n % 8)) (n := 0) (k := 3)) ?hp fun _ => ?_; (case hp => (repeat (first | exact Picks.nil | (apply Picks.cons; (focus repeat constructor))))); (try simp only [ca_, na_, Bool.not_true, Bool.not_false]))
 rw [putL_i (n := 0) (e := 0) (k := 3) (j := 3) rfl rfl (by omega) (by omega) (by rw [length_bitsOf]; omega)]
 (((refine' e_opN (v_ldAgg ?hn) ?hi ?_); (case hi => exact .pick (by repeat constructor) .nil); (case hn => rfl)))
 refine e_call (hw w) (.cons (by repeat constructor) (.cons (by repeat constructor) (.cons (by repeat constructor) .nil))) fun _ => ?_
 (try simp only [ca_, na_, -eq_self])
 (refine' e_call (Go.Proofs.YthoeeahdkdcceaaGreat.B.bits (l := wayX k (bitsOf 0 (n % 8) ++ bitsOf 0 3) x)) ?hp fun _ => ?_; (case hp => (repeat (first | exact Picks.nil | (apply Picks.cons; (focus repeat constructor))))); (try simp only [ca_, na_, Bool.not_true, Bool.not_false]))
 rw [hlen]
 (((refine e_opN (v_rem ?h1 ?h2) .nil ?_); (case h1 => omega); (case h2 => omega))); (refine e_opN (v_sub (by omega) (by omega)) .nil ?_)
 rw [show ((n % 8 + sizX k n x : Nat) : Int) - (n : Int) % 8 = (sizX k n x : Int) by omega]
 (first | refine e_ret (()) rfl ?_ | refine e_retT (()) ?_)
 (repeat (first | exact .refl | exact .nil | (apply Imp.pick; (focus ((repeat constructor); done))) | refine .drop ?_))
theorem dput {w last : Nat} {L : List Bool} (hx : BkOk W AL AB (x, v)) (hg : goodB x) (hl : last <= 1) (hL : L.length <= 6000000) :
  Cn p_ 50 [bvV level (x, v), .pointer (some ⟨w, 0, none⟩), .int .i64 (last : Int)] W [IsW w L, AL, AB] (fun _ : Unit => .tuple #[]) (fun _ => [IsW w (putX level L last x), AL, AB]) := by
 have hs := fun k => dsize (k := k) (n := L.length) (level := level) hx hg (by omega)
 have hsl := fun k => sizX_le (x := x) k L.length hg
 have hb2 := best_le2 L.length level x
 have hpX : putX level L last x = wayX (best L.length level x) (L ++ bitsOf last 1 ++ bitsOf (best L.length level x) 2) x := rfl
 have hw := dway (k := best L.length level x) (w := w) (level := level) (M := L ++ bitsOf last 1 ++ bitsOf (best L.length level x) 2) hx hg (by simp only [List.length_append, length_bitsOf]; omega)
 rw [hpX]
 have hbd : best L.length level x = if ¬ 0 < level then 0 else if sizX 2 L.length x < (if sizX 1 L.length x < sizX 0 L.length x then sizX 1 L.length x else sizX 0 L.length x) then 2 else if sizX 1 L.length x < sizX 0 L.length x then 1 else 0 := rfl
 obtain ⟨bst_, hbst⟩ : ∃ bst_, bst_ = best L.length level x := ⟨_, rfl⟩
 rw [<- hbst] at hb2 hw hbd ⊢
 obtain ⟨⟨la, lc⟩, ⟨ba, bc⟩⟩ := v
 unfold bvV at hs hw ⊢
 (try dsimp only at hs hw)
 (try dsimp only)
 (refine S.deflate_block_put_cn fun F => ?_; unfold S.deflate_block_put; simp only [ca_, na_])
 refine e_boxA fun b3 => ?_
 refine e_opN v_rv .nil ?_; refine e_newA fun g => ?_; (((refine' e_stAgg ?hp ?hn ?hv ?h1 ?_); (case hp => (repeat constructor)); (case hn => rfl); (case hv => rfl); (case h1 => (intro u hu; simp at hu; rcases hu with rfl | rfl | rfl <;> rfl))))
 rename Nat => bw
 obtain ⟨s0, hs0⟩ : ∃ s0, s0 = sizX 0 L.length x := ⟨_, rfl⟩
 obtain ⟨s1, hs1⟩ : ∃ s1, s1 = sizX 1 L.length x := ⟨_, rfl⟩
 obtain ⟨s2, hs2⟩ : ∃ s2, s2 = sizX 2 L.length x := ⟨_, rfl⟩
 have hle0 := hsl 0
 have hle1 := hsl 1
 have hle2 := hsl 2
 have hz0 := hs 0
 have hz1 := hs 1
 have hz2 := hs 2
 rw [<- hs0] at hbd hle0 hz0
 rw [<- hs1] at hbd hle1 hz1
 rw [<- hs2] at hbd hle2 hz2
 refine e_imp (M := pt bw (.cells #[fn (wayF 0), fn (wayF 1), fn (wayF 2)] 111) :: pt b3 (.cells #[.slice la x.1.length lc, .slice ba x.2.length bc, .int .i64 level] 79) :: IsW w L :: AL :: AB :: F) .refl ?_
 refine e_cut1 (fun z => pu (z = .int .i64 (bst_ : Int)) :: pt bw (.cells #[fn (wayF 0), fn (wayF 1), fn (wayF 2)] 111) :: pt b3 (.cells #[.slice la x.1.length lc, .slice ba x.2.length bc, .int .i64 level] 79) :: IsW w L :: AL :: AB :: F) ?_ ?_
 rotate_left
 ·(refine e_opN v_fa0 .nil ?_); (((refine' e_opN (v_ldN ?hc) ?hi ?_); (case hi => exact .pick (by repeat constructor) .nil); (case hc => repeat constructor)))
  refine e_opN v_gtr .nil ?_
  by_cases hlv : 0 < level
  rotate_left
  ·rw [dF_ hlv]
   rw [if_pos hlv] at hbd
   refine e_condF ?_
   refine e_sat (.pu (by rw [hbd]; rfl) ?_)
   (repeat (first | exact .refl | exact .nil | (apply Imp.pick; (focus ((repeat constructor); done))) | refine .drop ?_))
  rw [dT_ hlv]
  rw [if_neg (fun h => h hlv)] at hbd
  refine e_condT ?_; refine e_drS ?_; (((refine' e_stD (v_ldAgg ?hn) ?hi ?_); (case hi => exact .pick (by repeat constructor) .nil); (case hn => rfl)))
  refine e_stD (v_iaA 0 rfl (by omega)) .nil ?_
  (((refine' e_stD (v_ldN ?hc) ?hi ?_); (case hi => exact .pick (by repeat constructor) .nil); (case hc => repeat constructor)))
  (refine' e_call (Go.Proofs.YthoeeahdkdcceaaGreat.B.bits (l := L)) ?hp fun _ => ?_; (case hp => (repeat (first | exact Picks.nil | (apply Picks.cons; (focus repeat constructor))))); (try simp only [ca_, na_, Bool.not_true, Bool.not_false]))
  (((refine e_obl ?hi ?_); (case hi => (repeat (first | exact .refl | exact .nil | (apply Imp.pick; (focus ((repeat constructor); done))) | refine .drop ?_))))); (((refine e_obl ?hi ?_); (case hi => (repeat (first | exact .refl | exact .nil | (apply Imp.pick; (focus ((repeat constructor); done))) | refine .drop ?_))))); (((refine e_obl ?hi ?_); (case hi => (repeat (first | exact .refl | exact .nil | (apply Imp.pick; (focus ((repeat constructor); done))) | refine .drop ?_)))))
  refine e_call hz0 (.cons (by repeat constructor) (.cons (by repeat constructor) .nil)) fun _ => ?_
  (try simp only [ca_, na_, -eq_self])
  refine e_opN (v_slA (l := 1) rfl (by omega)) .nil ?_
  refine e_opN v_len .nil ?_
  refine e_loop3 (fun m y z u => pu (∃ i : Nat, m + i = 2 /\ u = .int .i64 (i : Int) /\ ((i = 0 /\ y = .int .i64 0 /\ z = .int .i64 (s0 : Int)) \/ (i = 1 /\ y = .int .i64 (if s1 < s0 then 1 else 0) /\ z = .int .i64 ((if s1 < s0 then s1 else s0 : Nat) : Int)) \/ (i = 2 /\ y = .int .i64 (bst_ : Int)))) :: pt bw (.cells #[fn (wayF 0), fn (wayF 1), fn (wayF 2)] 111) :: pt b3 (.cells #[.slice la x.1.length lc, .slice ba x.2.length bc, .int .i64 level] 79) :: IsW w L :: AL :: AB :: F) 2 ?_ ?_
  ·refine .pu ⟨0, rfl, rfl, .inl ⟨rfl, rfl, rfl⟩⟩ ?_
   (repeat (first | exact .refl | exact .nil | (apply Imp.pick; (focus ((repeat constructor); done))) | refine .drop ?_))
  intro m ds y z u
  refine e_pu .here fun hi => ?_
  obtain ⟨i, hmi, rfl, hi⟩ := hi
  refine e_opN v_lss .nil ?_
  rcases hi with ⟨rfl, rfl, rfl⟩ | ⟨rfl, rfl, rfl⟩ | ⟨rfl, rfl⟩
  ·rw [dT_ (by decide)]
   refine e_condT ?_
   refine e_opN (v_ia1 0 rfl (by omega)) .nil ?_
   (((refine' e_opN (v_ldN ?hc) ?hi ?_); (case hi => exact .pick (by repeat constructor) .nil); (case hc => repeat constructor))); refine e_drS ?_; (((refine' e_stD (v_ldAgg ?hn) ?hi ?_); (case hi => exact .pick (by repeat constructor) .nil); (case hn => rfl)))
   (refine' e_call (Go.Proofs.YthoeeahdkdcceaaGreat.B.bits (l := L)) ?hp fun _ => ?_; (case hp => (repeat (first | exact Picks.nil | (apply Picks.cons; (focus repeat constructor))))); (try simp only [ca_, na_, Bool.not_true, Bool.not_false]))
   (((refine e_obl ?hi ?_); (case hi => (repeat (first | exact .refl | exact .nil | (apply Imp.pick; (focus ((repeat constructor); done))) | refine .drop ?_)))))
   refine e_call hz1 (.cons (by repeat constructor) (.cons (by repeat constructor) .nil)) fun _ => ?_
   (try simp only [ca_, na_, -eq_self])
   refine e_opN v_lss .nil ?_
   by_cases hc : (s1 : Int) < (s0 : Int)
   ·rw [dT_ hc]
    refine e_condT ?_; (refine e_opN (v_add (by omega) (by omega)) .nil ?_); (refine e_opN (v_add (by omega) (by omega)) .nil ?_)
    refine e_next3 (m - 1) (by omega) (.pu ⟨1, by omega, rfl, .inr (.inl ⟨rfl, ?_, ?_⟩)⟩ ?_)
    ·rw [if_pos (by omega)]; rfl
    ·rw [if_pos (by omega)]
    (repeat (first | exact .refl | exact .nil | (apply Imp.pick; (focus ((repeat constructor); done))) | refine .drop ?_))
   ·rw [dF_ hc]
    refine e_condF ?_; (refine e_opN (v_add (by omega) (by omega)) .nil ?_)
    refine e_next3 (m - 1) (by omega) (.pu ⟨1, by omega, rfl, .inr (.inl ⟨rfl, ?_, ?_⟩)⟩ ?_)
    ·rw [if_neg (by omega)]
    ·rw [if_neg (by omega)]
    (repeat (first | exact .refl | exact .nil | (apply Imp.pick; (focus ((repeat constructor); done))) | refine .drop ?_))
  ·rw [dT_ (by decide)]
   refine e_condT ?_
   refine e_opN (v_ia1 1 rfl (by omega)) .nil ?_
   (((refine' e_opN (v_ldN ?hc) ?hi ?_); (case hi => exact .pick (by repeat constructor) .nil); (case hc => repeat constructor))); refine e_drS ?_; (((refine' e_stD (v_ldAgg ?hn) ?hi ?_); (case hi => exact .pick (by repeat constructor) .nil); (case hn => rfl)))
   (refine' e_call (Go.Proofs.YthoeeahdkdcceaaGreat.B.bits (l := L)) ?hp fun _ => ?_; (case hp => (repeat (first | exact Picks.nil | (apply Picks.cons; (focus repeat constructor))))); (try simp only [ca_, na_, Bool.not_true, Bool.not_false]))
   (((refine e_obl ?hi ?_); (case hi => (repeat (first | exact .refl | exact .nil | (apply Imp.pick; (focus ((repeat constructor); done))) | refine .drop ?_)))))
   refine e_call hz2 (.cons (by repeat constructor) (.cons (by repeat constructor) .nil)) fun _ => ?_
   (try simp only [ca_, na_, -eq_self])
   refine e_opN v_lss .nil ?_
   by_cases hc : (s2 : Int) < ((if s1 < s0 then s1 else s0 : Nat) : Int)
   ·rw [dT_ hc]
    rw [if_pos (by exact_mod_cast hc)] at hbd
    refine e_condT ?_; (refine e_opN (v_add (by omega) (by omega)) .nil ?_); (refine e_opN (v_add (by omega) (by omega)) .nil ?_)
    refine e_next3 (m - 1) (by omega) (.pu ⟨2, by omega, rfl, .inr (.inr ⟨rfl, ?_⟩)⟩ ?_)
    ·rw [hbd]; rfl
    (repeat (first | exact .refl | exact .nil | (apply Imp.pick; (focus ((repeat constructor); done))) | refine .drop ?_))
   ·rw [dF_ hc]
    rw [if_neg (fun h => hc (by exact_mod_cast h))] at hbd
    refine e_condF ?_; (refine e_opN (v_add (by omega) (by omega)) .nil ?_)
    refine e_next3 (m - 1) (by omega) (.pu ⟨2, by omega, rfl, .inr (.inr ⟨rfl, ?_⟩)⟩ ?_)
    ·rw [hbd]; split <;> rfl
    (repeat (first | exact .refl | exact .nil | (apply Imp.pick; (focus ((repeat constructor); done))) | refine .drop ?_))
  ·rw [dF_ (by decide)]
   refine e_condF ?_
   refine e_sat (.pu rfl ?_)
   (repeat (first | exact .refl | exact .nil | (apply Imp.pick; (focus ((repeat constructor); done))) | refine .drop ?_))
 intro ds z
 refine e_pu .here fun hz => ?_
 subst hz
 (refine' e_call (put (l := L) (n := (last : Int)) (k := 1)) ?hp fun _ => ?_; (case hp => (repeat (first | exact Picks.nil | (apply Picks.cons; (focus repeat constructor))))); (try simp only [ca_, na_, Bool.not_true, Bool.not_false]))
 rw [putL_i (n := (last : Int)) (e := last) (k := 1) (j := 1) rfl rfl (by omega) (by omega) (by omega)]
 (refine' e_call (put (l := L ++ bitsOf last 1) (n := (bst_ : Int)) (k := 2)) ?hp fun _ => ?_; (case hp => (repeat (first | exact Picks.nil | (apply Picks.cons; (focus repeat constructor))))); (try simp only [ca_, na_, Bool.not_true, Bool.not_false]))
 rw [putL_i (n := (bst_ : Int)) (e := bst_) (k := 2) (j := 2) rfl rfl (by omega) (by omega) (by rw [List.length_append, length_bitsOf]; omega)]
 refine e_drS ?_
 refine e_stS (v_iaA bst_ rfl (by omega)) .nil ?_
 have hld : RunV p_ W [pt bw (.cells #[fn (wayF 0), fn (wayF 1), fn (wayF 2)] 111)] (sLoad 110 (.pointer (some ⟨bw, 0 + bst_ * 1, none⟩))) (fn (wayF bst_)) := by
  rcases (show bst_ = 0 \/ bst_ = 1 \/ bst_ = 2 by omega) with rfl | rfl | rfl <;> exact v_ld rfl
 refine e_stS hld (.pick (by repeat constructor) .nil) ?_
 (((refine' e_stS (v_ldAgg ?hn) ?hi ?_); (case hi => exact .pick (by repeat constructor) .nil); (case hn => rfl)))
 refine e_call hw (.cons (by repeat constructor) (.cons (by repeat constructor) (.cons (by repeat constructor) .nil))) fun _ => ?_
 (first | refine e_ret (()) rfl ?_ | refine e_retT (()) ?_)
 (repeat (first | exact .refl | exact .nil | (apply Imp.pick; (focus ((repeat constructor); done))) | refine .drop ?_))
end Go.Proofs.YthoeeahdkdcceaaGreat.IF
namespace Go.Proofs.YthoeeahdkdcceaaGreat.IF
open Go Go.Proofs Go.RowKit Sh Sl T HM HF B M
theorem bv_get {level : Int} : ∀ {X : List (Blk × Bv)} {i j : Nat} (h : i < X.length), j < 3 -> (X.flatMap (bvC level))[i * 3 + j]? = (bvC level X[i])[j]?
 | y :: X, 0, j, h, hj => by
  rw [List.flatMap_cons, List.getElem?_append_left (by rw [bv_len]; omega)]
  simp
 | y :: X, i + 1, j, h, hj => by
  rw [List.flatMap_cons, List.getElem?_append_right (by rw [bv_len]; omega), bv_len, show (i + 1) * 3 + j - 3 = i * 3 + j by omega]
  exact bv_get (by simpa using h) hj
theorem bvs_len (level : Int) (X : List (Blk × Bv)) : (X.flatMap (bvC level)).length = X.length * 3 := by
 induction X with
 | nil => rfl
 | cons y X ih => rw [List.flatMap_cons, List.length_append, ih, bv_len, List.length_cons]; omega
theorem puts0_nil (level : Int) (L : List Bool) : puts0 level L [] = L := rfl
theorem puts0_cons (level : Int) (L : List Bool) (x : Blk) (xs : List Blk) : puts0 level L (x :: xs) = puts0 level (putX level L 0 x) xs := by unfold puts0; rw [List.foldl_cons]
theorem puts0_snoc (level : Int) (L : List Bool) (xs : List Blk) (x : Blk) : puts0 level L (xs ++ [x]) = putX level (puts0 level L xs) 0 x := by
 unfold puts0; rw [List.foldl_append, List.foldl_cons, List.foldl_nil]
theorem putsX_snoc (level : Int) : ∀ (xs : List Blk) (L : List Bool) (x : Blk), putsX level L (xs ++ [x]) = putX level (puts0 level L xs) 1 x
 | [], L, x => by rw [List.nil_append, putsX, puts0_nil]
 | y :: r, L, x => by
  have ih := putsX_snoc level r (putX level L 0 y) x
  rw [puts0_cons, <- ih]
  cases r with
  | nil => simp only [ca_, na_, putsX]
  | cons z r => rw [List.cons_append, List.cons_append, putsX]
theorem bytesN_app : ∀ (xs ys : List Blk), bytesN (xs ++ ys) = bytesN xs + bytesN ys
 | [], ys => by simp [bytesN]
 | x :: xs, ys => by rw [List.cons_append, bytesN, bytesN, bytesN_app xs ys]; omega
theorem puts0_bnd {b : List UInt8} {level : Int} (hlv : 0 <= level) (hb : b.length <= 524288) (i : Nat) : (puts0 level [] ((blksF b level).take i)).length <= 6000000 := by
 obtain ⟨hG, hn⟩ := blks_G b hlv
 have h1 := puts0_len level ((blksF b level).take i) []
 have h2 := bytesN_G hG
 have h3 := bytesN_app ((blksF b level).take i) ((blksF b level).drop i)
 rw [List.take_append_drop] at h3
 rw [List.length_take] at h1
 simp only [List.length_nil] at h1
 omega
theorem wrong {W : World} {n : Int} : Cn p_ 46 [.int .i64 n] W [] (fun _ : Unit => .bool (decide (n < 0 \/ 9 < n))) (fun _ => []) := by
 (refine S.deflate_wrong_cn fun F => ?_; unfold S.deflate_wrong; simp only [ca_, na_])
 refine e_opN v_lss .nil ?_
 by_cases h : n < 0
 ·rw [dT_ h, dT_ (Or.inl h)]
  refine e_gdF1 ?_; refine e_gdF1 ?_; refine e_opN v_pickT .nil ?_
  (first | refine e_ret (()) rfl ?_ | refine e_retT (()) ?_)
  exact .refl
 ·rw [dF_ h]
  refine e_gdT ?_; refine e_gdT ?_
  refine e_opN v_gtr .nil ?_
  refine e_opN v_pickF .nil ?_
  rw [show decide (n < 0 \/ 9 < n) = decide (9 < n) from decide_eq_decide.2 ⟨fun x => x.resolve_left h, .inr⟩]
  (first | refine e_ret (()) rfl ?_ | refine e_retT (()) ?_)
  exact .refl
def pgX (level : Int) (xs : List Blk) (i : Nat) : List Bool := if i < xs.length then puts0 level [] (xs.take i) else putsX level [] xs
theorem pg_step {level : Int} {xs : List Blk} {i : Nat} (h : i < xs.length) : pgX level xs (i + 1) = putX level (pgX level xs i) (if i + 1 = xs.length then 1 else 0) xs[i] := by
 unfold pgX
 rw [if_pos h]
 by_cases c : i + 1 = xs.length
 ·rw [if_neg (by omega), if_pos c]
  have e : xs = xs.take i ++ [xs[i]] := by rw [<- List.take_succ_eq_append_getElem h, List.take_of_length_le (by omega)]
  conv => lhs; rw [e]
  exact putsX_snoc _ _ _ _
 ·rw [if_pos (by omega), if_neg c, List.take_succ_eq_append_getElem h, puts0_snoc]
theorem deflate {W : World} {a : Option Addr} {c : Nat} {level : Int} {b : List UInt8} {A : HP} (hA : RdB W A a b.length (b.map Sl.B)) (hc : b.length <= c) :
  Cn p_ 39 [.slice a b.length c, .int .i64 level] W [A] (fun q : Option Addr × Nat => .tuple #[.slice q.1 (dflB b level).length q.2, .int .i64 (dflE b level)]) (fun q => [Sl 1 5 q.1 q.2 (dflB b level).length ((dflB b level).map Sl.B), A]) := by
 have bad : ∀ (e : Int) (L : List HP), dflE b level = e -> e ≠ 0 -> Ent W (A :: L) (fun w => ∃ q : Option Addr × Nat, (.tuple #[.slice none 0 0, .int .i64 e] : Value) = .tuple #[.slice q.1 (dflB b level).length q.2, .int .i64 (dflE b level)] /\ sat W ([Sl 1 5 q.1 q.2 (dflB b level).length ((dflB b level).map Sl.B), A] ++ L) w) := by
  intro e L h h0
  have hv : dflB b level = [] := by unfold dflB; rw [if_neg (by rw [h]; exact h0)]
  rw [h, hv]
  refine e_ret (none, 0) rfl ?_
  exact imp_nil .refl
 (refine S.deflate_Deflate_cn fun F => ?_; unfold S.deflate_Deflate; simp only [ca_, na_])
 (refine' e_call (wrong (n := level)) ?hp fun _ => ?_; (case hp => (repeat (first | exact Picks.nil | (apply Picks.cons; (focus repeat constructor))))); (try simp only [ca_, na_, Bool.not_true, Bool.not_false]))
 by_cases hw : level < 0 \/ 9 < level
 ·rw [dT_ hw]
  refine e_condT ?_
  exact bad 1 F (by unfold dflE; rw [if_pos hw]) (by decide)
 rw [dF_ hw]
 refine e_condF ?_; refine e_opN v_len .nil ?_
 refine e_opN v_gtr .nil ?_
 by_cases hs : (524288 : Int) < (b.length : Int)
 ·rw [dT_ hs]
  refine e_condT ?_
  exact bad 6 F (by unfold dflE; rw [if_neg hw, if_pos (by omega)]) (by decide)
 rw [dF_ hs]
 have hE : dflE b level = 0 := by unfold dflE; rw [if_neg hw, if_neg (by omega)]
 have hlv : 0 <= level := by omega
 have hbl : b.length <= 524288 := by omega
 refine e_condF ?_
 (refine' e_call (newWriter) ?hp fun _ => ?_; (case hp => (repeat (first | exact Picks.nil | (apply Picks.cons; (focus repeat constructor))))); (try simp only [ca_, na_, Bool.not_true, Bool.not_false]))
 rename_i w
 refine e_call (dblocks (c := c) (level := level) hA hc (by omega) (by omega)) (.cons (by repeat constructor) .nil) fun q => ?_
 obtain ⟨⟨xa, xc⟩, ⟨pa, pc⟩, X⟩ := q
 (try simp only [ca_, na_, -eq_self])
 refine e_pu .here fun hX => ?_
 (try dsimp only at hX)
 (try dsimp only)
 obtain ⟨hXf, hXk⟩ := hX
 obtain ⟨hG, hn⟩ := blks_G b hlv
 have hXl : X.length = (blksF b level).length := by rw [<- hXf, List.length_map]
 have hbnd := puts0_bnd (b := b) (level := level) hlv hbl
 have hXb : X.length <= 1000 := by omega
 have hne := blks_ne b level
 have hpos : 0 < X.length := by rw [hXl]; exact List.length_pos_iff.2 hne
 have hdX : dflX b level = pgX level (blksF b level) X.length := by unfold pgX dflX; rw [if_neg (by omega)]
 have hdB : dflB b level = pk (dflX b level) := by unfold dflB; rw [if_pos hE]
 refine e_slsome .here hpos fun gx hgx => ?_
 subst hgx
 refine e_opN v_len .nil ?_
 obtain ⟨AL, hAL⟩ : ∃ AL, AL = Sl 3 108 pa pc (pcsL b level).length ((pcsL b level).flatMap pPz) := ⟨_, rfl⟩
 rw [<- hAL] at hXk ⊢
 refine e_loop1 (fun m y => (ex fun i : Nat => all [pu (m + i = X.length /\ y = .int .i64 (i : Int)), IsW w (pgX level (blksF b level) i)]) :: Sl 3 79 (some ⟨gx, 0, none⟩) xc X.length (X.flatMap (bvC level)) :: AL :: A :: F) X.length ?_ ?_
 ·refine .ex 0 (.all ?_)
  (try simp only [ca_, na_, -eq_self])
  refine .pu ⟨by omega, rfl⟩ ?_
  rw [show pgX level (blksF b level) 0 = [] by unfold pgX; rw [if_pos (by omega)]; rfl]
  (repeat (first | exact .refl | exact .nil | (apply Imp.pick; (focus ((repeat constructor); done))) | refine .drop ?_))
 intro m ds y
 refine e_ex .here fun i => e_all .here ?_
 (try simp only [ca_, na_, -eq_self])
 refine e_pu .here fun hi => ?_
 obtain ⟨hmi, rfl⟩ := hi
 refine e_opN v_lss .nil ?_
 by_cases hlt : (i : Int) < (X.length : Int)
 ·rw [dT_ hlt]
  have hi : i < X.length := by omega
  have hib : i < (blksF b level).length := by omega
  have hk := hXk _ (List.getElem_mem hi)
  have hx1 : X[i].1 = (blksF b level)[i] := by
   have := List.getElem_map (f := Prod.fst) (l := X) (i := i) (h := by rw [List.length_map]; exact hi)
   rw [<- this]
   congr 1
  obtain ⟨fr, hok⟩ := blkG_all hG _ (List.getElem_mem hib)
  have hst := pg_step (level := level) hib
  have hLi : (pgX level (blksF b level) i).length <= 6000000 := by unfold pgX; rw [if_pos hib]; exact hbnd i
  rw [<- hx1] at hok hst
  refine e_condT ?_
  refine e_opN (v_ia i (by rfl) hi) .nil ?_
  have ld : RunV p_ W [Sl 3 79 (some ⟨gx, 0, none⟩) xc X.length (X.flatMap (bvC level))] (sLoad 79 (.pointer (some ⟨gx, 0 + i * 3, none⟩))) (bvV level X[i]) := v_ldRdG (vs := bvC level X[i]) (rd_slG (bvs_len _ _) (fun _ => ⟨gx, rfl⟩)) rfl (fun j hj => bv_get hi hj)
  refine e_opN ld (.pick (by repeat constructor) .nil) ?_
  obtain ⟨⟨x, v⟩, hxv⟩ : ∃ z, z = X[i] := ⟨_, rfl⟩
  rw [<- hxv] at hk hok hst ⊢
  (try dsimp only at hok hst)
  unfold bvV
  refine e_newA fun g => ?_; (((refine' e_stAgg ?hp ?hn ?hv ?h1 ?_); (case hp => (repeat constructor)); (case hn => rfl); (case hv => rfl); (case h1 => simp [Value.oneCell'])))
  rename Nat => b9
  refine e_cut1 (fun z => pu (z = .int .i64 ((if i + 1 = X.length then 1 else 0 : Nat) : Int)) :: pt b9 (.cells #[.slice v.1.1 x.1.length v.1.2, .slice v.2.1 x.2.length v.2.2, .int .i64 level] 79) :: IsW w (pgX level (blksF b level) i) :: Sl 3 79 (some ⟨gx, 0, none⟩) xc X.length (X.flatMap (bvC level)) :: AL :: A :: F) ?_ ?_
  rotate_left
  ·(refine e_opN v_len .nil ?_); (refine e_opN (v_sub (by omega) (by omega)) .nil ?_)
   refine e_opN v_eql .nil ?_
   by_cases hz : (i : Int) = (X.length : Int) - 1
   ·rw [dT_ hz]
    refine e_condT ?_
    refine e_sat (.pu (by rw [if_pos (by omega)]; rfl) ?_)
    (repeat (first | exact .refl | exact .nil | (apply Imp.pick; (focus ((repeat constructor); done))) | refine .drop ?_))
   ·rw [dF_ hz]
    refine e_condF ?_
    refine e_sat (.pu (by rw [if_neg (by omega)]; rfl) ?_)
    (repeat (first | exact .refl | exact .nil | (apply Imp.pick; (focus ((repeat constructor); done))) | refine .drop ?_))
  intro ds z
  refine e_pu .here fun hz => ?_
  subst hz
  (((refine' e_opN (v_ldAgg ?hn) ?hi ?_); (case hi => exact .pick (by repeat constructor) .nil); (case hn => rfl)))
  refine e_call (dput (w := w) (last := if i + 1 = X.length then 1 else 0) (L := pgX level (blksF b level) i) (level := level) hk (okBk.good hok) (by split <;> omega) hLi) (.cons (by repeat constructor) (.cons (by repeat constructor) (.cons (by repeat constructor) .nil))) fun _ => ?_
  (try simp only [ca_, na_, -eq_self])
  (refine e_opN (v_add (by omega) (by omega)) .nil ?_)
  refine e_next1 (m - 1) (by omega) (.ex (i + 1) (.all ?_))
  (try simp only [ca_, na_, -eq_self])
  rw [hst, hXl]
  refine .pu ⟨by omega, by norm_cast⟩ ?_
  (repeat (first | exact .refl | exact .nil | (apply Imp.pick; (focus ((repeat constructor); done))) | refine .drop ?_))
 ·rw [dF_ hlt]
  have hie : i = X.length := by omega
  subst hie
  rw [<- hdX]
  refine e_condF ?_
  (refine' e_call (Go.Proofs.YthoeeahdkdcceaaGreat.B.bytes (l := dflX b level)) ?hp fun _ => ?_; (case hp => (repeat (first | exact Picks.nil | (apply Picks.cons; (focus repeat constructor))))); (try simp only [ca_, na_, Bool.not_true, Bool.not_false]))
  rename_i q
  rw [hdB, hE]
  (first | refine e_ret (q) rfl ?_ | refine e_retT (q) ?_)
  (repeat (first | exact .refl | exact .nil | (apply Imp.pick; (focus ((repeat constructor); done))) | refine .drop ?_))
end Go.Proofs.YthoeeahdkdcceaaGreat.IF
namespace Go.Proofs.YthoeeahdkdcceaaGreat.GZ
open Go Go.Proofs Go.RowKit Sh Sl T IF
theorem v_unx {P : Program} {W : World} {q : IntKind} {a : Int} : RunV P W [] (sUn .xor (.int q a)) (.int q (bitOp .xor q (if q.signed then -1 else q.max) a)) := fun w _ => by
 simp [sUn, Op.unary, Op.intBits, bitOp]
theorem v_inv {P : Program} {W : World} {a : Nat} (h : a < 4294967296) : RunV P W [] (sUn .xor (.int .u32 (a : Int))) (.int .u32 (inv a : Int)) := by
 have := v_unx (P := P) (W := W) (q := .u32) (a := (a : Int))
 unfold inv
 rw [show (if IntKind.u32.signed = true then (-1 : Int) else IntKind.u32.max) = ((4294967295 : Nat) : Int) from rfl, xor32 (by decide) h] at this
 exact this
def Un (n : Nat) (f : Nat -> Nat) : Array Value := ((List.range n).map fun j => Value.int .u32 (f j : Int)).toArray
theorem Un_size (n : Nat) (f : Nat -> Nat) : (Un n f).size = n := by simp [Un]
theorem Un_get {n j : Nat} {f : Nat -> Nat} (h : j < n) : (Un n f)[j]? = some (.int .u32 (f j : Int)) := by simp [Un, h]
theorem Un_ext {n : Nat} {f : Nat -> Nat} {m : Array Value} (hm : m.size = n) (h : ∀ j, j < n -> m[j]? = some (.int .u32 (f j : Int))) : Un n f = m := by
 apply Array.ext_getElem?
 intro j
 by_cases c : j < n
 ·rw [Un_get c, h j c]
 ·rw [Array.getElem?_eq_none (by rw [Un_size]; omega), Array.getElem?_eq_none (by omega)]
theorem Un_set {n j : Nat} {f : Nat -> Nat} {v : Nat} : (Un n f).setIfInBounds j (.int .u32 (v : Int)) = Un n fun i => if i = j then v else f i := by
 refine (Un_ext (by simp [Un_size]) fun i hi => ?_).symm
 rw [Array.getElem?_setIfInBounds]
 by_cases c : i = j
 ·subst c; rw [if_pos rfl, if_pos (by rw [Un_size]; exact hi), if_pos rfl]
 ·rw [if_neg (fun h => c h.symm), if_neg c, Un_get hi]
theorem Un_congr {n : Nat} {f g : Nat -> Nat} (h : ∀ j, j < n -> f j = g j) : Un n f = Un n g := Un_ext (Un_size n g) fun j hj => by rw [Un_get hj, h j hj]
theorem Un_one {n : Nat} {f : Nat -> Nat} : ∀ u ∈ (Un n f).toList, u.oneCell' = true := fun u hu => by
 simp only [Un, List.mem_map] at hu
 obtain ⟨j, _, rfl⟩ := hu
 rfl
theorem zero256 : Tryz.zeroCells65 = Un 256 fun _ => 0 := by kernel_rfl
theorem table {W : World} : Cn p_ 45 [] W [] (fun _ : Unit => .agg (Un 256 tbl)) (fun _ => []) := by
 (refine S.gzip_table_cn fun F => ?_; unfold S.gzip_table; simp only [ca_, na_])
 refine e_new (fun w => Tryz.zeroValue65 w) fun g0 => ?_
 refine e_new (fun w => Tryz.zeroValue65 w) fun g1 => ?_
 rw [cells_agg, zero256]
 refine e_loop1 (fun m y => (ex fun i : Nat => all [pu (m + i = 256 /\ y = .int .i64 (i : Int)), pt g1 (.cells (Un 256 fun j => if j < i then tbl j else 0) 65 (0, 0))]) :: pt g0 (.cells (Un 256 fun _ => 0) 65 (0, 0)) :: F) 256 ?_ ?_
 ·refine .ex 0 (.all ?_)
  (try simp only [ca_, na_, -eq_self])
  rw [Un_congr (f := fun j => if j < 0 then tbl j else 0) (g := fun _ => 0) (fun j _ => by simp)]
  refine .pu ⟨rfl, rfl⟩ ?_
  (repeat (first | exact .refl | exact .nil | (apply Imp.pick; (focus ((repeat constructor); done))) | refine .drop ?_))
 intro m ds y
 refine e_ex .here fun i => e_all .here ?_
 (try simp only [ca_, na_, -eq_self])
 refine e_pu .here fun hi => ?_
 obtain ⟨hmi, rfl⟩ := hi
 refine e_opN v_lss .nil ?_
 by_cases hlt : (i : Int) < 256
 ·rw [dT_ hlt]
  refine e_condT ?_
  refine e_opN (v_conv (q := .u32)) .nil ?_
  rw [wrapu32 (n := i) (by omega)]
  refine e_loop2 (fun m2 y z => pu (∃ k : Nat, m2 + k = 8 /\ y = .int .u32 (stps k i : Int) /\ z = .int .i64 (k : Int)) :: pt g1 (.cells (Un 256 fun j => if j < i then tbl j else 0) 65 (0, 0)) :: pt g0 (.cells (Un 256 fun _ => 0) 65 (0, 0)) :: F) 8 ?_ ?_
  ·refine .pu ⟨0, rfl, rfl, rfl⟩ ?_
   (repeat (first | exact .refl | exact .nil | (apply Imp.pick; (focus ((repeat constructor); done))) | refine .drop ?_))
  intro m2 ds y z
  refine e_pu .here fun hk => ?_
  obtain ⟨k, hmk, rfl, rfl⟩ := hk
  have hs := stps_lt k (c := i) (by omega)
  have hsn := stps_snoc k i
  refine e_opN v_lss .nil ?_
  by_cases hlk : (k : Int) < 8
  ·rw [dT_ hlk]
   refine e_condT ?_
   refine e_opN v_and .nil ?_
   rw [and1_32 hs]
   refine e_opN v_eql .nil ?_
   by_cases hodd : ((stps k i % 2 : Nat) : Int) = 1
   ·rw [dT_ hodd]
    refine e_condT ?_
    refine e_opN (v_shr (by decide)) .nil ?_
    rw [show (1 : Int) = ((1 : Nat) : Int) from rfl, shr32 (by omega)]
    refine e_opN v_xor .nil ?_
    rw [show (3988292384 : Int) = ((3988292384 : Nat) : Int) from rfl, xor32 (by omega) (by decide)]
    (refine e_opN (v_add (by omega) (by omega)) .nil ?_)
    refine e_next2 (m2 - 1) (by omega) (.pu ⟨k + 1, by omega, ?_, by rfl⟩ ?_)
    ·rw [hsn, stp, if_pos (by omega)]; rfl
    (repeat (first | exact .refl | exact .nil | (apply Imp.pick; (focus ((repeat constructor); done))) | refine .drop ?_))
   ·rw [dF_ hodd]
    refine e_condF ?_
    refine e_opN (v_shr (by decide)) .nil ?_
    rw [show (1 : Int) = ((1 : Nat) : Int) from rfl, shr32 (by omega)]
    (refine e_opN (v_add (by omega) (by omega)) .nil ?_)
    refine e_next2 (m2 - 1) (by omega) (.pu ⟨k + 1, by omega, ?_, by rfl⟩ ?_)
    ·rw [hsn, stp, if_neg (by omega)]
    (repeat (first | exact .refl | exact .nil | (apply Imp.pick; (focus ((repeat constructor); done))) | refine .drop ?_))
  have hk8 : k = 8 := by omega
  subst hk8
  rw [dF_ hlk]
  refine e_condF ?_
  refine e_opN (v_iaA i rfl (by omega)) .nil ?_
  refine e_st (.here) (by rw [Un_size]; omega) ?_
  rw [Un_set, Nat.zero_add, Nat.mul_one]
  (refine e_opN (v_add (by omega) (by omega)) .nil ?_)
  refine e_next1 (m - 1) (by omega) (.ex (i + 1) (.all ?_))
  (try simp only [ca_, na_, -eq_self])
  rw [Un_congr (f := fun j => if j < i + 1 then tbl j else 0) (g := fun j => if j = i then stps 8 i else if j < i then tbl j else 0) (fun j _ => by
   by_cases c : j = i
   ·subst c; rw [if_pos (by omega), if_pos rfl]; exact tbl_eq _
   ·rw [if_neg c]
    by_cases d : j < i
    ·rw [if_pos (by omega), if_pos d]
    ·rw [if_neg (by omega), if_neg d])]
  refine .pu ⟨by omega, by rfl⟩ ?_
  (repeat (first | exact .refl | exact .nil | (apply Imp.pick; (focus ((repeat constructor); done))) | refine .drop ?_))
 have hi256 : i = 256 := by omega
 subst hi256
 rw [dF_ hlt, Un_congr (f := fun j => if j < 256 then tbl j else 0) (g := tbl) (fun j hj => if_pos hj)]
 refine e_condF ?_
 refine e_opN (v_ldAgg (Un_size _ _)) (.pick (by repeat constructor) .nil) ?_
 refine e_stAgg (.there .here) (Un_size _ _) (Un_size _ _) Un_one ?_
 refine e_stS (v_resA (Un_size _ _)) (.pick (by repeat constructor) .nil) ?_
 (first | refine e_ret (()) rfl ?_ | refine e_retT (()) ?_)
 (repeat (first | exact .refl | exact .nil | (apply Imp.pick; (focus ((repeat constructor); done))) | refine .drop ?_))
theorem bl_one (l : List UInt8) : ∀ u ∈ (l.map Sl.B).toArray.toList, u.oneCell' = true := by
 rw [List.toList_toArray]
 exact B_one
theorem add {W : World} {s : Nat} {a : Option Addr} {c : Nat} {b : List UInt8} {A : HP} (hs : s < 4294967296) (hr : RdB W A a b.length (b.map Sl.B)) (hb : b.length <= 4611686018427387904) :
  Cn p_ 15 [.int .u32 (s : Int), .slice a b.length c] W [A] (fun _ : Unit => .int .u32 (addF s b : Int)) (fun _ => [A]) := by
 (refine S.gzip_Add_cn fun F => ?_; unfold S.gzip_Add; simp only [ca_, na_])
 (refine' e_call (table) ?hp fun _ => ?_; (case hp => (repeat (first | exact Picks.nil | (apply Picks.cons; (focus repeat constructor))))); (try simp only [ca_, na_, Bool.not_true, Bool.not_false]))
 refine e_new (fun w => Tryz.zeroValue65 w) fun g0 => ?_
 rw [cells_agg, zero256]
 refine e_stAgg .here (Un_size _ _) (Un_size _ _) Un_one ?_
 refine e_opN (v_inv hs) .nil ?_
 refine e_opN v_len .nil ?_
 refine e_loop2 (fun m y z => pu (∃ i : Nat, m + i = b.length /\ y = .int .u32 (crcF (inv s) (b.take i) : Int) /\ z = .int .i64 (i : Int)) :: pt g0 (.cells (Un 256 tbl) 65 (0, 0)) :: A :: F) b.length ?_ ?_
 ·refine .pu ⟨0, by omega, rfl, rfl⟩ ?_
  (repeat (first | exact .refl | exact .nil | (apply Imp.pick; (focus ((repeat constructor); done))) | refine .drop ?_))
 intro m ds y z
 refine e_pu .here fun hk => ?_
 obtain ⟨i, hmi, rfl, rfl⟩ := hk
 refine e_opN v_lss .nil ?_
 by_cases hlt : (i : Int) < (b.length : Int)
 ·rw [dT_ hlt]
  have hi : i < b.length := by omega
  obtain ⟨g, o, rfl, _⟩ := hr.at_ (by omega)
  have hst : crcF (inv s) (b.take (i + 1)) = tbl ((crcF (inv s) (b.take i) % 256) ^^^ b[i].toNat) ^^^ (crcF (inv s) (b.take i) / 256) := by
   rw [List.take_succ_eq_append_getElem hi, crcF_snoc]
  have hcl := crcF_lt (b.take i) (inv_lt hs)
  obtain ⟨C, hC⟩ : ∃ C, C = crcF (inv s) (b.take i) := ⟨_, rfl⟩
  rw [<- hC] at hst hcl ⊢
  have hx := b[i].toNat_lt
  refine e_condT ?_
  refine e_opN (v_ia1 i rfl hi) .nil ?_
  refine e_opN (v_ldRd hr (v := .int .u8 (b[i].toNat : Int)) (B_get hi)) (.pick (by repeat constructor) .nil) ?_
  refine e_opN (v_conv (q := .u8)) .nil ?_
  rw [wrapu8m]
  refine e_opN v_xor .nil ?_
  rw [xor8 (by omega) hx]
  have hxl := xor_lt8 (a := C % 256) (b := b[i].toNat) (by omega) hx
  refine e_opN (v_iaA _ rfl hxl) .nil ?_
  have hld : (Un 256 tbl)[0 + ((C % 256) ^^^ b[i].toNat) * 1]? = some (.int .u32 (tbl ((C % 256) ^^^ b[i].toNat) : Int)) := by rw [Nat.zero_add, Nat.mul_one]; exact Un_get hxl
  refine e_opN (v_ld hld) (.pick (by repeat constructor) .nil) ?_
  refine e_opN (v_shr (by decide)) .nil ?_
  rw [show (8 : Int) = ((8 : Nat) : Int) from rfl, shr32 (by omega)]
  refine e_opN v_xor .nil ?_
  rw [xor32 (tbl_lt hxl) (by omega), show C / 2 ^ 8 = C / 256 from rfl, <- hst]
  refine e_opN (v_add (by omega) (by omega)) .nil ?_
  refine e_next2 (m - 1) (by omega) (.pu ⟨i + 1, by omega, rfl, rfl⟩ ?_)
  (repeat (first | exact .refl | exact .nil | (apply Imp.pick; (focus ((repeat constructor); done))) | refine .drop ?_))
 have hie : i = b.length := by omega
 subst hie
 have hcl := crcF_lt b (inv_lt hs)
 rw [dF_ hlt, List.take_length]
 refine e_condF ?_
 refine e_opN (v_inv hcl) .nil ?_
 (first | refine e_ret (()) rfl ?_ | refine e_retT (()) ?_)
 (repeat (first | exact .refl | exact .nil | (apply Imp.pick; (focus ((repeat constructor); done))) | refine .drop ?_))
theorem crc_ {W : World} {a : Option Addr} {c : Nat} {b : List UInt8} {A : HP} (hr : RdB W A a b.length (b.map Sl.B)) (hb : b.length <= 4611686018427387904) :
  Cn p_ 13 [.slice a b.length c] W [A] (fun _ : Unit => .int .u32 (crc b : Int)) (fun _ => [A]) := by
 (refine S.gzip_Crc_cn fun F => ?_; unfold S.gzip_Crc; simp only [ca_, na_])
 (refine' e_call (add (s := 0) (by decide) hr hb) ?hp fun _ => ?_; (case hp => (repeat (first | exact Picks.nil | (apply Picks.cons; (focus repeat constructor))))); (try simp only [ca_, na_, Bool.not_true, Bool.not_false]))
 (first | refine e_ret (()) rfl ?_ | refine e_retT (()) ?_)
 exact .refl
theorem four_ {W : World} {n : Nat} {a : Option Addr} {c : Nat} {b : List UInt8} (hn : n < 4294967296) (hb : b.length <= 70368744177664) :
  Cn p_ 40 [.slice a b.length c, .int .u32 (n : Int)] W [Sl 1 5 a c b.length (b.map Sl.B)] (fun q : Option Addr × Nat => .slice q.1 (b ++ four n).length q.2) (fun q => [Sl 1 5 q.1 q.2 (b ++ four n).length ((b ++ four n).map Sl.B)]) := by
 (refine S.gzip_four_cn fun F => ?_; unfold S.gzip_four; simp only [ca_, na_])
 refine e_opN (v_conv (q := .u8)) .nil ?_
 rw [wrapu8m]
 refine e_opN (v_shr (by decide)) .nil ?_
 rw [show (8 : Int) = ((8 : Nat) : Int) from rfl, shr32 (by omega)]
 refine e_opN (v_conv (q := .u8)) .nil ?_
 rw [wrapu8m]
 refine e_opN (v_shr (by decide)) .nil ?_
 rw [show (16 : Int) = ((16 : Nat) : Int) from rfl, shr32 (by omega)]
 refine e_opN (v_conv (q := .u8)) .nil ?_
 rw [wrapu8m]
 refine e_opN (v_shr (by decide)) .nil ?_
 rw [show (24 : Int) = ((24 : Nat) : Int) from rfl, shr32 (by omega)]
 refine e_opN (v_conv (q := .u8)) .nil ?_
 rw [wrapu8m]
 have hf : (four n).map Sl.B = [.int .u8 ((n % 256 : Nat) : Int), .int .u8 ((n / 2 ^ 8 % 256 : Nat) : Int), .int .u8 ((n / 2 ^ 16 % 256 : Nat) : Int), .int .u8 ((n / 2 ^ 24 % 256 : Nat) : Int)] := by
  unfold four
  simp only [List.map_cons, List.map_nil]
  rw [Go.Proofs.YthoeeahdkdcceaaGreat.M.B_ofNat (by omega), Go.Proofs.YthoeeahdkdcceaaGreat.M.B_ofNat (by omega), Go.Proofs.YthoeeahdkdcceaaGreat.M.B_ofNat (by omega), Go.Proofs.YthoeeahdkdcceaaGreat.M.B_ofNat (by omega)]
 refine e_bslN (vs := (four n).map Sl.B) rfl (by rw [hf]; rfl) (by intro v hv; obtain ⟨c, _, rfl⟩ := List.mem_map.1 hv; rfl) (by omega) fun gd => ?_
 refine e_app (m := 4) (news := (four n).map Sl.B) (.there .here) (src_pt (s := 1) (e' := 5) (by kernel_rfl) .here (by rfl) (bl_one (four n))) (by omega) (by omega) fun a2 c2 => ?_
 rw [<- List.map_append, show b.length + 4 = (b ++ four n).length by rw [List.length_append, show (four n).length = 4 from rfl]]
 (first | refine e_ret ((a2, c2)) rfl ?_ | refine e_retT ((a2, c2)) ?_)
 (repeat (first | exact .refl | exact .nil | (apply Imp.pick; (focus ((repeat constructor); done))) | refine .drop ?_))
theorem head_ {W : World} {n : Int} : Cn p_ 41 [.int .i64 n] W [] (fun q : Option Addr × Nat => .slice q.1 (gzH (n % 4294967296).toNat).length q.2) (fun q => [Sl 1 5 q.1 q.2 (gzH (n % 4294967296).toNat).length ((gzH (n % 4294967296).toNat).map Sl.B)]) := by
 obtain ⟨m, hm⟩ : ∃ m, m = (n % 4294967296).toNat := ⟨_, rfl⟩
 have hml : m < 4294967296 := by omega
 rw [<- hm]
 (refine S.gzip_head_cn fun F => ?_; unfold S.gzip_head; simp only [ca_, na_])
 refine e_bslN (vs := ([31, 139, 8, 0] : List UInt8).map Sl.B) rfl rfl (by intro v hv; obtain ⟨c, _, rfl⟩ := List.mem_map.1 hv; rfl) (by omega) fun g1 => ?_
 refine e_opN (v_conv (q := .u32)) .nil ?_
 rw [wrapu32m, <- hm]
 refine e_own (s := 1) (e := 5) (cs := ([31, 139, 8, 0] : List UInt8).map Sl.B) (n := 4) .here rfl (by decide) ?_
 (refine' e_call (four_ (a := some ⟨g1, 0, none⟩) (c := 4) (b := [31, 139, 8, 0]) hml (by decide)) ?hp fun _ => ?_; (case hp => (repeat (first | exact Picks.nil | (apply Picks.cons; (focus repeat constructor))))); (try simp only [ca_, na_, Bool.not_true, Bool.not_false]))
 rename_i q
 obtain ⟨qa, qc⟩ := q
 (try dsimp only)
 refine e_bslN (vs := ([0, 255] : List UInt8).map Sl.B) rfl rfl (by intro v hv; obtain ⟨c, _, rfl⟩ := List.mem_map.1 hv; rfl) (by omega) fun gd => ?_
 have h8 : (31 :: 139 :: 8 :: 0 :: four m).length = 8 := rfl
 refine e_app (m := 2) (news := ([0, 255] : List UInt8).map Sl.B) (.there .here) (src_pt (s := 1) (e' := 5) (by kernel_rfl) .here (by rfl) (bl_one [0, 255])) (by rw [h8]; omega) (by rw [h8]; omega) fun a2 c2 => ?_
 rw [<- List.map_append, show (31 :: 139 :: 8 :: 0 :: four m).length + 2 = (gzH m).length from rfl, show (31 :: 139 :: 8 :: 0 :: four m) ++ [0, 255] = gzH m from rfl]
 (first | refine e_ret ((a2, c2)) rfl ?_ | refine e_retT ((a2, c2)) ?_)
 (repeat (first | exact .refl | exact .nil | (apply Imp.pick; (focus ((repeat constructor); done))) | refine .drop ?_))
theorem gzH_len (m : Nat) : (gzH m).length = 10 := rfl
theorem pack {W : World} {a : Option Addr} {c : Nat} {b : List UInt8} {A : HP} {level mtime : Int} (hr : RdB W A a b.length (b.map Sl.B)) (hc : b.length <= c) (hb : b.length <= 4611686018427387904) :
  Cn p_ 10 [.slice a b.length c, .int .i64 level, .int .i64 mtime] W [A] (fun q : Option Addr × Nat => .tuple #[.slice q.1 (pkB b level mtime).length q.2, .int .i64 (pkE b level mtime)]) (fun q => [Sl 1 5 q.1 q.2 (pkB b level mtime).length ((pkB b level mtime).map Sl.B), A]) := by
 have bad : ∀ (e : Int) (L : List HP), pkE b level mtime = e -> e ≠ 0 -> Ent W (A :: L) (fun w => ∃ q : Option Addr × Nat, (.tuple #[.slice none 0 0, .int .i64 e] : Value) = .tuple #[.slice q.1 (pkB b level mtime).length q.2, .int .i64 (pkE b level mtime)] /\ sat W ([Sl 1 5 q.1 q.2 (pkB b level mtime).length ((pkB b level mtime).map Sl.B), A] ++ L) w) := by
  intro e L h h0
  have hv : pkB b level mtime = [] := by unfold pkB; rw [if_neg (by rw [h]; exact h0)]
  rw [h, hv]
  refine e_ret (none, 0) rfl ?_
  exact imp_nil .refl
 (refine S.gzip_Pack_cn fun F => ?_; unfold S.gzip_Pack; simp only [ca_, na_])
 refine e_opN v_lss .nil ?_
 by_cases h0 : mtime < 0
 ·rw [dT_ h0]
  refine e_gdF1 ?_; refine e_gdF1 ?_; refine e_opN v_pickT .nil ?_; refine e_condT ?_
  exact bad 1 F (by unfold pkE; rw [if_pos (.inl h0)]) (by decide)
 rw [dF_ h0]
 refine e_gdT ?_; refine e_gdT ?_
 refine e_opN v_gtr .nil ?_
 by_cases h1 : 4294967295 < mtime
 ·rw [dT_ h1]
  refine e_opN v_pickF .nil ?_; refine e_condT ?_
  exact bad 1 F (by unfold pkE; rw [if_pos (.inr h1)]) (by decide)
 rw [dF_ h1]
 have hE : pkE b level mtime = dflE b level := by unfold pkE; rw [if_neg (by omega)]
 refine e_opN v_pickF .nil ?_; refine e_condF ?_
 refine e_call (deflate (c := c) (level := level) hr hc) (.cons (by repeat constructor) .nil) fun q => ?_
 obtain ⟨qa, qc⟩ := q
 (try simp only [ca_, na_, -eq_self])
 (try dsimp only)
 refine e_opN (v_ext (v := .slice qa (dflB b level).length qc) rfl) .nil ?_
 refine e_opN (v_ext (v := .int .i64 (dflE b level)) rfl) .nil ?_
 refine e_opN v_neq .nil ?_
 by_cases hd : dflE b level = 0
 rotate_left
 ·rw [dT_ hd]
  refine e_condT ?_
  refine e_imp (M := A :: F) (by (repeat (first | exact .refl | exact .nil | (apply Imp.pick; (focus ((repeat constructor); done))) | refine .drop ?_))) ?_
  exact bad _ F hE hd
 rw [dF_ (fun h => h hd)]
 have hpb : pkB b level mtime = gzH mtime.toNat ++ dflB b level ++ gzT b := by unfold pkB; rw [if_pos (by rw [hE]; exact hd)]
 have hbl := (dflE_0 hd).2.2
 have hdl := dfl_small hd
 refine e_condF ?_
 (refine' e_call (head_ (n := mtime)) ?hp fun _ => ?_; (case hp => (repeat (first | exact Picks.nil | (apply Picks.cons; (focus repeat constructor))))); (try simp only [ca_, na_, Bool.not_true, Bool.not_false]))
 rename_i q2
 obtain ⟨ha, hc2⟩ := q2
 (try dsimp only)
 rw [show mtime % 4294967296 = mtime from Int.emod_eq_of_lt (by omega) (by omega)]
 have hhl := gzH_len mtime.toNat
 obtain ⟨D, hD⟩ : ∃ D, D = dflB b level := ⟨_, rfl⟩
 rw [<- hD] at hdl hpb ⊢
 obtain ⟨H0, hH0⟩ : ∃ H0, H0 = gzH mtime.toNat := ⟨_, rfl⟩
 rw [<- hH0] at hhl hpb ⊢
 have hDl : D.length <= 1048576 := by omega
 clear hdl
 refine e_slfacts (by (repeat constructor) : Pick _ (Sl 1 5 qa qc D.length (D.map Sl.B)) _) fun _ g2 g3 g4 => ?_
 have hrD : RdB W (Sl 1 5 qa qc D.length (D.map Sl.B)) qa D.length (D.map Sl.B) := rd_sl (by rw [List.length_map]) g4
 refine e_app (m := D.length) (news := D.map Sl.B) .here (src_rd (A := Sl 1 5 qa qc D.length (D.map Sl.B)) (e' := 5) (by kernel_rfl) (by repeat constructor) hrD (rd_none_ hrD) B_one) (by omega) (by omega) fun a3 c3 => ?_
 rw [<- List.map_append, <- List.length_append]
 refine e_call (crc_ (c := c) hr hb) (.cons (by repeat constructor) .nil) fun _ => ?_
 (try simp only [ca_, na_, -eq_self])
 (refine' e_call (four_ (a := a3) (c := c3) (b := H0 ++ D) (crc_lt b) (by rw [List.length_append]; omega)) ?hp fun _ => ?_; (case hp => (repeat (first | exact Picks.nil | (apply Picks.cons; (focus repeat constructor))))); (try simp only [ca_, na_, Bool.not_true, Bool.not_false]))
 rename_i q4
 obtain ⟨a4, c4⟩ := q4
 (try dsimp only)
 refine e_opN v_len .nil ?_
 refine e_opN (v_conv (q := .u32)) .nil ?_
 rw [wrapu32m, show ((b.length : Int) % 4294967296).toNat = b.length % 4294967296 by omega]
 (refine' e_call (four_ (a := a4) (c := c4) (b := H0 ++ D ++ four (crc b)) (n := b.length % 4294967296) (by omega) (by rw [List.length_append, List.length_append]; have : (four (crc b)).length = 4 := rfl; omega)) ?hp fun _ => ?_; (case hp => (repeat (first | exact Picks.nil | (apply Picks.cons; (focus repeat constructor))))); (try simp only [ca_, na_, Bool.not_true, Bool.not_false]))
 rename_i q5
 obtain ⟨a5, c5⟩ := q5
 (try dsimp only)
 have hfin : H0 ++ D ++ four (crc b) ++ four (b.length % 4294967296) = pkB b level mtime := by rw [hpb]; unfold gzT; simp only [List.append_assoc]
 rw [hfin, hE, hd]
 (first | refine e_ret ((a5, c5)) rfl ?_ | refine e_retT ((a5, c5)) ?_)
 (repeat (first | exact .refl | exact .nil | (apply Imp.pick; (focus ((repeat constructor); done))) | refine .drop ?_))
end Go.Proofs.YthoeeahdkdcceaaGreat.GZ
namespace Go.Proofs.YthoeeahdkdcceaaGreat.Sl
open Go Go.RowKit Sh
variable {P : Program} {W : World} {L L' : List HP} {Kp : PK} {k : Value -> WP}
theorem e_bconst {t e e' : TypeId} {g n c : Nat} {cs : Array Value} (ht : P.underlying t = some (.slice e)) (he : P.underlying e = some (.int .u8)) (p : Pick L (pt g (.cells cs e' (0, 0))) L')
  (h : Ent W (pt g (.cells cs e' (cs.size, cs.size + 1)) :: L') (k (.slice (some ⟨g, 0, none⟩) n c))) : Ent W L (opN P (sConv t t (.slice (some ⟨g, 0, none⟩) n c)) Kp k) := fun w hw => by
 have hp := hw.pick p
 have hg := hp.pt_.1
 have hsh : w.shape? g = some (e', cs.size) := by unfold World.shape?; rw [hg]
 have hrun : (sConv t t (.slice (some ⟨g, 0, none⟩) n c)).run P w = .ok (.value (.slice (some ⟨g, 0, none⟩) n c)) (w.freeze ⟨g, cs.size, none⟩ 1) := by
  simp [sConv, convert, run_underlying ht, run_underlying he, markStringish, hsh]
 refine ⟨?_⟩
 rw [hrun]
 refine h _ (hp.turn (w' := w.freeze ⟨g, cs.size, none⟩ 1) rfl rfl rfl ?_ ?_ ?_)
 ·simp [World.freeze]
 ·simp [World.freeze, Array.getElem?_modify, hg]
 ·intro i hi
  simp only [World.freeze]
  rw [if_neg (by decide), Array.getElem?_modify, if_neg (fun c => hi c.symm)]
end Go.Proofs.YthoeeahdkdcceaaGreat.Sl
namespace Go.Proofs.YthoeeahdkdcceaaGreat.GZ
open Go Go.Proofs Go.RowKit Sh Sl T IF
theorem num7 {W : World} {n : Int} : Cn p_ 12 [.int .i64 n] W [] (fun _ : Unit => .int .i64 n) (fun _ => []) := by
 (refine S.law07_num_cn fun F => ?_; unfold S.law07_num; simp only [ca_, na_])
 (first | refine e_ret (()) rfl ?_ | refine e_retT (()) ?_)
 exact .refl
def knC : List UInt8 := [49, 50, 51, 52, 53, 54, 55, 56, 57]
def knP : List UInt8 := [31, 139, 8, 0, 0, 0, 0, 0, 0, 255, 3, 0, 0, 0, 0, 0, 0, 0, 0, 0]
set_option maxRecDepth 100000 in
theorem kn7a : crc knC = 3421780262 := by decide +kernel
set_option maxRecDepth 100000 in
theorem kn7b : pkE [] 6 0 = 0 /\ pkB [] 6 0 = knP := by
 have : decide (pkE [] 6 0 = 0 /\ pkB [] 6 0 = knP) = true := by decide +kernel
 exact of_decide_eq_true this
theorem knows7 {W : World} : Cn p_ 18 [] W [] (fun _ : Unit => .bool true) (fun _ => []) := by
 have h1 := pack (W := W) (a := none) (c := 0) (b := []) (A := pu True) (level := 6) (mtime := 0) (rd_nil rfl) (by decide) (by decide)
 rw [kn7b.1, kn7b.2] at h1
 (refine S.law07_knows_cn fun F => ?_; unfold S.law07_knows; simp only [ca_, na_])
 refine e_imp (M := pu True :: F) (.pu trivial .refl) ?_
 (refine' e_call (h1) ?hp fun _ => ?_; (case hp => (repeat (first | exact Picks.nil | (apply Picks.cons; (focus repeat constructor))))); (try simp only [ca_, na_, Bool.not_true, Bool.not_false]))
 rename_i q
 obtain ⟨qa, qc⟩ := q
 (try dsimp only)
 (((refine' e_opN (v_extN ?hc) .nil ?_); (case hc => repeat constructor))); (((refine' e_opN (v_extN ?hc) .nil ?_); (case hc => repeat constructor)))
 (refine' e_call (num7) ?hp fun _ => ?_; (case hp => (repeat (first | exact Picks.nil | (apply Picks.cons; (focus repeat constructor))))); (try simp only [ca_, na_, Bool.not_true, Bool.not_false]))
 refine e_opN v_eql .nil ?_
 rw [dT_ (by decide)]
 refine e_gdT ?_; refine e_gdT ?_
 refine e_slsome .here (by decide) fun h2 hg2 => ?_
 subst hg2
 refine e_opN (v_str (l := knP) (rd_sl (by decide) (fun _ => ⟨h2, rfl⟩)) (fun c => by cases c)) (.pick (by repeat constructor) .nil) ?_
 refine e_gdT ?_
 refine e_opN (v_streq (l := knP) (m := knP)) .nil ?_
 rw [dT_ rfl]
 refine e_opN v_pickT .nil ?_; refine e_gdT ?_
 refine e_bslN (vs := knC.map Sl.B) rfl rfl (by intro v hv; obtain ⟨c, _, rfl⟩ := List.mem_map.1 hv; rfl) (by omega) fun g => ?_
 refine e_gdT ?_
 refine e_bconst (e := 5) (by kernel_rfl) (by kernel_rfl) .here ?_
 refine e_gdT ?_
 (refine' e_call (crc_ (c := 9) (b := knC) (rd_pt (by rfl)) (by decide)) ?hp fun _ => ?_; (case hp => (repeat (first | exact Picks.nil | (apply Picks.cons; (focus repeat constructor))))); (try simp only [ca_, na_, Bool.not_true, Bool.not_false]))
 rw [kn7a]
 refine e_gdT ?_
 refine e_opN v_eql .nil ?_
 rw [dT_ (by decide)]
 refine e_opN v_pickT .nil ?_
 (first | refine e_ret (()) rfl ?_ | refine e_retT (()) ?_)
 (repeat (first | exact .refl | exact .nil | (apply Imp.pick; (focus ((repeat constructor); done))) | refine .drop ?_))
end Go.Proofs.YthoeeahdkdcceaaGreat.GZ
namespace Go.Proofs.YthoeeahdkdcceaaGreat.GZ
open Go Go.Proofs Go.RowKit Sl IF
theorem xor_half (a b : Nat) : (a ^^^ b) / 2 = a / 2 ^^^ b / 2 := by
 apply Nat.eq_of_testBit_eq
 intro i
 simp only [Nat.testBit_xor, Nat.testBit_div_two]
theorem xor_par (a b : Nat) : (a ^^^ b) % 2 = (a % 2 + b % 2) % 2 := by
 have h := Nat.testBit_xor a b 0
 simp only [Nat.testBit_zero] at h
 have e : ∀ n : Nat, decide (n % 2 = 1) = true ↔ n % 2 = 1 := fun n => decide_eq_true_iff
 rcases Nat.mod_two_eq_zero_or_one a with ha | ha <;> rcases Nat.mod_two_eq_zero_or_one b with hb | hb <;> rcases Nat.mod_two_eq_zero_or_one (a ^^^ b) with hc | hc <;> simp_all
theorem xor_8 (r : Nat) {x : Nat} (hx : x < 256) : (r ^^^ x) % 256 = (r % 256) ^^^ x /\ (r ^^^ x) / 256 = r / 256 := by
 have hbig : ∀ i, 8 <= i -> x.testBit i = false := fun i hi => Nat.testBit_lt_two_pow (Nat.lt_of_lt_of_le hx (Nat.pow_le_pow_right (n := 2) (by decide) hi))
 constructor
 ·apply Nat.eq_of_testBit_eq
  intro i
  rw [show (256 : Nat) = 2 ^ 8 from rfl]
  simp only [Nat.testBit_mod_two_pow, Nat.testBit_xor]
  by_cases h : i < 8
  ·simp [h]
  ·simp [h, hbig i (by omega)]
 ·apply Nat.eq_of_testBit_eq
  intro i
  rw [show (256 : Nat) = 2 ^ 8 from rfl]
  simp only [Nat.testBit_div_two_pow, Nat.testBit_xor]
  rw [hbig _ (by omega)]
  simp
theorem stp_even (a b : Nat) : stp (a ^^^ (2 * b)) = stp a ^^^ b := by
 have h1 : (a ^^^ (2 * b)) / 2 = a / 2 ^^^ b := by rw [xor_half, Nat.mul_div_cancel_left _ (by decide)]
 have h2 : (a ^^^ (2 * b)) % 2 = a % 2 := by rw [xor_par]; omega
 unfold stp
 rw [h1, h2]
 split
 ·rw [Nat.xor_assoc, Nat.xor_comm b poly, <- Nat.xor_assoc]
 ·rfl
theorem stps_even : ∀ (k a b : Nat), stps k (a ^^^ (2 ^ k * b)) = stps k a ^^^ b
 | 0, a, b => by simp [stps]
 | k + 1, a, b => by
  rw [stps, stps, show 2 ^ (k + 1) * b = 2 * (2 ^ k * b) by rw [Nat.pow_succ, Nat.mul_comm (2 ^ k) 2, Nat.mul_assoc], stp_even, stps_even k]
theorem split8 (c : Nat) : c = (c % 256) ^^^ (2 ^ 8 * (c / 256)) := by
 apply Nat.eq_of_testBit_eq
 intro i
 rw [show (256 : Nat) = 2 ^ 8 from rfl, Nat.mul_comm]
 simp only [Nat.testBit_xor, Nat.testBit_mod_two_pow, Nat.testBit_mul_two_pow, Nat.testBit_div_two_pow]
 by_cases h : i < 8
 ·simp [h, show ¬ 8 <= i by omega]
 ·simp [h, show 8 <= i by omega]
theorem stps_byte (r : Nat) {x : Nat} (hx : x < 256) : stps 8 (r ^^^ x) = tbl ((r % 256) ^^^ x) ^^^ (r / 256) := by
 obtain ⟨h1, h2⟩ := xor_8 r hx
 rw [split8 (r ^^^ x), stps_even, h1, h2, tbl_eq]
def bitR (r x k : Nat) : Nat := stps k (r ^^^ x) ^^^ (x / 2 ^ k)
theorem bitR_0 (r x : Nat) : bitR r x 0 = r := by
 unfold bitR
 rw [stps, Nat.pow_zero, Nat.div_one, Nat.xor_assoc, Nat.xor_self, Nat.xor_zero]
theorem bitR_8 (r : Nat) {x : Nat} (hx : x < 256) : bitR r x 8 = tbl ((r % 256) ^^^ x) ^^^ (r / 256) := by
 unfold bitR
 rw [stps_byte r hx, show x / 2 ^ 8 = 0 by omega, Nat.xor_zero]
theorem bitR_lt {r x k : Nat} (hr : r < 4294967296) (hx : x < 256) : bitR r x k < 4294967296 := by
 unfold bitR
 exact xor_lt32 (stps_lt k (xor_lt32 hr (by omega))) (Nat.lt_of_le_of_lt (Nat.div_le_self _ _) (by omega))
theorem bitR_x (r x k : Nat) : bitR r x k ^^^ (x / 2 ^ k) = stps k (r ^^^ x) := by
 unfold bitR; rw [Nat.xor_assoc, Nat.xor_self, Nat.xor_zero]
theorem bitR_succ (r x k : Nat) : bitR r x (k + 1) = if (bitR r x k ^^^ (x / 2 ^ k)) % 2 = 1 then (bitR r x k / 2) ^^^ poly else bitR r x k / 2 := by
 have e : x / 2 ^ (k + 1) = x / 2 ^ k / 2 := by rw [Nat.pow_succ, Nat.div_div_eq_div_mul]
 rw [bitR_x]
 have h : bitR r x (k + 1) = stp (stps k (r ^^^ x)) ^^^ (x / 2 ^ k / 2) := by unfold bitR; rw [stps_snoc, e]
 have h2 : bitR r x k / 2 = stps k (r ^^^ x) / 2 ^^^ (x / 2 ^ k / 2) := by unfold bitR; rw [xor_half]
 rw [h, h2]
 unfold stp
 split
 ·rw [Nat.xor_assoc, Nat.xor_comm poly, <- Nat.xor_assoc]
 ·rfl
end Go.Proofs.YthoeeahdkdcceaaGreat.GZ
namespace Go.Proofs.YthoeeahdkdcceaaGreat.IF
open Go Go.Proofs Go.RowKit Sh Sl T HM HF B M
def smL : Nat -> Nat
 | 0 => 11
 | j + 1 => smL j + 2 ^ ((265 + j - 261) / 4)
def smD : Nat -> Nat
 | 0 => 5
 | j + 1 => smD j + 2 ^ ((4 + j - 2) / 2)
theorem smL_ok : ∀ j : Fin 20, bL ((265 + j.1 : Nat) : Int) = ((smL j.1 : Int), (((265 + j.1 - 261) / 4 : Nat) : Int)) := by decide
theorem smD_ok : ∀ j : Fin 26, bD ((4 + j.1 : Nat) : Int) = ((smD j.1 : Int), (((4 + j.1 - 2) / 2 : Nat) : Int)) := by decide
theorem smL_b : ∀ j : Fin 20, smL j.1 <= 258 := by decide
theorem smD_b : ∀ j : Fin 26, smD j.1 <= 32768 := by decide
theorem lit_at (i : Nat) (h : i < 288) : litL[i]? = some (if 256 <= i /\ i < 280 then 7 else if 144 <= i /\ i < 256 then 9 else 8) := by
 have k : ∀ j : Fin 288, litL[j.1]? = some (if 256 <= j.1 /\ j.1 < 280 then 7 else if 144 <= j.1 /\ j.1 < 256 then 9 else 8) := by decide +kernel
 exact k ⟨i, h⟩
theorem dst_at (i : Nat) (h : i < 32) : dstL[i]? = some 5 := by
 have k : ∀ j : Fin 32, dstL[j.1]? = some 5 := by decide +kernel
 exact k ⟨i, h⟩
theorem take_snoc {l : List Int} {i : Nat} {v : Int} (h : l[i]? = some v) : l.take (i + 1) = l.take i ++ [v] := by
 rw [List.take_add_one, h]; rfl
theorem rfixed {W : World} : Cn p_ 93 [] W [] (fun q : (Option Addr × Nat) × (Option Addr × Nat) => .tuple #[.slice q.1.1 litL.length q.1.2, .slice q.2.1 dstL.length q.2.2]) (fun q => [Sl 1 3 q.1.1 q.1.2 litL.length (litL.map I), Sl 1 3 q.2.1 q.2.2 dstL.length (dstL.map I)]) := by
 have l1 : litL.length = 288 := by rw [lit_len]
 have l2 : dstL.length = 32 := by rw [dst_len]
 rw [l1, l2]
 (refine S.ref05_Fixed_cn fun F => ?_; unfold S.ref05_Fixed; simp only [ca_, na_])
 refine e_loop2 (fun m x y => (ex fun q : (Option Addr × Nat) × Nat => all [pu (m + q.2 = 288 /\ x = .slice q.1.1 q.2 q.1.2 /\ y = .int .i64 (q.2 : Int)), Sl 1 3 q.1.1 q.1.2 q.2 ((litL.take q.2).map I)]) :: F) 288 ?_ ?_
 ·refine .ex ((none, 0), 0) (.all ?_)
  (try simp only [ca_, na_, -eq_self])
  exact .pu ⟨rfl, rfl, rfl⟩ (imp_nil .refl)
 intro m ds x y
 refine e_ex .here fun q => e_all .here ?_
 obtain ⟨⟨qa, qc⟩, i⟩ := q
 (try simp only [ca_, na_, -eq_self])
 refine e_pu .here fun hi => ?_
 (try dsimp only at hi)
 (try dsimp only)
 obtain ⟨hmi, rfl, rfl⟩ := hi
 refine e_ask v_lss .nil (fun h => ?_) (fun h => ?_)
 ·have hi : i < 288 := by omega
  have hv := lit_at i hi
  refine e_condT ?_
  refine e_cut1 (fun v => pu (v = .int .i64 (if 144 <= i /\ i < 256 then 9 else 8)) :: Sl 1 3 qa qc i ((litL.take i).map I) :: F) ?_ ?_
  rotate_left
  ·refine e_ask v_geq .nil (fun h1 => ?_) (fun h1 => ?_)
   ·refine e_gdT ?_
    refine e_gdT ?_
    refine e_opN v_lss .nil ?_
    refine e_opN v_pickT .nil ?_
    by_cases c : (i : Int) < 256
    ·rw [dT_ c]
     refine e_condT ?_
     exact e_sat (.pu (by rw [if_pos (show 144 <= i /\ i < 256 by omega)]) .refl)
    ·rw [dF_ c]
     refine e_condF ?_
     exact e_sat (.pu (by rw [if_neg (show ¬ (144 <= i /\ i < 256) by omega)]) .refl)
   ·(refine e_gdF2 ?_); refine e_gdF2 ?_; refine e_opN v_pickF .nil ?_; refine e_condF ?_
    exact e_sat (.pu (by rw [if_neg (show ¬ (144 <= i /\ i < 256) by omega)]) .refl)
  intro ds1 z
  refine e_pu .here fun hz => ?_
  subst hz
  refine e_cut1 (fun v => pu (v = .int .i64 (if 256 <= i /\ i < 280 then 7 else if 144 <= i /\ i < 256 then 9 else 8)) :: Sl 1 3 qa qc i ((litL.take i).map I) :: F) ?_ ?_
  rotate_left
  ·refine e_ask v_geq .nil (fun h1 => ?_) (fun h1 => ?_)
   ·refine e_gdT ?_
    refine e_gdT ?_
    refine e_opN v_lss .nil ?_
    refine e_opN v_pickT .nil ?_
    by_cases c : (i : Int) < 280
    ·rw [dT_ c]
     refine e_condT ?_
     exact e_sat (.pu (by rw [if_pos (show 256 <= i /\ i < 280 by omega)]) .refl)
    ·rw [dF_ c]
     refine e_condF ?_
     exact e_sat (.pu (by rw [if_neg (show ¬ (256 <= i /\ i < 280) by omega)]) .refl)
   ·(refine e_gdF2 ?_); refine e_gdF2 ?_; refine e_opN v_pickF .nil ?_; refine e_condF ?_
    exact e_sat (.pu (by rw [if_neg (show ¬ (256 <= i /\ i < 280) by omega)]) .refl)
  intro ds2 z
  refine e_pu .here fun hz => ?_
  subst hz
  obtain ⟨v, hvE⟩ : ∃ v : Int, v = (if 256 <= i /\ i < 280 then 7 else if 144 <= i /\ i < 256 then 9 else 8) := ⟨_, rfl⟩
  rw [<- hvE] at hv ⊢
  refine e_bsl1 fun g => ?_
  refine e_app (m := 1) (news := [I v]) (by repeat constructor) (src_pt (e' := 3) (by kernel_rfl) .here (by rfl) (I_one (l := [v]))) (by omega) (by omega) fun a' c' => ?_
  refine e_opN (v_add (by omega) (by omega)) .nil ?_
  refine e_next2 (m - 1) (by omega) (.ex ((a', c'), i + 1) (.all ?_))
  (try simp only [ca_, na_, -eq_self])
  refine .pu ⟨by (try dsimp only); omega, rfl, rfl⟩ ?_
  (try dsimp only)
  rw [take_snoc hv, List.map_append]
  exact .pick (by repeat constructor) (by (repeat (first | exact .refl | exact .nil | (apply Imp.pick; (focus ((repeat constructor); done))) | refine .drop ?_)))
 have hie : i = 288 := by omega
 subst hie
 refine e_condF ?_
 rw [List.take_of_length_le (by omega)]
 refine e_loop2 (fun m x y => (ex fun q : (Option Addr × Nat) × Nat => all [pu (m + q.2 = 32 /\ x = .slice q.1.1 q.2 q.1.2 /\ y = .int .i64 (q.2 : Int)), Sl 1 3 q.1.1 q.1.2 q.2 ((dstL.take q.2).map I)]) :: Sl 1 3 qa qc 288 (litL.map I) :: F) 32 ?_ ?_
 ·refine .ex ((none, 0), 0) (.all ?_)
  (try simp only [ca_, na_, -eq_self])
  exact .pu ⟨rfl, rfl, rfl⟩ (imp_nil .refl)
 intro m ds x y
 refine e_ex .here fun q => e_all .here ?_
 obtain ⟨⟨ra, rc⟩, i⟩ := q
 (try simp only [ca_, na_, -eq_self])
 refine e_pu .here fun hi => ?_
 (try dsimp only at hi)
 (try dsimp only)
 obtain ⟨hmi, rfl, rfl⟩ := hi
 refine e_ask v_lss .nil (fun h => ?_) (fun h => ?_)
 ·have hi : i < 32 := by omega
  have hv := dst_at i hi
  refine e_condT ?_
  refine e_bsl1 fun g => ?_
  refine e_app (m := 1) (news := [I 5]) (by repeat constructor) (src_pt (e' := 3) (by kernel_rfl) .here (by rfl) (I_one (l := [5]))) (by omega) (by omega) fun a' c' => ?_
  refine e_opN (v_add (by omega) (by omega)) .nil ?_
  refine e_next2 (m - 1) (by omega) (.ex ((a', c'), i + 1) (.all ?_))
  (try simp only [ca_, na_, -eq_self])
  refine .pu ⟨by (try dsimp only); omega, rfl, rfl⟩ ?_
  (try dsimp only)
  rw [take_snoc hv, List.map_append]
  exact .pick (by repeat constructor) (by (repeat (first | exact .refl | exact .nil | (apply Imp.pick; (focus ((repeat constructor); done))) | refine .drop ?_)))
 have hie : i = 32 := by omega
 subst hie
 refine e_condF ?_
 rw [List.take_of_length_le (show dstL.length <= 32 by omega)]
 refine e_ret ((qa, qc), (ra, rc)) rfl ?_
 (repeat (first | exact .refl | exact .nil | (apply Imp.pick; (focus ((repeat constructor); done))) | refine .drop ?_))
theorem rbaseLength {W : World} {s : Int} (h0 : 0 <= s /\ s <= 1048576) : Cn p_ 146 [.int .i64 s] W [] (fun _ : Unit => .tuple #[.int .i64 (bL s).1, .int .i64 (bL s).2]) (fun _ => []) := by
 (refine S.ref04_BaseLength_cn fun F => ?_; unfold S.ref04_BaseLength; simp only [ca_, na_])
 refine e_opN v_lss .nil ?_
 by_cases c1 : s < 257
 ·rw [dT_ c1, show bL s = (0, 0) from if_pos (by omega)]
  refine e_gdF1 ?_; refine e_gdF1 ?_; refine e_opN v_pickT .nil ?_; refine e_condT ?_
  (first | refine e_ret (()) rfl ?_ | refine e_retT (()) ?_)
  exact .refl
 rw [dF_ c1]
 refine e_gdT ?_
 refine e_gdT ?_
 refine e_opN v_gtr .nil ?_
 refine e_opN v_pickF .nil ?_
 by_cases c2 : 285 < s
 ·rw [dT_ c2, show bL s = (0, 0) from if_pos (by omega)]
  refine e_condT ?_
  (first | refine e_ret (()) rfl ?_ | refine e_retT (()) ?_)
  exact .refl
 rw [dF_ c2]
 refine e_condF ?_
 refine e_opN v_eql .nil ?_
 by_cases c3 : s = 285
 ·rw [dT_ c3]
  subst c3
  refine e_condT ?_
  (first | refine e_ret (()) rfl ?_ | refine e_retT (()) ?_)
  exact .refl
 rw [dF_ c3]
 refine e_condF ?_
 refine e_opN v_lss .nil ?_
 by_cases c4 : s < 265
 ·rw [dT_ c4, show bL s = (s - 257 + 3, 0) by unfold bL; rw [if_neg (by omega), if_neg (by omega), if_pos (by omega)]]
  refine e_condT ?_
  refine e_opN (v_sub (by omega) (by omega)) .nil ?_
  rw [show s - 254 = s - 257 + 3 by omega]
  (first | refine e_ret (()) rfl ?_ | refine e_retT (()) ?_)
  exact .refl
 rw [dF_ c4]
 refine e_condF ?_
 obtain ⟨t, ht⟩ : ∃ t : Nat, s = ((265 + t : Nat) : Int) := ⟨(s - 265).toNat, by omega⟩
 have ht20 : t < 20 := by omega
 subst ht
 have hb := smL_ok ⟨t, ht20⟩
 (try dsimp only at hb)
 refine e_opN (v_sub (by omega) (by omega)) .nil ?_
 refine e_opN (v_quo (by omega) (by omega) (by omega)) .nil ?_
 rw [show (((265 + t : Nat) : Int) - 261) / 4 = (((265 + t - 261) / 4 : Nat) : Int) by omega, hb]
 refine e_loop2 (fun m x y => (ex fun j : Nat => pu (m + j = t /\ x = .int .i64 (smL j : Int) /\ y = .int .i64 ((265 + j : Nat) : Int))) :: F) t ?_ ?_
 ·exact .ex 0 (.pu ⟨rfl, rfl, rfl⟩ .refl)
 intro m ds x y
 refine e_ex .here fun j => e_pu .here fun hj => ?_
 obtain ⟨hmj, rfl, rfl⟩ := hj
 refine e_ask v_lss .nil (fun h => ?_) (fun h => ?_)
 ·have hs := smL_b ⟨j, by omega⟩
  have hs1 := smL_b ⟨j + 1, by omega⟩
  (try dsimp only at hs)
  (try dsimp only at hs1)
  have e1 : smL (j + 1) = smL j + 2 ^ ((265 + j - 261) / 4) := rfl
  refine e_condT ?_
  refine e_opN (v_sub (by omega) (by omega)) .nil ?_
  refine e_opN (v_quo (by omega) (by omega) (by omega)) .nil ?_
  rw [show (((265 + j : Nat) : Int) - 261) / 4 = (((265 + j - 261) / 4 : Nat) : Int) by omega]
  refine e_opN v_conv .nil ?_
  rw [wrapu64' (by omega) (by omega)]
  refine e_opN (v_shl (by omega)) .nil ?_
  rw [shl64 (by omega) (by omega) (by omega), Int.one_mul]
  generalize 2 ^ ((265 + j - 261) / 4) = Z at e1 ⊢
  refine e_opN (v_add (by omega) (by omega)) .nil ?_
  refine e_opN (v_add (by omega) (by omega)) .nil ?_
  exact e_next2 (m - 1) (by omega) (.ex (j + 1) (.pu ⟨by omega, by rw [e1]; rfl, rfl⟩ .refl))
 ·have hjt : j = t := by omega
  subst hjt
  refine e_condF ?_
  (first | refine e_ret (()) rfl ?_ | refine e_retT (()) ?_)
  exact .refl
theorem rbaseDistance {W : World} {s : Int} (h0 : 0 <= s /\ s <= 1048576) : Cn p_ 147 [.int .i64 s] W [] (fun _ : Unit => .tuple #[.int .i64 (bD s).1, .int .i64 (bD s).2]) (fun _ => []) := by
 (refine S.ref04_BaseDistance_cn fun F => ?_; unfold S.ref04_BaseDistance; simp only [ca_, na_])
 refine e_opN v_lss .nil ?_
 rw [dF_ (show ¬ s < 0 by omega)]
 refine e_gdT ?_
 refine e_gdT ?_
 refine e_opN v_gtr .nil ?_
 refine e_opN v_pickF .nil ?_
 by_cases c2 : 29 < s
 ·rw [dT_ c2, show bD s = (0, 0) from if_pos (by omega)]
  refine e_condT ?_
  (first | refine e_ret (()) rfl ?_ | refine e_retT (()) ?_)
  exact .refl
 rw [dF_ c2]
 refine e_condF ?_
 refine e_opN v_lss .nil ?_
 by_cases c4 : s < 4
 ·rw [dT_ c4, show bD s = (s + 1, 0) by unfold bD; rw [if_neg (by omega), if_pos (by omega)]]
  refine e_condT ?_
  refine e_opN (v_add (by omega) (by omega)) .nil ?_
  (first | refine e_ret (()) rfl ?_ | refine e_retT (()) ?_)
  exact .refl
 rw [dF_ c4]
 refine e_condF ?_
 obtain ⟨t, ht⟩ : ∃ t : Nat, s = ((4 + t : Nat) : Int) := ⟨(s - 4).toNat, by omega⟩
 have ht20 : t < 26 := by omega
 subst ht
 have hb := smD_ok ⟨t, ht20⟩
 (try dsimp only at hb)
 refine e_opN (v_sub (by omega) (by omega)) .nil ?_
 refine e_opN (v_quo (by omega) (by omega) (by omega)) .nil ?_
 rw [show (((4 + t : Nat) : Int) - 2) / 2 = (((4 + t - 2) / 2 : Nat) : Int) by omega, hb]
 refine e_loop2 (fun m x y => (ex fun j : Nat => pu (m + j = t /\ x = .int .i64 (smD j : Int) /\ y = .int .i64 ((4 + j : Nat) : Int))) :: F) t ?_ ?_
 ·exact .ex 0 (.pu ⟨rfl, rfl, rfl⟩ .refl)
 intro m ds x y
 refine e_ex .here fun j => e_pu .here fun hj => ?_
 obtain ⟨hmj, rfl, rfl⟩ := hj
 refine e_ask v_lss .nil (fun h => ?_) (fun h => ?_)
 ·have hs := smD_b ⟨j, by omega⟩
  have hs1 := smD_b ⟨j + 1, by omega⟩
  (try dsimp only at hs)
  (try dsimp only at hs1)
  have e1 : smD (j + 1) = smD j + 2 ^ ((4 + j - 2) / 2) := rfl
  refine e_condT ?_
  refine e_opN (v_sub (by omega) (by omega)) .nil ?_
  refine e_opN (v_quo (by omega) (by omega) (by omega)) .nil ?_
  rw [show (((4 + j : Nat) : Int) - 2) / 2 = (((4 + j - 2) / 2 : Nat) : Int) by omega]
  refine e_opN v_conv .nil ?_
  rw [wrapu64' (by omega) (by omega)]
  refine e_opN (v_shl (by omega)) .nil ?_
  rw [shl64 (by omega) (by omega) (by omega), Int.one_mul]
  generalize 2 ^ ((4 + j - 2) / 2) = Z at e1 ⊢
  refine e_opN (v_add (by omega) (by omega)) .nil ?_
  refine e_opN (v_add (by omega) (by omega)) .nil ?_
  exact e_next2 (m - 1) (by omega) (.ex (j + 1) (.pu ⟨by omega, by rw [e1]; rfl, rfl⟩ .refl))
 ·have hjt : j = t := by omega
  subst hjt
  refine e_condF ?_
  (first | refine e_ret (()) rfl ?_ | refine e_retT (()) ?_)
  exact .refl
theorem rLength {W : World} {n : Int} (h1 : 3 <= n) (h2 : n <= 258) : Cn p_ 116 [.int .i64 n] W [] (fun _ : Unit => .tuple #[.int .i64 (lenS n).1, .int .i64 (lenS n).2.1, .int .i64 (lenS n).2.2]) (fun _ => []) := by
 have hS : lenS n = lastF bL n 257 29 := by unfold lenS; rw [if_neg (by omega)]
 rw [hS]
 obtain ⟨T, hT⟩ : ∃ T, T = lastF bL n 257 29 := ⟨_, rfl⟩
 rw [<- hT]
 (refine S.ref04_Length_cn fun F => ?_; unfold S.ref04_Length; simp only [ca_, na_])
 refine e_opN v_lss .nil ?_
 rw [dF_ (by omega)]
 refine e_gdT ?_; refine e_gdT ?_
 refine e_opN v_gtr .nil ?_
 rw [dF_ (by omega)]
 refine e_opN v_pickF .nil ?_; refine e_condF ?_
 (refine' e_call (rbaseLength (s := 285) (by omega)) ?hp fun _ => ?_; (case hp => (repeat (first | exact Picks.nil | (apply Picks.cons; (focus repeat constructor))))); (try simp only [ca_, na_, Bool.not_true, Bool.not_false]))
 refine e_opN (v_ext (v := .int .i64 (bL 285).1) rfl) .nil ?_
 refine e_opN (v_ext (v := .int .i64 (bL 285).2) rfl) .nil ?_
 refine e_loop3 (fun m x y z => pu (m < 29 /\ x = .int .i64 ((257 : Int) + (m : Int)) /\ y = .int .i64 (bL ((257 : Int) + (m : Int))).1 /\ z = .int .i64 (bL ((257 : Int) + (m : Int))).2 /\ T = lastF bL n 257 (m + 1)) :: F) 28 ?_ ?_
 ·exact .pu ⟨by omega, rfl, rfl, rfl, hT⟩ .refl
 intro m ds x y z
 refine e_pu .here fun hk => ?_
 obtain ⟨hm, rfl, rfl, rfl, hl⟩ := hk
 rw [lastF] at hl
 refine e_opN v_gtr .nil ?_
 by_cases hc : n < (bL ((257 : Int) + (m : Int))).1
 ·rw [dT_ hc]
  rw [if_neg (by omega)] at hl
  have hm0 : m ≠ 0 := by
   rintro rfl
   rw [show bL ((257 : Int) + ((0 : Nat) : Int)) = (3, 0) from rfl] at hc
   simp only at hc
   omega
  refine e_condT ?_
  refine e_opN (v_sub (by omega) (by omega)) .nil ?_
  (refine' e_call (rbaseLength (s := (257 : Int) + (m : Int) - 1) (by omega)) ?hp fun _ => ?_; (case hp => (repeat (first | exact Picks.nil | (apply Picks.cons; (focus repeat constructor))))); (try simp only [ca_, na_, Bool.not_true, Bool.not_false]))
  have e1 : (257 : Int) + (m : Int) - 1 = 257 + ((m - 1 : Nat) : Int) := by omega
  rw [e1]
  refine e_opN (v_ext (v := .int .i64 (bL ((257 : Int) + ((m - 1 : Nat) : Int))).1) rfl) .nil ?_
  refine e_opN (v_ext (v := .int .i64 (bL ((257 : Int) + ((m - 1 : Nat) : Int))).2) rfl) .nil ?_
  exact e_next3 (m - 1) (by omega) (.pu ⟨by omega, rfl, rfl, rfl, by rw [hl, show m - 1 + 1 = m by omega]⟩ .refl)
 ·rw [dF_ hc]
  rw [if_pos (by omega)] at hl
  have hb : 0 <= (bL ((257 : Int) + (m : Int))).1 := by
   have : ∀ j : Fin 29, 0 <= (bL ((257 : Int) + ((j.1 : Nat) : Int))).1 := by decide
   exact this ⟨m, hm⟩
  refine e_condF ?_
  refine e_opN (v_sub (by omega) (by omega)) .nil ?_
  rw [hl]
  (first | refine e_ret (()) rfl ?_ | refine e_retT (()) ?_)
  exact .refl
theorem rDistance {W : World} {n : Int} (h1 : 1 <= n) (h2 : n <= 32768) : Cn p_ 117 [.int .i64 n] W [] (fun _ : Unit => .tuple #[.int .i64 (disS n).1, .int .i64 (disS n).2.1, .int .i64 (disS n).2.2]) (fun _ => []) := by
 have hS : disS n = lastF bD n 0 30 := by unfold disS; rw [if_neg (by omega)]
 rw [hS]
 obtain ⟨T, hT⟩ : ∃ T, T = lastF bD n 0 30 := ⟨_, rfl⟩
 rw [<- hT]
 (refine S.ref04_Distance_cn fun F => ?_; unfold S.ref04_Distance; simp only [ca_, na_])
 refine e_opN v_lss .nil ?_
 rw [dF_ (by omega)]
 refine e_gdT ?_; refine e_gdT ?_
 refine e_opN v_gtr .nil ?_
 rw [dF_ (by omega)]
 refine e_opN v_pickF .nil ?_; refine e_condF ?_
 (refine' e_call (rbaseDistance (s := 29) (by omega)) ?hp fun _ => ?_; (case hp => (repeat (first | exact Picks.nil | (apply Picks.cons; (focus repeat constructor))))); (try simp only [ca_, na_, Bool.not_true, Bool.not_false]))
 refine e_opN (v_ext (v := .int .i64 (bD 29).1) rfl) .nil ?_
 refine e_opN (v_ext (v := .int .i64 (bD 29).2) rfl) .nil ?_
 refine e_loop3 (fun m x y z => pu (m < 30 /\ x = .int .i64 ((0 : Int) + (m : Int)) /\ y = .int .i64 (bD ((0 : Int) + (m : Int))).1 /\ z = .int .i64 (bD ((0 : Int) + (m : Int))).2 /\ T = lastF bD n 0 (m + 1)) :: F) 29 ?_ ?_
 ·exact .pu ⟨by omega, rfl, rfl, rfl, hT⟩ .refl
 intro m ds x y z
 refine e_pu .here fun hk => ?_
 obtain ⟨hm, rfl, rfl, rfl, hl⟩ := hk
 rw [lastF] at hl
 refine e_opN v_gtr .nil ?_
 by_cases hc : n < (bD ((0 : Int) + (m : Int))).1
 ·rw [dT_ hc]
  rw [if_neg (by omega)] at hl
  have hm0 : m ≠ 0 := by
   rintro rfl
   rw [show bD ((0 : Int) + ((0 : Nat) : Int)) = (1, 0) from rfl] at hc
   simp only at hc
   omega
  refine e_condT ?_
  refine e_opN (v_sub (by omega) (by omega)) .nil ?_
  (refine' e_call (rbaseDistance (s := (0 : Int) + (m : Int) - 1) (by omega)) ?hp fun _ => ?_; (case hp => (repeat (first | exact Picks.nil | (apply Picks.cons; (focus repeat constructor))))); (try simp only [ca_, na_, Bool.not_true, Bool.not_false]))
  have e1 : (0 : Int) + (m : Int) - 1 = 0 + ((m - 1 : Nat) : Int) := by omega
  rw [e1]
  refine e_opN (v_ext (v := .int .i64 (bD ((0 : Int) + ((m - 1 : Nat) : Int))).1) rfl) .nil ?_
  refine e_opN (v_ext (v := .int .i64 (bD ((0 : Int) + ((m - 1 : Nat) : Int))).2) rfl) .nil ?_
  exact e_next3 (m - 1) (by omega) (.pu ⟨by omega, rfl, rfl, rfl, by rw [hl, show m - 1 + 1 = m by omega]⟩ .refl)
 ·rw [dF_ hc]
  rw [if_pos (by omega)] at hl
  have hb : 0 <= (bD ((0 : Int) + (m : Int))).1 := by
   have : ∀ j : Fin 30, 0 <= (bD ((0 : Int) + ((j.1 : Nat) : Int))).1 := by decide
   exact this ⟨m, hm⟩
  refine e_condF ?_
  refine e_opN (v_sub (by omega) (by omega)) .nil ?_
  rw [hl]
  (first | refine e_ret (()) rfl ?_ | refine e_retT (()) ?_)
  exact .refl
theorem ralike {W : World} {a : Option Addr} {c i j : Nat} {b : List UInt8} {A : HP} (hr : RdB W A a b.length (b.map Sl.B)) (hb : b.length <= 1048576) (hij : i < j) (hj : j < b.length) :
  Cn p_ 143 [.slice a b.length c, .int .i64 (i : Int), .int .i64 (j : Int)] W [A] (fun _ : Unit => .int .i64 (alike b i j : Int)) (fun _ => [A]) := by
 obtain ⟨g, o, rfl, _⟩ := hr.at_ (by omega)
 (refine S.ref04_alike_cn fun F => ?_; unfold S.ref04_alike; simp only [ca_, na_])
 refine e_loop1 (fun m y => pu (∃ n : Nat, m + n = 259 /\ y = .int .i64 (n : Int) /\ alk b i j m n = alike b i j) :: A :: F) 259 ?_ ?_
 ·exact .pu ⟨0, rfl, rfl, rfl⟩ .refl
 intro m ds y
 refine e_pu .here fun hk => ?_
 obtain ⟨n, hmn, rfl, hal⟩ := hk
 refine e_drS ?_
 refine e_stS v_lss .nil ?_
 by_cases h1 : (n : Int) < 258
 rotate_left
 ·rw [dF_ h1]
  refine e_gdF2 ?_; refine e_gdF2 ?_; refine e_gdF2 ?_; refine e_gdF2 ?_; refine e_gdF2 ?_; refine e_gdF2 ?_; refine e_stS v_pickF .nil ?_; refine e_gdF2 ?_; refine e_gdF2 ?_; refine e_gdF2 ?_; refine e_gdF2 ?_; refine e_gdF2 ?_; refine e_gdF2 ?_; refine e_gdF2 ?_; refine e_gdF2 ?_; refine e_gdF2 ?_; refine e_gdF2 ?_; refine e_gdF2 ?_; refine e_gdF2 ?_; refine e_gdF2 ?_; refine e_stS v_pickF .nil ?_; refine e_condF ?_
  have : alk b i j m n = n := by
   cases m with
   | zero => rfl
   | succ m => rw [alk, if_neg (by omega)]
  rw [<- hal, this]
  (first | refine e_ret (()) rfl ?_ | refine e_retT (()) ?_)
  exact .refl
 rw [dT_ h1]
 obtain ⟨m, rfl⟩ : ∃ k, m = k + 1 := ⟨m - 1, by omega⟩
 rw [alk] at hal
 refine e_gdT ?_; refine e_gdT ?_; refine e_gdT ?_; (refine e_stS (v_add (by omega) (by omega)) .nil ?_); refine e_gdT ?_; refine e_gdT ?_; refine e_stS v_len .nil ?_; refine e_gdT ?_
 refine e_stS v_lss .nil ?_
 by_cases h2 : (j : Int) + (n : Int) < (b.length : Int)
 rotate_left
 ·rw [dF_ h2]
  rw [if_neg (by omega)] at hal
  rw [<- hal]
  refine e_stS v_pickT .nil ?_; refine e_gdF2 ?_; refine e_gdF2 ?_; refine e_gdF2 ?_; refine e_gdF2 ?_; refine e_gdF2 ?_; refine e_gdF2 ?_; refine e_gdF2 ?_; refine e_gdF2 ?_; refine e_gdF2 ?_; refine e_gdF2 ?_; refine e_gdF2 ?_; refine e_gdF2 ?_; refine e_gdF2 ?_; refine e_stS v_pickF .nil ?_; refine e_condF ?_
  (first | refine e_ret (()) rfl ?_ | refine e_retT (()) ?_)
  exact .refl
 rw [dT_ h2]
 refine e_stS v_pickT .nil ?_; refine e_gdT ?_; refine e_gdT ?_; refine e_gdT ?_; refine e_gdT ?_; (refine e_stS (v_add (by omega) (by omega)) .nil ?_); refine e_gdT ?_
 refine e_stS (v_ia1 (i + n) (by rfl) (by omega)) .nil ?_
 refine e_gdT ?_
 refine e_stS (v_ldRd hr (v := .int .u8 ((b[i + n]'(by omega)).toNat : Int)) (B_get (by omega))) (.pick (by repeat constructor) .nil) ?_
 refine e_gdT ?_; refine e_gdT ?_; refine e_gdT ?_; refine e_gdT ?_; (refine e_stS (v_add (by omega) (by omega)) .nil ?_); refine e_gdT ?_
 refine e_stS (v_ia1 (j + n) (by rfl) (by omega)) .nil ?_
 refine e_gdT ?_
 refine e_stS (v_ldRd hr (v := .int .u8 ((b[j + n]'(by omega)).toNat : Int)) (B_get (by omega))) (.pick (by repeat constructor) .nil) ?_
 refine e_gdT ?_
 refine e_stS v_eql .nil ?_
 by_cases h3 : b[i + n]'(by omega) = b[j + n]'(by omega)
 ·rw [dT_ (by rw [h3])]
  rw [if_pos ⟨by omega, by omega, by rw [List.getElem?_eq_getElem (by omega), List.getElem?_eq_getElem (by omega), h3]⟩] at hal
  refine e_stS v_pickT .nil ?_; refine e_condT ?_; (refine e_opN (v_add (by omega) (by omega)) .nil ?_)
  exact e_next1 m (by omega) (.pu ⟨n + 1, by omega, rfl, hal⟩ .refl)
 ·rw [dF_ (fun h => h3 (UInt8.toNat_inj.1 (by exact_mod_cast h)))]
  rw [if_neg (fun h => h3 (by have := h.2.2; rw [List.getElem?_eq_getElem (by omega), List.getElem?_eq_getElem (by omega)] at this; exact Option.some.inj this))] at hal
  rw [<- hal]
  refine e_stS v_pickT .nil ?_; refine e_condF ?_
  (first | refine e_ret (()) rfl ?_ | refine e_retT (()) ?_)
  exact .refl
theorem rpiece {W : World} {a : Option Addr} {c j w d : Nat} {b : List UInt8} {A : HP} (hr : RdB W A a b.length (b.map Sl.B)) (hb : b.length <= 1048576) (hj : j < b.length) (hw : w <= 32768) (hd : d <= 4096) :
  Cn p_ 113 [.slice a b.length c, .int .i64 (j : Int), .int .i64 (w : Int), .int .i64 (d : Int)] W [A] (fun _ : Unit => vPz (pieceAt b w d j)) (fun _ => [A]) := by
 have hr0 := hr
 obtain ⟨g, o, ha, _⟩ := hr.at_ (by omega)
 (refine S.ref04_at_cn fun F => ?_; unfold S.ref04_at; simp only [ca_, na_])
 rw [ha] at hr ⊢
 refine e_newA fun g => ?_
 rename Nat => b8
 refine e_opN (v_ia1 j rfl hj) .nil ?_
 refine e_opN (v_ldRd (v := Sl.B (b.getD j 0)) hr (by rw [List.getElem?_map, List.getElem?_eq_getElem hj, List.getD_eq_getElem?_getD, List.getElem?_eq_getElem hj]; rfl)) (.pick (by repeat constructor) .nil) ?_
 refine e_opN v_rv .nil ?_; refine e_newA fun g => ?_; (((refine' e_stAgg ?hp ?hn ?hv ?h1 ?_); (case hp => (repeat constructor)); (case hn => rfl); (case hv => rfl); (case h1 => (intro u hu; simp at hu; rcases hu with rfl | rfl <;> rfl)))); (refine e_opN (v_sub (by omega) (by omega)) .nil ?_)
 rename Nat => b9
 refine e_loop2 (fun m x y => (ex fun p : Pz => all [pu (∃ e : Nat, m <= j /\ e <= d /\ x = .int .i64 (e : Int) /\ y = .int .i64 ((m : Int) - 1) /\ rat b j w m e p = pieceAt b w d j /\ p.len <= 1048576 /\ 0 <= p.len), pt b9 (.cells #[.int .i64 p.len, .int .i64 p.dist, Sl.B p.c] 118)]) :: pt b8 (.cells #[.int .i64 0, .int .i64 0, .int .u8 0] 118) :: A :: F) j ?_ ?_
 ·refine .ex ⟨0, 0, b.getD j 0⟩ (.all ?_)
  (try simp only [ca_, na_, -eq_self])
  refine .pu ⟨d, Nat.le_refl _, Nat.le_refl _, rfl, rfl, rfl, by simp, by simp⟩ ?_
  (repeat (first | exact .refl | exact .nil | (apply Imp.pick; (focus ((repeat constructor); done))) | refine .drop ?_))
 intro m ds x y
 refine e_ex .here fun p => e_all .here ?_
 (try simp only [ca_, na_, -eq_self])
 refine e_pu .here fun hk => ?_
 obtain ⟨e, hmj, hed, rfl, rfl, hrt, hp1, hp0⟩ := hk
 have stop : rat b j w m e p = p -> Ent W (pt b8 (.cells #[.int .i64 p.len, .int .i64 p.dist, Sl.B p.c] 118) :: pt b9 (.cells #[.int .i64 p.len, .int .i64 p.dist, Sl.B p.c] 118) :: A :: F) (fun w_1 => ∃ x : Unit, (.agg #[.int .i64 p.len, .int .i64 p.dist, Sl.B p.c]) = vPz (pieceAt b w d j) /\ sat W (A :: F) w_1) := by
  intro hs
  rw [<- hrt, hs]
  refine e_ret () rfl ?_
  (repeat (first | exact .refl | exact .nil | (apply Imp.pick; (focus ((repeat constructor); done))) | refine .drop ?_))
 refine e_opN v_geq .nil ?_
 by_cases h1 : (0 : Int) <= (m : Int) - 1
 rotate_left
 ·rw [dF_ h1]
  have hm0 : m = 0 := by omega
  subst hm0
  refine e_gdF2 ?_; refine e_gdF2 ?_; refine e_gdF2 ?_; refine e_gdF2 ?_; refine e_gdF2 ?_; refine e_opN v_pickF .nil ?_; refine e_gdF2 ?_; refine e_gdF2 ?_; refine e_opN v_pickF .nil ?_; refine e_condF ?_; (((refine' e_opN (v_ldAgg ?hn) ?hi ?_); (case hi => exact .pick (by repeat constructor) .nil); (case hn => rfl))); (((refine' e_stAgg ?hp ?hn ?hv ?h1 ?_); (case hp => (repeat constructor)); (case hn => rfl); (case hv => rfl); (case h1 => (intro u hu; simp at hu; rcases hu with rfl | rfl | rfl <;> rfl)))); (((refine' e_stS (v_resA ?hn) ?hi ?_); (case hi => (repeat (first | exact .refl | exact .nil | (apply Imp.pick; (focus ((repeat constructor); done))) | refine .drop ?_))); (case hn => rfl)))
  exact stop rfl
 rw [dT_ h1]
 obtain ⟨m, rfl⟩ : ∃ k, m = k + 1 := ⟨m - 1, by omega⟩
 rw [show (((m + 1 : Nat) : Int)) - 1 = (m : Int) by omega]
 have hrt' := hrt
 rw [rat] at hrt'
 refine e_gdT ?_; refine e_gdT ?_; refine e_gdT ?_; (refine e_opN (v_sub (by omega) (by omega)) .nil ?_); refine e_gdT ?_; refine e_gdT ?_
 refine e_opN v_leq .nil ?_
 by_cases h2 : (j : Int) - (m : Int) <= (w : Int)
 rotate_left
 ·rw [dF_ h2]
  refine e_opN v_pickT .nil ?_; refine e_gdF2 ?_; refine e_gdF2 ?_; refine e_opN v_pickF .nil ?_; refine e_condF ?_; (((refine' e_opN (v_ldAgg ?hn) ?hi ?_); (case hi => exact .pick (by repeat constructor) .nil); (case hn => rfl))); (((refine' e_stAgg ?hp ?hn ?hv ?h1 ?_); (case hp => (repeat constructor)); (case hn => rfl); (case hv => rfl); (case h1 => (intro u hu; simp at hu; rcases hu with rfl | rfl | rfl <;> rfl)))); (((refine' e_stS (v_resA ?hn) ?hi ?_); (case hi => (repeat (first | exact .refl | exact .nil | (apply Imp.pick; (focus ((repeat constructor); done))) | refine .drop ?_))); (case hn => rfl)))
  exact stop (by rw [rat, if_pos (.inl (by omega))])
 rw [dT_ h2]
 refine e_opN v_pickT .nil ?_; refine e_gdT ?_; refine e_gdT ?_
 refine e_opN v_gtr .nil ?_
 by_cases h3 : (0 : Int) < (e : Int)
 rotate_left
 ·rw [dF_ h3]
  refine e_opN v_pickT .nil ?_; refine e_condF ?_; (((refine' e_opN (v_ldAgg ?hn) ?hi ?_); (case hi => exact .pick (by repeat constructor) .nil); (case hn => rfl))); (((refine' e_stAgg ?hp ?hn ?hv ?h1 ?_); (case hp => (repeat constructor)); (case hn => rfl); (case hv => rfl); (case h1 => (intro u hu; simp at hu; rcases hu with rfl | rfl | rfl <;> rfl)))); (((refine' e_stS (v_resA ?hn) ?hi ?_); (case hi => (repeat (first | exact .refl | exact .nil | (apply Imp.pick; (focus ((repeat constructor); done))) | refine .drop ?_))); (case hn => rfl)))
  exact stop (by rw [rat, if_pos (.inr (by omega))])
 rw [dT_ h3]
 rw [if_neg (by omega)] at hrt'
 have hal := (alike_spec b m j).1
 refine e_opN v_pickT .nil ?_; refine e_condT ?_
 rw [<- ha]
 (refine' e_call (ralike (i := m) (j := j) hr0 hb (by omega) hj) ?hp fun _ => ?_; (case hp => (repeat (first | exact Picks.nil | (apply Picks.cons; (focus repeat constructor))))); (try simp only [ca_, na_, Bool.not_true, Bool.not_false]))
 refine e_opN v_lss .nil ?_
 by_cases h4 : (alike b m j : Int) < 3
 ·rw [dT_ h4]
  rw [if_pos (by omega)] at hrt'
  refine e_condT ?_; (refine e_opN (v_sub (by omega) (by omega)) .nil ?_)
  refine e_next2 m (by omega) (.ex p (.all ?_))
  (try simp only [ca_, na_, -eq_self])
  refine .pu ⟨e, by omega, hed, rfl, rfl, hrt', hp1, hp0⟩ ?_
  (repeat (first | exact .refl | exact .nil | (apply Imp.pick; (focus ((repeat constructor); done))) | refine .drop ?_))
 rw [dF_ h4]
 rw [if_neg (by omega)] at hrt'
 refine e_condF ?_; (refine e_opN (v_sub (by omega) (by omega)) .nil ?_); refine e_opN v_fa0 .nil ?_; (((refine' e_opN (v_ldN ?hc) ?hi ?_); (case hi => exact .pick (by repeat constructor) .nil); (case hc => repeat constructor)))
 refine e_opN v_gtr .nil ?_
 by_cases h5 : p.len < (alike b m j : Int)
 ·rw [dT_ h5]
  unfold bst at hrt'
  rw [if_pos h5] at hrt'
  refine e_condT ?_; (refine e_opN (v_sub (by omega) (by omega)) .nil ?_); refine e_opN v_rv .nil ?_; (((refine' e_stAgg ?hp ?hn ?hv ?h1 ?_); (case hp => (repeat constructor)); (case hn => rfl); (case hv => rfl); (case h1 => simp [Value.oneCell']))); (refine e_opN (v_sub (by omega) (by omega)) .nil ?_)
  refine e_next2 m (by omega) (.ex ⟨(alike b m j : Int), (j : Int) - m, 0⟩ (.all ?_))
  (try simp only [ca_, na_, -eq_self])
  refine .pu ⟨e - 1, by omega, by omega, by rw [show ((e - 1 : Nat) : Int) = (e : Int) - 1 by omega], rfl, hrt', by omega, by omega⟩ ?_
  (repeat (first | exact .refl | exact .nil | (apply Imp.pick; (focus ((repeat constructor); done))) | refine .drop ?_))
 ·rw [dF_ h5]
  unfold bst at hrt'
  rw [if_neg h5] at hrt'
  refine e_condF ?_; (refine e_opN (v_sub (by omega) (by omega)) .nil ?_)
  refine e_next2 m (by omega) (.ex p (.all ?_))
  (try simp only [ca_, na_, -eq_self])
  refine .pu ⟨e - 1, by omega, by omega, by rw [show ((e - 1 : Nat) : Int) = (e : Int) - 1 by omega], rfl, hrt', hp1, hp0⟩ ?_
  (repeat (first | exact .refl | exact .nil | (apply Imp.pick; (focus ((repeat constructor); done))) | refine .drop ?_))
theorem rPieces {W : World} {a : Option Addr} {c w d : Nat} {b : List UInt8} {A : HP} (hr : RdB W A a b.length (b.map Sl.B)) (hb : b.length <= 1048576) (h1 : 1 <= w) (hw : w <= 32768) (hd : d <= 4096) :
  Cn p_ 92 [.slice a b.length c, .int .i64 (w : Int), .int .i64 (d : Int)] W [A] (fun q : Option Addr × Nat => .tuple #[.slice q.1 (piecesF b w d).length q.2, .int .i64 0]) (fun q => [Sl 3 118 q.1 q.2 (piecesF b w d).length ((piecesF b w d).flatMap pPz), A]) := by
 (refine S.ref04_Pieces_cn fun F => ?_; unfold S.ref04_Pieces; simp only [ca_, na_])
 refine e_opN v_lss .nil ?_
 rw [dF_ (by omega)]
 refine e_gdT ?_; refine e_gdT ?_
 refine e_opN v_gtr .nil ?_
 rw [dF_ (by omega)]
 refine e_opN v_pickF .nil ?_; refine e_gdT ?_; refine e_gdT ?_
 refine e_opN v_lss .nil ?_
 rw [dF_ (by omega)]
 refine e_opN v_pickF .nil ?_; refine e_gdT ?_; refine e_gdT ?_
 refine e_opN v_gtr .nil ?_
 rw [dF_ (by omega)]
 refine e_opN v_pickF .nil ?_; refine e_condF ?_; refine e_opN v_len .nil ?_
 refine e_opN v_gtr .nil ?_
 rw [dF_ (by omega)]
 refine e_condF ?_
 refine e_loop2 (fun m x y => (ex fun st : (Option Addr × Nat) × List Pz => all [pu (∃ j : Nat, m + j = b.length /\ st.2.length <= j /\ x = .slice st.1.1 st.2.length st.1.2 /\ y = .int .i64 (j : Int) /\ st.2 ++ pcs b w d (b.length + 1) j = piecesF b w d), Sl 3 118 st.1.1 st.1.2 st.2.length (st.2.flatMap pPz)]) :: A :: F) b.length ?_ ?_
 ·refine .ex ((none, 0), []) (.all ?_)
  (try simp only [ca_, na_, -eq_self])
  refine .pu ⟨0, rfl, Nat.le_refl _, rfl, rfl, rfl⟩ ?_
  exact imp_nil .refl
 intro m ds x y
 refine e_ex .here fun st => e_all .here ?_
 obtain ⟨⟨qa, qc⟩, P⟩ := st
 (try simp only [ca_, na_, -eq_self])
 refine e_pu .here fun hk => ?_
 (try dsimp only at hk)
 obtain ⟨j, hmj, hPj, rfl, rfl, hP⟩ := hk
 (try dsimp only)
 refine e_opN v_len .nil ?_
 refine e_opN v_lss .nil ?_
 by_cases hlt : (j : Int) < (b.length : Int)
 ·rw [dT_ hlt]
  have hj : j < b.length := by omega
  rw [pcs, if_pos hj] at hP
  have hg : gP b j (pieceAt b w d j) := pieceAt_gP hw
  obtain ⟨e1, e2, e3⟩ := gP_end hg hj
  have hpos := pzN_pos (pieceAt b w d j)
  have hf := pcs_fuel (b := b) (w := w) (d := d) b.length (b.length + 1) (j + pzN (pieceAt b w d j)) (by omega) (by omega)
  rw [hf] at hP
  refine e_condT ?_
  (refine' e_call (rpiece (w := w) (d := d) hr hb hj hw hd) ?hp fun _ => ?_; (case hp => (repeat (first | exact Picks.nil | (apply Picks.cons; (focus repeat constructor))))); (try simp only [ca_, na_, Bool.not_true, Bool.not_false]))
  obtain ⟨p, hp⟩ : ∃ p, p = pieceAt b w d j := ⟨_, rfl⟩
  rw [<- hp] at hP e1 e2 e3 hpos ⊢
  unfold vPz I
  refine e_newA fun g => ?_; (((refine' e_stAgg ?hp ?hn ?hv ?h1 ?_); (case hp => (repeat constructor)); (case hn => rfl); (case hv => rfl); (case h1 => (intro u hu; simp at hu; rcases hu with rfl | rfl | rfl <;> rfl)))); (((refine' e_opN (v_ldAgg ?hn) ?hi ?_); (case hi => exact .pick (by repeat constructor) .nil); (case hn => rfl)))
  rename Nat => b10
  refine e_bslS (n := 1) (vs := [vPz p]) rfl (by decide) rfl (by intro v hv; rw [List.mem_singleton.1 hv]; rfl) (by decide) fun gb => ?_
  refine e_app (m := 1) (news := pPz p) (by (repeat constructor) : Pick _ (Sl 3 118 qa qc P.length (P.flatMap pPz)) _) (src_pt (s := 3) (e' := 118) (by kernel_rfl) .here (by rfl) (by intro u hu; simp [vPz, Value.cells] at hu; rcases hu with rfl | rfl | rfl <;> rfl)) (by omega) (by omega) fun a' c' => ?_
  refine e_opN v_fa0 .nil ?_; (((refine' e_opN (v_ldN ?hc) ?hi ?_); (case hi => exact .pick (by repeat constructor) .nil); (case hc => repeat constructor)))
  refine e_opN v_max .nil ?_
  rw [show (if (1 : Int) < p.len then p.len else 1) = (pzN p : Int) by rw [e3]; split <;> split <;> omega]
  (refine e_opN (v_add (by omega) (by omega)) .nil ?_)
  refine e_next2 (m - pzN p) (by omega) (.ex ((a', c'), P ++ [p]) (.all ?_))
  (try simp only [ca_, na_, -eq_self])
  have e4 : P.flatMap pPz ++ pPz p = (P ++ [p]).flatMap pPz := by rw [List.flatMap_append, List.flatMap_singleton]
  have e5 : P.length + 1 = (P ++ [p]).length := by simp
  rw [e4, e5]
  refine .pu ⟨j + pzN p, by omega, by rw [<- e5]; omega, rfl, by rfl, by rw [List.append_assoc]; exact hP⟩ ?_
  (repeat (first | exact .refl | exact .nil | (apply Imp.pick; (focus ((repeat constructor); done))) | refine .drop ?_))
 ·rw [dF_ hlt]
  rw [pcs_end (by omega), List.append_nil] at hP
  subst hP
  refine e_condF ?_
  (first | refine e_ret ((qa, qc)) rfl ?_ | refine e_retT ((qa, qc)) ?_)
  (repeat (first | exact .refl | exact .nil | (apply Imp.pick; (focus ((repeat constructor); done))) | refine .drop ?_))
def rowIn (h : Frag) (a : Option Addr) (cs : List Value) : Prop := cs = [] \/ ∃ (g : Nat) (rest : List Value) (T : TypeId), a = some ⟨g, 0, none⟩ /\ h g = some (.cells (cs ++ rest).toArray T (0, 0))
theorem sl_in {s : Nat} {e : TypeId} {a : Option Addr} {cap n : Nat} {cs : List Value} {W : World} {h : Frag} (H : Sl s e a cap n cs W h) : rowIn h a cs := by
 obtain ⟨q1, q2, q3, q4⟩ := H
 rcases q4 with ⟨_, c⟩ | ⟨g, rest, c, e1, e2⟩
 ·left
  have : n = 0 := by omega
  subst this
  exact List.length_eq_zero_iff.1 (by simpa using q1)
 ·exact .inr ⟨g, rest, _, c, e2⟩
theorem rowIn.up {h h' : Frag} {a : Option Addr} {cs : List Value} (s : ∀ i o, h i = some o -> h' i = some o) : rowIn h a cs -> rowIn h' a cs
 | .inl e => .inl e
 | .inr ⟨g, rest, T, e1, e2⟩ => .inr ⟨g, rest, T, e1, s _ _ e2⟩
theorem rd_in {W : World} {A : HP} {a : Option Addr} {n : Nat} {cs : List Value} (hl : cs.length = n) (ha : 0 < n -> ∃ g, a = some ⟨g, 0, none⟩) (hA : ∀ h, A W h -> rowIn h a cs) : RdB W A a n cs := ⟨hl, fun hn => by
 obtain ⟨g, rfl⟩ := ha hn
 refine ⟨g, 0, rfl, fun w L hw j v hv => ?_⟩
 obtain ⟨f, ⟨h1, h2, hA1, hl2, d, s1, s2⟩, b⟩ := hw.heap
 rcases hA _ hA1 with e | ⟨g', rest, T, e1, e2⟩
 ·rw [e] at hl; simp at hl; omega
 ·injection e1 with e1; injection e1 with e1; subst e1
  have hg := (b g _ (s1 g _ e2)).2
  rw [Nat.zero_add]
  have hj : j < cs.length := by
   rcases Nat.lt_or_ge j cs.length with c | c
   ·exact c
   ·rw [List.getElem?_eq_none c] at hv; cases hv
  have hv2 : (cs ++ rest)[j]? = some v := by rw [List.getElem?_append_left hj]; exact hv
  simp [World.cell?, hg, hv2]⟩
def BAr (X : List (Blk × Bv)) : HP := fun _ h => ∀ x ∈ X, rowIn h x.2.1.1 (x.1.1.flatMap pPz) /\ rowIn h x.2.2.1 (x.1.2.map Sl.B)
structure okA (x : Blk × Bv) : Prop where
 l : 0 < x.1.1.length -> ∃ g, x.2.1.1 = some ⟨g, 0, none⟩
 b : 0 < x.1.2.length -> ∃ g, x.2.2.1 = some ⟨g, 0, none⟩
theorem bar_0 {W : World} {L M : List HP} (h : Imp W L M) : Imp W L (BAr [] :: M) := .conv (B := pu True) (fun f _ x hx => by cases hx) (.pu trivial h)
theorem pPzs_len (l : List Pz) : (l.flatMap pPz).length = l.length * 3 := by
 induction l with
 | nil => rfl
 | cons p l ih => rw [List.flatMap_cons, List.length_append, ih, List.length_cons]; simp [pPz]; omega
theorem bar_l {W : World} {X : List (Blk × Bv)} {x : Blk × Bv} (hx : x ∈ X) (ok : okA x) : RdB W (BAr X) x.2.1.1 (x.1.1.length * 3) (x.1.1.flatMap pPz) := rd_in (pPzs_len _) (fun h => ok.l (by omega)) (fun h H => (H x hx).1)
theorem bar_b {W : World} {X : List (Blk × Bv)} {x : Blk × Bv} (hx : x ∈ X) (ok : okA x) : RdB W (BAr X) x.2.2.1 x.1.2.length (x.1.2.map Sl.B) := rd_in (by simp) ok.b (fun h H => (H x hx).2)
theorem e_bar {W : World} {L L1 L2 L3 : List HP} {S : WP} {X : List (Blk × Bv)} {x : Blk × Bv} {e1 e2 : TypeId} (p1 : Pick L (Sl 3 e1 x.2.1.1 x.2.1.2 x.1.1.length (x.1.1.flatMap pPz)) L1) (p2 : Pick L1 (Sl 1 e2 x.2.2.1 x.2.2.2 x.1.2.length (x.1.2.map Sl.B)) L2) (p3 : Pick L2 (BAr X) L3)
  (h : Ent W (BAr (X ++ [x]) :: L3) S) : Ent W L S := fun w hw => by
 refine h w (sat.map (L := Sl 3 e1 x.2.1.1 x.2.1.2 x.1.1.length (x.1.1.flatMap pPz) :: L1) (fun f hf => ?_) (hw.pick p1))
 have h2 := star_assoc' (star_mono (fun _ H => star_assoc' (star_mono (fun _ => p3.all) (p2.all H))) hf)
 obtain ⟨f1, f2, ⟨u1, u2, ha, ⟨v1, v2, hb, hc, hd2, t3, t4⟩, hd, t1, t2⟩, r⟩ := (show star (star (Sl 3 e1 x.2.1.1 x.2.1.2 x.1.1.length (x.1.1.flatMap pPz)) (star (Sl 1 e2 x.2.2.1 x.2.2.2 x.1.2.length (x.1.2.map Sl.B)) (BAr X))) (all L3) W f from h2)
 refine ⟨f1, f2, fun y hy => ?_, r⟩
 rcases List.mem_append.1 hy with hy | hy
 ·have := hc y hy
  exact ⟨this.1.up (fun i o c => t2 _ _ (t4 _ _ c)), this.2.up (fun i o c => t2 _ _ (t4 _ _ c))⟩
 ·rw [List.mem_singleton.1 hy]
  exact ⟨(sl_in ha).up t1, (sl_in hb).up (fun i o c => t2 _ _ (t3 _ _ c))⟩
theorem rpieces {W : World} {a : Option Addr} {c : Nat} {level : Int} {b : List UInt8} {A : HP} (hr : RdB W A a b.length (b.map Sl.B)) (hb : b.length <= 1048576) (hl : 0 <= level /\ level <= 9) :
  Cn p_ 74 [.slice a b.length c, .int .i64 level] W [A] (fun q : Option Addr × Nat => .slice q.1 (pcsL b level).length q.2) (fun q => [Sl 3 118 q.1 q.2 (pcsL b level).length ((pcsL b level).flatMap pPz), A]) := by
 (refine S.ref06_pieces_cn fun F => ?_; unfold S.ref06_pieces; simp only [ca_, na_])
 refine e_opN v_eql .nil ?_
 by_cases h0 : level = 0
 ·rw [dT_ h0]
  have hp : pcsL b level = lits b := by unfold pcsL; rw [if_neg (by omega)]
  rw [hp]
  refine e_condT ?_
  refine e_loop2 (fun m x y => (ex fun st : (Option Addr × Nat) × Nat => all [pu (m + st.2 = b.length /\ x = .slice st.1.1 st.2 st.1.2 /\ y = .int .i64 (st.2 : Int)), Sl 3 118 st.1.1 st.1.2 st.2 ((lits (b.take st.2)).flatMap pPz)]) :: A :: F) b.length ?_ ?_
  ·refine .ex ((none, 0), 0) (.all ?_)
   (try simp only [ca_, na_, -eq_self])
   refine .pu ⟨rfl, rfl, rfl⟩ ?_
   exact imp_nil .refl
  intro m ds x y
  refine e_ex .here fun st => e_all .here ?_
  obtain ⟨⟨qa, qc⟩, i⟩ := st
  (try simp only [ca_, na_, -eq_self])
  refine e_pu .here fun hk => ?_
  (try dsimp only at hk)
  obtain ⟨hmi, rfl, rfl⟩ := hk
  (try dsimp only)
  refine e_opN v_len .nil ?_
  refine e_opN v_lss .nil ?_
  by_cases hlt : (i : Int) < (b.length : Int)
  ·rw [dT_ hlt]
   have hi : i < b.length := by omega
   obtain ⟨g, o, rfl, _⟩ := hr.at_ (by omega)
   refine e_condT ?_
   refine e_opN (v_ia1 i rfl hi) .nil ?_
   refine e_opN (v_ldRd hr (v := Sl.B b[i]) (B_get hi)) (.pick (by repeat constructor) .nil) ?_
   refine e_opN v_rv .nil ?_
   refine e_bslS (n := 1) (vs := [vPz ⟨0, 0, b[i]⟩]) rfl (by decide) rfl (by intro v hv; rw [List.mem_singleton.1 hv]; rfl) (by decide) fun gb => ?_
   refine e_app (m := 1) (news := pPz ⟨0, 0, b[i]⟩) (by (repeat constructor) : Pick _ (Sl 3 118 qa qc i ((lits (b.take i)).flatMap pPz)) _) (src_pt (s := 3) (e' := 118) (by kernel_rfl) .here (by rfl) (by intro u hu; simp [vPz, Value.cells] at hu; rcases hu with rfl | rfl | rfl <;> rfl)) (by omega) (by omega) fun a' c' => ?_
   (refine e_opN (v_add (by omega) (by omega)) .nil ?_)
   refine e_next2 (m - 1) (by omega) (.ex ((a', c'), i + 1) (.all ?_))
   (try simp only [ca_, na_, -eq_self])
   have e4 : (lits (b.take i)).flatMap pPz ++ pPz ⟨0, 0, b[i]⟩ = (lits (b.take (i + 1))).flatMap pPz := by
    unfold lits
    rw [List.take_succ_eq_append_getElem hi, List.map_append, List.flatMap_append]; simp
   rw [e4]
   refine .pu ⟨by omega, rfl, by rfl⟩ ?_
   (repeat (first | exact .refl | exact .nil | (apply Imp.pick; (focus ((repeat constructor); done))) | refine .drop ?_))
  ·rw [dF_ hlt]
   have hie : i = b.length := by omega
   subst hie
   rw [List.take_length]
   have hll : (lits b).length = b.length := by simp [lits]
   rw [hll]
   refine e_condF ?_
   (first | refine e_ret ((qa, qc)) rfl ?_ | refine e_retT ((qa, qc)) ?_)
   (repeat (first | exact .refl | exact .nil | (apply Imp.pick; (focus ((repeat constructor); done))) | refine .drop ?_))
 ·rw [dF_ h0]
  have hp : pcsL b level = piecesF b 32768 (2 * 2 ^ level.toNat) := by unfold pcsL; rw [if_pos (by omega)]
  obtain ⟨n, hn⟩ := Int.eq_ofNat_of_zero_le hl.1
  obtain ⟨s1, s2⟩ := shl_lvl (n := n) (by omega) (by omega)
  rw [hp, hn, Int.toNat_natCast]
  refine e_condF ?_
  refine e_opN (v_conv (q := .u64)) .nil ?_
  refine e_opN (v_shl (by simp [IntKind.wrap, IntKind.bits, IntKind.signed]; omega)) .nil ?_
  rw [s1]
  refine e_call (rPieces (w := 32768) (d := 2 * 2 ^ n) hr hb (by omega) (by omega) s2) (.cons (by repeat constructor) .nil) fun q => ?_
  obtain ⟨qa, qc⟩ := q
  (try simp only [ca_, na_, -eq_self])
  (try dsimp only)
  refine e_opN (v_ext (v := .slice qa (piecesF b 32768 (2 * 2 ^ n)).length qc) rfl) .nil ?_
  refine e_opN (v_ext (v := .int .i64 0) rfl) .nil ?_
  (first | refine e_ret ((qa, qc)) rfl ?_ | refine e_retT ((qa, qc)) ?_)
  exact .refl
def bwC (x : Blk × Bv) : List Value := [.slice x.2.1.1 x.1.1.length x.2.1.2, .slice x.2.2.1 x.1.2.length x.2.2.2]
def bwV (x : Blk × Bv) : Value := .agg #[.slice x.2.1.1 x.1.1.length x.2.1.2, .slice x.2.2.1 x.1.2.length x.2.2.2]
theorem bw_len (X : List (Blk × Bv)) : (X.flatMap bwC).length = X.length * 2 := by
 induction X with
 | nil => rfl
 | cons y X ih => rw [List.flatMap_cons, List.length_append, ih, List.length_cons]; simp [bwC]; omega
theorem bw_get : ∀ {X : List (Blk × Bv)} {i j : Nat} (h : i < X.length), j < 2 -> (X.flatMap bwC)[i * 2 + j]? = (bwC X[i])[j]?
 | y :: X, 0, j, h, hj => by
  rw [List.flatMap_cons, List.getElem?_append_left (by simp [bwC]; omega)]
  simp
 | y :: X, i + 1, j, h, hj => by
  rw [List.flatMap_cons, List.getElem?_append_right (by simp [bwC]; omega), show (i + 1) * 2 + j - (bwC y).length = i * 2 + j by simp [bwC]; omega]
  exact bw_get (by simpa using h) hj
theorem seg_snoc {b : List UInt8} {i j k : Nat} (h1 : i <= j) (h2 : j <= k) : seg b i j ++ seg b j k = seg b i k := by
 unfold seg
 rw [show k - i = (j - i) + (k - j) by omega, List.take_add, List.drop_drop, show i + (j - i) = j by omega]
theorem seg_self (b : List UInt8) (i : Nat) : seg b i i = [] := by unfold seg; simp
structure rbI (b : List UInt8) (level : Int) (m i fr at_ : Nat) (L : List Pz) (X : List (Blk × Bv)) : Prop where
 mi : m + i = (pcsL b level).length
 cut : cutF b level ((pcsL b level).drop i) L fr at_ (X.map Prod.fst) = blksF b level
 gps : gPs b at_ ((pcsL b level).drop i)
 fa : fr <= at_
 ab : at_ <= b.length
 Ll : L.length <= 1048576
 Li : L.length <= i
 Xl : X.length <= i
 ok : ∀ x ∈ X, okA x
theorem rblocks {W : World} {a : Option Addr} {c : Nat} {level : Int} {b : List UInt8} {A : HP} (hr : RdB W A a b.length (b.map Sl.B)) (hc : b.length <= c) (hb : b.length <= 1048576) (hl : 0 <= level /\ level <= 9) :
  Cn p_ 54 [.slice a b.length c, .int .i64 level] W [A] (fun q : (Option Addr × Nat) × List (Blk × Bv) => .slice q.1.1 q.2.length q.1.2)
   (fun q => [pu (q.2.map Prod.fst = blksF b level /\ ∀ x ∈ q.2, okA x), Sl 2 92 q.1.1 q.1.2 q.2.length (q.2.flatMap bwC), BAr q.2, A]) := by
 (refine S.ref06_blocks_cn fun F => ?_; unfold S.ref06_blocks; simp only [ca_, na_])
 refine e_call (rpieces (c := c) (level := level) hr hb hl) (.cons (by repeat constructor) .nil) fun q => ?_
 obtain ⟨pa, pc⟩ := q
 (try simp only [ca_, na_, -eq_self])
 (try dsimp only)
 obtain ⟨hg0, he0⟩ := pcsL_gPs b level
 have hpl := pcsL_len b level
 obtain ⟨P, hP⟩ : ∃ P, P = pcsL b level := ⟨_, rfl⟩
 rw [<- hP] at hg0 he0 hpl ⊢
 refine e_opN v_rv .nil ?_; refine e_newA fun g => ?_; (((refine' e_stAgg ?hp ?hn ?hv ?h1 ?_); (case hp => (repeat constructor)); (case hn => rfl); (case hv => rfl); (case h1 => simp [Value.oneCell'])))
 rename Nat => b7
 refine e_loop3 (fun m x y z => (ex fun st : ((Option Addr × Nat) × Bv) × (Nat × Nat × Nat) × List Pz × List (Blk × Bv) => all [pu (rbI b level m st.2.1.1 st.2.1.2.1 st.2.1.2.2 st.2.2.1 st.2.2.2 /\ x = .slice st.1.1.1 st.2.2.2.length st.1.1.2 /\ y = .int .i64 (st.2.1.2.2 : Int) /\ z = .int .i64 (st.2.1.1 : Int)),
  Sl 2 92 st.1.1.1 st.1.1.2 st.2.2.2.length (st.2.2.2.flatMap bwC), BAr st.2.2.2, pt b7 (.cells #[.slice st.1.2.1.1 st.2.2.1.length st.1.2.1.2, .slice st.1.2.2.1 (seg b st.2.1.2.1 st.2.1.2.2).length st.1.2.2.2] 92), Sl 3 118 st.1.2.1.1 st.1.2.1.2 st.2.2.1.length (st.2.2.1.flatMap pPz), Sl 1 5 st.1.2.2.1 st.1.2.2.2 (seg b st.2.1.2.1 st.2.1.2.2).length ((seg b st.2.1.2.1 st.2.1.2.2).map Sl.B)]) :: Sl 3 118 pa pc P.length (P.flatMap pPz) :: A :: F) P.length ?_ ?_
 ·refine .ex (((none, 0), ((none, 0), (none, 0))), (0, 0, 0), [], []) (.all ?_)
  (try simp only [ca_, na_, -eq_self])
  rw [seg_self]
  refine .pu ⟨⟨by rw [<- hP]; rfl, rfl, by rw [<- hP]; exact hg0, Nat.le_refl _, Nat.zero_le _, Nat.zero_le _, Nat.le_refl _, Nat.le_refl _, fun x hx => by cases hx⟩, rfl, rfl, rfl⟩ ?_
  refine imp_nil (bar_0 (.pick (by repeat constructor) (imp_nil (imp_nil ?_))))
  (repeat (first | exact .refl | exact .nil | (apply Imp.pick; (focus ((repeat constructor); done))) | refine .drop ?_))
 intro m ds x y z
 refine e_ex .here fun st => e_all .here ?_
 obtain ⟨⟨⟨oa, oc⟩, ⟨la, lc⟩, ⟨ba, bc⟩⟩, ⟨i, fr, at_⟩, L, X⟩ := st
 (try simp only [ca_, na_, -eq_self])
 refine e_pu .here fun hk => ?_
 (try dsimp only at hk)
 obtain ⟨hI, rfl, rfl, rfl⟩ := hk
 (try dsimp only)
 have hmi := hI.mi
 have hcut := hI.cut
 have hgp := hI.gps
 have hfa := hI.fa
 have hab := hI.ab
 have hLl := hI.Ll
 have hLi := hI.Li
 have hXl := hI.Xl
 have hok := hI.ok
 rw [<- hP] at hmi hcut hgp
 have hsg := segLen (b := b) (i := fr) (j := at_) hab
 refine e_opN v_len .nil ?_
 refine e_opN v_lss .nil ?_
 by_cases hlt : (i : Int) < (P.length : Int)
 ·rw [dT_ hlt]
  have hi : i < P.length := by omega
  rw [List.drop_eq_getElem_cons hi] at hcut hgp
  obtain ⟨hj, hgpi, hgr⟩ := hgp
  obtain ⟨e1, e2, e3⟩ := gP_end hgpi hj
  have hpos := pzN_pos P[i]
  refine e_condT ?_
  refine e_slsome (by (repeat constructor) : Pick _ (Sl 3 118 pa pc P.length (P.flatMap pPz)) _) (by omega) fun gp hgp => ?_
  subst hgp
  have hrP : RdB W (Sl 3 118 (some ⟨gp, 0, none⟩) pc P.length (P.flatMap pPz)) (some ⟨gp, 0, none⟩) (P.length * 3) (P.flatMap pPz) := rd_slG (pPzs_len _) (fun _ => ⟨gp, rfl⟩)
  refine e_opN (v_ia i rfl hi) .nil ?_
  refine e_opN v_fa .nil ?_
  have l0 : RunV p_ W [Sl 3 118 (some ⟨gp, 0, none⟩) pc P.length (P.flatMap pPz)] (sLoad 3 (.pointer (some ⟨gp, 0 + i * 3 + 0, none⟩))) (I P[i].len) := v_ldRd2 (j := 0) hrP (pz_get hi 0 (by omega))
  have ld : RunV p_ W [Sl 3 118 (some ⟨gp, 0, none⟩) pc P.length (P.flatMap pPz)] (sLoad 118 (.pointer (some ⟨gp, 0 + i * 3, none⟩))) (vPz P[i]) := v_ldRdG (vs := pPz P[i]) hrP rfl (fun j hj => pz_get hi j hj)
  refine e_opN l0 (.pick (by repeat constructor) .nil) ?_
  obtain ⟨p, hp⟩ : ∃ p, p = P[i] := ⟨_, rfl⟩
  rw [<- hp] at hcut hgpi hgr e1 e2 e3 hpos ld ⊢
  rw [cutF] at hcut
  unfold I
  refine e_opN v_max .nil ?_
  rw [show (if (1 : Int) < p.len then p.len else 1) = (pzN p : Int) by rw [e3]; split <;> split <;> omega]
  refine e_drS ?_
  refine e_stD v_fa0 .nil ?_; (((refine' e_stD (v_ldN ?hc) ?hi ?_); (case hi => exact .pick (by repeat constructor) .nil); (case hc => repeat constructor)))
  refine e_stS (v_ia i rfl hi) .nil ?_
  refine e_stS ld (.pick (by repeat constructor) .nil) ?_
  refine e_bslS (n := 1) (vs := [vPz p]) rfl (by decide) rfl (by intro v hv; rw [List.mem_singleton.1 hv]; rfl) (by decide) fun gb => ?_
  (((refine e_obl ?hi ?_); (case hi => (repeat (first | exact .refl | exact .nil | (apply Imp.pick; (focus ((repeat constructor); done))) | refine .drop ?_))))); (((refine e_obl ?hi ?_); (case hi => (repeat (first | exact .refl | exact .nil | (apply Imp.pick; (focus ((repeat constructor); done))) | refine .drop ?_)))))
  refine e_app (m := 1) (news := pPz p) (by (repeat constructor) : Pick _ (Sl 3 118 la lc L.length (L.flatMap pPz)) _) (src_pt (s := 3) (e' := 118) (by kernel_rfl) (by repeat constructor) (by rfl) (by intro u hu; simp [vPz, Value.cells] at hu; rcases hu with rfl | rfl | rfl <;> rfl)) (by omega) (by omega) fun a2 c2 => ?_
  have e4 : L.flatMap pPz ++ pPz p = (L ++ [p]).flatMap pPz := by rw [List.flatMap_append, List.flatMap_singleton]
  have e5 : L.length + 1 = (L ++ [p]).length := by simp
  rw [e4, e5]
  refine e_stS v_fa0 .nil ?_; (((refine' e_stN ?hp ?ho ?_); (case hp => (repeat constructor)); (case ho => repeat constructor))); refine e_drS ?_; refine e_stS v_fa0 .nil ?_; (((refine' e_stS (v_ldN ?hc) ?hi ?_); (case hi => exact .pick (by repeat constructor) .nil); (case hc => repeat constructor))); (refine e_stS (v_add (by omega) (by omega)) .nil ?_)
  refine e_stS (v_sl2 at_ (at_ + pzN p) rfl (by rfl) (by omega) (by omega)) .nil ?_
  have hcs := cut_seg (i := at_) (j := at_ + pzN p) (c := c) hr (by omega) e1 hc
  have hsl2 := segLen (b := b) (i := at_) (j := at_ + pzN p) e1
  rw [hsl2] at hcs
  refine e_app (m := at_ + pzN p - at_) (news := (seg b at_ (at_ + pzN p)).map Sl.B) (by (repeat constructor) : Pick _ (Sl 1 5 ba bc (seg b fr at_).length ((seg b fr at_).map Sl.B)) _) (src_rd (A := A) (e' := 5) (by kernel_rfl) (by repeat constructor) hcs (rd_none_ hcs) B_one) (by omega) (by omega) fun a3 c3 => ?_
  have hsl3 := segLen (b := b) (i := fr) (j := at_ + pzN p) e1
  rw [<- List.map_append, seg_snoc hfa (by omega), show (seg b fr at_).length + (at_ + pzN p - at_) = (seg b fr (at_ + pzN p)).length by omega]
  refine e_stS v_fa0 .nil ?_; (((refine' e_stN ?hp ?ho ?_); (case hp => (repeat constructor)); (case ho => repeat constructor))); (refine e_opN (v_add (by omega) (by omega)) .nil ?_); refine e_opN v_fa0 .nil ?_; (((refine' e_opN (v_ldN ?hc) ?hi ?_); (case hi => exact .pick (by repeat constructor) .nil); (case hc => repeat constructor))); refine e_opN v_len .nil ?_
  refine e_opN v_eql .nil ?_
  by_cases h8 : ((L ++ [p]).length : Int) = 8192
  ·rw [dT_ h8]
   refine e_gdF1 ?_; refine e_gdF1 ?_; refine e_gdF1 ?_; refine e_gdF1 ?_; refine e_opN v_pickT .nil ?_
   refine e_cut1 (fun z => pu (z = .bool (decide (fullC level (L.length + 1) (at_ + pzN p - fr)))) :: pt b7 (.cells #[.slice a2 (L ++ [p]).length c2, .slice a3 (seg b fr (at_ + pzN p)).length c3] 92) :: Sl 1 5 a3 c3 (seg b fr (at_ + pzN p)).length ((seg b fr (at_ + pzN p)).map Sl.B) :: Sl 3 118 a2 c2 (L ++ [p]).length ((L ++ [p]).flatMap pPz) :: Sl 2 92 oa oc X.length (X.flatMap bwC) :: BAr X :: Sl 3 118 (some ⟨gp, 0, none⟩) pc P.length (P.flatMap pPz) :: A :: F) ?_ ?_
   rotate_left
   ·refine e_opN v_eql .nil ?_
    by_cases hz : level = 0
    ·rw [dT_ hz]
     refine e_condT ?_; refine e_opN v_fa0 .nil ?_; (((refine' e_opN (v_ldN ?hc) ?hi ?_); (case hi => exact .pick (by repeat constructor) .nil); (case hc => repeat constructor))); refine e_opN v_len .nil ?_
     refine e_opN v_eql .nil ?_
     refine e_sat (.pu ?_ ?_)
     ·congr 1
      exact decide_eq_decide.2 (by unfold fullC; omega)
     (repeat (first | exact .refl | exact .nil | (apply Imp.pick; (focus ((repeat constructor); done))) | refine .drop ?_))
    ·rw [dF_ hz]
     refine e_condF ?_
     refine e_sat (.pu ?_ ?_)
     ·congr 1
      exact (dT_ (by unfold fullC; omega)).symm
     (repeat (first | exact .refl | exact .nil | (apply Imp.pick; (focus ((repeat constructor); done))) | refine .drop ?_))
   intro ds z
   refine e_pu .here fun hz => ?_
   subst hz
   by_cases hfu : fullC level (L.length + 1) (at_ + pzN p - fr)
   ·rw [dT_ hfu]
    rw [if_pos hfu] at hcut
    refine e_condT ?_; (((refine' e_opN (v_ldAgg ?hn) ?hi ?_); (case hi => exact .pick (by repeat constructor) .nil); (case hn => rfl)))
    refine e_slfacts (by (repeat constructor) : Pick _ (Sl 3 118 a2 c2 (L ++ [p]).length ((L ++ [p]).flatMap pPz)) _) fun _ _ _ s4 => ?_
    refine e_slfacts (by (repeat constructor) : Pick _ (Sl 1 5 a3 c3 (seg b fr (at_ + pzN p)).length ((seg b fr (at_ + pzN p)).map Sl.B)) _) fun _ _ _ t4 => ?_
    obtain ⟨nx, hnx⟩ : ∃ nx : Blk × Bv, nx = ((L ++ [p], seg b fr (at_ + pzN p)), ((a2, c2), (a3, c3))) := ⟨_, rfl⟩
    refine e_bslS (n := 1) (vs := [bwV nx]) rfl (by decide) (by rw [hnx]; rfl) (by intro v hv; rw [List.mem_singleton.1 hv]; rfl) (by decide) fun gd => ?_
    refine e_app (m := 1) (news := bwC nx) (by (repeat constructor) : Pick _ (Sl 2 92 oa oc X.length (X.flatMap bwC)) _) (src_pt (s := 2) (e' := 92) (by kernel_rfl) (by repeat constructor) (by rfl) (by intro u hu; simp [bwV, Value.cells] at hu; rcases hu with rfl | rfl <;> rfl)) (by omega) (by omega) fun a4 c4 => ?_
    refine e_bar (X := X) (x := nx) (e1 := 118) (e2 := 5) (by rw [hnx]; (repeat constructor)) (by rw [hnx]; (repeat constructor)) (by repeat constructor) ?_
    have e8 : X.flatMap bwC ++ bwC nx = (X ++ [nx]).flatMap bwC := by rw [List.flatMap_append, List.flatMap_singleton]
    have e9 : X.length + 1 = (X ++ [nx]).length := by simp
    rw [<- hnx, e8, e9]
    refine e_opN v_rv .nil ?_; (((refine' e_stAgg ?hp ?hn ?hv ?h1 ?_); (case hp => (repeat constructor)); (case hn => rfl); (case hv => rfl); (case h1 => simp [Value.oneCell']))); (refine e_opN (v_add (by omega) (by omega)) .nil ?_)
    refine e_next3 (m - 1) (by omega) (.ex (((a4, c4), ((none, 0), (none, 0))), (i + 1, at_ + pzN p, at_ + pzN p), [], X ++ [nx]) (.all ?_))
    (try simp only [ca_, na_, -eq_self])
    rw [seg_self]
    refine .pu ⟨⟨by rw [<- hP]; omega, ?_, by rw [<- hP]; exact hgr, Nat.le_refl _, e1, Nat.zero_le _, Nat.zero_le _, by rw [<- e9]; omega, ?_⟩, rfl, rfl, rfl⟩ ?_
    ·rw [<- hP, List.map_append, show [nx].map Prod.fst = [(L ++ [p], seg b fr (at_ + pzN p))] by rw [hnx]; rfl]
     exact hcut
    ·intro x hx
     rcases List.mem_append.1 hx with hx | hx
     ·exact hok x hx
     ·rw [List.mem_singleton.1 hx, hnx]
      exact ⟨s4, t4⟩
    refine .pick (by repeat constructor) (.pick (by repeat constructor) (.pick (by repeat constructor) (imp_nil (imp_nil ?_))))
    (repeat (first | exact .refl | exact .nil | (apply Imp.pick; (focus ((repeat constructor); done))) | refine .drop ?_))
   ·rw [dF_ hfu]
    rw [if_neg hfu] at hcut
    refine e_condF ?_; (refine e_opN (v_add (by omega) (by omega)) .nil ?_)
    refine e_next3 (m - 1) (by omega) (.ex (((oa, oc), ((a2, c2), (a3, c3))), (i + 1, fr, at_ + pzN p), L ++ [p], X) (.all ?_))
    (try simp only [ca_, na_, -eq_self])
    refine .pu ⟨⟨by rw [<- hP]; omega, by rw [<- hP]; exact hcut, by rw [<- hP]; exact hgr, by omega, e1, by rw [<- e5]; omega, by rw [<- e5]; omega, by omega, hok⟩, rfl, rfl, rfl⟩ ?_
    (repeat (first | exact .refl | exact .nil | (apply Imp.pick; (focus ((repeat constructor); done))) | refine .drop ?_))
  ·rw [dF_ h8]
   refine e_gdT ?_; refine e_opN v_fa0 .nil ?_; refine e_gdT ?_; (((refine' e_opN (v_ldN ?hc) ?hi ?_); (case hi => exact .pick (by repeat constructor) .nil); (case hc => repeat constructor))); refine e_gdT ?_; refine e_opN v_len .nil ?_; refine e_gdT ?_
   refine e_opN v_gtr .nil ?_
   refine e_opN v_pickF .nil ?_
   refine e_cut1 (fun z => pu (z = .bool (decide (fullC level (L.length + 1) (at_ + pzN p - fr)))) :: pt b7 (.cells #[.slice a2 (L ++ [p]).length c2, .slice a3 (seg b fr (at_ + pzN p)).length c3] 92) :: Sl 1 5 a3 c3 (seg b fr (at_ + pzN p)).length ((seg b fr (at_ + pzN p)).map Sl.B) :: Sl 3 118 a2 c2 (L ++ [p]).length ((L ++ [p]).flatMap pPz) :: Sl 2 92 oa oc X.length (X.flatMap bwC) :: BAr X :: Sl 3 118 (some ⟨gp, 0, none⟩) pc P.length (P.flatMap pPz) :: A :: F) ?_ ?_
   rotate_left
   ·refine e_opN v_eql .nil ?_
    by_cases hz : level = 0
    ·rw [dT_ hz]
     refine e_condT ?_; refine e_opN v_fa0 .nil ?_; (((refine' e_opN (v_ldN ?hc) ?hi ?_); (case hi => exact .pick (by repeat constructor) .nil); (case hc => repeat constructor))); refine e_opN v_len .nil ?_
     refine e_opN v_eql .nil ?_
     refine e_sat (.pu ?_ ?_)
     ·congr 1
      exact decide_eq_decide.2 (by unfold fullC; omega)
     (repeat (first | exact .refl | exact .nil | (apply Imp.pick; (focus ((repeat constructor); done))) | refine .drop ?_))
    ·rw [dF_ hz]
     refine e_condF ?_
     refine e_sat (.pu ?_ ?_)
     ·congr 1
      exact decide_eq_decide.2 (by unfold fullC; omega)
     (repeat (first | exact .refl | exact .nil | (apply Imp.pick; (focus ((repeat constructor); done))) | refine .drop ?_))
   intro ds z
   refine e_pu .here fun hz => ?_
   subst hz
   by_cases hfu : fullC level (L.length + 1) (at_ + pzN p - fr)
   ·rw [dT_ hfu]
    rw [if_pos hfu] at hcut
    refine e_condT ?_; (((refine' e_opN (v_ldAgg ?hn) ?hi ?_); (case hi => exact .pick (by repeat constructor) .nil); (case hn => rfl)))
    refine e_slfacts (by (repeat constructor) : Pick _ (Sl 3 118 a2 c2 (L ++ [p]).length ((L ++ [p]).flatMap pPz)) _) fun _ _ _ s4 => ?_
    refine e_slfacts (by (repeat constructor) : Pick _ (Sl 1 5 a3 c3 (seg b fr (at_ + pzN p)).length ((seg b fr (at_ + pzN p)).map Sl.B)) _) fun _ _ _ t4 => ?_
    obtain ⟨nx, hnx⟩ : ∃ nx : Blk × Bv, nx = ((L ++ [p], seg b fr (at_ + pzN p)), ((a2, c2), (a3, c3))) := ⟨_, rfl⟩
    refine e_bslS (n := 1) (vs := [bwV nx]) rfl (by decide) (by rw [hnx]; rfl) (by intro v hv; rw [List.mem_singleton.1 hv]; rfl) (by decide) fun gd => ?_
    refine e_app (m := 1) (news := bwC nx) (by (repeat constructor) : Pick _ (Sl 2 92 oa oc X.length (X.flatMap bwC)) _) (src_pt (s := 2) (e' := 92) (by kernel_rfl) (by repeat constructor) (by rfl) (by intro u hu; simp [bwV, Value.cells] at hu; rcases hu with rfl | rfl <;> rfl)) (by omega) (by omega) fun a4 c4 => ?_
    refine e_bar (X := X) (x := nx) (e1 := 118) (e2 := 5) (by rw [hnx]; (repeat constructor)) (by rw [hnx]; (repeat constructor)) (by repeat constructor) ?_
    have e8 : X.flatMap bwC ++ bwC nx = (X ++ [nx]).flatMap bwC := by rw [List.flatMap_append, List.flatMap_singleton]
    have e9 : X.length + 1 = (X ++ [nx]).length := by simp
    rw [<- hnx, e8, e9]
    refine e_opN v_rv .nil ?_; (((refine' e_stAgg ?hp ?hn ?hv ?h1 ?_); (case hp => (repeat constructor)); (case hn => rfl); (case hv => rfl); (case h1 => simp [Value.oneCell']))); (refine e_opN (v_add (by omega) (by omega)) .nil ?_)
    refine e_next3 (m - 1) (by omega) (.ex (((a4, c4), ((none, 0), (none, 0))), (i + 1, at_ + pzN p, at_ + pzN p), [], X ++ [nx]) (.all ?_))
    (try simp only [ca_, na_, -eq_self])
    rw [seg_self]
    refine .pu ⟨⟨by rw [<- hP]; omega, ?_, by rw [<- hP]; exact hgr, Nat.le_refl _, e1, Nat.zero_le _, Nat.zero_le _, by rw [<- e9]; omega, ?_⟩, rfl, rfl, rfl⟩ ?_
    ·rw [<- hP, List.map_append, show [nx].map Prod.fst = [(L ++ [p], seg b fr (at_ + pzN p))] by rw [hnx]; rfl]
     exact hcut
    ·intro x hx
     rcases List.mem_append.1 hx with hx | hx
     ·exact hok x hx
     ·rw [List.mem_singleton.1 hx, hnx]
      exact ⟨s4, t4⟩
    refine .pick (by repeat constructor) (.pick (by repeat constructor) (.pick (by repeat constructor) (imp_nil (imp_nil ?_))))
    (repeat (first | exact .refl | exact .nil | (apply Imp.pick; (focus ((repeat constructor); done))) | refine .drop ?_))
   ·rw [dF_ hfu]
    rw [if_neg hfu] at hcut
    refine e_condF ?_; (refine e_opN (v_add (by omega) (by omega)) .nil ?_)
    refine e_next3 (m - 1) (by omega) (.ex (((oa, oc), ((a2, c2), (a3, c3))), (i + 1, fr, at_ + pzN p), L ++ [p], X) (.all ?_))
    (try simp only [ca_, na_, -eq_self])
    refine .pu ⟨⟨by rw [<- hP]; omega, by rw [<- hP]; exact hcut, by rw [<- hP]; exact hgr, by omega, e1, by rw [<- e5]; omega, by rw [<- e5]; omega, by omega, hok⟩, rfl, rfl, rfl⟩ ?_
    (repeat (first | exact .refl | exact .nil | (apply Imp.pick; (focus ((repeat constructor); done))) | refine .drop ?_))
 rw [dF_ hlt]
 have hie : i = P.length := by omega
 rw [hie, List.drop_length, cutF] at hcut
 refine e_condF ?_; refine e_opN v_fa0 .nil ?_; (((refine' e_opN (v_ldN ?hc) ?hi ?_); (case hi => exact .pick (by repeat constructor) .nil); (case hc => repeat constructor))); refine e_opN v_len .nil ?_
 refine e_opN v_gtr .nil ?_
 by_cases hL0 : (0 : Int) < (L.length : Int)
 ·rw [dT_ hL0]
  rw [if_pos (.inl (List.ne_nil_of_length_pos (by omega)))] at hcut
  refine e_gdF1 ?_; refine e_gdF1 ?_; refine e_gdF1 ?_; refine e_opN v_pickT .nil ?_; refine e_condT ?_; (((refine' e_opN (v_ldAgg ?hn) ?hi ?_); (case hi => exact .pick (by repeat constructor) .nil); (case hn => rfl)))
  refine e_slfacts (by (repeat constructor) : Pick _ (Sl 3 118 la lc L.length (L.flatMap pPz)) _) fun _ _ _ s4 => ?_
  refine e_slfacts (by (repeat constructor) : Pick _ (Sl 1 5 ba bc (seg b fr at_).length ((seg b fr at_).map Sl.B)) _) fun _ _ _ t4 => ?_
  obtain ⟨nx, hnx⟩ : ∃ nx : Blk × Bv, nx = ((L, seg b fr at_), ((la, lc), (ba, bc))) := ⟨_, rfl⟩
  refine e_bslS (n := 1) (vs := [bwV nx]) rfl (by decide) (by rw [hnx]; rfl) (by intro v hv; rw [List.mem_singleton.1 hv]; rfl) (by decide) fun gd => ?_
  refine e_app (m := 1) (news := bwC nx) (by (repeat constructor) : Pick _ (Sl 2 92 oa oc X.length (X.flatMap bwC)) _) (src_pt (s := 2) (e' := 92) (by kernel_rfl) (by repeat constructor) (by rfl) (by intro u hu; simp [bwV, Value.cells] at hu; rcases hu with rfl | rfl <;> rfl)) (by omega) (by omega) fun a4 c4 => ?_
  refine e_bar (X := X) (x := nx) (e1 := 118) (e2 := 5) (by rw [hnx]; (repeat constructor)) (by rw [hnx]; (repeat constructor)) (by repeat constructor) ?_
  have e8 : X.flatMap bwC ++ bwC nx = (X ++ [nx]).flatMap bwC := by rw [List.flatMap_append, List.flatMap_singleton]
  have e9 : X.length + 1 = (X ++ [nx]).length := by simp
  rw [<- hnx, e8, e9]
  (first | refine e_ret (((a4, c4), X ++ [nx])) rfl ?_ | refine e_retT (((a4, c4), X ++ [nx])) ?_)
  refine .pu ⟨?_, ?_⟩ ?_
  ·rw [List.map_append, show [nx].map Prod.fst = [(L, seg b fr at_)] by rw [hnx]; rfl]
   exact hcut
  ·intro x hx
   rcases List.mem_append.1 hx with hx | hx
   ·exact hok x hx
   ·rw [List.mem_singleton.1 hx, hnx]
    exact ⟨s4, t4⟩
  (repeat (first | exact .refl | exact .nil | (apply Imp.pick; (focus ((repeat constructor); done))) | refine .drop ?_))
 ·rw [dF_ hL0]
  have hLn : L = [] := List.length_eq_zero_iff.1 (by omega)
  refine e_gdT ?_; refine e_gdT ?_; refine e_opN v_len .nil ?_; refine e_gdT ?_
  refine e_opN v_eql .nil ?_
  by_cases hX0 : (X.length : Int) = 0
  ·rw [dT_ hX0]
   have hXn : X = [] := List.length_eq_zero_iff.1 (by omega)
   rw [if_pos (.inr (by rw [hXn]; rfl))] at hcut
   refine e_opN v_pickF .nil ?_; refine e_condT ?_; (((refine' e_opN (v_ldAgg ?hn) ?hi ?_); (case hi => exact .pick (by repeat constructor) .nil); (case hn => rfl)))
   refine e_slfacts (by (repeat constructor) : Pick _ (Sl 3 118 la lc L.length (L.flatMap pPz)) _) fun _ _ _ s4 => ?_
   refine e_slfacts (by (repeat constructor) : Pick _ (Sl 1 5 ba bc (seg b fr at_).length ((seg b fr at_).map Sl.B)) _) fun _ _ _ t4 => ?_
   obtain ⟨nx, hnx⟩ : ∃ nx : Blk × Bv, nx = ((L, seg b fr at_), ((la, lc), (ba, bc))) := ⟨_, rfl⟩
   refine e_bslS (n := 1) (vs := [bwV nx]) rfl (by decide) (by rw [hnx]; rfl) (by intro v hv; rw [List.mem_singleton.1 hv]; rfl) (by decide) fun gd => ?_
   refine e_app (m := 1) (news := bwC nx) (by (repeat constructor) : Pick _ (Sl 2 92 oa oc X.length (X.flatMap bwC)) _) (src_pt (s := 2) (e' := 92) (by kernel_rfl) (by repeat constructor) (by rfl) (by intro u hu; simp [bwV, Value.cells] at hu; rcases hu with rfl | rfl <;> rfl)) (by omega) (by omega) fun a4 c4 => ?_
   refine e_bar (X := X) (x := nx) (e1 := 118) (e2 := 5) (by rw [hnx]; (repeat constructor)) (by rw [hnx]; (repeat constructor)) (by repeat constructor) ?_
   have e8 : X.flatMap bwC ++ bwC nx = (X ++ [nx]).flatMap bwC := by rw [List.flatMap_append, List.flatMap_singleton]
   have e9 : X.length + 1 = (X ++ [nx]).length := by simp
   rw [<- hnx, e8, e9]
   (first | refine e_ret (((a4, c4), X ++ [nx])) rfl ?_ | refine e_retT (((a4, c4), X ++ [nx])) ?_)
   refine .pu ⟨?_, ?_⟩ ?_
   ·rw [List.map_append, show [nx].map Prod.fst = [(L, seg b fr at_)] by rw [hnx]; rfl]
    exact hcut
   ·intro x hx
    rcases List.mem_append.1 hx with hx | hx
    ·exact hok x hx
    ·rw [List.mem_singleton.1 hx, hnx]
     exact ⟨s4, t4⟩
   (repeat (first | exact .refl | exact .nil | (apply Imp.pick; (focus ((repeat constructor); done))) | refine .drop ?_))
  ·rw [dF_ hX0]
   rw [if_neg (fun h => by
    rcases h with h | h
    ·exact h hLn
    ·have := congrArg List.length h
     rw [List.length_map] at this
     simp only [List.length_nil] at this
     omega)] at hcut
   refine e_opN v_pickF .nil ?_; refine e_condF ?_
   (first | refine e_ret (((oa, oc), X)) rfl ?_ | refine e_retT (((oa, oc), X)) ?_)
   refine .pu ⟨hcut, hok⟩ ?_
   (repeat (first | exact .refl | exact .nil | (apply Imp.pick; (focus ((repeat constructor); done))) | refine .drop ?_))
end Go.Proofs.YthoeeahdkdcceaaGreat.IF
namespace Go.Proofs.YthoeeahdkdcceaaGreat.HF
open Go Go.Proofs Go.RowKit Sh Sl T HM
theorem e_slform {W : World} {L L' : List HP} {S : WP} {s : Nat} {e : TypeId} {a : Option Addr} {cap n : Nat} {cs : List Value} (p : Pick L (Sl s e a cap n cs) L') (h0 : a = none -> cap = 0 -> Ent W L S) (h1 : ∀ g, a = some ⟨g, 0, none⟩ -> Ent W L S) : Ent W L S := fun w hw => by
 obtain ⟨f, ⟨l1, l2, l3, hd⟩, _⟩ := (hw.pick p).fst
 rcases hd with ⟨ha, hc⟩ | ⟨g, rest, hg, _, _⟩
 ·exact h0 ha hc w hw
 ·exact h1 g hg w hw
theorem flat_take2 (k : Nat) : ∀ xs : List It, (xs.flatMap ic).take (k * 2) = (xs.take k).flatMap ic := by
 induction k with
 | zero => intro xs; simp
 | succ k ih =>
  intro xs
  cases xs with
  | nil => simp
  | cons x xs =>
   have := ih xs
   rw [List.flatMap_cons, List.take_succ_cons, List.flatMap_cons, <- this, show ic x = [I x.n, .slice (some ⟨x.g, 0, none⟩) x.w.length x.c] from rfl, show (k + 1) * 2 = k * 2 + 1 + 1 by omega]
   rfl
theorem flat_drop2 (k : Nat) : ∀ xs : List It, (xs.flatMap ic).drop (k * 2) = (xs.drop k).flatMap ic := by
 induction k with
 | zero => intro xs; simp
 | succ k ih =>
  intro xs
  cases xs with
  | nil => simp
  | cons x xs =>
   have := ih xs
   rw [List.flatMap_cons, List.drop_succ_cons, <- this, show ic x = [I x.n, .slice (some ⟨x.g, 0, none⟩) x.w.length x.c] from rfl, show (k + 1) * 2 = k * 2 + 1 + 1 by omega]
   rfl
theorem coins {W : World} {a : Option Addr} {c : Nat} {freq : List Int} {A : HP} (hA : RdB W A a freq.length (freq.map I)) (hf : ∀ x ∈ freq, ¬ badF x) (hl : freq.length <= 320) :
  Cn p_ 148 [.slice a freq.length c] W [A] (fun q : (Option Addr × Nat) × { xs : List It // xs.map er = csF freq /\ xs.length <= 320 } => .slice q.1.1 q.2.1.length q.1.2)
  (fun q => [Sl 2 212 q.1.1 q.1.2 q.2.1.length (q.2.1.flatMap ic), Arena q.2.1, A]) := by
 (refine S.ref03_coins_cn fun F => ?_; unfold S.ref03_coins; simp only [ca_, na_])
 refine e_loop2 (fun m x y => (ex fun st : ((Option Addr × Nat) × Nat) × List It => all [pu (m + st.1.2 = freq.length /\ x = .slice st.1.1.1 st.2.length st.1.1.2 /\ y = .int .i64 (st.1.2 : Int) /\ st.2.map er = isort Prod.fst (coinsF 0 (freq.take st.1.2)) /\ st.2.length <= st.1.2), Sl 2 212 st.1.1.1 st.1.1.2 st.2.length (st.2.flatMap ic), Arena st.2]) :: A :: F) freq.length ?_ ?_
 ·refine .ex (((none, 0), 0), []) (.all ?_)
  (try simp only [ca_, na_, -eq_self])
  refine .pu ⟨rfl, rfl, rfl, rfl, Nat.le_refl _⟩ ?_
  exact imp_nil (imp_ar0 .refl)
 intro m ds x y
 refine e_ex .here fun st => e_all .here ?_
 obtain ⟨⟨⟨sa, sc⟩, i⟩, xs⟩ := st
 (try simp only [ca_, na_, -eq_self])
 refine e_pu .here fun hi => ?_
 (try dsimp only at hi)
 (try dsimp only)
 obtain ⟨hmi, rfl, rfl, hxs, hxl⟩ := hi
 refine e_opN v_len .nil ?_
 refine e_ask v_lss .nil (fun h => ?_) (fun h => ?_)
 ·have hil : i < freq.length := by omega
  have hfi := hf freq[i] (List.getElem_mem hil)
  unfold badF at hfi
  have hsn : coinsF 0 (freq.take (i + 1)) = coinsF 0 (freq.take i) ++ if 0 < freq[i] then [(freq[i], [(i : Int)])] else [] := by
   rw [List.take_succ_eq_append_getElem hil, coinsF_snoc, List.length_take, Nat.min_eq_left (by omega), Int.zero_add]
  obtain ⟨ga, oa, rfl, _⟩ := hA.at_ (by omega)
  have lf : RunV p_ W [A] (sLoad 3 (.pointer (some ⟨ga, oa + i, none⟩))) (.int .i64 freq[i]) := v_ldRd hA (I_get hil)
  refine e_condT ?_
  refine e_opN (v_ia1 i rfl hil) .nil ?_
  refine e_opN lf (.pick (by repeat constructor) .nil) ?_
  refine e_ask v_eql .nil (fun h0 => ?_) (fun h0 => ?_)
  ·refine e_condT ?_
   refine e_opN (v_add (by omega) (by omega)) .nil ?_
   refine e_next2 (m - 1) (by omega) (.ex (((sa, sc), i + 1), xs) (.all ?_))
   (try simp only [ca_, na_, -eq_self])
   refine .pu ⟨by omega, rfl, rfl, by rw [hsn, if_neg (by omega), List.append_nil, hxs], by (try dsimp only); omega⟩ ?_
   (repeat (first | exact .refl | exact .nil | (apply Imp.pick; (focus ((repeat constructor); done))) | refine .drop ?_))
  ·have hpos : 0 < freq[i] := by omega
   have hnext : isort Prod.fst (coinsF 0 (freq.take (i + 1))) = insR Prod.fst (xs.map er) (freq[i], [(i : Int)]) := by
    rw [hsn, if_pos hpos, isort_snoc, hxs]
   refine e_condF ?_
   refine e_opN v_len .nil ?_
   refine e_loop1 (fun m y => (ex fun k : Nat => pu (m = k /\ k <= xs.length /\ y = .int .i64 (k : Int) /\ insR Prod.fst (xs.map er) (freq[i], [(i : Int)]) = insAt Prod.fst (xs.map er) (freq[i], [(i : Int)]) k)) :: Sl 2 212 sa sc xs.length (xs.flatMap ic) :: Arena xs :: A :: F) xs.length ?_ ?_
   ·refine .ex xs.length (.pu ⟨rfl, Nat.le_refl _, rfl, by unfold insR; rw [List.length_map]⟩ ?_)
    (repeat (first | exact .refl | exact .nil | (apply Imp.pick; (focus ((repeat constructor); done))) | refine .drop ?_))
   intro m2 ds2 y2
   refine e_ex .here fun k => e_pu .here fun hk => ?_
   obtain ⟨rfl, hkl, rfl, hins⟩ := hk
   refine e_slfacts .here fun f1 f2 f3 f4 => ?_
   refine e_drS ?_
   refine e_askS v_gtr .nil (fun h2 => ?_) (fun h2 => ?_)
   ·obtain ⟨r, rfl⟩ : ∃ r, m2 = r + 1 := ⟨m2 - 1, by omega⟩
    have hr : r < xs.length := by omega
    obtain ⟨g, rfl⟩ := f4 (by omega)
    have rdx : RdB W (Sl 2 212 (some ⟨g, 0, none⟩) sc xs.length (xs.flatMap ic)) (some ⟨g, 0, none⟩) (xs.length * 2) (xs.flatMap ic) := rd_slG f1 f4
    have ln : RunV p_ W [Sl 2 212 (some ⟨g, 0, none⟩) sc xs.length (xs.flatMap ic)] (sLoad 3 (.pointer (some ⟨g, 0 + r * 2 + 0, none⟩))) (.int .i64 xs[r].n) := v_ldRd2 rdx (by rw [flat_get ic_len xs r 0 hr (by omega)]; rfl)
    refine e_gdT ?_
    refine e_gdT ?_
    refine e_gdT ?_
    refine e_stS (v_sub (by omega) (by omega)) .nil ?_
    refine e_gdT ?_
    refine e_stS (v_ia r (by omega) hr) .nil ?_
    refine e_gdT ?_
    refine e_stS v_fa .nil ?_
    refine e_gdT ?_
    refine e_stS ln (.pick .here .nil) ?_
    refine e_gdT ?_
    refine e_gdT ?_
    refine e_gdT ?_
    refine e_stS (v_ia1 i rfl hil) .nil ?_
    refine e_gdT ?_
    refine e_stS lf (.pick (by repeat constructor) .nil) ?_
    refine e_gdT ?_
    refine e_stS v_gtr .nil ?_
    refine e_stS v_pickT .nil ?_
    have hget : (xs.map er)[r]? = some (er xs[r]) := by rw [List.getElem?_map, List.getElem?_eq_getElem hr]; rfl
    by_cases h3 : freq[i] < xs[r].n
    ·rw [dT_ h3]
     refine e_condT ?_
     refine e_opN (v_sub (by omega) (by omega)) .nil ?_
     refine e_next1 r (by omega) (.ex r (.pu ⟨rfl, by omega, by congr 1; omega, ?_⟩ ?_))
     ·rw [hins, insAt, hget]
      simp only
      rw [if_pos (show freq[i] < (er xs[r]).1 from h3)]
     ·exact .refl
    ·have hat : insR Prod.fst (xs.map er) (freq[i], [(i : Int)]) = (xs.map er).take (r + 1) ++ (freq[i], [(i : Int)]) :: (xs.map er).drop (r + 1) := by
      rw [hins, insAt, hget]
      simp only
      rw [if_neg (show ¬ freq[i] < (er xs[r]).1 from h3)]
     rw [dF_ h3]
     refine e_condF ?_
     refine e_bsl0 (s := 2) (e := 212) fun z => ?_
     refine e_opN (v_sll (r + 1) (by omega) (by omega)) .nil ?_
     refine e_app (m := xs.length - (r + 1)) (news := (xs.flatMap ic).drop ((r + 1) * 2)) .here (src_tail (s := 2) (e' := 212) (by kernel_rfl) (by decide) (.there .here) rdx (by omega) f2 (ics_one xs)) (by omega) (by omega) fun ra rc => ?_
     rw [Nat.zero_add, List.nil_append]
     refine e_drS ?_
     refine e_stD (v_slh0 (r + 1) (by omega) (by omega)) .nil ?_
     refine e_stD (v_ia1 i rfl hil) .nil ?_
     refine e_stD lf (.pick (by repeat constructor) .nil) ?_
     refine e_bsl1 fun gw => ?_
     refine e_obl (by (repeat (first | exact .refl | exact .nil | (apply Imp.pick; (focus ((repeat constructor); done))) | refine .drop ?_))) ?_
     refine e_obl (by (repeat (first | exact .refl | exact .nil | (apply Imp.pick; (focus ((repeat constructor); done))) | refine .drop ?_))) ?_
     refine e_obl (by (repeat (first | exact .refl | exact .nil | (apply Imp.pick; (focus ((repeat constructor); done))) | refine .drop ?_))) ?_
     refine e_stS v_rv .nil ?_
     refine e_own (s := 1) (n := 1) (cs := [.int .i64 (i : Int)]) .here (by rfl) (by unfold maxLen; omega) ?_
     refine e_ar (xs := xs) (x := ⟨freq[i], gw, 1, [(i : Int)]⟩) rfl .here (.there (.there .here)) ?_
     refine e_bslS (s := 2) (vs := [av ⟨freq[i], gw, 1, [(i : Int)]⟩]) rfl (by omega) rfl (by intro z hz; simp at hz; subst hz; rfl) (by omega) fun g4 => ?_
     refine e_obl (by (repeat (first | exact .refl | exact .nil | (apply Imp.pick; (focus ((repeat constructor); done))) | refine .drop ?_))) ?_
     refine e_slcut (a := some ⟨g, 0, none⟩) (cap := sc) (n := xs.length) (m := (r + 1)) (cs := xs.flatMap ic) (s := 2) (e := 212) (.there (.there (.there .here))) (by omega) ?_
     refine e_app (m := 1) (news := ic ⟨freq[i], gw, 1, [(i : Int)]⟩) .here (src_pt (s := 2) (e' := 212) (by kernel_rfl) (.there .here) (by rfl) (ic_one _)) (by omega) (by omega) fun a2 c2 => ?_
     refine e_app (m := xs.length - (r + 1)) (news := (xs.flatMap ic).drop ((r + 1) * 2)) .here (src_sl (s := 2) (e' := 212) (e := 212) (by kernel_rfl) (.there (.there (.there .here))) (fun u hu => ics_one xs u (List.mem_of_mem_drop hu))) (by omega) (by omega) fun a3 c3 => ?_
     refine e_opN (v_add (by omega) (by omega)) .nil ?_
     refine e_next2 (m - 1) (by omega) (.ex (((a3, c3), i + 1), xs.take ((r + 1)) ++ ⟨freq[i], gw, 1, [(i : Int)]⟩ :: xs.drop ((r + 1))) (.all ?_))
     (try simp only [ca_, na_, -eq_self])
     have e1 : (r + 1) + 1 + (xs.length - (r + 1)) = (xs.take ((r + 1)) ++ (⟨freq[i], gw, 1, [(i : Int)]⟩ : It) :: xs.drop ((r + 1))).length := by simp only [List.length_append, List.length_take, List.length_cons, List.length_drop]; omega
     have e2 : (xs.flatMap ic).take ((r + 1) * 2) ++ ic ⟨freq[i], gw, 1, [(i : Int)]⟩ ++ (xs.flatMap ic).drop ((r + 1) * 2) = (xs.take ((r + 1)) ++ (⟨freq[i], gw, 1, [(i : Int)]⟩ : It) :: xs.drop ((r + 1))).flatMap ic := by
      rw [flat_take2, flat_drop2, List.flatMap_append, List.flatMap_cons, List.append_assoc]
     refine .pu ⟨by omega, by rw [e1], rfl, ?_, ?_⟩ ?_
     ·(try dsimp only)
      rw [List.map_append, List.map_cons, List.map_take, List.map_drop, hnext, hat]
      rfl
     ·(try dsimp only)
      rw [<- e1]; omega
     (try dsimp only)
     rw [<- e1, <- e2]
     refine .pick .here (.convL (A := Arena (⟨freq[i], gw, 1, [(i : Int)]⟩ :: xs)) (B := Arena (xs.take ((r + 1)) ++ ⟨freq[i], gw, 1, [(i : Int)]⟩ :: xs.drop ((r + 1)))) (by repeat constructor) (fun f hf y hy => hf y (by
      rcases List.mem_append.1 hy with c | c
      ·exact List.mem_cons_of_mem _ (List.mem_of_mem_take c)
      ·rcases List.mem_cons.1 c with c | c
       ·rw [c]; exact List.mem_cons_self
       ·exact List.mem_cons_of_mem _ (List.mem_of_mem_drop c))) ?_)
     (repeat (first | exact .refl | exact .nil | (apply Imp.pick; (focus ((repeat constructor); done))) | refine .drop ?_))
   ·have hm0 : m2 = 0 := by omega
    subst hm0
    have hat : insR Prod.fst (xs.map er) (freq[i], [(i : Int)]) = (xs.map er).take 0 ++ (freq[i], [(i : Int)]) :: (xs.map er).drop 0 := by rw [hins, insAt]; rfl
    refine e_gdF2 ?_; refine e_gdF2 ?_; refine e_gdF2 ?_; refine e_gdF2 ?_; refine e_gdF2 ?_; refine e_gdF2 ?_; refine e_gdF2 ?_; refine e_gdF2 ?_; refine e_gdF2 ?_; refine e_gdF2 ?_; refine e_gdF2 ?_; refine e_stS v_pickF .nil ?_; refine e_condF ?_
    refine e_slform .here (fun ha hc => ?_) (fun g hg => ?_)
    ·subst ha; subst hc
     have hx0 : xs = [] := by
      rcases Nat.eq_zero_or_pos xs.length with z | z
      ·exact List.eq_nil_of_length_eq_zero z
      ·obtain ⟨_, e⟩ := f4 z; cases e
     subst hx0
     refine e_bsl0 (s := 2) (e := 212) fun z => ?_
     refine e_opN (v_sll 0 (by omega) (by omega)) .nil ?_
     rw [if_pos rfl]
     refine e_app (m := 0) (news := []) .here (fun w _ => Src.ofNil (e' := 212) w (by kernel_rfl) _) (by omega) (by omega) fun ra rc => ?_
     refine e_drS ?_
     refine e_stD (v_slh 0 (by omega) (by omega)) .nil ?_
     rw [if_pos rfl]
     refine e_stD (v_ia1 i rfl hil) .nil ?_
     refine e_stD lf (.pick (by repeat constructor) .nil) ?_
     refine e_bsl1 fun gw => ?_
     refine e_obl (by (repeat (first | exact .refl | exact .nil | (apply Imp.pick; (focus ((repeat constructor); done))) | refine .drop ?_))) ?_
     refine e_obl (by (repeat (first | exact .refl | exact .nil | (apply Imp.pick; (focus ((repeat constructor); done))) | refine .drop ?_))) ?_
     refine e_obl (by (repeat (first | exact .refl | exact .nil | (apply Imp.pick; (focus ((repeat constructor); done))) | refine .drop ?_))) ?_
     refine e_stS v_rv .nil ?_
     refine e_own (s := 1) (n := 1) (cs := [.int .i64 (i : Int)]) .here (by rfl) (by unfold maxLen; omega) ?_
     refine e_ar (xs := []) (x := ⟨freq[i], gw, 1, [(i : Int)]⟩) rfl .here (.there (.there .here)) ?_
     refine e_bslS (s := 2) (vs := [av ⟨freq[i], gw, 1, [(i : Int)]⟩]) rfl (by omega) rfl (by intro z hz; simp at hz; subst hz; rfl) (by omega) fun g4 => ?_
     refine e_obl (by (repeat (first | exact .refl | exact .nil | (apply Imp.pick; (focus ((repeat constructor); done))) | refine .drop ?_))) ?_
     refine e_app (n := 0) (m := 1) (cs := []) (news := ic ⟨freq[i], gw, 1, [(i : Int)]⟩) (.there (.there (.there .here))) (src_pt (s := 2) (e' := 212) (by kernel_rfl) .here (by rfl) (ic_one _)) (by omega) (by omega) fun a2 c2 => ?_
     refine e_app (m := 0) (news := []) .here (src_sl (s := 2) (e' := 212) (e := 212) (by kernel_rfl) (.there (.there (.there .here))) (by simp)) (by omega) (by omega) fun a3 c3 => ?_
     refine e_opN (v_add (by omega) (by omega)) .nil ?_
     refine e_next2 (m - 1) (by omega) (.ex (((a3, c3), i + 1), [⟨freq[i], gw, 1, [(i : Int)]⟩]) (.all ?_))
     (try simp only [ca_, na_, -eq_self])
     refine .pu ⟨by omega, rfl, rfl, ?_, by simp⟩ ?_
     ·(try dsimp only)
      rw [hnext]
      rfl
     (try dsimp only)
     (repeat (first | exact .refl | exact .nil | (apply Imp.pick; (focus ((repeat constructor); done))) | refine .drop ?_))
    ·subst hg
     have rdx : RdB W (Sl 2 212 (some ⟨g, 0, none⟩) sc xs.length (xs.flatMap ic)) (some ⟨g, 0, none⟩) (xs.length * 2) (xs.flatMap ic) := rd_slG f1 (fun _ => ⟨g, rfl⟩)
     refine e_bsl0 (s := 2) (e := 212) fun z => ?_
     refine e_opN (v_sll 0 (by omega) (by omega)) .nil ?_
     refine e_app (m := xs.length - 0) (news := (xs.flatMap ic).drop (0 * 2)) .here (src_tail (s := 2) (e' := 212) (by kernel_rfl) (by decide) (.there .here) rdx (by omega) f2 (ics_one xs)) (by omega) (by omega) fun ra rc => ?_
     rw [Nat.zero_add, List.nil_append]
     refine e_drS ?_
     refine e_stD (v_slh0 0 (by omega) (by omega)) .nil ?_
     refine e_stD (v_ia1 i rfl hil) .nil ?_
     refine e_stD lf (.pick (by repeat constructor) .nil) ?_
     refine e_bsl1 fun gw => ?_
     refine e_obl (by (repeat (first | exact .refl | exact .nil | (apply Imp.pick; (focus ((repeat constructor); done))) | refine .drop ?_))) ?_
     refine e_obl (by (repeat (first | exact .refl | exact .nil | (apply Imp.pick; (focus ((repeat constructor); done))) | refine .drop ?_))) ?_
     refine e_obl (by (repeat (first | exact .refl | exact .nil | (apply Imp.pick; (focus ((repeat constructor); done))) | refine .drop ?_))) ?_
     refine e_stS v_rv .nil ?_
     refine e_own (s := 1) (n := 1) (cs := [.int .i64 (i : Int)]) .here (by rfl) (by unfold maxLen; omega) ?_
     refine e_ar (xs := xs) (x := ⟨freq[i], gw, 1, [(i : Int)]⟩) rfl .here (.there (.there .here)) ?_
     refine e_bslS (s := 2) (vs := [av ⟨freq[i], gw, 1, [(i : Int)]⟩]) rfl (by omega) rfl (by intro z hz; simp at hz; subst hz; rfl) (by omega) fun g4 => ?_
     refine e_obl (by (repeat (first | exact .refl | exact .nil | (apply Imp.pick; (focus ((repeat constructor); done))) | refine .drop ?_))) ?_
     refine e_slcut (a := some ⟨g, 0, none⟩) (cap := sc) (n := xs.length) (m := 0) (cs := xs.flatMap ic) (s := 2) (e := 212) (.there (.there (.there .here))) (by omega) ?_
     refine e_app (m := 1) (news := ic ⟨freq[i], gw, 1, [(i : Int)]⟩) .here (src_pt (s := 2) (e' := 212) (by kernel_rfl) (.there .here) (by rfl) (ic_one _)) (by omega) (by omega) fun a2 c2 => ?_
     refine e_app (m := xs.length - 0) (news := (xs.flatMap ic).drop (0 * 2)) .here (src_sl (s := 2) (e' := 212) (e := 212) (by kernel_rfl) (.there (.there (.there .here))) (fun u hu => ics_one xs u (List.mem_of_mem_drop hu))) (by omega) (by omega) fun a3 c3 => ?_
     refine e_opN (v_add (by omega) (by omega)) .nil ?_
     refine e_next2 (m - 1) (by omega) (.ex (((a3, c3), i + 1), xs.take (0) ++ ⟨freq[i], gw, 1, [(i : Int)]⟩ :: xs.drop (0)) (.all ?_))
     (try simp only [ca_, na_, -eq_self])
     have e1 : 0 + 1 + (xs.length - 0) = (xs.take (0) ++ (⟨freq[i], gw, 1, [(i : Int)]⟩ : It) :: xs.drop (0)).length := by simp only [List.length_append, List.length_take, List.length_cons, List.length_drop]; omega
     have e2 : (xs.flatMap ic).take (0 * 2) ++ ic ⟨freq[i], gw, 1, [(i : Int)]⟩ ++ (xs.flatMap ic).drop (0 * 2) = (xs.take (0) ++ (⟨freq[i], gw, 1, [(i : Int)]⟩ : It) :: xs.drop (0)).flatMap ic := by
      rw [flat_take2, flat_drop2, List.flatMap_append, List.flatMap_cons, List.append_assoc]
     refine .pu ⟨by omega, by rw [e1], rfl, ?_, ?_⟩ ?_
     ·(try dsimp only)
      rw [List.map_append, List.map_cons, List.map_take, List.map_drop, hnext, hat]
      rfl
     ·(try dsimp only)
      rw [<- e1]; omega
     (try dsimp only)
     rw [<- e1, <- e2]
     refine .pick .here (.convL (A := Arena (⟨freq[i], gw, 1, [(i : Int)]⟩ :: xs)) (B := Arena (xs.take (0) ++ ⟨freq[i], gw, 1, [(i : Int)]⟩ :: xs.drop (0))) (by repeat constructor) (fun f hf y hy => hf y (by
      rcases List.mem_append.1 hy with c | c
      ·exact List.mem_cons_of_mem _ (List.mem_of_mem_take c)
      ·rcases List.mem_cons.1 c with c | c
       ·rw [c]; exact List.mem_cons_self
       ·exact List.mem_cons_of_mem _ (List.mem_of_mem_drop c))) ?_)
     (repeat (first | exact .refl | exact .nil | (apply Imp.pick; (focus ((repeat constructor); done))) | refine .drop ?_))
 ·have hie : i = freq.length := by omega
  subst hie
  rw [List.take_length] at hxs
  refine e_condF ?_
  (first | refine e_ret (((sa, sc), (⟨xs, hxs, by omega⟩ : { xs : List It // xs.map er = csF freq /\ xs.length <= 320 }))) rfl ?_ | refine e_retT (((sa, sc), (⟨xs, hxs, by omega⟩ : { xs : List It // xs.map er = csF freq /\ xs.length <= 320 }))) ?_)
  (repeat (first | exact .refl | exact .nil | (apply Imp.pick; (focus ((repeat constructor); done))) | refine .drop ?_))
theorem ld_itR {W : World} {A : HP} {g o j : Nat} {ys : List It} (H : RdL W A (some ⟨g, o, none⟩) ys) (hj : j < ys.length) : RunV p_ W [A] (sLoad 212 (.pointer (some ⟨g, o + j * 2, none⟩))) (av ys[j]) :=
 v_ldRdA (vs := ic ys[j]) H (by rfl) fun i hi => flat_get ic_len ys j i hj hi
theorem rdl_drop {W : World} {A : HP} {a : Option Addr} {ys : List It} {k c : Nat} (h : RdL W A a ys) (hk : k <= ys.length) (hc : ys.length <= c) : RdL W A (if c = k then a else a.map (·.add (k * 2))) (ys.drop k) := by
 refine ⟨ics_len _, fun hn => ?_⟩
 rw [List.length_drop] at hn
 obtain ⟨g, o, rfl, hcell⟩ := h.at_ (by omega)
 rw [if_neg (by omega)]
 refine ⟨g, o + k * 2, by simp [addr_add], fun w L hw j v hv => ?_⟩
 rw [Nat.add_assoc]
 refine hcell w L hw (k * 2 + j) v ?_
 rw [<- flat_drop2, List.getElem?_drop] at hv
 exact hv
theorem rmerged {W : World} {A B : HP} {xs ys : List It} {va vb : Option Addr} {ca cb : Nat} (ha : RdL W A va xs) (hb : RdL W B vb ys) (hca : xs.length <= ca) (hcb : ys.length <= cb) (n1 : xs.length <= 268435456) (n2 : ys.length <= 268435456) :
    Cn p_ 149 [.slice va xs.length ca, .slice vb ys.length cb] W [A, B] (fun q : Option Addr × Nat => .slice q.1 (xs.length + ys.length) q.2) (fun q => [Sl 2 212 q.1 q.2 (xs.length + ys.length) ((mrg It.n xs ys).flatMap ic), A, B]) := by
  (refine S.ref03_merged_cn fun F => ?_; unfold S.ref03_merged; simp only [ca_, na_])
  refine e_loop3 (fun m x y z => (ex fun st : ((Option Addr × Nat) × (Nat × Nat)) × List It => all [pu (m + st.1.2.1 = xs.length /\ x = .slice st.1.1.1 st.2.length st.1.1.2 /\ y = .int .i64 (st.1.2.2 : Int) /\ z = .int .i64 (st.1.2.1 : Int) /\ st.1.2.2 <= ys.length /\ st.2.length = st.1.2.1 + st.1.2.2 /\ mrg It.n xs ys = st.2 ++ mrg It.n (xs.drop st.1.2.1) (ys.drop st.1.2.2)), Sl 2 212 st.1.1.1 st.1.1.2 st.2.length (st.2.flatMap ic)]) :: A :: B :: F) xs.length ?_ ?_
  · refine .ex (((none, 0), (0, 0)), []) (.all ?_)
    (try simp only [ca_, na_, -eq_self])
    refine .pu ⟨rfl, rfl, rfl, rfl, Nat.zero_le _, rfl, rfl⟩ ?_
    exact imp_nil .refl
  intro m ds x y z
  refine e_ex .here fun st => e_all .here ?_
  obtain ⟨⟨⟨sa, sc⟩, ⟨i, k⟩⟩, O⟩ := st
  (try simp only [ca_, na_, -eq_self])
  refine e_pu .here fun hi => ?_
  (try dsimp only at hi)
  (try dsimp only)
  obtain ⟨hmi, rfl, rfl, rfl, hk, hO, hM⟩ := hi
  refine e_opN v_len .nil ?_
  refine e_ask v_lss .nil (fun h => ?_) (fun h => ?_)
  · have hix : i < xs.length := by omega
    obtain ⟨g, o, rfl, _⟩ := ha.at_ (by omega)
    have na := v_itN ha hix
    have la := ld_itR ha hix
    rw [List.drop_eq_getElem_cons hix] at hM
    obtain ⟨a, haE⟩ : ∃ a, a = xs[i] := ⟨_, rfl⟩
    rw [<- haE] at na la hM
    refine e_condT ?_
    refine e_loop2 (fun m2 x y => (ex fun st : ((Option Addr × Nat) × Nat) × List It => all [pu (m2 + st.1.2 = ys.length /\ x = .slice st.1.1.1 st.2.length st.1.1.2 /\ y = .int .i64 (st.1.2 : Int) /\ st.2.length = i + st.1.2 /\ mrg It.n xs ys = st.2 ++ mrg It.n (a :: xs.drop (i + 1)) (ys.drop st.1.2)), Sl 2 212 st.1.1.1 st.1.1.2 st.2.length (st.2.flatMap ic)]) :: A :: B :: F) (ys.length - k) ?_ ?_
    · refine .ex (((sa, sc), k), O) (.all ?_)
      (try simp only [ca_, na_, -eq_self])
      refine .pu ⟨by omega, rfl, rfl, hO, hM⟩ ?_
      exact .refl
    intro m2 ds2 x y
    refine e_ex .here fun st => e_all .here ?_
    obtain ⟨⟨⟨ta, tc⟩, k⟩, Q⟩ := st
    (try simp only [ca_, na_, -eq_self])
    refine e_pu .here fun hi => ?_
    (try dsimp only at hi)
    (try dsimp only)
    obtain ⟨hmk, rfl, rfl, hQ, hM⟩ := hi
    have done : ¬ (∃ h : k < ys.length, ys[k].n < a.n) -> Ent W (Sl 2 212 ta tc Q.length (Q.flatMap ic) :: A :: B :: F) (opN p_ (sIA 209 (.slice (some ⟨g, o, none⟩) xs.length ca) (.int .i64 (i : Int))) noP fun x43 =>
       opN p_ (sLoad 212 x43) noP fun x44 =>
       opN p_ (sBuildSl 209 1 [(0, x44)]) noP fun x45 =>
       opN p_ (sApp #[209, 209] 209 [.slice ta Q.length tc, x45]) noP fun x46 =>
       opN p_ (sBin .add 3 (.int .i64 (i : Int)) (.int .i64 1)) noP fun x13 =>
       next3 (fun m x y z w => sat W ((ex fun st : ((Option Addr × Nat) × (Nat × Nat)) × List It => all [pu (m + st.1.2.1 = xs.length /\ x = .slice st.1.1.1 st.2.length st.1.1.2 /\ y = .int .i64 (st.1.2.2 : Int) /\ z = .int .i64 (st.1.2.1 : Int) /\ st.1.2.2 <= ys.length /\ st.2.length = st.1.2.1 + st.1.2.2 /\ mrg It.n xs ys = st.2 ++ mrg It.n (xs.drop st.1.2.1) (ys.drop st.1.2.2)), Sl 2 212 st.1.1.1 st.1.1.2 st.2.length (st.2.flatMap ic)]) :: A :: B :: F) w) m x46 (.int .i64 (k : Int)) x13) := by
      intro hno
      have hM2 : mrg It.n (a :: xs.drop (i + 1)) (ys.drop k) = a :: mrg It.n (xs.drop (i + 1)) (ys.drop k) := by
        by_cases c : k < ys.length
        · rw [List.drop_eq_getElem_cons c]
          exact mrg_ge It.n fun d => hno ⟨c, d⟩
        · rw [List.drop_eq_nil_of_le (show ys.length <= k by omega)]
          exact mrg_a It.n
      refine e_opN (v_ia i rfl hix) .nil ?_
      refine e_opN la (.pick (by repeat constructor) .nil) ?_
      refine e_bslS (s := 2) (vs := [av a]) rfl (by omega) rfl (by intro z hz; simp at hz; subst hz; rfl) (by omega) fun g4 => ?_
      refine e_app (m := 1) (news := ic a) (.there .here) (src_pt (s := 2) (e' := 212) (by kernel_rfl) .here (by rfl) (ic_one _)) (by omega) (by omega) fun a' c' => ?_
      refine e_opN (v_add (by omega) (by omega)) .nil ?_
      have e1 : Q.length + 1 = (Q ++ [a]).length := by simp
      have e2 : Q.flatMap ic ++ ic a = (Q ++ [a]).flatMap ic := by simp
      rw [e1, e2]
      refine e_next3 (m - 1) (by omega) (.ex (((a', c'), (i + 1, k)), Q ++ [a]) (.all ?_))
      (try simp only [ca_, na_, -eq_self])
      refine .pu ⟨by (try dsimp only); omega, rfl, rfl, rfl, by (try dsimp only); omega, by (try dsimp only); rw [List.length_append, hQ]; simp; omega, ?_⟩ ?_
      · (try dsimp only)
        rw [hM, hM2, List.append_assoc]; rfl
      · (try dsimp only)
        refine .pick .here ?_
        (repeat (first | exact .refl | exact .nil | (apply Imp.pick; (focus ((repeat constructor); done))) | refine .drop ?_))
    refine e_drS ?_
    refine e_stS v_len .nil ?_
    refine e_askS v_lss .nil (fun h2 => ?_) (fun h2 => ?_)
    · have hky : k < ys.length := by omega
      obtain ⟨g', o', rfl, _⟩ := hb.at_ (by omega)
      have nb := v_itN hb hky
      have lb := ld_itR hb hky
      refine e_gdT ?_
      refine e_gdT ?_
      refine e_gdT ?_
      refine e_stS (v_ia k rfl hky) .nil ?_
      refine e_gdT ?_
      refine e_stS v_fa .nil ?_
      refine e_gdT ?_
      refine e_stS nb (.pick (by repeat constructor) .nil) ?_
      refine e_gdT ?_
      refine e_gdT ?_
      refine e_gdT ?_
      refine e_stS (v_ia i rfl hix) .nil ?_
      refine e_gdT ?_
      refine e_stS v_fa .nil ?_
      refine e_gdT ?_
      refine e_stS na (.pick (by repeat constructor) .nil) ?_
      refine e_gdT ?_
      refine e_stS v_lss .nil ?_
      refine e_stS v_pickT .nil ?_
      by_cases h3 : ys[k].n < a.n
      · have hM2 : mrg It.n (a :: xs.drop (i + 1)) (ys.drop k) = ys[k] :: mrg It.n (a :: xs.drop (i + 1)) (ys.drop (k + 1)) := by
          rw [List.drop_eq_getElem_cons hky]
          exact mrg_lt It.n h3
        rw [dT_ h3]
        refine e_condT ?_
        refine e_opN (v_ia k rfl hky) .nil ?_
        refine e_opN lb (.pick (by repeat constructor) .nil) ?_
        refine e_bslS (s := 2) (vs := [av ys[k]]) rfl (by omega) rfl (by intro z hz; simp at hz; subst hz; rfl) (by omega) fun g4 => ?_
        refine e_app (m := 1) (news := ic ys[k]) (.there .here) (src_pt (s := 2) (e' := 212) (by kernel_rfl) .here (by rfl) (ic_one _)) (by omega) (by omega) fun a' c' => ?_
        refine e_opN (v_add (by omega) (by omega)) .nil ?_
        have e1 : Q.length + 1 = (Q ++ [ys[k]]).length := by simp
        have e2 : Q.flatMap ic ++ ic ys[k] = (Q ++ [ys[k]]).flatMap ic := by simp
        rw [e1, e2]
        refine e_next2 (m2 - 1) (by omega) (.ex (((a', c'), k + 1), Q ++ [ys[k]]) (.all ?_))
        (try simp only [ca_, na_, -eq_self])
        refine .pu ⟨by (try dsimp only); omega, rfl, rfl, by (try dsimp only); rw [List.length_append, hQ]; simp; omega, ?_⟩ ?_
        · (try dsimp only)
          rw [hM, hM2, List.append_assoc]; rfl
        · (try dsimp only)
          refine .pick .here ?_
          (repeat (first | exact .refl | exact .nil | (apply Imp.pick; (focus ((repeat constructor); done))) | refine .drop ?_))
      · rw [dF_ h3]
        refine e_condF ?_
        exact done fun c => h3 c.2
    · (refine e_gdF2 ?_); refine e_gdF2 ?_; refine e_gdF2 ?_; refine e_gdF2 ?_; refine e_gdF2 ?_; refine e_gdF2 ?_; refine e_gdF2 ?_; refine e_gdF2 ?_; refine e_gdF2 ?_; refine e_gdF2 ?_; refine e_gdF2 ?_; refine e_stS v_pickF .nil ?_; refine e_condF ?_
      exact done fun c => h2 (by have := c.1; omega)
  · have hie : i = xs.length := by omega
    subst hie
    rw [List.drop_length, show mrg It.n [] (ys.drop k) = ys.drop k from rfl] at hM
    refine e_condF ?_
    refine e_opN (v_sll k rfl hk) .nil ?_
    have rd := rdl_drop hb hk hcb
    unfold RdL at rd
    rw [List.length_drop] at rd
    refine e_app (m := ys.length - k) (news := (ys.drop k).flatMap ic) .here (src_rdS (s := 2) (e' := 212) (by kernel_rfl) (by decide) (.there (.there .here)) rd (ics_one _)) (by omega) (by omega) fun a' c' => ?_
    have e1 : O.length + (ys.length - k) = xs.length + ys.length := by omega
    rw [<- List.flatMap_append, <- hM, e1]
    (first | refine e_ret ((a', c')) rfl ?_ | refine e_retT ((a', c')) ?_)
    (repeat (first | exact .refl | exact .nil | (apply Imp.pick; (focus ((repeat constructor); done))) | refine .drop ?_))
theorem rpairsLoop {W : World} {A : HP} {F : List HP} {ra : Option Addr} {rc : Nat} {rs ar : List It} {K : Value → WP} (hA : RdL W A ra rs) (hm : ∀ y ∈ rs, y ∈ ar) (hl : rs.length ≤ 268435456)
    (hb : ∀ y ∈ rs, 0 ≤ y.n ∧ y.n ≤ 1152921504606846976 ∧ 0 < y.w.length ∧ y.w.length ≤ 1073741824)
    (hK : ∀ (q : Option Addr × Nat) (ps ar' : List It), ps.map er = pairs (rs.map er) → (∀ y ∈ ps, y ∈ ar') → (∀ y ∈ ar, y ∈ ar') → Ent W (Sl 2 212 q.1 q.2 ps.length (ps.flatMap ic) :: Arena ar' :: A :: F) (K (.slice q.1 ps.length q.2))) :
    Ent W (A :: Arena ar :: F) (loop2 (fun I3 m3 _ y12 y13 =>
          opN p_ (sBin .add 3 y13 (.int .i64 1)) noP fun x80 =>
          opN p_ (sLen #[209] 3 [(.slice ra rs.length rc)]) noP fun x82 =>
          opN p_ (sBin .lss 3 x80 x82) noP fun x83 =>
          condS x83
          (drS (stD p_ (sIA 209 (.slice ra rs.length rc) y13) fun D3 x89 =>
            stD p_ (sFA 212 x89 0) fun D4 x90 =>
            stD p_ (sLoad 3 x90) fun D5 x91 =>
            stD p_ (sBin .add 3 y13 (.int .i64 1)) fun D8 x94 =>
            stD p_ (sIA 209 (.slice ra rs.length rc) x94) fun D9 x95 =>
            stD p_ (sFA 212 x95 0) fun D10 x96 =>
            stD p_ (sLoad 3 x96) fun D11 x97 =>
            stD p_ (sBin .add 3 x91 x97) fun D12 x98 =>
            stD p_ (sIA 209 (.slice ra rs.length rc) y13) fun D16 x102 =>
            stD p_ (sFA 212 x102 1) fun D17 x103 =>
            stD p_ (sLoad 129 x103) fun D18 x104 =>
            stD p_ (sBin .add 3 y13 (.int .i64 1)) fun D22 x108 =>
            stD p_ (sIA 209 (.slice ra rs.length rc) x108) fun D23 x109 =>
            stD p_ (sFA 212 x109 1) fun D24 x110 =>
            stD p_ (sLoad 129 x110) fun D25 x111 =>
            opN p_ (sBuildSl 129 0 []) noP fun x99 =>
            (fun w => D25 w ∧ (fun w => D24 w ∧ (fun w => D23 w ∧ (fun w => D22 w ∧ (fun w => D18 w ∧ (fun w => D17 w ∧ (fun w => D16 w ∧ (fun w => D12 w ∧ (fun w => D11 w ∧ (fun w => D10 w ∧ (fun w => D9 w ∧ (fun w => D8 w ∧ (fun w => D5 w ∧ (fun w => D4 w ∧ (fun w => D3 w ∧ (opN p_ (sApp #[129, 129] 129 [x99, x104]) noP fun x105 =>
                      (fun w => D25 w ∧ (fun w => D24 w ∧ (fun w => D23 w ∧ (fun w => D22 w ∧ (fun w => D12 w ∧ (fun w => D11 w ∧ (fun w => D10 w ∧ (fun w => D9 w ∧ (fun w => D8 w ∧ (fun w => D5 w ∧ (fun w => D4 w ∧ (fun w => D3 w ∧ (opN p_ (sApp #[129, 129] 129 [x105, x111]) noP fun x112 =>
                      (fun w => D12 w ∧ (fun w => D11 w ∧ (fun w => D10 w ∧ (fun w => D9 w ∧ (fun w => D8 w ∧ (fun w => D5 w ∧ (fun w => D4 w ∧ (fun w => D3 w ∧ (stS p_ (sBuild 212 [(0, x98), (1, x112)]) fun x113 =>
                      opN p_ (sBuildSl 209 1 [(0, x113)]) noP fun x114 =>
                      opN p_ (sApp #[209, 209] 209 [y12, x114]) noP fun x115 =>
                      opN p_ (sBin .add 3 y13 (.int .i64 2)) noP fun x85 =>
                      next2 I3 m3 x115 x85) w) w) w) w) w) w) w) w)) w) w) w) w) w) w) w) w) w) w) w) w)) w) w) w) w) w) w) w) w) w) w) w) w) w) w) w)))
          (K y12)) (.slice none 0 0) (.int .i64 0)) := by
  refine e_loop2 (fun m x y => (ex fun q : Option Addr × Nat => ex fun ps : List It => ex fun ar' : List It => all [pu (∃ i : Nat, m + i = rs.length ∧ y = .int .i64 (i : Int) ∧ x = .slice q.1 ps.length q.2 ∧ ps.map er ++ pairs ((rs.map er).drop i) = pairs (rs.map er) ∧ (∀ y ∈ ps, y ∈ ar') ∧ (∀ y ∈ ar, y ∈ ar') ∧ ps.length ≤ i), Sl 2 212 q.1 q.2 ps.length (ps.flatMap ic), Arena ar', A]) :: F) rs.length ?_ ?_
  · refine .ex (none, 0) (.ex [] (.ex ar (.all ?_)))
    (try simp only [ca_, na_, -eq_self])
    refine .pu ⟨0, by omega, rfl, rfl, rfl, (fun y hy => (by cases hy)), (fun y hy => hy), Nat.le_refl _⟩ (imp_nil ?_)
    (repeat (first | exact .refl | exact .nil | (apply Imp.pick; (focus ((repeat constructor); done))) | refine .drop ?_))
  intro m ds x y
  refine e_ex Pick.here fun q => e_ex Pick.here fun ps => e_ex Pick.here fun ar' => e_all Pick.here ?_
  obtain ⟨qa, qc⟩ := q
  (try simp only [ca_, na_, -eq_self])
  refine e_pu Pick.here fun hi => ?_
  obtain ⟨i, hmi, rfl, rfl, hps, hpa, haa, hpl⟩ := hi
  (try dsimp only)
  refine e_opN (v_add (by omega) (by omega)) .nil ?_
  refine e_opN v_len .nil ?_
  refine e_ask v_lss .nil (fun h => ?_) (fun h => ?_)
  · have h1 : i + 1 < rs.length := by omega
    have h0 : i < rs.length := by omega
    obtain ⟨g, o, rfl, _⟩ := hA.at_ (by omega)
    obtain ⟨u, hu⟩ : ∃ u, u = rs[i] := ⟨_, rfl⟩
    obtain ⟨v, hv⟩ : ∃ v, v = rs[i + 1] := ⟨_, rfl⟩
    have n0 := v_itN hA h0
    have n1 := v_itN hA h1
    have w0 := v_itW hA h0
    have w1 := v_itW hA h1
    rw [← hu] at n0 w0
    rw [← hv] at n1 w1
    have hum : u ∈ rs := by rw [hu]; exact List.getElem_mem h0
    have hvm : v ∈ rs := by rw [hv]; exact List.getElem_mem h1
    have bu := hb u hum
    have bv := hb v hvm
    have ru := rd_ar (W := W) (haa u (hm u hum))
    have rv := rd_ar (W := W) (haa v (hm v hvm))
    refine e_condT ?_
    refine e_drS ?_
    refine e_stD (v_ia i (by rfl) h0) .nil ?_
    refine e_stD v_fa .nil ?_
    refine e_stD n0 (.pick (by repeat constructor) .nil) ?_
    refine e_stD (v_add (by omega) (by omega)) .nil ?_
    refine e_stD (v_ia (i + 1) (by rfl) h1) .nil ?_
    refine e_stD v_fa .nil ?_
    refine e_stD n1 (.pick (by repeat constructor) .nil) ?_
    refine e_stD (v_add (by omega) (by omega)) .nil ?_
    refine e_stD (v_ia i (by rfl) h0) .nil ?_
    refine e_stD v_fa .nil ?_
    refine e_stD w0 (.pick (by repeat constructor) .nil) ?_
    refine e_stD (v_add (by omega) (by omega)) .nil ?_
    refine e_stD (v_ia (i + 1) (by rfl) h1) .nil ?_
    refine e_stD v_fa .nil ?_
    refine e_stD w1 (.pick (by repeat constructor) .nil) ?_
    refine e_bsl0 (s := 1) (e := 3) fun z => ?_
    iterate 15 refine e_obl (by (repeat (first | exact .refl | exact .nil | (apply Imp.pick; (focus ((repeat constructor); done))) | refine .drop ?_))) ?_
    refine e_app (m := u.w.length) (news := u.w.map I) .here (src_rd (e' := 3) (by kernel_rfl) (.there (.there .here)) ru (by simp) (by intro z hz; obtain ⟨s, _, rfl⟩ := List.mem_map.1 hz; rfl)) (by omega) (by omega) fun b1 d1 => ?_
    iterate 12 refine e_obl (by (repeat (first | exact .refl | exact .nil | (apply Imp.pick; (focus ((repeat constructor); done))) | refine .drop ?_))) ?_
    refine e_app (m := v.w.length) (news := v.w.map I) .here (src_rd (e' := 3) (by kernel_rfl) (.there (.there .here)) rv (by simp) (by intro z hz; obtain ⟨s, _, rfl⟩ := List.mem_map.1 hz; rfl)) (by omega) (by omega) fun b2 d2 => ?_
    rw [Nat.zero_add, List.nil_append, ← List.map_append, ← List.length_append]
    refine e_slsome (a := b2) .here (by rw [List.length_append]; omega) fun g3 hg3 => ?_
    subst hg3
    iterate 8 refine e_obl (by (repeat (first | exact .refl | exact .nil | (apply Imp.pick; (focus ((repeat constructor); done))) | refine .drop ?_))) ?_
    refine e_ar (xs := ar') (x := ⟨u.n + v.n, g3, d2, u.w ++ v.w⟩) rfl .here (.there .here) ?_
    refine e_stS v_rv .nil ?_
    refine e_bslS (s := 2) (vs := [av ⟨u.n + v.n, g3, d2, u.w ++ v.w⟩]) rfl (by omega) rfl (by intro z hz; simp at hz; subst hz; rfl) (by omega) fun g4 => ?_
    refine e_app (m := 1) (news := ic ⟨u.n + v.n, g3, d2, u.w ++ v.w⟩) (by repeat constructor) (src_pt (s := 2) (e' := 212) (by kernel_rfl) .here (by rfl) (ic_one _)) (by omega) (by omega) fun a' c' => ?_
    refine e_opN (v_add (by omega) (by omega)) .nil ?_
    refine e_next2 (m - 2) (by omega) (.ex (a', c') (.ex (ps ++ [⟨u.n + v.n, g3, d2, u.w ++ v.w⟩]) (.ex (⟨u.n + v.n, g3, d2, u.w ++ v.w⟩ :: ar') (.all ?_))))
    (try simp only [ca_, na_, -eq_self])
    refine .pu ⟨i + 2, by omega, by rfl, by rw [List.length_append]; rfl, ?_, ?_, fun y hy => List.mem_cons_of_mem _ (haa y hy), by simp; omega⟩ ?_
    · rw [← hps, pairs_drop (i := i) (by simpa using h1), List.map_append, List.append_assoc]
      simp [er, hu, hv]
    · intro y hy
      rcases List.mem_append.1 hy with c | c
      · exact List.mem_cons_of_mem _ (hpa y c)
      · rw [List.mem_singleton.1 c]; exact List.mem_cons_self
    · rw [List.flatMap_append, List.length_append, List.length_singleton, List.flatMap_singleton]
      (repeat (first | exact .refl | exact .nil | (apply Imp.pick; (focus ((repeat constructor); done))) | refine .drop ?_))
  · refine e_condF ?_
    rw [pairs_end (by simp; omega), List.append_nil] at hps
    exact hK (qa, qc) ps ar' hps hpa haa
theorem rhistLoop {W : World} {A : HP} {F : List HP} {ra : Option Addr} {rc go len k : Nat} {rs ar : List It} {K : WP} (hA : RdL W A ra rs) (hm : ∀ y ∈ rs, y ∈ ar) (hl : 2 * k - 2 ≤ rs.length) (hk : 1 ≤ k ∧ k ≤ 1048576) (hlen : len ≤ 1048576)
    (hb : ∀ y ∈ rs, y.w.length ≤ 1073741824 ∧ ∀ s ∈ y.w, 0 ≤ s ∧ s < len)
    (hK : Ent W (Sl 1 3 (some ⟨go, 0, none⟩) len len (Ln len fun s => (cnt (((rs.map er).take (2 * k - 2)).flatMap fun e => e.2) s : Int)) :: F) K) :
    Ent W (Sl 1 3 (some ⟨go, 0, none⟩) len len (Ln len fun _ => 0) :: A :: Arena ar :: F) (loop1 (fun I4 m4 _ y14 =>
          opN p_ (sBin .mul 3 (.int .i64 2) (.int .i64 (k : Int))) noP fun x121 =>
          opN p_ (sBin .sub 3 x121 (.int .i64 2)) noP fun x122 =>
          opN p_ (sBin .lss 3 y14 x122) noP fun x123 =>
          condS x123
          (loop1 (fun I5 m5 _ y15 =>
            opN p_ (sIA 209 (.slice ra rs.length rc) y14) noP fun x129 =>
            opN p_ (sFA 212 x129 1) noP fun x130 =>
            opN p_ (sLoad 129 x130) noP fun x131 =>
            opN p_ (sLen #[129] 3 [x131]) noP fun x132 =>
            opN p_ (sBin .lss 3 y15 x132) noP fun x133 =>
            condS x133
            (opN p_ (sIA 209 (.slice ra rs.length rc) y14) noP fun x139 =>
             opN p_ (sFA 212 x139 1) noP fun x140 =>
             opN p_ (sLoad 129 x140) noP fun x141 =>
             opN p_ (sIA 129 x141 y15) noP fun x143 =>
             opN p_ (sLoad 3 x143) noP fun x144 =>
             opN p_ (sIA 129 (.slice (some ⟨go, 0, none⟩) len len) x144) noP fun x145 =>
             opN p_ (sLoad 3 x145) noP fun x146 =>
             opN p_ (sBin .add 3 x146 (.int .i64 1)) noP fun x147 =>
             opN p_ (sIA 129 (.slice (some ⟨go, 0, none⟩) len len) x144) noP fun x148 =>
             opN p_ (sStore 3 x148 x147) noP fun _ =>
             opN p_ (sBin .add 3 y15 (.int .i64 1)) noP fun x135 =>
             next1 I5 m5 x135)
            (opN p_ (sBin .add 3 y14 (.int .i64 1)) noP fun x125 =>
             next1 I4 m4 x125)) (.int .i64 0))
          K) (.int .i64 0)) := by
  obtain ⟨P, hP⟩ : ∃ P : Nat → List Int, P = fun i => ((rs.map er).take i).flatMap fun e => e.2 := ⟨_, rfl⟩
  have hPb : ∀ i, i ≤ 2097152 → (P i).length ≤ 1073741824 * i := by
    intro i hi
    rw [hP]
    clear hi
    induction i with
    | zero => simp
    | succ i ih =>
      by_cases c : i < rs.length
      · simp only [] at ih ⊢
        rw [List.take_succ_eq_append_getElem (by simpa using c), List.flatMap_append, List.length_append]
        have := (hb rs[i] (List.getElem_mem c)).1
        simp only [List.flatMap_singleton, List.getElem_map, er]
        omega
      · simp only [] at ih ⊢
        rw [List.take_of_length_le (by simp; omega)]
        rw [List.take_of_length_le (by simp; omega)] at ih
        omega
  refine e_loop1 (fun m y => (ex fun i : Nat => all [pu (m + i = 2 * k - 2 ∧ y = .int .i64 (i : Int)), Sl 1 3 (some ⟨go, 0, none⟩) len len (Ln len fun s => (cnt (P i) s : Int)), A, Arena ar]) :: F) (2 * k - 2) ?_ ?_
  · refine .ex 0 (.all ?_)
    (try simp only [ca_, na_, -eq_self])
    refine .pu ⟨by omega, rfl⟩ ?_
    rw [show P 0 = [] by rw [hP]; rfl]
    exact .pick .here (by (repeat (first | exact .refl | exact .nil | (apply Imp.pick; (focus ((repeat constructor); done))) | refine .drop ?_)))
  intro m ds y
  refine e_ex Pick.here fun i => e_all Pick.here ?_
  (try simp only [ca_, na_, -eq_self])
  refine e_pu Pick.here fun hi => ?_
  obtain ⟨hmi, rfl⟩ := hi
  refine e_opN (v_mul (by omega) (by omega)) .nil ?_
  refine e_opN (v_sub (by omega) (by omega)) .nil ?_
  refine e_ask v_lss .nil (fun h => ?_) (fun h => ?_)
  · have hik : i < rs.length := by omega
    obtain ⟨g, o, rfl, _⟩ := hA.at_ (by omega)
    have hmem : rs[i] ∈ rs := List.getElem_mem hik
    have w0 := v_itW hA hik
    have r0 := rd_ar (W := W) (hm _ hmem)
    have b0 := hb _ hmem
    have hP1 : P (i + 1) = P i ++ rs[i].w := by
      rw [hP]; simp only []
      rw [List.take_succ_eq_append_getElem (by simpa using hik), List.flatMap_append]; simp [er]
    obtain ⟨u, hu⟩ : ∃ u, u = rs[i] := ⟨_, rfl⟩
    rw [← hu] at w0 r0 b0 hP1
    refine e_condT ?_
    refine e_loop1 (fun m y => (ex fun j : Nat => all [pu (m + j = u.w.length ∧ y = .int .i64 (j : Int)), Sl 1 3 (some ⟨go, 0, none⟩) len len (Ln len fun s => (cnt (P i ++ u.w.take j) s : Int)), A, Arena ar]) :: F) u.w.length ?_ ?_
    · refine .ex 0 (.all ?_)
      (try simp only [ca_, na_, -eq_self])
      refine .pu ⟨by omega, rfl⟩ ?_
      rw [List.take_zero, List.append_nil]
      (repeat (first | exact .refl | exact .nil | (apply Imp.pick; (focus ((repeat constructor); done))) | refine .drop ?_))
    intro m2 ds y
    refine e_ex Pick.here fun j => e_all Pick.here ?_
    (try simp only [ca_, na_, -eq_self])
    refine e_pu Pick.here fun hj => ?_
    obtain ⟨hmj, rfl⟩ := hj
    refine e_opN (v_ia i (by rfl) hik) .nil ?_
    refine e_opN v_fa .nil ?_
    refine e_opN w0 (.pick (by repeat constructor) .nil) ?_
    refine e_opN v_len .nil ?_
    refine e_ask v_lss .nil (fun h2 => ?_) (fun h2 => ?_)
    · have hjl : j < u.w.length := by omega
      obtain ⟨s0, s1⟩ := b0.2 u.w[j] (List.getElem_mem hjl)
      obtain ⟨s, hs⟩ := Int.eq_ofNat_of_zero_le s0
      have hsl : s < len := by omega
      have hc1 := cnt_le s (P i ++ u.w.take j)
      have hc2 := hPb i (by omega)
      rw [List.length_append, List.length_take] at hc1
      refine e_condT ?_
      refine e_opN (v_ia i (by rfl) hik) .nil ?_
      refine e_opN v_fa .nil ?_
      refine e_opN w0 (.pick (by repeat constructor) .nil) ?_
      refine e_opN (v_ia1 j (by rfl) hjl) .nil ?_
      refine e_opN (v_ldRd r0 (I_get hjl)) (.pick (by repeat constructor) .nil) ?_
      refine e_opN (v_ia1 s hs hsl) .nil ?_
      refine e_opN (v_ldSl (v := I (cnt (P i ++ u.w.take j) s)) (by rw [Nat.zero_add]; exact Ln_get hsl)) (.pick .here .nil) ?_
      have hi2 : 1073741824 * i ≤ 1073741824 * 2097152 := Nat.mul_le_mul_left _ (by omega)
      refine e_opN (v_add (by omega) (by omega)) .nil ?_
      refine e_opN (v_ia1 s hs hsl) .nil ?_
      refine e_stSl .here (by rw [Ln_len]; omega) ?_
      rw [show (Ln len fun s => (cnt (P i ++ u.w.take j) s : Int)).set (0 + s) (.int .i64 ((cnt (P i ++ u.w.take j) s : Int) + 1)) = Ln len (fun s => (cnt (P i ++ u.w.take (j + 1)) s : Int)) from by
        rw [Nat.zero_add]
        refine Ln_set.trans (Ln_congr fun z hz => ?_)
        rw [List.take_succ_eq_append_getElem hjl, ← List.append_assoc, cnt_append (l := P i ++ u.w.take j)]
        by_cases e : z = s
        · subst e; rw [if_pos rfl]; simp [cnt, hs]
        · have hne : ¬ (u.w[j] = (z : Int)) := by omega
          rw [if_neg e]; simp [cnt, hne]]
      refine e_opN (v_add (by omega) (by omega)) .nil ?_
      refine e_next1 (m2 - 1) (by omega) (.ex (j + 1) (.all ?_))
      (try simp only [ca_, na_, -eq_self])
      exact .pu ⟨by omega, rfl⟩ .refl
    · have : j = u.w.length := by omega
      subst this
      refine e_condF ?_
      refine e_opN (v_add (by omega) (by omega)) .nil ?_
      rw [List.take_length, ← hP1]
      refine e_next1 (m - 1) (by omega) (.ex (i + 1) (.all ?_))
      (try simp only [ca_, na_, -eq_self])
      exact .pu ⟨by omega, rfl⟩ .refl
  · have hie : i = 2 * k - 2 := by omega
    subst hie
    refine e_condF ?_
    refine e_imp (.pick .here (.drop (.drop .refl))) ?_
    rw [hP]
    exact hK
theorem rlengths {W : World} {a : Option Addr} {cap : Nat} {freq : List Int} {A : HP} {lim : Int} (hr : RdB W A a freq.length (freq.map I)) (hfl : freq.length <= 1099511627776) :
    Cn p_ 118 [.slice a freq.length cap, .int .i64 lim] W [A] (fun q : Option Addr × Nat => .tuple #[.slice q.1 (lenV freq lim).length q.2, .int .i64 (lenE freq lim)]) (fun q => [Sl 1 3 q.1 q.2 (lenV freq lim).length ((lenV freq lim).map I), A]) := by
  have bad : lenE freq lim = 1 -> ∀ L : List HP, Ent W (A :: L) (fun w => ∃ q : Option Addr × Nat, (.tuple #[.slice none 0 0, .int .i64 1] : Value) = .tuple #[.slice q.1 (lenV freq lim).length q.2, .int .i64 (lenE freq lim)] /\ sat W ([Sl 1 3 q.1 q.2 (lenV freq lim).length ((lenV freq lim).map I), A] ++ L) w) := by
    intro h L
    have hv : lenV freq lim = [] := by unfold lenV; rw [if_pos (by rw [h]; decide)]
    rw [h, hv]
    refine e_ret (none, 0) rfl ?_
    exact imp_nil .refl
  (refine S.ref03_Lengths_cn fun F => ?_; unfold S.ref03_Lengths; simp only [ca_, na_])
  refine e_opN v_len .nil ?_
  refine e_opN v_gtr .nil ?_
  by_cases hl : 320 < freq.length
  · rw [dT_ (by omega)]
    refine e_gdF1 ?_; refine e_gdF1 ?_; refine e_opN v_pickT .nil ?_; refine e_gdF1 ?_; refine e_gdF1 ?_; refine e_opN v_pickT .nil ?_; refine e_condT ?_
    exact e_imp (by (repeat (first | exact .refl | exact .nil | (apply Imp.pick; (focus ((repeat constructor); done))) | refine .drop ?_))) (bad (if_pos (.inl (.inl hl))) F)
  rw [dF_ (by omega)]
  refine e_gdT ?_; refine e_gdT ?_
  refine e_opN v_lss .nil ?_
  by_cases h1 : lim < 1
  · rw [dT_ (by omega)]
    refine e_opN v_pickF .nil ?_; refine e_gdF1 ?_; refine e_gdF1 ?_; refine e_opN v_pickT .nil ?_; refine e_condT ?_
    exact e_imp (by (repeat (first | exact .refl | exact .nil | (apply Imp.pick; (focus ((repeat constructor); done))) | refine .drop ?_))) (bad (if_pos (.inl (.inr (.inl h1)))) F)
  rw [dF_ (by omega)]
  refine e_opN v_pickF .nil ?_; refine e_gdT ?_; refine e_gdT ?_
  refine e_opN v_gtr .nil ?_
  by_cases h15 : 15 < lim
  · rw [dT_ (by omega)]
    refine e_opN v_pickF .nil ?_; refine e_condT ?_
    exact e_imp (by (repeat (first | exact .refl | exact .nil | (apply Imp.pick; (focus ((repeat constructor); done))) | refine .drop ?_))) (bad (if_pos (.inl (.inr (.inr h15)))) F)
  rw [dF_ (by omega)]
  obtain ⟨L, rfl⟩ := Int.eq_ofNat_of_zero_le (show 0 <= lim by omega)
  obtain ⟨cs, hcs⟩ : ∃ cs, cs = csF freq := ⟨_, rfl⟩
  have hcl : cs.length = (coinsF 0 freq).length := by rw [hcs, csF, length_isort]
  refine e_opN v_pickF .nil ?_; refine e_condF ?_
  refine e_loop2 (fun m x y => (ex fun i : Nat => pu (m + i = freq.length /\ x = .int .i64 ((coinsF 0 (freq.take i)).length : Nat) /\ y = .int .i64 (i : Int) /\ (coinsF 0 (freq.take i)).length <= i /\ ∀ x ∈ freq.take i, ¬ badF x)) :: A :: F) freq.length ?_ ?_
  · refine .ex 0 (.pu ⟨rfl, rfl, rfl, Nat.le_refl _, fun x hx => by simp at hx⟩ ?_)
    exact .refl
  intro m ds x y
  refine e_ex .here fun i => e_pu .here fun hi => ?_
  obtain ⟨hmi, rfl, rfl, hcn, hok⟩ := hi
  refine e_opN v_len .nil ?_
  refine e_ask v_lss .nil (fun h => ?_) (fun h => ?_)
  · have hil : i < freq.length := by omega
    obtain ⟨ga, oa, rfl, _⟩ := hr.at_ (by omega)
    have lf : RunV p_ W [A] (sLoad 3 (.pointer (some ⟨ga, oa + i, none⟩))) (.int .i64 freq[i]) := v_ldRd hr (I_get hil)
    have hbad : badF freq[i] -> lenE freq L = 1 := fun h => if_pos (.inr (.inl ⟨_, List.getElem_mem hil, h⟩))
    have hok2 : ¬ badF freq[i] -> ∀ x ∈ freq.take (i + 1), ¬ badF x := fun h x hx => by
      rw [List.take_succ_eq_append_getElem hil] at hx
      rcases List.mem_append.1 hx with c | c
      · exact hok x c
      · rw [List.mem_singleton.1 c]; exact h
    have hsn : (coinsF 0 (freq.take (i + 1))).length = (coinsF 0 (freq.take i)).length + if 0 < freq[i] then 1 else 0 := by
      rw [List.take_succ_eq_append_getElem hil, coinsF_snoc, List.length_append]
      split <;> simp
    refine e_condT ?_
    refine e_opN (v_ia1 i rfl hil) .nil ?_
    refine e_opN lf (.pick (by repeat constructor) .nil) ?_
    refine e_opN v_lss .nil ?_
    by_cases hn1 : freq[i] < 0
    · rw [dT_ hn1]
      refine e_gdF1 ?_; refine e_gdF1 ?_; refine e_gdF1 ?_; refine e_gdF1 ?_; refine e_gdF1 ?_; refine e_opN v_pickT .nil ?_; refine e_condT ?_
      exact e_imp (by (repeat (first | exact .refl | exact .nil | (apply Imp.pick; (focus ((repeat constructor); done))) | refine .drop ?_))) (bad (hbad (.inl hn1)) F)
    rw [dF_ hn1]
    refine e_gdT ?_
    refine e_gdT ?_
    refine e_gdT ?_
    refine e_opN (v_ia1 i rfl hil) .nil ?_
    refine e_gdT ?_
    refine e_opN lf (.pick (by repeat constructor) .nil) ?_
    refine e_gdT ?_
    refine e_opN v_gtr .nil ?_
    refine e_opN v_pickF .nil ?_
    by_cases hn2 : 1099511627776 < freq[i]
    · rw [dT_ hn2]
      refine e_condT ?_
      exact e_imp (by (repeat (first | exact .refl | exact .nil | (apply Imp.pick; (focus ((repeat constructor); done))) | refine .drop ?_))) (bad (hbad (.inr hn2)) F)
    rw [dF_ hn2]
    have hfi := hok2 (by unfold badF; omega)
    refine e_condF ?_
    refine e_opN (v_ia1 i rfl hil) .nil ?_
    refine e_opN lf (.pick (by repeat constructor) .nil) ?_
    refine e_ask v_gtr .nil (fun h3 => ?_) (fun h3 => ?_)
    · rw [if_pos h3] at hsn
      refine e_condT ?_
      refine e_opN (v_add (by omega) (by omega)) .nil ?_
      refine e_opN (v_add (by omega) (by omega)) .nil ?_
      refine e_next2 (m - 1) (by omega) (.ex (i + 1) (.pu ⟨by omega, by rw [hsn]; rfl, rfl, by omega, hfi⟩ ?_))
      exact .refl
    · rw [if_neg h3, Nat.add_zero] at hsn
      refine e_condF ?_
      refine e_opN (v_add (by omega) (by omega)) .nil ?_
      refine e_next2 (m - 1) (by omega) (.ex (i + 1) (.pu ⟨by omega, by rw [hsn]; rfl, rfl, by omega, hfi⟩ ?_))
      exact .refl
  have hie : i = freq.length := by omega
  subst hie
  rw [List.take_length] at hok hcn ⊢
  rw [<- hcl] at hcn ⊢
  refine e_condF ?_
  refine e_opN v_conv .nil ?_
  rw [wrapu64' (by omega) (by omega)]
  refine e_opN (v_shl (by omega)) .nil ?_
  rw [shl64 (by omega) (by omega) (by omega)]
  refine e_opN v_gtr .nil ?_
  by_cases hkL : 2 ^ L < cs.length
  · rw [dT_ (by
      obtain ⟨Z, hZ⟩ : ∃ Z : Nat, Z = 2 ^ L := ⟨_, rfl⟩
      rw [<- hZ] at hkL ⊢
      omega)]
    refine e_condT ?_
    exact e_imp (by (repeat (first | exact .refl | exact .nil | (apply Imp.pick; (focus ((repeat constructor); done))) | refine .drop ?_))) (bad (if_pos (.inr (.inr (by rw [Int.toNat_natCast, <- hcs]; exact hkL)))) F)
  rw [dF_ (by
    obtain ⟨Z, hZ⟩ : ∃ Z : Nat, Z = 2 ^ L := ⟨_, rfl⟩
    rw [<- hZ] at hkL ⊢
    omega)]
  have hE : lenE freq L = 0 := by
    unfold lenE
    rw [if_neg]
    rintro ((c | c | c) | ⟨x, hx, c⟩ | c)
    · omega
    · omega
    · omega
    · exact hok x hx c
    · rw [Int.toNat_natCast, <- hcs] at c; exact hkL c
  have hV : lenV freq L = if cs.length = 1 then (List.range freq.length).map fun s => (cnt (cs.map PM.one) s : Int) else (List.range freq.length).map (hist cs L) := by
    unfold lenV
    rw [if_neg (fun c => c hE), <- hcs, Int.toNat_natCast]
  have hVl : (lenV freq L).length = freq.length := by rw [hV]; split <;> simp
  rw [hE, hVl]
  have hrb := rows_b (n := (freq.length : Int)) (cs := cs) (by rw [hcs]; exact cs_rowB hok)
  have hp15 : ∀ j, j <= 15 -> 2 ^ j <= 32768 := fun j hj => pow15 hj
  have hrows : ∀ j, j < L -> (rows cs j).length <= 2 * cs.length /\ ∀ e ∈ rows cs j, 0 <= e.1 /\ e.1 <= 1152921504606846976 /\ 0 < e.2.length /\ e.2.length <= 1073741824 := fun j hj => by
    refine ⟨PM.rows_most cs j, fun e he => ?_⟩
    obtain ⟨e1, e2, e3, e4, _⟩ := hrb j e he
    have hp := hp15 j (by omega)
    have hp' : ((2 ^ j : Nat) : Int) <= ((32768 : Nat) : Int) := Int.ofNat_le.2 hp
    omega
  refine e_condF ?_
  refine e_opN v_len .nil ?_
  refine e_mksl freq.length freq.length (by rfl) (by rfl) (by omega) (by omega) (by unfold maxLen; omega) fun go => ?_
  rw [Ln_zero]
  refine e_call (coins hr hok (by omega)) (.cons (.there .here) .nil) fun q => ?_
  obtain ⟨⟨qa, qc⟩, ⟨xs, hxe, hx320⟩⟩ := q
  (try simp only [ca_, na_, -eq_self])
  (try dsimp only)
  have hxl : xs.length = cs.length := by rw [hcs, <- hxe, List.length_map]
  rw [<- hcs] at hxe
  refine e_slfacts .here fun f1 f2 f3 f4 => ?_
  have rdc : RdL W (Sl 2 212 qa qc xs.length (xs.flatMap ic)) qa xs := rd_slG f1 f4
  refine e_opN v_eql .nil ?_
  by_cases hk1 : cs.length = 1
  · obtain ⟨e, he⟩ := List.length_eq_one_iff.1 hk1
    obtain ⟨x, hx⟩ : ∃ x, xs = [x] := List.length_eq_one_iff.1 (by omega)
    subst hx
    have hxe1 : er x = e := by rw [he] at hxe; simpa using hxe
    obtain ⟨e1, e2, e3, e4, e5⟩ := hrb 0 e (by rw [rows, he]; simp)
    have hone : x.w = [PM.one e] := by
      have hm := (PM.coins_mem (mem_isort _ _ _ (show e ∈ csF freq by rw [<- hcs, he]; simp))).2.1
      rw [<- hm, <- hxe1]; rfl
    have hin := e5 (PM.one e) (by rw [<- hxe1]; show PM.one (er x) ∈ x.w; rw [hxe1, hone]; simp)
    rw [dT_ (by omega)]
    refine e_condT ?_
    obtain ⟨gq, rfl⟩ := f4 (by simp)
    have w0 := v_itW rdc (j := 0) (by simp)
    have r0 := rd_ar (W := W) (xs := [x]) (x := x) (by simp)
    rw [hone] at r0
    obtain ⟨S, hS⟩ : ∃ S : Nat, (S : Int) = PM.one e := ⟨(PM.one e).toNat, by omega⟩
    refine e_opN (v_ia 0 (by rfl) (by simp)) .nil ?_
    refine e_opN v_fa .nil ?_
    refine e_opN w0 (.pick (by repeat constructor) .nil) ?_
    rw [show ([x] : List It)[0] = x from rfl, hone]
    refine e_opN (v_ia1 0 (by rfl) (by simp)) .nil ?_
    refine e_opN (v_ldRd (j := 0) r0 (v := I (PM.one e)) rfl) (.pick (by repeat constructor) .nil) ?_
    refine e_opN (v_ia1 S (by exact hS.symm) (by omega)) .nil ?_
    rw [Nat.zero_add]
    refine e_stSl (g := go) (cs := Ln freq.length fun _ => 0) (v := I 1) (j := S) (by repeat constructor) (by rw [Ln_len]; omega) ?_
    rw [show (Ln freq.length fun _ => 0).set S (I 1) = Ln freq.length fun i => if i = S then 1 else 0 from Ln_set]
    refine e_ret (some ⟨go, 0, none⟩, freq.length) rfl ?_
    have hLn : (Ln freq.length fun i => if i = S then 1 else 0) = (lenV freq L).map I := by
      rw [hV, if_pos hk1]
      refine Ln_ext (by simp) fun j hj => ?_
      rw [List.map_map, List.getElem?_map, List.getElem?_range hj]
      simp only [Option.map_some, Function.comp]
      congr 2
      rw [he]
      simp only [List.map_cons, List.map_nil, cnt, <- hS]
      by_cases c : j = S
      · subst c; simp
      · rw [if_neg c, if_neg (fun d => c (by omega))]; simp
    rw [hLn]
    (repeat (first | exact .refl | exact .nil | (apply Imp.pick; (focus ((repeat constructor); done))) | refine .drop ?_))
  rw [dF_ (by omega)]
  rw [if_neg hk1] at hV
  have hfinal : (lenV freq L).map I = Ln freq.length (hist cs L) := by rw [hV, List.map_map]; rfl
  rw [hfinal]
  refine e_condF ?_
  refine e_loop2 (fun m x y => (ex fun st : ((Option Addr × Nat) × Nat) × (List It × List It) => all [pu (m + st.1.2 = L - 1 /\ y = .int .i64 (st.1.2 + 1 : Nat) /\ x = .slice st.1.1.1 st.2.1.length st.1.1.2 /\ st.2.1.map er = rows cs st.1.2 /\ (∀ y ∈ st.2.1, y ∈ st.2.2) /\ (∀ y ∈ xs, y ∈ st.2.2) /\ (st.1.2 = 0 -> st.1.1 = (qa, qc) /\ st.2.1 = xs)), (if st.1.2 = 0 then pu True else Sl 2 212 st.1.1.1 st.1.1.2 st.2.1.length (st.2.1.flatMap ic)), Arena st.2.2]) :: Sl 2 212 qa qc xs.length (xs.flatMap ic) :: Sl 1 3 (some ⟨go, 0, none⟩) freq.length freq.length (Ln freq.length fun _ => 0) :: A :: F) (L - 1) ?_ ?_
  · refine .ex (((qa, qc), 0), (xs, xs)) (.all ?_)
    (try simp only [ca_, na_, -eq_self])
    refine .pu ⟨by (try dsimp only); omega, rfl, rfl, hxe, fun y hy => hy, fun y hy => hy, fun _ => ⟨rfl, rfl⟩⟩ ?_
    rw [if_pos rfl]
    refine .pu trivial ?_
    exact .pick (by repeat constructor) (.pick (by repeat constructor) (.pick (by repeat constructor) (.pick (by repeat constructor) .refl)))
  intro m2 ds2 x y
  refine e_ex .here fun st => e_all .here ?_
  obtain ⟨⟨⟨ra, rc⟩, j⟩, ⟨rs, ar⟩⟩ := st
  (try simp only [ca_, na_, -eq_self])
  refine e_pu .here fun hj => ?_
  (try dsimp only at hj)
  (try dsimp only)
  obtain ⟨hmj, rfl, rfl, hrs, hra, hca, hj0⟩ := hj
  have hrl : rs.length = (rows cs j).length := by rw [<- hrs, List.length_map]
  have hmem : ∀ y ∈ rs, er y ∈ rows cs j := fun y hy => by rw [<- hrs]; exact List.mem_map.2 ⟨y, hy, rfl⟩
  have hbj := hrows j (by omega)
  have hb1 : ∀ y ∈ rs, 0 <= y.n /\ y.n <= 1152921504606846976 /\ 0 < y.w.length /\ y.w.length <= 1073741824 := fun y hy => hbj.2 (er y) (hmem y hy)
  refine e_ask v_lss .nil (fun h => ?_) (fun h => ?_)
  · have hjL : j < L - 1 := by omega
    refine e_condT ?_
    have step : ∀ (q : Option Addr × Nat) (ps ar' : List It), ps.map er = pairs (rs.map er) -> (∀ y ∈ ps, y ∈ ar') -> (∀ y ∈ ar, y ∈ ar') -> Ent W (Sl 2 212 q.1 q.2 ps.length (ps.flatMap ic) :: Arena ar' :: Sl 2 212 qa qc xs.length (xs.flatMap ic) :: Sl 1 3 (some ⟨go, 0, none⟩) freq.length freq.length (Ln freq.length fun _ => 0) :: A :: F) (opN p_ (sCall (fn 149) [.slice qa xs.length qc, .slice q.1 ps.length q.2]) noP fun x118 =>
           opN p_ (sBin .add 3 (.int .i64 ((j + 1 : Nat) : Int)) (.int .i64 1)) noP fun x78 =>
           next2 (fun m x y w => sat W ((ex fun st : ((Option Addr × Nat) × Nat) × (List It × List It) => all [pu (m + st.1.2 = L - 1 /\ y = .int .i64 (st.1.2 + 1 : Nat) /\ x = .slice st.1.1.1 st.2.1.length st.1.1.2 /\ st.2.1.map er = rows cs st.1.2 /\ (∀ y ∈ st.2.1, y ∈ st.2.2) /\ (∀ y ∈ xs, y ∈ st.2.2) /\ (st.1.2 = 0 -> st.1.1 = (qa, qc) /\ st.2.1 = xs)), (if st.1.2 = 0 then pu True else Sl 2 212 st.1.1.1 st.1.1.2 st.2.1.length (st.2.1.flatMap ic)), Arena st.2.2]) :: Sl 2 212 qa qc xs.length (xs.flatMap ic) :: Sl 1 3 (some ⟨go, 0, none⟩) freq.length freq.length (Ln freq.length fun _ => 0) :: A :: F) w) m2 x118 x78) := by
      intro q ps ar' hps hpa haa
      obtain ⟨pa, pc⟩ := q
      (try dsimp only)
      have hpl : ps.length <= rs.length := by
        have e1 : ps.length = (pairs (rs.map er)).length := by rw [<- hps, List.length_map]
        have e2 : ∀ n, ∀ l : List E, l.length <= n -> (pairs l).length <= l.length := by
          intro n
          induction n with
          | zero =>
            intro l hl
            have hl0 : l = [] := List.eq_nil_of_length_eq_zero (by omega)
            subst hl0
            simp [pairs]
          | succ n ih =>
            intro l hl
            match l, hl with
            | [], _ => simp [pairs]
            | [x], _ => simp [pairs]
            | x :: y :: r, hl => have := ih r (by simp at hl; omega); simp [pairs]; omega
        have := e2 _ (rs.map er) (Nat.le_refl _)
        rw [List.length_map] at this
        omega
      refine e_slfacts .here fun g1 g2 g3 g4 => ?_
      have rdp : RdL W (Sl 2 212 pa pc ps.length (ps.flatMap ic)) pa ps := rd_slG g1 g4
      refine e_call (rmerged rdc rdp f2 g2 (by omega) (by omega)) (.cons (.there (.there .here)) (.cons .here .nil)) fun q3 => ?_
      obtain ⟨ma, mc⟩ := q3
      (try simp only [ca_, na_, -eq_self])
      (try dsimp only)
      refine e_opN (v_add (by omega) (by omega)) .nil ?_
      have e1 : xs.length + ps.length = (mrg It.n xs ps).length := by rw [mrg_len]
      rw [e1]
      refine e_next2 (m2 - 1) (by omega) (.ex (((ma, mc), j + 1), (mrg It.n xs ps, ar')) (.all ?_))
      (try simp only [ca_, na_, -eq_self])
      (try dsimp only)
      refine .pu ⟨by omega, rfl, rfl, ?_, fun y hy => ?_, fun y hy => haa y (hca y hy), fun c => by omega⟩ ?_
      · rw [mrg_map It.n Prod.fst er (fun _ => rfl), hxe, hps, hrs]; rfl
      · rcases mrg_mem It.n xs ps hy with c | c
        · exact haa y (hca y c)
        · exact hpa y c
      · rw [if_neg (by omega)]
        (repeat (first | exact .refl | exact .nil | (apply Imp.pick; (focus ((repeat constructor); done))) | refine .drop ?_))
    by_cases c0 : j = 0
    · rw [if_pos c0]
      obtain ⟨e1, e2⟩ := hj0 c0
      injection e1 with e1 e3
      subst e1; subst e3; subst e2
      refine e_imp (M := Sl 2 212 ra rc rs.length (rs.flatMap ic) :: Arena ar :: Sl 1 3 (some ⟨go, 0, none⟩) freq.length freq.length (Ln freq.length fun _ => 0) :: A :: F) (by (repeat (first | exact .refl | exact .nil | (apply Imp.pick; (focus ((repeat constructor); done))) | refine .drop ?_))) ?_
      refine rpairsLoop rdc hra (by omega) hb1 fun q ps ar' k1 k2 k3 => ?_
      exact e_imp (by (repeat (first | exact .refl | exact .nil | (apply Imp.pick; (focus ((repeat constructor); done))) | refine .drop ?_))) (step q ps ar' k1 k2 k3)
    · rw [if_neg c0]
      refine e_slfacts .here fun g1 g2 g3 g4 => ?_
      have rdr : RdL W (Sl 2 212 ra rc rs.length (rs.flatMap ic)) ra rs := rd_slG g1 g4
      refine rpairsLoop rdr hra (by omega) hb1 fun q ps ar' k1 k2 k3 => ?_
      exact e_imp (by (repeat (first | exact .refl | exact .nil | (apply Imp.pick; (focus ((repeat constructor); done))) | refine .drop ?_))) (step q ps ar' k1 k2 k3)
  · have hjL : j = L - 1 := by omega
    subst hjL
    refine e_condF ?_
    by_cases hk0 : cs.length = 0
    · have hh : (Ln freq.length fun _ => 0) = Ln freq.length (hist cs L) := by
        refine Ln_congr fun s _ => ?_
        unfold hist
        rw [hk0]; rfl
      rw [hh]
      refine e_loop1 (fun m y => pu (y = .int .i64 0) :: Sl 1 3 (some ⟨go, 0, none⟩) freq.length freq.length (Ln freq.length (hist cs L)) :: A :: F) 0 ?_ ?_
      · refine .pu rfl ?_
        (repeat (first | exact .refl | exact .nil | (apply Imp.pick; (focus ((repeat constructor); done))) | refine .drop ?_))
      intro m ds y
      refine e_pu Pick.here fun hy => ?_
      subst hy
      refine e_opN (v_mul (by omega) (by omega)) .nil ?_
      refine e_opN (v_sub (by omega) (by omega)) .nil ?_
      refine e_opN v_lss .nil ?_
      rw [dF_ (by omega)]
      refine e_condF ?_
      refine e_ret (some ⟨go, 0, none⟩, freq.length) rfl ?_
      (repeat (first | exact .refl | exact .nil | (apply Imp.pick; (focus ((repeat constructor); done))) | refine .drop ?_))
    have hlast : 2 * cs.length - 2 <= (rows cs (L - 1)).length /\ ∀ e ∈ rows cs (L - 1), ∀ s ∈ e.2, 0 <= s /\ s < (freq.length : Int) := by
      refine ⟨PM.rows_enough (by omega) (by rw [show L - 1 + 1 = L by omega]; omega), fun e he s hs => (hrb (L - 1) e he).2.2.2.2 s hs⟩
    have hb2 : ∀ y ∈ rs, y.w.length <= 1073741824 /\ ∀ s ∈ y.w, 0 <= s /\ s < (freq.length : Int) := fun y hy => ⟨(hb1 y hy).2.2.2, hlast.2 (er y) (hmem y hy)⟩
    have fin : Ent W (Sl 1 3 (some ⟨go, 0, none⟩) freq.length freq.length (Ln freq.length fun s => (cnt (((rs.map er).take (2 * cs.length - 2)).flatMap fun e => e.2) s : Int)) :: A :: F) (fun w => ∃ x : Option Addr × Nat, (.tuple #[.slice (some ⟨go, 0, none⟩) freq.length freq.length, .int .i64 0] : Value) = .tuple #[.slice x.1 freq.length x.2, .int .i64 0] /\ sat W ([Sl 1 3 x.1 x.2 freq.length (Ln freq.length (hist cs L)), A] ++ F) w) := by
      refine e_ret (some ⟨go, 0, none⟩, freq.length) rfl ?_
      rw [hrs]
      exact .refl
    by_cases c0 : L - 1 = 0
    · rw [if_pos c0]
      obtain ⟨e1, e2⟩ := hj0 c0
      injection e1 with e1 e3
      subst e1; subst e3; subst e2
      refine e_imp (M := Sl 1 3 (some ⟨go, 0, none⟩) freq.length freq.length (Ln freq.length fun _ => 0) :: Sl 2 212 ra rc rs.length (rs.flatMap ic) :: Arena ar :: A :: F) (by (repeat (first | exact .refl | exact .nil | (apply Imp.pick; (focus ((repeat constructor); done))) | refine .drop ?_))) ?_
      refine rhistLoop rdc hra (by omega) ⟨by omega, by omega⟩ (by omega) hb2 ?_
      exact fin
    · rw [if_neg c0]
      refine e_slfacts .here fun g1 g2 g3 g4 => ?_
      have rdr : RdL W (Sl 2 212 ra rc rs.length (rs.flatMap ic)) ra rs := rd_slG g1 g4
      refine e_imp (M := Sl 1 3 (some ⟨go, 0, none⟩) freq.length freq.length (Ln freq.length fun _ => 0) :: Sl 2 212 ra rc rs.length (rs.flatMap ic) :: Arena ar :: A :: F) (by (repeat (first | exact .refl | exact .nil | (apply Imp.pick; (focus ((repeat constructor); done))) | refine .drop ?_))) ?_
      refine rhistLoop rdr hra (by omega) ⟨by omega, by omega⟩ (by omega) hb2 ?_
      exact fin
end Go.Proofs.YthoeeahdkdcceaaGreat.HF
