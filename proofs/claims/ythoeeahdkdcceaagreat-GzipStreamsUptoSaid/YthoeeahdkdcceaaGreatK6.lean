/- The document's pieces of a text; its symbols of lengths and distances. No conditions but those that each names. (14 texts made one; each says below what it is.) -/
import Derived.Test.YthoeeahdkdcceaaGreatK5
set_option linter.unusedVariables false
set_option linter.unusedSimpArgs false
set_option linter.unusedSectionVars false
namespace Go.Proofs.YthoeeahdkdcceaaGreat.IF
open Go Go.Proofs Go.RowKit Sh Sl T HM HF B M
theorem rLength {W : World} {n : Int} (h1 : 3 <= n) (h2 : n <= 258) : Cn p_ 116 [.int .i64 n] W [] (fun _ : Unit => .tuple #[.int .i64 (lenS n).1, .int .i64 (lenS n).2.1, .int .i64 (lenS n).2.2]) (fun _ => []) := by
 have hS : lenS n = lastF bL n 257 29 := by unfold lenS; rw [if_neg (by omega)]
 rw [hS]
 obtain ⟨T, hT⟩ : ∃ T, T = lastF bL n 257 29 := ⟨_, rfl⟩
 rw [<- hT]
 (refine S.ref04_Length_s.cn fun F => ?_; unfold S.ref04_Length; simp only [ca_, na_])
 refine o_ v_lss ?_
 rw [dF_ (by omega)]
 refine e_gdT (e_gdT (o_ v_gtr ?_))
 rw [dF_ (by omega)]
 refine o_ v_pickF (e_condF (c_ (rbaseLength (s := 285) (by omega)) fun _ => ?_))
 refine o_ (v_ext (v := .int .i64 (bL 285).1) rfl) ?_
 refine o_ (v_ext (v := .int .i64 (bL 285).2) rfl) ?_
 refine e_loop3 (fun m x y z => pu (m < 29 /\ x = .int .i64 ((257 : Int) + (m : Int)) /\ y = .int .i64 (bL ((257 : Int) + (m : Int))).1 /\ z = .int .i64 (bL ((257 : Int) + (m : Int))).2 /\ T = lastF bL n 257 (m + 1)) :: F) 28 ?_ ?_
 ·exact .pu ⟨by omega, rfl, rfl, rfl, hT⟩ .refl
 intro m ds x y z
 refine e_pu .here fun hk => ?_
 obtain ⟨hm, rfl, rfl, rfl, hl⟩ := hk
 rw [lastF] at hl
 refine o_ v_gtr ?_
 by_cases hc : n < (bL ((257 : Int) + (m : Int))).1
 ·rw [dT_ hc]
  rw [if_neg (by omega)] at hl
  have hm0 : m ≠ 0 := by
   rintro rfl
   rw [show bL ((257 : Int) + ((0 : Nat) : Int)) = (3, 0) from rfl] at hc
   simp only at hc
   omega
  refine e_condT (sb_ ?_)
  refine c_ (rbaseLength (s := (257 : Int) + (m : Int) - 1) (by omega)) fun _ => ?_
  have e1 : (257 : Int) + (m : Int) - 1 = 257 + ((m - 1 : Nat) : Int) := by omega
  rw [e1]
  refine o_ (v_ext (v := .int .i64 (bL ((257 : Int) + ((m - 1 : Nat) : Int))).1) rfl) ?_
  refine o_ (v_ext (v := .int .i64 (bL ((257 : Int) + ((m - 1 : Nat) : Int))).2) rfl) ?_
  exact e_next3 (m - 1) (by omega) (.pu ⟨by omega, rfl, rfl, rfl, by rw [hl, show m - 1 + 1 = m by omega]⟩ .refl)
 ·rw [dF_ hc]
  rw [if_pos (by omega)] at hl
  have hb : 0 <= (bL ((257 : Int) + (m : Int))).1 := by
   have : ∀ j : Fin 29, 0 <= (bL ((257 : Int) + ((j.1 : Nat) : Int))).1 := by decide
   exact this ⟨m, hm⟩
  refine e_condF (sb_ ?_)
  rw [hl]
  refine rt_ () ?_
  exact .refl
theorem rDistance {W : World} {n : Int} (h1 : 1 <= n) (h2 : n <= 32768) : Cn p_ 117 [.int .i64 n] W [] (fun _ : Unit => .tuple #[.int .i64 (disS n).1, .int .i64 (disS n).2.1, .int .i64 (disS n).2.2]) (fun _ => []) := by
 have hS : disS n = lastF bD n 0 30 := by unfold disS; rw [if_neg (by omega)]
 rw [hS]
 obtain ⟨T, hT⟩ : ∃ T, T = lastF bD n 0 30 := ⟨_, rfl⟩
 rw [<- hT]
 (refine S.ref04_Distance_s.cn fun F => ?_; unfold S.ref04_Distance; simp only [ca_, na_])
 refine o_ v_lss ?_
 rw [dF_ (by omega)]
 refine e_gdT (e_gdT (o_ v_gtr ?_))
 rw [dF_ (by omega)]
 refine o_ v_pickF (e_condF (c_ (rbaseDistance (s := 29) (by omega)) fun _ => ?_))
 refine o_ (v_ext (v := .int .i64 (bD 29).1) rfl) ?_
 refine o_ (v_ext (v := .int .i64 (bD 29).2) rfl) ?_
 refine e_loop3 (fun m x y z => pu (m < 30 /\ x = .int .i64 ((0 : Int) + (m : Int)) /\ y = .int .i64 (bD ((0 : Int) + (m : Int))).1 /\ z = .int .i64 (bD ((0 : Int) + (m : Int))).2 /\ T = lastF bD n 0 (m + 1)) :: F) 29 ?_ ?_
 ·exact .pu ⟨by omega, rfl, rfl, rfl, hT⟩ .refl
 intro m ds x y z
 refine e_pu .here fun hk => ?_
 obtain ⟨hm, rfl, rfl, rfl, hl⟩ := hk
 rw [lastF] at hl
 refine o_ v_gtr ?_
 by_cases hc : n < (bD ((0 : Int) + (m : Int))).1
 ·rw [dT_ hc]
  rw [if_neg (by omega)] at hl
  have hm0 : m ≠ 0 := by
   rintro rfl
   rw [show bD ((0 : Int) + ((0 : Nat) : Int)) = (1, 0) from rfl] at hc
   simp only at hc
   omega
  refine e_condT (sb_ ?_)
  refine c_ (rbaseDistance (s := (0 : Int) + (m : Int) - 1) (by omega)) fun _ => ?_
  have e1 : (0 : Int) + (m : Int) - 1 = 0 + ((m - 1 : Nat) : Int) := by omega
  rw [e1]
  refine o_ (v_ext (v := .int .i64 (bD ((0 : Int) + ((m - 1 : Nat) : Int))).1) rfl) ?_
  refine o_ (v_ext (v := .int .i64 (bD ((0 : Int) + ((m - 1 : Nat) : Int))).2) rfl) ?_
  exact e_next3 (m - 1) (by omega) (.pu ⟨by omega, rfl, rfl, rfl, by rw [hl, show m - 1 + 1 = m by omega]⟩ .refl)
 ·rw [dF_ hc]
  rw [if_pos (by omega)] at hl
  have hb : 0 <= (bD ((0 : Int) + (m : Int))).1 := by
   have : ∀ j : Fin 30, 0 <= (bD ((0 : Int) + ((j.1 : Nat) : Int))).1 := by decide
   exact this ⟨m, hm⟩
  refine e_condF (sb_ ?_)
  rw [hl]
  refine rt_ () ?_
  exact .refl
theorem ralike {W : World} {a : Option Addr} {c i j : Nat} {b : List UInt8} {A : HP} (hr : RdB W A a b.length (b.map Sl.B)) (hb : b.length <= 1048576) (hij : i < j) (hj : j < b.length) :
  Cn p_ 143 [.slice a b.length c, .int .i64 (i : Int), .int .i64 (j : Int)] W [A] (fun _ : Unit => .int .i64 (alike b i j : Int)) (fun _ => [A]) := by
 obtain ⟨g, o, rfl, _⟩ := hr.at_ (by omega)
 (refine S.ref04_alike_s.cn fun F => ?_; unfold S.ref04_alike; simp only [ca_, na_])
 refine e_loop1 (fun m y => pu (∃ n : Nat, m + n = 259 /\ y = .int .i64 (n : Int) /\ alk b i j m n = alike b i j) :: A :: F) 259 ?_ ?_
 ·exact .pu ⟨0, rfl, rfl, rfl⟩ .refl
 intro m ds y
 refine e_pu .here fun hk => ?_
 obtain ⟨n, hmn, rfl, hal⟩ := hk
 refine e_drS (t_ v_lss ?_)
 by_cases h1 : (n : Int) < 258
 rotate_left
 ·rw [dF_ h1]
  refine e_gdF2 (e_gdF2 (e_gdF2 (e_gdF2 (e_gdF2 (e_gdF2 (t_ v_pickF (e_gdF2 (e_gdF2 (e_gdF2 (e_gdF2 (e_gdF2 (e_gdF2 (e_gdF2 (e_gdF2 (e_gdF2 (e_gdF2 (e_gdF2 (e_gdF2 (e_gdF2 (t_ v_pickF (e_condF ?_)))))))))))))))))))))
  have : alk b i j m n = n := by
   cases m with
   | zero => rfl
   | succ m => rw [alk, if_neg (by omega)]
  rw [<- hal, this]
  refine rt_ () ?_
  exact .refl
 rw [dT_ h1]
 obtain ⟨m, rfl⟩ : ∃ k, m = k + 1 := ⟨m - 1, by omega⟩
 rw [alk] at hal
 refine e_gdT (e_gdT (e_gdT ?_)); (refine t_ (v_add (by omega) (by omega)) ?_); refine e_gdT (e_gdT (t_ v_len (e_gdT (t_ v_lss ?_))))
 by_cases h2 : (j : Int) + (n : Int) < (b.length : Int)
 rotate_left
 ·rw [dF_ h2]
  rw [if_neg (by omega)] at hal
  rw [<- hal]
  refine t_ v_pickT (e_gdF2 (e_gdF2 (e_gdF2 (e_gdF2 (e_gdF2 (e_gdF2 (e_gdF2 (e_gdF2 (e_gdF2 (e_gdF2 (e_gdF2 (e_gdF2 (e_gdF2 (t_ v_pickF (e_condF (rt_ () ?_))))))))))))))))
  exact .refl
 rw [dT_ h2]
 refine t_ v_pickT (e_gdT (e_gdT (e_gdT (e_gdT ?_)))); (refine t_ (v_add (by omega) (by omega)) ?_); refine e_gdT (t_ (v_ia1 (i + n) (by rfl) (by omega)) ?_)
 refine e_gdT (p_st (v_ldRd hr (v := .int .u8 ((b[i + n]'(by omega)).toNat : Int)) (B_get (by omega))) ?_)
 refine e_gdT (e_gdT (e_gdT (e_gdT ?_))); (refine t_ (v_add (by omega) (by omega)) ?_); refine e_gdT (t_ (v_ia1 (j + n) (by rfl) (by omega)) ?_)
 refine e_gdT (p_st (v_ldRd hr (v := .int .u8 ((b[j + n]'(by omega)).toNat : Int)) (B_get (by omega))) ?_)
 refine e_gdT (t_ v_eql ?_)
 by_cases h3 : b[i + n]'(by omega) = b[j + n]'(by omega)
 ·rw [dT_ (by rw [h3])]
  rw [if_pos ⟨by omega, by omega, by rw [List.getElem?_eq_getElem (by omega), List.getElem?_eq_getElem (by omega), h3]⟩] at hal
  refine t_ v_pickT (e_condT (ad_ ?_))
  exact e_next1 m (by omega) (.pu ⟨n + 1, by omega, rfl, hal⟩ .refl)
 ·rw [dF_ (fun h => h3 (UInt8.toNat_inj.1 (by exact_mod_cast h)))]
  rw [if_neg (fun h => h3 (by have := h.2.2; rw [List.getElem?_eq_getElem (by omega), List.getElem?_eq_getElem (by omega)] at this; exact Option.some.inj this))] at hal
  rw [<- hal]
  refine t_ v_pickT (e_condF (rt_ () ?_))
  exact .refl
theorem rpiece {W : World} {a : Option Addr} {c j w d : Nat} {b : List UInt8} {A : HP} (hr : RdB W A a b.length (b.map Sl.B)) (hb : b.length <= 1048576) (hj : j < b.length) (hw : w <= 32768) (hd : d <= 4096) :
  Cn p_ 113 [.slice a b.length c, .int .i64 (j : Int), .int .i64 (w : Int), .int .i64 (d : Int)] W [A] (fun _ : Unit => vPz (pieceAt b w d j)) (fun _ => [A]) := by
 have hr0 := hr
 obtain ⟨g, o, ha, _⟩ := hr.at_ (by omega)
 (refine S.ref04_at_s.cn fun F => ?_; unfold S.ref04_at; simp only [ca_, na_])
 rw [ha] at hr ⊢
 refine e_newA fun g => ?_
 rename Nat => b8
 refine o_ (v_ia1 j rfl hj) ?_
 refine p_op (v_ldRd (v := Sl.B (b.getD j 0)) hr (by rw [List.getElem?_map, List.getElem?_eq_getElem hj, List.getD_eq_getElem?_getD, List.getElem?_eq_getElem hj]; rfl)) ?_
 refine o_ v_rv ?_; refine e_newA fun g => ?_; refine sg_ ?_; refine sb_ ?_
 rename Nat => b9
 refine e_loop2 (fun m x y => (ex fun p : Pz => all [pu (∃ e : Nat, m <= j /\ e <= d /\ x = .int .i64 (e : Int) /\ y = .int .i64 ((m : Int) - 1) /\ rat b j w m e p = pieceAt b w d j /\ p.len <= 1048576 /\ 0 <= p.len), pt b9 (.cells #[.int .i64 p.len, .int .i64 p.dist, Sl.B p.c] 118)]) :: pt b8 (.cells #[.int .i64 0, .int .i64 0, .int .u8 0] 118) :: A :: F) j ?_ ?_
 ·refine .ex ⟨0, 0, b.getD j 0⟩ (.all ?_)
  refine nr_ ?_
  refine .pu ⟨d, Nat.le_refl _, Nat.le_refl _, rfl, rfl, rfl, by simp, by simp⟩ ?_
  exact im_
 intro m ds x y
 refine e_ex .here fun p => e_all .here ?_
 refine nr_ ?_
 refine e_pu .here fun hk => ?_
 obtain ⟨e, hmj, hed, rfl, rfl, hrt, hp1, hp0⟩ := hk
 have stop : rat b j w m e p = p -> Ent W (pt b8 (.cells #[.int .i64 p.len, .int .i64 p.dist, Sl.B p.c] 118) :: pt b9 (.cells #[.int .i64 p.len, .int .i64 p.dist, Sl.B p.c] 118) :: A :: F) (fun w_1 => ∃ x : Unit, (.agg #[.int .i64 p.len, .int .i64 p.dist, Sl.B p.c]) = vPz (pieceAt b w d j) /\ sat W (A :: F) w_1) := by
  intro hs
  rw [<- hrt, hs]
  refine e_ret () rfl ?_
  exact im_
 refine o_ v_geq ?_
 by_cases h1 : (0 : Int) <= (m : Int) - 1
 rotate_left
 ·rw [dF_ h1]
  have hm0 : m = 0 := by omega
  subst hm0
  refine e_gdF2 (e_gdF2 (e_gdF2 (e_gdF2 (e_gdF2 (o_ v_pickF (e_gdF2 (e_gdF2 (o_ v_pickF (e_condF (lg_ ?_)))))))))); refine sg_ ?_; (((refine' e_stS (v_resA ?hn) ?hi ?_); (case hi => exact im_); (case hn => rfl)))
  exact stop rfl
 rw [dT_ h1]
 obtain ⟨m, rfl⟩ : ∃ k, m = k + 1 := ⟨m - 1, by omega⟩
 rw [show (((m + 1 : Nat) : Int)) - 1 = (m : Int) by omega]
 have hrt' := hrt
 rw [rat] at hrt'
 refine e_gdT (e_gdT (e_gdT (sb_ ?_))); refine e_gdT (e_gdT (o_ v_leq ?_))
 by_cases h2 : (j : Int) - (m : Int) <= (w : Int)
 rotate_left
 ·rw [dF_ h2]
  refine o_ v_pickT (e_gdF2 (e_gdF2 (o_ v_pickF (e_condF (lg_ ?_))))); refine sg_ ?_; (((refine' e_stS (v_resA ?hn) ?hi ?_); (case hi => exact im_); (case hn => rfl)))
  exact stop (by rw [rat, if_pos (.inl (by omega))])
 rw [dT_ h2]
 refine o_ v_pickT (e_gdT (e_gdT (o_ v_gtr ?_)))
 by_cases h3 : (0 : Int) < (e : Int)
 rotate_left
 ·rw [dF_ h3]
  refine o_ v_pickT (e_condF (lg_ ?_)); refine sg_ ?_; (((refine' e_stS (v_resA ?hn) ?hi ?_); (case hi => exact im_); (case hn => rfl)))
  exact stop (by rw [rat, if_pos (.inr (by omega))])
 rw [dT_ h3]
 rw [if_neg (by omega)] at hrt'
 have hal := (alike_spec b m j).1
 refine o_ v_pickT (e_condT ?_)
 rw [<- ha]
 refine c_ (ralike (i := m) (j := j) hr0 hb (by omega) hj) fun _ => ?_
 refine o_ v_lss ?_
 by_cases h4 : (alike b m j : Int) < 3
 ·rw [dT_ h4]
  rw [if_pos (by omega)] at hrt'
  refine e_condT (sb_ ?_)
  refine e_next2 m (by omega) (.ex p (.all ?_))
  refine nr_ ?_
  refine .pu ⟨e, by omega, hed, rfl, rfl, hrt', hp1, hp0⟩ ?_
  exact im_
 rw [dF_ h4]
 rw [if_neg (by omega)] at hrt'
 refine e_condF (sb_ ?_); refine o_ v_fa0 (ln_ ?_)
 refine o_ v_gtr ?_
 by_cases h5 : p.len < (alike b m j : Int)
 ·rw [dT_ h5]
  unfold bst at hrt'
  rw [if_pos h5] at hrt'
  refine e_condT (sb_ ?_); refine o_ v_rv ?_; refine sg_ ?_; refine sb_ ?_
  refine e_next2 m (by omega) (.ex ⟨(alike b m j : Int), (j : Int) - m, 0⟩ (.all ?_))
  refine nr_ ?_
  refine .pu ⟨e - 1, by omega, by omega, by rw [show ((e - 1 : Nat) : Int) = (e : Int) - 1 by omega], rfl, hrt', by omega, by omega⟩ ?_
  exact im_
 ·rw [dF_ h5]
  unfold bst at hrt'
  rw [if_neg h5] at hrt'
  refine e_condF (sb_ ?_)
  refine e_next2 m (by omega) (.ex p (.all ?_))
  refine nr_ ?_
  refine .pu ⟨e - 1, by omega, by omega, by rw [show ((e - 1 : Nat) : Int) = (e : Int) - 1 by omega], rfl, hrt', hp1, hp0⟩ ?_
  exact im_
theorem rPieces {W : World} {a : Option Addr} {c w d : Nat} {b : List UInt8} {A : HP} (hr : RdB W A a b.length (b.map Sl.B)) (hb : b.length <= 1048576) (h1 : 1 <= w) (hw : w <= 32768) (hd : d <= 4096) :
  Cn p_ 92 [.slice a b.length c, .int .i64 (w : Int), .int .i64 (d : Int)] W [A] (fun q : Option Addr × Nat => .tuple #[.slice q.1 (piecesF b w d).length q.2, .int .i64 0]) (fun q => [Sl 3 118 q.1 q.2 (piecesF b w d).length ((piecesF b w d).flatMap pPz), A]) := by
 (refine S.ref04_Pieces_s.cn fun F => ?_; unfold S.ref04_Pieces; simp only [ca_, na_])
 refine o_ v_lss ?_
 rw [dF_ (by omega)]
 refine e_gdT (e_gdT (o_ v_gtr ?_))
 rw [dF_ (by omega)]
 refine o_ v_pickF (e_gdT (e_gdT (o_ v_lss ?_)))
 rw [dF_ (by omega)]
 refine o_ v_pickF (e_gdT (e_gdT (o_ v_gtr ?_)))
 rw [dF_ (by omega)]
 refine o_ v_pickF (e_condF (o_ v_len (o_ v_gtr ?_)))
 rw [dF_ (by omega)]
 refine e_condF (e_loop2 (fun m x y => (ex fun st : (Option Addr × Nat) × List Pz => all [pu (∃ j : Nat, m + j = b.length /\ st.2.length <= j /\ x = .slice st.1.1 st.2.length st.1.2 /\ y = .int .i64 (j : Int) /\ st.2 ++ pcs b w d (b.length + 1) j = piecesF b w d), Sl 3 118 st.1.1 st.1.2 st.2.length (st.2.flatMap pPz)]) :: A :: F) b.length ?_ ?_)
 ·refine .ex ((none, 0), []) (.all ?_)
  refine nr_ ?_
  refine .pu ⟨0, rfl, Nat.le_refl _, rfl, rfl, rfl⟩ ?_
  exact imp_nil .refl
 intro m ds x y
 refine e_ex .here fun st => e_all .here ?_
 obtain ⟨⟨qa, qc⟩, P⟩ := st
 refine nr_ ?_
 refine e_pu .here fun hk => ?_
 (try dsimp only at hk)
 obtain ⟨j, hmj, hPj, rfl, rfl, hP⟩ := hk
 (try dsimp only)
 refine o_ v_len (o_ v_lss ?_)
 by_cases hlt : (j : Int) < (b.length : Int)
 ·rw [dT_ hlt]
  have hj : j < b.length := by omega
  rw [pcs, if_pos hj] at hP
  have hg : gP b j (pieceAt b w d j) := pieceAt_gP hw
  obtain ⟨e1, e2, e3⟩ := gP_end hg hj
  have hpos := pzN_pos (pieceAt b w d j)
  have hf := pcs_fuel (b := b) (w := w) (d := d) b.length (b.length + 1) (j + pzN (pieceAt b w d j)) (by omega) (by omega)
  rw [hf] at hP
  refine e_condT (c_ (rpiece (w := w) (d := d) hr hb hj hw hd) fun _ => ?_)
  obtain ⟨p, hp⟩ : ∃ p, p = pieceAt b w d j := ⟨_, rfl⟩
  rw [<- hp] at hP e1 e2 e3 hpos ⊢
  unfold vPz I
  refine e_newA fun g => ?_; refine sg_ ?_; refine lg_ ?_
  rename Nat => b10
  refine e_bslS (n := 1) (vs := [vPz p]) rfl (by decide) rfl (by intro v hv; rw [List.mem_singleton.1 hv]; rfl) (by decide) fun gb => ?_
  refine e_app (m := 1) (news := pPz p) (by (repeat constructor) : Pick _ (Sl 3 118 qa qc P.length (P.flatMap pPz)) _) (src_pt (s := 3) (e' := 118) (by kernel_rfl) .here (by rfl) (by intro u hu; simp [vPz, Value.cells] at hu; rcases hu with rfl | rfl | rfl <;> rfl)) (by omega) (by omega) fun a' c' => ?_
  refine o_ v_fa0 (ln_ ?_)
  refine o_ v_max ?_
  rw [show (if (1 : Int) < p.len then p.len else 1) = (pzN p : Int) by rw [e3]; split <;> split <;> omega]
  refine ad_ ?_
  refine e_next2 (m - pzN p) (by omega) (.ex ((a', c'), P ++ [p]) (.all ?_))
  refine nr_ ?_
  have e4 : P.flatMap pPz ++ pPz p = (P ++ [p]).flatMap pPz := by rw [List.flatMap_append, List.flatMap_singleton]
  have e5 : P.length + 1 = (P ++ [p]).length := by simp
  rw [e4, e5]
  refine .pu ⟨j + pzN p, by omega, by rw [<- e5]; omega, rfl, by rfl, by rw [List.append_assoc]; exact hP⟩ ?_
  exact im_
 ·rw [dF_ hlt]
  rw [pcs_end (by omega), List.append_nil] at hP
  subst hP
  refine e_condF (rt_ ((qa, qc)) ?_)
  exact im_
def rowIn (h : Frag) (a : Option Addr) (cs : List Value) : Prop := cs = [] \/ ∃ (g : Nat) (rest : List Value) (T : TypeId), a = some ⟨g, 0, none⟩ /\ h g = some (.cells (cs ++ rest).toArray T (0, 0))
theorem sl_in {s : Nat} {e : TypeId} {a : Option Addr} {cap n : Nat} {cs : List Value} {W : World} {h : Frag} (H : Sl s e a cap n cs W h) : rowIn h a cs := by
 obtain ⟨q1, q2, q3, q4⟩ := H
 rcases q4 with ⟨_, c⟩ | ⟨g, rest, c, e1, e2⟩
 ·left
  have : n = 0 := by omega
  subst this
  exact List.length_eq_zero_iff.1 (by simpa using q1)
 ·exact .inr ⟨g, rest, _, c, e2⟩
theorem rowIn.up {h h' : Frag} {a : Option Addr} {cs : List Value} (s : ∀ i o, h i = some o -> h' i = some o) : rowIn h a cs -> rowIn h' a cs
 | .inl e => .inl e
 | .inr ⟨g, rest, T, e1, e2⟩ => .inr ⟨g, rest, T, e1, s _ _ e2⟩
theorem rd_in {W : World} {A : HP} {a : Option Addr} {n : Nat} {cs : List Value} (hl : cs.length = n) (ha : 0 < n -> ∃ g, a = some ⟨g, 0, none⟩) (hA : ∀ h, A W h -> rowIn h a cs) : RdB W A a n cs := ⟨hl, fun hn => by
 obtain ⟨g, rfl⟩ := ha hn
 refine ⟨g, 0, rfl, fun w L hw j v hv => ?_⟩
 obtain ⟨f, ⟨h1, h2, hA1, hl2, d, s1, s2⟩, b⟩ := hw.heap
 rcases hA _ hA1 with e | ⟨g', rest, T, e1, e2⟩
 ·rw [e] at hl; simp at hl; omega
 ·injection e1 with e1; injection e1 with e1; subst e1
  have hg := (b g _ (s1 g _ e2)).2
  rw [Nat.zero_add]
  have hj : j < cs.length := by
   rcases Nat.lt_or_ge j cs.length with c | c
   ·exact c
   ·rw [List.getElem?_eq_none c] at hv; cases hv
  have hv2 : (cs ++ rest)[j]? = some v := by rw [List.getElem?_append_left hj]; exact hv
  simp [World.cell?, hg, hv2]⟩
def BAr (X : List (Blk × Bv)) : HP := fun _ h => ∀ x ∈ X, rowIn h x.2.1.1 (x.1.1.flatMap pPz) /\ rowIn h x.2.2.1 (x.1.2.map Sl.B)
structure okA (x : Blk × Bv) : Prop where
 l : 0 < x.1.1.length -> ∃ g, x.2.1.1 = some ⟨g, 0, none⟩
 b : 0 < x.1.2.length -> ∃ g, x.2.2.1 = some ⟨g, 0, none⟩
theorem bar_0 {W : World} {L M : List HP} (h : Imp W L M) : Imp W L (BAr [] :: M) := .conv (B := pu True) (fun f _ x hx => by cases hx) (.pu trivial h)
theorem pPzs_len (l : List Pz) : (l.flatMap pPz).length = l.length * 3 := by
 induction l with
 | nil => rfl
 | cons p l ih => rw [List.flatMap_cons, List.length_append, ih, List.length_cons]; simp [pPz]; omega
theorem bar_l {W : World} {X : List (Blk × Bv)} {x : Blk × Bv} (hx : x ∈ X) (ok : okA x) : RdB W (BAr X) x.2.1.1 (x.1.1.length * 3) (x.1.1.flatMap pPz) := rd_in (pPzs_len _) (fun h => ok.l (by omega)) (fun h H => (H x hx).1)
theorem bar_b {W : World} {X : List (Blk × Bv)} {x : Blk × Bv} (hx : x ∈ X) (ok : okA x) : RdB W (BAr X) x.2.2.1 x.1.2.length (x.1.2.map Sl.B) := rd_in (by simp) ok.b (fun h H => (H x hx).2)
theorem e_bar {W : World} {L L1 L2 L3 : List HP} {S : WP} {X : List (Blk × Bv)} {x : Blk × Bv} {e1 e2 : TypeId} (p1 : Pick L (Sl 3 e1 x.2.1.1 x.2.1.2 x.1.1.length (x.1.1.flatMap pPz)) L1) (p2 : Pick L1 (Sl 1 e2 x.2.2.1 x.2.2.2 x.1.2.length (x.1.2.map Sl.B)) L2) (p3 : Pick L2 (BAr X) L3)
  (h : Ent W (BAr (X ++ [x]) :: L3) S) : Ent W L S := fun w hw => by
 refine h w (sat.map (L := Sl 3 e1 x.2.1.1 x.2.1.2 x.1.1.length (x.1.1.flatMap pPz) :: L1) (fun f hf => ?_) (hw.pick p1))
 have h2 := star_assoc' (star_mono (fun _ H => star_assoc' (star_mono (fun _ => p3.all) (p2.all H))) hf)
 obtain ⟨f1, f2, ⟨u1, u2, ha, ⟨v1, v2, hb, hc, hd2, t3, t4⟩, hd, t1, t2⟩, r⟩ := (show star (star (Sl 3 e1 x.2.1.1 x.2.1.2 x.1.1.length (x.1.1.flatMap pPz)) (star (Sl 1 e2 x.2.2.1 x.2.2.2 x.1.2.length (x.1.2.map Sl.B)) (BAr X))) (all L3) W f from h2)
 refine ⟨f1, f2, fun y hy => ?_, r⟩
 rcases List.mem_append.1 hy with hy | hy
 ·have := hc y hy
  exact ⟨this.1.up (fun i o c => t2 _ _ (t4 _ _ c)), this.2.up (fun i o c => t2 _ _ (t4 _ _ c))⟩
 ·rw [List.mem_singleton.1 hy]
  exact ⟨(sl_in ha).up t1, (sl_in hb).up (fun i o c => t2 _ _ (t3 _ _ c))⟩
theorem rpieces {W : World} {a : Option Addr} {c : Nat} {level : Int} {b : List UInt8} {A : HP} (hr : RdB W A a b.length (b.map Sl.B)) (hb : b.length <= 1048576) (hl : 0 <= level /\ level <= 9) :
  Cn p_ 74 [.slice a b.length c, .int .i64 level] W [A] (fun q : Option Addr × Nat => .slice q.1 (pcsL b level).length q.2) (fun q => [Sl 3 118 q.1 q.2 (pcsL b level).length ((pcsL b level).flatMap pPz), A]) := by
 (refine S.ref06_pieces_s.cn fun F => ?_; unfold S.ref06_pieces; simp only [ca_, na_])
 refine o_ v_eql ?_
 by_cases h0 : level = 0
 ·rw [dT_ h0]
  have hp : pcsL b level = lits b := by unfold pcsL; rw [if_neg (by omega)]
  rw [hp]
  refine e_condT (e_loop2 (fun m x y => (ex fun st : (Option Addr × Nat) × Nat => all [pu (m + st.2 = b.length /\ x = .slice st.1.1 st.2 st.1.2 /\ y = .int .i64 (st.2 : Int)), Sl 3 118 st.1.1 st.1.2 st.2 ((lits (b.take st.2)).flatMap pPz)]) :: A :: F) b.length ?_ ?_)
  ·refine .ex ((none, 0), 0) (.all ?_)
   refine nr_ ?_
   refine .pu ⟨rfl, rfl, rfl⟩ ?_
   exact imp_nil .refl
  intro m ds x y
  refine e_ex .here fun st => e_all .here ?_
  obtain ⟨⟨qa, qc⟩, i⟩ := st
  refine nr_ ?_
  refine e_pu .here fun hk => ?_
  (try dsimp only at hk)
  obtain ⟨hmi, rfl, rfl⟩ := hk
  (try dsimp only)
  refine o_ v_len (o_ v_lss ?_)
  by_cases hlt : (i : Int) < (b.length : Int)
  ·rw [dT_ hlt]
   have hi : i < b.length := by omega
   obtain ⟨g, o, rfl, _⟩ := hr.at_ (by omega)
   refine e_condT (o_ (v_ia1 i rfl hi) ?_)
   refine p_op (v_ldRd hr (v := Sl.B b[i]) (B_get hi)) ?_
   refine o_ v_rv ?_
   refine e_bslS (n := 1) (vs := [vPz ⟨0, 0, b[i]⟩]) rfl (by decide) rfl (by intro v hv; rw [List.mem_singleton.1 hv]; rfl) (by decide) fun gb => ?_
   refine e_app (m := 1) (news := pPz ⟨0, 0, b[i]⟩) (by (repeat constructor) : Pick _ (Sl 3 118 qa qc i ((lits (b.take i)).flatMap pPz)) _) (src_pt (s := 3) (e' := 118) (by kernel_rfl) .here (by rfl) (by intro u hu; simp [vPz, Value.cells] at hu; rcases hu with rfl | rfl | rfl <;> rfl)) (by omega) (by omega) fun a' c' => ?_
   refine ad_ ?_
   refine e_next2 (m - 1) (by omega) (.ex ((a', c'), i + 1) (.all ?_))
   refine nr_ ?_
   have e4 : (lits (b.take i)).flatMap pPz ++ pPz ⟨0, 0, b[i]⟩ = (lits (b.take (i + 1))).flatMap pPz := by
    unfold lits
    rw [List.take_succ_eq_append_getElem hi, List.map_append, List.flatMap_append]; simp
   rw [e4]
   refine .pu ⟨by omega, rfl, by rfl⟩ ?_
   exact im_
  ·rw [dF_ hlt]
   have hie : i = b.length := by omega
   subst hie
   rw [List.take_length]
   have hll : (lits b).length = b.length := by simp [lits]
   rw [hll]
   refine e_condF (rt_ ((qa, qc)) ?_)
   exact im_
 ·rw [dF_ h0]
  have hp : pcsL b level = piecesF b 32768 (2 * 2 ^ level.toNat) := by unfold pcsL; rw [if_pos (by omega)]
  obtain ⟨n, hn⟩ := Int.eq_ofNat_of_zero_le hl.1
  obtain ⟨s1, s2⟩ := shl_lvl (n := n) (by omega) (by omega)
  rw [hp, hn, Int.toNat_natCast]
  refine e_condF (o_ (v_conv (q := .u64)) ?_)
  refine o_ (v_shl (by simp [IntKind.wrap, IntKind.bits, IntKind.signed]; omega)) ?_
  rw [s1]
  refine e_call (rPieces (w := 32768) (d := 2 * 2 ^ n) hr hb (by omega) (by omega) s2) (.cons (by repeat constructor) .nil) fun q => ?_
  obtain ⟨qa, qc⟩ := q
  refine nr_ ?_
  (try dsimp only)
  refine o_ (v_ext (v := .slice qa (piecesF b 32768 (2 * 2 ^ n)).length qc) rfl) ?_
  refine o_ (v_ext (v := .int .i64 0) rfl) ?_
  refine rt_ ((qa, qc)) ?_
  exact .refl
def bwC (x : Blk × Bv) : List Value := [.slice x.2.1.1 x.1.1.length x.2.1.2, .slice x.2.2.1 x.1.2.length x.2.2.2]
def bwV (x : Blk × Bv) : Value := .agg #[.slice x.2.1.1 x.1.1.length x.2.1.2, .slice x.2.2.1 x.1.2.length x.2.2.2]
theorem bw_len (X : List (Blk × Bv)) : (X.flatMap bwC).length = X.length * 2 := by
 induction X with
 | nil => rfl
 | cons y X ih => rw [List.flatMap_cons, List.length_append, ih, List.length_cons]; simp [bwC]; omega
theorem bw_get : ∀ {X : List (Blk × Bv)} {i j : Nat} (h : i < X.length), j < 2 -> (X.flatMap bwC)[i * 2 + j]? = (bwC X[i])[j]?
 | y :: X, 0, j, h, hj => by
  rw [List.flatMap_cons, List.getElem?_append_left (by simp [bwC]; omega)]
  simp
 | y :: X, i + 1, j, h, hj => by
  rw [List.flatMap_cons, List.getElem?_append_right (by simp [bwC]; omega), show (i + 1) * 2 + j - (bwC y).length = i * 2 + j by simp [bwC]; omega]
  exact bw_get (by simpa using h) hj
theorem seg_snoc {b : List UInt8} {i j k : Nat} (h1 : i <= j) (h2 : j <= k) : seg b i j ++ seg b j k = seg b i k := by
 unfold seg
 rw [show k - i = (j - i) + (k - j) by omega, List.take_add, List.drop_drop, show i + (j - i) = j by omega]
theorem seg_self (b : List UInt8) (i : Nat) : seg b i i = [] := by unfold seg; simp
structure rbI (b : List UInt8) (level : Int) (m i fr at_ : Nat) (L : List Pz) (X : List (Blk × Bv)) : Prop where
 mi : m + i = (pcsL b level).length
 cut : cutF b level ((pcsL b level).drop i) L fr at_ (X.map Prod.fst) = blksF b level
 gps : gPs b at_ ((pcsL b level).drop i)
 fa : fr <= at_
 ab : at_ <= b.length
 Ll : L.length <= 1048576
 Li : L.length <= i
 Xl : X.length <= i
 ok : ∀ x ∈ X, okA x
theorem rblocks {W : World} {a : Option Addr} {c : Nat} {level : Int} {b : List UInt8} {A : HP} (hr : RdB W A a b.length (b.map Sl.B)) (hc : b.length <= c) (hb : b.length <= 1048576) (hl : 0 <= level /\ level <= 9) :
  Cn p_ 54 [.slice a b.length c, .int .i64 level] W [A] (fun q : (Option Addr × Nat) × List (Blk × Bv) => .slice q.1.1 q.2.length q.1.2)
   (fun q => [pu (q.2.map Prod.fst = blksF b level /\ ∀ x ∈ q.2, okA x), Sl 2 92 q.1.1 q.1.2 q.2.length (q.2.flatMap bwC), BAr q.2, A]) := by
 (refine S.ref06_blocks_s.cn fun F => ?_; unfold S.ref06_blocks; simp only [ca_, na_])
 refine e_call (rpieces (c := c) (level := level) hr hb hl) (.cons (by repeat constructor) .nil) fun q => ?_
 obtain ⟨pa, pc⟩ := q
 refine nr_ ?_
 (try dsimp only)
 obtain ⟨hg0, he0⟩ := pcsL_gPs b level
 have hpl := pcsL_len b level
 obtain ⟨P, hP⟩ : ∃ P, P = pcsL b level := ⟨_, rfl⟩
 rw [<- hP] at hg0 he0 hpl ⊢
 refine o_ v_rv ?_; refine e_newA fun g => ?_; refine sg_ ?_
 rename Nat => b7
 refine e_loop3 (fun m x y z => (ex fun st : ((Option Addr × Nat) × Bv) × (Nat × Nat × Nat) × List Pz × List (Blk × Bv) => all [pu (rbI b level m st.2.1.1 st.2.1.2.1 st.2.1.2.2 st.2.2.1 st.2.2.2 /\ x = .slice st.1.1.1 st.2.2.2.length st.1.1.2 /\ y = .int .i64 (st.2.1.2.2 : Int) /\ z = .int .i64 (st.2.1.1 : Int)),
  Sl 2 92 st.1.1.1 st.1.1.2 st.2.2.2.length (st.2.2.2.flatMap bwC), BAr st.2.2.2, pt b7 (.cells #[.slice st.1.2.1.1 st.2.2.1.length st.1.2.1.2, .slice st.1.2.2.1 (seg b st.2.1.2.1 st.2.1.2.2).length st.1.2.2.2] 92), Sl 3 118 st.1.2.1.1 st.1.2.1.2 st.2.2.1.length (st.2.2.1.flatMap pPz), Sl 1 5 st.1.2.2.1 st.1.2.2.2 (seg b st.2.1.2.1 st.2.1.2.2).length ((seg b st.2.1.2.1 st.2.1.2.2).map Sl.B)]) :: Sl 3 118 pa pc P.length (P.flatMap pPz) :: A :: F) P.length ?_ ?_
 ·refine .ex (((none, 0), ((none, 0), (none, 0))), (0, 0, 0), [], []) (.all ?_)
  refine nr_ ?_
  rw [seg_self]
  refine .pu ⟨⟨by rw [<- hP]; rfl, rfl, by rw [<- hP]; exact hg0, Nat.le_refl _, Nat.zero_le _, Nat.zero_le _, Nat.le_refl _, Nat.le_refl _, fun x hx => by cases hx⟩, rfl, rfl, rfl⟩ ?_
  refine imp_nil (bar_0 (.pick (by repeat constructor) (imp_nil (imp_nil ?_))))
  exact im_
 intro m ds x y z
 refine e_ex .here fun st => e_all .here ?_
 obtain ⟨⟨⟨oa, oc⟩, ⟨la, lc⟩, ⟨ba, bc⟩⟩, ⟨i, fr, at_⟩, L, X⟩ := st
 refine nr_ ?_
 refine e_pu .here fun hk => ?_
 (try dsimp only at hk)
 obtain ⟨hI, rfl, rfl, rfl⟩ := hk
 (try dsimp only)
 have hmi := hI.mi
 have hcut := hI.cut
 have hgp := hI.gps
 have hfa := hI.fa
 have hab := hI.ab
 have hLl := hI.Ll
 have hLi := hI.Li
 have hXl := hI.Xl
 have hok := hI.ok
 rw [<- hP] at hmi hcut hgp
 have hsg := segLen (b := b) (i := fr) (j := at_) hab
 refine o_ v_len (o_ v_lss ?_)
 by_cases hlt : (i : Int) < (P.length : Int)
 ·rw [dT_ hlt]
  have hi : i < P.length := by omega
  rw [List.drop_eq_getElem_cons hi] at hcut hgp
  obtain ⟨hj, hgpi, hgr⟩ := hgp
  obtain ⟨e1, e2, e3⟩ := gP_end hgpi hj
  have hpos := pzN_pos P[i]
  refine e_condT (e_slsome (by (repeat constructor) : Pick _ (Sl 3 118 pa pc P.length (P.flatMap pPz)) _) (by omega) fun gp hgp => ?_)
  subst hgp
  have hrP : RdB W (Sl 3 118 (some ⟨gp, 0, none⟩) pc P.length (P.flatMap pPz)) (some ⟨gp, 0, none⟩) (P.length * 3) (P.flatMap pPz) := rd_slG (pPzs_len _) (fun _ => ⟨gp, rfl⟩)
  refine o_ (v_ia i rfl hi) ?_
  refine o_ v_fa ?_
  have l0 : RunV p_ W [Sl 3 118 (some ⟨gp, 0, none⟩) pc P.length (P.flatMap pPz)] (sLoad 3 (.pointer (some ⟨gp, 0 + i * 3 + 0, none⟩))) (I P[i].len) := v_ldRd2 (j := 0) hrP (pz_get hi 0 (by omega))
  have ld : RunV p_ W [Sl 3 118 (some ⟨gp, 0, none⟩) pc P.length (P.flatMap pPz)] (sLoad 118 (.pointer (some ⟨gp, 0 + i * 3, none⟩))) (vPz P[i]) := v_ldRdG (vs := pPz P[i]) hrP rfl (fun j hj => pz_get hi j hj)
  refine p_op l0 ?_
  obtain ⟨p, hp⟩ : ∃ p, p = P[i] := ⟨_, rfl⟩
  rw [<- hp] at hcut hgpi hgr e1 e2 e3 hpos ld ⊢
  rw [cutF] at hcut
  unfold I
  refine o_ v_max ?_
  rw [show (if (1 : Int) < p.len then p.len else 1) = (pzN p : Int) by rw [e3]; split <;> split <;> omega]
  refine e_drS (e_stD v_fa0 .nil ?_); (((refine' e_stD (v_ldN ?hc) ?hi ?_); (case hi => exact .pick (by repeat constructor) .nil); (case hc => repeat constructor)))
  refine t_ (v_ia i rfl hi) ?_
  refine p_st ld ?_
  refine e_bslS (n := 1) (vs := [vPz p]) rfl (by decide) rfl (by intro v hv; rw [List.mem_singleton.1 hv]; rfl) (by decide) fun gb => ?_
  refine ob_ ?_; refine ob_ ?_
  refine e_app (m := 1) (news := pPz p) (by (repeat constructor) : Pick _ (Sl 3 118 la lc L.length (L.flatMap pPz)) _) (src_pt (s := 3) (e' := 118) (by kernel_rfl) (by repeat constructor) (by rfl) (by intro u hu; simp [vPz, Value.cells] at hu; rcases hu with rfl | rfl | rfl <;> rfl)) (by omega) (by omega) fun a2 c2 => ?_
  have e4 : L.flatMap pPz ++ pPz p = (L ++ [p]).flatMap pPz := by rw [List.flatMap_append, List.flatMap_singleton]
  have e5 : L.length + 1 = (L ++ [p]).length := by simp
  rw [e4, e5]
  refine t_ v_fa0 (sn_ ?_); refine e_drS (t_ v_fa0 (ls_ ?_)); (refine t_ (v_add (by omega) (by omega)) ?_)
  refine t_ (v_sl2 at_ (at_ + pzN p) rfl (by rfl) (by omega) (by omega)) ?_
  have hcs := cut_seg (i := at_) (j := at_ + pzN p) (c := c) hr (by omega) e1 hc
  have hsl2 := segLen (b := b) (i := at_) (j := at_ + pzN p) e1
  rw [hsl2] at hcs
  refine e_app (m := at_ + pzN p - at_) (news := (seg b at_ (at_ + pzN p)).map Sl.B) (by (repeat constructor) : Pick _ (Sl 1 5 ba bc (seg b fr at_).length ((seg b fr at_).map Sl.B)) _) (src_rd (A := A) (e' := 5) (by kernel_rfl) (by repeat constructor) hcs (rd_none_ hcs) B_one) (by omega) (by omega) fun a3 c3 => ?_
  have hsl3 := segLen (b := b) (i := fr) (j := at_ + pzN p) e1
  rw [<- List.map_append, seg_snoc hfa (by omega), show (seg b fr at_).length + (at_ + pzN p - at_) = (seg b fr (at_ + pzN p)).length by omega]
  refine t_ v_fa0 (sn_ ?_); refine ad_ ?_; refine o_ v_fa0 (ln_ ?_); refine o_ v_len (o_ v_eql ?_)
  by_cases h8 : ((L ++ [p]).length : Int) = 8192
  ·rw [dT_ h8]
   refine e_gdF1 (e_gdF1 (e_gdF1 (e_gdF1 (o_ v_pickT (e_cut1 (fun z => pu (z = .bool (decide (fullC level (L.length + 1) (at_ + pzN p - fr)))) :: pt b7 (.cells #[.slice a2 (L ++ [p]).length c2, .slice a3 (seg b fr (at_ + pzN p)).length c3] 92) :: Sl 1 5 a3 c3 (seg b fr (at_ + pzN p)).length ((seg b fr (at_ + pzN p)).map Sl.B) :: Sl 3 118 a2 c2 (L ++ [p]).length ((L ++ [p]).flatMap pPz) :: Sl 2 92 oa oc X.length (X.flatMap bwC) :: BAr X :: Sl 3 118 (some ⟨gp, 0, none⟩) pc P.length (P.flatMap pPz) :: A :: F) ?_ ?_)))))
   rotate_left
   ·refine o_ v_eql ?_
    by_cases hz : level = 0
    ·rw [dT_ hz]
     refine e_condT (o_ v_fa0 (ln_ ?_)); refine o_ v_len (o_ v_eql (e_sat (.pu ?_ ?_)))
     ·congr 1
      exact decide_eq_decide.2 (by unfold fullC; omega)
     exact im_
    ·rw [dF_ hz]
     refine e_condF (e_sat (.pu ?_ ?_))
     ·congr 1
      exact (dT_ (by unfold fullC; omega)).symm
     exact im_
   intro ds z
   refine e_pu .here fun hz => ?_
   subst hz
   by_cases hfu : fullC level (L.length + 1) (at_ + pzN p - fr)
   ·rw [dT_ hfu]
    rw [if_pos hfu] at hcut
    refine e_condT (lg_ ?_)
    refine e_slfacts (by (repeat constructor) : Pick _ (Sl 3 118 a2 c2 (L ++ [p]).length ((L ++ [p]).flatMap pPz)) _) fun _ _ _ s4 => ?_
    refine e_slfacts (by (repeat constructor) : Pick _ (Sl 1 5 a3 c3 (seg b fr (at_ + pzN p)).length ((seg b fr (at_ + pzN p)).map Sl.B)) _) fun _ _ _ t4 => ?_
    obtain ⟨nx, hnx⟩ : ∃ nx : Blk × Bv, nx = ((L ++ [p], seg b fr (at_ + pzN p)), ((a2, c2), (a3, c3))) := ⟨_, rfl⟩
    refine e_bslS (n := 1) (vs := [bwV nx]) rfl (by decide) (by rw [hnx]; rfl) (by intro v hv; rw [List.mem_singleton.1 hv]; rfl) (by decide) fun gd => ?_
    refine e_app (m := 1) (news := bwC nx) (by (repeat constructor) : Pick _ (Sl 2 92 oa oc X.length (X.flatMap bwC)) _) (src_pt (s := 2) (e' := 92) (by kernel_rfl) (by repeat constructor) (by rfl) (by intro u hu; simp [bwV, Value.cells] at hu; rcases hu with rfl | rfl <;> rfl)) (by omega) (by omega) fun a4 c4 => ?_
    refine e_bar (X := X) (x := nx) (e1 := 118) (e2 := 5) (by rw [hnx]; (repeat constructor)) (by rw [hnx]; (repeat constructor)) (by repeat constructor) ?_
    have e8 : X.flatMap bwC ++ bwC nx = (X ++ [nx]).flatMap bwC := by rw [List.flatMap_append, List.flatMap_singleton]
    have e9 : X.length + 1 = (X ++ [nx]).length := by simp
    rw [<- hnx, e8, e9]
    refine o_ v_rv ?_; refine sg_ ?_; refine ad_ ?_
    refine e_next3 (m - 1) (by omega) (.ex (((a4, c4), ((none, 0), (none, 0))), (i + 1, at_ + pzN p, at_ + pzN p), [], X ++ [nx]) (.all ?_))
    refine nr_ ?_
    rw [seg_self]
    refine .pu ⟨⟨by rw [<- hP]; omega, ?_, by rw [<- hP]; exact hgr, Nat.le_refl _, e1, Nat.zero_le _, Nat.zero_le _, by rw [<- e9]; omega, ?_⟩, rfl, rfl, rfl⟩ ?_
    ·rw [<- hP, List.map_append, show [nx].map Prod.fst = [(L ++ [p], seg b fr (at_ + pzN p))] by rw [hnx]; rfl]
     exact hcut
    ·intro x hx
     rcases List.mem_append.1 hx with hx | hx
     ·exact hok x hx
     ·rw [List.mem_singleton.1 hx, hnx]
      exact ⟨s4, t4⟩
    refine .pick (by repeat constructor) (.pick (by repeat constructor) (.pick (by repeat constructor) (imp_nil (imp_nil ?_))))
    exact im_
   ·rw [dF_ hfu]
    rw [if_neg hfu] at hcut
    refine e_condF (ad_ ?_)
    refine e_next3 (m - 1) (by omega) (.ex (((oa, oc), ((a2, c2), (a3, c3))), (i + 1, fr, at_ + pzN p), L ++ [p], X) (.all ?_))
    refine nr_ ?_
    refine .pu ⟨⟨by rw [<- hP]; omega, by rw [<- hP]; exact hcut, by rw [<- hP]; exact hgr, by omega, e1, by rw [<- e5]; omega, by rw [<- e5]; omega, by omega, hok⟩, rfl, rfl, rfl⟩ ?_
    exact im_
  ·rw [dF_ h8]
   refine e_gdT (o_ v_fa0 (e_gdT (ln_ ?_))); refine e_gdT (o_ v_len (e_gdT (o_ v_gtr (o_ v_pickF (e_cut1 (fun z => pu (z = .bool (decide (fullC level (L.length + 1) (at_ + pzN p - fr)))) :: pt b7 (.cells #[.slice a2 (L ++ [p]).length c2, .slice a3 (seg b fr (at_ + pzN p)).length c3] 92) :: Sl 1 5 a3 c3 (seg b fr (at_ + pzN p)).length ((seg b fr (at_ + pzN p)).map Sl.B) :: Sl 3 118 a2 c2 (L ++ [p]).length ((L ++ [p]).flatMap pPz) :: Sl 2 92 oa oc X.length (X.flatMap bwC) :: BAr X :: Sl 3 118 (some ⟨gp, 0, none⟩) pc P.length (P.flatMap pPz) :: A :: F) ?_ ?_)))))
   rotate_left
   ·refine o_ v_eql ?_
    by_cases hz : level = 0
    ·rw [dT_ hz]
     refine e_condT (o_ v_fa0 (ln_ ?_)); refine o_ v_len (o_ v_eql (e_sat (.pu ?_ ?_)))
     ·congr 1
      exact decide_eq_decide.2 (by unfold fullC; omega)
     exact im_
    ·rw [dF_ hz]
     refine e_condF (e_sat (.pu ?_ ?_))
     ·congr 1
      exact decide_eq_decide.2 (by unfold fullC; omega)
     exact im_
   intro ds z
   refine e_pu .here fun hz => ?_
   subst hz
   by_cases hfu : fullC level (L.length + 1) (at_ + pzN p - fr)
   ·rw [dT_ hfu]
    rw [if_pos hfu] at hcut
    refine e_condT (lg_ ?_)
    refine e_slfacts (by (repeat constructor) : Pick _ (Sl 3 118 a2 c2 (L ++ [p]).length ((L ++ [p]).flatMap pPz)) _) fun _ _ _ s4 => ?_
    refine e_slfacts (by (repeat constructor) : Pick _ (Sl 1 5 a3 c3 (seg b fr (at_ + pzN p)).length ((seg b fr (at_ + pzN p)).map Sl.B)) _) fun _ _ _ t4 => ?_
    obtain ⟨nx, hnx⟩ : ∃ nx : Blk × Bv, nx = ((L ++ [p], seg b fr (at_ + pzN p)), ((a2, c2), (a3, c3))) := ⟨_, rfl⟩
    refine e_bslS (n := 1) (vs := [bwV nx]) rfl (by decide) (by rw [hnx]; rfl) (by intro v hv; rw [List.mem_singleton.1 hv]; rfl) (by decide) fun gd => ?_
    refine e_app (m := 1) (news := bwC nx) (by (repeat constructor) : Pick _ (Sl 2 92 oa oc X.length (X.flatMap bwC)) _) (src_pt (s := 2) (e' := 92) (by kernel_rfl) (by repeat constructor) (by rfl) (by intro u hu; simp [bwV, Value.cells] at hu; rcases hu with rfl | rfl <;> rfl)) (by omega) (by omega) fun a4 c4 => ?_
    refine e_bar (X := X) (x := nx) (e1 := 118) (e2 := 5) (by rw [hnx]; (repeat constructor)) (by rw [hnx]; (repeat constructor)) (by repeat constructor) ?_
    have e8 : X.flatMap bwC ++ bwC nx = (X ++ [nx]).flatMap bwC := by rw [List.flatMap_append, List.flatMap_singleton]
    have e9 : X.length + 1 = (X ++ [nx]).length := by simp
    rw [<- hnx, e8, e9]
    refine o_ v_rv ?_; refine sg_ ?_; refine ad_ ?_
    refine e_next3 (m - 1) (by omega) (.ex (((a4, c4), ((none, 0), (none, 0))), (i + 1, at_ + pzN p, at_ + pzN p), [], X ++ [nx]) (.all ?_))
    refine nr_ ?_
    rw [seg_self]
    refine .pu ⟨⟨by rw [<- hP]; omega, ?_, by rw [<- hP]; exact hgr, Nat.le_refl _, e1, Nat.zero_le _, Nat.zero_le _, by rw [<- e9]; omega, ?_⟩, rfl, rfl, rfl⟩ ?_
    ·rw [<- hP, List.map_append, show [nx].map Prod.fst = [(L ++ [p], seg b fr (at_ + pzN p))] by rw [hnx]; rfl]
     exact hcut
    ·intro x hx
     rcases List.mem_append.1 hx with hx | hx
     ·exact hok x hx
     ·rw [List.mem_singleton.1 hx, hnx]
      exact ⟨s4, t4⟩
    refine .pick (by repeat constructor) (.pick (by repeat constructor) (.pick (by repeat constructor) (imp_nil (imp_nil ?_))))
    exact im_
   ·rw [dF_ hfu]
    rw [if_neg hfu] at hcut
    refine e_condF (ad_ ?_)
    refine e_next3 (m - 1) (by omega) (.ex (((oa, oc), ((a2, c2), (a3, c3))), (i + 1, fr, at_ + pzN p), L ++ [p], X) (.all ?_))
    refine nr_ ?_
    refine .pu ⟨⟨by rw [<- hP]; omega, by rw [<- hP]; exact hcut, by rw [<- hP]; exact hgr, by omega, e1, by rw [<- e5]; omega, by rw [<- e5]; omega, by omega, hok⟩, rfl, rfl, rfl⟩ ?_
    exact im_
 rw [dF_ hlt]
 have hie : i = P.length := by omega
 rw [hie, List.drop_length, cutF] at hcut
 refine e_condF (o_ v_fa0 (ln_ ?_)); refine o_ v_len (o_ v_gtr ?_)
 by_cases hL0 : (0 : Int) < (L.length : Int)
 ·rw [dT_ hL0]
  rw [if_pos (.inl (List.ne_nil_of_length_pos (by omega)))] at hcut
  refine e_gdF1 (e_gdF1 (e_gdF1 (o_ v_pickT (e_condT (lg_ ?_)))))
  refine e_slfacts (by (repeat constructor) : Pick _ (Sl 3 118 la lc L.length (L.flatMap pPz)) _) fun _ _ _ s4 => ?_
  refine e_slfacts (by (repeat constructor) : Pick _ (Sl 1 5 ba bc (seg b fr at_).length ((seg b fr at_).map Sl.B)) _) fun _ _ _ t4 => ?_
  obtain ⟨nx, hnx⟩ : ∃ nx : Blk × Bv, nx = ((L, seg b fr at_), ((la, lc), (ba, bc))) := ⟨_, rfl⟩
  refine e_bslS (n := 1) (vs := [bwV nx]) rfl (by decide) (by rw [hnx]; rfl) (by intro v hv; rw [List.mem_singleton.1 hv]; rfl) (by decide) fun gd => ?_
  refine e_app (m := 1) (news := bwC nx) (by (repeat constructor) : Pick _ (Sl 2 92 oa oc X.length (X.flatMap bwC)) _) (src_pt (s := 2) (e' := 92) (by kernel_rfl) (by repeat constructor) (by rfl) (by intro u hu; simp [bwV, Value.cells] at hu; rcases hu with rfl | rfl <;> rfl)) (by omega) (by omega) fun a4 c4 => ?_
  refine e_bar (X := X) (x := nx) (e1 := 118) (e2 := 5) (by rw [hnx]; (repeat constructor)) (by rw [hnx]; (repeat constructor)) (by repeat constructor) ?_
  have e8 : X.flatMap bwC ++ bwC nx = (X ++ [nx]).flatMap bwC := by rw [List.flatMap_append, List.flatMap_singleton]
  have e9 : X.length + 1 = (X ++ [nx]).length := by simp
  rw [<- hnx, e8, e9]
  refine rt_ (((a4, c4), X ++ [nx])) ?_
  refine .pu ⟨?_, ?_⟩ ?_
  ·rw [List.map_append, show [nx].map Prod.fst = [(L, seg b fr at_)] by rw [hnx]; rfl]
   exact hcut
  ·intro x hx
   rcases List.mem_append.1 hx with hx | hx
   ·exact hok x hx
   ·rw [List.mem_singleton.1 hx, hnx]
    exact ⟨s4, t4⟩
  exact im_
 ·rw [dF_ hL0]
  have hLn : L = [] := List.length_eq_zero_iff.1 (by omega)
  refine e_gdT (e_gdT (o_ v_len (e_gdT (o_ v_eql ?_))))
  by_cases hX0 : (X.length : Int) = 0
  ·rw [dT_ hX0]
   have hXn : X = [] := List.length_eq_zero_iff.1 (by omega)
   rw [if_pos (.inr (by rw [hXn]; rfl))] at hcut
   refine o_ v_pickF (e_condT (lg_ ?_))
   refine e_slfacts (by (repeat constructor) : Pick _ (Sl 3 118 la lc L.length (L.flatMap pPz)) _) fun _ _ _ s4 => ?_
   refine e_slfacts (by (repeat constructor) : Pick _ (Sl 1 5 ba bc (seg b fr at_).length ((seg b fr at_).map Sl.B)) _) fun _ _ _ t4 => ?_
   obtain ⟨nx, hnx⟩ : ∃ nx : Blk × Bv, nx = ((L, seg b fr at_), ((la, lc), (ba, bc))) := ⟨_, rfl⟩
   refine e_bslS (n := 1) (vs := [bwV nx]) rfl (by decide) (by rw [hnx]; rfl) (by intro v hv; rw [List.mem_singleton.1 hv]; rfl) (by decide) fun gd => ?_
   refine e_app (m := 1) (news := bwC nx) (by (repeat constructor) : Pick _ (Sl 2 92 oa oc X.length (X.flatMap bwC)) _) (src_pt (s := 2) (e' := 92) (by kernel_rfl) (by repeat constructor) (by rfl) (by intro u hu; simp [bwV, Value.cells] at hu; rcases hu with rfl | rfl <;> rfl)) (by omega) (by omega) fun a4 c4 => ?_
   refine e_bar (X := X) (x := nx) (e1 := 118) (e2 := 5) (by rw [hnx]; (repeat constructor)) (by rw [hnx]; (repeat constructor)) (by repeat constructor) ?_
   have e8 : X.flatMap bwC ++ bwC nx = (X ++ [nx]).flatMap bwC := by rw [List.flatMap_append, List.flatMap_singleton]
   have e9 : X.length + 1 = (X ++ [nx]).length := by simp
   rw [<- hnx, e8, e9]
   refine rt_ (((a4, c4), X ++ [nx])) ?_
   refine .pu ⟨?_, ?_⟩ ?_
   ·rw [List.map_append, show [nx].map Prod.fst = [(L, seg b fr at_)] by rw [hnx]; rfl]
    exact hcut
   ·intro x hx
    rcases List.mem_append.1 hx with hx | hx
    ·exact hok x hx
    ·rw [List.mem_singleton.1 hx, hnx]
     exact ⟨s4, t4⟩
   exact im_
  ·rw [dF_ hX0]
   rw [if_neg (fun h => by
    rcases h with h | h
    ·exact h hLn
    ·have := congrArg List.length h
     rw [List.length_map] at this
     simp only [List.length_nil] at this
     omega)] at hcut
   refine o_ v_pickF (e_condF (rt_ (((oa, oc), X)) ?_))
   refine .pu ⟨hcut, hok⟩ ?_
   exact im_
end Go.Proofs.YthoeeahdkdcceaaGreat.IF
namespace Go.Proofs.YthoeeahdkdcceaaGreat.HF
open Go Go.Proofs Go.RowKit Sh Sl T HM
theorem e_slform {W : World} {L L' : List HP} {S : WP} {s : Nat} {e : TypeId} {a : Option Addr} {cap n : Nat} {cs : List Value} (p : Pick L (Sl s e a cap n cs) L') (h0 : a = none -> cap = 0 -> Ent W L S) (h1 : ∀ g, a = some ⟨g, 0, none⟩ -> Ent W L S) : Ent W L S := fun w hw => by
 obtain ⟨f, ⟨l1, l2, l3, hd⟩, _⟩ := (hw.pick p).fst
 rcases hd with ⟨ha, hc⟩ | ⟨g, rest, hg, _, _⟩
 ·exact h0 ha hc w hw
 ·exact h1 g hg w hw
theorem flat_take2 (k : Nat) : ∀ xs : List It, (xs.flatMap ic).take (k * 2) = (xs.take k).flatMap ic := by
 induction k with
 | zero => intro xs; simp
 | succ k ih =>
  intro xs
  cases xs with
  | nil => simp
  | cons x xs =>
   have := ih xs
   rw [List.flatMap_cons, List.take_succ_cons, List.flatMap_cons, <- this, show ic x = [I x.n, .slice (some ⟨x.g, 0, none⟩) x.w.length x.c] from rfl, show (k + 1) * 2 = k * 2 + 1 + 1 by omega]
   rfl
theorem flat_drop2 (k : Nat) : ∀ xs : List It, (xs.flatMap ic).drop (k * 2) = (xs.drop k).flatMap ic := by
 induction k with
 | zero => intro xs; simp
 | succ k ih =>
  intro xs
  cases xs with
  | nil => simp
  | cons x xs =>
   have := ih xs
   rw [List.flatMap_cons, List.drop_succ_cons, <- this, show ic x = [I x.n, .slice (some ⟨x.g, 0, none⟩) x.w.length x.c] from rfl, show (k + 1) * 2 = k * 2 + 1 + 1 by omega]
   rfl
theorem coins {W : World} {a : Option Addr} {c : Nat} {freq : List Int} {A : HP} (hA : RdB W A a freq.length (freq.map I)) (hf : ∀ x ∈ freq, ¬ badF x) (hl : freq.length <= 320) :
  Cn p_ 148 [.slice a freq.length c] W [A] (fun q : (Option Addr × Nat) × { xs : List It // xs.map er = csF freq /\ xs.length <= 320 } => .slice q.1.1 q.2.1.length q.1.2)
  (fun q => [Sl 2 212 q.1.1 q.1.2 q.2.1.length (q.2.1.flatMap ic), Arena q.2.1, A]) := by
 (refine S.ref03_coins_s.cn fun F => ?_; unfold S.ref03_coins; simp only [ca_, na_])
 refine e_loop2 (fun m x y => (ex fun st : ((Option Addr × Nat) × Nat) × List It => all [pu (m + st.1.2 = freq.length /\ x = .slice st.1.1.1 st.2.length st.1.1.2 /\ y = .int .i64 (st.1.2 : Int) /\ st.2.map er = isort Prod.fst (coinsF 0 (freq.take st.1.2)) /\ st.2.length <= st.1.2), Sl 2 212 st.1.1.1 st.1.1.2 st.2.length (st.2.flatMap ic), Arena st.2]) :: A :: F) freq.length ?_ ?_
 ·refine .ex (((none, 0), 0), []) (.all ?_)
  refine nr_ ?_
  refine .pu ⟨rfl, rfl, rfl, rfl, Nat.le_refl _⟩ ?_
  exact imp_nil (imp_ar0 .refl)
 intro m ds x y
 refine e_ex .here fun st => e_all .here ?_
 obtain ⟨⟨⟨sa, sc⟩, i⟩, xs⟩ := st
 refine nr_ ?_
 refine e_pu .here fun hi => ?_
 (try dsimp only at hi)
 (try dsimp only)
 obtain ⟨hmi, rfl, rfl, hxs, hxl⟩ := hi
 refine o_ v_len (e_ask v_lss .nil (fun h => ?_) (fun h => ?_))
 ·have hil : i < freq.length := by omega
  have hfi := hf freq[i] (List.getElem_mem hil)
  unfold badF at hfi
  have hsn : coinsF 0 (freq.take (i + 1)) = coinsF 0 (freq.take i) ++ if 0 < freq[i] then [(freq[i], [(i : Int)])] else [] := by
   rw [List.take_succ_eq_append_getElem hil, coinsF_snoc, List.length_take, Nat.min_eq_left (by omega), Int.zero_add]
  obtain ⟨ga, oa, rfl, _⟩ := hA.at_ (by omega)
  have lf : RunV p_ W [A] (sLoad 3 (.pointer (some ⟨ga, oa + i, none⟩))) (.int .i64 freq[i]) := v_ldRd hA (I_get hil)
  refine e_condT (o_ (v_ia1 i rfl hil) ?_)
  refine p_op lf ?_
  refine e_ask v_eql .nil (fun h0 => ?_) (fun h0 => ?_)
  ·refine e_condT (ad_ ?_)
   refine e_next2 (m - 1) (by omega) (.ex (((sa, sc), i + 1), xs) (.all ?_))
   refine nr_ ?_
   refine .pu ⟨by omega, rfl, rfl, by rw [hsn, if_neg (by omega), List.append_nil, hxs], by (try dsimp only); omega⟩ ?_
   exact im_
  ·have hpos : 0 < freq[i] := by omega
   have hnext : isort Prod.fst (coinsF 0 (freq.take (i + 1))) = insR Prod.fst (xs.map er) (freq[i], [(i : Int)]) := by
    rw [hsn, if_pos hpos, isort_snoc, hxs]
   refine e_condF (o_ v_len (e_loop1 (fun m y => (ex fun k : Nat => pu (m = k /\ k <= xs.length /\ y = .int .i64 (k : Int) /\ insR Prod.fst (xs.map er) (freq[i], [(i : Int)]) = insAt Prod.fst (xs.map er) (freq[i], [(i : Int)]) k)) :: Sl 2 212 sa sc xs.length (xs.flatMap ic) :: Arena xs :: A :: F) xs.length ?_ ?_))
   ·refine .ex xs.length (.pu ⟨rfl, Nat.le_refl _, rfl, by unfold insR; rw [List.length_map]⟩ ?_)
    exact im_
   intro m2 ds2 y2
   refine e_ex .here fun k => e_pu .here fun hk => ?_
   obtain ⟨rfl, hkl, rfl, hins⟩ := hk
   refine e_slfacts .here fun f1 f2 f3 f4 => ?_
   refine e_drS (e_askS v_gtr .nil (fun h2 => ?_) (fun h2 => ?_))
   ·obtain ⟨r, rfl⟩ : ∃ r, m2 = r + 1 := ⟨m2 - 1, by omega⟩
    have hr : r < xs.length := by omega
    obtain ⟨g, rfl⟩ := f4 (by omega)
    have rdx : RdB W (Sl 2 212 (some ⟨g, 0, none⟩) sc xs.length (xs.flatMap ic)) (some ⟨g, 0, none⟩) (xs.length * 2) (xs.flatMap ic) := rd_slG f1 f4
    have ln : RunV p_ W [Sl 2 212 (some ⟨g, 0, none⟩) sc xs.length (xs.flatMap ic)] (sLoad 3 (.pointer (some ⟨g, 0 + r * 2 + 0, none⟩))) (.int .i64 xs[r].n) := v_ldRd2 rdx (by rw [flat_get ic_len xs r 0 hr (by omega)]; rfl)
    refine e_gdT (e_gdT (e_gdT (t_ (v_sub (by omega) (by omega)) ?_)))
    refine e_gdT (t_ (v_ia r (by omega) hr) ?_)
    refine e_gdT (t_ v_fa (e_gdT (e_stS ln (.pick .here .nil) ?_)))
    refine e_gdT (e_gdT (e_gdT (t_ (v_ia1 i rfl hil) ?_)))
    refine e_gdT (p_st lf ?_)
    refine e_gdT (t_ v_gtr (t_ v_pickT ?_))
    have hget : (xs.map er)[r]? = some (er xs[r]) := by rw [List.getElem?_map, List.getElem?_eq_getElem hr]; rfl
    by_cases h3 : freq[i] < xs[r].n
    ·rw [dT_ h3]
     refine e_condT (sb_ ?_)
     refine e_next1 r (by omega) (.ex r (.pu ⟨rfl, by omega, by congr 1; omega, ?_⟩ ?_))
     ·rw [hins, insAt, hget]
      simp only
      rw [if_pos (show freq[i] < (er xs[r]).1 from h3)]
     ·exact .refl
    ·have hat : insR Prod.fst (xs.map er) (freq[i], [(i : Int)]) = (xs.map er).take (r + 1) ++ (freq[i], [(i : Int)]) :: (xs.map er).drop (r + 1) := by
      rw [hins, insAt, hget]
      simp only
      rw [if_neg (show ¬ freq[i] < (er xs[r]).1 from h3)]
     rw [dF_ h3]
     refine e_condF (e_bsl0 (s := 2) (e := 212) fun z => ?_)
     refine o_ (v_sll (r + 1) (by omega) (by omega)) ?_
     refine e_app (m := xs.length - (r + 1)) (news := (xs.flatMap ic).drop ((r + 1) * 2)) .here (src_tail (s := 2) (e' := 212) (by kernel_rfl) (by decide) (.there .here) rdx (by omega) f2 (ics_one xs)) (by omega) (by omega) fun ra rc => ?_
     rw [Nat.zero_add, List.nil_append]
     refine e_drS (e_stD (v_slh0 (r + 1) (by omega) (by omega)) .nil ?_)
     refine e_stD (v_ia1 i rfl hil) .nil ?_
     refine e_stD lf (.pick (by repeat constructor) .nil) ?_
     refine e_bsl1 fun gw => ?_
     refine e_obl im_ ?_
     refine e_obl im_ ?_
     refine e_obl im_ ?_
     refine t_ v_rv ?_
     refine e_own (s := 1) (n := 1) (cs := [.int .i64 (i : Int)]) .here (by rfl) (by unfold maxLen; omega) ?_
     refine e_ar (xs := xs) (x := ⟨freq[i], gw, 1, [(i : Int)]⟩) rfl .here (.there (.there .here)) ?_
     refine e_bslS (s := 2) (vs := [av ⟨freq[i], gw, 1, [(i : Int)]⟩]) rfl (by omega) rfl (by intro z hz; simp at hz; subst hz; rfl) (by omega) fun g4 => ?_
     refine e_obl im_ ?_
     refine e_slcut (a := some ⟨g, 0, none⟩) (cap := sc) (n := xs.length) (m := (r + 1)) (cs := xs.flatMap ic) (s := 2) (e := 212) (.there (.there (.there .here))) (by omega) ?_
     refine e_app (m := 1) (news := ic ⟨freq[i], gw, 1, [(i : Int)]⟩) .here (src_pt (s := 2) (e' := 212) (by kernel_rfl) (.there .here) (by rfl) (ic_one _)) (by omega) (by omega) fun a2 c2 => ?_
     refine e_app (m := xs.length - (r + 1)) (news := (xs.flatMap ic).drop ((r + 1) * 2)) .here (src_sl (s := 2) (e' := 212) (e := 212) (by kernel_rfl) (.there (.there (.there .here))) (fun u hu => ics_one xs u (List.mem_of_mem_drop hu))) (by omega) (by omega) fun a3 c3 => ?_
     refine ad_ ?_
     refine e_next2 (m - 1) (by omega) (.ex (((a3, c3), i + 1), xs.take ((r + 1)) ++ ⟨freq[i], gw, 1, [(i : Int)]⟩ :: xs.drop ((r + 1))) (.all ?_))
     refine nr_ ?_
     have e1 : (r + 1) + 1 + (xs.length - (r + 1)) = (xs.take ((r + 1)) ++ (⟨freq[i], gw, 1, [(i : Int)]⟩ : It) :: xs.drop ((r + 1))).length := by simp only [List.length_append, List.length_take, List.length_cons, List.length_drop]; omega
     have e2 : (xs.flatMap ic).take ((r + 1) * 2) ++ ic ⟨freq[i], gw, 1, [(i : Int)]⟩ ++ (xs.flatMap ic).drop ((r + 1) * 2) = (xs.take ((r + 1)) ++ (⟨freq[i], gw, 1, [(i : Int)]⟩ : It) :: xs.drop ((r + 1))).flatMap ic := by
      rw [flat_take2, flat_drop2, List.flatMap_append, List.flatMap_cons, List.append_assoc]
     refine .pu ⟨by omega, by rw [e1], rfl, ?_, ?_⟩ ?_
     ·(try dsimp only)
      rw [List.map_append, List.map_cons, List.map_take, List.map_drop, hnext, hat]
      rfl
     ·(try dsimp only)
      rw [<- e1]; omega
     (try dsimp only)
     rw [<- e1, <- e2]
     refine .pick .here (.convL (A := Arena (⟨freq[i], gw, 1, [(i : Int)]⟩ :: xs)) (B := Arena (xs.take ((r + 1)) ++ ⟨freq[i], gw, 1, [(i : Int)]⟩ :: xs.drop ((r + 1)))) (by repeat constructor) (fun f hf y hy => hf y (by
      rcases List.mem_append.1 hy with c | c
      ·exact List.mem_cons_of_mem _ (List.mem_of_mem_take c)
      ·rcases List.mem_cons.1 c with c | c
       ·rw [c]; exact List.mem_cons_self
       ·exact List.mem_cons_of_mem _ (List.mem_of_mem_drop c))) ?_)
     exact im_
   ·have hm0 : m2 = 0 := by omega
    subst hm0
    have hat : insR Prod.fst (xs.map er) (freq[i], [(i : Int)]) = (xs.map er).take 0 ++ (freq[i], [(i : Int)]) :: (xs.map er).drop 0 := by rw [hins, insAt]; rfl
    refine e_gdF2 (e_gdF2 (e_gdF2 (e_gdF2 (e_gdF2 (e_gdF2 (e_gdF2 (e_gdF2 (e_gdF2 (e_gdF2 (e_gdF2 (t_ v_pickF (e_condF (e_slform .here (fun ha hc => ?_) (fun g hg => ?_))))))))))))))
    ·subst ha; subst hc
     have hx0 : xs = [] := by
      rcases Nat.eq_zero_or_pos xs.length with z | z
      ·exact List.eq_nil_of_length_eq_zero z
      ·obtain ⟨_, e⟩ := f4 z; cases e
     subst hx0
     refine e_bsl0 (s := 2) (e := 212) fun z => ?_
     refine o_ (v_sll 0 (by omega) (by omega)) ?_
     rw [if_pos rfl]
     refine e_app (m := 0) (news := []) .here (fun w _ => Src.ofNil (e' := 212) w (by kernel_rfl) _) (by omega) (by omega) fun ra rc => ?_
     refine e_drS (e_stD (v_slh 0 (by omega) (by omega)) .nil ?_)
     rw [if_pos rfl]
     refine e_stD (v_ia1 i rfl hil) .nil ?_
     refine e_stD lf (.pick (by repeat constructor) .nil) ?_
     refine e_bsl1 fun gw => ?_
     refine e_obl im_ ?_
     refine e_obl im_ ?_
     refine e_obl im_ ?_
     refine t_ v_rv ?_
     refine e_own (s := 1) (n := 1) (cs := [.int .i64 (i : Int)]) .here (by rfl) (by unfold maxLen; omega) ?_
     refine e_ar (xs := []) (x := ⟨freq[i], gw, 1, [(i : Int)]⟩) rfl .here (.there (.there .here)) ?_
     refine e_bslS (s := 2) (vs := [av ⟨freq[i], gw, 1, [(i : Int)]⟩]) rfl (by omega) rfl (by intro z hz; simp at hz; subst hz; rfl) (by omega) fun g4 => ?_
     refine e_obl im_ ?_
     refine e_app (n := 0) (m := 1) (cs := []) (news := ic ⟨freq[i], gw, 1, [(i : Int)]⟩) (.there (.there (.there .here))) (src_pt (s := 2) (e' := 212) (by kernel_rfl) .here (by rfl) (ic_one _)) (by omega) (by omega) fun a2 c2 => ?_
     refine e_app (m := 0) (news := []) .here (src_sl (s := 2) (e' := 212) (e := 212) (by kernel_rfl) (.there (.there (.there .here))) (by simp)) (by omega) (by omega) fun a3 c3 => ?_
     refine ad_ ?_
     refine e_next2 (m - 1) (by omega) (.ex (((a3, c3), i + 1), [⟨freq[i], gw, 1, [(i : Int)]⟩]) (.all ?_))
     refine nr_ ?_
     refine .pu ⟨by omega, rfl, rfl, ?_, by simp⟩ ?_
     ·(try dsimp only)
      rw [hnext]
      rfl
     (try dsimp only)
     exact im_
    ·subst hg
     have rdx : RdB W (Sl 2 212 (some ⟨g, 0, none⟩) sc xs.length (xs.flatMap ic)) (some ⟨g, 0, none⟩) (xs.length * 2) (xs.flatMap ic) := rd_slG f1 (fun _ => ⟨g, rfl⟩)
     refine e_bsl0 (s := 2) (e := 212) fun z => ?_
     refine o_ (v_sll 0 (by omega) (by omega)) ?_
     refine e_app (m := xs.length - 0) (news := (xs.flatMap ic).drop (0 * 2)) .here (src_tail (s := 2) (e' := 212) (by kernel_rfl) (by decide) (.there .here) rdx (by omega) f2 (ics_one xs)) (by omega) (by omega) fun ra rc => ?_
     rw [Nat.zero_add, List.nil_append]
     refine e_drS (e_stD (v_slh0 0 (by omega) (by omega)) .nil ?_)
     refine e_stD (v_ia1 i rfl hil) .nil ?_
     refine e_stD lf (.pick (by repeat constructor) .nil) ?_
     refine e_bsl1 fun gw => ?_
     refine e_obl im_ ?_
     refine e_obl im_ ?_
     refine e_obl im_ ?_
     refine t_ v_rv ?_
     refine e_own (s := 1) (n := 1) (cs := [.int .i64 (i : Int)]) .here (by rfl) (by unfold maxLen; omega) ?_
     refine e_ar (xs := xs) (x := ⟨freq[i], gw, 1, [(i : Int)]⟩) rfl .here (.there (.there .here)) ?_
     refine e_bslS (s := 2) (vs := [av ⟨freq[i], gw, 1, [(i : Int)]⟩]) rfl (by omega) rfl (by intro z hz; simp at hz; subst hz; rfl) (by omega) fun g4 => ?_
     refine e_obl im_ ?_
     refine e_slcut (a := some ⟨g, 0, none⟩) (cap := sc) (n := xs.length) (m := 0) (cs := xs.flatMap ic) (s := 2) (e := 212) (.there (.there (.there .here))) (by omega) ?_
     refine e_app (m := 1) (news := ic ⟨freq[i], gw, 1, [(i : Int)]⟩) .here (src_pt (s := 2) (e' := 212) (by kernel_rfl) (.there .here) (by rfl) (ic_one _)) (by omega) (by omega) fun a2 c2 => ?_
     refine e_app (m := xs.length - 0) (news := (xs.flatMap ic).drop (0 * 2)) .here (src_sl (s := 2) (e' := 212) (e := 212) (by kernel_rfl) (.there (.there (.there .here))) (fun u hu => ics_one xs u (List.mem_of_mem_drop hu))) (by omega) (by omega) fun a3 c3 => ?_
     refine ad_ ?_
     refine e_next2 (m - 1) (by omega) (.ex (((a3, c3), i + 1), xs.take (0) ++ ⟨freq[i], gw, 1, [(i : Int)]⟩ :: xs.drop (0)) (.all ?_))
     refine nr_ ?_
     have e1 : 0 + 1 + (xs.length - 0) = (xs.take (0) ++ (⟨freq[i], gw, 1, [(i : Int)]⟩ : It) :: xs.drop (0)).length := by simp only [List.length_append, List.length_take, List.length_cons, List.length_drop]; omega
     have e2 : (xs.flatMap ic).take (0 * 2) ++ ic ⟨freq[i], gw, 1, [(i : Int)]⟩ ++ (xs.flatMap ic).drop (0 * 2) = (xs.take (0) ++ (⟨freq[i], gw, 1, [(i : Int)]⟩ : It) :: xs.drop (0)).flatMap ic := by
      rw [flat_take2, flat_drop2, List.flatMap_append, List.flatMap_cons, List.append_assoc]
     refine .pu ⟨by omega, by rw [e1], rfl, ?_, ?_⟩ ?_
     ·(try dsimp only)
      rw [List.map_append, List.map_cons, List.map_take, List.map_drop, hnext, hat]
      rfl
     ·(try dsimp only)
      rw [<- e1]; omega
     (try dsimp only)
     rw [<- e1, <- e2]
     refine .pick .here (.convL (A := Arena (⟨freq[i], gw, 1, [(i : Int)]⟩ :: xs)) (B := Arena (xs.take (0) ++ ⟨freq[i], gw, 1, [(i : Int)]⟩ :: xs.drop (0))) (by repeat constructor) (fun f hf y hy => hf y (by
      rcases List.mem_append.1 hy with c | c
      ·exact List.mem_cons_of_mem _ (List.mem_of_mem_take c)
      ·rcases List.mem_cons.1 c with c | c
       ·rw [c]; exact List.mem_cons_self
       ·exact List.mem_cons_of_mem _ (List.mem_of_mem_drop c))) ?_)
     exact im_
 ·have hie : i = freq.length := by omega
  subst hie
  rw [List.take_length] at hxs
  refine e_condF (rt_ (((sa, sc), (⟨xs, hxs, by omega⟩ : { xs : List It // xs.map er = csF freq /\ xs.length <= 320 }))) ?_)
  exact im_
theorem ld_itR {W : World} {A : HP} {g o j : Nat} {ys : List It} (H : RdL W A (some ⟨g, o, none⟩) ys) (hj : j < ys.length) : RunV p_ W [A] (sLoad 212 (.pointer (some ⟨g, o + j * 2, none⟩))) (av ys[j]) :=
 v_ldRdA (vs := ic ys[j]) H (by rfl) fun i hi => flat_get ic_len ys j i hj hi
theorem rdl_drop {W : World} {A : HP} {a : Option Addr} {ys : List It} {k c : Nat} (h : RdL W A a ys) (hk : k <= ys.length) (hc : ys.length <= c) : RdL W A (if c = k then a else a.map (·.add (k * 2))) (ys.drop k) := by
 refine ⟨ics_len _, fun hn => ?_⟩
 rw [List.length_drop] at hn
 obtain ⟨g, o, rfl, hcell⟩ := h.at_ (by omega)
 rw [if_neg (by omega)]
 refine ⟨g, o + k * 2, by simp [addr_add], fun w L hw j v hv => ?_⟩
 rw [Nat.add_assoc]
 refine hcell w L hw (k * 2 + j) v ?_
 rw [<- flat_drop2, List.getElem?_drop] at hv
 exact hv
theorem rmerged {W : World} {A B : HP} {xs ys : List It} {va vb : Option Addr} {ca cb : Nat} (ha : RdL W A va xs) (hb : RdL W B vb ys) (hca : xs.length <= ca) (hcb : ys.length <= cb) (n1 : xs.length <= 268435456) (n2 : ys.length <= 268435456) :
    Cn p_ 149 [.slice va xs.length ca, .slice vb ys.length cb] W [A, B] (fun q : Option Addr × Nat => .slice q.1 (xs.length + ys.length) q.2) (fun q => [Sl 2 212 q.1 q.2 (xs.length + ys.length) ((mrg It.n xs ys).flatMap ic), A, B]) := by
  (refine S.ref03_merged_s.cn fun F => ?_; unfold S.ref03_merged; simp only [ca_, na_])
  refine e_loop3 (fun m x y z => (ex fun st : ((Option Addr × Nat) × (Nat × Nat)) × List It => all [pu (m + st.1.2.1 = xs.length /\ x = .slice st.1.1.1 st.2.length st.1.1.2 /\ y = .int .i64 (st.1.2.2 : Int) /\ z = .int .i64 (st.1.2.1 : Int) /\ st.1.2.2 <= ys.length /\ st.2.length = st.1.2.1 + st.1.2.2 /\ mrg It.n xs ys = st.2 ++ mrg It.n (xs.drop st.1.2.1) (ys.drop st.1.2.2)), Sl 2 212 st.1.1.1 st.1.1.2 st.2.length (st.2.flatMap ic)]) :: A :: B :: F) xs.length ?_ ?_
  · refine .ex (((none, 0), (0, 0)), []) (.all ?_)
    refine nr_ ?_
    refine .pu ⟨rfl, rfl, rfl, rfl, Nat.zero_le _, rfl, rfl⟩ ?_
    exact imp_nil .refl
  intro m ds x y z
  refine e_ex .here fun st => e_all .here ?_
  obtain ⟨⟨⟨sa, sc⟩, ⟨i, k⟩⟩, O⟩ := st
  refine nr_ ?_
  refine e_pu .here fun hi => ?_
  (try dsimp only at hi)
  (try dsimp only)
  obtain ⟨hmi, rfl, rfl, rfl, hk, hO, hM⟩ := hi
  refine o_ v_len (e_ask v_lss .nil (fun h => ?_) (fun h => ?_))
  · have hix : i < xs.length := by omega
    obtain ⟨g, o, rfl, _⟩ := ha.at_ (by omega)
    have na := v_itN ha hix
    have la := ld_itR ha hix
    rw [List.drop_eq_getElem_cons hix] at hM
    obtain ⟨a, haE⟩ : ∃ a, a = xs[i] := ⟨_, rfl⟩
    rw [<- haE] at na la hM
    refine e_condT (e_loop2 (fun m2 x y => (ex fun st : ((Option Addr × Nat) × Nat) × List It => all [pu (m2 + st.1.2 = ys.length /\ x = .slice st.1.1.1 st.2.length st.1.1.2 /\ y = .int .i64 (st.1.2 : Int) /\ st.2.length = i + st.1.2 /\ mrg It.n xs ys = st.2 ++ mrg It.n (a :: xs.drop (i + 1)) (ys.drop st.1.2)), Sl 2 212 st.1.1.1 st.1.1.2 st.2.length (st.2.flatMap ic)]) :: A :: B :: F) (ys.length - k) ?_ ?_)
    · refine .ex (((sa, sc), k), O) (.all ?_)
      refine nr_ ?_
      refine .pu ⟨by omega, rfl, rfl, hO, hM⟩ ?_
      exact .refl
    intro m2 ds2 x y
    refine e_ex .here fun st => e_all .here ?_
    obtain ⟨⟨⟨ta, tc⟩, k⟩, Q⟩ := st
    refine nr_ ?_
    refine e_pu .here fun hi => ?_
    (try dsimp only at hi)
    (try dsimp only)
    obtain ⟨hmk, rfl, rfl, hQ, hM⟩ := hi
    have done : ¬ (∃ h : k < ys.length, ys[k].n < a.n) -> Ent W (Sl 2 212 ta tc Q.length (Q.flatMap ic) :: A :: B :: F) (opN p_ (sIA 209 (.slice (some ⟨g, o, none⟩) xs.length ca) (.int .i64 (i : Int))) noP fun x43 =>
       opN p_ (sLoad 212 x43) noP fun x44 =>
       opN p_ (sBuildSl 209 1 [(0, x44)]) noP fun x45 =>
       opN p_ (sApp #[209, 209] 209 [.slice ta Q.length tc, x45]) noP fun x46 =>
       opN p_ (sBin .add 3 (.int .i64 (i : Int)) (.int .i64 1)) noP fun x13 =>
       next3 (fun m x y z w => sat W ((ex fun st : ((Option Addr × Nat) × (Nat × Nat)) × List It => all [pu (m + st.1.2.1 = xs.length /\ x = .slice st.1.1.1 st.2.length st.1.1.2 /\ y = .int .i64 (st.1.2.2 : Int) /\ z = .int .i64 (st.1.2.1 : Int) /\ st.1.2.2 <= ys.length /\ st.2.length = st.1.2.1 + st.1.2.2 /\ mrg It.n xs ys = st.2 ++ mrg It.n (xs.drop st.1.2.1) (ys.drop st.1.2.2)), Sl 2 212 st.1.1.1 st.1.1.2 st.2.length (st.2.flatMap ic)]) :: A :: B :: F) w) m x46 (.int .i64 (k : Int)) x13) := by
      intro hno
      have hM2 : mrg It.n (a :: xs.drop (i + 1)) (ys.drop k) = a :: mrg It.n (xs.drop (i + 1)) (ys.drop k) := by
        by_cases c : k < ys.length
        · rw [List.drop_eq_getElem_cons c]
          exact mrg_ge It.n fun d => hno ⟨c, d⟩
        · rw [List.drop_eq_nil_of_le (show ys.length <= k by omega)]
          exact mrg_a It.n
      refine o_ (v_ia i rfl hix) ?_
      refine p_op la ?_
      refine e_bslS (s := 2) (vs := [av a]) rfl (by omega) rfl (by intro z hz; simp at hz; subst hz; rfl) (by omega) fun g4 => ?_
      refine e_app (m := 1) (news := ic a) (.there .here) (src_pt (s := 2) (e' := 212) (by kernel_rfl) .here (by rfl) (ic_one _)) (by omega) (by omega) fun a' c' => ?_
      refine ad_ ?_
      have e1 : Q.length + 1 = (Q ++ [a]).length := by simp
      have e2 : Q.flatMap ic ++ ic a = (Q ++ [a]).flatMap ic := by simp
      rw [e1, e2]
      refine e_next3 (m - 1) (by omega) (.ex (((a', c'), (i + 1, k)), Q ++ [a]) (.all ?_))
      refine nr_ ?_
      refine .pu ⟨by (try dsimp only); omega, rfl, rfl, rfl, by (try dsimp only); omega, by (try dsimp only); rw [List.length_append, hQ]; simp; omega, ?_⟩ ?_
      · (try dsimp only)
        rw [hM, hM2, List.append_assoc]; rfl
      · (try dsimp only)
        refine .pick .here ?_
        exact im_
    refine e_drS (t_ v_len (e_askS v_lss .nil (fun h2 => ?_) (fun h2 => ?_)))
    · have hky : k < ys.length := by omega
      obtain ⟨g', o', rfl, _⟩ := hb.at_ (by omega)
      have nb := v_itN hb hky
      have lb := ld_itR hb hky
      refine e_gdT (e_gdT (e_gdT (t_ (v_ia k rfl hky) ?_)))
      refine e_gdT (t_ v_fa (e_gdT (p_st nb ?_)))
      refine e_gdT (e_gdT (e_gdT (t_ (v_ia i rfl hix) ?_)))
      refine e_gdT (t_ v_fa (e_gdT (p_st na ?_)))
      refine e_gdT (t_ v_lss (t_ v_pickT ?_))
      by_cases h3 : ys[k].n < a.n
      · have hM2 : mrg It.n (a :: xs.drop (i + 1)) (ys.drop k) = ys[k] :: mrg It.n (a :: xs.drop (i + 1)) (ys.drop (k + 1)) := by
          rw [List.drop_eq_getElem_cons hky]
          exact mrg_lt It.n h3
        rw [dT_ h3]
        refine e_condT (o_ (v_ia k rfl hky) ?_)
        refine p_op lb ?_
        refine e_bslS (s := 2) (vs := [av ys[k]]) rfl (by omega) rfl (by intro z hz; simp at hz; subst hz; rfl) (by omega) fun g4 => ?_
        refine e_app (m := 1) (news := ic ys[k]) (.there .here) (src_pt (s := 2) (e' := 212) (by kernel_rfl) .here (by rfl) (ic_one _)) (by omega) (by omega) fun a' c' => ?_
        refine ad_ ?_
        have e1 : Q.length + 1 = (Q ++ [ys[k]]).length := by simp
        have e2 : Q.flatMap ic ++ ic ys[k] = (Q ++ [ys[k]]).flatMap ic := by simp
        rw [e1, e2]
        refine e_next2 (m2 - 1) (by omega) (.ex (((a', c'), k + 1), Q ++ [ys[k]]) (.all ?_))
        refine nr_ ?_
        refine .pu ⟨by (try dsimp only); omega, rfl, rfl, by (try dsimp only); rw [List.length_append, hQ]; simp; omega, ?_⟩ ?_
        · (try dsimp only)
          rw [hM, hM2, List.append_assoc]; rfl
        · (try dsimp only)
          refine .pick .here ?_
          exact im_
      · rw [dF_ h3]
        exact e_condF (done fun c => h3 c.2)
    · (refine e_gdF2 ?_); refine e_gdF2 ?_; refine e_gdF2 ?_; refine e_gdF2 ?_; refine e_gdF2 ?_; refine e_gdF2 ?_; refine e_gdF2 ?_; refine e_gdF2 ?_; refine e_gdF2 ?_; refine e_gdF2 ?_; refine e_gdF2 ?_; refine t_ v_pickF ?_; refine e_condF ?_
      exact done fun c => h2 (by have := c.1; omega)
  · have hie : i = xs.length := by omega
    subst hie
    rw [List.drop_length, show mrg It.n [] (ys.drop k) = ys.drop k from rfl] at hM
    refine e_condF (o_ (v_sll k rfl hk) ?_)
    have rd := rdl_drop hb hk hcb
    unfold RdL at rd
    rw [List.length_drop] at rd
    refine e_app (m := ys.length - k) (news := (ys.drop k).flatMap ic) .here (src_rdS (s := 2) (e' := 212) (by kernel_rfl) (by decide) (.there (.there .here)) rd (ics_one _)) (by omega) (by omega) fun a' c' => ?_
    have e1 : O.length + (ys.length - k) = xs.length + ys.length := by omega
    rw [<- List.flatMap_append, <- hM, e1]
    refine rt_ ((a', c')) ?_
    exact im_
theorem rpairsLoop {W : World} {A : HP} {F : List HP} {ra : Option Addr} {rc : Nat} {rs ar : List It} {K : Value → WP} (hA : RdL W A ra rs) (hm : ∀ y ∈ rs, y ∈ ar) (hl : rs.length ≤ 268435456)
    (hb : ∀ y ∈ rs, 0 ≤ y.n ∧ y.n ≤ 1152921504606846976 ∧ 0 < y.w.length ∧ y.w.length ≤ 1073741824)
    (hK : ∀ (q : Option Addr × Nat) (ps ar' : List It), ps.map er = pairs (rs.map er) → (∀ y ∈ ps, y ∈ ar') → (∀ y ∈ ar, y ∈ ar') → Ent W (Sl 2 212 q.1 q.2 ps.length (ps.flatMap ic) :: Arena ar' :: A :: F) (K (.slice q.1 ps.length q.2))) :
    Ent W (A :: Arena ar :: F) (loop2 (fun I3 m3 _ y12 y13 =>
          opN p_ (sBin .add 3 y13 (.int .i64 1)) noP fun x80 =>
          opN p_ (sLen #[209] 3 [(.slice ra rs.length rc)]) noP fun x82 =>
          opN p_ (sBin .lss 3 x80 x82) noP fun x83 =>
          condS x83
          (drS (stD p_ (sIA 209 (.slice ra rs.length rc) y13) fun D3 x89 =>
            stD p_ (sFA 212 x89 0) fun D4 x90 =>
            stD p_ (sLoad 3 x90) fun D5 x91 =>
            stD p_ (sBin .add 3 y13 (.int .i64 1)) fun D8 x94 =>
            stD p_ (sIA 209 (.slice ra rs.length rc) x94) fun D9 x95 =>
            stD p_ (sFA 212 x95 0) fun D10 x96 =>
            stD p_ (sLoad 3 x96) fun D11 x97 =>
            stD p_ (sBin .add 3 x91 x97) fun D12 x98 =>
            stD p_ (sIA 209 (.slice ra rs.length rc) y13) fun D16 x102 =>
            stD p_ (sFA 212 x102 1) fun D17 x103 =>
            stD p_ (sLoad 129 x103) fun D18 x104 =>
            stD p_ (sBin .add 3 y13 (.int .i64 1)) fun D22 x108 =>
            stD p_ (sIA 209 (.slice ra rs.length rc) x108) fun D23 x109 =>
            stD p_ (sFA 212 x109 1) fun D24 x110 =>
            stD p_ (sLoad 129 x110) fun D25 x111 =>
            opN p_ (sBuildSl 129 0 []) noP fun x99 =>
            (fun w => D25 w ∧ (fun w => D24 w ∧ (fun w => D23 w ∧ (fun w => D22 w ∧ (fun w => D18 w ∧ (fun w => D17 w ∧ (fun w => D16 w ∧ (fun w => D12 w ∧ (fun w => D11 w ∧ (fun w => D10 w ∧ (fun w => D9 w ∧ (fun w => D8 w ∧ (fun w => D5 w ∧ (fun w => D4 w ∧ (fun w => D3 w ∧ (opN p_ (sApp #[129, 129] 129 [x99, x104]) noP fun x105 =>
                      (fun w => D25 w ∧ (fun w => D24 w ∧ (fun w => D23 w ∧ (fun w => D22 w ∧ (fun w => D12 w ∧ (fun w => D11 w ∧ (fun w => D10 w ∧ (fun w => D9 w ∧ (fun w => D8 w ∧ (fun w => D5 w ∧ (fun w => D4 w ∧ (fun w => D3 w ∧ (opN p_ (sApp #[129, 129] 129 [x105, x111]) noP fun x112 =>
                      (fun w => D12 w ∧ (fun w => D11 w ∧ (fun w => D10 w ∧ (fun w => D9 w ∧ (fun w => D8 w ∧ (fun w => D5 w ∧ (fun w => D4 w ∧ (fun w => D3 w ∧ (stS p_ (sBuild 212 [(0, x98), (1, x112)]) fun x113 =>
                      opN p_ (sBuildSl 209 1 [(0, x113)]) noP fun x114 =>
                      opN p_ (sApp #[209, 209] 209 [y12, x114]) noP fun x115 =>
                      opN p_ (sBin .add 3 y13 (.int .i64 2)) noP fun x85 =>
                      next2 I3 m3 x115 x85) w) w) w) w) w) w) w) w)) w) w) w) w) w) w) w) w) w) w) w) w)) w) w) w) w) w) w) w) w) w) w) w) w) w) w) w)))
          (K y12)) (.slice none 0 0) (.int .i64 0)) := by
  refine e_loop2 (fun m x y => (ex fun q : Option Addr × Nat => ex fun ps : List It => ex fun ar' : List It => all [pu (∃ i : Nat, m + i = rs.length ∧ y = .int .i64 (i : Int) ∧ x = .slice q.1 ps.length q.2 ∧ ps.map er ++ pairs ((rs.map er).drop i) = pairs (rs.map er) ∧ (∀ y ∈ ps, y ∈ ar') ∧ (∀ y ∈ ar, y ∈ ar') ∧ ps.length ≤ i), Sl 2 212 q.1 q.2 ps.length (ps.flatMap ic), Arena ar', A]) :: F) rs.length ?_ ?_
  · refine .ex (none, 0) (.ex [] (.ex ar (.all ?_)))
    refine nr_ ?_
    refine .pu ⟨0, by omega, rfl, rfl, rfl, (fun y hy => (by cases hy)), (fun y hy => hy), Nat.le_refl _⟩ (imp_nil ?_)
    exact im_
  intro m ds x y
  refine e_ex Pick.here fun q => e_ex Pick.here fun ps => e_ex Pick.here fun ar' => e_all Pick.here ?_
  obtain ⟨qa, qc⟩ := q
  refine nr_ ?_
  refine e_pu Pick.here fun hi => ?_
  obtain ⟨i, hmi, rfl, rfl, hps, hpa, haa, hpl⟩ := hi
  (try dsimp only)
  refine ad_ ?_
  refine o_ v_len (e_ask v_lss .nil (fun h => ?_) (fun h => ?_))
  · have h1 : i + 1 < rs.length := by omega
    have h0 : i < rs.length := by omega
    obtain ⟨g, o, rfl, _⟩ := hA.at_ (by omega)
    obtain ⟨u, hu⟩ : ∃ u, u = rs[i] := ⟨_, rfl⟩
    obtain ⟨v, hv⟩ : ∃ v, v = rs[i + 1] := ⟨_, rfl⟩
    have n0 := v_itN hA h0
    have n1 := v_itN hA h1
    have w0 := v_itW hA h0
    have w1 := v_itW hA h1
    rw [← hu] at n0 w0
    rw [← hv] at n1 w1
    have hum : u ∈ rs := by rw [hu]; exact List.getElem_mem h0
    have hvm : v ∈ rs := by rw [hv]; exact List.getElem_mem h1
    have bu := hb u hum
    have bv := hb v hvm
    have ru := rd_ar (W := W) (haa u (hm u hum))
    have rv := rd_ar (W := W) (haa v (hm v hvm))
    refine e_condT (e_drS (e_stD (v_ia i (by rfl) h0) .nil ?_))
    refine e_stD v_fa .nil ?_
    refine e_stD n0 (.pick (by repeat constructor) .nil) ?_
    refine e_stD (v_add (by omega) (by omega)) .nil ?_
    refine e_stD (v_ia (i + 1) (by rfl) h1) .nil ?_
    refine e_stD v_fa .nil ?_
    refine e_stD n1 (.pick (by repeat constructor) .nil) ?_
    refine e_stD (v_add (by omega) (by omega)) .nil ?_
    refine e_stD (v_ia i (by rfl) h0) .nil ?_
    refine e_stD v_fa .nil ?_
    refine e_stD w0 (.pick (by repeat constructor) .nil) ?_
    refine e_stD (v_add (by omega) (by omega)) .nil ?_
    refine e_stD (v_ia (i + 1) (by rfl) h1) .nil ?_
    refine e_stD v_fa .nil ?_
    refine e_stD w1 (.pick (by repeat constructor) .nil) ?_
    refine e_bsl0 (s := 1) (e := 3) fun z => ?_
    iterate 15 refine e_obl im_ ?_
    refine e_app (m := u.w.length) (news := u.w.map I) .here (src_rd (e' := 3) (by kernel_rfl) (.there (.there .here)) ru (by simp) (by intro z hz; obtain ⟨s, _, rfl⟩ := List.mem_map.1 hz; rfl)) (by omega) (by omega) fun b1 d1 => ?_
    iterate 12 refine e_obl im_ ?_
    refine e_app (m := v.w.length) (news := v.w.map I) .here (src_rd (e' := 3) (by kernel_rfl) (.there (.there .here)) rv (by simp) (by intro z hz; obtain ⟨s, _, rfl⟩ := List.mem_map.1 hz; rfl)) (by omega) (by omega) fun b2 d2 => ?_
    rw [Nat.zero_add, List.nil_append, ← List.map_append, ← List.length_append]
    refine e_slsome (a := b2) .here (by rw [List.length_append]; omega) fun g3 hg3 => ?_
    subst hg3
    iterate 8 refine e_obl im_ ?_
    refine e_ar (xs := ar') (x := ⟨u.n + v.n, g3, d2, u.w ++ v.w⟩) rfl .here (.there .here) ?_
    refine t_ v_rv ?_
    refine e_bslS (s := 2) (vs := [av ⟨u.n + v.n, g3, d2, u.w ++ v.w⟩]) rfl (by omega) rfl (by intro z hz; simp at hz; subst hz; rfl) (by omega) fun g4 => ?_
    refine e_app (m := 1) (news := ic ⟨u.n + v.n, g3, d2, u.w ++ v.w⟩) (by repeat constructor) (src_pt (s := 2) (e' := 212) (by kernel_rfl) .here (by rfl) (ic_one _)) (by omega) (by omega) fun a' c' => ?_
    refine ad_ ?_
    refine e_next2 (m - 2) (by omega) (.ex (a', c') (.ex (ps ++ [⟨u.n + v.n, g3, d2, u.w ++ v.w⟩]) (.ex (⟨u.n + v.n, g3, d2, u.w ++ v.w⟩ :: ar') (.all ?_))))
    refine nr_ ?_
    refine .pu ⟨i + 2, by omega, by rfl, by rw [List.length_append]; rfl, ?_, ?_, fun y hy => List.mem_cons_of_mem _ (haa y hy), by simp; omega⟩ ?_
    · rw [← hps, pairs_drop (i := i) (by simpa using h1), List.map_append, List.append_assoc]
      simp [er, hu, hv]
    · intro y hy
      rcases List.mem_append.1 hy with c | c
      · exact List.mem_cons_of_mem _ (hpa y c)
      · rw [List.mem_singleton.1 c]; exact List.mem_cons_self
    · rw [List.flatMap_append, List.length_append, List.length_singleton, List.flatMap_singleton]
      exact im_
  · refine e_condF ?_
    rw [pairs_end (by simp; omega), List.append_nil] at hps
    exact hK (qa, qc) ps ar' hps hpa haa
theorem rhistLoop {W : World} {A : HP} {F : List HP} {ra : Option Addr} {rc go len k : Nat} {rs ar : List It} {K : WP} (hA : RdL W A ra rs) (hm : ∀ y ∈ rs, y ∈ ar) (hl : 2 * k - 2 ≤ rs.length) (hk : 1 ≤ k ∧ k ≤ 1048576) (hlen : len ≤ 1048576)
    (hb : ∀ y ∈ rs, y.w.length ≤ 1073741824 ∧ ∀ s ∈ y.w, 0 ≤ s ∧ s < len)
    (hK : Ent W (Sl 1 3 (some ⟨go, 0, none⟩) len len (Ln len fun s => (cnt (((rs.map er).take (2 * k - 2)).flatMap fun e => e.2) s : Int)) :: F) K) :
    Ent W (Sl 1 3 (some ⟨go, 0, none⟩) len len (Ln len fun _ => 0) :: A :: Arena ar :: F) (loop1 (fun I4 m4 _ y14 =>
          opN p_ (sBin .mul 3 (.int .i64 2) (.int .i64 (k : Int))) noP fun x121 =>
          opN p_ (sBin .sub 3 x121 (.int .i64 2)) noP fun x122 =>
          opN p_ (sBin .lss 3 y14 x122) noP fun x123 =>
          condS x123
          (loop1 (fun I5 m5 _ y15 =>
            opN p_ (sIA 209 (.slice ra rs.length rc) y14) noP fun x129 =>
            opN p_ (sFA 212 x129 1) noP fun x130 =>
            opN p_ (sLoad 129 x130) noP fun x131 =>
            opN p_ (sLen #[129] 3 [x131]) noP fun x132 =>
            opN p_ (sBin .lss 3 y15 x132) noP fun x133 =>
            condS x133
            (opN p_ (sIA 209 (.slice ra rs.length rc) y14) noP fun x139 =>
             opN p_ (sFA 212 x139 1) noP fun x140 =>
             opN p_ (sLoad 129 x140) noP fun x141 =>
             opN p_ (sIA 129 x141 y15) noP fun x143 =>
             opN p_ (sLoad 3 x143) noP fun x144 =>
             opN p_ (sIA 129 (.slice (some ⟨go, 0, none⟩) len len) x144) noP fun x145 =>
             opN p_ (sLoad 3 x145) noP fun x146 =>
             opN p_ (sBin .add 3 x146 (.int .i64 1)) noP fun x147 =>
             opN p_ (sIA 129 (.slice (some ⟨go, 0, none⟩) len len) x144) noP fun x148 =>
             opN p_ (sStore 3 x148 x147) noP fun _ =>
             opN p_ (sBin .add 3 y15 (.int .i64 1)) noP fun x135 =>
             next1 I5 m5 x135)
            (opN p_ (sBin .add 3 y14 (.int .i64 1)) noP fun x125 =>
             next1 I4 m4 x125)) (.int .i64 0))
          K) (.int .i64 0)) := by
  obtain ⟨P, hP⟩ : ∃ P : Nat → List Int, P = fun i => ((rs.map er).take i).flatMap fun e => e.2 := ⟨_, rfl⟩
  have hPb : ∀ i, i ≤ 2097152 → (P i).length ≤ 1073741824 * i := by
    intro i hi
    rw [hP]
    clear hi
    induction i with
    | zero => simp
    | succ i ih =>
      by_cases c : i < rs.length
      · simp only [] at ih ⊢
        rw [List.take_succ_eq_append_getElem (by simpa using c), List.flatMap_append, List.length_append]
        have := (hb rs[i] (List.getElem_mem c)).1
        simp only [List.flatMap_singleton, List.getElem_map, er]
        omega
      · simp only [] at ih ⊢
        rw [List.take_of_length_le (by simp; omega)]
        rw [List.take_of_length_le (by simp; omega)] at ih
        omega
  refine e_loop1 (fun m y => (ex fun i : Nat => all [pu (m + i = 2 * k - 2 ∧ y = .int .i64 (i : Int)), Sl 1 3 (some ⟨go, 0, none⟩) len len (Ln len fun s => (cnt (P i) s : Int)), A, Arena ar]) :: F) (2 * k - 2) ?_ ?_
  · refine .ex 0 (.all ?_)
    refine nr_ ?_
    refine .pu ⟨by omega, rfl⟩ ?_
    rw [show P 0 = [] by rw [hP]; rfl]
    exact .pick .here im_
  intro m ds y
  refine e_ex Pick.here fun i => e_all Pick.here ?_
  refine nr_ ?_
  refine e_pu Pick.here fun hi => ?_
  obtain ⟨hmi, rfl⟩ := hi
  refine o_ (v_mul (by omega) (by omega)) ?_
  refine sb_ ?_
  refine e_ask v_lss .nil (fun h => ?_) (fun h => ?_)
  · have hik : i < rs.length := by omega
    obtain ⟨g, o, rfl, _⟩ := hA.at_ (by omega)
    have hmem : rs[i] ∈ rs := List.getElem_mem hik
    have w0 := v_itW hA hik
    have r0 := rd_ar (W := W) (hm _ hmem)
    have b0 := hb _ hmem
    have hP1 : P (i + 1) = P i ++ rs[i].w := by
      rw [hP]; simp only []
      rw [List.take_succ_eq_append_getElem (by simpa using hik), List.flatMap_append]; simp [er]
    obtain ⟨u, hu⟩ : ∃ u, u = rs[i] := ⟨_, rfl⟩
    rw [← hu] at w0 r0 b0 hP1
    refine e_condT (e_loop1 (fun m y => (ex fun j : Nat => all [pu (m + j = u.w.length ∧ y = .int .i64 (j : Int)), Sl 1 3 (some ⟨go, 0, none⟩) len len (Ln len fun s => (cnt (P i ++ u.w.take j) s : Int)), A, Arena ar]) :: F) u.w.length ?_ ?_)
    · refine .ex 0 (.all ?_)
      refine nr_ ?_
      refine .pu ⟨by omega, rfl⟩ ?_
      rw [List.take_zero, List.append_nil]
      exact im_
    intro m2 ds y
    refine e_ex Pick.here fun j => e_all Pick.here ?_
    refine nr_ ?_
    refine e_pu Pick.here fun hj => ?_
    obtain ⟨hmj, rfl⟩ := hj
    refine o_ (v_ia i (by rfl) hik) ?_
    refine o_ v_fa (p_op w0 ?_)
    refine o_ v_len (e_ask v_lss .nil (fun h2 => ?_) (fun h2 => ?_))
    · have hjl : j < u.w.length := by omega
      obtain ⟨s0, s1⟩ := b0.2 u.w[j] (List.getElem_mem hjl)
      obtain ⟨s, hs⟩ := Int.eq_ofNat_of_zero_le s0
      have hsl : s < len := by omega
      have hc1 := cnt_le s (P i ++ u.w.take j)
      have hc2 := hPb i (by omega)
      rw [List.length_append, List.length_take] at hc1
      refine e_condT (o_ (v_ia i (by rfl) hik) ?_)
      refine o_ v_fa (p_op w0 ?_)
      refine o_ (v_ia1 j (by rfl) hjl) ?_
      refine p_op (v_ldRd r0 (I_get hjl)) ?_
      refine o_ (v_ia1 s hs hsl) ?_
      refine e_opN (v_ldSl (v := I (cnt (P i ++ u.w.take j) s)) (by rw [Nat.zero_add]; exact Ln_get hsl)) (.pick .here .nil) ?_
      have hi2 : 1073741824 * i ≤ 1073741824 * 2097152 := Nat.mul_le_mul_left _ (by omega)
      refine ad_ ?_
      refine o_ (v_ia1 s hs hsl) ?_
      refine e_stSl .here (by rw [Ln_len]; omega) ?_
      rw [show (Ln len fun s => (cnt (P i ++ u.w.take j) s : Int)).set (0 + s) (.int .i64 ((cnt (P i ++ u.w.take j) s : Int) + 1)) = Ln len (fun s => (cnt (P i ++ u.w.take (j + 1)) s : Int)) from by
        rw [Nat.zero_add]
        refine Ln_set.trans (Ln_congr fun z hz => ?_)
        rw [List.take_succ_eq_append_getElem hjl, ← List.append_assoc, cnt_append (l := P i ++ u.w.take j)]
        by_cases e : z = s
        · subst e; rw [if_pos rfl]; simp [cnt, hs]
        · have hne : ¬ (u.w[j] = (z : Int)) := by omega
          rw [if_neg e]; simp [cnt, hne]]
      refine ad_ ?_
      refine e_next1 (m2 - 1) (by omega) (.ex (j + 1) (.all ?_))
      refine nr_ ?_
      exact .pu ⟨by omega, rfl⟩ .refl
    · have : j = u.w.length := by omega
      subst this
      refine e_condF (ad_ ?_)
      rw [List.take_length, ← hP1]
      refine e_next1 (m - 1) (by omega) (.ex (i + 1) (.all ?_))
      refine nr_ ?_
      exact .pu ⟨by omega, rfl⟩ .refl
  · have hie : i = 2 * k - 2 := by omega
    subst hie
    refine e_condF (e_imp (.pick .here (.drop (.drop .refl))) ?_)
    rw [hP]
    exact hK
theorem rlengths {W : World} {a : Option Addr} {cap : Nat} {freq : List Int} {A : HP} {lim : Int} (hr : RdB W A a freq.length (freq.map I)) (hfl : freq.length <= 1099511627776) :
    Cn p_ 118 [.slice a freq.length cap, .int .i64 lim] W [A] (fun q : Option Addr × Nat => .tuple #[.slice q.1 (lenV freq lim).length q.2, .int .i64 (lenE freq lim)]) (fun q => [Sl 1 3 q.1 q.2 (lenV freq lim).length ((lenV freq lim).map I), A]) := by
  have bad : lenE freq lim = 1 -> ∀ L : List HP, Ent W (A :: L) (fun w => ∃ q : Option Addr × Nat, (.tuple #[.slice none 0 0, .int .i64 1] : Value) = .tuple #[.slice q.1 (lenV freq lim).length q.2, .int .i64 (lenE freq lim)] /\ sat W ([Sl 1 3 q.1 q.2 (lenV freq lim).length ((lenV freq lim).map I), A] ++ L) w) := by
    intro h L
    have hv : lenV freq lim = [] := by unfold lenV; rw [if_pos (by rw [h]; decide)]
    rw [h, hv]
    refine e_ret (none, 0) rfl ?_
    exact imp_nil .refl
  (refine S.ref03_Lengths_s.cn fun F => ?_; unfold S.ref03_Lengths; simp only [ca_, na_])
  refine o_ v_len (o_ v_gtr ?_)
  by_cases hl : 320 < freq.length
  · rw [dT_ (by omega)]
    exact e_gdF1 (e_gdF1 (o_ v_pickT (e_gdF1 (e_gdF1 (o_ v_pickT (e_condT (e_imp im_ (bad (if_pos (.inl (.inl hl))) F))))))))
  rw [dF_ (by omega)]
  refine e_gdT (e_gdT (o_ v_lss ?_))
  by_cases h1 : lim < 1
  · rw [dT_ (by omega)]
    exact o_ v_pickF (e_gdF1 (e_gdF1 (o_ v_pickT (e_condT (e_imp im_ (bad (if_pos (.inl (.inr (.inl h1)))) F))))))
  rw [dF_ (by omega)]
  refine o_ v_pickF (e_gdT (e_gdT (o_ v_gtr ?_)))
  by_cases h15 : 15 < lim
  · rw [dT_ (by omega)]
    exact o_ v_pickF (e_condT (e_imp im_ (bad (if_pos (.inl (.inr (.inr h15)))) F)))
  rw [dF_ (by omega)]
  obtain ⟨L, rfl⟩ := Int.eq_ofNat_of_zero_le (show 0 <= lim by omega)
  obtain ⟨cs, hcs⟩ : ∃ cs, cs = csF freq := ⟨_, rfl⟩
  have hcl : cs.length = (coinsF 0 freq).length := by rw [hcs, csF, length_isort]
  refine o_ v_pickF (e_condF (e_loop2 (fun m x y => (ex fun i : Nat => pu (m + i = freq.length /\ x = .int .i64 ((coinsF 0 (freq.take i)).length : Nat) /\ y = .int .i64 (i : Int) /\ (coinsF 0 (freq.take i)).length <= i /\ ∀ x ∈ freq.take i, ¬ badF x)) :: A :: F) freq.length ?_ ?_))
  · refine .ex 0 (.pu ⟨rfl, rfl, rfl, Nat.le_refl _, fun x hx => by simp at hx⟩ ?_)
    exact .refl
  intro m ds x y
  refine e_ex .here fun i => e_pu .here fun hi => ?_
  obtain ⟨hmi, rfl, rfl, hcn, hok⟩ := hi
  refine o_ v_len (e_ask v_lss .nil (fun h => ?_) (fun h => ?_))
  · have hil : i < freq.length := by omega
    obtain ⟨ga, oa, rfl, _⟩ := hr.at_ (by omega)
    have lf : RunV p_ W [A] (sLoad 3 (.pointer (some ⟨ga, oa + i, none⟩))) (.int .i64 freq[i]) := v_ldRd hr (I_get hil)
    have hbad : badF freq[i] -> lenE freq L = 1 := fun h => if_pos (.inr (.inl ⟨_, List.getElem_mem hil, h⟩))
    have hok2 : ¬ badF freq[i] -> ∀ x ∈ freq.take (i + 1), ¬ badF x := fun h x hx => by
      rw [List.take_succ_eq_append_getElem hil] at hx
      rcases List.mem_append.1 hx with c | c
      · exact hok x c
      · rw [List.mem_singleton.1 c]; exact h
    have hsn : (coinsF 0 (freq.take (i + 1))).length = (coinsF 0 (freq.take i)).length + if 0 < freq[i] then 1 else 0 := by
      rw [List.take_succ_eq_append_getElem hil, coinsF_snoc, List.length_append]
      split <;> simp
    refine e_condT (o_ (v_ia1 i rfl hil) ?_)
    refine p_op lf ?_
    refine o_ v_lss ?_
    by_cases hn1 : freq[i] < 0
    · rw [dT_ hn1]
      exact e_gdF1 (e_gdF1 (e_gdF1 (e_gdF1 (e_gdF1 (o_ v_pickT (e_condT (e_imp im_ (bad (hbad (.inl hn1)) F))))))))
    rw [dF_ hn1]
    refine e_gdT (e_gdT (e_gdT (o_ (v_ia1 i rfl hil) ?_)))
    refine e_gdT (p_op lf ?_)
    refine e_gdT (o_ v_gtr (o_ v_pickF ?_))
    by_cases hn2 : 1099511627776 < freq[i]
    · rw [dT_ hn2]
      exact e_condT (e_imp im_ (bad (hbad (.inr hn2)) F))
    rw [dF_ hn2]
    have hfi := hok2 (by unfold badF; omega)
    refine e_condF (o_ (v_ia1 i rfl hil) ?_)
    refine p_op lf ?_
    refine e_ask v_gtr .nil (fun h3 => ?_) (fun h3 => ?_)
    · rw [if_pos h3] at hsn
      refine e_condT (ad_ ?_)
      refine ad_ ?_
      refine e_next2 (m - 1) (by omega) (.ex (i + 1) (.pu ⟨by omega, by rw [hsn]; rfl, rfl, by omega, hfi⟩ ?_))
      exact .refl
    · rw [if_neg h3, Nat.add_zero] at hsn
      refine e_condF (ad_ ?_)
      refine e_next2 (m - 1) (by omega) (.ex (i + 1) (.pu ⟨by omega, by rw [hsn]; rfl, rfl, by omega, hfi⟩ ?_))
      exact .refl
  have hie : i = freq.length := by omega
  subst hie
  rw [List.take_length] at hok hcn ⊢
  rw [<- hcl] at hcn ⊢
  refine e_condF (o_ v_conv ?_)
  rw [wrapu64' (by omega) (by omega)]
  refine o_ (v_shl (by omega)) ?_
  rw [shl64 (by omega) (by omega) (by omega)]
  refine o_ v_gtr ?_
  by_cases hkL : 2 ^ L < cs.length
  · rw [dT_ (by
      obtain ⟨Z, hZ⟩ : ∃ Z : Nat, Z = 2 ^ L := ⟨_, rfl⟩
      rw [<- hZ] at hkL ⊢
      omega)]
    exact e_condT (e_imp im_ (bad (if_pos (.inr (.inr (by rw [Int.toNat_natCast, <- hcs]; exact hkL)))) F))
  rw [dF_ (by
    obtain ⟨Z, hZ⟩ : ∃ Z : Nat, Z = 2 ^ L := ⟨_, rfl⟩
    rw [<- hZ] at hkL ⊢
    omega)]
  have hE : lenE freq L = 0 := by
    unfold lenE
    rw [if_neg]
    rintro ((c | c | c) | ⟨x, hx, c⟩ | c)
    · omega
    · omega
    · omega
    · exact hok x hx c
    · rw [Int.toNat_natCast, <- hcs] at c; exact hkL c
  have hV : lenV freq L = if cs.length = 1 then (List.range freq.length).map fun s => (cnt (cs.map PM.one) s : Int) else (List.range freq.length).map (hist cs L) := by
    unfold lenV
    rw [if_neg (fun c => c hE), <- hcs, Int.toNat_natCast]
  have hVl : (lenV freq L).length = freq.length := by rw [hV]; split <;> simp
  rw [hE, hVl]
  have hrb := rows_b (n := (freq.length : Int)) (cs := cs) (by rw [hcs]; exact cs_rowB hok)
  have hp15 : ∀ j, j <= 15 -> 2 ^ j <= 32768 := fun j hj => pow15 hj
  have hrows : ∀ j, j < L -> (rows cs j).length <= 2 * cs.length /\ ∀ e ∈ rows cs j, 0 <= e.1 /\ e.1 <= 1152921504606846976 /\ 0 < e.2.length /\ e.2.length <= 1073741824 := fun j hj => by
    refine ⟨PM.rows_most cs j, fun e he => ?_⟩
    obtain ⟨e1, e2, e3, e4, _⟩ := hrb j e he
    have hp := hp15 j (by omega)
    have hp' : ((2 ^ j : Nat) : Int) <= ((32768 : Nat) : Int) := Int.ofNat_le.2 hp
    omega
  refine e_condF (o_ v_len (e_mksl freq.length freq.length (by rfl) (by rfl) (by omega) (by omega) (by unfold maxLen; omega) fun go => ?_))
  rw [Ln_zero]
  refine e_call (coins hr hok (by omega)) (.cons (.there .here) .nil) fun q => ?_
  obtain ⟨⟨qa, qc⟩, ⟨xs, hxe, hx320⟩⟩ := q
  refine nr_ ?_
  (try dsimp only)
  have hxl : xs.length = cs.length := by rw [hcs, <- hxe, List.length_map]
  rw [<- hcs] at hxe
  refine e_slfacts .here fun f1 f2 f3 f4 => ?_
  have rdc : RdL W (Sl 2 212 qa qc xs.length (xs.flatMap ic)) qa xs := rd_slG f1 f4
  refine o_ v_eql ?_
  by_cases hk1 : cs.length = 1
  · obtain ⟨e, he⟩ := List.length_eq_one_iff.1 hk1
    obtain ⟨x, hx⟩ : ∃ x, xs = [x] := List.length_eq_one_iff.1 (by omega)
    subst hx
    have hxe1 : er x = e := by rw [he] at hxe; simpa using hxe
    obtain ⟨e1, e2, e3, e4, e5⟩ := hrb 0 e (by rw [rows, he]; simp)
    have hone : x.w = [PM.one e] := by
      have hm := (PM.coins_mem (mem_isort _ _ _ (show e ∈ csF freq by rw [<- hcs, he]; simp))).2.1
      rw [<- hm, <- hxe1]; rfl
    have hin := e5 (PM.one e) (by rw [<- hxe1]; show PM.one (er x) ∈ x.w; rw [hxe1, hone]; simp)
    rw [dT_ (by omega)]
    refine e_condT ?_
    obtain ⟨gq, rfl⟩ := f4 (by simp)
    have w0 := v_itW rdc (j := 0) (by simp)
    have r0 := rd_ar (W := W) (xs := [x]) (x := x) (by simp)
    rw [hone] at r0
    obtain ⟨S, hS⟩ : ∃ S : Nat, (S : Int) = PM.one e := ⟨(PM.one e).toNat, by omega⟩
    refine o_ (v_ia 0 (by rfl) (by simp)) ?_
    refine o_ v_fa (p_op w0 ?_)
    rw [show ([x] : List It)[0] = x from rfl, hone]
    refine o_ (v_ia1 0 (by rfl) (by simp)) ?_
    refine p_op (v_ldRd (j := 0) r0 (v := I (PM.one e)) rfl) ?_
    refine o_ (v_ia1 S (by exact hS.symm) (by omega)) ?_
    rw [Nat.zero_add]
    refine e_stSl (g := go) (cs := Ln freq.length fun _ => 0) (v := I 1) (j := S) (by repeat constructor) (by rw [Ln_len]; omega) ?_
    rw [show (Ln freq.length fun _ => 0).set S (I 1) = Ln freq.length fun i => if i = S then 1 else 0 from Ln_set]
    refine e_ret (some ⟨go, 0, none⟩, freq.length) rfl ?_
    have hLn : (Ln freq.length fun i => if i = S then 1 else 0) = (lenV freq L).map I := by
      rw [hV, if_pos hk1]
      refine Ln_ext (by simp) fun j hj => ?_
      rw [List.map_map, List.getElem?_map, List.getElem?_range hj]
      simp only [Option.map_some, Function.comp]
      congr 2
      rw [he]
      simp only [List.map_cons, List.map_nil, cnt, <- hS]
      by_cases c : j = S
      · subst c; simp
      · rw [if_neg c, if_neg (fun d => c (by omega))]; simp
    rw [hLn]
    exact im_
  rw [dF_ (by omega)]
  rw [if_neg hk1] at hV
  have hfinal : (lenV freq L).map I = Ln freq.length (hist cs L) := by rw [hV, List.map_map]; rfl
  rw [hfinal]
  refine e_condF (e_loop2 (fun m x y => (ex fun st : ((Option Addr × Nat) × Nat) × (List It × List It) => all [pu (m + st.1.2 = L - 1 /\ y = .int .i64 (st.1.2 + 1 : Nat) /\ x = .slice st.1.1.1 st.2.1.length st.1.1.2 /\ st.2.1.map er = rows cs st.1.2 /\ (∀ y ∈ st.2.1, y ∈ st.2.2) /\ (∀ y ∈ xs, y ∈ st.2.2) /\ (st.1.2 = 0 -> st.1.1 = (qa, qc) /\ st.2.1 = xs)), (if st.1.2 = 0 then pu True else Sl 2 212 st.1.1.1 st.1.1.2 st.2.1.length (st.2.1.flatMap ic)), Arena st.2.2]) :: Sl 2 212 qa qc xs.length (xs.flatMap ic) :: Sl 1 3 (some ⟨go, 0, none⟩) freq.length freq.length (Ln freq.length fun _ => 0) :: A :: F) (L - 1) ?_ ?_)
  · refine .ex (((qa, qc), 0), (xs, xs)) (.all ?_)
    refine nr_ ?_
    refine .pu ⟨by (try dsimp only); omega, rfl, rfl, hxe, fun y hy => hy, fun y hy => hy, fun _ => ⟨rfl, rfl⟩⟩ ?_
    rw [if_pos rfl]
    refine .pu trivial ?_
    exact .pick (by repeat constructor) (.pick (by repeat constructor) (.pick (by repeat constructor) (.pick (by repeat constructor) .refl)))
  intro m2 ds2 x y
  refine e_ex .here fun st => e_all .here ?_
  obtain ⟨⟨⟨ra, rc⟩, j⟩, ⟨rs, ar⟩⟩ := st
  refine nr_ ?_
  refine e_pu .here fun hj => ?_
  (try dsimp only at hj)
  (try dsimp only)
  obtain ⟨hmj, rfl, rfl, hrs, hra, hca, hj0⟩ := hj
  have hrl : rs.length = (rows cs j).length := by rw [<- hrs, List.length_map]
  have hmem : ∀ y ∈ rs, er y ∈ rows cs j := fun y hy => by rw [<- hrs]; exact List.mem_map.2 ⟨y, hy, rfl⟩
  have hbj := hrows j (by omega)
  have hb1 : ∀ y ∈ rs, 0 <= y.n /\ y.n <= 1152921504606846976 /\ 0 < y.w.length /\ y.w.length <= 1073741824 := fun y hy => hbj.2 (er y) (hmem y hy)
  refine e_ask v_lss .nil (fun h => ?_) (fun h => ?_)
  · have hjL : j < L - 1 := by omega
    refine e_condT ?_
    have step : ∀ (q : Option Addr × Nat) (ps ar' : List It), ps.map er = pairs (rs.map er) -> (∀ y ∈ ps, y ∈ ar') -> (∀ y ∈ ar, y ∈ ar') -> Ent W (Sl 2 212 q.1 q.2 ps.length (ps.flatMap ic) :: Arena ar' :: Sl 2 212 qa qc xs.length (xs.flatMap ic) :: Sl 1 3 (some ⟨go, 0, none⟩) freq.length freq.length (Ln freq.length fun _ => 0) :: A :: F) (opN p_ (sCall (fn 149) [.slice qa xs.length qc, .slice q.1 ps.length q.2]) noP fun x118 =>
           opN p_ (sBin .add 3 (.int .i64 ((j + 1 : Nat) : Int)) (.int .i64 1)) noP fun x78 =>
           next2 (fun m x y w => sat W ((ex fun st : ((Option Addr × Nat) × Nat) × (List It × List It) => all [pu (m + st.1.2 = L - 1 /\ y = .int .i64 (st.1.2 + 1 : Nat) /\ x = .slice st.1.1.1 st.2.1.length st.1.1.2 /\ st.2.1.map er = rows cs st.1.2 /\ (∀ y ∈ st.2.1, y ∈ st.2.2) /\ (∀ y ∈ xs, y ∈ st.2.2) /\ (st.1.2 = 0 -> st.1.1 = (qa, qc) /\ st.2.1 = xs)), (if st.1.2 = 0 then pu True else Sl 2 212 st.1.1.1 st.1.1.2 st.2.1.length (st.2.1.flatMap ic)), Arena st.2.2]) :: Sl 2 212 qa qc xs.length (xs.flatMap ic) :: Sl 1 3 (some ⟨go, 0, none⟩) freq.length freq.length (Ln freq.length fun _ => 0) :: A :: F) w) m2 x118 x78) := by
      intro q ps ar' hps hpa haa
      obtain ⟨pa, pc⟩ := q
      (try dsimp only)
      have hpl : ps.length <= rs.length := by
        have e1 : ps.length = (pairs (rs.map er)).length := by rw [<- hps, List.length_map]
        have e2 : ∀ n, ∀ l : List E, l.length <= n -> (pairs l).length <= l.length := by
          intro n
          induction n with
          | zero =>
            intro l hl
            have hl0 : l = [] := List.eq_nil_of_length_eq_zero (by omega)
            subst hl0
            simp [pairs]
          | succ n ih =>
            intro l hl
            match l, hl with
            | [], _ => simp [pairs]
            | [x], _ => simp [pairs]
            | x :: y :: r, hl => have := ih r (by simp at hl; omega); simp [pairs]; omega
        have := e2 _ (rs.map er) (Nat.le_refl _)
        rw [List.length_map] at this
        omega
      refine e_slfacts .here fun g1 g2 g3 g4 => ?_
      have rdp : RdL W (Sl 2 212 pa pc ps.length (ps.flatMap ic)) pa ps := rd_slG g1 g4
      refine e_call (rmerged rdc rdp f2 g2 (by omega) (by omega)) (.cons (.there (.there .here)) (.cons .here .nil)) fun q3 => ?_
      obtain ⟨ma, mc⟩ := q3
      refine nr_ ?_
      (try dsimp only)
      refine ad_ ?_
      have e1 : xs.length + ps.length = (mrg It.n xs ps).length := by rw [mrg_len]
      rw [e1]
      refine e_next2 (m2 - 1) (by omega) (.ex (((ma, mc), j + 1), (mrg It.n xs ps, ar')) (.all ?_))
      refine nr_ ?_
      (try dsimp only)
      refine .pu ⟨by omega, rfl, rfl, ?_, fun y hy => ?_, fun y hy => haa y (hca y hy), fun c => by omega⟩ ?_
      · rw [mrg_map It.n Prod.fst er (fun _ => rfl), hxe, hps, hrs]; rfl
      · rcases mrg_mem It.n xs ps hy with c | c
        · exact haa y (hca y c)
        · exact hpa y c
      · rw [if_neg (by omega)]
        exact im_
    by_cases c0 : j = 0
    · rw [if_pos c0]
      obtain ⟨e1, e2⟩ := hj0 c0
      injection e1 with e1 e3
      subst e1; subst e3; subst e2
      refine e_imp (M := Sl 2 212 ra rc rs.length (rs.flatMap ic) :: Arena ar :: Sl 1 3 (some ⟨go, 0, none⟩) freq.length freq.length (Ln freq.length fun _ => 0) :: A :: F) im_ ?_
      refine rpairsLoop rdc hra (by omega) hb1 fun q ps ar' k1 k2 k3 => ?_
      exact e_imp im_ (step q ps ar' k1 k2 k3)
    · rw [if_neg c0]
      refine e_slfacts .here fun g1 g2 g3 g4 => ?_
      have rdr : RdL W (Sl 2 212 ra rc rs.length (rs.flatMap ic)) ra rs := rd_slG g1 g4
      refine rpairsLoop rdr hra (by omega) hb1 fun q ps ar' k1 k2 k3 => ?_
      exact e_imp im_ (step q ps ar' k1 k2 k3)
  · have hjL : j = L - 1 := by omega
    subst hjL
    refine e_condF ?_
    by_cases hk0 : cs.length = 0
    · have hh : (Ln freq.length fun _ => 0) = Ln freq.length (hist cs L) := by
        refine Ln_congr fun s _ => ?_
        unfold hist
        rw [hk0]; rfl
      rw [hh]
      refine e_loop1 (fun m y => pu (y = .int .i64 0) :: Sl 1 3 (some ⟨go, 0, none⟩) freq.length freq.length (Ln freq.length (hist cs L)) :: A :: F) 0 ?_ ?_
      · refine .pu rfl ?_
        exact im_
      intro m ds y
      refine e_pu Pick.here fun hy => ?_
      subst hy
      refine o_ (v_mul (by omega) (by omega)) ?_
      refine sb_ ?_
      refine o_ v_lss ?_
      rw [dF_ (by omega)]
      refine e_condF (e_ret (some ⟨go, 0, none⟩, freq.length) rfl ?_)
      exact im_
    have hlast : 2 * cs.length - 2 <= (rows cs (L - 1)).length /\ ∀ e ∈ rows cs (L - 1), ∀ s ∈ e.2, 0 <= s /\ s < (freq.length : Int) := by
      refine ⟨PM.rows_enough (by omega) (by rw [show L - 1 + 1 = L by omega]; omega), fun e he s hs => (hrb (L - 1) e he).2.2.2.2 s hs⟩
    have hb2 : ∀ y ∈ rs, y.w.length <= 1073741824 /\ ∀ s ∈ y.w, 0 <= s /\ s < (freq.length : Int) := fun y hy => ⟨(hb1 y hy).2.2.2, hlast.2 (er y) (hmem y hy)⟩
    have fin : Ent W (Sl 1 3 (some ⟨go, 0, none⟩) freq.length freq.length (Ln freq.length fun s => (cnt (((rs.map er).take (2 * cs.length - 2)).flatMap fun e => e.2) s : Int)) :: A :: F) (fun w => ∃ x : Option Addr × Nat, (.tuple #[.slice (some ⟨go, 0, none⟩) freq.length freq.length, .int .i64 0] : Value) = .tuple #[.slice x.1 freq.length x.2, .int .i64 0] /\ sat W ([Sl 1 3 x.1 x.2 freq.length (Ln freq.length (hist cs L)), A] ++ F) w) := by
      refine e_ret (some ⟨go, 0, none⟩, freq.length) rfl ?_
      rw [hrs]
      exact .refl
    by_cases c0 : L - 1 = 0
    · rw [if_pos c0]
      obtain ⟨e1, e2⟩ := hj0 c0
      injection e1 with e1 e3
      subst e1; subst e3; subst e2
      refine e_imp (M := Sl 1 3 (some ⟨go, 0, none⟩) freq.length freq.length (Ln freq.length fun _ => 0) :: Sl 2 212 ra rc rs.length (rs.flatMap ic) :: Arena ar :: A :: F) im_ ?_
      refine rhistLoop rdc hra (by omega) ⟨by omega, by omega⟩ (by omega) hb2 ?_
      exact fin
    · rw [if_neg c0]
      refine e_slfacts .here fun g1 g2 g3 g4 => ?_
      have rdr : RdL W (Sl 2 212 ra rc rs.length (rs.flatMap ic)) ra rs := rd_slG g1 g4
      refine e_imp (M := Sl 1 3 (some ⟨go, 0, none⟩) freq.length freq.length (Ln freq.length fun _ => 0) :: Sl 2 212 ra rc rs.length (rs.flatMap ic) :: Arena ar :: A :: F) im_ ?_
      refine rhistLoop rdr hra (by omega) ⟨by omega, by omega⟩ (by omega) hb2 ?_
      exact fin
end Go.Proofs.YthoeeahdkdcceaaGreat.HF
namespace Go.Proofs.YthoeeahdkdcceaaGreat.IF
open Go Go.Proofs Go.RowKit Sh Sl T HM HF B M
theorem cntA_snoc (ps : List Pz) (p : Pz) (s : Nat) : cntA (ps ++ [p]) s = cntA ps s + if symA p = (s : Int) then 1 else 0 := by
 unfold cntA
 rw [List.countP_append]
 by_cases c : symA p = (s : Int)
 ·rw [if_pos c, List.countP_cons_of_pos (by simpa using c)]; rfl
 ·rw [if_neg c, List.countP_cons_of_neg (by simpa using c)]; rfl
theorem cntB_snoc (ps : List Pz) (p : Pz) (s : Nat) : cntB (ps ++ [p]) s = cntB ps s + if p.len ≠ 0 /\ (disS p.dist).1 = (s : Int) then 1 else 0 := by
 unfold cntB
 rw [List.countP_append]
 by_cases c : p.len ≠ 0 /\ (disS p.dist).1 = (s : Int)
 ·rw [if_pos c, List.countP_cons_of_pos (by simpa using c)]; rfl
 ·rw [if_neg c, List.countP_cons_of_neg (by simpa using c)]; rfl
theorem cntA_le (ps : List Pz) (s : Nat) : cntA ps s <= ps.length := List.countP_le_length
theorem cntB_le (ps : List Pz) (s : Nat) : cntB ps s <= ps.length := List.countP_le_length
def LA (ps : List Pz) : List Value := Ln 286 fun s => (cntA ps s : Int) + if s = 256 then 1 else 0
def LB (ps : List Pz) : List Value := Ln 30 fun s => (cntB ps s : Int)
theorem LA_frq (ps : List Pz) : LA ps = (frqA ps).map I := by unfold LA Ln frqA; rw [List.map_map]; rfl
theorem LB_frq (ps : List Pz) : LB ps = (frqB ps).map I := by unfold LB Ln frqB; rw [List.map_map]; rfl
theorem LA_get {ps : List Pz} {n : Nat} (h : n < 286) : (LA ps)[0 + n]? = some (.int .i64 ((cntA ps n : Int) + if n = 256 then 1 else 0)) := by rw [Nat.zero_add]; exact Ln_get h
theorem LB_get {ps : List Pz} {n : Nat} (h : n < 30) : (LB ps)[0 + n]? = some (.int .i64 (cntB ps n : Int)) := by rw [Nat.zero_add]; exact Ln_get h
theorem LA_set {ps : List Pz} {p : Pz} {n : Nat} (hn : symA p = (n : Int)) : (LA ps).set (0 + n) (.int .i64 (((cntA ps n : Int) + if n = 256 then 1 else 0) + 1)) = LA (ps ++ [p]) := by
 rw [Nat.zero_add]
 refine (Ln_set (v := ((cntA ps n : Int) + if n = 256 then 1 else 0) + 1)).trans (Ln_congr fun j hj => ?_)
 rw [cntA_snoc, hn]
 by_cases c : j = n
 ·subst c; rw [if_pos rfl, if_pos rfl]; push_cast; omega
 ·rw [if_neg (show ¬ ((n : Int) = (j : Int)) by omega), if_neg c, Nat.add_zero]
theorem LB_set {ps : List Pz} {p : Pz} {n : Nat} (h0 : p.len ≠ 0) (hn : (disS p.dist).1 = (n : Int)) : (LB ps).set (0 + n) (.int .i64 ((cntB ps n : Int) + 1)) = LB (ps ++ [p]) := by
 rw [Nat.zero_add]
 refine (Ln_set (v := (cntB ps n : Int) + 1)).trans (Ln_congr fun j hj => ?_)
 rw [cntB_snoc, hn]
 by_cases c : j = n
 ·subst c; rw [if_pos rfl, if_pos ⟨h0, rfl⟩]; rfl
 ·rw [if_neg c, if_neg (fun h => c (by have := h.2; omega)), Nat.add_zero]
theorem LB_skip {ps : List Pz} {p : Pz} (h0 : p.len = 0) : LB ps = LB (ps ++ [p]) := Ln_congr fun j hj => by rw [cntB_snoc, if_neg (fun h => h.1 h0), Nat.add_zero]
theorem rown {W : World} {AL : HP} {pa ba : Option Addr} {pc bn bc : Nat} {ps : List Pz} (hA : RdB W AL pa (ps.length * 3) (ps.flatMap pPz)) (hl : ps.length <= 1048576) (hg : ∀ p ∈ ps, goodP p) :
  Cn p_ 95 [.agg #[.slice pa ps.length pc, .slice ba bn bc]] W [AL] (fun q : (Option Addr × Nat) × (Option Addr × Nat) => .tuple #[.slice q.1.1 (ownA ps).length q.1.2, .slice q.2.1 (ownB ps).length q.2.2]) (fun q => [Sl 1 3 q.1.1 q.1.2 (ownA ps).length ((ownA ps).map I), Sl 1 3 q.2.1 q.2.2 (ownB ps).length ((ownB ps).map I), AL]) := by
 (refine S.ref06_own_s.cn fun F => ?_; unfold S.ref06_own; simp only [ca_, na_])
 refine e_boxA fun b1 => ?_
 refine e_mksl 286 286 (by rfl) (by rfl) (by omega) (by omega) (by unfold maxLen; omega) fun ga => ?_
 refine e_mksl 30 30 (by rfl) (by rfl) (by omega) (by omega) (by unfold maxLen; omega) fun gb => ?_
 refine o_ (v_ia1 256 (by rfl) (by omega)) ?_
 refine e_stSl (by repeat constructor) (by rw [List.length_replicate]; omega) ?_
 have z1 : (List.replicate 286 (Value.int .i64 0)).set (0 + 256) (.int .i64 1) = LA [] := by
  rw [Nat.zero_add, Ln_zero]
  refine (Ln_set (v := 1)).trans (Ln_congr fun j hj => ?_)
  by_cases c : j = 256
  ·rw [if_pos c]; rfl
  ·rw [if_neg c]; rfl
 have z2 : List.replicate 30 (Value.int .i64 0) = LB [] := Ln_zero 30
 rw [z1, z2]
 refine e_loop1 (fun m y => (ex fun i : Nat => all [pu (m + i = ps.length /\ y = .int .i64 (i : Int)), Sl 1 3 (some ⟨ga, 0, none⟩) 286 286 (LA (ps.take i)), Sl 1 3 (some ⟨gb, 0, none⟩) 30 30 (LB (ps.take i))]) :: pt b1 (.cells #[.slice pa ps.length pc, .slice ba bn bc] 92) :: AL :: F) ps.length ?_ ?_
 ·refine .ex 0 (.all ?_)
  refine nr_ ?_
  refine .pu ⟨by omega, rfl⟩ ?_
  rw [List.take_zero]
  exact im_
 intro m ds y
 refine e_ex .here fun i => e_all .here ?_
 refine nr_ ?_
 refine e_pu .here fun hk => ?_
 obtain ⟨hmi, rfl⟩ := hk
 refine o_ v_fa0 (ln_ ?_); refine o_ v_len (o_ v_lss ?_)
 by_cases hlt : (i : Int) < (ps.length : Int)
 ·rw [dT_ hlt]
  have hi : i < ps.length := by omega
  have hgp := hg _ (List.getElem_mem hi)
  have htk : ps.take (i + 1) = ps.take i ++ [ps[i]] := List.take_succ_eq_append_getElem hi
  have hcl : (ps.take i).length <= 1048576 := by rw [List.length_take]; omega
  obtain ⟨g, o, rfl, _⟩ := hA.at_ (by omega)
  have l0 : RunV p_ W [AL] (sLoad 3 (.pointer (some ⟨g, o + i * 3 + 0, none⟩))) (I ps[i].len) := v_ldRd2 hA (pz_get hi 0 (by omega))
  have l1 : RunV p_ W [AL] (sLoad 3 (.pointer (some ⟨g, o + i * 3 + 1, none⟩))) (I ps[i].dist) := v_ldRd2 hA (pz_get hi 1 (by omega))
  have l2 : RunV p_ W [AL] (sLoad 5 (.pointer (some ⟨g, o + i * 3 + 2, none⟩))) (Sl.B ps[i].c) := v_ldRd2 hA (pz_get hi 2 (by omega))
  obtain ⟨p, hp⟩ : ∃ p, p = ps[i] := ⟨_, rfl⟩
  rw [<- hp] at hgp htk l0 l1 l2
  refine e_condT (o_ v_fa0 (ln_ ?_))
  refine o_ (v_ia i rfl hi) ?_
  refine o_ v_fa (p_op l0 ?_)
  unfold I
  refine o_ v_eql ?_
  by_cases h0 : p.len = 0
  ·rw [dT_ h0]
   have hs : symA p = (p.c.toNat : Int) := by unfold symA; rw [if_pos h0]
   have hc := p.c.toNat_lt
   have hcl2 := cntA_le (ps.take i) p.c.toNat
   refine e_condT (o_ v_fa0 (ln_ ?_))
   refine o_ (v_ia i rfl hi) ?_
   refine o_ v_fa (p_op l2 ?_)
   rw [show Sl.B p.c = .int .u8 (p.c.toNat : Int) from rfl]
   refine o_ (v_ia1 p.c.toNat rfl (by omega)) ?_
   refine p_op (v_ldSl (LA_get (by omega))) ?_
   refine o_ (v_add (by split <;> omega) (by split <;> omega)) ?_
   refine o_ (v_ia1 p.c.toNat rfl (by omega)) ?_
   refine e_stSl (by repeat constructor) (by unfold LA; rw [Ln_len]; omega) ?_
   rw [LA_set hs, LB_skip h0, <- htk]
   refine ad_ ?_
   refine e_next1 (m - 1) (by omega) (.ex (i + 1) (.all ?_))
   refine nr_ ?_
   refine .pu ⟨by omega, by rfl⟩ ?_
   exact im_
  ·rw [dF_ h0]
   obtain ⟨c1, c2, c3, c4⟩ : 3 <= p.len /\ p.len <= 258 /\ 1 <= p.dist /\ p.dist <= 32768 := by
    rcases hgp with h | h
    ·exact absurd h.1 h0
    ·exact h
   obtain ⟨s, x, k, hs, h1, h2, _⟩ := lenS_ok c1 c2
   obtain ⟨t, y, j, ht, g1, _⟩ := disS_ok c3 c4
   have hsA : symA p = (s : Int) := by unfold symA; rw [if_neg h0, hs]
   have hsB : (disS p.dist).1 = (t : Int) := by rw [ht]
   have hcl2 := cntA_le (ps.take i) s
   have hcl3 := cntB_le (ps.take i) t
   refine e_condF (o_ v_fa0 (ln_ ?_))
   refine o_ (v_ia i rfl hi) ?_
   refine o_ v_fa (p_op l0 ?_)
   unfold I
   refine c_ (rLength c1 c2) fun _ => ?_
   rw [hs]
   refine xt_ ?_; refine xt_ ?_; refine xt_ ?_; refine o_ v_fa0 (ln_ ?_)
   refine o_ (v_ia i rfl hi) ?_
   refine o_ v_fa (p_op l1 ?_)
   unfold I
   refine c_ (rDistance c3 c4) fun _ => ?_
   rw [ht]
   refine xt_ ?_; refine xt_ ?_; refine xt_ ?_
   refine o_ (v_ia1 s rfl (by omega)) ?_
   refine p_op (v_ldSl (LA_get (by omega))) ?_
   refine o_ (v_add (by split <;> omega) (by split <;> omega)) ?_
   refine o_ (v_ia1 s rfl (by omega)) ?_
   refine e_stSl (by repeat constructor) (by unfold LA; rw [Ln_len]; omega) ?_
   rw [LA_set hsA]
   refine o_ (v_ia1 t rfl (by omega)) ?_
   refine p_op (v_ldSl (LB_get (by omega))) ?_
   refine ad_ ?_
   refine o_ (v_ia1 t rfl (by omega)) ?_
   refine e_stSl (by repeat constructor) (by unfold LB; rw [Ln_len]; omega) ?_
   rw [LB_set h0 hsB, <- htk]
   refine ad_ ?_
   refine e_next1 (m - 1) (by omega) (.ex (i + 1) (.all ?_))
   refine nr_ ?_
   refine .pu ⟨by omega, by rfl⟩ ?_
   exact im_
 ·rw [dF_ hlt]
  have hie : i = ps.length := by omega
  rw [hie, List.take_length, LA_frq, LB_frq]
  have fa := frqA_len ps
  have fb := frqB_len ps
  have r1 : RdB W (Sl 1 3 (some ⟨ga, 0, none⟩) 286 286 ((frqA ps).map I)) (some ⟨ga, 0, none⟩) (frqA ps).length ((frqA ps).map I) := by rw [fa]; exact rd_sl (by rw [List.length_map, fa]) (fun _ => ⟨ga, rfl⟩)
  have r2 : RdB W (Sl 1 3 (some ⟨gb, 0, none⟩) 30 30 ((frqB ps).map I)) (some ⟨gb, 0, none⟩) (frqB ps).length ((frqB ps).map I) := by rw [fb]; exact rd_sl (by rw [List.length_map, fb]) (fun _ => ⟨gb, rfl⟩)
  have hla := rlengths (W := W) (cap := 286) (lim := 15) r1 (by omega)
  have hlb := rlengths (W := W) (cap := 30) (lim := 15) r2 (by omega)
  rw [fa, show lenV (frqA ps) 15 = ownA ps from rfl] at hla
  rw [fb, show lenV (frqB ps) 15 = ownB ps from rfl] at hlb
  obtain ⟨VA, hVA⟩ : ∃ V, V = ownA ps := ⟨_, rfl⟩
  obtain ⟨VB, hVB⟩ : ∃ V, V = ownB ps := ⟨_, rfl⟩
  rw [<- hVA] at hla ⊢
  rw [<- hVB] at hlb ⊢
  refine e_condF (c_ hla fun _ => ?_)
  rename_i qa
  obtain ⟨a1, c1⟩ := qa
  (try dsimp only)
  refine xt_ ?_; refine xt_ ?_
  refine c_ hlb fun _ => ?_
  rename_i qb
  obtain ⟨a2, c2⟩ := qb
  (try dsimp only)
  refine xt_ ?_; refine xt_ ?_
  refine rt_ (((a1, c1), (a2, c2))) ?_
  exact im_
def upG (l : List Int) (least : Nat) : Nat -> Nat
 | 0 => least
 | n + 1 => if l[n]? = some 0 then upG l least n else max (upG l least n) (n + 1)
theorem upG_F (l : List Int) (least : Nat) : ∀ n, n <= l.length -> least <= n -> upG l least n = upF l least n
 | 0, h, h2 => by rw [upG, upF]; omega
 | n + 1, h, h2 => by
  rw [upG, upF]
  have hle : ∀ k, k <= n -> upG l least k <= max least k := by
   intro k hk
   induction k with
   | zero => rw [upG]; omega
   | succ k ih =>
    have := ih (by omega)
    rw [upG]
    split <;> omega
  by_cases c : l[n]? = some 0
  ·rw [if_pos c]
   by_cases d : least < n + 1
   ·rw [if_pos ⟨d, c⟩]
    exact upG_F l least n (by omega) (by omega)
   ·rw [if_neg (fun x => d x.1)]
    have hz : ∀ k, k <= n -> upG l least k = least := by
     intro k hk
     induction k with
     | zero => rw [upG]
     | succ k ih =>
      have := hle (k + 1) hk
      have := ih (by omega)
      rw [upG]
      split <;> omega
    rw [hz n (Nat.le_refl _)]; omega
  ·rw [if_neg c, if_neg (fun x => c x.2)]
   have := hle n (Nat.le_refl _)
   omega
theorem rupto {W : World} {a : Option Addr} {cap least : Nat} {l : List Int} {A : HP} (hr : RdB W A a l.length (l.map I)) (hl : l.length <= 1099511627776) (hm : least <= l.length) :
  Cn p_ 119 [.slice a l.length cap, .int .i64 (least : Int)] W [A] (fun _ : Unit => .int .i64 (upto l least : Int)) (fun _ => [A]) := by
 (refine S.ref06_upto_s.cn fun F => ?_; unfold S.ref06_upto; simp only [ca_, na_])
 refine e_loop2 (fun m y z => pu (∃ i : Nat, m + i = l.length /\ y = .int .i64 (upG l least i : Int) /\ z = .int .i64 (i : Int)) :: A :: F) l.length ?_ ?_
 ·exact .pu ⟨0, by omega, rfl, rfl⟩ .refl
 intro m ds y z
 refine e_pu .here fun hk => ?_
 obtain ⟨i, hmi, rfl, rfl⟩ := hk
 refine o_ v_len (o_ v_lss ?_)
 by_cases hlt : (i : Int) < (l.length : Int)
 ·rw [dT_ hlt]
  have hi : i < l.length := by omega
  obtain ⟨g, o, rfl, _⟩ := hr.at_ (by omega)
  have hu : upG l least (i + 1) = if l[i]? = some 0 then upG l least i else max (upG l least i) (i + 1) := rfl
  rw [List.getElem?_eq_getElem hi] at hu
  refine e_condT (o_ (v_ia1 i rfl hi) ?_)
  refine p_op (v_ldRd hr (v := .int .i64 l[i]) (I_get hi)) ?_
  refine o_ v_neq ?_
  by_cases h0 : l[i] = 0
  ·rw [dF_ (fun h => h h0)]
   rw [if_pos (by rw [h0])] at hu
   refine e_condF (ad_ ?_)
   exact e_next2 (m - 1) (by omega) (.pu ⟨i + 1, by omega, by rw [hu], by rfl⟩ .refl)
  ·rw [dT_ h0]
   rw [if_neg (fun h => h0 (Option.some.inj h))] at hu
   refine e_condT (ad_ ?_)
   refine o_ v_max ?_
   rw [show (if (upG l least i : Int) < (i : Int) + 1 then (i : Int) + 1 else (upG l least i : Int)) = (upG l least (i + 1) : Int) by rw [hu]; split <;> omega]
   refine ad_ ?_
   exact e_next2 (m - 1) (by omega) (.pu ⟨i + 1, by omega, rfl, by rfl⟩ .refl)
 ·rw [dF_ hlt]
  have hie : i = l.length := by omega
  rw [hie, upG_F l least l.length (Nat.le_refl _) hm]
  refine e_condF (rt_ () ?_)
  exact .refl
def ord19 : List Value := [(.int .i64 16), (.int .i64 17), (.int .i64 18), (.int .i64 0), (.int .i64 8), (.int .i64 7), (.int .i64 9), (.int .i64 6), (.int .i64 10), (.int .i64 5), (.int .i64 11), (.int .i64 4), (.int .i64 12), (.int .i64 3), (.int .i64 13), (.int .i64 2), (.int .i64 14), (.int .i64 1), (.int .i64 15)]
theorem rorder6 {W : World} : Cn p_ 121 [] W [] (fun g : Nat => .slice (some ⟨g, 0, none⟩) 19 19) (fun g => [pt g (.cells ord19.toArray 3)]) := by
 (refine S.ref06_order_s.cn fun F => ?_; unfold S.ref06_order; simp only [ca_, na_])
 refine e_bslN (vs := ord19) rfl rfl (by intro v hv; unfold ord19 at hv; simp at hv; rcases hv with rfl | rfl | rfl | rfl | rfl | rfl | rfl | rfl | rfl | rfl | rfl | rfl | rfl | rfl | rfl | rfl | rfl | rfl | rfl <;> rfl) (by omega) fun g => ?_
 refine rt_ g ?_
 exact .refl
theorem rruns {W : World} {a : Option Addr} {c : Nat} {row : List Int} {A : HP} (hA : RdB W A a row.length (row.map I)) (hl : row.length <= 1048576) :
  Cn p_ 120 [.slice a row.length c] W [A] (fun q : Option Addr × Nat => .slice q.1 (runsF row).length q.2) (fun q => [Sl 3 180 q.1 q.2 (runsF row).length ((runsF row).flatMap tdC), A]) := by
 have hrl := runsN_len row (row.length + 1) 0
 change (runsF row).length <= row.length + 1 at hrl
 (refine S.ref06_runs_s.cn fun F => ?_; unfold S.ref06_runs; simp only [ca_, na_])
 refine e_loop2 (fun m x y => (ex fun st : (Option Addr × Nat) × Nat => all [pu (m + st.2 = (runsF row).length /\ x = .slice st.1.1 ((runsF row).take st.2).length st.1.2 /\ y = .int .i64 (atR row st.2 : Int)), Sl 3 180 st.1.1 st.1.2 ((runsF row).take st.2).length (((runsF row).take st.2).flatMap tdC)]) :: A :: F) (runsF row).length ?_ ?_
 ·refine .ex ((none, 0), 0) (.all ?_)
  refine nr_ ?_
  refine .pu ⟨by omega, rfl, rfl⟩ ?_
  exact imp_nil im_
 intro m ds x y
 refine e_ex .here fun st => e_all .here ?_
 obtain ⟨⟨oa, oc⟩, k⟩ := st
 refine nr_ ?_
 refine e_pu .here fun hk => ?_
 (try dsimp only at hk)
 obtain ⟨hmk, rfl, rfl⟩ := hk
 (try dsimp only)
 have htkl : ((runsF row).take k).length <= 1048577 := by rw [List.length_take]; omega
 obtain ⟨g1, g2⟩ := runs_get (row := row) (k := k) (by omega)
 obtain ⟨d1, d2⟩ := runs_drop row k (by omega)
 obtain ⟨i, hi⟩ : ∃ i, i = atR row k := ⟨_, rfl⟩
 have hnx : atR row (k + 1) = if i < row.length then i + (tdAt row i).2 else i := by rw [atR, <- hi]
 rw [<- hi] at g1 g2 d1 ⊢
 refine o_ v_len (o_ v_lss ?_)
 by_cases h1 : (i : Int) < (row.length : Int)
 rotate_left
 ·rw [dF_ h1]
  have : k = (runsF row).length := by
   rcases Nat.lt_or_ge k (runsF row).length with c | c
   ·exact absurd (g1.2 c) (by omega)
   ·omega
  subst this
  rw [List.take_length]
  refine e_condF (rt_ ((oa, oc)) ?_)
  exact im_
 rw [dT_ h1]
 have hil : i < row.length := by omega
 have hkl := g1.1 hil
 refine e_condT ?_
 obtain ⟨g, o, rfl, _⟩ := hA.at_ (by omega)
 refine o_ (v_ia1 i rfl hil) ?_
 refine p_op (v_ldRd hA (v := I row[i]) (I_get hil)) ?_
 obtain ⟨v, hv⟩ : ∃ v, v = row[i] := ⟨_, rfl⟩
 have hvi : row[i]? = some v := by rw [hv]; exact List.getElem?_eq_getElem hil
 have hgd : row.getD i 0 = v := by rw [List.getD_eq_getElem?_getD, hvi]; rfl
 rw [<- hv]
 clear hv
 unfold I
 obtain ⟨N, hN⟩ : ∃ N, N = sameN row v i row.length 1 := ⟨_, rfl⟩
 refine e_loop1 (fun m2 y => (ex fun n : Nat => pu (m2 + i + n = row.length /\ y = .int .i64 (n : Int) /\ 1 <= n /\ sameN row v i m2 n = N)) :: Sl 3 180 oa oc ((runsF row).take k).length (((runsF row).take k).flatMap tdC) :: A :: F) (row.length - i - 1) ?_ ?_
 ·exact .ex 1 (.pu ⟨by omega, rfl, by omega, by rw [hN]; exact sameN_fuel _ _ _ (by omega) (by omega)⟩ .refl)
 intro m2 ds y5
 refine e_ex .here fun n => e_pu .here fun hn => ?_
 obtain ⟨hmn, rfl, hn1, hs⟩ := hn
 have stop : m2 = 0 \/ ¬ row[i + n]? = some v -> n = N := fun h => by
  rw [<- hs]
  rcases h with rfl | h
  ·rfl
  ·cases m2 with
   | zero => rfl
   | succ m2 => rw [sameN, if_neg h]
 refine ad_ ?_; refine o_ v_len ?_
 by_cases h2 : (i : Int) + (n : Int) < (row.length : Int)
 ·refine o_ v_lss ?_
  rw [dT_ h2]
  refine e_gdT (e_gdT (e_gdT (e_gdT (ad_ ?_)))); refine e_gdT (o_ (v_ia1 (i + n) (by rfl) (by omega)) ?_)
  refine e_gdT (p_op (v_ldRd hA (v := I row[i + n]) (I_get (by omega))) ?_)
  refine e_gdT (e_gdT ?_)
  unfold I
  refine o_ v_eql ?_
  by_cases h3 : row[i + n] = v
  ·rw [dT_ h3]
   refine o_ v_pickT (e_condT (ad_ ?_))
   obtain ⟨m2, rfl⟩ : ∃ x, m2 = x + 1 := ⟨m2 - 1, by omega⟩
   refine e_next1 m2 (by omega) (.ex (n + 1) (.pu ⟨by omega, rfl, by omega, ?_⟩ im_))
   rw [<- hs, sameN, if_pos (by rw [List.getElem?_eq_getElem (by omega), h3])]
  ·rw [dF_ h3]
   refine o_ v_pickT (e_condF ?_)
   have hnN := stop (by rw [List.getElem?_eq_getElem (by omega)]; exact .inr (fun h => h3 (Option.some.inj h)))
   clear stop hs
   subst hnN
   have htd : tdAt row i = if v = 0 /\ 11 <= n then (⟨18, 7, min n 138 - 11⟩, min n 138) else if v = 0 /\ 3 <= n then (⟨17, 3, n - 3⟩, n) else if (v ≠ 0 /\ 3 <= n) /\ (0 < i /\ row[i - 1]? = some v) then (⟨16, 2, min n 6 - 3⟩, min n 6) else (⟨v, 0, 0⟩, 1) := by
    unfold tdAt
    simp only
    rw [hgd, <- hN]
   have htn := tdAt_n hil
   obtain ⟨tn, htn2⟩ : ∃ tn, tn = tdAt row i := ⟨_, rfl⟩
   rw [<- htn2] at htd htn hnx g2
   have e4 : ((runsF row).take k).flatMap tdC ++ tdC tn.1 = ((runsF row).take (k + 1)).flatMap tdC := by
    rw [List.take_succ_eq_append_getElem hkl, List.flatMap_append, List.flatMap_singleton]
    have := g2 hkl
    rw [List.getElem?_eq_getElem hkl] at this
    rw [Option.some.inj this]
   have e5 : ((runsF row).take k).length + 1 = ((runsF row).take (k + 1)).length := by rw [List.length_take, List.length_take]; omega
   rw [if_pos hil] at hnx
   refine o_ v_eql ?_
   by_cases k0 : v = 0
   ·rw [dT_ k0]
    refine e_gdT (e_gdT (o_ v_geq ?_))
    by_cases k11 : (11 : Int) <= (n : Int)
    ·rw [dT_ k11]
     rw [if_pos ⟨k0, by omega⟩] at htd
     refine o_ v_pickT (e_condT (o_ v_min ?_))
     rw [show (if (138 : Int) < (n : Int) then (138 : Int) else (n : Int)) = ((min n 138 : Nat) : Int) by split <;> omega]
     refine sb_ ?_; refine o_ v_rv ?_
     rw [show ((min n 138 : Nat) : Int) - 11 = ((min n 138 - 11 : Nat) : Int) by omega]
     have hv : tdV tn.1 = .agg #[.int .i64 18, .int .i64 7, .int .i64 ((min n 138 - 11 : Nat) : Int)] := by rw [htd]; rfl
     have hst : (i : Int) + ((min n 138 : Nat) : Int) = (atR row (k + 1) : Int) := by rw [hnx, htd]; rfl
     rw [<- hv]
     refine e_bslS (n := 1) (vs := [tdV tn.1]) rfl (by decide) rfl (by intro v hv; rw [List.mem_singleton.1 hv]; rfl) (by decide) fun gb => ?_
     refine e_app (m := 1) (news := tdC tn.1) (by (repeat constructor) : Pick _ (Sl 3 180 oa oc ((runsF row).take k).length (((runsF row).take k).flatMap tdC)) _) (src_pt (s := 3) (e' := 180) (by kernel_rfl) (by repeat constructor) (by rfl) (by intro u hu; simp [tdV, Value.cells] at hu; rcases hu with rfl | rfl | rfl <;> rfl)) (by omega) (by omega) fun a4 c4 => ?_
     rw [e4, e5]
     refine ad_ ?_
     rw [hst]
     refine e_next2 (m - 1) (by omega) (.ex ((a4, c4), k + 1) (.all ?_))
     refine nr_ ?_
     refine .pu ⟨by omega, rfl, rfl⟩ ?_
     exact im_
    ·rw [dF_ k11]
     rw [if_neg (fun h => k11 (by omega))] at htd
     refine o_ v_pickT (e_condF (o_ v_eql ?_))
     rw [dT_ k0]
     refine e_gdT (e_gdT (o_ v_geq ?_))
     by_cases k3 : (3 : Int) <= (n : Int)
     ·rw [dT_ k3]
      rw [if_pos ⟨k0, by omega⟩] at htd
      refine o_ v_pickT (e_condT (sb_ ?_)); refine o_ v_rv ?_
      rw [show (n : Int) - 3 = ((n - 3 : Nat) : Int) by omega]
      have hv : tdV tn.1 = .agg #[.int .i64 17, .int .i64 3, .int .i64 ((n - 3 : Nat) : Int)] := by rw [htd]; rfl
      have hst : (i : Int) + (n : Int) = (atR row (k + 1) : Int) := by rw [hnx, htd]; rfl
      rw [<- hv]
      refine e_bslS (n := 1) (vs := [tdV tn.1]) rfl (by decide) rfl (by intro v hv; rw [List.mem_singleton.1 hv]; rfl) (by decide) fun gb => ?_
      refine e_app (m := 1) (news := tdC tn.1) (by (repeat constructor) : Pick _ (Sl 3 180 oa oc ((runsF row).take k).length (((runsF row).take k).flatMap tdC)) _) (src_pt (s := 3) (e' := 180) (by kernel_rfl) (by repeat constructor) (by rfl) (by intro u hu; simp [tdV, Value.cells] at hu; rcases hu with rfl | rfl | rfl <;> rfl)) (by omega) (by omega) fun a4 c4 => ?_
      rw [e4, e5]
      refine ad_ ?_
      rw [hst]
      refine e_next2 (m - 1) (by omega) (.ex ((a4, c4), k + 1) (.all ?_))
      refine nr_ ?_
      refine .pu ⟨by omega, rfl, rfl⟩ ?_
      exact im_
     ·rw [dF_ k3]
      rw [if_neg (fun h => k3 (by omega)), if_neg (fun h => h.1.1 k0)] at htd
      have hv : tdV tn.1 = .agg #[.int .i64 v, .int .i64 0, .int .i64 0] := by rw [htd]; rfl
      have hst : (i : Int) + 1 = (atR row (k + 1) : Int) := by rw [hnx, htd]; rfl
      refine o_ v_pickT (e_condF (o_ v_neq ?_))
      rw [dF_ (fun h => h k0)]
      refine e_gdF2 (e_gdF2 (o_ v_pickF (e_gdF2 (e_gdF2 (e_gdF2 (e_gdF2 (e_gdF2 (e_gdF2 (e_gdF2 (o_ v_pickF (e_gdF2 (e_gdF2 (o_ v_pickF (e_condF (o_ v_rv ?_)))))))))))))))
      rw [<- hv]
      refine e_bslS (n := 1) (vs := [tdV tn.1]) rfl (by decide) rfl (by intro v hv; rw [List.mem_singleton.1 hv]; rfl) (by decide) fun gb => ?_
      refine e_app (m := 1) (news := tdC tn.1) (by (repeat constructor) : Pick _ (Sl 3 180 oa oc ((runsF row).take k).length (((runsF row).take k).flatMap tdC)) _) (src_pt (s := 3) (e' := 180) (by kernel_rfl) (by repeat constructor) (by rfl) (by intro u hu; simp [tdV, Value.cells] at hu; rcases hu with rfl | rfl | rfl <;> rfl)) (by omega) (by omega) fun a4 c4 => ?_
      rw [e4, e5]
      refine ad_ ?_
      rw [hst]
      refine e_next2 (m - 1) (by omega) (.ex ((a4, c4), k + 1) (.all ?_))
      refine nr_ ?_
      refine .pu ⟨by omega, rfl, rfl⟩ ?_
      exact im_
   ·rw [dF_ k0]
    rw [if_neg (fun h => k0 h.1), if_neg (fun h => k0 h.1)] at htd
    have hv0 : ¬ ((v ≠ 0 /\ 3 <= n) /\ (0 < i /\ row[i - 1]? = some v)) -> tdV tn.1 = .agg #[.int .i64 v, .int .i64 0, .int .i64 0] /\ (i : Int) + 1 = (atR row (k + 1) : Int) := fun h => by
     rw [if_neg h] at htd
     exact ⟨by rw [htd]; rfl, by rw [hnx, htd]; rfl⟩
    refine e_gdF2 (e_gdF2 (o_ v_pickF (e_condF (o_ v_eql ?_))))
    rw [dF_ k0]
    refine e_gdF2 (e_gdF2 (o_ v_pickF (e_condF (o_ v_neq ?_))))
    rw [dT_ k0]
    refine e_gdT (e_gdT (o_ v_gtr ?_))
    by_cases ki : (0 : Int) < (i : Int)
    rotate_left
    ·rw [dF_ ki]
     obtain ⟨hv, hst⟩ := hv0 (fun h => ki (by omega))
     refine o_ v_pickT (e_gdF2 (e_gdF2 (e_gdF2 (e_gdF2 (e_gdF2 (e_gdF2 (e_gdF2 (o_ v_pickF (e_gdF2 (e_gdF2 (o_ v_pickF (e_condF (o_ v_rv ?_)))))))))))))
     rw [<- hv]
     refine e_bslS (n := 1) (vs := [tdV tn.1]) rfl (by decide) rfl (by intro v hv; rw [List.mem_singleton.1 hv]; rfl) (by decide) fun gb => ?_
     refine e_app (m := 1) (news := tdC tn.1) (by (repeat constructor) : Pick _ (Sl 3 180 oa oc ((runsF row).take k).length (((runsF row).take k).flatMap tdC)) _) (src_pt (s := 3) (e' := 180) (by kernel_rfl) (by repeat constructor) (by rfl) (by intro u hu; simp [tdV, Value.cells] at hu; rcases hu with rfl | rfl | rfl <;> rfl)) (by omega) (by omega) fun a4 c4 => ?_
     rw [e4, e5]
     refine ad_ ?_
     rw [hst]
     refine e_next2 (m - 1) (by omega) (.ex ((a4, c4), k + 1) (.all ?_))
     refine nr_ ?_
     refine .pu ⟨by omega, rfl, rfl⟩ ?_
     exact im_
    rw [dT_ ki]
    refine o_ v_pickT (e_gdT (e_gdT (e_gdT (sb_ ?_)))); refine e_gdT (o_ (v_ia1 (i - 1) (by omega) (by omega)) ?_)
    refine e_gdT (p_op (v_ldRd hA (v := I row[i - 1]) (I_get (by omega))) ?_)
    refine e_gdT (e_gdT ?_)
    unfold I
    refine o_ v_eql ?_
    by_cases kv : row[i - 1] = v
    rotate_left
    ·rw [dF_ kv]
     obtain ⟨hv, hst⟩ := hv0 (fun h => kv (by have := h.2.2; rw [List.getElem?_eq_getElem (by omega)] at this; exact Option.some.inj this))
     refine o_ v_pickT (e_gdF2 (e_gdF2 (o_ v_pickF (e_condF (o_ v_rv ?_)))))
     rw [<- hv]
     refine e_bslS (n := 1) (vs := [tdV tn.1]) rfl (by decide) rfl (by intro v hv; rw [List.mem_singleton.1 hv]; rfl) (by decide) fun gb => ?_
     refine e_app (m := 1) (news := tdC tn.1) (by (repeat constructor) : Pick _ (Sl 3 180 oa oc ((runsF row).take k).length (((runsF row).take k).flatMap tdC)) _) (src_pt (s := 3) (e' := 180) (by kernel_rfl) (by repeat constructor) (by rfl) (by intro u hu; simp [tdV, Value.cells] at hu; rcases hu with rfl | rfl | rfl <;> rfl)) (by omega) (by omega) fun a4 c4 => ?_
     rw [e4, e5]
     refine ad_ ?_
     rw [hst]
     refine e_next2 (m - 1) (by omega) (.ex ((a4, c4), k + 1) (.all ?_))
     refine nr_ ?_
     refine .pu ⟨by omega, rfl, rfl⟩ ?_
     exact im_
    rw [dT_ kv]
    refine o_ v_pickT (e_gdT (e_gdT (o_ v_geq ?_)))
    by_cases k3 : (3 : Int) <= (n : Int)
    rotate_left
    ·rw [dF_ k3]
     obtain ⟨hv, hst⟩ := hv0 (fun h => k3 (by omega))
     refine o_ v_pickT (e_condF (o_ v_rv ?_))
     rw [<- hv]
     refine e_bslS (n := 1) (vs := [tdV tn.1]) rfl (by decide) rfl (by intro v hv; rw [List.mem_singleton.1 hv]; rfl) (by decide) fun gb => ?_
     refine e_app (m := 1) (news := tdC tn.1) (by (repeat constructor) : Pick _ (Sl 3 180 oa oc ((runsF row).take k).length (((runsF row).take k).flatMap tdC)) _) (src_pt (s := 3) (e' := 180) (by kernel_rfl) (by repeat constructor) (by rfl) (by intro u hu; simp [tdV, Value.cells] at hu; rcases hu with rfl | rfl | rfl <;> rfl)) (by omega) (by omega) fun a4 c4 => ?_
     rw [e4, e5]
     refine ad_ ?_
     rw [hst]
     refine e_next2 (m - 1) (by omega) (.ex ((a4, c4), k + 1) (.all ?_))
     refine nr_ ?_
     refine .pu ⟨by omega, rfl, rfl⟩ ?_
     exact im_
    rw [dT_ k3]
    rw [if_pos ⟨⟨k0, by omega⟩, by omega, by rw [List.getElem?_eq_getElem (by omega), kv]⟩] at htd
    refine o_ v_pickT (e_condT (o_ v_min ?_))
    rw [show (if (6 : Int) < (n : Int) then (6 : Int) else (n : Int)) = ((min n 6 : Nat) : Int) by split <;> omega]
    refine sb_ ?_; refine o_ v_rv ?_
    rw [show ((min n 6 : Nat) : Int) - 3 = ((min n 6 - 3 : Nat) : Int) by omega]
    have hv : tdV tn.1 = .agg #[.int .i64 16, .int .i64 2, .int .i64 ((min n 6 - 3 : Nat) : Int)] := by rw [htd]; rfl
    have hst : (i : Int) + ((min n 6 : Nat) : Int) = (atR row (k + 1) : Int) := by rw [hnx, htd]; rfl
    rw [<- hv]
    refine e_bslS (n := 1) (vs := [tdV tn.1]) rfl (by decide) rfl (by intro v hv; rw [List.mem_singleton.1 hv]; rfl) (by decide) fun gb => ?_
    refine e_app (m := 1) (news := tdC tn.1) (by (repeat constructor) : Pick _ (Sl 3 180 oa oc ((runsF row).take k).length (((runsF row).take k).flatMap tdC)) _) (src_pt (s := 3) (e' := 180) (by kernel_rfl) (by repeat constructor) (by rfl) (by intro u hu; simp [tdV, Value.cells] at hu; rcases hu with rfl | rfl | rfl <;> rfl)) (by omega) (by omega) fun a4 c4 => ?_
    rw [e4, e5]
    refine ad_ ?_
    rw [hst]
    refine e_next2 (m - 1) (by omega) (.ex ((a4, c4), k + 1) (.all ?_))
    refine nr_ ?_
    refine .pu ⟨by omega, rfl, rfl⟩ ?_
    exact im_
 ·refine o_ v_lss ?_
  rw [dF_ h2]
  refine e_gdF2 (e_gdF2 (e_gdF2 (e_gdF2 (e_gdF2 (e_gdF2 (e_gdF2 (e_gdF2 (o_ v_pickF (e_condF ?_)))))))))
  have hnN := stop (by exact .inl (by omega))
  clear stop hs
  subst hnN
  have htd : tdAt row i = if v = 0 /\ 11 <= n then (⟨18, 7, min n 138 - 11⟩, min n 138) else if v = 0 /\ 3 <= n then (⟨17, 3, n - 3⟩, n) else if (v ≠ 0 /\ 3 <= n) /\ (0 < i /\ row[i - 1]? = some v) then (⟨16, 2, min n 6 - 3⟩, min n 6) else (⟨v, 0, 0⟩, 1) := by
   unfold tdAt
   simp only
   rw [hgd, <- hN]
  have htn := tdAt_n hil
  obtain ⟨tn, htn2⟩ : ∃ tn, tn = tdAt row i := ⟨_, rfl⟩
  rw [<- htn2] at htd htn hnx g2
  have e4 : ((runsF row).take k).flatMap tdC ++ tdC tn.1 = ((runsF row).take (k + 1)).flatMap tdC := by
   rw [List.take_succ_eq_append_getElem hkl, List.flatMap_append, List.flatMap_singleton]
   have := g2 hkl
   rw [List.getElem?_eq_getElem hkl] at this
   rw [Option.some.inj this]
  have e5 : ((runsF row).take k).length + 1 = ((runsF row).take (k + 1)).length := by rw [List.length_take, List.length_take]; omega
  rw [if_pos hil] at hnx
  refine o_ v_eql ?_
  by_cases k0 : v = 0
  ·rw [dT_ k0]
   refine e_gdT (e_gdT (o_ v_geq ?_))
   by_cases k11 : (11 : Int) <= (n : Int)
   ·rw [dT_ k11]
    rw [if_pos ⟨k0, by omega⟩] at htd
    refine o_ v_pickT (e_condT (o_ v_min ?_))
    rw [show (if (138 : Int) < (n : Int) then (138 : Int) else (n : Int)) = ((min n 138 : Nat) : Int) by split <;> omega]
    refine sb_ ?_; refine o_ v_rv ?_
    rw [show ((min n 138 : Nat) : Int) - 11 = ((min n 138 - 11 : Nat) : Int) by omega]
    have hv : tdV tn.1 = .agg #[.int .i64 18, .int .i64 7, .int .i64 ((min n 138 - 11 : Nat) : Int)] := by rw [htd]; rfl
    have hst : (i : Int) + ((min n 138 : Nat) : Int) = (atR row (k + 1) : Int) := by rw [hnx, htd]; rfl
    rw [<- hv]
    refine e_bslS (n := 1) (vs := [tdV tn.1]) rfl (by decide) rfl (by intro v hv; rw [List.mem_singleton.1 hv]; rfl) (by decide) fun gb => ?_
    refine e_app (m := 1) (news := tdC tn.1) (by (repeat constructor) : Pick _ (Sl 3 180 oa oc ((runsF row).take k).length (((runsF row).take k).flatMap tdC)) _) (src_pt (s := 3) (e' := 180) (by kernel_rfl) (by repeat constructor) (by rfl) (by intro u hu; simp [tdV, Value.cells] at hu; rcases hu with rfl | rfl | rfl <;> rfl)) (by omega) (by omega) fun a4 c4 => ?_
    rw [e4, e5]
    refine ad_ ?_
    rw [hst]
    refine e_next2 (m - 1) (by omega) (.ex ((a4, c4), k + 1) (.all ?_))
    refine nr_ ?_
    refine .pu ⟨by omega, rfl, rfl⟩ ?_
    exact im_
   ·rw [dF_ k11]
    rw [if_neg (fun h => k11 (by omega))] at htd
    refine o_ v_pickT (e_condF (o_ v_eql ?_))
    rw [dT_ k0]
    refine e_gdT (e_gdT (o_ v_geq ?_))
    by_cases k3 : (3 : Int) <= (n : Int)
    ·rw [dT_ k3]
     rw [if_pos ⟨k0, by omega⟩] at htd
     refine o_ v_pickT (e_condT (sb_ ?_)); refine o_ v_rv ?_
     rw [show (n : Int) - 3 = ((n - 3 : Nat) : Int) by omega]
     have hv : tdV tn.1 = .agg #[.int .i64 17, .int .i64 3, .int .i64 ((n - 3 : Nat) : Int)] := by rw [htd]; rfl
     have hst : (i : Int) + (n : Int) = (atR row (k + 1) : Int) := by rw [hnx, htd]; rfl
     rw [<- hv]
     refine e_bslS (n := 1) (vs := [tdV tn.1]) rfl (by decide) rfl (by intro v hv; rw [List.mem_singleton.1 hv]; rfl) (by decide) fun gb => ?_
     refine e_app (m := 1) (news := tdC tn.1) (by (repeat constructor) : Pick _ (Sl 3 180 oa oc ((runsF row).take k).length (((runsF row).take k).flatMap tdC)) _) (src_pt (s := 3) (e' := 180) (by kernel_rfl) (by repeat constructor) (by rfl) (by intro u hu; simp [tdV, Value.cells] at hu; rcases hu with rfl | rfl | rfl <;> rfl)) (by omega) (by omega) fun a4 c4 => ?_
     rw [e4, e5]
     refine ad_ ?_
     rw [hst]
     refine e_next2 (m - 1) (by omega) (.ex ((a4, c4), k + 1) (.all ?_))
     refine nr_ ?_
     refine .pu ⟨by omega, rfl, rfl⟩ ?_
     exact im_
    ·rw [dF_ k3]
     rw [if_neg (fun h => k3 (by omega)), if_neg (fun h => h.1.1 k0)] at htd
     have hv : tdV tn.1 = .agg #[.int .i64 v, .int .i64 0, .int .i64 0] := by rw [htd]; rfl
     have hst : (i : Int) + 1 = (atR row (k + 1) : Int) := by rw [hnx, htd]; rfl
     refine o_ v_pickT (e_condF (o_ v_neq ?_))
     rw [dF_ (fun h => h k0)]
     refine e_gdF2 (e_gdF2 (o_ v_pickF (e_gdF2 (e_gdF2 (e_gdF2 (e_gdF2 (e_gdF2 (e_gdF2 (e_gdF2 (o_ v_pickF (e_gdF2 (e_gdF2 (o_ v_pickF (e_condF (o_ v_rv ?_)))))))))))))))
     rw [<- hv]
     refine e_bslS (n := 1) (vs := [tdV tn.1]) rfl (by decide) rfl (by intro v hv; rw [List.mem_singleton.1 hv]; rfl) (by decide) fun gb => ?_
     refine e_app (m := 1) (news := tdC tn.1) (by (repeat constructor) : Pick _ (Sl 3 180 oa oc ((runsF row).take k).length (((runsF row).take k).flatMap tdC)) _) (src_pt (s := 3) (e' := 180) (by kernel_rfl) (by repeat constructor) (by rfl) (by intro u hu; simp [tdV, Value.cells] at hu; rcases hu with rfl | rfl | rfl <;> rfl)) (by omega) (by omega) fun a4 c4 => ?_
     rw [e4, e5]
     refine ad_ ?_
     rw [hst]
     refine e_next2 (m - 1) (by omega) (.ex ((a4, c4), k + 1) (.all ?_))
     refine nr_ ?_
     refine .pu ⟨by omega, rfl, rfl⟩ ?_
     exact im_
  ·rw [dF_ k0]
   rw [if_neg (fun h => k0 h.1), if_neg (fun h => k0 h.1)] at htd
   have hv0 : ¬ ((v ≠ 0 /\ 3 <= n) /\ (0 < i /\ row[i - 1]? = some v)) -> tdV tn.1 = .agg #[.int .i64 v, .int .i64 0, .int .i64 0] /\ (i : Int) + 1 = (atR row (k + 1) : Int) := fun h => by
    rw [if_neg h] at htd
    exact ⟨by rw [htd]; rfl, by rw [hnx, htd]; rfl⟩
   refine e_gdF2 (e_gdF2 (o_ v_pickF (e_condF (o_ v_eql ?_))))
   rw [dF_ k0]
   refine e_gdF2 (e_gdF2 (o_ v_pickF (e_condF (o_ v_neq ?_))))
   rw [dT_ k0]
   refine e_gdT (e_gdT (o_ v_gtr ?_))
   by_cases ki : (0 : Int) < (i : Int)
   rotate_left
   ·rw [dF_ ki]
    obtain ⟨hv, hst⟩ := hv0 (fun h => ki (by omega))
    refine o_ v_pickT (e_gdF2 (e_gdF2 (e_gdF2 (e_gdF2 (e_gdF2 (e_gdF2 (e_gdF2 (o_ v_pickF (e_gdF2 (e_gdF2 (o_ v_pickF (e_condF (o_ v_rv ?_)))))))))))))
    rw [<- hv]
    refine e_bslS (n := 1) (vs := [tdV tn.1]) rfl (by decide) rfl (by intro v hv; rw [List.mem_singleton.1 hv]; rfl) (by decide) fun gb => ?_
    refine e_app (m := 1) (news := tdC tn.1) (by (repeat constructor) : Pick _ (Sl 3 180 oa oc ((runsF row).take k).length (((runsF row).take k).flatMap tdC)) _) (src_pt (s := 3) (e' := 180) (by kernel_rfl) (by repeat constructor) (by rfl) (by intro u hu; simp [tdV, Value.cells] at hu; rcases hu with rfl | rfl | rfl <;> rfl)) (by omega) (by omega) fun a4 c4 => ?_
    rw [e4, e5]
    refine ad_ ?_
    rw [hst]
    refine e_next2 (m - 1) (by omega) (.ex ((a4, c4), k + 1) (.all ?_))
    refine nr_ ?_
    refine .pu ⟨by omega, rfl, rfl⟩ ?_
    exact im_
   rw [dT_ ki]
   refine o_ v_pickT (e_gdT (e_gdT (e_gdT (sb_ ?_)))); refine e_gdT (o_ (v_ia1 (i - 1) (by omega) (by omega)) ?_)
   refine e_gdT (p_op (v_ldRd hA (v := I row[i - 1]) (I_get (by omega))) ?_)
   refine e_gdT (e_gdT ?_)
   unfold I
   refine o_ v_eql ?_
   by_cases kv : row[i - 1] = v
   rotate_left
   ·rw [dF_ kv]
    obtain ⟨hv, hst⟩ := hv0 (fun h => kv (by have := h.2.2; rw [List.getElem?_eq_getElem (by omega)] at this; exact Option.some.inj this))
    refine o_ v_pickT (e_gdF2 (e_gdF2 (o_ v_pickF (e_condF (o_ v_rv ?_)))))
    rw [<- hv]
    refine e_bslS (n := 1) (vs := [tdV tn.1]) rfl (by decide) rfl (by intro v hv; rw [List.mem_singleton.1 hv]; rfl) (by decide) fun gb => ?_
    refine e_app (m := 1) (news := tdC tn.1) (by (repeat constructor) : Pick _ (Sl 3 180 oa oc ((runsF row).take k).length (((runsF row).take k).flatMap tdC)) _) (src_pt (s := 3) (e' := 180) (by kernel_rfl) (by repeat constructor) (by rfl) (by intro u hu; simp [tdV, Value.cells] at hu; rcases hu with rfl | rfl | rfl <;> rfl)) (by omega) (by omega) fun a4 c4 => ?_
    rw [e4, e5]
    refine ad_ ?_
    rw [hst]
    refine e_next2 (m - 1) (by omega) (.ex ((a4, c4), k + 1) (.all ?_))
    refine nr_ ?_
    refine .pu ⟨by omega, rfl, rfl⟩ ?_
    exact im_
   rw [dT_ kv]
   refine o_ v_pickT (e_gdT (e_gdT (o_ v_geq ?_)))
   by_cases k3 : (3 : Int) <= (n : Int)
   rotate_left
   ·rw [dF_ k3]
    obtain ⟨hv, hst⟩ := hv0 (fun h => k3 (by omega))
    refine o_ v_pickT (e_condF (o_ v_rv ?_))
    rw [<- hv]
    refine e_bslS (n := 1) (vs := [tdV tn.1]) rfl (by decide) rfl (by intro v hv; rw [List.mem_singleton.1 hv]; rfl) (by decide) fun gb => ?_
    refine e_app (m := 1) (news := tdC tn.1) (by (repeat constructor) : Pick _ (Sl 3 180 oa oc ((runsF row).take k).length (((runsF row).take k).flatMap tdC)) _) (src_pt (s := 3) (e' := 180) (by kernel_rfl) (by repeat constructor) (by rfl) (by intro u hu; simp [tdV, Value.cells] at hu; rcases hu with rfl | rfl | rfl <;> rfl)) (by omega) (by omega) fun a4 c4 => ?_
    rw [e4, e5]
    refine ad_ ?_
    rw [hst]
    refine e_next2 (m - 1) (by omega) (.ex ((a4, c4), k + 1) (.all ?_))
    refine nr_ ?_
    refine .pu ⟨by omega, rfl, rfl⟩ ?_
    exact im_
   rw [dT_ k3]
   rw [if_pos ⟨⟨k0, by omega⟩, by omega, by rw [List.getElem?_eq_getElem (by omega), kv]⟩] at htd
   refine o_ v_pickT (e_condT (o_ v_min ?_))
   rw [show (if (6 : Int) < (n : Int) then (6 : Int) else (n : Int)) = ((min n 6 : Nat) : Int) by split <;> omega]
   refine sb_ ?_; refine o_ v_rv ?_
   rw [show ((min n 6 : Nat) : Int) - 3 = ((min n 6 - 3 : Nat) : Int) by omega]
   have hv : tdV tn.1 = .agg #[.int .i64 16, .int .i64 2, .int .i64 ((min n 6 - 3 : Nat) : Int)] := by rw [htd]; rfl
   have hst : (i : Int) + ((min n 6 : Nat) : Int) = (atR row (k + 1) : Int) := by rw [hnx, htd]; rfl
   rw [<- hv]
   refine e_bslS (n := 1) (vs := [tdV tn.1]) rfl (by decide) rfl (by intro v hv; rw [List.mem_singleton.1 hv]; rfl) (by decide) fun gb => ?_
   refine e_app (m := 1) (news := tdC tn.1) (by (repeat constructor) : Pick _ (Sl 3 180 oa oc ((runsF row).take k).length (((runsF row).take k).flatMap tdC)) _) (src_pt (s := 3) (e' := 180) (by kernel_rfl) (by repeat constructor) (by rfl) (by intro u hu; simp [tdV, Value.cells] at hu; rcases hu with rfl | rfl | rfl <;> rfl)) (by omega) (by omega) fun a4 c4 => ?_
   rw [e4, e5]
   refine ad_ ?_
   rw [hst]
   refine e_next2 (m - 1) (by omega) (.ex ((a4, c4), k + 1) (.all ?_))
   refine nr_ ?_
   refine .pu ⟨by omega, rfl, rfl⟩ ?_
   exact im_
theorem td_get : ∀ {T : List Td} {i j : Nat} (h : i < T.length), j < 3 -> (T.flatMap tdC)[i * 3 + j]? = (tdC T[i])[j]?
 | y :: T, 0, j, h, hj => by
  rw [List.flatMap_cons, List.getElem?_append_left (by simp [tdC]; omega)]
  simp
 | y :: T, i + 1, j, h, hj => by
  rw [List.flatMap_cons, List.getElem?_append_right (by simp [tdC]; omega), show (i + 1) * 3 + j - (tdC y).length = i * 3 + j by simp [tdC]; omega]
  exact td_get (by simpa using h) hj
theorem td_len (T : List Td) : (T.flatMap tdC).length = T.length * 3 := by
 induction T with
 | nil => rfl
 | cons y T ih => rw [List.flatMap_cons, List.length_append, ih, List.length_cons]; simp [tdC]; omega
theorem kn_one {T : List Td} (h : knT T = 1) (h0 : 0 < cntT T 0) : cntT T 1 = 0 := by
 unfold knT frq0 at h
 rw [show (List.range 19).map (fun s => (cntT T s : Int)) = (cntT T 0 : Int) :: (cntT T 1 : Int) :: ((List.range 17).map fun s => (cntT T (s + 2) : Int)) from rfl] at h
 rw [List.countP_cons, List.countP_cons] at h
 by_cases c : cntT T 1 = 0
 ·exact c
 ·rw [if_pos (by simp; omega), if_pos (by simp; omega)] at h
  omega
theorem rhead {W : World} {w ga gb c1 c2 : Nat} {la lb : List Int} {L : List Bool} (va : ∀ x ∈ la, 0 <= x /\ x <= 15) (vb : ∀ x ∈ lb, 0 <= x /\ x <= 15) (h1 : la.length = 286) (h2 : lb.length = 30) (hc1 : la.length <= c1) (hc2 : lb.length <= c2) (hL : L.length + (hdX la lb).length <= 8388608) :
  Cn p_ 96 [.pointer (some ⟨w, 0, none⟩), .slice (some ⟨ga, 0, none⟩) la.length c1, .slice (some ⟨gb, 0, none⟩) lb.length c2] W [IsX w L, Sl 1 3 (some ⟨ga, 0, none⟩) c1 la.length (la.map I), Sl 1 3 (some ⟨gb, 0, none⟩) c2 lb.length (lb.map I)] (fun _ : Unit => .tuple #[])
   (fun _ => [IsX w (L ++ hdX la lb), Sl 1 3 (some ⟨ga, 0, none⟩) c1 la.length (la.map I), Sl 1 3 (some ⟨gb, 0, none⟩) c2 lb.length (lb.map I)]) := by
 obtain ⟨T, hT⟩ : ∃ T, T = runsF (hdRow la lb) := ⟨_, rfl⟩
 obtain ⟨u1, u2, u3⟩ := upto_ok la 257 (by omega)
 obtain ⟨w1, w2, w3⟩ := upto_ok lb 1 (by omega)
 have hrow : (hdRow la lb).length = upto la 257 + upto lb 1 := by
  unfold hdRow; rw [List.length_append, List.length_take, List.length_take]; omega
 have hrv := hdRow_b va vb
 have hTl : T.length <= 1000 := by
  have := runsN_len (hdRow la lb) ((hdRow la lb).length + 1) 0
  rw [hT]; unfold runsF; omega
 have hTs : ∀ t ∈ T, 0 <= t.sym /\ t.sym <= 18 /\ t.extra < 2 ^ t.bits /\ t.bits <= 7 := fun t ht => runsN_sym hrv _ _ t (by rw [hT] at ht; exact ht)
 obtain ⟨D, hD⟩ : ∃ D, D = hdLen la lb := ⟨_, rfl⟩
 have hDe : lenV (frqT T) 7 = D := by rw [hD, hT]; rfl
 have hDE : lenE (frqT T) 7 = 0 := by rw [hT]; exact frqT_E (by omega)
 have hD19 : D.length = 19 := by rw [<- hDe, (PM.lenV_facts hDE).1]; unfold frqT; rw [oneK_len]; simp [frq0]
 have hDv : ∀ x ∈ D, 0 <= x /\ x <= 7 := fun x hx => (PM.lenV_facts hDE).2.2.2.2.1 x (by rw [hDe]; exact hx)
 obtain ⟨O, hO⟩ : ∃ O, O = hdOrd D := ⟨_, rfl⟩
 have hO19 : O.length = 19 := by rw [hO]; simp [hdOrd, ordL]
 have hOv : ∀ x ∈ O, 0 <= x /\ x <= 7 := fun x hx => by
  rw [hO] at hx
  obtain ⟨k, _, rfl⟩ := List.mem_map.1 hx
  rw [List.getD_eq_getElem?_getD]
  cases hk : D[k]? with
  | none => exact ⟨by simp, by simp⟩
  | some y => exact hDv y (List.mem_of_getElem? hk)
 obtain ⟨q1, q2, q3⟩ := upto_ok O 4 (by omega)
 obtain ⟨c, hc⟩ : ∃ c, c = upto O 4 := ⟨_, rfl⟩
 rw [<- hc] at q1 q2 q3
 have hX : hdX la lb = bitsOf (upto la 257 - 257) 5 ++ (bitsOf (upto lb 1 - 1) 5 ++ (bitsOf (c - 4) 4 ++ ((O.take c).flatMap (fun n => bitsOf n.toNat 3) ++ T.flatMap (tdB D)))) := by
  unfold hdX
  simp only
  rw [<- hD, <- hO, <- hc, <- hT]
  simp only [List.append_assoc]
  rfl
 rw [hX] at hL ⊢
 simp only [List.length_append, length_bitsOf] at hL
 obtain ⟨M0, hM0⟩ : ∃ M0, M0 = L ++ (bitsOf (upto la 257 - 257) 5 ++ (bitsOf (upto lb 1 - 1) 5 ++ bitsOf (c - 4) 4)) := ⟨_, rfl⟩
 have hM0l : M0.length = L.length + 14 := by rw [hM0]; simp only [List.length_append, length_bitsOf]
 have hfin : L ++ (bitsOf (upto la 257 - 257) 5 ++ (bitsOf (upto lb 1 - 1) 5 ++ (bitsOf (c - 4) 4 ++ ((O.take c).flatMap (fun n => bitsOf n.toNat 3) ++ T.flatMap (tdB D))))) = M0 ++ (O.take c).flatMap (fun n => bitsOf n.toNat 3) ++ T.flatMap (tdB D) := by
  rw [hM0]; simp only [List.append_assoc]
 rw [hfin]
 have hrowe : hdRow la lb = la.take (upto la 257) ++ lb.take (upto lb 1) := rfl
 obtain ⟨R, hR⟩ : ∃ R, R = hdRow la lb := ⟨_, rfl⟩
 rw [<- hR] at hrow hrowe hT
 obtain ⟨ua, hua⟩ : ∃ ua, ua = upto la 257 := ⟨_, rfl⟩
 obtain ⟨ub_, hub⟩ : ∃ ub_, ub_ = upto lb 1 := ⟨_, rfl⟩
 have ra : RdB W (Sl 1 3 (some ⟨ga, 0, none⟩) c1 la.length (la.map I)) (some ⟨ga, 0, none⟩) la.length (la.map I) := rd_sl (by rw [List.length_map]) (fun _ => ⟨ga, rfl⟩)
 have rb : RdB W (Sl 1 3 (some ⟨gb, 0, none⟩) c2 lb.length (lb.map I)) (some ⟨gb, 0, none⟩) lb.length (lb.map I) := rd_sl (by rw [List.length_map]) (fun _ => ⟨gb, rfl⟩)
 (refine S.ref06_head_s.cn fun F => ?_; unfold S.ref06_head; simp only [ca_, na_])
 refine c_ (rupto (cap := c1) (least := 257) ra (by omega) (by omega)) fun _ => ?_
 refine c_ (rupto (cap := c2) (least := 1) rb (by omega) (by omega)) fun _ => ?_
 rw [<- hua, <- hub]
 rw [<- hua] at u1 u2 u3 hrow hrowe
 rw [<- hub] at w1 w2 w3 hrow hrowe
 have ta : (la.take ua).length = ua := by rw [List.length_take]; omega
 have tb : (lb.take ub_).length = ub_ := by rw [List.length_take]; omega
 have ra2 : RdB W (Sl 1 3 (some ⟨ga, 0, none⟩) c1 la.length (la.map I)) (some ⟨ga, 0, none⟩) ua ((la.take ua).map I) := by rw [List.map_take]; exact rd_pre ra u1
 have rb2 : RdB W (Sl 1 3 (some ⟨gb, 0, none⟩) c2 lb.length (lb.map I)) (some ⟨gb, 0, none⟩) ub_ ((lb.take ub_).map I) := by rw [List.map_take]; exact rd_pre rb w1
 refine e_drS (e_stD (v_slh0 ua rfl (by omega)) .nil ?_)
 refine e_stD (v_slh0 ub_ rfl (by omega)) .nil ?_
 refine e_bsl0 fun gz => ?_
 refine ob_ ?_; refine ob_ ?_
 refine e_app (m := ua) (news := (la.take ua).map I) .here (src_rd (A := Sl 1 3 (some ⟨ga, 0, none⟩) c1 la.length (la.map I)) (e' := 3) (by kernel_rfl) (by repeat constructor) ra2 (fun c => by cases c) I_one) (by omega) (by omega) fun a1 k1 => ?_
 refine ob_ ?_
 refine e_app (m := ub_) (news := (lb.take ub_).map I) .here (src_rd (A := Sl 1 3 (some ⟨gb, 0, none⟩) c2 lb.length (lb.map I)) (e' := 3) (by kernel_rfl) (by repeat constructor) rb2 (fun c => by cases c) I_one) (by omega) (by omega) fun a2 k2 => ?_
 rw [show [] ++ (la.take ua).map I ++ (lb.take ub_).map I = R.map I by rw [hrowe, List.map_append, List.nil_append], show 0 + ua + ub_ = R.length by omega]
 refine e_slfacts .here fun _ _ _ fr4 => ?_
 have rR : RdB W (Sl 1 3 a2 k2 R.length (R.map I)) a2 R.length (R.map I) := rd_sl (by rw [List.length_map]) fr4
 have hrr := rruns (W := W) (c := k2) rR (by omega)
 rw [<- hT] at hrr
 refine c_ hrr fun _ => ?_
 rename_i qt
 obtain ⟨tq, tc⟩ := qt
 (try dsimp only)
 refine e_mksl 19 19 (by rfl) (by rfl) (by omega) (by omega) (by unfold maxLen; omega) fun gc => ?_
 refine e_slfacts (by (repeat constructor) : Pick _ (Sl 3 180 tq tc T.length (T.flatMap tdC)) _) fun _ _ _ ft4 => ?_
 have rT : RdB W (Sl 3 180 tq tc T.length (T.flatMap tdC)) tq (T.length * 3) (T.flatMap tdC) := rd_slG (td_len T) ft4
 obtain ⟨AT, hAT⟩ : ∃ AT, AT = Sl 3 180 tq tc T.length (T.flatMap tdC) := ⟨_, rfl⟩
 obtain ⟨SA, hSA⟩ : ∃ SA, SA = Sl 1 3 (some ⟨ga, 0, none⟩) c1 la.length (la.map I) := ⟨_, rfl⟩
 obtain ⟨SB, hSB⟩ : ∃ SB, SB = Sl 1 3 (some ⟨gb, 0, none⟩) c2 lb.length (lb.map I) := ⟨_, rfl⟩
 rw [<- hAT] at rT
 rw [<- hAT, <- hSA, <- hSB]
 refine e_loop2 (fun m y z => (ex fun k : Nat => all [pu (m + k = T.length /\ y = .int .i64 (knT (T.take k) : Int) /\ z = .int .i64 (k : Int)), Sl 1 3 (some ⟨gc, 0, none⟩) 19 19 (Ln 19 fun s => (cntT (T.take k) s : Int))]) :: AT :: IsX w L :: SA :: SB :: F) T.length ?_ ?_
 ·refine .ex 0 (.all ?_)
  refine nr_ ?_
  refine .pu ⟨by omega, rfl, rfl⟩ ?_
  rw [Ln_zero]
  exact im_
 intro m ds y z
 refine e_ex .here fun k => e_all .here ?_
 refine nr_ ?_
 refine e_pu .here fun hk => ?_
 obtain ⟨hmk, rfl, rfl⟩ := hk
 refine o_ v_len (o_ v_lss ?_)
 by_cases hlt : (k : Int) < (T.length : Int)
 ·rw [dT_ hlt]
  have hk : k < T.length := by omega
  have hts := hTs _ (List.getElem_mem hk)
  have htk : T.take (k + 1) = T.take k ++ [T[k]] := List.take_succ_eq_append_getElem hk
  obtain ⟨g, o, rfl, _⟩ := rT.at_ (by omega)
  have l0 : RunV p_ W [AT] (sLoad 3 (.pointer (some ⟨g, o + k * 3 + 0, none⟩))) (I T[k].sym) := v_ldRd2 rT (td_get hk (by omega))
  obtain ⟨t, ht⟩ : ∃ t, t = T[k] := ⟨_, rfl⟩
  rw [<- ht] at hts htk l0
  obtain ⟨n, hn⟩ := Int.eq_ofNat_of_zero_le hts.1
  have hn19 : n < 19 := by omega
  have hknS := knT_snoc (T := T.take k) hn hn19
  rw [<- htk] at hknS
  have hcs : ∀ s, cntT (T.take (k + 1)) s = cntT (T.take k) s + if t.sym = (s : Int) then 1 else 0 := fun s => by rw [htk]; exact cntT_snoc _ _ _
  have hc1' := cntT_le (T.take k) n
  have hc2' := knT_le (T.take k)
  have hc3 : (T.take k).length <= 1000 := by rw [List.length_take]; omega
  rw [hn] at l0
  have hld : (Ln 19 fun s => (cntT (T.take k) s : Int))[0 + n]? = some (.int .i64 (cntT (T.take k) n : Int)) := by rw [Nat.zero_add]; exact Ln_get hn19
  refine e_condT (e_cut1 (fun z => pu (z = .int .i64 (knT (T.take (k + 1)) : Int)) :: Sl 1 3 (some ⟨gc, 0, none⟩) 19 19 (Ln 19 fun s => (cntT (T.take k) s : Int)) :: AT :: IsX w L :: SA :: SB :: F) ?_ ?_)
  rotate_left
  ·refine o_ (v_ia k rfl hk) ?_
   refine o_ v_fa (p_op l0 ?_)
   unfold I
   refine o_ (v_ia1 n rfl hn19) ?_
   refine p_op (v_ldSl hld) ?_
   refine o_ v_eql ?_
   by_cases h0 : (cntT (T.take k) n : Int) = 0
   ·rw [dT_ h0]
    rw [if_pos (by omega)] at hknS
    refine e_condT (ad_ ?_)
    refine e_sat (.pu (by rw [hknS]; rfl) ?_)
    exact im_
   ·rw [dF_ h0]
    rw [if_neg (by omega)] at hknS
    refine e_condF (e_sat (.pu (by rw [hknS, Nat.add_zero]) ?_))
    exact im_
  intro ds z
  refine e_pu .here fun hz => ?_
  subst hz
  refine o_ (v_ia k rfl hk) ?_
  refine o_ v_fa (p_op l0 ?_)
  unfold I
  refine o_ (v_ia1 n rfl hn19) ?_
  refine p_op (v_ldSl hld) ?_
  refine ad_ ?_
  refine o_ (v_ia1 n rfl hn19) ?_
  refine e_stSl (by repeat constructor) (by rw [Ln_len]; omega) ?_
  have hset : (Ln 19 fun s => (cntT (T.take k) s : Int)).set (0 + n) (.int .i64 ((cntT (T.take k) n : Int) + 1)) = Ln 19 fun s => (cntT (T.take (k + 1)) s : Int) := by
   rw [Nat.zero_add]
   refine (Ln_set (v := (cntT (T.take k) n : Int) + 1)).trans (Ln_congr fun j hj => ?_)
   rw [hcs, hn]
   by_cases cj : j = n
   ·subst cj; rw [if_pos rfl, if_pos rfl]; rfl
   ·rw [if_neg cj, if_neg (by omega)]; rfl
  rw [hset]
  refine ad_ ?_
  refine e_next2 (m - 1) (by omega) (.ex (k + 1) (.all ?_))
  refine nr_ ?_
  refine .pu ⟨by omega, rfl, by rfl⟩ ?_
  exact im_
 rw [dF_ hlt]
 have hke : k = T.length := by omega
 rw [hke, List.take_length, <- frq0_Ln]
 have hf19 : (frq0 T).length = 19 := by simp [frq0]
 have hfg : ∀ (j : Nat) (h : j < (frq0 T).length), (frq0 T)[j] = (cntT T j : Int) := fun j h => by simp [frq0]
 have hkT := knT_le T
 refine e_condF (e_cut0 (Sl 1 3 (some ⟨gc, 0, none⟩) 19 19 ((frqT T).map I) :: AT :: IsX w L :: SA :: SB :: F) ?_ ?_)
 rotate_left
 ·refine o_ v_eql ?_
  by_cases k1 : (knT T : Int) = 1
  rotate_left
  ·rw [dF_ k1]
   refine e_gdF2 (e_gdF2 (e_gdF2 (e_gdF2 (o_ v_pickF (e_condF (o_ v_eql ?_))))))
   rw [dF_ k1]
   refine e_condF ?_
   have : frqT T = frq0 T := by
    unfold frqT oneK
    rw [if_neg (fun h => k1 (by rw [show knT T = (frq0 T).countP fun x => decide (0 < x) from rfl, h]; rfl))]
   rw [this]
   refine e_sat ?_
   exact im_
  rw [dT_ k1]
  have hk1 : knT T = 1 := by omega
  have hgD : ∀ (j : Nat) (h : j < (frq0 T).length), (frq0 T).getD j 0 = (frq0 T)[j] := fun j h => by rw [List.getD_eq_getElem?_getD, List.getElem?_eq_getElem h]; rfl
  have hoK : frqT T = if (0 : Int) < (cntT T 0 : Int) then (frq0 T).set 1 ((cntT T 1 : Int) + 1) else (frq0 T).set 0 ((cntT T 0 : Int) + 1) := by
   unfold frqT oneK
   rw [if_pos (show ((frq0 T).countP fun x => decide (0 < x)) = 1 from hk1), hgD 0 (by omega), hgD 1 (by omega), hfg 0 (by omega), hfg 1 (by omega)]
  refine e_gdT (e_gdT (o_ (v_ia1 0 (by rfl) (by omega)) ?_))
  refine e_gdT ?_; (((refine' e_opN (v_ldSl ?hc) ?hi ?_); (case hi => exact im_); (case hc => rfl))); refine e_gdT (o_ (v_eql (a := (cntT T 0 : Int))) ?_)
  by_cases h0 : (cntT T 0 : Int) = 0
  ·rw [dT_ h0]
   rw [if_neg (by omega), h0] at hoK
   refine o_ v_pickT (e_condT (o_ (v_ia1 0 (by rfl) (by omega)) ?_))
   refine e_stSl (by repeat constructor) (by rw [List.length_map]; omega) ?_
   rw [show ((frq0 T).map I).set (0 + 0) (.int .i64 1) = (frqT T).map I by rw [hoK, List.map_set]; rfl]
   refine e_sat ?_
   exact im_
  ·rw [dF_ h0]
   rw [if_pos (by omega), kn_one hk1 (by omega)] at hoK
   refine o_ v_pickT (e_condF (o_ v_eql ?_))
   rw [dT_ k1]
   refine e_condT (o_ (v_ia1 1 (by rfl) (by omega)) ?_)
   refine e_stSl (by repeat constructor) (by rw [List.length_map]; omega) ?_
   rw [show ((frq0 T).map I).set (0 + 1) (.int .i64 1) = (frqT T).map I by rw [hoK, List.map_set]; rfl]
   refine e_sat ?_
   exact im_
 intro ds
 have hfT19 : (frqT T).length = 19 := by unfold frqT; rw [oneK_len]; exact hf19
 have hrf : RdB W (Sl 1 3 (some ⟨gc, 0, none⟩) 19 19 ((frqT T).map I)) (some ⟨gc, 0, none⟩) (frqT T).length ((frqT T).map I) := by
  rw [hfT19]
  exact rd_sl (by rw [List.length_map, hfT19]) (fun _ => ⟨gc, rfl⟩)
 have hln := rlengths (W := W) (cap := 19) (lim := 7) hrf (by omega)
 rw [hfT19, hDe, hDE] at hln
 refine c_ hln fun _ => ?_
 rename_i qD
 refine xt_ ?_; refine xt_ ?_
 refine e_slfacts .here fun _ hnd hcd hfd => ?_
 obtain ⟨qDa, qDc⟩ := qD
 (try dsimp only at *)
 obtain ⟨gd, rfl⟩ := hfd (by omega)
 have rD : RdB W (Sl 1 3 (some ⟨gd, 0, none⟩) qDc D.length (D.map I)) (some ⟨gd, 0, none⟩) D.length (D.map I) := rd_sl (by rw [List.length_map]) (fun _ => ⟨gd, rfl⟩)
 refine c_ (refCodes (cap := qDc) rD (by omega)) fun _ => ?_
 rename_i qS
 obtain ⟨sa, sc⟩ := qS
 (try dsimp only)
 refine xt_ ?_; refine xt_ ?_
 refine e_slfacts .here fun _ _ _ hfc => ?_
 have rC : RdB W (Sl 1 3 sa sc (cdL D).length ((cdL D).map I)) sa (cdL D).length ((cdL D).map I) := rd_sl (by rw [List.length_map]) hfc
 refine c_ rorder6 fun _ => ?_
 rename_i go
 obtain ⟨AO, hAO⟩ : ∃ AO, AO = pt go (.cells ord19.toArray 3) := ⟨_, rfl⟩
 have rOr : RdB W (pt go (.cells ord19.toArray 3)) (some ⟨go, 0, none⟩) 19 ord19 := rd_pt rfl
 rw [<- hAO] at rOr ⊢
 obtain ⟨AC, hAC⟩ : ∃ AC, AC = Sl 1 3 sa sc (cdL D).length ((cdL D).map I) := ⟨_, rfl⟩
 obtain ⟨AD, hAD⟩ : ∃ AD, AD = Sl 1 3 (some ⟨gd, 0, none⟩) qDc D.length (D.map I) := ⟨_, rfl⟩
 rw [<- hAC] at rC ⊢
 rw [<- hAD] at rD ⊢
 refine e_loop2 (fun m y z => (ex fun st : (Option Addr × Nat) × Nat => all [pu (m + st.2 = 19 /\ st.2 <= 19 /\ y = .slice st.1.1 st.2 st.1.2 /\ z = .int .i64 (st.2 : Int)), Sl 1 3 st.1.1 st.1.2 st.2 ((O.take st.2).map I)]) :: AO :: AC :: AD :: AT :: IsX w L :: SA :: SB :: F) 19 ?_ ?_
 ·refine .ex ((none, 0), 0) (.all ?_)
  refine nr_ ?_
  refine .pu ⟨rfl, by omega, rfl, rfl⟩ ?_
  refine imp_nil ?_
  exact im_
 intro m ds y z
 refine e_ex .here fun st => e_all .here ?_
 obtain ⟨⟨ta_, tc_⟩, i⟩ := st
 refine nr_ ?_
 refine e_pu .here fun hi => ?_
 (try dsimp only at hi)
 obtain ⟨hmi, hi19, rfl, rfl⟩ := hi
 (try dsimp only)
 refine o_ v_lss ?_
 by_cases hlt2 : (i : Int) < 19
 ·rw [dT_ hlt2]
  refine e_condT ?_
  obtain ⟨k, hk, hk19⟩ := ordL_lt ⟨i, by omega⟩
  (try dsimp only at hk)
  have hkv : ord19[i]? = some (.int .i64 (k : Int)) := by
   have : i = 0 \/ i = 1 \/ i = 2 \/ i = 3 \/ i = 4 \/ i = 5 \/ i = 6 \/ i = 7 \/ i = 8 \/ i = 9 \/ i = 10 \/ i = 11 \/ i = 12 \/ i = 13 \/ i = 14 \/ i = 15 \/ i = 16 \/ i = 17 \/ i = 18 := by omega
   rcases this with rfl | rfl | rfl | rfl | rfl | rfl | rfl | rfl | rfl | rfl | rfl | rfl | rfl | rfl | rfl | rfl | rfl | rfl | rfl <;> (have hk' := Option.some.inj hk; subst hk'; rfl)
  refine o_ (v_ia1 i rfl (by omega)) ?_
  refine p_op (v_ldRd rOr hkv) ?_
  refine o_ (v_ia1 k (by rfl) (by omega)) ?_
  have hOi : O[i]'(by omega) = D[k]'(by omega) := by
   have h1 : O[i]? = some (D.getD k 0) := by rw [hO]; unfold hdOrd; rw [List.getElem?_map, hk]; rfl
   rw [List.getElem?_eq_getElem (by omega), List.getD_eq_getElem?_getD, List.getElem?_eq_getElem (by omega)] at h1
   exact Option.some.inj h1
  have hld : (D.map I)[k]? = some (.int .i64 (O[i]'(by omega))) := by rw [hOi]; exact I_get (by omega)
  refine p_op (v_ldRd rD hld) ?_
  refine e_bsl1 fun gb => ?_
  refine e_app (m := 1) (news := [I (O[i]'(by omega))]) (by (repeat constructor) : Pick _ (Sl 1 3 ta_ tc_ i ((O.take i).map I)) _) (src_pt (s := 1) (e' := 3) (by kernel_rfl) .here (by rfl) (by intro u hu; simp at hu; rw [hu]; rfl)) (by omega) (by omega) fun a' c' => ?_
  have htk : (O.take i).map I ++ [I (O[i]'(by omega))] = (O.take (i + 1)).map I := by rw [List.take_succ_eq_append_getElem (by omega), List.map_append]; rfl
  rw [htk]
  refine ad_ ?_
  refine e_next2 (m - 1) (by omega) (.ex ((a', c'), i + 1) (.all ?_))
  refine nr_ ?_
  refine .pu ⟨by omega, by omega, rfl, by norm_cast⟩ ?_
  exact im_
 have hi19' : i = 19 := by omega
 subst hi19'
 rw [dF_ hlt2]
 refine e_condF ?_
 rw [show (O.take 19).map I = O.map I by rw [List.take_of_length_le (by omega)], show (19 : Nat) = O.length from hO19.symm]
 refine e_slfacts .here fun _ ho2 ho3 ho4 => ?_
 obtain ⟨gw, rfl⟩ := ho4 (by omega)
 have rO : RdB W (Sl 1 3 (some ⟨gw, 0, none⟩) tc_ O.length (O.map I)) (some ⟨gw, 0, none⟩) O.length (O.map I) := rd_sl (by rw [List.length_map]) (fun _ => ⟨gw, rfl⟩)
 have hup := rupto (W := W) (cap := tc_) (least := 4) rO (by omega) (by omega)
 rw [<- hc] at hup
 refine c_ hup fun _ => ?_
 refine sb_ ?_
 refine c_ (xPut (l := L) (n := (ua : Int) - 257) (k := 5)) fun _ => ?_
 rw [putL_i (e := ua - 257) (k := 5) (j := 5) (by omega) rfl (by omega) (by omega) (by omega)]
 refine sb_ ?_
 refine c_ (xPut (l := L ++ bitsOf (ua - 257) 5) (n := (ub_ : Int) - 1) (k := 5)) fun _ => ?_
 rw [putL_i (e := ub_ - 1) (k := 5) (j := 5) (by omega) rfl (by omega) (by omega) (by rw [List.length_append, length_bitsOf]; omega)]
 refine sb_ ?_
 refine c_ (xPut (l := L ++ bitsOf (ua - 257) 5 ++ bitsOf (ub_ - 1) 5) (n := (c : Int) - 4) (k := 4)) fun _ => ?_
 rw [putL_i (e := c - 4) (k := 4) (j := 4) (by omega) rfl (by omega) (by omega) (by simp only [List.length_append, length_bitsOf]; omega)]
 rw [show L ++ bitsOf (ua - 257) 5 ++ bitsOf (ub_ - 1) 5 ++ bitsOf (c - 4) 4 = M0 by rw [hM0, hua, hub]; simp only [List.append_assoc]]
 have hcl : (O.take c).length = c := by rw [List.length_take]; omega
 refine e_loop1 (fun m y => (ex fun i : Nat => all [pu (m + i = c /\ y = .int .i64 (i : Int)), IsX w (M0 ++ ((O.take c).take i).flatMap (fun n => bitsOf n.toNat 3))]) :: Sl 1 3 (some ⟨gw, 0, none⟩) tc_ O.length (O.map I) :: AC :: AD :: AT :: SA :: SB :: F) c ?_ ?_
 ·refine .ex 0 (.all ?_)
  refine nr_ ?_
  refine .pu ⟨by omega, rfl⟩ ?_
  rw [List.take_zero, List.flatMap_nil, List.append_nil]
  exact im_
 intro m ds y
 refine e_ex .here fun i => e_all .here ?_
 refine nr_ ?_
 refine e_pu .here fun hi => ?_
 obtain ⟨hmi, rfl⟩ := hi
 refine o_ v_lss ?_
 by_cases hlt3 : (i : Int) < (c : Int)
 ·rw [dT_ hlt3]
  refine e_condT (o_ (v_ia1 i (by rfl) (by omega)) ?_)
  have hld : (O.map I)[0 + i]? = some (.int .i64 (O[i]'(by omega))) := by rw [Nat.zero_add]; exact I_get (by omega)
  refine p_op (v_ldSl hld) ?_
  have hv := hOv _ (List.getElem_mem (show i < O.length by omega))
  have hfl := fltL_take (f := fun n : Int => bitsOf n.toNat 3) (l := O.take c) (k := i) (by omega)
  have hfe := fltL_le (f := fun n : Int => bitsOf n.toNat 3) (l := O.take c) (k := i) (by omega)
  have hel : (O.take c)[i]'(by omega) = O[i]'(by omega) := List.getElem_take
  rw [hel] at hfl hfe
  obtain ⟨v, hvv⟩ : ∃ v, v = O[i]'(by omega) := ⟨_, rfl⟩
  rw [<- hvv] at hv hfl hfe ⊢
  (try dsimp only at hfe)
  rw [length_bitsOf] at hfe
  refine c_ (xPut (l := M0 ++ ((O.take c).take i).flatMap (fun n => bitsOf n.toNat 3)) (n := v) (k := 3)) fun _ => ?_
  rw [putL_i (e := v.toNat) (k := 3) (j := 3) (by omega) rfl (by omega) (by omega) (by rw [List.length_append]; omega)]
  refine ad_ ?_
  refine e_next1 (m - 1) (by omega) (.ex (i + 1) (.all ?_))
  refine nr_ ?_
  rw [hfl, <- List.append_assoc]
  refine .pu ⟨by omega, by norm_cast⟩ ?_
  exact im_
 have hic : i = c := by omega
 subst hic
 rw [dF_ hlt3, List.take_of_length_le (show (O.take i).length <= i by omega)]
 obtain ⟨M1, hM1⟩ : ∃ M1, M1 = M0 ++ (O.take i).flatMap (fun n => bitsOf n.toNat 3) := ⟨_, rfl⟩
 rw [<- hM1]
 have hM1l : M1.length + (T.flatMap (tdB D)).length <= 8388608 := by rw [hM1, List.length_append]; omega
 refine e_condF (e_loop1 (fun m y => (ex fun k : Nat => all [pu (m + k = T.length /\ y = .int .i64 (k : Int)), IsX w (M1 ++ (T.take k).flatMap (tdB D))]) :: AC :: AD :: AT :: SA :: SB :: F) T.length ?_ ?_)
 ·refine .ex 0 (.all ?_)
  refine nr_ ?_
  refine .pu ⟨by omega, rfl⟩ ?_
  rw [List.take_zero, List.flatMap_nil, List.append_nil]
  exact im_
 intro m ds y
 refine e_ex .here fun k => e_all .here ?_
 refine nr_ ?_
 refine e_pu .here fun hi => ?_
 obtain ⟨hmk2, rfl⟩ := hi
 refine o_ v_len (o_ v_lss ?_)
 by_cases hlt4 : (k : Int) < (T.length : Int)
 ·rw [dT_ hlt4]
  have hk : k < T.length := by omega
  have hts := hTs _ (List.getElem_mem hk)
  have hfl := fltL_take (f := tdB D) (l := T) hk
  have hfe := fltL_le (f := tdB D) (l := T) hk
  obtain ⟨g, o, rfl, _⟩ := rT.at_ (by omega)
  have l0 : RunV p_ W [AT] (sLoad 3 (.pointer (some ⟨g, o + k * 3 + 0, none⟩))) (I T[k].sym) := v_ldRd2 rT (td_get hk (by omega))
  have l1 : RunV p_ W [AT] (sLoad 3 (.pointer (some ⟨g, o + k * 3 + 1, none⟩))) (I (T[k].bits : Int)) := v_ldRd2 rT (td_get hk (by omega))
  have l2 : RunV p_ W [AT] (sLoad 3 (.pointer (some ⟨g, o + k * 3 + 2, none⟩))) (I (T[k].extra : Int)) := v_ldRd2 rT (td_get hk (by omega))
  obtain ⟨t, ht⟩ : ∃ t, t = T[k] := ⟨_, rfl⟩
  rw [<- ht] at hts hfl hfe l0 l1 l2
  unfold tdB at hfe
  rw [List.length_append, length_bitsOf] at hfe
  change ((T.take k).flatMap (tdB D)).length + ((cwd D t.sym).length + t.bits) <= (T.flatMap (tdB D)).length at hfe
  obtain ⟨Mk, hMk⟩ : ∃ Mk, Mk = M1 ++ (T.take k).flatMap (tdB D) := ⟨_, rfl⟩
  have hMkl : Mk.length = M1.length + ((T.take k).flatMap (tdB D)).length := by rw [hMk, List.length_append]
  rw [<- hMk]
  refine e_condT (o_ (v_ia k rfl hk) ?_)
  refine o_ v_fa (p_op l0 ?_)
  unfold I
  refine e_call (rput (L := Mk) (s := t.sym) rC rD) (.cons (by repeat constructor) (.cons (by repeat constructor) (.cons (by repeat constructor) .nil))) fun _ => ?_
  refine nr_ ?_
  rw [phL_cwd (by omega)]
  refine e_drS (t_ (v_ia k rfl hk) ?_)
  refine t_ v_fa (p_st l2 ?_)
  refine t_ (v_ia k rfl hk) ?_
  refine t_ v_fa (p_st l1 ?_)
  unfold I
  refine c_ (xPut (l := Mk ++ cwd D t.sym) (n := (t.extra : Int)) (k := (t.bits : Int))) fun _ => ?_
  rw [putL_ok (by omega) hts.2.2.1 (by rw [List.length_append]; omega)]
  refine ad_ ?_
  refine e_next1 (m - 1) (by omega) (.ex (k + 1) (.all ?_))
  refine nr_ ?_
  rw [hfl, <- List.append_assoc, <- hMk]
  unfold tdB
  rw [<- List.append_assoc]
  refine .pu ⟨by omega, by norm_cast⟩ ?_
  exact im_
 rw [dF_ hlt4]
 have hke2 : k = T.length := by omega
 rw [hke2, List.take_length]
 refine e_condF (rt_ () ?_)
 exact im_
theorem rsymbols {W : World} {w bn bc pc c1 c2 : Nat} {pa ba a1 a2 : Option Addr} {AL A1 A2 : HP} {ps : List Pz} {la lb : List Int} {L : List Bool} (hA : RdB W AL pa (ps.length * 3) (ps.flatMap pPz)) (hl : ps.length <= 1048576) (hg : ∀ p ∈ ps, goodP p) (r1 : RdB W A1 a1 la.length (la.map I)) (r2 : RdB W A2 a2 lb.length (lb.map I))
  (h1 : la.length <= 1000) (h2 : lb.length <= 1000) (hL : L.length + (encX la lb ps).length <= 8388608) :
  Cn p_ 94 [.pointer (some ⟨w, 0, none⟩), .agg #[.slice pa ps.length pc, .slice ba bn bc], .slice a1 la.length c1, .slice a2 lb.length c2] W [IsX w L, AL, A1, A2] (fun _ : Unit => .tuple #[]) (fun _ => [IsX w (L ++ encX la lb ps), AL, A1, A2]) := by
 have hE : (encX la lb ps).length = (ps.flatMap (encD la lb)).length + (cwd la 256).length := by unfold encX; rw [List.length_append]
 (refine S.ref06_symbols_s.cn fun F => ?_; unfold S.ref06_symbols; simp only [ca_, na_])
 refine e_boxA fun b5 => ?_
 refine e_call (refCodes (cap := c1) r1 (by omega)) (.cons (by repeat constructor) .nil) fun q1 => ?_
 obtain ⟨k1, d1⟩ := q1
 refine nr_ ?_
 (try dsimp only)
 refine xt_ ?_; refine xt_ ?_
 refine e_slfacts .here fun _ _ _ f1 => ?_
 have rc1 : RdB W (Sl 1 3 k1 d1 (cdL la).length ((cdL la).map I)) k1 (cdL la).length ((cdL la).map I) := rd_sl (by rw [List.length_map]) f1
 obtain ⟨C1, hC1⟩ : ∃ C1, C1 = Sl 1 3 k1 d1 (cdL la).length ((cdL la).map I) := ⟨_, rfl⟩
 rw [<- hC1] at rc1 ⊢
 refine e_call (refCodes (cap := c2) r2 (by omega)) (.cons (by repeat constructor) .nil) fun q2 => ?_
 obtain ⟨k2, d2⟩ := q2
 refine nr_ ?_
 (try dsimp only)
 refine xt_ ?_; refine xt_ ?_
 refine e_slfacts .here fun _ _ _ f2 => ?_
 have rc2 : RdB W (Sl 1 3 k2 d2 (cdL lb).length ((cdL lb).map I)) k2 (cdL lb).length ((cdL lb).map I) := rd_sl (by rw [List.length_map]) f2
 obtain ⟨C2, hC2⟩ : ∃ C2, C2 = Sl 1 3 k2 d2 (cdL lb).length ((cdL lb).map I) := ⟨_, rfl⟩
 rw [<- hC2] at rc2 ⊢
 refine e_loop1 (fun m y => (ex fun i : Nat => all [pu (m + i = ps.length /\ y = .int .i64 (i : Int)), IsX w (L ++ (ps.take i).flatMap (encD la lb))]) :: pt b5 (.cells #[.slice pa ps.length pc, .slice ba bn bc] 92) :: AL :: A1 :: A2 :: C1 :: C2 :: F) ps.length ?_ ?_
 ·refine .ex 0 (.all ?_)
  refine nr_ ?_
  refine .pu ⟨by omega, rfl⟩ ?_
  rw [List.take_zero, List.flatMap_nil, List.append_nil]
  exact im_
 intro m ds y
 refine e_ex .here fun i => e_all .here ?_
 refine nr_ ?_
 refine e_pu .here fun hk => ?_
 obtain ⟨hmi, rfl⟩ := hk
 refine o_ v_fa0 (ln_ ?_); refine o_ v_len (o_ v_lss ?_)
 by_cases hlt : (i : Int) < (ps.length : Int)
 ·rw [dT_ hlt]
  have hi : i < ps.length := by omega
  have hgp := hg _ (List.getElem_mem hi)
  have hfl := fltL_take (f := encD la lb) (l := ps) hi
  have hfe := fltL_le (f := encD la lb) (l := ps) hi
  obtain ⟨g, o, rfl, _⟩ := hA.at_ (by omega)
  have l0 : RunV p_ W [AL] (sLoad 3 (.pointer (some ⟨g, o + i * 3 + 0, none⟩))) (I ps[i].len) := v_ldRd2 hA (pz_get hi 0 (by omega))
  have l1 : RunV p_ W [AL] (sLoad 3 (.pointer (some ⟨g, o + i * 3 + 1, none⟩))) (I ps[i].dist) := v_ldRd2 hA (pz_get hi 1 (by omega))
  have l2 : RunV p_ W [AL] (sLoad 5 (.pointer (some ⟨g, o + i * 3 + 2, none⟩))) (Sl.B ps[i].c) := v_ldRd2 hA (pz_get hi 2 (by omega))
  obtain ⟨p, hp⟩ : ∃ p, p = ps[i] := ⟨_, rfl⟩
  rw [<- hp] at hgp hfl hfe l0 l1 l2
  obtain ⟨M, hM⟩ : ∃ M, M = L ++ (ps.take i).flatMap (encD la lb) := ⟨_, rfl⟩
  have hMl : M.length = L.length + ((ps.take i).flatMap (encD la lb)).length := by rw [hM, List.length_append]
  rw [<- hM]
  refine e_condT (o_ v_fa0 (ln_ ?_))
  refine o_ (v_ia i rfl hi) ?_
  refine o_ v_fa (p_op l0 ?_)
  unfold I
  refine o_ v_eql ?_
  by_cases h0 : p.len = 0
  ·rw [dT_ h0]
   have he : encD la lb p = cwd la p.c.toNat := by unfold encD; rw [if_pos h0]
   rw [he] at hfl hfe
   have hc := p.c.toNat_lt
   refine e_condT (o_ v_fa0 (ln_ ?_))
   refine o_ (v_ia i rfl hi) ?_
   refine o_ v_fa (p_op l2 ?_)
   rw [show Sl.B p.c = .int .u8 (p.c.toNat : Int) from rfl]
   refine o_ (v_conv (q := .i64)) ?_
   rw [w64 (by omega) (by omega)]
   refine e_call (rput (L := M) (s := (p.c.toNat : Int)) rc1 r1) (.cons (by repeat constructor) (.cons (by repeat constructor) (.cons (by repeat constructor) .nil))) fun _ => ?_
   refine nr_ ?_
   rw [phL_cwd (by omega)]
   refine ad_ ?_
   refine e_next1 (m - 1) (by omega) (.ex (i + 1) (.all ?_))
   refine nr_ ?_
   rw [hfl, <- List.append_assoc, <- hM]
   refine .pu ⟨by omega, by rfl⟩ ?_
   exact im_
  ·rw [dF_ h0]
   obtain ⟨e1, e2, e3, e4⟩ : 3 <= p.len /\ p.len <= 258 /\ 1 <= p.dist /\ p.dist <= 32768 := by
    rcases hgp with h | h
    ·exact absurd h.1 h0
    ·exact h
   obtain ⟨s, x, k, hs, h1', h2', _, _, hx, hk5, _⟩ := lenS_ok e1 e2
   obtain ⟨t, y, j, ht, g1, _, _, hy, hj13, _⟩ := disS_ok e3 e4
   have he : encD la lb p = (cwd la (s : Int) ++ bitsOf x k) ++ (cwd lb (t : Int) ++ bitsOf y j) := by unfold encD; rw [if_neg h0, hs, ht]; simp only [Int.toNat_natCast]
   rw [he] at hfl hfe
   simp only [List.length_append, length_bitsOf] at hfe
   refine e_condF (o_ v_fa0 (ln_ ?_))
   refine o_ (v_ia i rfl hi) ?_
   refine o_ v_fa (p_op l0 ?_)
   unfold I
   refine c_ (rLength e1 e2) fun _ => ?_
   rw [hs]
   refine xt_ ?_; refine xt_ ?_; refine xt_ ?_; refine o_ v_fa0 (ln_ ?_)
   refine o_ (v_ia i rfl hi) ?_
   refine o_ v_fa (p_op l1 ?_)
   unfold I
   refine c_ (rDistance e3 e4) fun _ => ?_
   rw [ht]
   refine xt_ ?_; refine xt_ ?_; refine xt_ ?_
   refine e_call (rput (L := M) (s := (s : Int)) rc1 r1) (.cons (by repeat constructor) (.cons (by repeat constructor) (.cons (by repeat constructor) .nil))) fun _ => ?_
   refine nr_ ?_
   rw [phL_cwd (by omega)]
   refine c_ (xPut (l := M ++ cwd la (s : Int)) (n := (x : Int)) (k := (k : Int))) fun _ => ?_
   rw [putL_ok (by omega) hx (by rw [List.length_append]; omega)]
   refine e_call (rput (L := M ++ cwd la (s : Int) ++ bitsOf x k) (s := (t : Int)) rc2 r2) (.cons (by repeat constructor) (.cons (by repeat constructor) (.cons (by repeat constructor) .nil))) fun _ => ?_
   refine nr_ ?_
   rw [phL_cwd (by simp only [List.length_append, length_bitsOf]; omega)]
   refine c_ (xPut (l := M ++ cwd la (s : Int) ++ bitsOf x k ++ cwd lb (t : Int)) (n := (y : Int)) (k := (j : Int))) fun _ => ?_
   rw [putL_ok (by omega) hy (by simp only [List.length_append, length_bitsOf]; omega)]
   refine ad_ ?_
   refine e_next1 (m - 1) (by omega) (.ex (i + 1) (.all ?_))
   refine nr_ ?_
   rw [hfl, <- List.append_assoc, <- hM]
   simp only [<- List.append_assoc]
   refine .pu ⟨by omega, by rfl⟩ ?_
   exact im_
 ·rw [dF_ hlt]
  have hie : i = ps.length := by omega
  rw [hie, List.take_length]
  refine e_condF (e_call (rput (L := L ++ ps.flatMap (encD la lb)) (s := 256) rc1 r1) (.cons (by repeat constructor) (.cons (by repeat constructor) (.cons (by repeat constructor) .nil))) fun _ => ?_)
  refine nr_ ?_
  rw [phL_cwd (by rw [List.length_append]; omega), List.append_assoc, show ps.flatMap (encD la lb) ++ cwd la 256 = encX la lb ps from rfl]
  refine rt_ () ?_
  exact im_
theorem rstored {W : World} {w c : Nat} {a : Option Addr} {M : List Bool} {A : HP} {x : Blk} (hr : RdB W A a x.2.length (x.2.map Sl.B)) (hb : x.2.length <= 65535) (hM : M.length + 100 + 8 * x.2.length <= 8388608) :
  Cn p_ 57 [.pointer (some ⟨w, 0, none⟩), .slice a x.2.length c] W [IsX w M, A] (fun _ : Unit => .tuple #[]) (fun _ => [IsX w (stoX M x), A]) := by
 have hl := length_pad M
 have hp : (pk (padTo8 M ++ bitsOf x.2.length 16 ++ bitsOf (65535 - x.2.length) 16)).length <= (M.length + 7) / 8 + 4 := by
  rw [length_pk]; simp only [List.length_append, length_bitsOf]; omega
 have h8 : (padTo8 M ++ bitsOf x.2.length 16 ++ bitsOf (65535 - x.2.length) 16).length % 8 = 0 := by
  simp only [List.length_append, length_bitsOf]; omega
 have hrw : rawL (padTo8 M ++ bitsOf x.2.length 16 ++ bitsOf (65535 - x.2.length) 16) x.2 = stoX M x := by
  unfold rawL rawR
  rw [if_neg (show ¬ 1048576 < _ by omega), if_pos rfl]
  unfold stoX
  congr 1
  unfold padTo8 at h8 ⊢
  rw [h8]
  simp
 (refine S.ref06_stored_s.cn fun F => ?_; unfold S.ref06_stored; simp only [ca_, na_])
 refine c_ (xAlign (l := M)) fun _ => ?_
 refine o_ v_len (c_ (xPut (l := padTo8 M) (n := (x.2.length : Int)) (k := 16)) fun _ => ?_)
 rw [putL_i (e := x.2.length) (k := 16) (j := 16) rfl rfl (by omega) (by omega) (by omega)]
 refine o_ v_len (sb_ ?_)
 refine c_ (xPut (l := padTo8 M ++ bitsOf x.2.length 16) (n := 65535 - (x.2.length : Int)) (k := 16)) fun _ => ?_
 rw [putL_i (e := 65535 - x.2.length) (k := 16) (j := 16) (by omega) rfl (by omega) (by omega) (by rw [List.length_append, length_bitsOf]; omega)]
 refine e_call (xRaw (l := padTo8 M ++ bitsOf x.2.length 16 ++ bitsOf (65535 - x.2.length) 16) (cap := c) hr (rd_none_ hr) (by omega)) (.cons (by repeat constructor) (.cons (by repeat constructor) .nil)) fun _ => ?_
 refine nr_ ?_
 rw [hrw]
 refine rt_ () ?_
 exact im_
theorem xNewX {W : World} {p : Nat} {L L' M : List HP} (k : Pick L (pt p (.cells #[.slice none 0 0] 86)) L') (h : Imp W L' M) : Imp W L (IsX p [] :: M) := by
 refine .ex (none, 0) (.all ?_)
 refine nr_ ?_
 exact .pick k (imp_nil (.pu (by simp) h))
def wayB (k last : Nat) (x : Blk) : List Bool := bitsOf last 1 ++ bitsOf k 2 ++ (if k = 1 then fixX x else dynX x)
theorem wayB_len (k last : Nat) (x : Blk) : (wayB k last x).length = 3 + (if k = 1 then (fixX x).length else (dynX x).length) := by
 unfold wayB
 simp only [List.length_append, length_bitsOf]
 split <;> omega
theorem rway {W : World} {k last : Nat} {AL : HP} {x : Blk} {v : Bv} (hk : k = 1 \/ k = 2) (hl : last <= 1) (hA : RdB W AL v.1.1 (x.1.length * 3) (x.1.flatMap pPz)) (hg : goodB x) :
  Cn p_ 75 [.int .i64 (k : Int), .int .i64 (last : Int), bwV (x, v)] W [AL] (fun p : Nat => .pointer (some ⟨p, 0, none⟩)) (fun p => [IsX p (wayB k last x), AL]) := by
 have hpn := hg.pn
 have hfx := fixX_le (x := x) hg.g hpn
 have hdx := dynX_le (x := x) hg.g hpn
 obtain ⟨⟨la_, lc⟩, ⟨ba, bc⟩⟩ := v
 unfold bwV
 (try dsimp only at hA)
 (try dsimp only)
 (refine S.ref06_way_s.cn fun F => ?_; unfold S.ref06_way; simp only [ca_, na_])
 refine e_boxA fun b5 => ?_
 refine o_ v_rv ?_; refine e_boxA fun g => ?_
 rename Nat => p
 refine e_imp (M := IsX p [] :: pt b5 (.cells #[.slice la_ x.1.length lc, .slice ba x.2.length bc] 92) :: AL :: F) (xNewX (p := p) (by repeat constructor) .refl) ?_
 have hl' : (last : Int) = 0 \/ (last : Int) = 1 := by omega
 refine c_ (xPut (l := []) (n := (last : Int)) (k := 1)) fun _ => ?_
 rw [putL_i (e := last) (k := 1) (j := 1) rfl rfl (by omega) (by omega) (by simp)]
 refine c_ (xPut (l := [] ++ bitsOf last 1) (n := (k : Int)) (k := 2)) fun _ => ?_
 rw [putL_i (e := k) (k := 2) (j := 2) rfl rfl (by omega) (by omega) (by simp only [List.length_append, length_bitsOf, List.length_nil]; omega)]
 refine o_ v_eql ?_
 by_cases h1 : k = 1
 ·subst h1
  rw [dT_ (by rfl)]
  refine e_condT (c_ rfixed fun _ => ?_)
  rename_i qq
  obtain ⟨⟨qa, ka⟩, ⟨qb, kb⟩⟩ := qq
  (try dsimp only)
  refine xt_ ?_; refine xt_ ?_; refine lg_ ?_
  refine e_slfacts (by (repeat constructor) : Pick _ (Sl 1 3 qa ka litL.length (litL.map I)) _) fun _ _ _ fa => ?_
  refine e_slfacts (by (repeat constructor) : Pick _ (Sl 1 3 qb kb dstL.length (dstL.map I)) _) fun _ _ _ fb => ?_
  have ra : RdB W (Sl 1 3 qa ka litL.length (litL.map I)) qa litL.length (litL.map I) := rd_sl (by rw [List.length_map]) fa
  have rb : RdB W (Sl 1 3 qb kb dstL.length (dstL.map I)) qb dstL.length (dstL.map I) := rd_sl (by rw [List.length_map]) fb
  refine e_call (rsymbols (w := p) (L := [] ++ bitsOf last 1 ++ bitsOf 1 2) (c1 := ka) (c2 := kb) (pc := lc) (ba := ba) (bn := x.2.length) (bc := bc) (ps := x.1) hA (by omega) hg.g ra rb (by rw [lit_len]; omega) (by rw [dst_len]; omega) (by
   change _ + (fixX x).length <= _
   simp only [List.length_append, length_bitsOf, List.length_nil]; omega)) (.cons (by repeat constructor) (.cons (by repeat constructor) (.cons (by repeat constructor) (.cons (by repeat constructor) .nil)))) fun _ => ?_
  refine nr_ ?_
  rw [show bitsOf last 1 ++ bitsOf 1 2 ++ encX litL dstL x.1 = wayB 1 last x by unfold wayB fixX; rw [if_pos rfl, List.append_assoc]]
  refine rt_ p ?_
  exact im_
 ·have h2 : k = 2 := by omega
  subst h2
  rw [dF_ (by decide)]
  refine e_condF (o_ v_eql ?_)
  rw [dT_ (by rfl)]
  refine e_condT ?_
  obtain ⟨l1, l2⟩ := own_len (ps := x.1) (by omega)
  have v1 := lenV_b15 (frqA x.1) 15
  have v2 := lenV_b15 (frqB x.1) 15
  change ∀ z ∈ ownA x.1, 0 <= z /\ z <= 15 at v1
  change ∀ z ∈ ownB x.1, 0 <= z /\ z <= 15 at v2
  have hdx' : dynX x = hdX (ownA x.1) (ownB x.1) ++ encX (ownA x.1) (ownB x.1) x.1 := rfl
  have hwb : wayB 2 last x = [] ++ bitsOf last 1 ++ bitsOf 2 2 ++ hdX (ownA x.1) (ownB x.1) ++ encX (ownA x.1) (ownB x.1) x.1 := by
   unfold wayB dynX; rw [if_neg (by decide), List.nil_append]; simp only [List.append_assoc]
  rw [hdx', List.length_append] at hdx
  rw [hwb]
  have hO := rown (W := W) (pc := lc) (ba := ba) (bn := x.2.length) (bc := bc) (ps := x.1) hA (by omega) hg.g
  (try dsimp only at hO)
  clear hdx' hwb
  generalize ownA x.1 = A5 at *
  generalize ownB x.1 = B5 at *
  refine lg_ ?_
  refine c_ hO fun _ => ?_
  rename_i qq
  obtain ⟨⟨qa, ka⟩, ⟨qb, kb⟩⟩ := qq
  (try dsimp only)
  refine xt_ ?_; refine xt_ ?_
  refine e_slfacts (by (repeat constructor) : Pick _ (Sl 1 3 qa ka A5.length (A5.map I)) _) fun _ ca _ fa => ?_
  refine e_slfacts (by (repeat constructor) : Pick _ (Sl 1 3 qb kb B5.length (B5.map I)) _) fun _ cb _ fb => ?_
  have ra : RdB W (Sl 1 3 qa ka A5.length (A5.map I)) qa A5.length (A5.map I) := rd_sl (by rw [List.length_map]) fa
  have rb : RdB W (Sl 1 3 qb kb B5.length (B5.map I)) qb B5.length (B5.map I) := rd_sl (by rw [List.length_map]) fb
  obtain ⟨ga, rfl⟩ := fa (by omega)
  obtain ⟨gb, rfl⟩ := fb (by omega)
  refine e_call (rhead (w := p) (ga := ga) (gb := gb) (c1 := ka) (c2 := kb) (L := [] ++ bitsOf last 1 ++ bitsOf 2 2) v1 v2 l1 l2 ca cb (by simp only [List.length_append, length_bitsOf, List.length_nil]; omega)) (.cons (by repeat constructor) (.cons (by repeat constructor) (.cons (by repeat constructor) .nil))) fun _ => ?_
  refine nr_ ?_
  refine lg_ ?_
  refine e_call (rsymbols (w := p) (L := [] ++ bitsOf last 1 ++ bitsOf 2 2 ++ hdX A5 B5) (c1 := ka) (c2 := kb) (pc := lc) (ba := ba) (bn := x.2.length) (bc := bc) (ps := x.1) hA (by omega) hg.g ra rb (by omega) (by omega) (by
   simp only [List.length_append, length_bitsOf, List.length_nil]; omega)) (.cons (by repeat constructor) (.cons (by repeat constructor) (.cons (by repeat constructor) (.cons (by repeat constructor) .nil)))) fun _ => ?_
  refine nr_ ?_
  refine rt_ p ?_
  exact im_
def bestH (k g last : Nat) (x : Blk) : HP := if k = 0 then pu True else IsX g (wayB k last x)
def bestP (k g : Nat) : Value := if k = 0 then .pointer none else .pointer (some ⟨g, 0, none⟩)
theorem rput06 {W : World} {w last : Nat} {level : Int} {A : HP} {x : Blk} {v : Bv} {L : List Bool} (hl : last <= 1) (hA : RdB W A v.1.1 (x.1.length * 3) (x.1.flatMap pPz)) (hB : RdB W A v.2.1 x.2.length (x.2.map Sl.B)) (hg : goodB x) (hL : L.length <= 6000000) :
  Cn p_ 55 [.pointer (some ⟨w, 0, none⟩), bwV (x, v), .int .i64 level, .int .i64 (last : Int)] W [IsX w L, A] (fun _ : Unit => .tuple #[]) (fun _ => [IsX w (putX level L last x), A]) := by
 have hw := fun k hk => rway (W := W) (k := k) (last := last) (AL := A) (x := x) (v := v) hk hl hA hg
 have hb2 := best_le2 L.length level x
 have hpX : putX level L last x = wayX (best L.length level x) (L ++ bitsOf last 1 ++ bitsOf (best L.length level x) 2) x := rfl
 have hpl := (putX_len level L last x).2
 have hsl := sizX_le (x := x) 0 L.length hg
 have e1 : sizX 1 L.length x = (wayB 1 last x).length := by rw [wayB_len, if_pos rfl]; rfl
 have e2 : sizX 2 L.length x = (wayB 2 last x).length := by rw [wayB_len, if_neg (by decide)]; rfl
 have e0 : sizX 0 L.length x = 8 * ((L.length % 8 + 10) / 8) + 32 + 8 * x.2.length - L.length % 8 := rfl
 have hst0 : stoN L.length x = sizX 0 L.length x := rfl
 have hs1 := sizX_le (x := x) 1 L.length hg
 have hs2 := sizX_le (x := x) 2 L.length hg
 have hbd : best L.length level x = if ¬ 0 < level then 0 else if sizX 2 L.length x < (if sizX 1 L.length x < sizX 0 L.length x then sizX 1 L.length x else sizX 0 L.length x) then 2 else if sizX 1 L.length x < sizX 0 L.length x then 1 else 0 := rfl
 have hbn := hg.bn
 rw [hpX] at hpl
 rw [hpX]
 rw [hst0] at hpl
 rw [e1, e2] at hbd
 rw [e1] at hs1
 rw [e2] at hs2
 obtain ⟨s0, hs0⟩ : ∃ s0, s0 = sizX 0 L.length x := ⟨_, rfl⟩
 rw [<- hs0] at hbd e0 hsl hpl
 obtain ⟨bst_, hbst⟩ : ∃ bst_, bst_ = best L.length level x := ⟨_, rfl⟩
 rw [<- hbst] at hb2 hpl hbd ⊢
 obtain ⟨⟨la, lc⟩, ⟨ba, bc⟩⟩ := v
 unfold bwV at hw ⊢
 (try dsimp only at hw hA hB)
 (try dsimp only)
 (refine S.ref06_put_s.cn fun F => ?_; unfold S.ref06_put; simp only [ca_, na_])
 refine e_boxA fun b5 => ?_
 obtain ⟨T, hT⟩ : ∃ T, T = 8 * ((L.length % 8 + 10) / 8) - L.length % 8 := ⟨_, rfl⟩
 refine e_loop1 (fun m y => pu (∃ k : Nat, 3 <= k /\ m + k = T /\ y = .int .i64 (k : Int)) :: IsX w L :: pt b5 (.cells #[.slice la x.1.length lc, .slice ba x.2.length bc] 92) :: A :: F) (T - 3) ?_ ?_
 ·refine .pu ⟨3, by omega, by omega, rfl⟩ ?_
  exact im_
 intro m ds y
 refine e_pu .here fun hk => ?_
 obtain ⟨k, hk3, hmk, rfl⟩ := hk
 refine e_ex .here fun qx => e_all .here ?_
 refine nr_ ?_
 refine o_ v_nil (o_ v_fa0 (ln_ ?_)); refine o_ v_len (ad_ ?_); (((refine o_ (v_rem ?h1 ?h2) ?_); (case h1 => omega); (case h2 => omega)))
 refine o_ v_neq ?_
 by_cases hm : m = 0
 rotate_left
 ·rw [dT_ (by omega)]
  refine e_condT (ad_ ?_)
  refine e_next1 (m - 1) (by omega) (.pu ⟨k + 1, by omega, by omega, by rfl⟩ ?_)
  refine .ex qx (.all ?_)
  refine nr_ ?_
  exact im_
 rw [dF_ (by omega)]
 refine e_condF (ad_ ?_); refine o_ v_fa0 (ln_ ?_); refine o_ v_len ?_; (refine o_ (v_mul (by omega) (by omega)) ?_); refine ad_ ?_
 refine e_imp (M := IsX w L :: pt b5 (.cells #[.slice la x.1.length lc, .slice ba x.2.length bc] 92) :: A :: F) ?_ ?_
 ·refine .ex qx (.all ?_)
  refine nr_ ?_
  exact im_
 obtain ⟨s1, hs1'⟩ : ∃ s1, s1 = (wayB 1 last x).length := ⟨_, rfl⟩
 obtain ⟨s2, hs2'⟩ : ∃ s2, s2 = (wayB 2 last x).length := ⟨_, rfl⟩
 rw [<- hs1'] at hbd hs1
 rw [<- hs2'] at hbd hs2
 have hls : (k : Int) + 32 + 8 * (x.2.length : Int) = (s0 : Int) := by omega
 rw [hls]
 refine e_loop3 (fun m y z u => (ex fun q : Nat × Nat × Nat => all [pu (m + q.1 = 2 /\ u = .int .i64 ((q.1 : Int) + 1) /\ z = bestP q.2.1 q.2.2 /\ y = .int .i64 ((if q.2.1 = 0 then s0 else if q.2.1 = 1 then s1 else s2 : Nat) : Int) /\ ((q.1 = 0 /\ q.2.1 = 0) \/ (0 < level /\ q.1 = 1 /\ q.2.1 = if s1 < s0 then 1 else 0) \/ (0 < level /\ q.1 = 2 /\ q.2.1 = bst_))), bestH q.2.1 q.2.2 last x]) :: IsX w L :: pt b5 (.cells #[.slice la x.1.length lc, .slice ba x.2.length bc] 92) :: A :: F) 2 ?_ ?_
 ·refine .ex (0, 0, 0) (.all ?_)
  refine nr_ ?_
  refine .pu ⟨rfl, rfl, rfl, rfl, .inl ⟨rfl, rfl⟩⟩ ?_
  unfold bestH
  rw [if_pos rfl]
  exact .pu trivial im_
 intro m3 ds3 y z u
 refine e_ex .here fun q => e_all .here ?_
 obtain ⟨i, bk, g⟩ := q
 refine nr_ ?_
 (try dsimp only)
 refine e_pu .here fun hq => ?_
 obtain ⟨hmi, rfl, rfl, rfl, hrel⟩ := hq
 refine o_ v_leq ?_
 by_cases hgo : (i : Int) + 1 <= 2 /\ 0 < level
 ·obtain ⟨hi2, hlv⟩ := hgo
  rw [dT_ hi2]
  refine e_gdT (e_gdT (o_ v_gtr ?_))
  rw [dT_ hlv]
  refine o_ v_pickT (e_condT (lg_ ?_))
  rw [if_neg (fun h => h hlv)] at hbd
  have hk12 : i + 1 = 1 \/ i + 1 = 2 := by omega
  refine e_call (hw (i + 1) hk12) (.cons (by repeat constructor) .nil) fun g2 => ?_
  refine nr_ ?_
  refine e_ex .here fun qz => e_all .here ?_
  refine nr_ ?_
  obtain ⟨lw, hlw⟩ : ∃ lw, lw = (wayB (i + 1) last x).length := ⟨_, rfl⟩
  have hlw' : lw = if i = 0 then s1 else s2 := by
   rw [hlw]
   rcases hk12 with h | h
   ·rw [if_pos (by omega), hs1', h]
   ·rw [if_neg (by omega), hs2', h]
  obtain ⟨cur, hcur⟩ : ∃ cur, cur = (if bk = 0 then s0 else if bk = 1 then s1 else s2) := ⟨_, rfl⟩
  rw [<- hlw, <- hcur]
  refine o_ v_nil (o_ v_fa0 (ln_ ?_)); refine o_ v_len (o_ v_lss ?_)
  by_cases hc : (lw : Int) < (cur : Int)
  ·rw [dT_ hc]
   refine e_condT (o_ v_nil (o_ v_fa0 (ln_ ?_))); refine o_ v_len (ad_ ?_)
   refine e_next3 (m3 - 1) (by omega) (.ex (i + 1, i + 1, g2) (.all ?_))
   refine nr_ ?_
   (try dsimp only)
   refine .pu ⟨by omega, by rfl, ?_, ?_, ?_⟩ ?_
   ·unfold bestP; rw [if_neg (by omega)]
   ·rw [if_neg (by omega), hlw']
    congr 2
    rcases hk12 with h | h
    ·rw [if_pos (by omega), if_pos (by omega)]
    ·rw [if_neg (by omega), if_neg (by omega)]
   ·rcases hrel with ⟨h1, h2⟩ | ⟨_, h1, h2⟩ | ⟨_, h1, h2⟩
    ·refine .inr (.inl ⟨hlv, by omega, ?_⟩)
     rw [if_pos h2] at hcur
     rw [if_pos h1] at hlw'
     rw [if_pos (by omega)]; omega
    ·refine .inr (.inr ⟨hlv, by omega, ?_⟩)
     rw [if_neg (by omega)] at hlw'
     have hcu : cur = if s1 < s0 then s1 else s0 := by
      rw [hcur, h2]; split <;> simp
     rw [hbd, if_pos (by omega)]; omega
    ·omega
   unfold bestH
   rw [if_neg (show ¬ i + 1 = 0 by omega)]
   refine .ex qz (.all ?_)
   refine nr_ ?_
   rw [<- hlw]
   exact im_
  ·rw [dF_ hc]
   refine e_condF (ad_ ?_)
   refine e_next3 (m3 - 1) (by omega) (.ex (i + 1, bk, g) (.all ?_))
   refine nr_ ?_
   (try dsimp only)
   refine .pu ⟨by omega, by rfl, by rfl, by rw [hcur], ?_⟩ ?_
   ·rcases hrel with ⟨h1, h2⟩ | ⟨_, h1, h2⟩ | ⟨_, h1, h2⟩
    ·refine .inr (.inl ⟨hlv, by omega, ?_⟩)
     rw [if_pos h2] at hcur
     rw [if_pos h1] at hlw'
     rw [if_neg (by omega)]; omega
    ·refine .inr (.inr ⟨hlv, by omega, ?_⟩)
     rw [if_neg (by omega)] at hlw'
     have hcu : cur = if s1 < s0 then s1 else s0 := by
      rw [hcur, h2]; split <;> simp
     rw [hbd, if_neg (by omega), h2]
    ·omega
   exact im_
 ·have hbk : bk = bst_ := by
   rcases hrel with ⟨h1, h2⟩ | ⟨hlv, h1, h2⟩ | ⟨_, h1, h2⟩
   ·rw [if_pos (by omega)] at hbd; omega
   ·omega
   ·exact h2
  subst hbk
  by_cases hi2 : (i : Int) + 1 <= 2
  ·have hlv : ¬ 0 < level := fun h => hgo ⟨hi2, h⟩
   rw [dT_ hi2]
   refine e_gdT (e_gdT (o_ v_gtr ?_))
   rw [dF_ hlv]
   refine o_ v_pickT (e_condF ?_)
   by_cases h0 : bk = 0
   ·subst h0
    unfold bestP bestH
    rw [if_pos rfl]
    refine e_pu .here fun _ => ?_
    refine o_ v_neNil0 ?_; refine e_condF (c_ (xPut (l := L) (n := (last : Int)) (k := 1)) fun _ => ?_)
    rw [putL_i (e := last) (k := 1) (j := 1) rfl rfl (by omega) (by omega) (by omega)]
    refine c_ (xPut (l := L ++ bitsOf last 1) (n := 0) (k := 2)) fun _ => ?_
    rw [putL_i (n := 0) (e := 0) (k := 2) (j := 2) rfl rfl (by omega) (by omega) (by rw [List.length_append, length_bitsOf]; omega)]
    refine o_ v_fa0 (ln_ ?_)
    refine e_call (rstored (w := w) (c := bc) (M := L ++ bitsOf last 1 ++ bitsOf 0 2) (x := x) hB (by omega) (by simp only [List.length_append, length_bitsOf]; omega)) (.cons (by repeat constructor) (.cons (by repeat constructor) .nil)) fun _ => ?_
    refine nr_ ?_
    rw [show wayX 0 (L ++ bitsOf last 1 ++ bitsOf 0 2) x = stoX (L ++ bitsOf last 1 ++ bitsOf 0 2) x by unfold wayX; rw [if_pos rfl]]
    refine rt_ () ?_
    exact im_
   ·have hwx : wayX bk (L ++ bitsOf last 1 ++ bitsOf bk 2) x = L ++ wayB bk last x := by
     unfold wayX wayB
     rw [if_neg h0]
     rcases (show bk = 1 \/ bk = 2 by omega) with h | h
     ·rw [if_pos h, if_pos h]; simp only [List.append_assoc]
     ·rw [if_neg (by omega), if_neg (by omega)]; simp only [List.append_assoc]
    rw [hwx, List.length_append] at hpl
    rw [hwx]
    unfold bestP bestH
    rw [if_neg h0, if_neg h0]
    obtain ⟨Y, hY⟩ : ∃ Y, Y = wayB bk last x := ⟨_, rfl⟩
    rw [<- hY] at hpl ⊢
    clear hwx
    refine e_ex .here fun qz => e_all .here ?_
    refine nr_ ?_
    refine e_ex (by repeat constructor) fun qw => e_all .here ?_
    refine nr_ ?_
    obtain ⟨za, zc⟩ := qz
    obtain ⟨wa, wc⟩ := qw
    (try dsimp only)
    refine o_ v_neNil1 ?_; refine e_condT (e_drS (t_ v_nil (t_ v_fa0 (ls_ ?_)))); refine t_ v_nil (t_ v_fa0 (ls_ ?_))
    refine e_slfacts (by (repeat constructor) : Pick _ (Sl 1 5 za zc Y.length (Y.map fun b => Sl.B (bb b))) _) fun _ _ _ fz => ?_
    have rz : RdB W (Sl 1 5 za zc Y.length (Y.map fun b => Sl.B (bb b))) za Y.length (Y.map fun b => Sl.B (bb b)) := rd_sl (by rw [List.length_map]) fz
    refine e_app (m := Y.length) (news := Y.map fun b => Sl.B (bb b)) (.there .here) (src_rd (A := Sl 1 5 za zc Y.length (Y.map fun b => Sl.B (bb b))) (e' := 5) (by kernel_rfl) (by repeat constructor) rz (fun c => by
     rcases Nat.eq_zero_or_pos Y.length with h | h
     ·exact h
     ·obtain ⟨g', hg'⟩ := fz h
      rw [c] at hg'; cases hg') (fun u hu => by obtain ⟨y, _, rfl⟩ := List.mem_map.1 hu; rfl)) (by omega) (by omega) fun a1 k1 => ?_
    rw [<- List.map_append, <- List.length_append]
    refine t_ v_nil (t_ v_fa0 (sn_ ?_))
    refine rt_ () ?_
    refine .ex (a1, k1) (.all ?_)
    refine nr_ ?_
    refine .pick (by repeat constructor) (.pick (by repeat constructor) (.pu (by rw [List.length_append]; omega) ?_))
    exact im_
  ·rw [dF_ hi2]
   refine e_gdF2 (e_gdF2 (o_ v_pickF (e_condF ?_)))
   by_cases h0 : bk = 0
   ·subst h0
    unfold bestP bestH
    rw [if_pos rfl]
    refine e_pu .here fun _ => ?_
    refine o_ v_neNil0 ?_; refine e_condF (c_ (xPut (l := L) (n := (last : Int)) (k := 1)) fun _ => ?_)
    rw [putL_i (e := last) (k := 1) (j := 1) rfl rfl (by omega) (by omega) (by omega)]
    refine c_ (xPut (l := L ++ bitsOf last 1) (n := 0) (k := 2)) fun _ => ?_
    rw [putL_i (n := 0) (e := 0) (k := 2) (j := 2) rfl rfl (by omega) (by omega) (by rw [List.length_append, length_bitsOf]; omega)]
    refine o_ v_fa0 (ln_ ?_)
    refine e_call (rstored (w := w) (c := bc) (M := L ++ bitsOf last 1 ++ bitsOf 0 2) (x := x) hB (by omega) (by simp only [List.length_append, length_bitsOf]; omega)) (.cons (by repeat constructor) (.cons (by repeat constructor) .nil)) fun _ => ?_
    refine nr_ ?_
    rw [show wayX 0 (L ++ bitsOf last 1 ++ bitsOf 0 2) x = stoX (L ++ bitsOf last 1 ++ bitsOf 0 2) x by unfold wayX; rw [if_pos rfl]]
    refine rt_ () ?_
    exact im_
   ·have hwx : wayX bk (L ++ bitsOf last 1 ++ bitsOf bk 2) x = L ++ wayB bk last x := by
     unfold wayX wayB
     rw [if_neg h0]
     rcases (show bk = 1 \/ bk = 2 by omega) with h | h
     ·rw [if_pos h, if_pos h]; simp only [List.append_assoc]
     ·rw [if_neg (by omega), if_neg (by omega)]; simp only [List.append_assoc]
    rw [hwx, List.length_append] at hpl
    rw [hwx]
    unfold bestP bestH
    rw [if_neg h0, if_neg h0]
    obtain ⟨Y, hY⟩ : ∃ Y, Y = wayB bk last x := ⟨_, rfl⟩
    rw [<- hY] at hpl ⊢
    clear hwx
    refine e_ex .here fun qz => e_all .here ?_
    refine nr_ ?_
    refine e_ex (by repeat constructor) fun qw => e_all .here ?_
    refine nr_ ?_
    obtain ⟨za, zc⟩ := qz
    obtain ⟨wa, wc⟩ := qw
    (try dsimp only)
    refine o_ v_neNil1 ?_; refine e_condT (e_drS (t_ v_nil (t_ v_fa0 (ls_ ?_)))); refine t_ v_nil (t_ v_fa0 (ls_ ?_))
    refine e_slfacts (by (repeat constructor) : Pick _ (Sl 1 5 za zc Y.length (Y.map fun b => Sl.B (bb b))) _) fun _ _ _ fz => ?_
    have rz : RdB W (Sl 1 5 za zc Y.length (Y.map fun b => Sl.B (bb b))) za Y.length (Y.map fun b => Sl.B (bb b)) := rd_sl (by rw [List.length_map]) fz
    refine e_app (m := Y.length) (news := Y.map fun b => Sl.B (bb b)) (.there .here) (src_rd (A := Sl 1 5 za zc Y.length (Y.map fun b => Sl.B (bb b))) (e' := 5) (by kernel_rfl) (by repeat constructor) rz (fun c => by
     rcases Nat.eq_zero_or_pos Y.length with h | h
     ·exact h
     ·obtain ⟨g', hg'⟩ := fz h
      rw [c] at hg'; cases hg') (fun u hu => by obtain ⟨y, _, rfl⟩ := List.mem_map.1 hu; rfl)) (by omega) (by omega) fun a1 k1 => ?_
    rw [<- List.map_append, <- List.length_append]
    refine t_ v_nil (t_ v_fa0 (sn_ ?_))
    refine rt_ () ?_
    refine .ex (a1, k1) (.all ?_)
    refine nr_ ?_
    refine .pick (by repeat constructor) (.pick (by repeat constructor) (.pu (by rw [List.length_append]; omega) ?_))
    exact im_
theorem rDeflate {W : World} {a : Option Addr} {c : Nat} {level : Int} {b : List UInt8} {A : HP} (hA : RdB W A a b.length (b.map Sl.B)) (hc : b.length <= c) :
  Cn p_ 42 [.slice a b.length c, .int .i64 level] W [A] (fun q : Option Addr × Nat => .tuple #[.slice q.1 (dflB b level).length q.2, .int .i64 (dflE b level)]) (fun q => [Sl 1 5 q.1 q.2 (dflB b level).length ((dflB b level).map Sl.B), A]) := by
 have bad : ∀ (e : Int) (L : List HP), dflE b level = e -> e ≠ 0 -> Ent W (A :: L) (fun w => ∃ q : Option Addr × Nat, (.tuple #[.slice none 0 0, .int .i64 e] : Value) = .tuple #[.slice q.1 (dflB b level).length q.2, .int .i64 (dflE b level)] /\ sat W ([Sl 1 5 q.1 q.2 (dflB b level).length ((dflB b level).map Sl.B), A] ++ L) w) := by
  intro e L h h0
  have hv : dflB b level = [] := by unfold dflB; rw [if_neg (by rw [h]; exact h0)]
  rw [h, hv]
  refine e_ret (none, 0) rfl ?_
  exact imp_nil .refl
 (refine S.ref06_Deflate_s.cn fun F => ?_; unfold S.ref06_Deflate; simp only [ca_, na_])
 refine o_ v_lss ?_
 by_cases hw1 : level < 0
 ·rw [dT_ hw1]
  exact e_gdF1 (e_gdF1 (o_ v_pickT (e_condT (bad 1 F (by unfold dflE; rw [if_pos (.inl hw1)]) (by decide)))))
 rw [dF_ hw1]
 refine e_gdT (e_gdT (o_ v_gtr ?_))
 by_cases hw2 : 9 < level
 ·rw [dT_ hw2]
  exact o_ v_pickF (e_condT (bad 1 F (by unfold dflE; rw [if_pos (.inr hw2)]) (by decide)))
 rw [dF_ hw2]
 have hw : ¬ (level < 0 \/ 9 < level) := fun h => h.elim hw1 hw2
 refine o_ v_pickF (e_condF (o_ v_len (o_ v_gtr ?_)))
 by_cases hs : (524288 : Int) < (b.length : Int)
 ·rw [dT_ hs]
  exact e_condT (bad 6 F (by unfold dflE; rw [if_neg hw, if_pos (by omega)]) (by decide))
 rw [dF_ hs]
 have hE : dflE b level = 0 := by unfold dflE; rw [if_neg hw, if_neg (by omega)]
 have hlv : 0 <= level := by omega
 have hbl : b.length <= 524288 := by omega
 refine e_condF (o_ v_rv ?_); refine e_boxA fun g => ?_
 rename Nat => w
 refine e_imp (M := IsX w [] :: A :: F) (xNewX (p := w) (by repeat constructor) .refl) ?_
 refine e_call (rblocks (c := c) (level := level) hA hc (by omega) (by omega)) (.cons (by repeat constructor) .nil) fun q => ?_
 obtain ⟨⟨xa, xc⟩, X⟩ := q
 refine nr_ ?_
 refine e_pu .here fun hX => ?_
 (try dsimp only at hX)
 (try dsimp only)
 obtain ⟨hXf, hXk⟩ := hX
 obtain ⟨hG, hn⟩ := blks_G b hlv
 have hXl : X.length = (blksF b level).length := by rw [<- hXf, List.length_map]
 have hbnd := puts0_bnd (b := b) (level := level) hlv hbl
 have hXb : X.length <= 1000 := by omega
 have hne := blks_ne b level
 have hpos : 0 < X.length := by rw [hXl]; exact List.length_pos_iff.2 hne
 have hdX : dflX b level = pgX level (blksF b level) X.length := by unfold pgX dflX; rw [if_neg (by omega)]
 have hdB : dflB b level = pk (dflX b level) := by unfold dflB; rw [if_pos hE]
 refine e_slsome .here hpos fun gx hgx => ?_
 subst hgx
 refine e_loop1 (fun m y => (ex fun i : Nat => all [pu (m + i = X.length /\ y = .int .i64 (i : Int)), IsX w (pgX level (blksF b level) i)]) :: Sl 2 92 (some ⟨gx, 0, none⟩) xc X.length (X.flatMap bwC) :: BAr X :: A :: F) X.length ?_ ?_
 ·refine .ex 0 (.all ?_)
  refine nr_ ?_
  refine .pu ⟨by omega, rfl⟩ ?_
  rw [show pgX level (blksF b level) 0 = [] by unfold pgX; rw [if_pos (by omega)]; rfl]
  exact im_
 intro m ds y
 refine e_ex .here fun i => e_all .here ?_
 refine nr_ ?_
 refine e_pu .here fun hi => ?_
 obtain ⟨hmi, rfl⟩ := hi
 refine o_ v_len (o_ v_lss ?_)
 by_cases hlt : (i : Int) < (X.length : Int)
 ·rw [dT_ hlt]
  have hi : i < X.length := by omega
  have hib : i < (blksF b level).length := by omega
  have hk := hXk _ (List.getElem_mem hi)
  have hx1 : X[i].1 = (blksF b level)[i] := by
   have := List.getElem_map (f := Prod.fst) (l := X) (i := i) (h := by rw [List.length_map]; exact hi)
   rw [<- this]
   congr 1
  obtain ⟨fr, hok⟩ := blkG_all hG _ (List.getElem_mem hib)
  have hst := pg_step (level := level) hib
  have hLi : (pgX level (blksF b level) i).length <= 6000000 := by unfold pgX; rw [if_pos hib]; exact hbnd i
  rw [<- hx1] at hok hst
  refine e_condT ?_
  have ld : RunV p_ W [Sl 2 92 (some ⟨gx, 0, none⟩) xc X.length (X.flatMap bwC)] (sLoad 92 (.pointer (some ⟨gx, 0 + i * 2, none⟩))) (bwV X[i]) := v_ldRdG (vs := bwC X[i]) (rd_slG (bw_len _) (fun _ => ⟨gx, rfl⟩)) rfl (fun j hj => bw_get hi hj)
  refine e_cut1 (fun z => pu (z = .int .i64 ((if i + 1 = X.length then 1 else 0 : Nat) : Int)) :: IsX w (pgX level (blksF b level) i) :: Sl 2 92 (some ⟨gx, 0, none⟩) xc X.length (X.flatMap bwC) :: BAr X :: A :: F) ?_ ?_
  rotate_left
  ·(refine o_ v_len ?_); refine sb_ ?_
   refine o_ v_eql ?_
   by_cases hz : (i : Int) = (X.length : Int) - 1
   ·rw [dT_ hz]
    refine e_condT (e_sat (.pu (by rw [if_pos (by omega)]; rfl) ?_))
    exact im_
   ·rw [dF_ hz]
    refine e_condF (e_sat (.pu (by rw [if_neg (by omega)]; rfl) ?_))
    exact im_
  intro ds z
  refine e_pu .here fun hz => ?_
  subst hz
  refine o_ (v_ia i (by rfl) hi) ?_
  refine p_op ld ?_
  refine e_call (rput06 (w := w) (x := X[i].1) (v := X[i].2) (last := if i + 1 = X.length then 1 else 0) (L := pgX level (blksF b level) i) (level := level) (by split <;> omega) (bar_l (List.getElem_mem hi) hk) (bar_b (List.getElem_mem hi) hk) (okBk.good hok) hLi) (.cons (by repeat constructor) (.cons (by repeat constructor) .nil)) fun _ => ?_
  refine nr_ ?_
  refine ad_ ?_
  refine e_next1 (m - 1) (by omega) (.ex (i + 1) (.all ?_))
  refine nr_ ?_
  rw [hst, hXl]
  refine .pu ⟨by omega, by norm_cast⟩ ?_
  exact im_
 ·rw [dF_ hlt]
  have hie : i = X.length := by omega
  subst hie
  rw [<- hdX]
  refine e_condF (c_ (xBytes (l := dflX b level)) fun _ => ?_)
  rename_i q
  rw [hdB, hE]
  refine rt_ q ?_
  exact im_
end Go.Proofs.YthoeeahdkdcceaaGreat.IF
namespace Go.Proofs.YthoeeahdkdcceaaGreat.GZ
open Go Go.Proofs Go.RowKit Sh Sl T IF
theorem shr1 {n : Nat} : ((n : Int).fdiv (2 ^ (min ((1 : Int)).toNat IntKind.u32.bits))) = ((n / 2 : Nat) : Int) := shr32 (n := n) (k := 1) (by decide)
theorem rAdd {W : World} {s : Nat} {a : Option Addr} {c : Nat} {b : List UInt8} {A : HP} (hs : s < 4294967296) (hr : RdB W A a b.length (b.map Sl.B)) (hb : b.length <= 4611686018427387904) :
  Cn p_ 16 [.int .u32 (s : Int), .slice a b.length c] W [A] (fun _ : Unit => .int .u32 (addF s b : Int)) (fun _ => [A]) := by
 (refine S.ref07_Add_s.cn fun F => ?_; unfold S.ref07_Add; simp only [ca_, na_])
 refine o_ (v_inv hs) ?_
 refine e_loop2 (fun m y z => pu (∃ i : Nat, m + i = b.length /\ y = .int .u32 (crcF (inv s) (b.take i) : Int) /\ z = .int .i64 (i : Int)) :: A :: F) b.length ?_ ?_
 ·refine .pu ⟨0, by omega, rfl, rfl⟩ ?_
  exact im_
 intro m ds y z
 refine e_pu .here fun hk => ?_
 obtain ⟨i, hmi, rfl, rfl⟩ := hk
 refine o_ v_len (o_ v_lss ?_)
 by_cases hlt : (i : Int) < (b.length : Int)
 ·rw [dT_ hlt]
  have hi : i < b.length := by omega
  obtain ⟨g, o, rfl, _⟩ := hr.at_ (by omega)
  have hst : crcF (inv s) (b.take (i + 1)) = tbl ((crcF (inv s) (b.take i) % 256) ^^^ b[i].toNat) ^^^ (crcF (inv s) (b.take i) / 256) := by
   rw [List.take_succ_eq_append_getElem hi, crcF_snoc]
  have hcl := crcF_lt (b.take i) (inv_lt hs)
  obtain ⟨C, hC⟩ : ∃ C, C = crcF (inv s) (b.take i) := ⟨_, rfl⟩
  rw [<- hC] at hst hcl ⊢
  have hx := b[i].toNat_lt
  refine e_condT (o_ (v_ia1 i rfl hi) ?_)
  refine p_op (v_ldRd hr (v := .int .u8 (b[i].toNat : Int)) (B_get hi)) ?_
  refine o_ (v_conv (q := .u32)) ?_
  obtain ⟨x, hxe⟩ : ∃ x, x = b[i].toNat := ⟨_, rfl⟩
  rw [<- hxe] at hst hx ⊢
  rw [wrapu32 (by omega)]
  refine e_loop3 (fun m y z u => pu (∃ k : Nat, m + k = 8 /\ y = .int .u32 (bitR C x k : Int) /\ z = .int .u32 ((x / 2 ^ k : Nat) : Int) /\ u = .int .i64 (k : Int)) :: A :: F) 8 ?_ ?_
  ·refine .pu ⟨0, rfl, by rw [bitR_0], by rw [Nat.pow_zero, Nat.div_one], rfl⟩ ?_
   exact im_
  intro m8 ds8 y z u
  refine e_pu .here fun hk => ?_
  obtain ⟨k, hmk, rfl, rfl, rfl⟩ := hk
  refine o_ v_lss ?_
  by_cases hk8 : (k : Int) < 8
  ·rw [dT_ hk8]
   refine e_condT ?_
   have hbl := bitR_lt (k := k) hcl (show x < 256 from hx)
   have hxl : x / 2 ^ k < 4294967296 := Nat.lt_of_le_of_lt (Nat.div_le_self _ _) (by omega)
   have hsu := bitR_succ C x k
   have hx2 : x / 2 ^ k / 2 = x / 2 ^ (k + 1) := by rw [Nat.pow_succ, Nat.div_div_eq_div_mul]
   refine o_ v_xor ?_
   rw [xor32 hbl hxl]
   refine o_ v_and ?_
   rw [and1_32 (xor_lt32 hbl hxl)]
   refine o_ v_eql (o_ (v_shr (by decide)) ?_)
   rw [shr1]
   refine o_ (v_shr (by decide)) ?_
   rw [shr1, hx2]
   obtain ⟨X, hX⟩ : ∃ X, X = bitR C x k ^^^ x / 2 ^ k := ⟨_, rfl⟩
   rw [<- hX] at hsu ⊢
   by_cases hp : X % 2 = 1
   ·rw [if_pos hp] at hsu
    rw [dT_ (by omega)]
    refine e_condT (o_ v_xor ?_)
    rw [show (3988292384 : Int) = ((3988292384 : Nat) : Int) from rfl, xor32 (by omega) (by decide), show bitR C x k / 2 ^^^ 3988292384 = bitR C x (k + 1) from hsu.symm]
    refine ad_ ?_
    refine e_next3 (m8 - 1) (by omega) (.pu ⟨k + 1, by omega, rfl, rfl, by rfl⟩ ?_)
    exact im_
   ·rw [if_neg hp] at hsu
    rw [dF_ (by omega), <- hsu]
    refine e_condF (ad_ ?_)
    refine e_next3 (m8 - 1) (by omega) (.pu ⟨k + 1, by omega, rfl, rfl, by rfl⟩ ?_)
    exact im_
  obtain rfl : k = 8 := by omega
  rw [dF_ hk8, bitR_8 C hx, <- hst]
  refine e_condF (ad_ ?_)
  refine e_next2 (m - 1) (by omega) (.pu ⟨i + 1, by omega, rfl, by rfl⟩ ?_)
  exact im_
 have hie : i = b.length := by omega
 subst hie
 have hcl := crcF_lt b (inv_lt hs)
 rw [dF_ hlt, List.take_length]
 refine e_condF (o_ (v_inv hcl) ?_)
 refine rt_ () ?_
 exact im_
theorem rCrc {W : World} {a : Option Addr} {c : Nat} {b : List UInt8} {A : HP} (hr : RdB W A a b.length (b.map Sl.B)) (hb : b.length <= 4611686018427387904) :
  Cn p_ 14 [.slice a b.length c] W [A] (fun _ : Unit => .int .u32 (crc b : Int)) (fun _ => [A]) := by
 (refine S.ref07_Crc_s.cn fun F => ?_; unfold S.ref07_Crc; simp only [ca_, na_])
 refine c_ (rAdd (s := 0) (by decide) hr hb) fun _ => ?_
 refine rt_ () ?_
 exact .refl
theorem rfour {W : World} {n : Nat} (hn : n < 4294967296) :
  Cn p_ 63 [.int .u32 (n : Int)] W [] (fun q : Nat => .slice (some ⟨q, 0, none⟩) (four n).length (four n).length) (fun q => [Sl 1 5 (some ⟨q, 0, none⟩) (four n).length (four n).length ((four n).map Sl.B)]) := by
 (refine S.ref07_four_s.cn fun F => ?_; unfold S.ref07_four; simp only [ca_, na_])
 refine o_ (v_conv (q := .u8)) ?_
 rw [wrapu8m]
 refine o_ (v_shr (by decide)) ?_
 rw [show (8 : Int) = ((8 : Nat) : Int) from rfl, shr32 (by omega)]
 refine o_ (v_conv (q := .u8)) ?_
 rw [wrapu8m]
 refine o_ (v_shr (by decide)) ?_
 rw [show (16 : Int) = ((16 : Nat) : Int) from rfl, shr32 (by omega)]
 refine o_ (v_conv (q := .u8)) ?_
 rw [wrapu8m]
 refine o_ (v_shr (by decide)) ?_
 rw [show (24 : Int) = ((24 : Nat) : Int) from rfl, shr32 (by omega)]
 refine o_ (v_conv (q := .u8)) ?_
 rw [wrapu8m]
 have hf : (four n).map Sl.B = [.int .u8 ((n % 256 : Nat) : Int), .int .u8 ((n / 2 ^ 8 % 256 : Nat) : Int), .int .u8 ((n / 2 ^ 16 % 256 : Nat) : Int), .int .u8 ((n / 2 ^ 24 % 256 : Nat) : Int)] := by
  unfold four
  simp only [List.map_cons, List.map_nil]
  rw [Go.Proofs.YthoeeahdkdcceaaGreat.M.B_ofNat (by omega), Go.Proofs.YthoeeahdkdcceaaGreat.M.B_ofNat (by omega), Go.Proofs.YthoeeahdkdcceaaGreat.M.B_ofNat (by omega), Go.Proofs.YthoeeahdkdcceaaGreat.M.B_ofNat (by omega)]
 refine e_bslN (vs := (four n).map Sl.B) rfl (by rw [hf]; rfl) (by intro v hv; obtain ⟨c, _, rfl⟩ := List.mem_map.1 hv; rfl) (by omega) fun gd => ?_
 refine e_own (s := 1) (e := 5) (cs := (four n).map Sl.B) (n := 4) .here rfl (by decide) ?_
 refine rt_ gd ?_
 exact im_
theorem rHead {W : World} {n : Int} : Cn p_ 43 [.int .i64 n] W [] (fun q : Option Addr × Nat => .slice q.1 (gzH (n % 4294967296).toNat).length q.2) (fun q => [Sl 1 5 q.1 q.2 (gzH (n % 4294967296).toNat).length ((gzH (n % 4294967296).toNat).map Sl.B)]) := by
 obtain ⟨m, hm⟩ : ∃ m, m = (n % 4294967296).toNat := ⟨_, rfl⟩
 have hml : m < 4294967296 := by omega
 rw [<- hm]
 (refine S.ref07_Head_s.cn fun F => ?_; unfold S.ref07_Head; simp only [ca_, na_])
 refine e_bslN (vs := ([31, 139, 8, 0] : List UInt8).map Sl.B) rfl rfl (by intro v hv; obtain ⟨c, _, rfl⟩ := List.mem_map.1 hv; rfl) (by omega) fun g1 => ?_
 refine o_ (v_conv (q := .u32)) ?_
 rw [wrapu32m, <- hm]
 refine e_own (s := 1) (e := 5) (cs := ([31, 139, 8, 0] : List UInt8).map Sl.B) (n := 4) .here rfl (by decide) ?_
 refine c_ (rfour hml) fun _ => ?_
 rename_i g4
 refine e_app (m := 4) (news := (four m).map Sl.B) (.there .here) (src_rd (A := Sl 1 5 (some ⟨g4, 0, none⟩) (four m).length (four m).length ((four m).map Sl.B)) (e' := 5) (by kernel_rfl) (by repeat constructor) (rd_sl (by rfl) (fun _ => ⟨g4, rfl⟩)) (fun c => by cases c) B_one) (by decide) (by decide) fun a3 c3 => ?_
 refine e_bslN (vs := ([0, 255] : List UInt8).map Sl.B) rfl rfl (by intro v hv; obtain ⟨c, _, rfl⟩ := List.mem_map.1 hv; rfl) (by omega) fun gd => ?_
 refine e_app (m := 2) (news := ([0, 255] : List UInt8).map Sl.B) (.there .here) (src_pt (s := 1) (e' := 5) (by kernel_rfl) .here (by rfl) (bl_one [0, 255])) (by decide) (by decide) fun a2 c2 => ?_
 rw [<- List.map_append, <- List.map_append, show 4 + 4 + 2 = (gzH m).length from rfl, show ([31, 139, 8, 0] ++ four m) ++ [0, 255] = gzH m from rfl]
 refine rt_ ((a2, c2)) ?_
 exact im_
theorem gzT_len (b : List UInt8) : (gzT b).length = 8 := rfl
theorem rTail {W : World} {a : Option Addr} {c : Nat} {b : List UInt8} {A : HP} (hr : RdB W A a b.length (b.map Sl.B)) (hb : b.length <= 4611686018427387904) :
  Cn p_ 44 [.slice a b.length c] W [A] (fun q : Option Addr × Nat => .slice q.1 (gzT b).length q.2) (fun q => [Sl 1 5 q.1 q.2 (gzT b).length ((gzT b).map Sl.B), A]) := by
 (refine S.ref07_Tail_s.cn fun F => ?_; unfold S.ref07_Tail; simp only [ca_, na_])
 refine e_call (rCrc (c := c) hr hb) (.cons (by repeat constructor) .nil) fun _ => ?_
 refine nr_ ?_
 refine c_ (rfour (crc_lt b)) fun _ => ?_
 rename_i g4
 refine o_ v_len (o_ (v_conv (q := .u32)) ?_)
 rw [wrapu32m, show ((b.length : Int) % 4294967296).toNat = b.length % 4294967296 by omega]
 refine c_ (rfour (n := b.length % 4294967296) (by omega)) fun _ => ?_
 rename_i g5
 refine e_app (m := 4) (news := (four (b.length % 4294967296)).map Sl.B) (by (repeat constructor) : Pick _ (Sl 1 5 (some ⟨g4, 0, none⟩) (four (crc b)).length (four (crc b)).length ((four (crc b)).map Sl.B)) _) (src_rd (A := Sl 1 5 (some ⟨g5, 0, none⟩) (four (b.length % 4294967296)).length (four (b.length % 4294967296)).length ((four (b.length % 4294967296)).map Sl.B)) (e' := 5) (by kernel_rfl) (by repeat constructor) (rd_sl (by rfl) (fun _ => ⟨g5, rfl⟩)) (fun c => by cases c) B_one) (by rw [show (four (crc b)).length = 4 from rfl]; decide) (by rw [show (four (crc b)).length = 4 from rfl]; decide) fun a3 c3 => ?_
 rw [<- List.map_append, show (four (crc b)).length + 4 = (gzT b).length from rfl, show four (crc b) ++ four (b.length % 4294967296) = gzT b from rfl]
 refine rt_ ((a3, c3)) ?_
 exact im_
end Go.Proofs.YthoeeahdkdcceaaGreat.GZ
