/- A member that grows: made, written, flushed, closed. No conditions but those that each names. (9 texts made one; each says below what it is.) -/
import Derived.Test.YthoeeahdkdcceaaGreatK6
import Derived.KernelRfl
set_option linter.unusedVariables false
set_option linter.unusedSimpArgs false
set_option linter.unusedSectionVars false
namespace Go.Proofs.YthoeeahdkdcceaaGreat.GZ
open Go Go.Proofs Go.RowKit Sh Sl T IF B M
structure Gs where
 S : Stm
 al : List UInt8
 told : Bool
def okG (G : Gs) : Prop := G.al.length = G.S.all_ /\ G.al.length <= 524288
def IsGp (p s : Nat) (G : Gs) : HP := all [pt p (.cells #[.pointer (some ⟨s, 0, none⟩), .int .u32 (crc G.al : Int), .int .u32 (G.al.length : Int), .bool G.told] 96), IsSt s G.S, pu (okG G)]
def gwS (G : Gs) (b : List UInt8) : Gs := ⟨wrS G.S b, if wrE G.S b = 0 then G.al ++ b else G.al, G.told⟩
def gfO (G : Gs) : List UInt8 := bgO G.told (flO G.S)
def gfS (G : Gs) : Gs := ⟨flS G.S, G.al, bgT G.told (flO G.S)⟩
def gcO (G : Gs) : List UInt8 := if clE G.S = 0 then bgO G.told (clO G.S) ++ gzT G.al else []
def gcS (G : Gs) : Gs := ⟨clS G.S, G.al, if clE G.S = 0 then bgT G.told (clO G.S) else G.told⟩
theorem okSt_wr {S : Stm} {b : List UInt8} (h : okSt S) : okSt (wrS S b) /\ (wrE S b = 0 -> (wrS S b).all_ = S.all_ + b.length /\ S.all_ + b.length <= 524288) /\ (wrE S b ≠ 0 -> (wrS S b).all_ = S.all_) := by
 obtain ⟨h1, h2, h3, h4⟩ := h
 have key : wrE S b = 0 -> S.all_ + b.length <= 524288 := by
  intro h
  unfold wrE at h
  by_cases c : S.closed = true
  ·rw [if_pos c] at h; cases h
  ·rw [if_neg c] at h
   by_cases d : 524288 - S.all_ < b.length
   ·rw [if_pos d] at h; cases h
   ·omega
 by_cases h : wrE S b = 0
 ·have e : wrS S b = { S with wait := S.wait ++ b, all_ := S.all_ + b.length } := by unfold wrS; rw [if_pos h]
  have := key h
  rw [e]
  exact ⟨⟨by simp only; omega, by simp only [List.length_append]; omega, h3, h4⟩, fun _ => ⟨rfl, this⟩, fun c => absurd h c⟩
 ·have e : wrS S b = S := by unfold wrS; rw [if_neg h]
  rw [e]
  exact ⟨⟨h1, h2, h3, h4⟩, fun c => absurd c h, fun _ => rfl⟩
theorem okG_wr {G : Gs} {b : List UInt8} (ho : okSt G.S) (h : okG G) : okG (gwS G b) := by
 obtain ⟨g1, g2⟩ := h
 obtain ⟨_, w1, w2⟩ := okSt_wr (b := b) ho
 unfold okG gwS
 by_cases c : wrE G.S b = 0
 ·obtain ⟨a, d⟩ := w1 c
  simp only [if_pos c, List.length_append]
  omega
 ·have a := w2 c
  simp only [if_neg c]
  omega
theorem okG_fl {G : Gs} (h : okG G) : okG (gfS G) := by
 obtain ⟨g1, g2⟩ := h
 unfold okG gfS flS
 refine ⟨?_, g2⟩
 simp only
 split <;> exact g1
theorem okG_cl {G : Gs} (h : okG G) : okG (gcS G) := h
theorem crc_app (a b : List UInt8) : crc (a ++ b) = addF (crc a) b := addF_app 0 a b
theorem gzNew {W : World} {n : Int} : Cn p_ 29 [.int .i64 n] W [] (fun q : Nat × Nat => .tuple #[.pointer (if n < 0 \/ 9 < n then none else some ⟨q.1, 0, none⟩), .int .i64 (if n < 0 \/ 9 < n then 1 else 0)]) (fun q => [if n < 0 \/ 9 < n then pu True else IsGp q.1 q.2 ⟨⟨n, [], 0, false⟩, [], false⟩]) := by
 (refine S.gzip_NewStream_s.cn fun F => ?_; unfold S.gzip_NewStream; simp only [ca_, na_])
 refine c_ (newStream (n := n)) fun _ => ?_
 rename_i s
 refine o_ (v_ext (v := .pointer (if n < 0 \/ 9 < n then none else some ⟨s, 0, none⟩)) rfl) ?_
 refine o_ (v_ext (v := .int .i64 (if n < 0 \/ 9 < n then 1 else 0)) rfl) ?_
 by_cases h : n < 0 \/ 9 < n
 ·simp only [if_pos h]
  refine o_ v_neq ?_
  rw [dT_ (by decide)]
  refine e_condT (rt_ ((0, 0)) ?_)
  exact .refl
 ·simp only [if_neg h]
  refine o_ v_neq ?_
  rw [dF_ (fun h => h rfl)]
  refine e_condF (o_ v_rv ?_); refine e_boxA fun g => ?_
  rename Nat => g
  refine rt_ ((g, s)) ?_
  unfold IsGp
  refine .all ?_
  refine nr_ ?_
  refine .pick (by repeat constructor) (.pick (by repeat constructor) (.pu ⟨rfl, by simp⟩ ?_))
  exact im_
theorem flO_len {S : Stm} (h : okSt S) : (flO S).length <= 1000000 := by
 obtain ⟨h1, h2, h3, h4⟩ := h
 unfold flO fluB
 split
 ·simp
 split
 ·simp
 ·have h1 := puts0_bnd (b := S.wait) (level := S.level) h3 (by omega) (blksF S.wait S.level).length
  rw [List.take_length] at h1
  rw [length_pk]
  unfold fluX
  rw [stoX_len]
  simp only [List.length_append, length_bitsOf, List.length_nil]
  omega
theorem e_okSt {W : World} {L L' : List HP} {T : WP} {p : Nat} {S : Stm} (k : Pick L (IsSt p S) L') (h : okSt S -> Ent W L T) : Ent W L T := fun w hw => by
 obtain ⟨f, ⟨q, ha⟩, _⟩ := (hw.pick k).fst
 obtain ⟨_, _, _, ⟨_, _, _, ⟨_, _, hp, _⟩, _⟩, _⟩ := ha
 exact h hp w hw
theorem clO_len {S : Stm} (h : okSt S) : (clO S).length <= 1000000 := by
 obtain ⟨h1, h2, h3, h4⟩ := h
 unfold clO
 split
 ·simp
 ·by_cases e : dflE S.wait S.level = 0
  ·have := dfl_small e
   omega
  ·have hv : dflB S.wait S.level = [] := by unfold dflB; rw [if_neg e]
   rw [hv]; simp
theorem bgO_len (t : Bool) (l : List UInt8) : (bgO t l).length <= l.length + 10 := by
 unfold bgO
 split
 ·omega
 ·rw [List.length_append, gzH_len]; omega
theorem gwrite {W : World} {p s : Nat} {G : Gs} {a : Option Addr} {c : Nat} {b : List UInt8} {A : HP} (hA : RdB W A a b.length (b.map Sl.B)) :
  Cn p_ 31 [.pointer (some ⟨p, 0, none⟩), .slice a b.length c] W [IsGp p s G, A] (fun _ : Unit => .int .i64 (wrE G.S b)) (fun _ => [IsGp p s (gwS G b), A]) := by
 obtain ⟨Z, al, t⟩ := G
 unfold IsGp
 (refine S.gzip_Stream_Write_s.cn fun F => ?_; unfold S.gzip_Stream_Write; simp only [ca_, na_])
 refine e_all .here ?_
 refine nr_ ?_
 refine e_ex (.there .here) fun q => e_all .here ?_
 refine nr_ ?_
 refine e_pu (.there (.there .here)) fun hok => ?_
 refine e_pu (by (repeat constructor) : Pick _ (pu (okG ⟨Z, al, t⟩)) _) fun hG => ?_
 have hG2 := okG_wr (b := b) (G := ⟨Z, al, t⟩) hok hG
 have hw0 := (okSt_wr (b := b) hok).2.1
 obtain ⟨g1, g2⟩ := hG
 (try dsimp only at g1 g2 hw0)
 refine e_imp (M := IsSt s Z :: pt p (.cells #[.pointer (some ⟨s, 0, none⟩), .int .u32 (crc al : Int), .int .u32 (al.length : Int), .bool t] 96) :: A :: F) ?_ ?_
 ·refine .ex q (.all ?_)
  refine nr_ ?_
  refine .pick (by repeat constructor) (.pick (by repeat constructor) (.pu hok ?_))
  exact im_
 refine c_ stream_some fun _ => ?_
 refine e_call (write (S := Z) hA) (.cons (by repeat constructor) (.cons (by repeat constructor) .nil)) fun _ => ?_
 refine nr_ ?_
 refine o_ v_eql ?_
 by_cases h : wrE Z b = 0
 ·rw [dT_ h]
  obtain ⟨h1, h2⟩ := hw0 h
  have e : gwS ⟨Z, al, t⟩ b = ⟨wrS Z b, al ++ b, t⟩ := by unfold gwS; simp only [if_pos h]
  rw [e] at hG2 ⊢
  (try dsimp only)
  refine e_condT (o_ v_nil (o_ v_fa0 (ln_ ?_)))
  refine e_call (add (s := crc al) (c := c) (crc_lt al) hA (by omega)) (.cons (by repeat constructor) .nil) fun _ => ?_
  refine nr_ ?_
  refine o_ v_nil (o_ v_fa0 (sn_ ?_)); refine o_ v_nil (o_ v_fa0 (ln_ ?_)); refine o_ v_len (o_ (v_conv (q := .u32)) ?_)
  rw [wrapu32 (n := b.length) (by omega)]
  refine o_ v_addw ?_
  rw [show (al.length : Int) + (b.length : Int) = ((al.length + b.length : Nat) : Int) from (Int.natCast_add _ _).symm, wrapu32 (by omega)]
  refine o_ v_nil (o_ v_fa0 (sn_ ?_))
  rw [crc_app, List.length_append]
  refine rt_ () ?_
  refine .all ?_
  refine nr_ ?_
  refine .pick (by repeat constructor) (.pick (by repeat constructor) (.pu hG2 ?_))
  exact im_
 ·rw [dF_ h]
  have e : gwS ⟨Z, al, t⟩ b = ⟨wrS Z b, al, t⟩ := by unfold gwS; simp only [if_neg h]
  rw [e] at hG2 ⊢
  (try dsimp only)
  refine e_condF (rt_ () ?_)
  refine .all ?_
  refine nr_ ?_
  refine .pick (by repeat constructor) (.pick (by repeat constructor) (.pu hG2 ?_))
  exact im_
theorem gflush {W : World} {p s : Nat} {G : Gs} :
  Cn p_ 33 [.pointer (some ⟨p, 0, none⟩)] W [IsGp p s G] (fun q : Option Addr × Nat => .tuple #[.slice q.1 (gfO G).length q.2, .int .i64 (opE G.S)]) (fun q => [Sl 1 5 q.1 q.2 (gfO G).length ((gfO G).map Sl.B), IsGp p s (gfS G)]) := by
 have hf := fun h => okG_fl (G := G) h
 obtain ⟨Z, al, t⟩ := G
 unfold IsGp
 (refine S.gzip_Stream_Flush_s.cn fun F => ?_; unfold S.gzip_Stream_Flush; simp only [ca_, na_])
 refine e_all .here ?_
 refine nr_ ?_
 refine e_pu (.there (.there .here)) fun hG => ?_
 have hG2 := hf hG
 refine e_okSt (by (repeat constructor) : Pick _ (IsSt s Z) _) fun hok => ?_
 have hfl := flO_len hok
 refine c_ stream_some fun _ => ?_
 refine e_call (flush (S := Z)) (.cons (by repeat constructor) .nil) fun q => ?_
 refine nr_ ?_
 refine o_ (v_ext (v := .slice q.1 (flO Z).length q.2) rfl) ?_
 refine o_ (v_ext (v := .int .i64 (opE Z)) rfl) ?_
 refine e_call (begun (q := q) (l := flO Z) (by omega)) (.cons (by repeat constructor) (.cons (by repeat constructor) .nil)) fun r => ?_
 refine nr_ ?_
 refine rt_ r ?_
 unfold gfS at hG2 ⊢
 refine .pick (by repeat constructor) (.all ?_)
 refine nr_ ?_
 refine .pick (by repeat constructor) (.pick (by repeat constructor) (.pu hG2 ?_))
 exact im_
theorem gclose {W : World} {p s : Nat} {G : Gs} :
  Cn p_ 35 [.pointer (some ⟨p, 0, none⟩)] W [IsGp p s G] (fun q : Option Addr × Nat => .tuple #[.slice q.1 (gcO G).length q.2, .int .i64 (clE G.S)]) (fun q => [Sl 1 5 q.1 q.2 (gcO G).length ((gcO G).map Sl.B), IsGp p s (gcS G)]) := by
 obtain ⟨Z, al, t⟩ := G
 unfold IsGp
 (refine S.gzip_Stream_Close_s.cn fun F => ?_; unfold S.gzip_Stream_Close; simp only [ca_, na_])
 refine e_all .here ?_
 refine nr_ ?_
 refine e_pu (.there (.there .here)) fun hG => ?_
 have hG2 := okG_cl hG
 refine e_okSt (by (repeat constructor) : Pick _ (IsSt s Z) _) fun hok => ?_
 refine c_ stream_some fun _ => ?_
 refine e_call (close (S := Z)) (.cons (by repeat constructor) .nil) fun q => ?_
 refine nr_ ?_
 refine o_ (v_ext (v := .slice q.1 (clO Z).length q.2) rfl) ?_
 refine o_ (v_ext (v := .int .i64 (clE Z)) rfl) ?_
 refine o_ v_neq ?_
 unfold gcO gcS at *
 (try dsimp only at hG2)
 (try dsimp only)
 by_cases h : clE Z = 0
 rotate_left
 ·rw [dT_ h]
  simp only [if_neg h] at hG2 ⊢
  refine e_condT (rt_ ((none, 0)) ?_)
  refine imp_nil (.all ?_)
  refine nr_ ?_
  refine .pick (by repeat constructor) (.pick (by repeat constructor) (.pu hG2 ?_))
  exact im_
 rw [dF_ (fun c => c h)]
 simp only [if_pos h] at hG2 ⊢
 refine e_condF ?_
 have hcl := clO_len hok
 have hbl := bgO_len t (clO Z)
 obtain ⟨g1, g2⟩ := hG
 (try dsimp only at g1 g2)
 obtain ⟨FL, hFL⟩ : ∃ FL, FL = ex fun tt : Bool => pt p (.cells #[.pointer (some ⟨s, 0, none⟩), .int .u32 (crc al : Int), .int .u32 (al.length : Int), .bool tt] 96) := ⟨_, rfl⟩
 have hf1 : RunV p_ W [FL] (sLoad 23 (.pointer (some ⟨p, 0 + 1, none⟩))) (.int .u32 (crc al : Int)) := by
  rw [hFL]
  exact e_ex .here fun tt => v_ld rfl
 have hf2 : RunV p_ W [FL] (sLoad 23 (.pointer (some ⟨p, 0 + 2, none⟩))) (.int .u32 (al.length : Int)) := by
  rw [hFL]
  exact e_ex .here fun tt => v_ld rfl
 have hi : ∀ {tt : Bool} {L L' : List HP}, Pick L (pt p (.cells #[.pointer (some ⟨s, 0, none⟩), .int .u32 (crc al : Int), .int .u32 (al.length : Int), .bool tt] 96)) L' -> Imp W L [FL] := fun {tt L L'} k => by
  rw [hFL]
  exact .ex tt (.pick k .nil)
 refine e_drS (e_stD v_nil .nil ?_)
 refine e_stD v_fa .nil ?_
 refine e_stD hf1 (hi (by repeat constructor)) ?_
 refine e_stD v_nil .nil ?_
 refine e_stD v_fa .nil ?_
 refine e_stD hf2 (hi (by repeat constructor)) ?_
 refine e_call (begun (q := q) (l := clO Z) (by omega)) (.cons (by repeat constructor) (.cons (by repeat constructor) .nil)) fun r => ?_
 refine nr_ ?_
 refine e_obl (hi (by repeat constructor)) (e_obl Imp.nil (e_obl Imp.nil (e_obl (hi (by repeat constructor)) (e_obl Imp.nil (e_obl .nil ?_)))))
 obtain ⟨ra, rc⟩ := r
 (try dsimp only)
 refine e_call (four_ (a := ra) (c := rc) (b := bgO t (clO Z)) (crc_lt al) (by omega)) (.cons (by repeat constructor) .nil) fun r4 => ?_
 obtain ⟨a4, c4⟩ := r4
 refine nr_ ?_
 (try dsimp only)
 refine e_obl (hi (by repeat constructor)) (e_obl Imp.nil (e_obl .nil ?_))
 refine e_call (four_ (a := a4) (c := c4) (b := bgO t (clO Z) ++ four (crc al)) (n := al.length) (by omega) (by rw [List.length_append, show (four (crc al)).length = 4 from rfl]; omega)) (.cons (by repeat constructor) .nil) fun r5 => ?_
 refine nr_ ?_
 have he : bgO t (clO Z) ++ four (crc al) ++ four al.length = bgO t (clO Z) ++ gzT al := by
  unfold gzT; rw [Nat.mod_eq_of_lt (show al.length < 4294967296 by omega), List.append_assoc]
 rw [he, h]
 refine rt_ r5 ?_
 refine .pick (by repeat constructor) (.all ?_)
 refine nr_ ?_
 refine .pick (by repeat constructor) (.pick (by repeat constructor) (.pu hG2 ?_))
 exact im_
theorem sl_n0 {a : Option Addr} {n : Nat} (h : 0 < n -> ∃ g, a = some ⟨g, 0, none⟩) : a = none -> n = 0 := fun c => by
 rcases Nat.eq_zero_or_pos n with z | z
 ·exact z
 ·obtain ⟨_, e⟩ := h z; rw [c] at e; cases e
end Go.Proofs.YthoeeahdkdcceaaGreat.GZ
namespace Go.Proofs.YthoeeahdkdcceaaGreat.IF
open Go Go.Proofs Go.RowKit Sh Sl T HM HF B M
abbrev Bs := List UInt8 × (Option Addr × Nat)
def bsV (x : Bs) : Value := .slice x.2.1 x.1.length x.2.2
structure BsOk (W : World) (x : Bs) : Prop where
 c : x.1.length <= x.2.2
 n : x.2.1 = none -> x.1.length = 0
 r : ∀ A, RdB W A x.2.1 x.1.length (x.1.map Sl.B)
theorem bs_src {P : Program} {W : World} {t e : TypeId} {a : Option Addr} {cap : Nat} {b : List UInt8} (hk : P.underlying t = some (.slice e)) (hr : ∀ A, RdB W A a b.length (b.map Sl.B)) (ha : a = none -> b.length = 0) :
  ∀ L w, sat W L w -> Src P 1 t (.slice a b.length cap) b.length (b.map Sl.B) w := fun L w hw =>
 src_rd (L := pu True :: L) (L' := L) (A := pu True) hk .here (hr _) ha B_one w ((Imp.pu trivial .refl).sat hw)
theorem fluB_len {w : List UInt8} {level : Int} (h0 : 0 <= level) (hw : w.length <= 524288) : (fluB w level).length <= 1000000 := by
 unfold fluB
 split
 ·simp
 ·have h1 := puts0_bnd (b := w) (level := level) h0 hw (blksF w level).length
  rw [List.take_length] at h1
  rw [length_pk]
  unfold fluX
  rw [stoX_len]
  simp only [List.length_append, length_bitsOf, List.length_nil]
  omega
theorem sum_mem {α : Type} {m : α -> Nat} : ∀ {l : List α} {x : α}, x ∈ l -> m x <= (l.map m).sum
 | y :: l, x, h => by
  rw [List.map_cons, List.sum_cons]
  rcases List.mem_cons.1 h with rfl | h
  ·omega
  ·have := sum_mem (m := m) h; omega
theorem sum_len {α : Type} {m : α -> Nat} (hm : ∀ x, 1 <= m x) : ∀ (l : List α), l.length <= (l.map m).sum
 | [] => Nat.le_refl _
 | y :: l => by
  have := sum_len hm l
  have := hm y
  rw [List.map_cons, List.sum_cons, List.length_cons]; omega
theorem open_bsl {P : Program} {H : Type} {enc : TypeId × Value -> H} {W : World} {t e f : TypeId} {sp : Nat -> Bool} {held : Bool} {v : Value} {d : DataW H} {ps : List MemPlace} {r : Reach} {b0 : Nat} (ht : P.underlying t = some (.slice e)) (hc : P.cellsOf e = 1) (he : P.underlying e = some (.slice f)) (hf : P.cellsOf f = 1) (hg : P.underlying f = some (.int .u8)) (hval : Value.okWide P W r b0 t v) (hd : DataW.Trod enc P W 0 sp held t v d ps) :
  ∃ (a : Option Addr) (c : Nat) (l : List Bs), v = .slice a l.length c /\ (∀ A, RdB W A a l.length (l.map bsV)) /\ (∀ x ∈ l, BsOk W x) /\ (∀ x ∈ l, x.1.length <= Rows.uptoBulk d) /\ l.length <= Rows.uptoBulk d := by
 obtain ⟨fuel, hfu⟩ := open_slice (e := e) ht hval hd
 obtain ⟨a, n, c, l, e1, g1, g2, g3, g4, g5⟩ := open_old (rd := fun (x : Bs) cs => cs = [bsV x] /\ BsOk W x) (m := fun x => x.1.length + 1) ht hc (by omega) (fun n cs x hx => by
  obtain ⟨a, cap, b, rfl, h1, h2, h3, h4, h5⟩ := open_bytes he hf hg hx
  exact ⟨(b, (a, cap)), ⟨rfl, ⟨h1, h3, h4⟩⟩, h5⟩) hfu
 have hl := g4.len
 subst hl
 refine ⟨a, c, l, by injection e1, fun A => ⟨by simp, fun hn => ?_⟩, fun x hx => ?_, fun x hx => ?_, ?_⟩
 ·obtain ⟨g, o, rfl, hg, hcc⟩ := g4.at_ hn
  refine ⟨g, o, rfl, fun w L hw j v hv => ?_⟩
  rw [List.getElem?_map] at hv
  have hj : j < l.length := by
   rcases Nat.lt_or_ge j l.length with c | c
   ·exact c
   ·rw [List.getElem?_eq_none c] at hv; cases hv
  obtain ⟨cs, h1, ⟨h2, _⟩, h3⟩ := hcc j hj
  rw [h2] at h3
  have := h3 0 (bsV l[j]) rfl
  rw [List.getElem?_eq_getElem hj] at hv
  have hv' : bsV l[j] = v := Option.some.inj hv
  rw [hw.base.cell (p := ⟨g, o + j, none⟩) hg, <- hv']
  simpa using this
 ·obtain ⟨i, hi, rfl⟩ := List.mem_iff_getElem.1 hx
  obtain ⟨g, o, rfl, hg, hcc⟩ := g4.at_ (by omega)
  obtain ⟨cs, h1, ⟨_, h2⟩, h3⟩ := hcc i hi
  exact h2
 ·have := sum_mem (m := fun x : Bs => x.1.length + 1) hx
  simp only at this g5
  omega
 ·have := sum_len (m := fun x : Bs => x.1.length + 1) (fun _ => by simp) l
  simp only at this g5
  omega
def wsI (l : List Bs) (i : Nat) : List (List UInt8) := (l.take i).map Prod.fst
theorem wsI_succ {l : List Bs} {i : Nat} (h : i < l.length) : wsI l (i + 1) = wsI l i ++ [l[i].1] := by
 unfold wsI
 rw [List.take_succ_eq_append_getElem h, List.map_append]; rfl
end Go.Proofs.YthoeeahdkdcceaaGreat.IF
namespace Go.Proofs.YthoeeahdkdcceaaGreat.GZ
open Go Go.Proofs Go.RowKit Sh Sl T IF B M
def fO (level : Int) (ws : List (List UInt8)) : List UInt8 := if outF level ws = [] then [] else gzH 0 ++ outF level ws
def fT (level : Int) (ws : List (List UInt8)) : Bool := decide (outF level ws ≠ [])
theorem fO_step (level : Int) (ws : List (List UInt8)) (b : List UInt8) : fO level ws ++ bgO (fT level ws) (fluB b level) = fO level (ws ++ [b]) /\ bgT (fT level ws) (fluB b level) = fT level (ws ++ [b]) := by
 unfold fO fT bgO bgT
 rw [outF_snoc]
 by_cases h : outF level ws = []
 ·rw [h]
  by_cases g : fluB b level = []
  ·rw [g]; simp
  ·simp [g]
 ·by_cases g : fluB b level = []
  ·rw [g]; simp [h]
  ·simp [h, g]
theorem dfl0_ne {level : Int} (hE : dflE [] level = 0) : dflB [] level ≠ [] := fun c => by
 have h1 := dflB_len hE
 have h2 := putsX_ge level (blksF [] level) []
 have h3 : (dflX [] level).length = (putsX level [] (blksF [] level)).length := rfl
 have h4 := blks_ne [] level
 have h5 : 0 < (blksF [] level).length := List.length_pos_iff.2 h4
 rw [c] at h1
 simp only [List.length_nil] at h1 h2
 omega
theorem fO_end {level : Int} (ws : List (List UInt8)) (hE : dflE [] level = 0) (t : List UInt8) : fO level ws ++ (bgO (fT level ws) (dflB [] level) ++ t) = gzH 0 ++ (outF level ws ++ dflB [] level) ++ t := by
 have hne := dfl0_ne hE
 unfold fO fT bgO
 by_cases h : outF level ws = []
 ·rw [h]; simp [hne]
 ·simp [h]
theorem fO_len (level : Int) (ws : List (List UInt8)) : (outF level ws).length <= (fO level ws).length := by
 unfold fO
 split
 ·rename_i h; rw [h]; simp
 ·rw [List.length_append]; omega
theorem gzipFlows {W : World} {level : Int} {a : Option Addr} {c : Nat} {l : List Bs} (hr : ∀ A, RdB W A a l.length (l.map bsV)) (hx : ∀ x ∈ l, BsOk W x) (hlen : ∀ x ∈ l, x.1.length <= 1048576) (hll : l.length <= 1048576) :
  Cn p_ 8 [.int .i64 level, .slice a l.length c] W [] (fun _ : Unit => .bool true) (fun _ => []) := by
 (refine S.law07_GzipFlows_s.cn fun F => ?_; unfold S.law07_GzipFlows; simp only [ca_, na_])
 refine c_ (gzNew (n := level)) fun _ => ?_
 rename_i q
 obtain ⟨p, s⟩ := q
 (try dsimp only)
 refine o_ (v_ext (v := .pointer (if level < 0 \/ 9 < level then none else some ⟨p, 0, none⟩)) rfl) ?_
 refine o_ (v_ext (v := .int .i64 (if level < 0 \/ 9 < level then 1 else 0)) rfl) ?_
 by_cases hw : level < 0 \/ 9 < level
 ·simp only [if_pos hw]
  refine c_ num7 fun _ => ?_
  refine o_ v_neq ?_
  rw [dT_ (by decide)]
  refine e_gdF1 (e_gdF1 (o_ v_pickT (e_gdF1 (e_gdF1 (o_ v_pickT (e_condT (c_ num7 fun _ => ?_)))))))
  refine o_ v_eql ?_
  rw [dF_ (by decide)]
  refine o_ v_neNil0 ?_
  refine o_ (v_beqlG (by kernel_rfl)) ?_
  rw [dT_ (by decide)]
  refine e_gdT (c_ knows7 fun _ => ?_)
  refine o_ v_pickT (rt_ () ?_)
  exact im_
 simp only [if_neg hw]
 have hlv : 0 <= level := by omega
 have hE0 : dflE [] level = 0 := by unfold dflE; rw [if_neg hw, if_neg (by decide)]
 refine c_ num7 fun _ => ?_
 refine o_ v_neq ?_
 rw [dF_ (by decide)]
 refine e_gdT (e_gdT (o_ v_eqNil1 ?_)); refine o_ v_pickF (e_gdT (c_ knows7 fun _ => ?_))
 refine e_gdT (o_ v_notT (o_ v_pickF (e_condF (e_cut2 (fun y z => (ex fun st : ((Option Addr × Nat) × (Option Addr × Nat)) × Nat => all [pu (y = .slice st.1.1.1 (wsI l st.2).flatten.length st.1.1.2 /\ z = .slice st.1.2.1 (fO level (wsI l st.2)).length st.1.2.2 /\ (fO level (wsI l st.2)).length <= 1000010 * st.2 /\ (wsI l st.2).flatten.length <= 524288 /\ st.2 <= l.length), Sl 1 5 st.1.1.1 st.1.1.2 (wsI l st.2).flatten.length ((wsI l st.2).flatten.map Sl.B), Sl 1 5 st.1.2.1 st.1.2.2 (fO level (wsI l st.2)).length ((fO level (wsI l st.2)).map Sl.B), IsGp p s ⟨⟨level, [], (wsI l st.2).flatten.length, false⟩, (wsI l st.2).flatten, fT level (wsI l st.2)⟩]) :: F) ?_ ?_))))
 rotate_left
 ·refine e_loop3 (fun m y z u => (ex fun st : ((Option Addr × Nat) × (Option Addr × Nat)) × Nat => all [pu (m + st.2 = l.length /\ u = .int .i64 (st.2 : Int) /\ y = .slice st.1.1.1 (wsI l st.2).flatten.length st.1.1.2 /\ z = .slice st.1.2.1 (fO level (wsI l st.2)).length st.1.2.2 /\ (fO level (wsI l st.2)).length <= 1000010 * st.2 /\ (wsI l st.2).flatten.length <= 524288), Sl 1 5 st.1.1.1 st.1.1.2 (wsI l st.2).flatten.length ((wsI l st.2).flatten.map Sl.B), Sl 1 5 st.1.2.1 st.1.2.2 (fO level (wsI l st.2)).length ((fO level (wsI l st.2)).map Sl.B), IsGp p s ⟨⟨level, [], (wsI l st.2).flatten.length, false⟩, (wsI l st.2).flatten, fT level (wsI l st.2)⟩]) :: F) l.length ?_ ?_
  ·refine .ex (((none, 0), (none, 0)), 0) (.all ?_)
   refine nr_ ?_
   refine .pu ⟨by omega, rfl, rfl, rfl, by simp [wsI, outF, fO], by simp [wsI]⟩ ?_
   rw [show fO level (wsI l 0) = [] by simp [wsI, outF, fO], show fT level (wsI l 0) = false by simp [wsI, outF, fT], show (wsI l 0).flatten = [] by simp [wsI]]
   exact imp_nil (imp_nil im_)
  intro m ds y z u
  refine e_ex .here fun st => e_all .here ?_
  obtain ⟨⟨⟨qa, qc⟩, ⟨oa, oc⟩⟩, i⟩ := st
  refine nr_ ?_
  refine e_pu .here fun hi => ?_
  (try dsimp only at hi)
  obtain ⟨hmi, rfl, rfl, rfl, ho5, hf5⟩ := hi
  (try dsimp only)
  obtain ⟨Fl, hFl⟩ : ∃ Fl, Fl = (wsI l i).flatten := ⟨_, rfl⟩
  obtain ⟨Ou, hOu⟩ : ∃ Ou, Ou = fO level (wsI l i) := ⟨_, rfl⟩
  obtain ⟨Tt, hTt⟩ : ∃ Tt, Tt = fT level (wsI l i) := ⟨_, rfl⟩
  rw [<- hFl] at hf5 ⊢
  rw [<- hOu] at ho5 ⊢
  rw [<- hTt]
  refine o_ v_len (o_ v_lss ?_)
  by_cases hlt : (i : Int) < (l.length : Int)
  rotate_left
  ·rw [dF_ hlt]
   refine e_condF (e_sat (.ex (((qa, qc), (oa, oc)), i) (.all ?_)))
   refine nr_ ?_
   rw [<- hFl, <- hOu, <- hTt]
   refine .pu ⟨rfl, rfl, ho5, hf5, by (try dsimp only); omega⟩ ?_
   exact im_
  rw [dT_ hlt]
  have hil : i < l.length := by omega
  have hsu := wsI_succ hil
  have hok := hx _ (List.getElem_mem hil)
  have hbl := hlen _ (List.getElem_mem hil)
  obtain ⟨g0, o0, ha0, _⟩ := (hr (pu True)).at_ (show 0 < l.length by omega)
  have hra := hr (pu True)
  rw [ha0] at hra ⊢
  have hld : (l.map bsV)[i]? = some (bsV l[i]) := by rw [List.getElem?_map, List.getElem?_eq_getElem hil]; rfl
  obtain ⟨⟨b, ⟨ba, bc⟩⟩, hb⟩ : ∃ b, b = l[i] := ⟨_, rfl⟩
  rw [<- hb] at hsu hok hld hbl
  unfold bsV at hld
  (try dsimp only at hsu hok hld hbl)
  have hrb := hok.r
  have hnb := hok.n
  (try dsimp only at hrb hnb)
  refine e_condT (e_bsl0 fun gb => ?_)
  refine o_ (v_ia1 i rfl hil) ?_
  refine e_opN (v_ldRd hra hld) (.pu trivial .nil) ?_
  refine e_app (m := b.length) (news := b.map Sl.B) .here (bs_src (e := 5) (by kernel_rfl) hrb hnb _) (by omega) (by omega) fun a1 c1 => ?_
  rw [Nat.zero_add, List.nil_append]
  refine e_slfacts .here fun _ f2 f3 f4 => ?_
  have hr1 : RdB W (Sl 1 5 a1 c1 b.length (b.map Sl.B)) a1 b.length (b.map Sl.B) := rd_sl (by rw [List.length_map]) f4
  refine e_call (gwrite (p := p) (s := s) (G := ⟨⟨level, [], Fl.length, false⟩, Fl, Tt⟩) (c := c1) (b := b) hr1) (.cons (by repeat constructor) (.cons (by repeat constructor) .nil)) fun _ => ?_
  refine nr_ ?_
  refine c_ num7 fun _ => ?_
  refine o_ v_neq ?_
  have hwE : wrE ⟨level, [], Fl.length, false⟩ b = if 524288 - Fl.length < b.length then 6 else 0 := rfl
  by_cases hbig : 524288 - Fl.length < b.length
  ·rw [if_pos hbig] at hwE
   have hwS : gwS ⟨⟨level, [], Fl.length, false⟩, Fl, Tt⟩ b = ⟨⟨level, [], Fl.length, false⟩, Fl, Tt⟩ := by unfold gwS wrS; rw [if_neg (by rw [hwE]; decide), if_neg (by rw [hwE]; decide)]
   rw [hwE, hwS, dT_ (by decide)]
   refine e_condT (e_sat (.ex (((qa, qc), (oa, oc)), i) (.all ?_)))
   refine nr_ ?_
   rw [<- hFl, <- hOu, <- hTt]
   refine .pu ⟨rfl, rfl, ho5, hf5, by (try dsimp only); omega⟩ ?_
   exact im_
  rw [if_neg hbig] at hwE
  have hwS : gwS ⟨⟨level, [], Fl.length, false⟩, Fl, Tt⟩ b = ⟨⟨level, b, Fl.length + b.length, false⟩, Fl ++ b, Tt⟩ := by unfold gwS wrS; rw [if_pos hwE, if_pos hwE]; rfl
  rw [hwE, hwS, dF_ (by decide)]
  refine e_condF (o_ (v_ia1 i rfl hil) ?_)
  refine e_opN (v_ldRd hra hld) (.pu trivial .nil) ?_
  refine e_app (m := b.length) (news := b.map Sl.B) (by (repeat constructor) : Pick _ (Sl 1 5 qa qc Fl.length (Fl.map Sl.B)) _) (bs_src (e := 5) (by kernel_rfl) hrb hnb _) (by omega) (by omega) fun a2 c2 => ?_
  rw [<- List.map_append, <- List.length_append]
  obtain ⟨Fl2, hFl2⟩ : ∃ Fl2, Fl2 = Fl ++ b := ⟨_, rfl⟩
  have hF2l : Fl2.length = Fl.length + b.length := by rw [hFl2, List.length_append]
  rw [<- hFl2]
  have hst := fO_step level (wsI l i) b
  rw [<- hTt, <- hOu] at hst
  have hFB := gflush (W := W) (p := p) (s := s) (G := ⟨⟨level, b, Fl2.length, false⟩, Fl2, Tt⟩)
  rw [show gfO ⟨⟨level, b, Fl2.length, false⟩, Fl2, Tt⟩ = bgO Tt (fluB b level) from rfl, show gfS ⟨⟨level, b, Fl2.length, false⟩, Fl2, Tt⟩ = ⟨⟨level, [], Fl2.length, false⟩, Fl2, bgT Tt (fluB b level)⟩ from rfl, show opE ⟨level, b, Fl2.length, false⟩ = 0 from rfl, hst.2] at hFB
  refine c_ hFB fun _ => ?_
  rename_i q
  obtain ⟨fa, fc⟩ := q
  (try dsimp only)
  have hfbl := fluB_len (w := b) hlv (by omega)
  have hbg := bgO_len Tt (fluB b level)
  have hst := hst.1
  obtain ⟨Q, hQ⟩ : ∃ Q, Q = bgO Tt (fluB b level) := ⟨_, rfl⟩
  rw [<- hQ] at hbg hst ⊢
  refine xt_ ?_; refine xt_ ?_
  refine c_ num7 fun _ => ?_
  refine o_ v_neq ?_
  rw [dF_ (by decide)]
  refine e_condF (e_slfacts .here fun _ g2 g3 g4 => ?_)
  have hr2 : RdB W (Sl 1 5 fa fc Q.length (Q.map Sl.B)) fa Q.length (Q.map Sl.B) := rd_sl (by rw [List.length_map]) g4
  refine e_app (m := Q.length) (news := Q.map Sl.B) (by (repeat constructor) : Pick _ (Sl 1 5 oa oc Ou.length (Ou.map Sl.B)) _) (src_rd (A := Sl 1 5 fa fc Q.length (Q.map Sl.B)) (e' := 5) (by kernel_rfl) (by repeat constructor) hr2 (sl_n0 g4) B_one) (by omega) (by omega) fun a3 c3 => ?_
  rw [<- List.map_append, <- List.length_append, hst, <- hsu]
  have hO2l : (fO level (wsI l (i + 1))).length = Ou.length + Q.length := by rw [hsu, <- hst, List.length_append]
  have hF2 : Fl2 = (wsI l (i + 1)).flatten := by rw [hFl2, hsu, List.flatten_append, hFl]; simp
  rw [hF2] at hF2l ⊢
  refine ad_ ?_
  refine e_next3 (m - 1) (by omega) (.ex (((a2, c2), (a3, c3)), i + 1) (.all ?_))
  refine nr_ ?_
  refine .pu ⟨by omega, by norm_cast, rfl, rfl, by (try dsimp only); omega, by (try dsimp only); omega⟩ ?_
  exact im_
 intro ds y z
 refine e_ex .here fun st => e_all .here ?_
 obtain ⟨⟨⟨qa, qc⟩, ⟨oa, oc⟩⟩, i⟩ := st
 refine nr_ ?_
 refine e_pu .here fun hi => ?_
 (try dsimp only at hi)
 obtain ⟨rfl, rfl, ho5, hf5, hil⟩ := hi
 (try dsimp only)
 have hE3 := fO_end (wsI l i) hE0 (gzT (wsI l i).flatten)
 have hOl := fO_len level (wsI l i)
 have hdl : (dflB [] level).length <= 400 := by have := (dflB_le hE0).1; simp only [List.length_nil] at this; omega
 have hUf : (outF level (wsI l i) ++ dflB [] level).length + 8 <= 1048576 -> Ur 1048576 (fO level (wsI l i) ++ (bgO (fT level (wsI l i)) (dflB [] level) ++ gzT (wsI l i).flatten)) [] 0 (.ok ((wsI l i).flatten, 1)) := fun h => by
  have := ur_flow (m := 0) (ws := wsI l i) (w := []) hE0 (by simp only [List.length_nil]; omega) h
  rw [List.append_nil, <- hE3] at this
  exact this
 have hbg := bgO_len (fT level (wsI l i)) (dflB [] level)
 have hXl := congrArg List.length hE3
 rw [List.length_append, @List.length_append _ (gzH 0 ++ _), @List.length_append _ (gzH 0), gzH_len, gzT_len] at hXl
 have hCB := gclose (W := W) (p := p) (s := s) (G := ⟨⟨level, [], (wsI l i).flatten.length, false⟩, (wsI l i).flatten, fT level (wsI l i)⟩)
 rw [show gcO ⟨⟨level, [], (wsI l i).flatten.length, false⟩, (wsI l i).flatten, fT level (wsI l i)⟩ = bgO (fT level (wsI l i)) (dflB [] level) ++ gzT (wsI l i).flatten by unfold gcO; exact if_pos hE0, show clE ⟨level, [], (wsI l i).flatten.length, false⟩ = 0 from hE0] at hCB
 obtain ⟨Q, hQ⟩ : ∃ Q, Q = bgO (fT level (wsI l i)) (dflB [] level) ++ gzT (wsI l i).flatten := ⟨_, rfl⟩
 have hQl : Q.length <= 1000 := by rw [hQ, List.length_append, gzT_len]; omega
 rw [<- hQ] at hCB hUf hXl
 generalize gcS ⟨⟨level, [], (wsI l i).flatten.length, false⟩, (wsI l i).flatten, fT level (wsI l i)⟩ = Gc at hCB
 obtain ⟨Fl, hFl⟩ : ∃ Fl, Fl = (wsI l i).flatten := ⟨_, rfl⟩
 obtain ⟨Ou, hOu⟩ : ∃ Ou, Ou = fO level (wsI l i) := ⟨_, rfl⟩
 rw [<- hFl] at hf5 hUf hCB ⊢
 rw [<- hOu] at ho5 hUf hXl hOl ⊢
 refine c_ hCB fun _ => ?_
 rename_i q
 obtain ⟨fa, fc⟩ := q
 (try dsimp only)
 refine o_ (v_ext (v := .slice fa Q.length fc) rfl) ?_
 refine o_ (v_ext (v := .int .i64 0) rfl) ?_
 refine e_slfacts .here fun _ g2 g3 g4 => ?_
 have hr2 : RdB W (Sl 1 5 fa fc Q.length (Q.map Sl.B)) fa Q.length (Q.map Sl.B) := rd_sl (by rw [List.length_map]) g4
 refine e_app (m := Q.length) (news := Q.map Sl.B) (by (repeat constructor) : Pick _ (Sl 1 5 oa oc Ou.length (Ou.map Sl.B)) _) (src_rd (A := Sl 1 5 fa fc Q.length (Q.map Sl.B)) (e' := 5) (by kernel_rfl) (by repeat constructor) hr2 (sl_n0 g4) B_one) (by omega) (by omega) fun a3 c3 => ?_
 rw [<- List.map_append, <- List.length_append]
 refine o_ v_len (o_ v_gtr ?_)
 by_cases hbig : (1048576 : Int) < ((Ou ++ Q).length : Int)
 ·rw [dT_ hbig]
  refine e_condT (c_ num7 fun _ => ?_)
  refine o_ v_eql ?_
  rw [dT_ (by decide)]
  refine rt_ () ?_
  exact im_
 rw [dF_ hbig]
 have hUf := hUf (by rw [List.length_append] at hbig; omega)
 refine e_slfacts .here fun _ l2 l3 l4 => ?_
 refine e_condF (c_ (unpack_ (most := 1048576) (b := Ou ++ Q) (rd_sl (e := 5) (a := a3) (cap := c3) (by rw [List.length_map]) l4) l2 (by omega) (by decide) (by decide) hUf) fun _ => ?_)
 rename_i r1
 obtain ⟨ra, rc⟩ := r1
 (try dsimp only)
 refine o_ (v_ext (v := .slice ra Fl.length rc) rfl) ?_
 refine o_ (v_ext (v := .int .i64 0) rfl) ?_
 refine c_ num7 fun _ => ?_
 refine c_ num7 fun _ => ?_
 refine ad_ ?_
 refine o_ v_eql ?_
 rw [dT_ (by decide)]
 refine e_gdT (e_gdT ?_)
 rw [show rO (.ok (Fl, 1)) = Fl from rfl]
 refine e_slfacts (by (repeat constructor) : Pick _ (Sl 1 5 ra rc Fl.length (Fl.map Sl.B)) _) fun _ m2 m3 m4 => ?_
 refine p_op (v_str (l := Fl) (rd_sl (e := 5) (cap := rc) (by rw [List.length_map]) m4) (sl_n0 m4)) ?_
 refine e_gdT (e_gdT (e_slfacts (by (repeat constructor) : Pick _ (Sl 1 5 qa qc Fl.length (Fl.map Sl.B)) _) fun _ r2 r3 r4 => ?_))
 refine p_op (v_str (l := Fl) (rd_sl (e := 5) (cap := qc) (by rw [List.length_map]) r4) (sl_n0 r4)) ?_
 refine e_gdT (o_ v_streq ?_)
 rw [dT_ rfl]
 refine o_ v_pickT (rt_ () ?_)
 exact im_
end Go.Proofs.YthoeeahdkdcceaaGreat.GZ
