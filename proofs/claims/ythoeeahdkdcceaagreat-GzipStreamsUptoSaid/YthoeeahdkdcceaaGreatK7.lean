/- A stream: made, written, flushed, closed; the law's first answers. No conditions but those that each names. (13 texts made one; each says below what it is.) -/
import Derived.Test.YthoeeahdkdcceaaGreatK6
import Derived.KernelRfl
set_option linter.unusedVariables false
set_option linter.unusedSimpArgs false
set_option linter.unusedSectionVars false
namespace Go.Proofs.YthoeeahdkdcceaaGreat.IF
open Go Go.Proofs Go.RowKit Sh Sl T HM HF B M
structure Stm where
 level : Int
 wait : List UInt8
 all_ : Nat
 closed : Bool
def okSt (S : Stm) : Prop := S.all_ <= 524288 /\ S.wait.length <= S.all_ /\ 0 <= S.level /\ S.level <= 9
def IsSt (p : Nat) (S : Stm) : HP := ex fun q : Option Addr × Nat => all [pt p (.cells #[.int .i64 S.level, .slice q.1 S.wait.length q.2, .int .i64 (S.all_ : Int), .bool true, .bool S.closed] 69), Sl 1 5 q.1 q.2 S.wait.length (S.wait.map Sl.B), pu (okSt S)]
def opE (S : Stm) : Int := if S.closed then 64 else 0
def wrE (S : Stm) (b : List UInt8) : Int := if S.closed then 64 else if 524288 - S.all_ < b.length then 6 else 0
def wrS (S : Stm) (b : List UInt8) : Stm := if wrE S b = 0 then { S with wait := S.wait ++ b, all_ := S.all_ + b.length } else S
def flO (S : Stm) : List UInt8 := if S.closed then [] else fluB S.wait S.level
def flS (S : Stm) : Stm := if S.closed then S else { S with wait := [] }
def clE (S : Stm) : Int := if S.closed then 64 else dflE S.wait S.level
def clO (S : Stm) : List UInt8 := if S.closed then [] else dflB S.wait S.level
def clS (S : Stm) : Stm := { S with closed := true }
theorem newStream {W : World} {n : Int} : Cn p_ 19 [.int .i64 n] W [] (fun p : Nat => .tuple #[.pointer (if n < 0 \/ 9 < n then none else some ⟨p, 0, none⟩), .int .i64 (if n < 0 \/ 9 < n then 1 else 0)]) (fun p => [if n < 0 \/ 9 < n then pu True else IsSt p ⟨n, [], 0, false⟩]) := by
 (refine S.deflate_NewStream_s.cn fun F => ?_; unfold S.deflate_NewStream; simp only [ca_, na_])
 refine c_ (wrong (n := n)) fun _ => ?_
 by_cases h : n < 0 \/ 9 < n
 ·rw [dT_ h]
  simp only [if_pos h]
  refine e_condT (rt_ 0 ?_)
  exact .pu trivial .refl
 ·rw [dF_ h]
  simp only [if_neg h]
  refine e_condF (o_ v_rv ?_); refine e_boxA fun g => ?_
  rename Nat => g
  refine rt_ g ?_
  refine .ex (none, 0) (.all ?_)
  refine nr_ ?_
  refine .pick (by repeat constructor) ?_
  exact imp_nil (.pu ⟨by simp only; omega, by simp, by simp only; omega, by simp only; omega⟩ im_)
theorem open_ {W : World} {p : Nat} {level : Int} {a : Option Addr} {n c : Nat} {m : Int} {cl : Bool} : Cn p_ 47 [.pointer (some ⟨p, 0, none⟩)] W [pt p (.cells #[.int .i64 level, .slice a n c, .int .i64 m, .bool true, .bool cl] 69)] (fun _ : Unit => .int .i64 (if cl then 64 else 0)) (fun _ => [pt p (.cells #[.int .i64 level, .slice a n c, .int .i64 m, .bool true, .bool cl] 69)]) := by
 (refine S.deflate_Stream_open_s.cn fun F => ?_; unfold S.deflate_Stream_open; simp only [ca_, na_])
 refine e_cut1 (fun z => pu (z = .bool false) :: pt p (.cells #[.int .i64 level, .slice a n c, .int .i64 m, .bool true, .bool cl] 69) :: F) ?_ ?_
 ·intro ds z
  refine e_pu .here fun hz => ?_
  subst hz
  refine e_condF (o_ v_nil (o_ v_fa0 (ln_ ?_)))
  cases cl with
  | true =>
   refine e_condT (rt_ () ?_)
   exact .refl
  | false =>
   refine e_condF (rt_ () ?_)
   exact .refl
 ·(refine o_ v_eqNil1 ?_); refine e_condF ?_; refine o_ v_nil ?_; refine o_ v_fa0 ?_; refine ln_ ?_; refine o_ v_notT ?_
  refine e_sat (.pu rfl .refl)
theorem write {W : World} {p : Nat} {S : Stm} {a : Option Addr} {c : Nat} {b : List UInt8} {A : HP} (hA : RdB W A a b.length (b.map Sl.B)) :
  Cn p_ 23 [.pointer (some ⟨p, 0, none⟩), .slice a b.length c] W [IsSt p S, A] (fun _ : Unit => .int .i64 (wrE S b)) (fun _ => [IsSt p (wrS S b), A]) := by
 obtain ⟨lv, w, al, cl⟩ := S
 (refine S.deflate_Stream_Write_s.cn fun F => ?_; unfold S.deflate_Stream_Write; simp only [ca_, na_])
 refine e_ex .here fun q => e_all .here ?_
 obtain ⟨qa, qc⟩ := q
 refine nr_ ?_
 refine e_pu (.there (.there .here)) fun hok => ?_
 have hok' := hok
 obtain ⟨k1, k2, k3, k4⟩ := hok'
 (try dsimp only at k1 k2 k3 k4)
 refine c_ open_ fun _ => ?_
 refine o_ v_neq ?_
 cases cl with
 | true =>
  rw [dT_ (by decide)]
  refine e_condT (rt_ () ?_)
  refine .ex (qa, qc) (.all ?_)
  refine nr_ ?_
  refine .pick (by repeat constructor) (.pick (by repeat constructor) (.pu hok ?_))
  exact im_
 | false =>
  rw [dF_ (by decide)]
  refine e_condF (o_ v_len (o_ v_nil (o_ v_fa0 (ln_ ?_)))); refine sb_ ?_
  refine o_ v_gtr ?_
  by_cases h : (524288 : Int) - (al : Int) < (b.length : Int)
  ·rw [dT_ h]
   refine e_condT ?_
   have e1 : wrE ⟨lv, w, al, false⟩ b = 6 := by unfold wrE; simp only [Bool.false_eq_true, if_false]; rw [if_pos (by omega)]
   have e2 : wrS ⟨lv, w, al, false⟩ b = ⟨lv, w, al, false⟩ := by unfold wrS; rw [if_neg (by rw [e1]; decide)]
   rw [e1, e2]
   refine rt_ () ?_
   refine .ex (qa, qc) (.all ?_)
   refine nr_ ?_
   refine .pick (by repeat constructor) (.pick (by repeat constructor) (.pu hok ?_))
   exact im_
  ·rw [dF_ h]
   have e1 : wrE ⟨lv, w, al, false⟩ b = 0 := by unfold wrE; simp only [Bool.false_eq_true, if_false]; rw [if_neg (by omega)]
   have e2 : wrS ⟨lv, w, al, false⟩ b = ⟨lv, w ++ b, al + b.length, false⟩ := by unfold wrS; rw [if_pos e1]
   rw [e1, e2]
   refine e_condF (o_ v_nil (o_ v_fa0 (ln_ ?_))); refine o_ v_len (ad_ ?_); refine o_ v_nil (o_ v_fa0 (sn_ ?_)); refine o_ v_nil (o_ v_fa0 (ln_ ?_))
   refine e_app (m := b.length) (news := b.map Sl.B) (by repeat constructor) (src_rd (A := A) (e' := 5) (by kernel_rfl) (by repeat constructor) hA (rd_none_ hA) B_one) (by omega) (by omega) fun a' c' => ?_
   refine o_ v_nil (o_ v_fa0 (sn_ ?_))
   refine rt_ () ?_
   refine .ex (a', c') (.all ?_)
   refine nr_ ?_
   rw [List.map_append, List.length_append]
   refine .pick (by repeat constructor) (.pick (by repeat constructor) (.pu ⟨by simp only; omega, by simp only [List.length_append]; omega, k3, k4⟩ ?_))
   exact im_
theorem flush {W : World} {p : Nat} {S : Stm} :
  Cn p_ 25 [.pointer (some ⟨p, 0, none⟩)] W [IsSt p S] (fun q : Option Addr × Nat => .tuple #[.slice q.1 (flO S).length q.2, .int .i64 (opE S)]) (fun q => [Sl 1 5 q.1 q.2 (flO S).length ((flO S).map Sl.B), IsSt p (flS S)]) := by
 obtain ⟨lv, w, al, cl⟩ := S
 (refine S.deflate_Stream_Flush_s.cn fun F => ?_; unfold S.deflate_Stream_Flush; simp only [ca_, na_])
 refine e_ex .here fun q => e_all .here ?_
 obtain ⟨qa, qc⟩ := q
 refine nr_ ?_
 refine e_pu (.there (.there .here)) fun hok => ?_
 have hok' := hok
 obtain ⟨k1, k2, k3, k4⟩ := hok'
 (try dsimp only at k1 k2 k3 k4)
 refine c_ open_ fun _ => ?_
 refine o_ v_neq ?_
 cases cl with
 | true =>
  rw [dT_ (by decide)]
  refine e_gdF1 (e_gdF1 (e_gdF1 (e_gdF1 (e_gdF1 (e_gdF1 (o_ v_pickT (e_condT (rt_ ((none, 0)) ?_))))))))
  unfold flO flS
  simp only [if_true]
  refine imp_nil (.ex (qa, qc) (.all ?_))
  refine nr_ ?_
  refine .pick (by repeat constructor) (.pick (by repeat constructor) (.pu hok ?_))
  exact im_
 | false =>
  rw [dF_ (by decide)]
  refine e_gdT (e_gdT (o_ v_nil (e_gdT (o_ v_fa0 (e_gdT (ln_ ?_)))))); refine e_gdT (o_ v_len (e_gdT (o_ v_eql ?_)))
  by_cases h : (w.length : Int) = 0
  ·rw [dT_ h]
   have hw : w = [] := List.length_eq_zero_iff.1 (by omega)
   subst hw
   refine o_ v_pickF (e_condT ?_)
   have e1 : flO ⟨lv, [], al, false⟩ = [] := by unfold flO fluB; simp
   have e2 : flS ⟨lv, [], al, false⟩ = ⟨lv, [], al, false⟩ := by unfold flS; simp
   rw [e1, e2]
   refine rt_ ((none, 0)) ?_
   refine imp_nil (.ex (qa, qc) (.all ?_))
   refine nr_ ?_
   refine .pick (by repeat constructor) (.pick (by repeat constructor) (.pu hok ?_))
   exact im_
  rw [dF_ h]
  have hw : ¬ w = [] := fun c => h (by rw [c]; rfl)
  have e1 : flO ⟨lv, w, al, false⟩ = pk (fluX w lv) := by unfold flO fluB; simp only [Bool.false_eq_true, if_false]; rw [if_neg hw]
  have e2 : flS ⟨lv, w, al, false⟩ = ⟨lv, [], al, false⟩ := by unfold flS; simp
  rw [e1, e2]
  refine o_ v_pickF (e_condF (c_ newWriter fun _ => ?_))
  rename_i wr
  refine e_drS (t_ v_nil (t_ v_fa0 (ls_ ?_))); refine t_ v_nil (t_ v_fa0 (ls_ ?_))
  refine e_slfacts (by (repeat constructor) : Pick _ (Sl 1 5 qa qc w.length (w.map Sl.B)) _) fun _ f2 f3 f4 => ?_
  have hA : RdB W (Sl 1 5 qa qc w.length (w.map Sl.B)) qa w.length (w.map Sl.B) := rd_sl (by rw [List.length_map]) f4
  refine e_call (dblocks (c := qc) (level := lv) hA f2 (by omega) (by omega)) (.cons (by repeat constructor) .nil) fun q => ?_
  obtain ⟨⟨xa, xc⟩, ⟨pa, pc⟩, X⟩ := q
  refine nr_ ?_
  refine e_pu .here fun hX => ?_
  (try dsimp only at hX)
  (try dsimp only)
  obtain ⟨hXf, hXk⟩ := hX
  obtain ⟨hG, hn⟩ := blks_G w k3
  have hXl : X.length = (blksF w lv).length := by rw [<- hXf, List.length_map]
  have hbnd := puts0_bnd (b := w) (level := lv) k3 (by omega)
  have hXb : X.length <= 1000 := by omega
  have hne := blks_ne w lv
  have hpos : 0 < X.length := by rw [hXl]; exact List.length_pos_iff.2 hne
  refine e_slsome .here hpos fun gx hgx => ?_
  subst hgx
  obtain ⟨AB, hAB⟩ : ∃ AB, AB = Sl 1 5 qa qc w.length (w.map Sl.B) := ⟨_, rfl⟩
  obtain ⟨AL, hAL⟩ : ∃ AL, AL = Sl 3 108 pa pc (pcsL w lv).length ((pcsL w lv).flatMap pPz) := ⟨_, rfl⟩
  rw [<- hAL, <- hAB] at hXk ⊢
  refine t_ v_len (e_loop1 (fun m y => (ex fun i : Nat => all [pu (m + i = X.length /\ y = .int .i64 (i : Int)), IsW wr (puts0 lv [] ((blksF w lv).take i))]) :: Sl 3 79 (some ⟨gx, 0, none⟩) xc X.length (X.flatMap (bvC lv)) :: AL :: AB :: pt p (.cells #[.int .i64 lv, .slice qa w.length qc, .int .i64 (al : Int), .bool true, .bool false] 69) :: F) X.length ?_ ?_)
  ·refine .ex 0 (.all ?_)
   refine nr_ ?_
   refine .pu ⟨by omega, rfl⟩ ?_
   rw [List.take_zero, puts0_nil]
   exact im_
  intro m ds y
  refine e_ex .here fun i => e_all .here ?_
  refine nr_ ?_
  refine e_pu .here fun hi => ?_
  obtain ⟨hmi, rfl⟩ := hi
  refine o_ v_lss ?_
  by_cases hlt : (i : Int) < (X.length : Int)
  ·rw [dT_ hlt]
   have hi : i < X.length := by omega
   have hib : i < (blksF w lv).length := by omega
   have hk := hXk _ (List.getElem_mem hi)
   have hx1 : X[i].1 = (blksF w lv)[i] := by
    have := List.getElem_map (f := Prod.fst) (l := X) (i := i) (h := by rw [List.length_map]; exact hi)
    rw [<- this]
    congr 1
   obtain ⟨fr, hok⟩ := blkG_all hG _ (List.getElem_mem hib)
   have hst : puts0 lv [] ((blksF w lv).take (i + 1)) = putX lv (puts0 lv [] ((blksF w lv).take i)) 0 (blksF w lv)[i] := by
    rw [List.take_succ_eq_append_getElem hib, puts0_snoc]
   have hLi := hbnd i
   rw [<- hx1] at hok hst
   refine e_condT (o_ (v_ia i (by rfl) hi) ?_)
   have ld : RunV p_ W [Sl 3 79 (some ⟨gx, 0, none⟩) xc X.length (X.flatMap (bvC lv))] (sLoad 79 (.pointer (some ⟨gx, 0 + i * 3, none⟩))) (bvV lv X[i]) := v_ldRdG (vs := bvC lv X[i]) (rd_slG (bvs_len _ _) (fun _ => ⟨gx, rfl⟩)) rfl (fun j hj => bv_get hi hj)
   refine p_op ld ?_
   obtain ⟨⟨x, v⟩, hxv⟩ : ∃ z, z = X[i] := ⟨_, rfl⟩
   rw [<- hxv] at hk hok hst ⊢
   (try dsimp only at hok hst)
   unfold bvV
   refine e_newA fun g => ?_; refine sg_ ?_; refine lg_ ?_
   refine e_call (dput (w := wr) (last := 0) (L := puts0 lv [] ((blksF w lv).take i)) (level := lv) hk (okBk.good hok) (by omega) hLi) (.cons (by repeat constructor) (.cons (by repeat constructor) (.cons (by repeat constructor) .nil))) fun _ => ?_
   refine nr_ ?_
   refine ad_ ?_
   refine e_next1 (m - 1) (by omega) (.ex (i + 1) (.all ?_))
   refine nr_ ?_
   rw [hst]
   refine .pu ⟨by omega, by norm_cast⟩ ?_
   exact im_
  ·rw [dF_ hlt]
   have hie : i = X.length := by omega
   have hLi := hbnd i
   rw [hie, hXl, List.take_length] at hLi ⊢
   obtain ⟨M, hM⟩ : ∃ M, M = puts0 lv [] (blksF w lv) := ⟨_, rfl⟩
   have hfl : fluX w lv = stoX (M ++ bitsOf 0 3) ([], []) := by rw [hM]; rfl
   rw [<- hM] at hLi ⊢
   refine e_condF (c_ (put (l := M) (n := 0) (k := 3)) fun _ => ?_)
   rw [putL_i (n := 0) (e := 0) (k := 3) (j := 3) rfl rfl (by omega) (by omega) (by omega)]
   refine o_ v_rv ?_
   have hd := dstored (W := W) (AL := pu True) (AB := pu True) (x := (([], []) : Blk)) (v := ((none, 0), (none, 0))) (level := 0) (w := wr) (M := M ++ bitsOf 0 3) ⟨rd_nil rfl, rd_nil rfl, by decide⟩ (by decide) (by simp only [List.length_append, length_bitsOf, List.length_nil]; omega)
   unfold bvV at hd
   (try dsimp only at hd)
   rw [<- hfl] at hd
   refine e_imp (M := IsW wr (M ++ bitsOf 0 3) :: pu True :: pt p (.cells #[.int .i64 lv, .slice qa w.length qc, .int .i64 (al : Int), .bool true, .bool false] 69) :: F) ?_ ?_
   ·refine .pick (by repeat constructor) (.pu trivial ?_)
    exact im_
   refine e_call hd (.cons (by repeat constructor) (.cons (by repeat constructor) .nil)) fun _ => ?_
   refine nr_ ?_
   refine o_ v_nil (o_ v_fa0 (sn_ ?_))
   refine c_ (Go.Proofs.YthoeeahdkdcceaaGreat.B.bytes (l := fluX w lv)) fun _ => ?_
   rename_i q
   refine rt_ q ?_
   refine .pick (by repeat constructor) (.ex (none, 0) (.all ?_))
   refine nr_ ?_
   refine .pick (by repeat constructor) (imp_nil (.pu ⟨k1, Nat.zero_le _, k3, k4⟩ ?_))
   exact im_
theorem close {W : World} {p : Nat} {S : Stm} :
  Cn p_ 27 [.pointer (some ⟨p, 0, none⟩)] W [IsSt p S] (fun q : Option Addr × Nat => .tuple #[.slice q.1 (clO S).length q.2, .int .i64 (clE S)]) (fun q => [Sl 1 5 q.1 q.2 (clO S).length ((clO S).map Sl.B), IsSt p (clS S)]) := by
 obtain ⟨lv, w, al, cl⟩ := S
 (refine S.deflate_Stream_Close_s.cn fun F => ?_; unfold S.deflate_Stream_Close; simp only [ca_, na_])
 refine e_ex .here fun q => e_all .here ?_
 obtain ⟨qa, qc⟩ := q
 refine nr_ ?_
 refine e_pu (.there (.there .here)) fun hok => ?_
 have hok' := hok
 obtain ⟨k1, k2, k3, k4⟩ := hok'
 (try dsimp only at k1 k2 k3 k4)
 refine c_ open_ fun _ => ?_
 refine o_ v_neq ?_
 cases cl with
 | true =>
  rw [dT_ (by decide)]
  refine e_condT ?_
  unfold clO clE clS
  simp only [if_true]
  refine rt_ ((none, 0)) ?_
  refine imp_nil (.ex (qa, qc) (.all ?_))
  refine nr_ ?_
  refine .pick (by repeat constructor) (.pick (by repeat constructor) (.pu hok ?_))
  exact im_
 | false =>
  rw [dF_ (by decide)]
  refine e_condF (o_ v_nil (o_ v_fa0 (sn_ ?_))); refine e_drS (t_ v_nil (t_ v_fa0 (ls_ ?_))); refine t_ v_nil (t_ v_fa0 (ls_ ?_))
  refine e_slfacts (by (repeat constructor) : Pick _ (Sl 1 5 qa qc w.length (w.map Sl.B)) _) fun _ f2 f3 f4 => ?_
  have hA : RdB W (Sl 1 5 qa qc w.length (w.map Sl.B)) qa w.length (w.map Sl.B) := rd_sl (by rw [List.length_map]) f4
  refine e_call (deflate (c := qc) (level := lv) hA f2) (.cons (by repeat constructor) .nil) fun q => ?_
  obtain ⟨xa, xc⟩ := q
  refine nr_ ?_
  (try dsimp only)
  unfold clO clE clS
  simp only [Bool.false_eq_true, if_false]
  refine t_ (v_ext (v := .slice xa (dflB w lv).length xc) rfl) ?_
  refine t_ (v_ext (v := .int .i64 (dflE w lv)) rfl) ?_
  refine rt_ ((xa, xc)) ?_
  refine .pick (by repeat constructor) (.ex (qa, qc) (.all ?_))
  refine nr_ ?_
  refine .pick (by repeat constructor) (.pick (by repeat constructor) (.pu ⟨k1, k2, k3, k4⟩ ?_))
  exact im_
end Go.Proofs.YthoeeahdkdcceaaGreat.IF
namespace Go.Proofs.YthoeeahdkdcceaaGreat.Sl
open Go Go.RowKit Sh
variable {P : Program} {W : World} {L L' : List HP} {Kp : PK} {k : Value -> WP}
theorem e_bconst {t e e' : TypeId} {g n c : Nat} {cs : Array Value} (ht : P.underlying t = some (.slice e)) (he : P.underlying e = some (.int .u8)) (p : Pick L (pt g (.cells cs e' (0, 0))) L')
  (h : Ent W (pt g (.cells cs e' (cs.size, cs.size + 1)) :: L') (k (.slice (some ⟨g, 0, none⟩) n c))) : Ent W L (opN P (sConv t t (.slice (some ⟨g, 0, none⟩) n c)) Kp k) := fun w hw => by
 have hp := hw.pick p
 have hg := hp.pt_.1
 have hsh : w.shape? g = some (e', cs.size) := by unfold World.shape?; rw [hg]
 have hrun : (sConv t t (.slice (some ⟨g, 0, none⟩) n c)).run P w = .ok (.value (.slice (some ⟨g, 0, none⟩) n c)) (w.freeze ⟨g, cs.size, none⟩ 1) := by
  simp [sConv, convert, run_underlying ht, run_underlying he, markStringish, hsh]
 refine ⟨?_⟩
 rw [hrun]
 refine h _ (hp.turn (w' := w.freeze ⟨g, cs.size, none⟩ 1) rfl rfl rfl ?_ ?_ ?_)
 ·simp [World.freeze]
 ·simp [World.freeze, Array.getElem?_modify, hg]
 ·intro i hi
  simp only [World.freeze]
  rw [if_neg (by decide), Array.getElem?_modify, if_neg (fun c => hi c.symm)]
end Go.Proofs.YthoeeahdkdcceaaGreat.Sl
namespace Go.Proofs.YthoeeahdkdcceaaGreat.GZ
open Go Go.Proofs Go.RowKit Sh Sl T IF
theorem stream_some {W : World} {p : Nat} {v : Option Addr} {x y : Int} {t : Bool} : Cn p_ 59 [.pointer (some ⟨p, 0, none⟩)] W [pt p (.cells #[.pointer v, .int .u32 x, .int .u32 y, .bool t] 96)] (fun _ : Unit => .pointer v) (fun _ => [pt p (.cells #[.pointer v, .int .u32 x, .int .u32 y, .bool t] 96)]) := by
 (refine S.gzip_Stream_stream_s.cn fun F => ?_; unfold S.gzip_Stream_stream; simp only [ca_, na_])
 refine o_ v_eqNil1 ?_; refine e_condF (o_ v_nil (o_ v_fa0 (ln_ ?_)))
 refine rt_ () ?_
 exact .refl
def bgO (t : Bool) (b : List UInt8) : List UInt8 := if t = true \/ b = [] then b else gzH 0 ++ b
def bgT (t : Bool) (b : List UInt8) : Bool := if b = [] then t else true
theorem begun {W : World} {p : Nat} {a b : Value} {x : Value} {t : Bool} {q : Option Addr × Nat} {l : List UInt8} (hl : l.length <= 70368744177664) :
  Cn p_ 60 [.pointer (some ⟨p, 0, none⟩), .slice q.1 l.length q.2] W [pt p (.cells #[x, a, b, .bool t] 96), Sl 1 5 q.1 q.2 l.length (l.map Sl.B)]
   (fun r : Option Addr × Nat => .slice r.1 (bgO t l).length r.2) (fun r => [pt p (.cells #[x, a, b, .bool (bgT t l)] 96), Sl 1 5 r.1 r.2 (bgO t l).length ((bgO t l).map Sl.B)]) := by
 obtain ⟨qa, qc⟩ := q
 (try dsimp only)
 (refine S.gzip_Stream_begun_s.cn fun F => ?_; unfold S.gzip_Stream_begun; simp only [ca_, na_])
 refine o_ v_eqNil1 ?_; refine e_gdT (e_gdT (o_ v_nil (e_gdT (o_ v_fa0 (e_gdT (ln_ ?_)))))); refine o_ v_pickF ?_
 cases t with
 | true =>
  have e1 : bgO true l = l := by unfold bgO; rw [if_pos (.inl rfl)]
  have e2 : bgT true l = true := by unfold bgT; split <;> rfl
  rw [e1, e2]
  refine e_gdF1 (e_gdF1 (e_gdF1 (o_ v_pickT (e_condT (rt_ ((qa, qc)) ?_)))))
  exact .refl
 | false =>
  refine e_gdT (e_gdT (o_ v_len (e_gdT (o_ v_eql ?_))))
  by_cases h : (l.length : Int) = 0
  ·rw [dT_ h]
   have hl0 : l = [] := List.length_eq_zero_iff.1 (by omega)
   subst hl0
   refine o_ v_pickF (e_condT (rt_ ((qa, qc)) ?_))
   exact .refl
  ·rw [dF_ h]
   have hl0 : ¬ l = [] := fun c => h (by rw [c]; rfl)
   have e1 : bgO false l = gzH 0 ++ l := by unfold bgO; rw [if_neg (fun c => by rcases c with c | c; cases c; exact hl0 c)]
   have e2 : bgT false l = true := by unfold bgT; rw [if_neg hl0]
   rw [e1, e2]
   refine o_ v_pickF (e_condF (o_ v_nil (o_ v_fa0 (sn_ ?_))))
   refine c_ (head_ (n := 0)) fun _ => ?_
   rename_i r
   obtain ⟨ra, rc⟩ := r
   (try dsimp only)
   rw [show ((0 : Int) % 4294967296).toNat = 0 from rfl]
   have hh := gzH_len 0
   refine e_slfacts (by (repeat constructor) : Pick _ (Sl 1 5 qa qc l.length (l.map Sl.B)) _) fun _ g2 g3 g4 => ?_
   have hrD : RdB W (Sl 1 5 qa qc l.length (l.map Sl.B)) qa l.length (l.map Sl.B) := rd_sl (by rw [List.length_map]) g4
   refine e_app (m := l.length) (news := l.map Sl.B) .here (src_rd (A := Sl 1 5 qa qc l.length (l.map Sl.B)) (e' := 5) (by kernel_rfl) (by repeat constructor) hrD (rd_none_ hrD) B_one) (by omega) (by omega) fun a3 c3 => ?_
   rw [<- List.map_append, <- List.length_append]
   refine rt_ ((a3, c3)) ?_
   exact im_
theorem num7 {W : World} {n : Int} : Cn p_ 12 [.int .i64 n] W [] (fun _ : Unit => .int .i64 n) (fun _ => []) := by
 (refine S.law07_num_s.cn fun F => ?_; unfold S.law07_num; simp only [ca_, na_])
 refine rt_ () ?_
 exact .refl
def knC : List UInt8 := [49, 50, 51, 52, 53, 54, 55, 56, 57]
def knP : List UInt8 := [31, 139, 8, 0, 0, 0, 0, 0, 0, 255, 3, 0, 0, 0, 0, 0, 0, 0, 0, 0]
set_option maxRecDepth 100000 in
theorem kn7a : crc knC = 3421780262 := by decide +kernel
set_option maxRecDepth 100000 in
theorem kn7b : pkE [] 6 0 = 0 /\ pkB [] 6 0 = knP := by
 have : decide (pkE [] 6 0 = 0 /\ pkB [] 6 0 = knP) = true := by decide +kernel
 exact of_decide_eq_true this
theorem knows7 {W : World} : Cn p_ 18 [] W [] (fun _ : Unit => .bool true) (fun _ => []) := by
 have h1 := pack (W := W) (a := none) (c := 0) (b := []) (A := pu True) (level := 6) (mtime := 0) (rd_nil rfl) (by decide) (by decide)
 rw [kn7b.1, kn7b.2] at h1
 (refine S.law07_knows_s.cn fun F => ?_; unfold S.law07_knows; simp only [ca_, na_])
 refine e_imp (M := pu True :: F) (.pu trivial .refl) ?_
 refine c_ h1 fun _ => ?_
 rename_i q
 obtain ⟨qa, qc⟩ := q
 (try dsimp only)
 refine xt_ ?_; refine xt_ ?_
 refine c_ num7 fun _ => ?_
 refine o_ v_eql ?_
 rw [dT_ (by decide)]
 refine e_gdT (e_gdT (e_slsome .here (by decide) fun h2 hg2 => ?_))
 subst hg2
 refine p_op (v_str (l := knP) (rd_sl (by decide) (fun _ => ⟨h2, rfl⟩)) (fun c => by cases c)) ?_
 refine e_gdT (o_ (v_streq (l := knP) (m := knP)) ?_)
 rw [dT_ rfl]
 refine o_ v_pickT (e_gdT (e_bslN (vs := knC.map Sl.B) rfl rfl (by intro v hv; obtain ⟨c, _, rfl⟩ := List.mem_map.1 hv; rfl) (by omega) fun g => ?_))
 refine e_gdT (e_bconst (e := 5) (by kernel_rfl) (by kernel_rfl) .here ?_)
 refine e_gdT (c_ (crc_ (c := 9) (b := knC) (rd_pt (by rfl)) (by decide)) fun _ => ?_)
 rw [kn7a]
 refine e_gdT (o_ v_eql ?_)
 rw [dT_ (by decide)]
 refine o_ v_pickT (rt_ () ?_)
 exact im_
end Go.Proofs.YthoeeahdkdcceaaGreat.GZ
namespace Go.Proofs.YthoeeahdkdcceaaGreat.GZ
open Go Go.Proofs Go.RowKit Sh Sl T IF B M
structure Gs where
 S : Stm
 al : List UInt8
 told : Bool
def okG (G : Gs) : Prop := G.al.length = G.S.all_ /\ G.al.length <= 524288
def IsGp (p s : Nat) (G : Gs) : HP := all [pt p (.cells #[.pointer (some ⟨s, 0, none⟩), .int .u32 (crc G.al : Int), .int .u32 (G.al.length : Int), .bool G.told] 96), IsSt s G.S, pu (okG G)]
def gwS (G : Gs) (b : List UInt8) : Gs := ⟨wrS G.S b, if wrE G.S b = 0 then G.al ++ b else G.al, G.told⟩
def gfO (G : Gs) : List UInt8 := bgO G.told (flO G.S)
def gfS (G : Gs) : Gs := ⟨flS G.S, G.al, bgT G.told (flO G.S)⟩
def gcO (G : Gs) : List UInt8 := if clE G.S = 0 then bgO G.told (clO G.S) ++ gzT G.al else []
def gcS (G : Gs) : Gs := ⟨clS G.S, G.al, if clE G.S = 0 then bgT G.told (clO G.S) else G.told⟩
theorem okSt_wr {S : Stm} {b : List UInt8} (h : okSt S) : okSt (wrS S b) /\ (wrE S b = 0 -> (wrS S b).all_ = S.all_ + b.length /\ S.all_ + b.length <= 524288) /\ (wrE S b ≠ 0 -> (wrS S b).all_ = S.all_) := by
 obtain ⟨h1, h2, h3, h4⟩ := h
 have key : wrE S b = 0 -> S.all_ + b.length <= 524288 := by
  intro h
  unfold wrE at h
  by_cases c : S.closed = true
  ·rw [if_pos c] at h; cases h
  ·rw [if_neg c] at h
   by_cases d : 524288 - S.all_ < b.length
   ·rw [if_pos d] at h; cases h
   ·omega
 by_cases h : wrE S b = 0
 ·have e : wrS S b = { S with wait := S.wait ++ b, all_ := S.all_ + b.length } := by unfold wrS; rw [if_pos h]
  have := key h
  rw [e]
  exact ⟨⟨by simp only; omega, by simp only [List.length_append]; omega, h3, h4⟩, fun _ => ⟨rfl, this⟩, fun c => absurd h c⟩
 ·have e : wrS S b = S := by unfold wrS; rw [if_neg h]
  rw [e]
  exact ⟨⟨h1, h2, h3, h4⟩, fun c => absurd c h, fun _ => rfl⟩
theorem okG_wr {G : Gs} {b : List UInt8} (ho : okSt G.S) (h : okG G) : okG (gwS G b) := by
 obtain ⟨g1, g2⟩ := h
 obtain ⟨_, w1, w2⟩ := okSt_wr (b := b) ho
 unfold okG gwS
 by_cases c : wrE G.S b = 0
 ·obtain ⟨a, d⟩ := w1 c
  simp only [if_pos c, List.length_append]
  omega
 ·have a := w2 c
  simp only [if_neg c]
  omega
theorem okG_fl {G : Gs} (h : okG G) : okG (gfS G) := by
 obtain ⟨g1, g2⟩ := h
 unfold okG gfS flS
 refine ⟨?_, g2⟩
 simp only
 split <;> exact g1
theorem okG_cl {G : Gs} (h : okG G) : okG (gcS G) := h
theorem crc_app (a b : List UInt8) : crc (a ++ b) = addF (crc a) b := addF_app 0 a b
theorem gzNew {W : World} {n : Int} : Cn p_ 29 [.int .i64 n] W [] (fun q : Nat × Nat => .tuple #[.pointer (if n < 0 \/ 9 < n then none else some ⟨q.1, 0, none⟩), .int .i64 (if n < 0 \/ 9 < n then 1 else 0)]) (fun q => [if n < 0 \/ 9 < n then pu True else IsGp q.1 q.2 ⟨⟨n, [], 0, false⟩, [], false⟩]) := by
 (refine S.gzip_NewStream_s.cn fun F => ?_; unfold S.gzip_NewStream; simp only [ca_, na_])
 refine c_ (newStream (n := n)) fun _ => ?_
 rename_i s
 refine o_ (v_ext (v := .pointer (if n < 0 \/ 9 < n then none else some ⟨s, 0, none⟩)) rfl) ?_
 refine o_ (v_ext (v := .int .i64 (if n < 0 \/ 9 < n then 1 else 0)) rfl) ?_
 by_cases h : n < 0 \/ 9 < n
 ·simp only [if_pos h]
  refine o_ v_neq ?_
  rw [dT_ (by decide)]
  refine e_condT (rt_ ((0, 0)) ?_)
  exact .refl
 ·simp only [if_neg h]
  refine o_ v_neq ?_
  rw [dF_ (fun h => h rfl)]
  refine e_condF (o_ v_rv ?_); refine e_boxA fun g => ?_
  rename Nat => g
  refine rt_ ((g, s)) ?_
  unfold IsGp
  refine .all ?_
  refine nr_ ?_
  refine .pick (by repeat constructor) (.pick (by repeat constructor) (.pu ⟨rfl, by simp⟩ ?_))
  exact im_
theorem flO_len {S : Stm} (h : okSt S) : (flO S).length <= 1000000 := by
 obtain ⟨h1, h2, h3, h4⟩ := h
 unfold flO fluB
 split
 ·simp
 split
 ·simp
 ·have h1 := puts0_bnd (b := S.wait) (level := S.level) h3 (by omega) (blksF S.wait S.level).length
  rw [List.take_length] at h1
  rw [length_pk]
  unfold fluX
  rw [stoX_len]
  simp only [List.length_append, length_bitsOf, List.length_nil]
  omega
theorem e_okSt {W : World} {L L' : List HP} {T : WP} {p : Nat} {S : Stm} (k : Pick L (IsSt p S) L') (h : okSt S -> Ent W L T) : Ent W L T := fun w hw => by
 obtain ⟨f, ⟨q, ha⟩, _⟩ := (hw.pick k).fst
 obtain ⟨_, _, _, ⟨_, _, _, ⟨_, _, hp, _⟩, _⟩, _⟩ := ha
 exact h hp w hw
theorem clO_len {S : Stm} (h : okSt S) : (clO S).length <= 1000000 := by
 obtain ⟨h1, h2, h3, h4⟩ := h
 unfold clO
 split
 ·simp
 ·by_cases e : dflE S.wait S.level = 0
  ·have := dfl_small e
   omega
  ·have hv : dflB S.wait S.level = [] := by unfold dflB; rw [if_neg e]
   rw [hv]; simp
theorem bgO_len (t : Bool) (l : List UInt8) : (bgO t l).length <= l.length + 10 := by
 unfold bgO
 split
 ·omega
 ·rw [List.length_append, gzH_len]; omega
theorem gwrite {W : World} {p s : Nat} {G : Gs} {a : Option Addr} {c : Nat} {b : List UInt8} {A : HP} (hA : RdB W A a b.length (b.map Sl.B)) :
  Cn p_ 31 [.pointer (some ⟨p, 0, none⟩), .slice a b.length c] W [IsGp p s G, A] (fun _ : Unit => .int .i64 (wrE G.S b)) (fun _ => [IsGp p s (gwS G b), A]) := by
 obtain ⟨Z, al, t⟩ := G
 unfold IsGp
 (refine S.gzip_Stream_Write_s.cn fun F => ?_; unfold S.gzip_Stream_Write; simp only [ca_, na_])
 refine e_all .here ?_
 refine nr_ ?_
 refine e_ex (.there .here) fun q => e_all .here ?_
 refine nr_ ?_
 refine e_pu (.there (.there .here)) fun hok => ?_
 refine e_pu (by (repeat constructor) : Pick _ (pu (okG ⟨Z, al, t⟩)) _) fun hG => ?_
 have hG2 := okG_wr (b := b) (G := ⟨Z, al, t⟩) hok hG
 have hw0 := (okSt_wr (b := b) hok).2.1
 obtain ⟨g1, g2⟩ := hG
 (try dsimp only at g1 g2 hw0)
 refine e_imp (M := IsSt s Z :: pt p (.cells #[.pointer (some ⟨s, 0, none⟩), .int .u32 (crc al : Int), .int .u32 (al.length : Int), .bool t] 96) :: A :: F) ?_ ?_
 ·refine .ex q (.all ?_)
  refine nr_ ?_
  refine .pick (by repeat constructor) (.pick (by repeat constructor) (.pu hok ?_))
  exact im_
 refine c_ stream_some fun _ => ?_
 refine e_call (write (S := Z) hA) (.cons (by repeat constructor) (.cons (by repeat constructor) .nil)) fun _ => ?_
 refine nr_ ?_
 refine o_ v_eql ?_
 by_cases h : wrE Z b = 0
 ·rw [dT_ h]
  obtain ⟨h1, h2⟩ := hw0 h
  have e : gwS ⟨Z, al, t⟩ b = ⟨wrS Z b, al ++ b, t⟩ := by unfold gwS; simp only [if_pos h]
  rw [e] at hG2 ⊢
  (try dsimp only)
  refine e_condT (o_ v_nil (o_ v_fa0 (ln_ ?_)))
  refine e_call (add (s := crc al) (c := c) (crc_lt al) hA (by omega)) (.cons (by repeat constructor) .nil) fun _ => ?_
  refine nr_ ?_
  refine o_ v_nil (o_ v_fa0 (sn_ ?_)); refine o_ v_nil (o_ v_fa0 (ln_ ?_)); refine o_ v_len (o_ (v_conv (q := .u32)) ?_)
  rw [wrapu32 (n := b.length) (by omega)]
  refine o_ v_addw ?_
  rw [show (al.length : Int) + (b.length : Int) = ((al.length + b.length : Nat) : Int) from (Int.natCast_add _ _).symm, wrapu32 (by omega)]
  refine o_ v_nil (o_ v_fa0 (sn_ ?_))
  rw [crc_app, List.length_append]
  refine rt_ () ?_
  refine .all ?_
  refine nr_ ?_
  refine .pick (by repeat constructor) (.pick (by repeat constructor) (.pu hG2 ?_))
  exact im_
 ·rw [dF_ h]
  have e : gwS ⟨Z, al, t⟩ b = ⟨wrS Z b, al, t⟩ := by unfold gwS; simp only [if_neg h]
  rw [e] at hG2 ⊢
  (try dsimp only)
  refine e_condF (rt_ () ?_)
  refine .all ?_
  refine nr_ ?_
  refine .pick (by repeat constructor) (.pick (by repeat constructor) (.pu hG2 ?_))
  exact im_
theorem gflush {W : World} {p s : Nat} {G : Gs} :
  Cn p_ 33 [.pointer (some ⟨p, 0, none⟩)] W [IsGp p s G] (fun q : Option Addr × Nat => .tuple #[.slice q.1 (gfO G).length q.2, .int .i64 (opE G.S)]) (fun q => [Sl 1 5 q.1 q.2 (gfO G).length ((gfO G).map Sl.B), IsGp p s (gfS G)]) := by
 have hf := fun h => okG_fl (G := G) h
 obtain ⟨Z, al, t⟩ := G
 unfold IsGp
 (refine S.gzip_Stream_Flush_s.cn fun F => ?_; unfold S.gzip_Stream_Flush; simp only [ca_, na_])
 refine e_all .here ?_
 refine nr_ ?_
 refine e_pu (.there (.there .here)) fun hG => ?_
 have hG2 := hf hG
 refine e_okSt (by (repeat constructor) : Pick _ (IsSt s Z) _) fun hok => ?_
 have hfl := flO_len hok
 refine c_ stream_some fun _ => ?_
 refine e_call (flush (S := Z)) (.cons (by repeat constructor) .nil) fun q => ?_
 refine nr_ ?_
 refine o_ (v_ext (v := .slice q.1 (flO Z).length q.2) rfl) ?_
 refine o_ (v_ext (v := .int .i64 (opE Z)) rfl) ?_
 refine e_call (begun (q := q) (l := flO Z) (by omega)) (.cons (by repeat constructor) (.cons (by repeat constructor) .nil)) fun r => ?_
 refine nr_ ?_
 refine rt_ r ?_
 unfold gfS at hG2 ⊢
 refine .pick (by repeat constructor) (.all ?_)
 refine nr_ ?_
 refine .pick (by repeat constructor) (.pick (by repeat constructor) (.pu hG2 ?_))
 exact im_
theorem gclose {W : World} {p s : Nat} {G : Gs} :
  Cn p_ 35 [.pointer (some ⟨p, 0, none⟩)] W [IsGp p s G] (fun q : Option Addr × Nat => .tuple #[.slice q.1 (gcO G).length q.2, .int .i64 (clE G.S)]) (fun q => [Sl 1 5 q.1 q.2 (gcO G).length ((gcO G).map Sl.B), IsGp p s (gcS G)]) := by
 obtain ⟨Z, al, t⟩ := G
 unfold IsGp
 (refine S.gzip_Stream_Close_s.cn fun F => ?_; unfold S.gzip_Stream_Close; simp only [ca_, na_])
 refine e_all .here ?_
 refine nr_ ?_
 refine e_pu (.there (.there .here)) fun hG => ?_
 have hG2 := okG_cl hG
 refine e_okSt (by (repeat constructor) : Pick _ (IsSt s Z) _) fun hok => ?_
 refine c_ stream_some fun _ => ?_
 refine e_call (close (S := Z)) (.cons (by repeat constructor) .nil) fun q => ?_
 refine nr_ ?_
 refine o_ (v_ext (v := .slice q.1 (clO Z).length q.2) rfl) ?_
 refine o_ (v_ext (v := .int .i64 (clE Z)) rfl) ?_
 refine o_ v_neq ?_
 unfold gcO gcS at *
 (try dsimp only at hG2)
 (try dsimp only)
 by_cases h : clE Z = 0
 rotate_left
 ·rw [dT_ h]
  simp only [if_neg h] at hG2 ⊢
  refine e_condT (rt_ ((none, 0)) ?_)
  refine imp_nil (.all ?_)
  refine nr_ ?_
  refine .pick (by repeat constructor) (.pick (by repeat constructor) (.pu hG2 ?_))
  exact im_
 rw [dF_ (fun c => c h)]
 simp only [if_pos h] at hG2 ⊢
 refine e_condF ?_
 have hcl := clO_len hok
 have hbl := bgO_len t (clO Z)
 obtain ⟨g1, g2⟩ := hG
 (try dsimp only at g1 g2)
 obtain ⟨FL, hFL⟩ : ∃ FL, FL = ex fun tt : Bool => pt p (.cells #[.pointer (some ⟨s, 0, none⟩), .int .u32 (crc al : Int), .int .u32 (al.length : Int), .bool tt] 96) := ⟨_, rfl⟩
 have hf1 : RunV p_ W [FL] (sLoad 23 (.pointer (some ⟨p, 0 + 1, none⟩))) (.int .u32 (crc al : Int)) := by
  rw [hFL]
  exact e_ex .here fun tt => v_ld rfl
 have hf2 : RunV p_ W [FL] (sLoad 23 (.pointer (some ⟨p, 0 + 2, none⟩))) (.int .u32 (al.length : Int)) := by
  rw [hFL]
  exact e_ex .here fun tt => v_ld rfl
 have hi : ∀ {tt : Bool} {L L' : List HP}, Pick L (pt p (.cells #[.pointer (some ⟨s, 0, none⟩), .int .u32 (crc al : Int), .int .u32 (al.length : Int), .bool tt] 96)) L' -> Imp W L [FL] := fun {tt L L'} k => by
  rw [hFL]
  exact .ex tt (.pick k .nil)
 refine e_drS (e_stD v_nil .nil ?_)
 refine e_stD v_fa .nil ?_
 refine e_stD hf1 (hi (by repeat constructor)) ?_
 refine e_stD v_nil .nil ?_
 refine e_stD v_fa .nil ?_
 refine e_stD hf2 (hi (by repeat constructor)) ?_
 refine e_call (begun (q := q) (l := clO Z) (by omega)) (.cons (by repeat constructor) (.cons (by repeat constructor) .nil)) fun r => ?_
 refine nr_ ?_
 refine e_obl (hi (by repeat constructor)) (e_obl Imp.nil (e_obl Imp.nil (e_obl (hi (by repeat constructor)) (e_obl Imp.nil (e_obl .nil ?_)))))
 obtain ⟨ra, rc⟩ := r
 (try dsimp only)
 refine e_call (four_ (a := ra) (c := rc) (b := bgO t (clO Z)) (crc_lt al) (by omega)) (.cons (by repeat constructor) .nil) fun r4 => ?_
 obtain ⟨a4, c4⟩ := r4
 refine nr_ ?_
 (try dsimp only)
 refine e_obl (hi (by repeat constructor)) (e_obl Imp.nil (e_obl .nil ?_))
 refine e_call (four_ (a := a4) (c := c4) (b := bgO t (clO Z) ++ four (crc al)) (n := al.length) (by omega) (by rw [List.length_append, show (four (crc al)).length = 4 from rfl]; omega)) (.cons (by repeat constructor) .nil) fun r5 => ?_
 refine nr_ ?_
 have he : bgO t (clO Z) ++ four (crc al) ++ four al.length = bgO t (clO Z) ++ gzT al := by
  unfold gzT; rw [Nat.mod_eq_of_lt (show al.length < 4294967296 by omega), List.append_assoc]
 rw [he, h]
 refine rt_ r5 ?_
 refine .pick (by repeat constructor) (.all ?_)
 refine nr_ ?_
 refine .pick (by repeat constructor) (.pick (by repeat constructor) (.pu hG2 ?_))
 exact im_
end Go.Proofs.YthoeeahdkdcceaaGreat.GZ
namespace Go.Proofs.YthoeeahdkdcceaaGreat.IF
open Go Go.Proofs Go.RowKit Sh Sl T HM HF B M
def IsRt (p : Nat) (S : Stm) : HP := ex fun q : Option Addr × Nat => all [pt p (.cells #[.int .i64 S.level, .slice q.1 S.wait.length q.2, .int .i64 (S.all_ : Int), .bool S.closed] 71), Sl 1 5 q.1 q.2 S.wait.length (S.wait.map Sl.B), pu (okSt S)]
theorem rNewStream {W : World} {n : Int} : Cn p_ 20 [.int .i64 n] W [] (fun p : Nat => .pointer (if n < 0 \/ 9 < n then none else some ⟨p, 0, none⟩)) (fun p => [if n < 0 \/ 9 < n then pu True else IsRt p ⟨n, [], 0, false⟩]) := by
 (refine S.ref06_NewStream_s.cn fun F => ?_; unfold S.ref06_NewStream; simp only [ca_, na_])
 refine o_ v_lss ?_
 by_cases h1 : n < 0
 ·rw [dT_ h1]
  simp only [if_pos (show n < 0 \/ 9 < n from .inl h1)]
  refine e_gdF1 (e_gdF1 (o_ v_pickT (e_condT (rt_ 0 ?_))))
  exact .pu trivial .refl
 rw [dF_ h1]
 refine e_gdT (e_gdT (o_ v_gtr ?_))
 by_cases h2 : 9 < n
 ·rw [dT_ h2]
  simp only [if_pos (show n < 0 \/ 9 < n from .inr h2)]
  refine o_ v_pickF (e_condT (rt_ 0 ?_))
  exact .pu trivial .refl
 rw [dF_ h2]
 simp only [if_neg (show ¬ (n < 0 \/ 9 < n) from fun h => h.elim h1 h2)]
 refine o_ v_pickF (e_condF (o_ v_rv ?_)); refine e_boxA fun g => ?_
 rename Nat => g
 refine rt_ g ?_
 refine .ex (none, 0) (.all ?_)
 refine nr_ ?_
 refine .pick (by repeat constructor) ?_
 exact imp_nil (.pu ⟨by simp only; omega, by simp, by simp only; omega, by simp only; omega⟩ im_)
theorem rWrite {W : World} {p : Nat} {S : Stm} {a : Option Addr} {c : Nat} {b : List UInt8} {A : HP} (hA : RdB W A a b.length (b.map Sl.B)) :
  Cn p_ 24 [.pointer (some ⟨p, 0, none⟩), .slice a b.length c] W [IsRt p S, A] (fun _ : Unit => .int .i64 (wrE S b)) (fun _ => [IsRt p (wrS S b), A]) := by
 obtain ⟨lv, w, al, cl⟩ := S
 (refine S.ref06_Stream_Write_s.cn fun F => ?_; unfold S.ref06_Stream_Write; simp only [ca_, na_])
 refine e_ex .here fun q => e_all .here ?_
 obtain ⟨qa, qc⟩ := q
 refine nr_ ?_
 refine e_pu (.there (.there .here)) fun hok => ?_
 have hok' := hok
 obtain ⟨k1, k2, k3, k4⟩ := hok'
 (try dsimp only at k1 k2 k3 k4)
 refine o_ v_nil (o_ v_fa0 (ln_ ?_))
 cases cl with
 | true =>
  refine e_condT (rt_ () ?_)
  refine .ex (qa, qc) (.all ?_)
  refine nr_ ?_
  refine .pick (by repeat constructor) (.pick (by repeat constructor) (.pu hok ?_))
  exact im_
 | false =>
  refine e_condF (o_ v_len (o_ v_nil (o_ v_fa0 (ln_ ?_)))); refine sb_ ?_
  refine o_ v_gtr ?_
  by_cases h : (524288 : Int) - (al : Int) < (b.length : Int)
  ·rw [dT_ h]
   refine e_condT ?_
   have e1 : wrE ⟨lv, w, al, false⟩ b = 6 := by unfold wrE; simp only [Bool.false_eq_true, if_false]; rw [if_pos (by omega)]
   have e2 : wrS ⟨lv, w, al, false⟩ b = ⟨lv, w, al, false⟩ := by unfold wrS; rw [if_neg (by rw [e1]; decide)]
   rw [e1, e2]
   refine rt_ () ?_
   refine .ex (qa, qc) (.all ?_)
   refine nr_ ?_
   refine .pick (by repeat constructor) (.pick (by repeat constructor) (.pu hok ?_))
   exact im_
  ·rw [dF_ h]
   have e1 : wrE ⟨lv, w, al, false⟩ b = 0 := by unfold wrE; simp only [Bool.false_eq_true, if_false]; rw [if_neg (by omega)]
   have e2 : wrS ⟨lv, w, al, false⟩ b = ⟨lv, w ++ b, al + b.length, false⟩ := by unfold wrS; rw [if_pos e1]
   rw [e1, e2]
   refine e_condF (o_ v_nil (o_ v_fa0 (ln_ ?_))); refine o_ v_len (ad_ ?_); refine o_ v_nil (o_ v_fa0 (sn_ ?_))
   refine e_bsl0 fun gz => ?_
   refine o_ v_nil (o_ v_fa0 (ln_ ?_))
   refine e_slfacts (by (repeat constructor) : Pick _ (Sl 1 5 qa qc w.length (w.map Sl.B)) _) fun _ _ _ fw => ?_
   have hW : RdB W (Sl 1 5 qa qc w.length (w.map Sl.B)) qa w.length (w.map Sl.B) := rd_sl (by rw [List.length_map]) fw
   refine e_app (m := w.length) (news := w.map Sl.B) .here (src_rd (A := Sl 1 5 qa qc w.length (w.map Sl.B)) (e' := 5) (by kernel_rfl) (by repeat constructor) hW (rd_none_ hW) B_one) (by omega) (by omega) fun a1 c1 => ?_
   refine e_app (m := b.length) (news := b.map Sl.B) .here (src_rd (A := A) (e' := 5) (by kernel_rfl) (by repeat constructor) hA (rd_none_ hA) B_one) (by omega) (by omega) fun a' c' => ?_
   rw [List.nil_append, <- List.map_append, Nat.zero_add, <- List.length_append]
   refine o_ v_nil (o_ v_fa0 (sn_ ?_))
   refine rt_ () ?_
   refine .ex (a', c') (.all ?_)
   refine nr_ ?_
   refine .pick (by repeat constructor) (.pick (by repeat constructor) (.pu ⟨by simp only; omega, by simp only [List.length_append]; omega, k3, k4⟩ ?_))
   exact im_
theorem rFlush {W : World} {p : Nat} {S : Stm} :
  Cn p_ 26 [.pointer (some ⟨p, 0, none⟩)] W [IsRt p S] (fun q : Option Addr × Nat => .tuple #[.slice q.1 (flO S).length q.2, .int .i64 (opE S)]) (fun q => [Sl 1 5 q.1 q.2 (flO S).length ((flO S).map Sl.B), IsRt p (flS S)]) := by
 obtain ⟨lv, w, al, cl⟩ := S
 (refine S.ref06_Stream_Flush_s.cn fun F => ?_; unfold S.ref06_Stream_Flush; simp only [ca_, na_])
 refine e_ex .here fun q => e_all .here ?_
 obtain ⟨qa, qc⟩ := q
 refine nr_ ?_
 refine e_pu (.there (.there .here)) fun hok => ?_
 have hok' := hok
 obtain ⟨k1, k2, k3, k4⟩ := hok'
 (try dsimp only at k1 k2 k3 k4)
 refine o_ v_nil (o_ v_fa0 (ln_ ?_))
 cases cl with
 | true =>
  refine e_condT (rt_ ((none, 0)) ?_)
  unfold flO flS
  simp only [if_true]
  refine imp_nil (.ex (qa, qc) (.all ?_))
  refine nr_ ?_
  refine .pick (by repeat constructor) (.pick (by repeat constructor) (.pu hok ?_))
  exact im_
 | false =>
  refine e_condF (o_ v_nil (o_ v_fa0 (ln_ ?_))); refine o_ v_len (o_ v_eql ?_)
  by_cases h : (w.length : Int) = 0
  ·rw [dT_ h]
   have hw : w = [] := List.length_eq_zero_iff.1 (by omega)
   subst hw
   refine e_condT ?_
   have e1 : flO ⟨lv, [], al, false⟩ = [] := by unfold flO fluB; simp
   have e2 : flS ⟨lv, [], al, false⟩ = ⟨lv, [], al, false⟩ := by unfold flS; simp
   rw [e1, e2]
   refine rt_ ((none, 0)) ?_
   refine imp_nil (.ex (qa, qc) (.all ?_))
   refine nr_ ?_
   refine .pick (by repeat constructor) (.pick (by repeat constructor) (.pu hok ?_))
   exact im_
  rw [dF_ h]
  have hw : ¬ w = [] := fun c => h (by rw [c]; rfl)
  have e1 : flO ⟨lv, w, al, false⟩ = pk (fluX w lv) := by unfold flO fluB; simp only [Bool.false_eq_true, if_false]; rw [if_neg hw]
  have e2 : flS ⟨lv, w, al, false⟩ = ⟨lv, [], al, false⟩ := by unfold flS; simp
  rw [e1, e2]
  refine e_condF (o_ v_rv ?_); refine e_boxA fun g => ?_; refine e_drS (t_ v_nil (t_ v_fa0 (ls_ ?_))); refine t_ v_nil (t_ v_fa0 (ls_ ?_))
  rename Nat => wr
  refine e_slfacts (by (repeat constructor) : Pick _ (Sl 1 5 qa qc w.length (w.map Sl.B)) _) fun _ f2 f3 f4 => ?_
  have hA : RdB W (Sl 1 5 qa qc w.length (w.map Sl.B)) qa w.length (w.map Sl.B) := rd_sl (by rw [List.length_map]) f4
  refine e_imp (M := IsX wr [] :: pt p (.cells #[.int .i64 lv, .slice qa w.length qc, .int .i64 (al : Int), .bool false] 71) :: Sl 1 5 qa qc w.length (w.map Sl.B) :: F) (xNewX (p := wr) (by repeat constructor) im_) ?_
  refine e_call (rblocks (c := qc) (level := lv) hA f2 (by omega) (by omega)) (.cons (by repeat constructor) .nil) fun q => ?_
  obtain ⟨⟨xa, xc⟩, X⟩ := q
  refine nr_ ?_
  refine e_pu .here fun hX => ?_
  (try dsimp only at hX)
  (try dsimp only)
  obtain ⟨hXf, hXk⟩ := hX
  obtain ⟨hG, hn⟩ := blks_G w k3
  have hXl : X.length = (blksF w lv).length := by rw [<- hXf, List.length_map]
  have hbnd := puts0_bnd (b := w) (level := lv) k3 (by omega)
  have hXb : X.length <= 1000 := by omega
  have hne := blks_ne w lv
  have hpos : 0 < X.length := by rw [hXl]; exact List.length_pos_iff.2 hne
  refine e_slsome .here hpos fun gx hgx => ?_
  subst hgx
  obtain ⟨AB, hAB⟩ : ∃ AB, AB = Sl 1 5 qa qc w.length (w.map Sl.B) := ⟨_, rfl⟩
  rw [<- hAB] at hA ⊢
  refine e_loop1 (fun m y => (ex fun i : Nat => all [pu (m + i = X.length /\ y = .int .i64 (i : Int)), IsX wr (puts0 lv [] ((blksF w lv).take i))]) :: Sl 2 92 (some ⟨gx, 0, none⟩) xc X.length (X.flatMap bwC) :: BAr X :: AB :: pt p (.cells #[.int .i64 lv, .slice qa w.length qc, .int .i64 (al : Int), .bool false] 71) :: F) X.length ?_ ?_
  ·refine .ex 0 (.all ?_)
   refine nr_ ?_
   refine .pu ⟨by omega, rfl⟩ ?_
   rw [List.take_zero, puts0_nil]
   exact im_
  intro m ds y
  refine e_ex .here fun i => e_all .here ?_
  refine nr_ ?_
  refine e_pu .here fun hi => ?_
  obtain ⟨hmi, rfl⟩ := hi
  refine o_ v_len (o_ v_lss ?_)
  by_cases hlt : (i : Int) < (X.length : Int)
  ·rw [dT_ hlt]
   have hi : i < X.length := by omega
   have hib : i < (blksF w lv).length := by omega
   have hk := hXk _ (List.getElem_mem hi)
   have hx1 : X[i].1 = (blksF w lv)[i] := by
    have := List.getElem_map (f := Prod.fst) (l := X) (i := i) (h := by rw [List.length_map]; exact hi)
    rw [<- this]
    congr 1
   obtain ⟨fr, hok⟩ := blkG_all hG _ (List.getElem_mem hib)
   have hst : puts0 lv [] ((blksF w lv).take (i + 1)) = putX lv (puts0 lv [] ((blksF w lv).take i)) 0 (blksF w lv)[i] := by
    rw [List.take_succ_eq_append_getElem hib, puts0_snoc]
   have hLi := hbnd i
   rw [<- hx1] at hok hst
   refine e_condT (e_drS ?_)
   have ld : RunV p_ W [Sl 2 92 (some ⟨gx, 0, none⟩) xc X.length (X.flatMap bwC)] (sLoad 92 (.pointer (some ⟨gx, 0 + i * 2, none⟩))) (bwV X[i]) := v_ldRdG (vs := bwC X[i]) (rd_slG (bw_len _) (fun _ => ⟨gx, rfl⟩)) rfl (fun j hj => bw_get hi hj)
   refine t_ (v_ia i (by rfl) hi) ?_
   refine p_st ld ?_
   refine t_ v_nil (t_ v_fa0 (ls_ ?_))
   refine e_call (rput06 (w := wr) (x := X[i].1) (v := X[i].2) (last := 0) (L := puts0 lv [] ((blksF w lv).take i)) (level := lv) (by omega) (bar_l (List.getElem_mem hi) hk) (bar_b (List.getElem_mem hi) hk) (okBk.good hok) hLi) (.cons (by repeat constructor) (.cons (by repeat constructor) .nil)) fun _ => ?_
   refine nr_ ?_
   refine ad_ ?_
   refine e_next1 (m - 1) (by omega) (.ex (i + 1) (.all ?_))
   refine nr_ ?_
   rw [hst]
   refine .pu ⟨by omega, by rfl⟩ ?_
   exact im_
  ·rw [dF_ hlt]
   have hie : i = X.length := by omega
   have hLi := hbnd i
   rw [hie, hXl, List.take_length] at hLi ⊢
   obtain ⟨M, hM⟩ : ∃ M, M = puts0 lv [] (blksF w lv) := ⟨_, rfl⟩
   have hfl : fluX w lv = stoX (M ++ bitsOf 0 3) ([], []) := by rw [hM]; rfl
   rw [<- hM] at hLi ⊢
   refine e_condF (c_ (xPut (l := M) (n := 0) (k := 3)) fun _ => ?_)
   rw [putL_i (n := 0) (e := 0) (k := 3) (j := 3) rfl rfl (by omega) (by omega) (by omega)]
   have hd := rstored (W := W) (A := pu True) (a := none) (c := 0) (x := (([], []) : Blk)) (w := wr) (M := M ++ bitsOf 0 3) (rd_nil rfl) (by decide) (by simp only [List.length_append, length_bitsOf, List.length_nil]; omega)
   rw [<- hfl] at hd
   refine e_imp (M := IsX wr (M ++ bitsOf 0 3) :: pu True :: pt p (.cells #[.int .i64 lv, .slice qa w.length qc, .int .i64 (al : Int), .bool false] 71) :: F) ?_ ?_
   ·refine .pick (by repeat constructor) (.pu trivial ?_)
    exact im_
   refine e_call hd (.cons (by repeat constructor) (.cons (by repeat constructor) .nil)) fun _ => ?_
   refine nr_ ?_
   refine o_ v_nil (o_ v_fa0 (sn_ ?_))
   refine c_ (xBytes (l := fluX w lv)) fun _ => ?_
   rename_i q
   refine rt_ q ?_
   refine .pick (by repeat constructor) (.ex (none, 0) (.all ?_))
   refine nr_ ?_
   refine .pick (by repeat constructor) (imp_nil (.pu ⟨k1, Nat.zero_le _, k3, k4⟩ ?_))
   exact im_
theorem rClose {W : World} {p : Nat} {S : Stm} :
  Cn p_ 28 [.pointer (some ⟨p, 0, none⟩)] W [IsRt p S] (fun q : Option Addr × Nat => .tuple #[.slice q.1 (clO S).length q.2, .int .i64 (clE S)]) (fun q => [Sl 1 5 q.1 q.2 (clO S).length ((clO S).map Sl.B), IsRt p (clS S)]) := by
 obtain ⟨lv, w, al, cl⟩ := S
 (refine S.ref06_Stream_Close_s.cn fun F => ?_; unfold S.ref06_Stream_Close; simp only [ca_, na_])
 refine e_ex .here fun q => e_all .here ?_
 obtain ⟨qa, qc⟩ := q
 refine nr_ ?_
 refine e_pu (.there (.there .here)) fun hok => ?_
 have hok' := hok
 obtain ⟨k1, k2, k3, k4⟩ := hok'
 (try dsimp only at k1 k2 k3 k4)
 refine o_ v_nil (o_ v_fa0 (ln_ ?_))
 cases cl with
 | true =>
  refine e_condT ?_
  unfold clO clE clS
  simp only [if_true]
  refine rt_ ((none, 0)) ?_
  refine imp_nil (.ex (qa, qc) (.all ?_))
  refine nr_ ?_
  refine .pick (by repeat constructor) (.pick (by repeat constructor) (.pu hok ?_))
  exact im_
 | false =>
  refine e_condF (o_ v_nil (o_ v_fa0 (sn_ ?_))); refine e_drS (t_ v_nil (t_ v_fa0 (ls_ ?_))); refine t_ v_nil (t_ v_fa0 (ls_ ?_))
  refine e_slfacts (by (repeat constructor) : Pick _ (Sl 1 5 qa qc w.length (w.map Sl.B)) _) fun _ f2 f3 f4 => ?_
  have hA : RdB W (Sl 1 5 qa qc w.length (w.map Sl.B)) qa w.length (w.map Sl.B) := rd_sl (by rw [List.length_map]) f4
  refine e_call (rDeflate (c := qc) (level := lv) hA f2) (.cons (by repeat constructor) .nil) fun q => ?_
  obtain ⟨xa, xc⟩ := q
  refine nr_ ?_
  (try dsimp only)
  unfold clO clE clS
  simp only [Bool.false_eq_true, if_false]
  refine t_ (v_ext (v := .slice xa (dflB w lv).length xc) rfl) ?_
  refine t_ (v_ext (v := .int .i64 (dflE w lv)) rfl) ?_
  refine rt_ ((xa, xc)) ?_
  refine .pick (by repeat constructor) (.ex (qa, qc) (.all ?_))
  refine nr_ ?_
  refine .pick (by repeat constructor) (.pick (by repeat constructor) (.pu ⟨k1, k2, k3, k4⟩ ?_))
  exact im_
end Go.Proofs.YthoeeahdkdcceaaGreat.IF
namespace Go.Proofs.YthoeeahdkdcceaaGreat.GZ
open Go Go.Proofs Go.RowKit Sh Sl T IF B M
def IsRg (p s : Nat) (G : Gs) : HP := ex fun q : Option Addr × Nat => all [pt p (.cells #[.pointer (some ⟨s, 0, none⟩), .slice q.1 G.al.length q.2, .bool G.told] 98), Sl 1 5 q.1 q.2 G.al.length (G.al.map Sl.B), IsRt s G.S, pu (okG G)]
theorem e_okRt {W : World} {L L' : List HP} {T : WP} {p : Nat} {S : Stm} (k : Pick L (IsRt p S) L') (h : okSt S -> Ent W L T) : Ent W L T := fun w hw => by
 obtain ⟨f, ⟨q, ha⟩, _⟩ := (hw.pick k).fst
 obtain ⟨_, _, _, ⟨_, _, _, ⟨_, _, hp, _⟩, _⟩, _⟩ := ha
 exact h hp w hw
theorem rgNew {W : World} {n : Int} : Cn p_ 30 [.int .i64 n] W [] (fun q : Nat × Nat => .pointer (if n < 0 \/ 9 < n then none else some ⟨q.1, 0, none⟩)) (fun q => [if n < 0 \/ 9 < n then pu True else IsRg q.1 q.2 ⟨⟨n, [], 0, false⟩, [], false⟩]) := by
 (refine S.ref07_NewStream_s.cn fun F => ?_; unfold S.ref07_NewStream; simp only [ca_, na_])
 refine c_ (rNewStream (n := n)) fun _ => ?_
 rename_i s
 by_cases h : n < 0 \/ 9 < n
 ·simp only [if_pos h]
  refine o_ v_eqNil0 ?_; refine e_condT (rt_ ((0, 0)) ?_)
  exact .refl
 ·simp only [if_neg h]
  refine o_ v_eqNil1 ?_; refine e_condF (o_ v_rv ?_); refine e_boxA fun g => ?_
  rename Nat => g
  refine rt_ ((g, s)) ?_
  refine .ex (none, 0) (.all ?_)
  refine nr_ ?_
  refine .pick (by repeat constructor) (imp_nil (.pick (by repeat constructor) (.pu ⟨rfl, by simp⟩ ?_)))
  exact im_
theorem rgbegun {W : World} {p : Nat} {a x : Value} {t : Bool} {q : Option Addr × Nat} {l : List UInt8} (hl : l.length <= 70368744177664) :
  Cn p_ 61 [.pointer (some ⟨p, 0, none⟩), .slice q.1 l.length q.2] W [pt p (.cells #[x, a, .bool t] 98), Sl 1 5 q.1 q.2 l.length (l.map Sl.B)]
   (fun r : Option Addr × Nat => .slice r.1 (bgO t l).length r.2) (fun r => [pt p (.cells #[x, a, .bool (bgT t l)] 98), Sl 1 5 r.1 r.2 (bgO t l).length ((bgO t l).map Sl.B)]) := by
 obtain ⟨qa, qc⟩ := q
 (try dsimp only)
 (refine S.ref07_Stream_begun_s.cn fun F => ?_; unfold S.ref07_Stream_begun; simp only [ca_, na_])
 refine o_ v_nil (o_ v_fa0 (ln_ ?_))
 cases t with
 | true =>
  have e1 : bgO true l = l := by unfold bgO; rw [if_pos (.inl rfl)]
  have e2 : bgT true l = true := by unfold bgT; split <;> rfl
  rw [e1, e2]
  refine e_gdF1 (e_gdF1 (e_gdF1 (o_ v_pickT (e_condT (rt_ ((qa, qc)) ?_)))))
  exact .refl
 | false =>
  refine e_gdT (e_gdT (o_ v_len (e_gdT (o_ v_eql ?_))))
  by_cases h : (l.length : Int) = 0
  ·rw [dT_ h]
   have hl0 : l = [] := List.length_eq_zero_iff.1 (by omega)
   subst hl0
   refine o_ v_pickF (e_condT (rt_ ((qa, qc)) ?_))
   exact .refl
  ·rw [dF_ h]
   have hl0 : ¬ l = [] := fun c => h (by rw [c]; rfl)
   have e1 : bgO false l = gzH 0 ++ l := by unfold bgO; rw [if_neg (fun c => by rcases c with c | c; cases c; exact hl0 c)]
   have e2 : bgT false l = true := by unfold bgT; rw [if_neg hl0]
   rw [e1, e2]
   refine o_ v_pickF (e_condF (o_ v_nil (o_ v_fa0 (sn_ ?_))))
   refine c_ (rHead (n := 0)) fun _ => ?_
   rename_i r
   obtain ⟨ra, rc⟩ := r
   (try dsimp only)
   rw [show ((0 : Int) % 4294967296).toNat = 0 from rfl]
   have hh := gzH_len 0
   refine e_slfacts (by (repeat constructor) : Pick _ (Sl 1 5 qa qc l.length (l.map Sl.B)) _) fun _ g2 g3 g4 => ?_
   have hrD : RdB W (Sl 1 5 qa qc l.length (l.map Sl.B)) qa l.length (l.map Sl.B) := rd_sl (by rw [List.length_map]) g4
   refine e_app (m := l.length) (news := l.map Sl.B) .here (src_rd (A := Sl 1 5 qa qc l.length (l.map Sl.B)) (e' := 5) (by kernel_rfl) (by repeat constructor) hrD (rd_none_ hrD) B_one) (by omega) (by omega) fun a3 c3 => ?_
   rw [<- List.map_append, <- List.length_append]
   refine rt_ ((a3, c3)) ?_
   exact im_
theorem rgwrite {W : World} {p s : Nat} {G : Gs} {a : Option Addr} {c : Nat} {b : List UInt8} {A : HP} (hA : RdB W A a b.length (b.map Sl.B)) :
  Cn p_ 32 [.pointer (some ⟨p, 0, none⟩), .slice a b.length c] W [IsRg p s G, A] (fun _ : Unit => .int .i64 (wrE G.S b)) (fun _ => [IsRg p s (gwS G b), A]) := by
 obtain ⟨Z, al, t⟩ := G
 unfold IsRg
 (refine S.ref07_Stream_Write_s.cn fun F => ?_; unfold S.ref07_Stream_Write; simp only [ca_, na_])
 refine e_ex .here fun q => e_all .here ?_
 obtain ⟨qa, qc⟩ := q
 refine nr_ ?_
 refine e_pu (.there (.there (.there .here))) fun hG => ?_
 refine e_okRt (by (repeat constructor) : Pick _ (IsRt s Z) _) fun hok => ?_
 have hG2 := okG_wr (b := b) (G := ⟨Z, al, t⟩) hok hG
 have hw0 := (okSt_wr (b := b) hok).2.1
 obtain ⟨g1, g2⟩ := hG
 (try dsimp only at g1 g2 hw0)
 refine o_ v_nil (o_ v_fa0 (ln_ ?_))
 refine e_call (rWrite (S := Z) hA) (.cons (by repeat constructor) (.cons (by repeat constructor) .nil)) fun _ => ?_
 refine nr_ ?_
 refine o_ v_eql ?_
 by_cases h : wrE Z b = 0
 ·rw [dT_ h]
  obtain ⟨h1, h2⟩ := hw0 h
  have e : gwS ⟨Z, al, t⟩ b = ⟨wrS Z b, al ++ b, t⟩ := by unfold gwS; simp only [if_pos h]
  rw [e] at hG2 ⊢
  (try dsimp only)
  refine e_condT (e_bsl0 fun gz => ?_)
  refine o_ v_nil (o_ v_fa0 (ln_ ?_))
  refine e_slfacts (by (repeat constructor) : Pick _ (Sl 1 5 qa qc al.length (al.map Sl.B)) _) fun _ _ _ fw => ?_
  have hW : RdB W (Sl 1 5 qa qc al.length (al.map Sl.B)) qa al.length (al.map Sl.B) := rd_sl (by rw [List.length_map]) fw
  refine e_app (m := al.length) (news := al.map Sl.B) .here (src_rd (A := Sl 1 5 qa qc al.length (al.map Sl.B)) (e' := 5) (by kernel_rfl) (by repeat constructor) hW (rd_none_ hW) B_one) (by omega) (by omega) fun a1 c1 => ?_
  refine e_app (m := b.length) (news := b.map Sl.B) .here (src_rd (A := A) (e' := 5) (by kernel_rfl) (by repeat constructor) hA (rd_none_ hA) B_one) (by omega) (by omega) fun a' c' => ?_
  rw [List.nil_append, <- List.map_append, Nat.zero_add, <- List.length_append]
  refine o_ v_nil (o_ v_fa0 (sn_ ?_))
  refine rt_ () ?_
  refine .ex (a', c') (.all ?_)
  refine nr_ ?_
  refine .pick (by repeat constructor) (.pick (by repeat constructor) (.pick (by repeat constructor) (.pu hG2 ?_)))
  exact im_
 ·rw [dF_ h]
  have e : gwS ⟨Z, al, t⟩ b = ⟨wrS Z b, al, t⟩ := by unfold gwS; simp only [if_neg h]
  rw [e] at hG2 ⊢
  (try dsimp only)
  refine e_condF (rt_ () ?_)
  refine .ex (qa, qc) (.all ?_)
  refine nr_ ?_
  refine .pick (by repeat constructor) (.pick (by repeat constructor) (.pick (by repeat constructor) (.pu hG2 ?_)))
  exact im_
theorem rgflush {W : World} {p s : Nat} {G : Gs} :
  Cn p_ 34 [.pointer (some ⟨p, 0, none⟩)] W [IsRg p s G] (fun q : Option Addr × Nat => .tuple #[.slice q.1 (gfO G).length q.2, .int .i64 (opE G.S)]) (fun q => [Sl 1 5 q.1 q.2 (gfO G).length ((gfO G).map Sl.B), IsRg p s (gfS G)]) := by
 have hf := fun h => okG_fl (G := G) h
 obtain ⟨Z, al, t⟩ := G
 unfold IsRg
 (refine S.ref07_Stream_Flush_s.cn fun F => ?_; unfold S.ref07_Stream_Flush; simp only [ca_, na_])
 refine e_ex .here fun qx => e_all .here ?_
 obtain ⟨xa, xc⟩ := qx
 refine nr_ ?_
 refine e_pu (.there (.there (.there .here))) fun hG => ?_
 have hG2 := hf hG
 refine e_okRt (by (repeat constructor) : Pick _ (IsRt s Z) _) fun hok => ?_
 have hfl := flO_len hok
 refine o_ v_nil (o_ v_fa0 (ln_ ?_))
 refine e_call (rFlush (S := Z)) (.cons (by repeat constructor) .nil) fun q => ?_
 refine nr_ ?_
 refine o_ (v_ext (v := .slice q.1 (flO Z).length q.2) rfl) ?_
 refine o_ (v_ext (v := .int .i64 (opE Z)) rfl) ?_
 refine e_call (rgbegun (q := q) (l := flO Z) (by omega)) (.cons (by repeat constructor) (.cons (by repeat constructor) .nil)) fun r => ?_
 refine nr_ ?_
 refine rt_ r ?_
 unfold gfS at hG2 ⊢
 refine .pick (by repeat constructor) (.ex (xa, xc) (.all ?_))
 refine nr_ ?_
 refine .pick (by repeat constructor) (.pick (by repeat constructor) (.pick (by repeat constructor) (.pu hG2 ?_)))
 exact im_
theorem rgclose {W : World} {p s : Nat} {G : Gs} :
  Cn p_ 36 [.pointer (some ⟨p, 0, none⟩)] W [IsRg p s G] (fun q : Option Addr × Nat => .tuple #[.slice q.1 (gcO G).length q.2, .int .i64 (clE G.S)]) (fun q => [Sl 1 5 q.1 q.2 (gcO G).length ((gcO G).map Sl.B), IsRg p s (gcS G)]) := by
 obtain ⟨Z, al, t⟩ := G
 unfold IsRg
 (refine S.ref07_Stream_Close_s.cn fun F => ?_; unfold S.ref07_Stream_Close; simp only [ca_, na_])
 refine e_ex .here fun qx => e_all .here ?_
 obtain ⟨xa, xc⟩ := qx
 refine nr_ ?_
 refine e_pu (.there (.there (.there .here))) fun hG => ?_
 have hG2 := okG_cl hG
 refine e_okRt (by (repeat constructor) : Pick _ (IsRt s Z) _) fun hok => ?_
 refine o_ v_nil (o_ v_fa0 (ln_ ?_))
 refine e_call (rClose (S := Z)) (.cons (by repeat constructor) .nil) fun q => ?_
 refine nr_ ?_
 refine o_ (v_ext (v := .slice q.1 (clO Z).length q.2) rfl) ?_
 refine o_ (v_ext (v := .int .i64 (clE Z)) rfl) ?_
 refine o_ v_neq ?_
 unfold gcO gcS at *
 (try dsimp only at hG2)
 (try dsimp only)
 by_cases h : clE Z = 0
 rotate_left
 ·rw [dT_ h]
  simp only [if_neg h] at hG2 ⊢
  refine e_condT (rt_ ((none, 0)) ?_)
  refine imp_nil (.ex (xa, xc) (.all ?_))
  refine nr_ ?_
  refine .pick (by repeat constructor) (.pick (by repeat constructor) (.pick (by repeat constructor) (.pu hG2 ?_)))
  exact im_
 rw [dF_ (fun c => c h)]
 simp only [if_pos h] at hG2 ⊢
 refine e_condF ?_
 have hcl := clO_len hok
 have hbl := bgO_len t (clO Z)
 obtain ⟨g1, g2⟩ := hG
 (try dsimp only at g1 g2)
 obtain ⟨FL, hFL⟩ : ∃ FL, FL = ex fun tt : Bool => pt p (.cells #[.pointer (some ⟨s, 0, none⟩), .slice xa al.length xc, .bool tt] 98) := ⟨_, rfl⟩
 have hf1 : RunV p_ W [FL] (sLoad 22 (.pointer (some ⟨p, 0 + 1, none⟩))) (.slice xa al.length xc) := by
  rw [hFL]
  exact e_ex .here fun tt => v_ld rfl
 have hi : ∀ {tt : Bool} {L L' : List HP}, Pick L (pt p (.cells #[.pointer (some ⟨s, 0, none⟩), .slice xa al.length xc, .bool tt] 98)) L' -> Imp W L [FL] := fun {tt L L'} k => by
  rw [hFL]
  exact .ex tt (.pick k .nil)
 refine e_drS (e_stD v_nil .nil ?_)
 refine e_stD v_fa .nil ?_
 refine e_stD hf1 (hi (by repeat constructor)) ?_
 refine e_call (rgbegun (q := q) (l := clO Z) (by omega)) (.cons (by repeat constructor) (.cons (by repeat constructor) .nil)) fun r => ?_
 refine nr_ ?_
 refine e_obl (hi (by repeat constructor)) (e_obl Imp.nil (e_obl .nil ?_))
 obtain ⟨ra, rc⟩ := r
 (try dsimp only)
 refine e_slfacts (by (repeat constructor) : Pick _ (Sl 1 5 xa xc al.length (al.map Sl.B)) _) fun _ _ _ fw => ?_
 have hW : RdB W (Sl 1 5 xa xc al.length (al.map Sl.B)) xa al.length (al.map Sl.B) := rd_sl (by rw [List.length_map]) fw
 refine e_call (rTail (c := xc) hW (by omega)) (.cons (by repeat constructor) .nil) fun r4 => ?_
 obtain ⟨a4, c4⟩ := r4
 refine nr_ ?_
 (try dsimp only)
 have hTl := gzT_len al
 obtain ⟨T0, hT0⟩ : ∃ T0, T0 = gzT al := ⟨_, rfl⟩
 rw [<- hT0] at hTl ⊢
 refine e_slfacts (by (repeat constructor) : Pick _ (Sl 1 5 a4 c4 T0.length (T0.map Sl.B)) _) fun _ _ _ t4 => ?_
 have hrT : RdB W (Sl 1 5 a4 c4 T0.length (T0.map Sl.B)) a4 T0.length (T0.map Sl.B) := rd_sl (by rw [List.length_map]) t4
 refine e_app (m := T0.length) (news := T0.map Sl.B) (by (repeat constructor) : Pick _ (Sl 1 5 ra rc (bgO t (clO Z)).length ((bgO t (clO Z)).map Sl.B)) _) (src_rd (A := Sl 1 5 a4 c4 T0.length (T0.map Sl.B)) (e' := 5) (by kernel_rfl) (by repeat constructor) hrT (rd_none_ hrT) B_one) (by omega) (by omega) fun a5 c5 => ?_
 rw [<- List.map_append, <- List.length_append, h]
 refine rt_ ((a5, c5)) ?_
 refine .pick (by repeat constructor) (.ex (xa, xc) (.all ?_))
 refine nr_ ?_
 refine .pick (by repeat constructor) (.pick (by repeat constructor) (.pick (by repeat constructor) (.pu hG2 ?_)))
 exact im_
end Go.Proofs.YthoeeahdkdcceaaGreat.GZ
namespace Go.Proofs.YthoeeahdkdcceaaGreat.K
open Go Go.Proofs Sh Sl T
def IsL (g cap : Nat) (b : List UInt8) : HP := Sl 1 5 (some ⟨g, 0, none⟩) cap (b.length + 2) ((b ++ [201, 202]).map B)
theorem lent {W : World} {a : Option Addr} {cap : Nat} {b : List UInt8} {A : HP} (hr : RdB W A a b.length (b.map B)) (ha : a = none -> b.length = 0) (hb : b.length <= 140737488355000) :
  Cn p_ 9 [.slice a b.length cap] W [A] (fun q : Nat × Nat => .slice (some ⟨q.1, 0, none⟩) b.length q.2) (fun q => [IsL q.1 q.2 b, A]) := by
 (refine S.law01_Lent_s.cn fun F => ?_; unfold S.law01_Lent; simp only [ca_, na_])
 refine e_bslN (vs := []) rfl rfl (by simp) (by omega) fun g0 => ?_
 refine e_own (s := 1) (n := 0) .here (by rfl) (by unfold maxLen; omega) ?_
 refine e_app (m := b.length) (news := b.map B) .here (src_rd (A := A) (e' := 5) (by kernel_rfl) (.there .here) hr ha B_one) (by omega) (by omega) fun a1 c1 => ?_
 rw [Nat.zero_add, List.nil_append]
 refine e_bslN (vs := [B 201, B 202]) rfl rfl (by intro v hv; simp at hv; rcases hv with rfl | rfl <;> rfl) (by omega) fun g2 => ?_
 refine e_app (m := 2) (news := [B 201, B 202]) (.there .here) (src_pt (e' := 5) (by kernel_rfl) .here (by rfl) (B_one (l := [201, 202]))) (by omega) (by omega) fun a3 c3 => ?_
 refine o_ v_len (e_slfacts .here fun h1 h2 h3 h4 => ?_)
 obtain ⟨g3, rfl⟩ := h4 (by omega)
 refine o_ (v_slh b.length (by rfl) (by omega)) ?_
 rw [if_neg (by omega)]
 refine e_ret (g3, c3) (by simp [Addr.add]) ?_
 unfold IsL
 rw [List.map_append]
 exact im_
theorem rdL {W : World} {g cap : Nat} {b : List UInt8} : RdB W (IsL g cap b) (some ⟨g, 0, none⟩) b.length (b.map B) := by
 have hrd : RdB W (IsL g cap b) (some ⟨g, 0, none⟩) (b.length + 2) ((b ++ [201, 202]).map B) := rd_sl (by simp) (fun _ => ⟨g, rfl⟩)
 have h := hrd.cut (cap := b.length + 2) (l := 0) (h := b.length) (by omega) (by omega) (by omega)
 rw [if_neg (by omega), Nat.sub_zero, List.drop_zero, show List.take b.length (List.map B (b ++ [201, 202])) = b.map B by rw [List.map_append, List.take_left' (by simp)]] at h
 exact h
theorem stays {W : World} {a : Option Addr} {g cap cap2 : Nat} {b : List UInt8} {A : HP} (hr : RdB W A a b.length (b.map B)) (ha : a = none -> b.length = 0) (hb : b.length <= 140737488355000) :
  Cn p_ 17 [.slice (some ⟨g, 0, none⟩) b.length cap, .slice a b.length cap2] W [IsL g cap b, A] (fun _ : Unit => .bool true) (fun _ => [IsL g cap b, A]) := by
 (refine S.law01_Stays_s.cn fun F => ?_; unfold S.law01_Stays; simp only [ca_, na_])
 unfold IsL
 refine e_slfacts .here fun h1 h2 h3 h4 => ?_
 have hrd : RdB W (Sl 1 5 (some ⟨g, 0, none⟩) cap (b.length + 2) ((b ++ [201, 202]).map B)) (some ⟨g, 0, none⟩) (b.length + 2) ((b ++ [201, 202]).map B) := rd_sl (by simp) (fun _ => ⟨g, rfl⟩)
 refine o_ v_len (ad_ ?_)
 refine o_ (v_slh (b.length + 2) (by norm_cast) (by omega)) ?_
 rw [if_neg (by omega)]
 refine e_drS (t_ v_len (t_ (v_slh b.length (by rfl) (by omega)) ?_))
 rw [if_neg (by omega)]
 have hcut := hrd.cut (l := 0) (h := b.length) (by omega) (by omega) (by omega)
 rw [if_neg (by omega), Nat.sub_zero, List.drop_zero, show List.take b.length (List.map B (b ++ [201, 202])) = b.map B by rw [List.map_append, List.take_left' (by simp)]] at hcut
 refine p_st (v_str (l := b) hcut (fun c => by cases c)) ?_
 refine p_st (v_str (l := b) hr ha) ?_
 refine t_ v_streq ?_
 rw [dT_ rfl]
 refine e_gdT (e_gdT (e_gdT (t_ v_len (e_gdT (t_ (v_ia1 b.length (by rfl) (by omega)) ?_)))))
 refine e_gdT (p_st (v_ldSl (cs := (b ++ [201, 202]).map B) (v := B 201) (by rw [List.map_append]; simp)) ?_)
 refine e_gdT (t_ v_eql ?_)
 rw [dT_ (show (((201 : UInt8).toNat : Nat) : Int) = 201 from rfl)]
 refine t_ v_pickT (e_gdT (e_gdT (e_gdT (t_ v_len (e_gdT ?_))))); (refine t_ (v_add (by omega) (by omega)) ?_); refine e_gdT (t_ (v_ia1 (b.length + 1) (by norm_cast) (by omega)) ?_)
 refine e_gdT (p_st (v_ldSl (cs := (b ++ [201, 202]).map B) (v := B 202) (by rw [List.map_append]; simp)) ?_)
 refine e_gdT (t_ v_eql ?_)
 rw [dT_ (show (((202 : UInt8).toNat : Nat) : Int) = 202 from rfl)]
 refine t_ v_pickT (rt_ () ?_)
 exact im_
end Go.Proofs.YthoeeahdkdcceaaGreat.K
namespace Go.Proofs.YthoeeahdkdcceaaGreat.IF
open Go Go.Proofs Go.RowKit Sh Sl T HM HF B M
abbrev Bs := List UInt8 × (Option Addr × Nat)
def bsV (x : Bs) : Value := .slice x.2.1 x.1.length x.2.2
structure BsOk (W : World) (x : Bs) : Prop where
 c : x.1.length <= x.2.2
 n : x.2.1 = none -> x.1.length = 0
 r : ∀ A, RdB W A x.2.1 x.1.length (x.1.map Sl.B)
end Go.Proofs.YthoeeahdkdcceaaGreat.IF
namespace Go.Proofs.YthoeeahdkdcceaaGreat.Sl
open Go Go.RowKit Sh
variable {P : Program} {H : Type} {enc : TypeId × Value -> H} {W : World}
theorem Old.flat {α : Type} {s n : Nat} {f : α -> List Value} {a : Option Addr} {xs : List α} (hf : ∀ x, (f x).length = s) (h0 : 0 < s) (h : Old W s (fun x cs => cs = f x) a n xs) (A : HP) : RdB W A a (n * s) (xs.flatMap f) := by
 have hl := h.len
 refine ⟨by rw [flat_len hf, hl], fun hn => ?_⟩
 obtain ⟨g, o, rfl, hg, hc⟩ := h.at_ (by
  rcases Nat.eq_zero_or_pos n with z | z
  ·subst z; simp at hn
  ·exact z)
 refine ⟨g, o, rfl, fun w L hw j v hv => ?_⟩
 have hj : j < xs.length * s := by
  rcases Nat.lt_or_ge j (xs.flatMap f).length with c | c
  ·rwa [flat_len hf] at c
  ·rw [List.getElem?_eq_none c] at hv; cases hv
 have hi : j / s < xs.length := Nat.div_lt_of_lt_mul (by rwa [Nat.mul_comm] at hj)
 have hm : j % s < s := Nat.mod_lt _ h0
 have hd : j = j / s * s + j % s := by rw [Nat.mul_comm]; exact (Nat.div_add_mod j s).symm
 obtain ⟨cs, h1, h2, h3⟩ := hc (j / s) hi
 subst h2
 rw [hd, flat_get hf xs _ _ hi hm] at hv
 have := h3 (j % s) v hv
 rw [hw.base.cell (p := ⟨g, o + j, none⟩) hg]
 rwa [<- hd] at this
end Go.Proofs.YthoeeahdkdcceaaGreat.Sl
namespace Go.Proofs.YthoeeahdkdcceaaGreat.IF
open Go Go.Proofs Go.RowKit Sh Sl T
variable {H : Type} {enc : TypeId × Value -> H} {W : World}
abbrev So := Int × Bs
def soC (x : So) : List Value := [.int .i64 x.1, bsV x.2]
theorem soS_mem {l : List So} {x : So} (h : x ∈ l) : x.2.1.length + 1 <= (l.map fun x : So => x.2.1.length + 1).sum := by
 induction l with
 | nil => cases h
 | cons y l ih =>
  rw [List.map_cons, List.sum_cons]
  rcases List.mem_cons.1 h with rfl | h
  ·omega
  ·have := ih h; omega
theorem soS_len (l : List So) : l.length <= (l.map fun x : So => x.2.1.length + 1).sum := by
 induction l with
 | nil => exact Nat.le_refl _
 | cons y l ih => rw [List.map_cons, List.sum_cons, List.length_cons]; omega
set_option maxRecDepth 20000 in
theorem open_so {sp : Nat -> Bool} {held : Bool} (n : Nat) (cs : List Value) (x : DataW H × List MemPlace) (h : DataW.trod enc p_ W 0 sp held n 43 cs = some x) : ∃ a : So, (cs = soC a /\ BsOk W a.2) /\ a.2.1.length + 1 <= Rows.uptoBulk x.1 := by
 obtain ⟨xs, m, rfl, rfl, hl, hs, hf⟩ := DataW.trod_struct (fs := #[⟨"Kind", 3, 0, false, "", "", 0⟩, ⟨"B", 22, 1, false, "", "", 8⟩]) (by kernel_rfl) h
 rw [show p_.cellsOf 43 = 2 by kernel_rfl] at hl
 obtain ⟨c0, c1, rfl⟩ : ∃ c0 c1, cs = [c0, c1] := by
  match cs, hl with
  | [a, b], _ => exact ⟨a, b, rfl⟩
 obtain ⟨x0, x1, rfl⟩ : ∃ x0 x1, xs = [x0, x1] := by
  match xs, hs with
  | [a, b], _ => exact ⟨a, b, rfl⟩
 have e1 : p_.cellsOf 3 = 1 := by kernel_rfl
 have e2 : p_.cellsOf 22 = 1 := by kernel_rfl
 have f0 := hf 0 _ rfl
 have f1 := hf 1 _ rfl
 simp only [e1, e2, List.drop_zero, List.drop_succ_cons, List.take_succ_cons, List.take_zero, List.getElem?_cons_zero, List.getElem?_cons_succ] at f0 f1
 obtain ⟨k, h0, _, _⟩ := DataW.trod_int Tryz.underlying3 f0
 obtain ⟨a, cap, b, h3, g1, g2, g3, g4, g5⟩ := open_bytes (e := 5) (by kernel_rfl) (by kernel_rfl) (by kernel_rfl) f1
 refine ⟨(k, (b, (a, cap))), ⟨?_, ⟨g1, g3, g4⟩⟩, ?_⟩
 ·cases h0; cases h3; rfl
 ·clear e1 e2 hf f0 f1 hs hl
  simp only [Rows.uptoBulk, Rows.uptoBulkAll, List.map_cons, List.map_nil]
  omega
set_option maxRecDepth 20000 in
theorem open_sos {sp : Nat -> Bool} {held : Bool} {v : Value} {d : DataW H} {ps : List MemPlace} {r : Reach} {b0 : Nat} (hval : Value.okWide p_ W r b0 36 v) (hd : DataW.Trod enc p_ W 0 sp held 36 v d ps) :
  ∃ (a : Option Addr) (c : Nat) (l : List So), v = .slice a l.length c /\ (∀ A, RdB W A a (l.length * 2) (l.flatMap soC)) /\ (∀ x ∈ l, BsOk W x.2) /\ (∀ x ∈ l, x.2.1.length <= Rows.uptoBulk d) /\ l.length <= Rows.uptoBulk d := by
 obtain ⟨fuel, hf⟩ := open_slice (e := 43) (by kernel_rfl) hval hd
 obtain ⟨a, n, c, l, e, g1, g2, g3, g4, g5⟩ := open_old (e := 43) (s := 2) (rd := fun (x : So) cs => cs = soC x /\ BsOk W x.2) (m := fun x => x.2.1.length + 1) (by kernel_rfl) (by kernel_rfl) (by omega) (fun n cs x h => open_so n cs x h) hf
 have hl := g4.len
 subst hl
 have g6 : Old W 2 (fun (x : So) cs => cs = soC x) a l.length l := ⟨rfl, fun hn => by
  obtain ⟨g, o, e, hg, hc⟩ := g4.at_ hn
  exact ⟨g, o, e, hg, fun i hi => by
   obtain ⟨cs, h1, h2, h3⟩ := hc i hi
   exact ⟨cs, h1, h2.1, h3⟩⟩⟩
 refine ⟨a, c, l, by injection e, g6.flat (f := soC) (fun _ => rfl) (by omega), fun x hx => ?_, fun x hx => ?_, ?_⟩
 ·obtain ⟨i, hi, rfl⟩ := List.mem_iff_getElem.1 hx
  obtain ⟨g, o, rfl, hg, hcc⟩ := g4.at_ (by omega)
  obtain ⟨cs, h1, ⟨_, h2⟩, h3⟩ := hcc i hi
  exact h2
 ·have := soS_mem hx
  simp only at this g5
  omega
 ·have := soS_len l
  simp only at this g5
  omega
end Go.Proofs.YthoeeahdkdcceaaGreat.IF
namespace Go.Proofs.YthoeeahdkdcceaaGreat.GZ
open Go Go.Proofs Go.RowKit Sh Sl T HM HF B M K IF
theorem so_getG : ∀ {X : List So} {i j : Nat} (h : i < X.length), j < 2 -> (X.flatMap soC)[i * 2 + j]? = (soC X[i])[j]?
 | y :: X, 0, j, h, hj => by
  rw [List.flatMap_cons, List.getElem?_append_left (by simp [soC]; omega)]
  simp
 | y :: X, i + 1, j, h, hj => by
  rw [List.flatMap_cons, List.getElem?_append_right (by simp [soC]; omega), show (i + 1) * 2 + j - (soC y).length = i * 2 + j by simp [soC]; omega]
  exact so_getG (by simpa using h) hj
theorem sl_nnG {a : Option Addr} {n : Nat} (h : 0 < n -> ∃ g, a = some ⟨g, 0, none⟩) : a = none -> n = 0 := fun c => by
 rcases Nat.eq_zero_or_pos n with z | z
 ·exact z
 ·obtain ⟨_, e⟩ := h z; rw [c] at e; cases e
theorem gzipStreams {W : World} {level : Int} {a : Option Addr} {c : Nat} {l : List So} (hr : ∀ A, RdB W A a (l.length * 2) (l.flatMap soC)) (hx : ∀ x ∈ l, BsOk W x.2) (hlen : ∀ x ∈ l, x.2.1.length <= 1048576) (hll : l.length <= 1048576) :
  Cn p_ 5 [.int .i64 level, .slice a l.length c] W [] (fun _ : Unit => .bool true) (fun _ => []) := by
 (refine S.law07_GzipStreams_s.cn fun F => ?_; unfold S.law07_GzipStreams; simp only [ca_, na_])
 refine c_ (gzNew (n := level)) fun _ => ?_
 rename_i pp
 obtain ⟨p, p2⟩ := pp
 (try dsimp only)
 refine o_ (v_ext (v := .pointer (if level < 0 \/ 9 < level then none else some ⟨p, 0, none⟩)) rfl) ?_
 refine o_ (v_ext (v := .int .i64 (if level < 0 \/ 9 < level then 1 else 0)) rfl) ?_
 refine c_ (rgNew (n := level)) fun _ => ?_
 rename_i rr
 obtain ⟨r, r2⟩ := rr
 (try dsimp only)
 refine c_ num7 fun _ => ?_
 by_cases hw : level < 0 \/ 9 < level
 ·simp only [if_pos hw]
  refine o_ v_eql ?_
  rw [dF_ (by decide)]
  refine o_ v_neNil0 ?_
  refine o_ (v_bneq Tryz.underlying4) ?_
  rw [dF_ (by decide)]
  refine e_gdT (e_gdT (o_ v_eqNil0 ?_)); refine e_gdT (e_gdT (o_ v_eqNil0 ?_)); refine e_gdT (o_ (v_bneq Tryz.underlying4) ?_)
  rw [dF_ (by decide)]
  refine o_ v_pickF (e_gdT (c_ knows7 fun _ => ?_))
  refine e_gdT (o_ v_notT (o_ v_pickF (e_condF (e_loop1 (fun m y => pu (y = .int .i64 0) :: F) 0 ?_ ?_))))
  ·exact .pu rfl im_
  intro m ds y
  refine e_pu .here fun hy => ?_
  subst hy
  refine o_ v_len (o_ v_lss ?_)
  by_cases h0 : (0 : Int) < (l.length : Int)
  ·rw [dT_ h0]
   refine e_gdT (e_gdT (o_ v_neNil0 ?_)); refine o_ v_pickT (e_condF (rt_ () ?_))
   exact im_
  ·rw [dF_ h0]
   refine e_gdF2 (e_gdF2 (o_ v_pickF (e_condF (rt_ () ?_))))
   exact im_
 simp only [if_neg hw]
 refine o_ v_eql ?_
 rw [dT_ rfl]
 refine o_ v_neNil1 ?_
 refine o_ (v_bneq Tryz.underlying4) ?_
 rw [dF_ (by decide)]
 refine e_gdT (e_gdT (o_ v_eqNil1 ?_)); refine e_gdT (e_gdT (o_ v_eqNil1 ?_)); refine e_gdT (o_ (v_bneq Tryz.underlying4) ?_)
 rw [dF_ (by decide)]
 refine o_ v_pickF (e_gdT (c_ knows7 fun _ => ?_))
 refine e_gdT (o_ v_notT (o_ v_pickF (e_condF (e_loop1 (fun m y => (ex fun q : Nat × Gs => all [pu (m + q.1 = l.length /\ y = .int .i64 (q.1 : Int)), IsGp p p2 q.2, IsRg r r2 q.2]) :: pu True :: F) l.length ?_ ?_))))
 ·refine .ex (0, ⟨⟨level, [], 0, false⟩, [], false⟩) (.all ?_)
  refine nr_ ?_
  refine .pu ⟨by omega, rfl⟩ ?_
  refine .pick (by repeat constructor) (.pick (by repeat constructor) (.pu trivial ?_))
  exact im_
 intro m ds y
 refine e_ex .here fun q => e_all .here ?_
 obtain ⟨i, G⟩ := q
 refine nr_ ?_
 (try dsimp only)
 refine e_pu .here fun hi => ?_
 obtain ⟨hmi, rfl⟩ := hi
 refine o_ v_len (o_ v_lss ?_)
 by_cases hlt : (i : Int) < (l.length : Int)
 ·rw [dT_ hlt]
  have hi : i < l.length := by omega
  have hbk := hx _ (List.getElem_mem hi)
  have hbl := hlen _ (List.getElem_mem hi)
  obtain ⟨g, o, rfl, _⟩ := (hr (pu True)).at_ (by omega)
  refine e_gdT (e_gdT (o_ v_neNil1 ?_)); refine o_ v_pickT (e_condT (o_ (v_ia i (by rfl) hi) ?_))
  refine o_ v_fa ?_
  have hR := hr (pu True)
  have hg : ∀ j, j < 2 -> (l.flatMap soC)[i * 2 + j]? = (soC l[i])[j]? := fun j hj => so_getG hi hj
  have l0 : RunV p_ W [] (sLoad 3 (.pointer (some ⟨g, o + i * 2 + 0, none⟩))) (.int .i64 l[i].1) := fun w hw => v_ldRd2 hR (hg 0 (by omega)) w (Imp.sat (.pu trivial .refl) hw)
  have l1 : RunV p_ W [] (sLoad 22 (.pointer (some ⟨g, o + i * 2 + 1, none⟩))) (bsV l[i].2) := fun w hw => v_ldRd2 hR (hg 1 (by omega)) w (Imp.sat (.pu trivial .refl) hw)
  obtain ⟨⟨kd, ⟨b, ⟨ba, bc⟩⟩⟩, hz⟩ : ∃ z, z = l[i] := ⟨_, rfl⟩
  rw [<- hz] at hbk hbl l0 l1
  unfold bsV at l1
  (try dsimp only at hbl l0 l1)
  obtain ⟨b1, b2, b3⟩ := hbk
  (try dsimp only at b1 b2 b3)
  refine o_ l0 ?_
  refine o_ v_eql ?_
  by_cases h0 : kd = 0
  ·rw [dT_ h0]
   refine e_condT (o_ (v_ia i (by rfl) hi) ?_)
   refine o_ v_fa (o_ l1 ?_)
   refine e_call (lent (A := pu True) (cap := bc) (b3 (pu True)) b2 (by omega)) (.cons (by repeat constructor) .nil) fun q => ?_
   obtain ⟨g2, gc⟩ := q
   refine nr_ ?_
   (try dsimp only)
   refine e_drS (e_stD (v_ia i (by rfl) hi) .nil ?_)
   refine e_stD v_fa .nil ?_
   refine e_stD l1 .nil ?_
   refine e_call (gwrite (G := G) (A := IsL g2 gc b) rdL) (.cons (by repeat constructor) (.cons (by repeat constructor) .nil)) fun _ => ?_
   refine nr_ ?_
   refine e_obl Imp.nil (e_obl Imp.nil (e_obl .nil ?_))
   refine c_ num7 fun _ => ?_
   refine e_obl Imp.nil (e_obl Imp.nil (e_obl .nil ?_))
   refine e_call (rgwrite (G := G) (A := pu True) (c := bc) (b3 (pu True))) (.cons (by repeat constructor) (.cons (by repeat constructor) .nil)) fun _ => ?_
   refine nr_ ?_
   refine t_ v_neq ?_
   rw [dF_ (fun h => h rfl)]
   refine e_gdT (e_gdT (e_gdT (e_gdT (t_ (v_ia i (by rfl) hi) ?_))))
   refine e_gdT (t_ v_fa (e_gdT (t_ l1 ?_)))
   refine e_gdT (e_call (stays (A := pu True) (cap := gc) (cap2 := bc) (b3 (pu True)) b2 (by omega)) (.cons (by repeat constructor) (.cons (by repeat constructor) .nil)) fun _ => ?_)
   refine nr_ ?_
   refine e_gdT (t_ v_notT (t_ v_pickF (e_condF (ad_ ?_))))
   refine e_next1 (m - 1) (by omega) (.ex (i + 1, gwS G b) (.all ?_))
   refine nr_ ?_
   refine .pu ⟨by omega, by rfl⟩ ?_
   exact im_
  ·rw [dF_ h0]
   refine e_condF (o_ v_eql ?_)
   by_cases h1 : kd = 1
   ·rw [dT_ h1]
    refine e_condT (e_call (gflush (G := G)) (.cons (by repeat constructor) .nil) fun q => ?_)
    obtain ⟨qa, qc⟩ := q
    refine nr_ ?_
    (try dsimp only)
    refine o_ (v_ext (v := .slice qa (gfO G).length qc) rfl) ?_
    refine o_ (v_ext (v := .int .i64 (opE G.S)) rfl) ?_
    refine e_call (rgflush (G := G)) (.cons (by repeat constructor) .nil) fun q => ?_
    obtain ⟨ra, rc⟩ := q
    refine nr_ ?_
    (try dsimp only)
    refine o_ (v_ext (v := .slice ra (gfO G).length rc) rfl) ?_
    refine o_ (v_ext (v := .int .i64 (opE G.S)) rfl) ?_
    refine e_slfacts (by (repeat constructor) : Pick _ (Sl 1 5 qa qc (gfO G).length ((gfO G).map Sl.B)) _) fun _ _ _ s1 => ?_
    refine e_slfacts (by (repeat constructor) : Pick _ (Sl 1 5 ra rc (gfO G).length ((gfO G).map Sl.B)) _) fun _ _ _ s2 => ?_
    obtain ⟨D, hD⟩ : ∃ D, D = gfO G := ⟨_, rfl⟩
    rw [<- hD] at s1 s2 ⊢
    refine p_op (v_str (l := D) (rd_sl (by rw [List.length_map]) s1) (sl_nnG s1)) ?_
    refine p_op (v_str (l := D) (rd_sl (by rw [List.length_map]) s2) (sl_nnG s2)) ?_
    refine o_ v_strne ?_
    rw [dF_ (fun h => h rfl)]
    refine e_gdT (e_gdT (c_ num7 fun _ => ?_))
    refine e_gdT (e_gdT (o_ v_neq ?_))
    rw [dF_ (fun h => h rfl)]
    refine o_ v_pickF (e_condF (ad_ ?_))
    refine e_next1 (m - 1) (by omega) (.ex (i + 1, gfS G) (.all ?_))
    refine nr_ ?_
    refine .pu ⟨by omega, by rfl⟩ ?_
    exact im_
   ·rw [dF_ h1]
    refine e_condF (e_call (gclose (G := G)) (.cons (by repeat constructor) .nil) fun q => ?_)
    obtain ⟨qa, qc⟩ := q
    refine nr_ ?_
    (try dsimp only)
    refine o_ (v_ext (v := .slice qa (gcO G).length qc) rfl) ?_
    refine o_ (v_ext (v := .int .i64 (clE G.S)) rfl) ?_
    refine e_call (rgclose (G := G)) (.cons (by repeat constructor) .nil) fun q => ?_
    obtain ⟨ra, rc⟩ := q
    refine nr_ ?_
    (try dsimp only)
    refine o_ (v_ext (v := .slice ra (gcO G).length rc) rfl) ?_
    refine o_ (v_ext (v := .int .i64 (clE G.S)) rfl) ?_
    refine e_slfacts (by (repeat constructor) : Pick _ (Sl 1 5 qa qc (gcO G).length ((gcO G).map Sl.B)) _) fun _ _ _ s1 => ?_
    refine e_slfacts (by (repeat constructor) : Pick _ (Sl 1 5 ra rc (gcO G).length ((gcO G).map Sl.B)) _) fun _ _ _ s2 => ?_
    obtain ⟨D, hD⟩ : ∃ D, D = gcO G := ⟨_, rfl⟩
    rw [<- hD] at s1 s2 ⊢
    refine p_op (v_str (l := D) (rd_sl (by rw [List.length_map]) s1) (sl_nnG s1)) ?_
    refine p_op (v_str (l := D) (rd_sl (by rw [List.length_map]) s2) (sl_nnG s2)) ?_
    refine o_ v_strne ?_
    rw [dF_ (fun h => h rfl)]
    refine e_gdT (e_gdT (c_ num7 fun _ => ?_))
    refine e_gdT (e_gdT (o_ v_neq ?_))
    rw [dF_ (fun h => h rfl)]
    refine o_ v_pickF (e_condF (ad_ ?_))
    refine e_next1 (m - 1) (by omega) (.ex (i + 1, gcS G) (.all ?_))
    refine nr_ ?_
    refine .pu ⟨by omega, by rfl⟩ ?_
    exact im_
 ·rw [dF_ hlt]
  refine e_gdF2 (e_gdF2 (o_ v_pickF (e_condF (rt_ () ?_))))
  exact im_
end Go.Proofs.YthoeeahdkdcceaaGreat.GZ
