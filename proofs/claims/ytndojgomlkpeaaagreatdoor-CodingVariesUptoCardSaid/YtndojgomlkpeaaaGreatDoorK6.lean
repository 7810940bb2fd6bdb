/- A text's pieces. No conditions but those that each names. (18 texts made one; each says below what it is.) -/
import Derived.Test.YtndojgomlkpeaaaGreatDoorK5
set_option linter.unusedVariables false
set_option linter.unusedSimpArgs false
set_option linter.unusedSectionVars false
set_option maxRecDepth 9999
namespace Go.Proofs.YtndojgomlkpeaaaGreatDoor.IF
open Go Go.Proofs Go.RowKit Sh Sl T HM HF B M
theorem imp_bsE {W:World}{L M:List HP}{F:Nat->HP}:∀n,(∀j,j<n->∀ {L M:List HP},Imp W L M->Imp W L (F j::M))->Imp W L M->Imp W L (BS n F::M)
 |0,_,h=>imp_bs0 h
 |n+1,hF,h=>imp_bsS (F:=F) (fun _ _=>rfl) (imp_bsE n (fun j hj=>hF j (by omega)) (hF n (by omega) h))
theorem pls_zero (b:List UInt8)(k:K3):pls b 0 k=[]:=rfl
theorem imp_fi0 {W:World}{L L' M:List HP}{p gm w d c:Nat}{a:Option Addr}{b:List UInt8}(q:Picks L [pt p (.cells #[.slice a b.length c,.map (some gm),.int .i64 0,.int .i64 (w:Int),.int .i64 (d:Int)] 253),MapFn gm enc3 (fun _=>none)] L')(h:Imp W L' M):Imp W L (IsFi p a c b 0 w d::M):=by
 cases q with
 |cons p1 q=>
  cases q with
  |cons p2 q=>
   cases q
   refine .ex (gm,fun _=>(none,0)) (.all ?_)
   simp only[ca_,na_,-eq_self]
   refine .pu (fun _ _=>rfl) (.pick p1 ?_)
   rw[show mpv (fun _=>(none,0)) b 0=fun _=>none from funext fun k=>by unfold mpv;rw[if_pos (pls_zero b k)]]
   refine .pick p2 ?_
   refine imp_bsE KN (fun j _ L M h=>?_) h
   unfold slF
   rw[pls_zero]
   exact imp_nil h
theorem pieces {W:World}{a:Option Addr}{c w d:Nat}{b:List UInt8}{A:HP}(hA:RdB W A a b.length (b.map Sl.B))(hc:b.length<=c)(hb:b.length<=1048576)(hw:1<=w/\w<=32768)(hd:d<=4096):
  Cn p_ 149 [.slice a b.length c,.int .i64 (w:Int),.int .i64 (d:Int)] W [A] (fun q:Option Addr × Nat=> .tuple #[.slice q.1 (piecesF b w d).length q.2,.int .i64 0]) (fun q=>[Sl 3 209 q.1 q.2 (piecesF b w d).length ((piecesF b w d).flatMap pPz),A]):=by
 (refine Shp.cn (Sg.g_ Tryz.call149 Tryz.func149 (an:={cuts:=[(5,[12])],loops:=[(11,[9,10])]})) fun F=>?_;simp only[ca_,na_])
 refine e_cut1 (fun z=>pu (z= .bool false)::A::F) ?_ ?_
 rotate_left
 ·refine o_ v_lss ?_
  rw[dF_ (by omega)]
  refine e_condF (o_ v_gtr ?_)
  rw[dF_ (by omega)]
  refine e_condF (o_ v_lss ?_)
  rw[dF_ (by omega)]
  refine e_condF (o_ v_gtr ?_)
  rw[dF_ (by omega)]
  refine e_sat (.pu rfl ?_)
  exact .refl
 intro ds z
 refine e_pu .here fun hz=>?_
 subst hz
 refine e_condF (o_ v_len (o_ v_gtr ?_))
 rw[dF_ (by omega)]
 refine e_condF (e_mkF enc3 fun gm=>?_)
 refine o_ v_rv ?_;refine e_boxA fun g=>?_
 rename Nat=>p
 refine e_loop2 (fun m x y=>(ex fun st:(Option Addr × Nat) × Nat × Nat=>ex fun o:List Pz=>all [pu (b.length+1<=m+st.2.1/\x= .slice st.1.1 o.length st.1.2/\y= .int .i64 (st.2.1:Int)/\st.2.1<=b.length/\st.2.2<=min st.2.1 (b.length-2)/\o++pcs b w d m st.2.1=piecesF b w d/\o.length<=st.2.1),IsFi p a c b st.2.2 w d,Sl 3 209 st.1.1 st.1.2 o.length (o.flatMap pPz)])::A::F) (b.length+1) ?_ ?_
 ·refine .ex ((none,0),0,0) (.ex [] (.all ?_))
  refine nr_ ?_
  refine .pu ⟨by omega,rfl,rfl,by omega,by omega,rfl,by simp⟩ ?_
  refine imp_fi0 (.cons (by repeat constructor) (.cons (by repeat constructor) .nil)) ?_
  exact imp_nil .refl
 intro m ds x y
 refine e_ex .here fun st=>e_ex .here fun o=>e_all .here ?_
 obtain⟨⟨sa,sc⟩,j,mk⟩:=st
 refine nr_ ?_
 refine e_pu .here fun hi=>?_
 (try dsimp only at hi)
 obtain⟨hmj,rfl,rfl,hj,hmk,hex,hol⟩:=hi
 (try dsimp only)
 refine o_ v_len (e_ask v_lss .nil (fun h=>?_) (fun h=>?_))
 ·refine e_condT ?_
  have hjl:j<b.length:=by omega
  obtain⟨m,rfl⟩:∃m',m=m'+1:=⟨m-1,by omega⟩
  rw[pcs,if_pos hjl]at hex
  have hgp:gP b j (pieceAt b w d j):=pieceAt_gP hw.2
  obtain⟨he1,he2,he3⟩:=gP_end hgp hjl
  have hpn:=pzN_pos (pieceAt b w d j)
  refine c_ (learn (to:=j) hA hc hb hj hmk) fun _=>?_
  refine c_ (piece hA hc hb hjl) fun _=>?_
  generalize pieceAt b w d j=P at *
  unfold vPz
  refine e_newA fun b8=>?_
  refine e_stAgg .here (by rfl) (by rfl) (by intro u hu;simp at hu;rcases hu with rfl|rfl|rfl <;> rfl) ?_
  refine lg_ ?_
  refine e_bslS (n:=1) (vs:=[vPz P]) rfl (by decide) rfl (by intro v hv;rw[List.mem_singleton.1 hv];rfl) (by decide) fun gb=>?_
  refine e_app (m:=1) (news:=pPz P) (by repeat constructor) (src_pt (e':=209) (by kernel_rfl) .here (by rfl) (by intro u hu;simp[pPz]at hu;rcases hu with rfl|rfl|rfl <;> rfl)) (by omega) (by omega) fun a' c'=>?_
  refine o_ v_fa0 (ln_ ?_)
  refine o_ v_max ?_
  have e3:(if(1:Int)<P.len then P.len else 1)=(pzN P:Int):=by rw[he3];split <;> split <;> omega
  rw[e3]
  refine ad_ ?_
  refine e_next2 m (by omega) (.ex ((a',c'),j+pzN P,min j (b.length-2)) (.ex (o++[P]) (.all ?_)))
  refine nr_ ?_
  rw[List.length_append,List.flatMap_append]
  refine .pu ⟨by omega,rfl,rfl,he1,by omega,by rw[List.append_assoc];exact hex,by simp only[List.length_singleton];omega⟩ ?_
  exact im_
 ·have hje:b.length<=j:=by omega
  rw[pcs_end hje,List.append_nil]at hex
  subst hex
  refine e_condF (rt_ ((sa,sc)) ?_)
  exact im_
abbrev Bv:=(Option Addr × Nat) × (Option Addr × Nat)
def bvC (level:Int)(x:Blk × Bv):List Value:=[.slice x.2.1.1 x.1.1.length x.2.1.2,.slice x.2.2.1 x.1.2.length x.2.2.2,.int .i64 level]
def bvV (level:Int)(x:Blk × Bv):Value:= .agg #[.slice x.2.1.1 x.1.1.length x.2.1.2,.slice x.2.2.1 x.1.2.length x.2.2.2,.int .i64 level]
structure BkOk (W:World)(AL AB:HP)(x:Blk × Bv):Prop where
 rl:RdB W AL x.2.1.1 (x.1.1.length * 3) (x.1.1.flatMap pPz)
 rb:RdB W AB x.2.2.1 x.1.2.length (x.1.2.map Sl.B)
 bc:x.1.2.length<=x.2.2.2
theorem flat_cut {l:List Pz}(i n:Nat):((l.flatMap pPz).drop (i * 3)).take (n * 3)=((l.drop i).take n).flatMap pPz:=by
 induction l generalizing i n with
 |nil=>simp
 |cons p l ih=>
  have hp:(pPz p).length=3:=rfl
  cases i with
  |succ i=>
   rw[List.flatMap_cons,List.drop_succ_cons,<- ih i n,show(i+1) * 3=(pPz p).length+i * 3 by rw[hp];omega,<- List.drop_drop,List.drop_left]
  |zero=>
   cases n with
   |zero=>simp
   |succ n=>
    have:=ih 0 n
    simp only[Nat.zero_mul,List.drop_zero]at this ⊢
    rw[List.take_succ_cons,List.flatMap_cons,List.flatMap_cons,<- this,show(n+1) * 3=(pPz p).length+n * 3 by rw[hp];omega,List.take_length_add_append]
theorem cut_pz {W:World}{A:HP}{a:Option Addr}{c:Nat}{l:List Pz}{i j:Nat}(hA:RdB W A a (l.length * 3) (l.flatMap pPz))(h1:i<=j)(h2:j<=l.length)(h3:l.length<=c):
  RdB W A (if c=i then a else a.map (·.add (i * 3))) (((l.drop i).take (j-i)).length * 3) (((l.drop i).take (j-i)).flatMap pPz):=by
 have h:=RdB.cut (l:=i * 3) (h:=j * 3) (cap:=c * 3) hA (by omega) (by omega) (by omega)
 rw[<- Nat.sub_mul,flat_cut,Nat.mul_one]at h
 have e:((l.drop i).take (j-i)).length=j-i:=by rw[List.length_take,List.length_drop];omega
 rw[e]
 by_cases c1:c=i
 ·subst c1
  rw[if_pos rfl]at h ⊢
  exact h
 ·rw[if_neg (by omega)]at h
  rw[if_neg c1]
  exact h
theorem seg_len {b:List UInt8}{fr at_:Nat}(h1:fr<=at_)(h2:at_<=b.length):(seg b fr at_).length=at_-fr:=by
 unfold seg
 rw[List.length_take,List.length_drop];omega
theorem cut_seg {W:World}{A:HP}{a:Option Addr}{c:Nat}{b:List UInt8}{i j:Nat}(hA:RdB W A a b.length (b.map Sl.B))(h1:i<=j)(h2:j<=b.length)(h3:b.length<=c):
  RdB W A (if c=i then a else a.map (·.add (i * 1))) (seg b i j).length ((seg b i j).map Sl.B):=by
 have h:=RdB.cut (l:=i) (h:=j) (cap:=c) hA h1 h2 h3
 rw[seg_len h1 h2]
 unfold seg
 rw[List.map_take,List.map_drop]
 exact h
theorem bv_len (level:Int)(x:Blk × Bv):(bvC level x).length=3:=rfl
theorem dblocks1 {W : World} {g1 g2 g3 g4 g5 g6 g7 : Nat} {oa pa a : Option Addr} {oc pc c fi to fr at_ : Nat} {level : Int} {l : List Pz} {b : List UInt8} {X : List (Blk × Bv)} (h1 : fi ≤ to) (h2 : to ≤ l.length) (h3 : l.length ≤ pc) (h4 : fr ≤ at_) (h5 : at_ ≤ b.length) (h6 : b.length ≤ c) (h7 : X.length ≤ 1099511627776) :
  Cn p_ 150 [.int .i64 (to : Int), .pointer (some ⟨g1, 0, none⟩), .pointer (some ⟨g2, 0, none⟩), .pointer (some ⟨g3, 0, none⟩), .pointer (some ⟨g4, 0, none⟩), .pointer (some ⟨g5, 0, none⟩), .pointer (some ⟨g6, 0, none⟩), .pointer (some ⟨g7, 0, none⟩)] W
   [pt g1 (.cells #[.slice oa X.length oc] 158), Sl 3 162 oa oc X.length (X.flatMap (bvC level)), pt g2 (.cells #[.slice pa l.length pc] 160), pt g3 (.cells #[.int .i64 (fi : Int)] 3), pt g4 (.cells #[.slice a b.length c] 23), pt g5 (.cells #[.int .i64 (fr : Int)] 3), pt g6 (.cells #[.int .i64 (at_ : Int)] 3), pt g7 (.cells #[.int .i64 level] 3)]
   (fun _ : Option Addr × Nat => .tuple #[])
   (fun q => [pt g1 (.cells #[.slice q.1 (X ++ [((((l.drop fi).take (to - fi)), seg b fr at_), ((if pc = fi then pa else pa.map (·.add (fi * 3)), pc - fi), (if c = fr then a else a.map (·.add (fr * 1)), c - fr)))]).length q.2] 158),
    Sl 3 162 q.1 q.2 (X ++ [((((l.drop fi).take (to - fi)), seg b fr at_), ((if pc = fi then pa else pa.map (·.add (fi * 3)), pc - fi), (if c = fr then a else a.map (·.add (fr * 1)), c - fr)))]).length ((X ++ [((((l.drop fi).take (to - fi)), seg b fr at_), ((if pc = fi then pa else pa.map (·.add (fi * 3)), pc - fi), (if c = fr then a else a.map (·.add (fr * 1)), c - fr)))]).flatMap (bvC level)),
    pt g2 (.cells #[.slice pa l.length pc] 160), pt g3 (.cells #[.int .i64 (to : Int)] 3), pt g4 (.cells #[.slice a b.length c] 23), pt g5 (.cells #[.int .i64 (at_ : Int)] 3), pt g6 (.cells #[.int .i64 (at_ : Int)] 3), pt g7 (.cells #[.int .i64 level] 3)]) := by
 (refine Shp.cn (Sg.g_ Tryz.call150 Tryz.func150 (an := { drs := [(0, .ofL [(0, 3), (1, 1), (2, 1), (3, 1), (4, 1), (5, 1), (6, 1), (7, 1), (8, 1), (9, 1), (10, 1), (11, 0), (12, 0), (13, 0)]), (1, .ofL [(0, 1), (1, 3), (2, 0), (3, 0)])] }) (os := [(0, [(11, [0])]), (1, [(2, [1])])])) fun F => ?_; simp only [ca_, na_])
 refine e_drS ?_
 (((refine' e_stD (v_ldN ?hc) ?hi ?_); (case hi => exact .pick (by repeat constructor) .nil); (case hc => repeat constructor))); refine ls_ ?_; refine ls_ ?_
 refine t_ (v_sl2 fi to rfl rfl h1 (by omega)) ?_
 refine ls_ ?_; refine ls_ ?_; refine ls_ ?_
 refine t_ (v_sl2 fr at_ rfl rfl h4 (by omega)) ?_
 refine ls_ ?_; refine t_ v_rv ?_
 have e1 : ((l.drop fi).take (to - fi)).length = to - fi := by rw [List.length_take, List.length_drop]; omega
 have e2 := seg_len h4 h5
 obtain ⟨nx, hnx⟩ : ∃ nx : Blk × Bv, nx = (((l.drop fi).take (to - fi), seg b fr at_), ((if pc = fi then pa else pa.map (·.add (fi * 3)), pc - fi), (if c = fr then a else a.map (·.add (fr * 1)), c - fr))) := ⟨_, rfl⟩
 have hv : bvV level nx = .agg #[.slice (if pc = fi then pa else pa.map (·.add (fi * 3))) (to - fi) (pc - fi), .slice (if c = fr then a else a.map (·.add (fr * 1))) (at_ - fr) (c - fr), .int .i64 level] := by
  rw [hnx, bvV, e1, e2]
 rw [← hnx, ← hv]
 refine e_bslS (n := 1) (vs := [bvV level nx]) rfl (by decide) rfl (by intro v hv; rw [List.mem_singleton.1 hv]; rfl) (by decide) fun gb => ?_
 refine ob_ ?_
 refine e_app (m := 1) (news := bvC level nx) (by repeat constructor) (src_pt (e' := 162) (by kernel_rfl) (by repeat constructor) (by rfl) (by intro u hu; simp [bvC] at hu; rcases hu with rfl | rfl | rfl <;> rfl)) (by omega) (by omega) fun a' c' => ?_
 refine sn_ ?_; refine e_drS ?_; (((refine' e_stD (v_ldN ?hc) ?hi ?_); (case hi => exact .pick (by repeat constructor) .nil); (case hc => repeat constructor))); refine sn_ ?_; refine ob_ ?_; refine sn_ ?_
 refine rt_ ((a', c')) ?_
 (try dsimp only)
 rw [List.length_append, List.flatMap_append]
 refine .pick (by repeat constructor) ?_
 exact im_
theorem BkOk.up {W:World}{AL AB:HP}{X:List (Blk × Bv)}{x:Blk × Bv}(h:∀y∈X,BkOk W AL AB y)(hx:BkOk W AL AB x):∀y∈X++[x],BkOk W AL AB y:=fun y hy=>by
 rcases List.mem_append.1 hy with c|c
 ·exact h y c
 ·rw[List.mem_singleton.1 c];exact hx
theorem shl_lvl {n:Nat}(h1:1<=n)(h2:n<=9):IntKind.i64.wrap (2 * 2^(min (IntKind.u64.wrap (n:Int)).toNat IntKind.i64.bits))=((2 * 2^n:Nat):Int)/\2 * 2^n<=4096:=by
 rcases(show n=1\/n=2\/n=3\/n=4\/n=5\/n=6\/n=7\/n=8\/n=9 by omega)with e|e|e|e|e|e|e|e|e <;> subst e <;> exact⟨by decide,by decide⟩
theorem dblocks {W:World}{a:Option Addr}{c:Nat}{level:Int}{b:List UInt8}{A:HP}(hA:RdB W A a b.length (b.map Sl.B))(hc:b.length<=c)(hb:b.length<=1048576)(hl:0<=level/\level<=9):
  Cn p_ 111 [.slice a b.length c,.int .i64 level] W [A] (fun q:(Option Addr × Nat) × (Option Addr × Nat) × List (Blk × Bv)=> .slice q.1.1 q.2.2.length q.1.2)
   (fun q=>[pu (q.2.2.map Prod.fst=blksF b level/\∀x∈q.2.2,BkOk W (Sl 3 209 q.2.1.1 q.2.1.2 (pcsL b level).length ((pcsL b level).flatMap pPz)) A x),Sl 3 162 q.1.1 q.1.2 q.2.2.length (q.2.2.flatMap (bvC level)),Sl 3 209 q.2.1.1 q.2.1.2 (pcsL b level).length ((pcsL b level).flatMap pPz),A]):=by
 (refine Shp.cn (Sg.g_ Tryz.call111 Tryz.func111 (an:={cuts:=[(9,[])],loops:=[(5,[28]),(13,[41])]})) fun F=>?_;simp only[ca_,na_])
 refine e_box1 fun g2=>?_
 refine e_box1 fun g3=>?_
 refine e_new1 fun g5=>?_
 have hpl:=pcsL_len b level
 refine e_cut0 ((ex fun q:Option Addr × Nat=>all [pt g5 (.cells #[.slice q.1 (pcsL b level).length q.2] 160),Sl 3 209 q.1 q.2 (pcsL b level).length ((pcsL b level).flatMap pPz)])::pt g2 (.cells #[.slice a b.length c] 23)::pt g3 (.cells #[.int .i64 level] 3)::A::F) ?_ ?_
 rotate_left
 ·refine ln_ ?_
  refine e_ask v_gtr .nil (fun h=>?_) (fun h=>?_)
  ·refine e_condT (ln_ ?_);refine ln_ ?_
   refine o_ (v_conv (q:= .u64)) ?_
   obtain⟨N,rfl⟩:=Int.eq_ofNat_of_zero_le hl.1
   obtain⟨s1,s2⟩:=shl_lvl (n:=N) (by omega) (by omega)
   refine o_ (v_shl (by simp[wrapu64 (show N<18446744073709551616 by omega)])) ?_
   rw[s1]
   refine c_ (pieces (w:=32768) (d:=2 * 2^N) hA hc hb (by omega) s2) fun _=>?_
   rename_i q
   obtain⟨qa,qc⟩:=q
   (try dsimp only)
   have hp:pcsL b (N:Int)=piecesF b 32768 (2 * 2^N):=by unfold pcsL;rw[if_pos h,Int.toNat_natCast]
   rw[<- hp]
   refine xt_ ?_;refine xt_ ?_;refine sn_ ?_
   refine e_sat (.ex (qa,qc) (.all ?_))
   refine nr_ ?_
   exact im_
  ·refine e_condF (ln_ ?_);refine o_ v_len ?_
   have hp:pcsL b level=lits b:=by unfold pcsL;rw[if_neg h]
   rw[hp]
   refine e_loop1 (fun m y=>(ex fun i:Nat=>ex fun q:Option Addr × Nat=>all [pu (m+i=b.length/\y= .int .i64 (i:Int)),pt g5 (.cells #[.slice q.1 (lits (b.take i)).length q.2] 160),Sl 3 209 q.1 q.2 (lits (b.take i)).length ((lits (b.take i)).flatMap pPz)])::pt g2 (.cells #[.slice a b.length c] 23)::pt g3 (.cells #[.int .i64 level] 3)::A::F) b.length ?_ ?_
   ·refine .ex 0 (.ex (none,0) (.all ?_))
    refine nr_ ?_
    refine .pu ⟨by omega,rfl⟩ (.pick (by repeat constructor) ?_)
    refine imp_nil ?_
    exact im_
   intro m ds y
   refine e_ex .here fun i=>e_ex .here fun q=>e_all .here ?_
   obtain⟨qa,qc⟩:=q
   refine nr_ ?_
   refine e_pu .here fun hk=>?_
   (try dsimp only at hk)
   obtain⟨hmi,rfl⟩:=hk
   (try dsimp only)
   refine e_ask v_lss .nil (fun h2=>?_) (fun h2=>?_)
   ·have hil:i<b.length:=by omega
    refine e_condT ?_
    obtain⟨g,o,ha,_⟩:=hA.at_ (by omega)
    have hA2:=hA
    rw[ha]at hA2 ⊢
    refine o_ (v_ia1 i rfl hil) ?_
    refine p_op (v_ldRd (v:=Sl.B b[i]) hA2 (by rw[List.getElem?_map,List.getElem?_eq_getElem hil];rfl)) ?_
    refine ln_ ?_;refine o_ v_rv ?_
    refine e_bslS (n:=1) (vs:=[vPz ⟨0,0,b[i]⟩]) rfl (by decide) rfl (by intro v hv;rw[List.mem_singleton.1 hv];rfl) (by decide) fun gb=>?_
    have hll:(lits (b.take i)).length=i:=by unfold lits;rw[List.length_map,List.length_take];omega
    refine e_app (m:=1) (news:=pPz ⟨0,0,b[i]⟩) (by repeat constructor) (src_pt (e':=209) (by kernel_rfl) .here (by rfl) (by intro u hu;simp[pPz]at hu;rcases hu with rfl|rfl <;> rfl)) (by omega) (by omega) fun a' c'=>?_
    refine sn_ ?_;refine ad_ ?_
    refine e_next1 (m-1) (by omega) (.ex (i+1) (.ex (a',c') (.all ?_)))
    refine nr_ ?_
    have e1:lits (b.take (i+1))=lits (b.take i)++[⟨0,0,b[i]⟩]:=by unfold lits;rw[List.take_succ_eq_append_getElem hil,List.map_append];rfl
    rw[e1,List.length_append,List.flatMap_append]
    refine .pu ⟨by omega,rfl⟩ ?_
    refine .pick (by repeat constructor) (.pick (by repeat constructor) ?_)
    rw[<- ha]
    exact im_
   ·have:i=b.length:=by omega
    subst this
    rw[List.take_length]
    refine e_condF (e_sat (.ex (qa,qc) (.all ?_)))
    refine nr_ ?_
    exact im_
 intro ds
 refine e_ex .here fun q=>e_all .here ?_
 obtain⟨pa,pc⟩:=q
 refine nr_ ?_
 (try dsimp only)
 obtain⟨hg0,hend⟩:=pcsL_gPs b level
 have hbf:cutF b level (pcsL b level) [] 0 0 []=blksF b level:=rfl
 generalize pcsL b level=l at *
 refine e_slfacts (by repeat constructor) fun f1 f2 f3 f4=>?_
 have hpc:l.length<=pc:=f2
 have hPL:RdB W (Sl 3 209 pa pc l.length (l.flatMap pPz)) pa (l.length * 3) (l.flatMap pPz):=rd_slG f1 f4
 refine e_new1 fun g8=>?_
 refine e_new1 fun g9=>?_
 refine e_new1 fun g10=>?_
 refine e_new1 fun g11=>?_
 refine sn_ ?_;refine sn_ ?_;refine sn_ ?_
 refine o_ v_mkF (ln_ ?_);refine o_ v_len ?_
 refine e_loop1 (fun m y=>(ex fun i:Nat=>ex fun st:(Option Addr × Nat) × Nat × Nat=>ex fun X:List (Blk × Bv)=>all [pu (m+i=l.length/\y= .int .i64 (i:Int)/\i<=l.length/\st.2.1<=i/\st.2.2<=endN 0 (l.take i)/\X.length<=i/\cutF b level (l.drop i) ((l.drop st.2.1).take (i-st.2.1)) st.2.2 (endN 0 (l.take i)) (X.map Prod.fst)=blksF b level/\∀x∈X,BkOk W (Sl 3 209 pa pc l.length (l.flatMap pPz)) A x),
   pt g8 (.cells #[.slice st.1.1 X.length st.1.2] 158),Sl 3 162 st.1.1 st.1.2 X.length (X.flatMap (bvC level)),pt g9 (.cells #[.int .i64 (st.2.1:Int)] 3),pt g10 (.cells #[.int .i64 (st.2.2:Int)] 3),pt g11 (.cells #[.int .i64 (endN 0 (l.take i):Int)] 3)])::
   pt g5 (.cells #[.slice pa l.length pc] 160)::(Sl 3 209 pa pc l.length (l.flatMap pPz))::pt g2 (.cells #[.slice a b.length c] 23)::pt g3 (.cells #[.int .i64 level] 3)::A::F) l.length ?_ ?_
 ·refine .ex 0 (.ex ((none,0),0,0) (.ex [] (.all ?_)))
  refine nr_ ?_
  refine .pu ⟨by omega,rfl,by omega,by omega,by omega,by simp,by simpa [endN]using hbf,by simp⟩ ?_
  refine .pick (by repeat constructor) ?_
  refine imp_nil ?_
  exact im_
 intro m ds2 y
 refine e_ex .here fun i=>e_ex .here fun st=>e_ex .here fun X=>e_all .here ?_
 obtain⟨⟨oa,oc⟩,fi,fr⟩:=st
 refine nr_ ?_
 refine e_pu .here fun hk=>?_
 (try dsimp only at hk)
 obtain⟨hmi,rfl,hil,hfi,hfr,hXi,hcut,hok⟩:=hk
 (try dsimp only)
 have hsp:gPs b 0 (l.take i++l.drop i):=by rw[List.take_append_drop];exact hg0
 obtain⟨hs1,hs2⟩:=gPs_append.1 hsp
 have hle:=endN_le hs1 (by omega)
 obtain⟨e,he⟩:∃e,e=endN 0 (l.take i):=⟨_,rfl⟩
 rw[<- he]at hcut hfr hs2 hle ⊢
 refine e_ask v_lss .nil (fun h=>?_) (fun h=>?_)
 ·have hi2:i<l.length:=by omega
  refine e_condT ?_
  rw[List.drop_eq_getElem_cons hi2]at hcut hs2
  obtain⟨hs3,hs4,_⟩:=hs2
  obtain⟨q1,q2,q3⟩:=gP_end hs4 hs3
  have hpn:=pzN_pos l[i]
  have hLl:((l.drop fi).take (i-fi)).length=i-fi:=by rw[List.length_take,List.length_drop];omega
  have hLp:(l.drop fi).take (i+1-fi)=(l.drop fi).take (i-fi)++[l[i]]:=by
   rw[show i+1-fi=(i-fi)+1 by omega,List.take_succ_eq_append_getElem (by rw[List.length_drop];omega),List.getElem_drop]
   congr 3
   omega
  have he1:endN 0 (l.take (i+1))=e+pzN l[i]:=by rw[List.take_succ_eq_append_getElem hi2,endN_append,<- he];rfl
  rw[cutF,hLl,show i-fi+1=i+1-fi by omega]at hcut
  obtain⟨g,o,ha,_⟩:=hPL.at_ (by omega)
  rw[ha]
  refine o_ (v_ia i rfl hi2) ?_
  have ld:RunV p_ W [(Sl 3 209 pa pc l.length (l.flatMap pPz))] (sLoad 209 (.pointer (some ⟨g,o+i * 3,none⟩))) (vPz l[i]):=v_ldRdG (vs:=pPz l[i]) (by have h:=hPL;rw[ha]at h ⊢;exact h) rfl (fun j hj=>pz_get hi2 j hj)
  rw[ha]at ld
  refine p_op ld ?_
  rw[<- ha]
  unfold vPz
  refine e_newA fun g=>?_;refine sg_ ?_;refine ln_ ?_;refine o_ v_fa0 (ln_ ?_)
  refine o_ v_max ?_
  have e3:(if(1:Int)<(l[i]).len then(l[i]).len else 1)=(pzN l[i]:Int):=by rw[q3];split <;> split <;> omega
  rw[e3]
  refine ad_ ?_
  rw[show(e:Int)+(pzN l[i]:Int)=((e+pzN l[i]:Nat):Int)from rfl]
  refine sn_ ?_;refine ln_ ?_;refine ln_ ?_;refine sb_ ?_;refine ln_ ?_
  refine o_ v_eql ?_
  by_cases l0:level=0
  ·rw[dT_ l0]
   refine e_gdT (e_gdT (o_ v_eql ?_))
   by_cases n0:((e+pzN l[i]:Nat):Int)-(fr:Int)=30000
   ·rw[dT_ n0]
    refine o_ v_pickT (e_gdF1 (e_gdF1 (e_gdF1 (e_gdU (e_gdU (e_gdU (e_gdU (e_gdU (e_gdU (e_gdU (e_gdU (e_gdU (e_gdF1 (o_ v_pickT (e_condT (ad_ ?_))))))))))))))))
    rw[if_pos (show fullC level (i+1-fi) (e+pzN l[i]-fr)from .inl ⟨l0,by omega⟩)]at hcut
    rw[show(i:Int)+1=((i+1:Nat):Int)from rfl]
    refine e_callC (dblocks1 (fi:=fi) (to:=i+1) (fr:=fr) (at_:=e+pzN (l[i])) (l:=l) (b:=b) (X:=X) (by omega) (by omega) hpc (by omega) (by omega) hc (by omega)) (by(repeat(first|exact Picks.nil|(apply Picks.cons;(focus repeat constructor))))) fun q=>?_
    obtain⟨qa,qc⟩:=q
    (try dsimp only)
    refine nr_ ?_
    refine ad_ ?_
    refine e_next1 (m-1) (by omega) (.ex (i+1) (.ex ((qa,qc),i+1,e+pzN (l[i])) (.ex (X++[((((l.drop fi).take (i+1-fi)),seg b fr (e+pzN (l[i]))),((if pc=fi then pa else pa.map (·.add (fi * 3)),pc-fi),(if c=fr then a else a.map (·.add (fr * 1)),c-fr)))]) (.all ?_))))
    refine nr_ ?_
    refine .pu ⟨by omega,rfl,by omega,by omega,by omega,by simp;omega,?_,(BkOk.up hok ⟨by
      have:=cut_pz (i:=fi) (j:=i+1) (c:=pc) hPL (by omega) (by omega) hpc
      exact this,by
      have:=cut_seg (i:=fr) (j:=(e+pzN (l[i]))) (c:=c) hA (by omega) (by omega) hc
      exact this,by
      show(seg b fr (e+pzN (l[i]))).length<=c-fr
      rw[seg_len (by omega) (by omega)];omega⟩)⟩ ?_
    ·rw[Nat.sub_self,List.take_zero,he1,List.map_append,List.map_singleton,hLp]
     exact hcut
    rw[he1]
    exact im_
   ·rw[dF_ n0]
    refine o_ v_pickT (e_gdT (ln_ ?_));refine e_gdT (o_ v_gtr ?_)
    rw[dF_ (by omega)]
    refine e_gdT (e_gdF2 (e_gdF2 (e_gdF2 (e_gdF2 (e_gdF2 (e_gdF2 (e_gdU (e_gdU (e_gdF2 (e_gdT (o_ v_pickF (o_ v_pickF (e_condF (ad_ ?_))))))))))))))
    rw[if_neg (show ¬fullC level (i+1-fi) (e+pzN l[i]-fr)from fun h=>by rcases h with h|h <;> omega)]at hcut
    refine e_next1 (m-1) (by omega) (.ex (i+1) (.ex ((oa,oc),fi,fr) (.ex X (.all ?_))))
    refine nr_ ?_
    refine .pu ⟨by omega,rfl,by omega,by omega,by omega,by omega,?_,hok⟩ ?_
    ·rw[he1,hLp]
     exact hcut
    rw[he1]
    exact im_
  ·rw[dF_ l0]
   refine e_gdF2 (e_gdF2 (o_ v_pickF (e_gdT (ln_ ?_))));refine e_gdT (o_ v_gtr ?_)
   rw[dT_ (by omega)]
   refine e_gdT (e_gdT (e_gdT (ad_ ?_)));refine e_gdT (ln_ ?_);refine e_gdT (sb_ ?_);refine e_gdT (o_ v_eql ?_)
   by_cases k0:(i:Int)+1-(fi:Int)=8192
   ·rw[dT_ k0]
    refine e_gdT (e_gdF1 (e_gdF1 (e_gdT (o_ v_pickT (e_gdT (o_ v_pickT (o_ v_pickF (e_condT (ad_ ?_)))))))))
    rw[if_pos (show fullC level (i+1-fi) (e+pzN l[i]-fr)from .inr ⟨by omega,.inl (by omega)⟩)]at hcut
    rw[show(i:Int)+1=((i+1:Nat):Int)from rfl]
    refine e_callC (dblocks1 (fi:=fi) (to:=i+1) (fr:=fr) (at_:=e+pzN (l[i])) (l:=l) (b:=b) (X:=X) (by omega) (by omega) hpc (by omega) (by omega) hc (by omega)) (by(repeat(first|exact Picks.nil|(apply Picks.cons;(focus repeat constructor))))) fun q=>?_
    obtain⟨qa,qc⟩:=q
    (try dsimp only)
    refine nr_ ?_
    refine ad_ ?_
    refine e_next1 (m-1) (by omega) (.ex (i+1) (.ex ((qa,qc),i+1,e+pzN (l[i])) (.ex (X++[((((l.drop fi).take (i+1-fi)),seg b fr (e+pzN (l[i]))),((if pc=fi then pa else pa.map (·.add (fi * 3)),pc-fi),(if c=fr then a else a.map (·.add (fr * 1)),c-fr)))]) (.all ?_))))
    refine nr_ ?_
    refine .pu ⟨by omega,rfl,by omega,by omega,by omega,by simp;omega,?_,(BkOk.up hok ⟨by
      have:=cut_pz (i:=fi) (j:=i+1) (c:=pc) hPL (by omega) (by omega) hpc
      exact this,by
      have:=cut_seg (i:=fr) (j:=(e+pzN (l[i]))) (c:=c) hA (by omega) (by omega) hc
      exact this,by
      show(seg b fr (e+pzN (l[i]))).length<=c-fr
      rw[seg_len (by omega) (by omega)];omega⟩)⟩ ?_
    ·rw[Nat.sub_self,List.take_zero,he1,List.map_append,List.map_singleton,hLp]
     exact hcut
    rw[he1]
    exact im_
   ·rw[dF_ k0]
    refine e_gdT (e_gdT (e_gdT (o_ v_gtr ?_)))
    by_cases n0:30000<((e+pzN l[i]:Nat):Int)-(fr:Int)
    ·rw[dT_ n0]
     refine e_gdT (o_ v_pickF (e_gdT (o_ v_pickT (o_ v_pickF (e_condT (ad_ ?_))))))
     rw[if_pos (show fullC level (i+1-fi) (e+pzN l[i]-fr)from .inr ⟨by omega,.inr (by omega)⟩)]at hcut
     rw[show(i:Int)+1=((i+1:Nat):Int)from rfl]
     refine e_callC (dblocks1 (fi:=fi) (to:=i+1) (fr:=fr) (at_:=e+pzN (l[i])) (l:=l) (b:=b) (X:=X) (by omega) (by omega) hpc (by omega) (by omega) hc (by omega)) (by(repeat(first|exact Picks.nil|(apply Picks.cons;(focus repeat constructor))))) fun q=>?_
     obtain⟨qa,qc⟩:=q
     (try dsimp only)
     refine nr_ ?_
     refine ad_ ?_
     refine e_next1 (m-1) (by omega) (.ex (i+1) (.ex ((qa,qc),i+1,e+pzN (l[i])) (.ex (X++[((((l.drop fi).take (i+1-fi)),seg b fr (e+pzN (l[i]))),((if pc=fi then pa else pa.map (·.add (fi * 3)),pc-fi),(if c=fr then a else a.map (·.add (fr * 1)),c-fr)))]) (.all ?_))))
     refine nr_ ?_
     refine .pu ⟨by omega,rfl,by omega,by omega,by omega,by simp;omega,?_,(BkOk.up hok ⟨by
       have:=cut_pz (i:=fi) (j:=i+1) (c:=pc) hPL (by omega) (by omega) hpc
       exact this,by
       have:=cut_seg (i:=fr) (j:=(e+pzN (l[i]))) (c:=c) hA (by omega) (by omega) hc
       exact this,by
       show(seg b fr (e+pzN (l[i]))).length<=c-fr
       rw[seg_len (by omega) (by omega)];omega⟩)⟩ ?_
     ·rw[Nat.sub_self,List.take_zero,he1,List.map_append,List.map_singleton,hLp]
      exact hcut
     rw[he1]
     exact im_
    ·rw[dF_ n0]
     refine e_gdT (o_ v_pickF (e_gdT (o_ v_pickT (o_ v_pickF (e_condF (ad_ ?_))))))
     rw[if_neg (show ¬fullC level (i+1-fi) (e+pzN l[i]-fr)from fun h=>by rcases h with h|⟨_,h|h⟩ <;> omega)]at hcut
     refine e_next1 (m-1) (by omega) (.ex (i+1) (.ex ((oa,oc),fi,fr) (.ex X (.all ?_))))
     refine nr_ ?_
     refine .pu ⟨by omega,rfl,by omega,by omega,by omega,by omega,?_,hok⟩ ?_
     ·rw[he1,hLp]
      exact hcut
     rw[he1]
     exact im_
 ·have hie:i=l.length:=by omega
  subst hie
  rw[List.take_length]at he
  rw[List.drop_length,cutF]at hcut
  have hLl:((l.drop fi).take (l.length-fi)).length=l.length-fi:=by rw[List.length_take,List.length_drop];omega
  refine e_condF (ln_ ?_);refine ln_ ?_;refine o_ v_len ?_
  by_cases f0:(fi:Int)<(l.length:Int)
  ·refine o_ v_lss ?_
   rw[dT_ f0]
   refine e_gdF1 (e_gdF1 (e_gdF1 (o_ v_pickT (e_condT (ln_ ?_)))));refine o_ v_len ?_
   rw[if_pos (show(l.drop fi).take (l.length-fi)≠[]\/X.map Prod.fst=[]from .inl fun c=>by rw[c]at hLl;simp at hLl;omega)]at hcut
   refine e_callC (dblocks1 (fi:=fi) (to:=l.length) (fr:=fr) (at_:=e) (l:=l) (b:=b) (X:=X) (by omega) (by omega) hpc (by omega) (by omega) hc (by omega)) (by(repeat(first|exact Picks.nil|(apply Picks.cons;(focus repeat constructor))))) fun q=>?_
   obtain⟨qa,qc⟩:=q
   (try dsimp only)
   refine nr_ ?_
   refine ln_ ?_
   refine e_ret ((qa,qc),(pa,pc),X++[((((l.drop fi).take (l.length-fi)),seg b fr e),((if pc=fi then pa else pa.map (·.add (fi * 3)),pc-fi),(if c=fr then a else a.map (·.add (fr * 1)),c-fr)))]) rfl ?_
   refine nr_ ?_
   refine .pu ⟨by rw[List.map_append,List.map_singleton];exact hcut,(BkOk.up hok ⟨by
     have:=cut_pz (i:=fi) (j:=l.length) (c:=pc) hPL (by omega) (by omega) hpc
     exact this,by
     have:=cut_seg (i:=fr) (j:=e) (c:=c) hA (by omega) (by omega) hc
     exact this,by
     show(seg b fr e).length<=c-fr
     rw[seg_len (by omega) (by omega)];omega⟩)⟩ ?_
   exact im_
  ·refine o_ v_lss ?_
   rw[dF_ f0]
   refine e_gdT (ln_ ?_);refine e_gdT (o_ v_len (e_gdT (o_ v_eql ?_)))
   by_cases x0:(X.length:Int)=0
   ·rw[dT_ x0]
    refine o_ v_pickF (e_condT (ln_ ?_));refine o_ v_len ?_
    rw[if_pos (show(l.drop fi).take (l.length-fi)≠[]\/X.map Prod.fst=[]from .inr (by rw[List.eq_nil_of_length_eq_zero (show X.length=0 by omega)];rfl))]at hcut
    refine e_callC (dblocks1 (fi:=fi) (to:=l.length) (fr:=fr) (at_:=e) (l:=l) (b:=b) (X:=X) (by omega) (by omega) hpc (by omega) (by omega) hc (by omega)) (by(repeat(first|exact Picks.nil|(apply Picks.cons;(focus repeat constructor))))) fun q=>?_
    obtain⟨qa,qc⟩:=q
    (try dsimp only)
    refine nr_ ?_
    refine ln_ ?_
    refine e_ret ((qa,qc),(pa,pc),X++[((((l.drop fi).take (l.length-fi)),seg b fr e),((if pc=fi then pa else pa.map (·.add (fi * 3)),pc-fi),(if c=fr then a else a.map (·.add (fr * 1)),c-fr)))]) rfl ?_
    refine nr_ ?_
    refine .pu ⟨by rw[List.map_append,List.map_singleton];exact hcut,(BkOk.up hok ⟨by
      have:=cut_pz (i:=fi) (j:=l.length) (c:=pc) hPL (by omega) (by omega) hpc
      exact this,by
      have:=cut_seg (i:=fr) (j:=e) (c:=c) hA (by omega) (by omega) hc
      exact this,by
      show(seg b fr e).length<=c-fr
      rw[seg_len (by omega) (by omega)];omega⟩)⟩ ?_
    exact im_
   ·rw[dF_ x0]
    refine o_ v_pickF (e_condF (ln_ ?_))
    rw[if_neg (fun c=>by rcases c with c|c;exact c (List.eq_nil_of_length_eq_zero (by omega));have:=congrArg List.length c;simp at this;rw[this]at x0;exact x0 rfl)]at hcut
    refine e_ret ((oa,oc),(pa,pc),X) rfl ?_
    refine .pu ⟨hcut,hok⟩ ?_
    exact im_
structure Em where
 w:Bool
 s:Int
 n:Int
 x:Int
def emP (p:Pz):List Em:=if p.len=0 then [⟨false,p.c.toNat,0,0⟩]else [⟨false,(lenS p.len).1,(lenS p.len).2.1,(lenS p.len).2.2⟩,⟨true,(disS p.dist).1,(disS p.dist).2.1,(disS p.dist).2.2⟩]
def emis (ps:List Pz):List Em:=ps.flatMap emP++[⟨false,256,0,0⟩]
def goodP (p:Pz):Prop:=(p.len=0/\p.dist=0)\/(3<=p.len/\p.len<=258/\1<=p.dist/\p.dist<=32768)
def goodE (e:Em):Prop:=0<=e.s/\(e.w=false->e.s<=285)/\(e.w=true->e.s<=29)/\∃k x:Nat,e.n=k/\e.x=x/\k<=13/\x<2^k
theorem emP_good {p:Pz}(h:goodP p):∀e∈emP p,goodE e:=by
 intro e he
 unfold emP at he
 by_cases h0:p.len=0
 ·rw[if_pos h0,List.mem_singleton]at he
  subst he
  have:=p.c.toNat_lt
  exact⟨by simp,by simp;omega,by simp,0,0,rfl,rfl,by omega,by decide⟩
 ·rw[if_neg h0]at he
  obtain⟨c1,c2,c3,c4⟩:3<=p.len/\p.len<=258/\1<=p.dist/\p.dist<=32768:=by
   rcases h with h|h
   ·exact absurd h.1 h0
   ·exact h
  obtain⟨s,x,k,hs,h1,h2,h3,h4,h5,h6,h7⟩:=lenS_ok c1 c2
  obtain⟨t,y,j,ht,g1,g2,g3,g4,g5,g6⟩:=disS_ok c3 c4
  rw[hs,ht]at he
  simp only[List.mem_cons,List.not_mem_nil,or_false]at he
  rcases he with rfl|rfl
  ·exact⟨by simp,by simp;omega,by simp,k,x,rfl,rfl,by omega,h5⟩
  ·exact⟨by simp,by simp,by simp;omega,j,y,rfl,rfl,by omega,g4⟩
theorem emis_good {ps:List Pz}(h:∀p∈ps,goodP p):∀e∈emis ps,goodE e:=by
 intro e he
 unfold emis at he
 rcases List.mem_append.1 he with he|he
 ·obtain⟨p,hp,he⟩:=List.mem_flatMap.1 he
  exact emP_good (h p hp) e he
 ·rw[List.mem_singleton]at he
  subst he
  exact⟨by decide,by decide,by decide,0,0,rfl,rfl,by omega,by decide⟩
structure SetV where
 l:Option Addr
 ln:Nat
 lc:Nat
 c:Option Addr
 cn:Nat
 cc:Nat
def setV (s:SetV):Value:= .agg #[.slice s.l s.ln s.lc,.slice s.c s.cn s.cc]
theorem newSet {W:World}{a:Option Addr}{cap:Nat}{l:List Int}{A:HP}(hr:RdB W A a l.length (l.map I))(hl:l.length<=4611686018427387904):
  Cn p_ 200 [.slice a l.length cap] W [A] (fun q:Option Addr × Nat=>setV ⟨a,l.length,cap,q.1,(cdL l).length,q.2⟩) (fun q=>[Sl 1 3 q.1 q.2 (cdL l).length ((cdL l).map I),A]):=by
 (refine Shp.cn (Sg.g_ Tryz.call200 Tryz.func200) fun F=>?_;simp only[ca_,na_])
 refine e_newA fun g=>?_
 refine c_ (codes_ hr hl) fun _=>?_
 rename_i q
 obtain⟨qa,qc⟩:=q
 (try dsimp only)
 refine xt_ ?_;refine xt_ ?_;refine o_ v_rv ?_;refine sg_ ?_;(((refine' e_stS (v_resA ?hn) ?hi ?_);(case hi=>exact im_);(case hn=>rfl)))
 refine rt_ ((qa,qc)) ?_
 exact im_
theorem symbols_ {W:World} {f:FuncId} {cap:List Value} {J:List Em->HP} {AL:HP} {pa ba:Option Addr} {pc bn bc:Nat} {level:Int} {ps:List Pz} {va vb:SetV} (hA:RdB W AL pa (ps.length * 3) (ps.flatMap pPz)) (hl:ps.length<=1048576) (hg:∀p∈ps,goodP p)
  (hf:∀(d:List Em) (e:Em) (r:List Em),emis ps=d++e::r->Cn p_ f ([setV (if e.w then vb else va),.int .i64 e.s,.int .i64 e.n,.int .i64 e.x]++cap) W [J d] (fun _:Unit=> .tuple #[]) (fun _=>[J (d++[e])])):
  Cn p_ 199 [.agg #[.slice pa ps.length pc,.slice ba bn bc,.int .i64 level],setV va,setV vb,.func (.func f) #[] cap.toArray] W [AL,J []] (fun _:Unit=> .tuple #[]) (fun _=>[AL,J (emis ps)]):=by
 unfold setV at *
 (refine Shp.cn (Sg.g_ Tryz.call199 Tryz.func199 (an:={loops:=[(2,[16])]})) fun F=>?_;simp only[ca_,na_])
 refine e_boxA fun b4=>?_
 refine e_boxA fun b5=>?_
 refine e_boxA fun b6=>?_
 refine o_ v_fa0 (ln_ ?_);refine o_ v_len ?_
 have lda:RunV p_ W [pt b5 (.cells #[.slice va.l va.ln va.lc,.slice va.c va.cn va.cc] 258)] (sLoad 258 (.pointer (some ⟨b5,0,none⟩))) (.agg #[.slice va.l va.ln va.lc,.slice va.c va.cn va.cc]):=v_ldAgg rfl
 have ldb:RunV p_ W [pt b6 (.cells #[.slice vb.l vb.ln vb.lc,.slice vb.c vb.cn vb.cc] 258)] (sLoad 258 (.pointer (some ⟨b6,0,none⟩))) (.agg #[.slice vb.l vb.ln vb.lc,.slice vb.c vb.cn vb.cc]):=v_ldAgg rfl
 refine e_loop1 (fun m y=>(ex fun i:Nat=>all [pu (m+i=ps.length/\y= .int .i64 (i:Int)),J ((ps.take i).flatMap emP)])::AL::pt b5 (.cells #[.slice va.l va.ln va.lc,.slice va.c va.cn va.cc] 258)::pt b6 (.cells #[.slice vb.l vb.ln vb.lc,.slice vb.c vb.cn vb.cc] 258)::F) ps.length ?_ ?_
 ·refine .ex 0 (.all ?_)
  refine nr_ ?_
  refine .pu ⟨by omega,rfl⟩ ?_
  exact im_
 intro m ds y
 refine e_ex .here fun i=>e_all .here ?_
 refine nr_ ?_
 refine e_pu .here fun hk=>?_
 obtain⟨hmi,rfl⟩:=hk
 refine e_ask v_lss .nil (fun h=>?_) (fun h=>?_)
 ·have hil:i<ps.length:=by omega
  have hgp:=hg _ (List.getElem_mem hil)
  have htk:(ps.take (i+1)).flatMap emP=(ps.take i).flatMap emP++emP ps[i]:=by rw[List.take_succ_eq_append_getElem hil,List.flatMap_append];simp
  have hem:emis ps=(ps.take i).flatMap emP++(emP ps[i]++((ps.drop (i+1)).flatMap emP++[⟨false,256,0,0⟩])):=by
   unfold emis
   rw[<- List.append_assoc,<- List.append_assoc,<- htk,<- List.flatMap_append,List.take_append_drop]
  refine e_condT ?_
  obtain⟨g,o,rfl,_⟩:=hA.at_ (by omega)
  refine o_ (v_ia i rfl hil) ?_
  have ld:RunV p_ W [AL] (sLoad 209 (.pointer (some ⟨g,o+i * 3,none⟩))) (vPz ps[i]):=v_ldRdG (vs:=pPz ps[i]) hA rfl (fun j hj=>pz_get hil j hj)
  refine p_op ld ?_
  generalize ps[i]=p at *
  unfold vPz
  refine e_newA fun b8=>?_
  refine e_stAgg .here (by rfl) (by rfl) (by intro u hu;simp at hu;rcases hu with rfl|rfl|rfl <;> rfl) ?_
  have lf0:RunV p_ W [pt b8 (.cells #[I p.len,I p.dist,Sl.B p.c] 209 (0,0))] (sLoad 3 (.pointer (some ⟨b8,0,none⟩))) (.int .i64 p.len):=v_ld rfl
  have lf1:RunV p_ W [pt b8 (.cells #[I p.len,I p.dist,Sl.B p.c] 209 (0,0))] (sLoad 3 (.pointer (some ⟨b8,1,none⟩))) (.int .i64 p.dist):=v_ld rfl
  have lf2:RunV p_ W [pt b8 (.cells #[I p.len,I p.dist,Sl.B p.c] 209 (0,0))] (sLoad 5 (.pointer (some ⟨b8,2,none⟩))) (.int .u8 p.c.toNat):=v_ld rfl
  refine o_ v_fa0 (p_op lf0 ?_)
  refine o_ v_eql ?_
  by_cases l0:p.len=0
  ·rw[dT_ l0]
   refine e_condT (p_op lda ?_)
   refine o_ v_fa0 (p_op lf2 ?_)
   have hc:=p.c.toNat_lt
   refine o_ (v_conv (q:= .i64)) ?_
   rw[w64 (by omega) (by omega)]
   have he:emP p=[⟨false,p.c.toNat,0,0⟩]:=by unfold emP;rw[if_pos l0]
   rw[he]at htk hem
   refine e_callC (hf _ _ _ hem) (by(repeat(first|exact Picks.nil|(apply Picks.cons;(focus repeat constructor))))) fun _=>?_
   refine nr_ ?_
   refine ad_ ?_
   refine e_next1 (m-1) (by omega) (.ex (i+1) (.all ?_))
   refine nr_ ?_
   rw[htk]
   refine .pu ⟨by omega,rfl⟩ ?_
   exact im_
  ·rw[dF_ l0]
   have he:emP p=[⟨false,(lenS p.len).1,(lenS p.len).2.1,(lenS p.len).2.2⟩,⟨true,(disS p.dist).1,(disS p.dist).2.1,(disS p.dist).2.2⟩]:=by unfold emP;rw[if_neg l0]
   rw[he]at htk hem
   have hbd:0<=p.len/\0<=p.dist:=by unfold goodP at hgp;omega
   refine e_condF (o_ v_fa0 (p_op lf0 ?_))
   refine c_ (lzLength (n:=p.len) (by omega)) fun _=>?_
   refine xt_ ?_;refine xt_ ?_;refine xt_ ?_;refine lg_ ?_
   refine e_callC (hf _ _ _ hem) (by(repeat(first|exact Picks.nil|(apply Picks.cons;(focus repeat constructor))))) fun _=>?_
   refine nr_ ?_
   refine o_ v_fa0 (p_op lf1 ?_)
   refine c_ (lzDistance (n:=p.dist) (by omega)) fun _=>?_
   refine xt_ ?_;refine xt_ ?_;refine xt_ ?_;refine lg_ ?_
   refine e_callC (hf ((ps.take i).flatMap emP++[⟨false,(lenS p.len).1,(lenS p.len).2.1,(lenS p.len).2.2⟩]) ⟨true,(disS p.dist).1,(disS p.dist).2.1,(disS p.dist).2.2⟩ ((ps.drop (i+1)).flatMap emP++[⟨false,256,0,0⟩]) (by rw[hem];simp)) (by(repeat(first|exact Picks.nil|(apply Picks.cons;(focus repeat constructor))))) fun _=>?_
   refine nr_ ?_
   refine ad_ ?_
   refine e_next1 (m-1) (by omega) (.ex (i+1) (.all ?_))
   refine nr_ ?_
   rw[htk]
   refine .pu ⟨by omega,rfl⟩ ?_
   rw[List.append_assoc]
   exact im_
 ·have hie:i=ps.length:=by omega
  subst hie
  rw[List.take_length]
  refine e_condF (p_op lda ?_)
  refine e_callC (hf (ps.flatMap emP) ⟨false,256,0,0⟩ [] rfl) (by(repeat(first|exact Picks.nil|(apply Picks.cons;(focus repeat constructor))))) fun _=>?_
  refine nr_ ?_
  refine rt_ () ?_
  unfold emis
  exact im_
theorem e_andS {W:World}{L:List HP}{A B:WP}(h1:Ent W L A)(h2:Ent W L B):Ent W L (andS A B):=fun w hw=>⟨h1 w hw,h2 w hw⟩
def cntE (w:Bool)(d:List Em)(s:Nat):Nat:=d.countP fun e=>decide (e.w=w/\e.s=(s:Int))
theorem cntE_le (w:Bool)(d:List Em)(s:Nat):cntE w d s<=d.length:=List.countP_le_length
theorem cntE_snoc (w:Bool)(d:List Em)(e:Em)(s:Nat):cntE w (d++[e]) s=cntE w d s+if e.w=w/\e.s=(s:Int)then 1 else 0:=by
 unfold cntE
 rw[List.countP_append]
 congr 1
 by_cases h:e.w=w/\e.s=(s:Int)
 ·rw[if_pos h];simp[h.1,h.2]
 ·rw[if_neg h]
  rw[List.countP_cons_of_neg (by simpa using h)];rfl
theorem emP_cnt (p:Pz)(s:Nat):cntE false (emP p) s=(if symA p=(s:Int)then 1 else 0)/\cntE true (emP p) s=(if p.len≠0/\(disS p.dist).1=(s:Int)then 1 else 0):=by
 unfold cntE emP symA
 by_cases h0:p.len=0
 ·rw[if_pos h0,if_pos h0]
  constructor
  ·by_cases c:(p.c.toNat:Int)=(s:Int)
   ·rw[if_pos c,List.countP_cons_of_pos (by simpa using c)];rfl
   ·rw[if_neg c,List.countP_cons_of_neg (by simpa using c)];rfl
  ·rw[if_neg (fun c=>c.1 h0),List.countP_cons_of_neg (by simp)];rfl
 ·rw[if_neg h0,if_neg h0]
  constructor
  ·by_cases c:(lenS p.len).1=(s:Int)
   ·rw[if_pos c,List.countP_cons_of_pos (by simpa using c),List.countP_cons_of_neg (by simp)];rfl
   ·rw[if_neg c,List.countP_cons_of_neg (by simpa using c),List.countP_cons_of_neg (by simp)];rfl
  ·by_cases c:(disS p.dist).1=(s:Int)
   ·rw[if_pos ⟨h0,c⟩,List.countP_cons_of_neg (by simp),List.countP_cons_of_pos (by simpa using c)];rfl
   ·rw[if_neg (fun x=>c x.2),List.countP_cons_of_neg (by simp),List.countP_cons_of_neg (by simpa using c)];rfl
theorem emis_cnt:∀(ps:List Pz) (s:Nat),cntE false (ps.flatMap emP) s=cntA ps s/\cntE true (ps.flatMap emP) s=cntB ps s
 |[],s=>⟨rfl,rfl⟩
 |p::ps,s=>by
  obtain⟨h1,h2⟩:=emis_cnt ps s
  obtain⟨h3,h4⟩:=emP_cnt p s
  have key:∀w,cntE w ((p::ps).flatMap emP) s=cntE w (emP p) s+cntE w (ps.flatMap emP) s:=fun w=>by
   rw[List.flatMap_cons];unfold cntE;rw[List.countP_append]
  rw[key,key,h1,h2,h3,h4]
  unfold cntA cntB
  constructor
  ·by_cases c:symA p=(s:Int)
   ·rw[if_pos c,List.countP_cons_of_pos (by simpa using c)];omega
   ·rw[if_neg c,List.countP_cons_of_neg (by simpa using c)];omega
  ·by_cases c:p.len≠0/\(disS p.dist).1=(s:Int)
   ·rw[if_pos c,List.countP_cons_of_pos (by simpa using c)];omega
   ·rw[if_neg c,List.countP_cons_of_neg (by simpa using c)];omega
theorem frqA_Ln (ps:List Pz):Ln 286 (fun s=>(cntE false (emis ps) s:Int))=(frqA ps).map I:=by
 unfold Ln frqA
 rw[List.map_map]
 refine List.map_congr_left fun s _=>?_
 show I (cntE false (ps.flatMap emP++[⟨false,256,0,0⟩]) s:Int)=I ((cntA ps s:Int)+if s=256 then 1 else 0)
 rw[cntE_snoc,(emis_cnt ps s).1]
 congr 1
 by_cases c:s=256
 ·subst c;rfl
 ·rw[if_neg c,if_neg (fun h=>c (by have:=h.2;simp only at this;omega))];rfl
theorem frqB_Ln (ps:List Pz):Ln 30 (fun s=>(cntE true (emis ps) s:Int))=(frqB ps).map I:=by
 unfold Ln frqB
 rw[List.map_map]
 refine List.map_congr_left fun s _=>?_
 show I (cntE true (ps.flatMap emP++[⟨false,256,0,0⟩]) s:Int)=I (cntB ps s:Int)
 rw[cntE_snoc,(emis_cnt ps s).2]
 rfl
theorem frqA_len (ps:List Pz):(frqA ps).length=286:=by simp[frqA]
theorem frqB_len (ps:List Pz):(frqB ps).length=30:=by simp[frqB]
def Cnts (g0 g1:Nat)(d:List Em):HP:=all [Sl 1 3 (some ⟨g0,0,none⟩) 286 286 (Ln 286 fun s=>(cntE false d s:Int)),Sl 1 3 (some ⟨g1,0,none⟩) 30 30 (Ln 30 fun s=>(cntE true d s:Int)),pu (d.length<=4194304)]
theorem own1 {W:World}{g0 g1:Nat}{d:List Em}{e:Em}(he:goodE e)(hd:d.length+1<=4194304):
  Cn p_ 229 [setV (if e.w then⟨some ⟨g1,0,none⟩,30,30,none,0,0⟩else⟨some ⟨g0,0,none⟩,286,286,none,0,0⟩),.int .i64 e.s,.int .i64 e.n,.int .i64 e.x] W [Cnts g0 g1 d] (fun _:Unit=> .tuple #[]) (fun _=>[Cnts g0 g1 (d++[e])]):=by
 obtain⟨w,s,n,x⟩:=e
 obtain⟨h0,h1,h2,_⟩:=he
 (try dsimp only at h0 h1 h2)
 obtain⟨N,rfl⟩:=Int.eq_ofNat_of_zero_le h0
 have key:∀(v:Bool) (m:Nat),N<m->w=v->(Ln m fun s=>(cntE v d s:Int)).set N (I ((cntE v d N:Int)+1))=Ln m fun s=>(cntE v (d++[⟨w,(N:Int),n,x⟩]) s:Int):=fun v m hN hv=>by
  rw[Ln_set]
  refine Ln_congr fun j hj=>?_
  rw[cntE_snoc]
  by_cases c:j=N
  ·subst c;rw[if_pos rfl,if_pos ⟨hv,rfl⟩];rfl
  ·rw[if_neg c,if_neg (fun h=>c (by have:=h.2;simp only at this;omega))];rfl
 have keep:∀(v:Bool) (m:Nat),w≠v->(Ln m fun s=>(cntE v d s:Int))=Ln m fun s=>(cntE v (d++[⟨w,(N:Int),n,x⟩]) s:Int):=fun v m hv=>by
  refine Ln_congr fun j hj=>?_
  rw[cntE_snoc,if_neg (fun h=>hv h.1)];rfl
 unfold setV
 cases w with
 |false=>
  have hs:=h1 rfl
  have hc:=cntE_le false d N
  simp only[Bool.false_eq_true,if_false]
  (refine Shp.cn (Sg.g_ Tryz.call229 Tryz.func229) fun F=>?_;simp only[ca_,na_])
  refine e_boxA fun b4=>?_
  refine e_all (.there .here) ?_
  refine nr_ ?_
  refine o_ v_fa0 (ln_ ?_)
  refine o_ (v_ia1 N rfl (by omega)) ?_
  have hld:(Ln 286 fun s=>(cntE false d s:Int))[0+N]? =some (I (cntE false d N:Int)):=by rw[Nat.zero_add];exact Ln_get (by omega)
  refine p_op (v_ldSl hld) ?_
  refine ad_ ?_
  refine o_ (v_ia1 N rfl (by omega)) ?_
  refine e_stSl (by repeat constructor) (by rw[Nat.zero_add,Ln_len];omega) ?_
  rw[Nat.zero_add]
  refine rt_ () ?_
  refine .all ?_
  refine nr_ ?_
  rw[<- key false 286 (by omega) rfl,<- keep true 30 (by decide)]
  refine .pick (by repeat constructor) (.pick (by repeat constructor) (.pu (by rw[List.length_append];exact hd) ?_))
  exact im_
 |true=>
  have hs:=h2 rfl
  have hc:=cntE_le true d N
  simp only[if_true]
  (refine Shp.cn (Sg.g_ Tryz.call229 Tryz.func229) fun F=>?_;simp only[ca_,na_])
  refine e_boxA fun b4=>?_
  refine e_all (.there .here) ?_
  refine nr_ ?_
  refine o_ v_fa0 (ln_ ?_)
  refine o_ (v_ia1 N rfl (by omega)) ?_
  have hld:(Ln 30 fun s=>(cntE true d s:Int))[0+N]? =some (I (cntE true d N:Int)):=by rw[Nat.zero_add];exact Ln_get (by omega)
  refine p_op (v_ldSl hld) ?_
  refine ad_ ?_
  refine o_ (v_ia1 N rfl (by omega)) ?_
  refine e_stSl (by repeat constructor) (by rw[Nat.zero_add,Ln_len];omega) ?_
  rw[Nat.zero_add]
  refine rt_ () ?_
  refine .all ?_
  refine nr_ ?_
  rw[<- key true 30 (by omega) rfl,<- keep false 286 (by decide)]
  refine .pick (by repeat constructor) (.pick (by repeat constructor) (.pu (by rw[List.length_append];exact hd) ?_))
  exact im_
abbrev Qs:=(Option Addr × Nat) × (Option Addr × Nat)
def sv (l:List Int)(q:Qs):SetV:=⟨q.1.1,l.length,q.1.2,q.2.1,(cdL l).length,q.2.2⟩
def IsSet (l:List Int)(q:Qs):HP:=all [Sl 1 3 q.1.1 q.1.2 l.length (l.map I),Sl 1 3 q.2.1 q.2.2 (cdL l).length ((cdL l).map I)]
theorem emis_len (ps:List Pz):(emis ps).length<=2 * ps.length+1:=by
 unfold emis
 rw[List.length_append]
 have:∀l:List Pz,(l.flatMap emP).length<=2 * l.length:=by
  intro l
  induction l with
  |nil=>simp
  |cons p l ih=>
   rw[List.flatMap_cons,List.length_append,List.length_cons]
   have:(emP p).length<=2:=by unfold emP;split <;> simp
   omega
 have:=this ps
 simp only[List.length_singleton]
 omega
theorem lenV_le (f:List Int)(lim:Int):(lenV f lim).length<=320:=by
 by_cases hE:lenE f lim=0
 ·have h:=PM.lenV_facts hE
  have h1:=h.1
  have h2:=h.2.1
  omega
 ·unfold lenV
  rw[if_pos hE]
  simp
theorem own {W:World}{AL:HP}{pa ba:Option Addr}{pc bn bc:Nat}{level:Int}{ps:List Pz}(hA:RdB W AL pa (ps.length * 3) (ps.flatMap pPz))(hl:ps.length<=1048576)(hg:∀p∈ps,goodP p):
  Cn p_ 202 [.agg #[.slice pa ps.length pc,.slice ba bn bc,.int .i64 level]] W [AL] (fun q:Qs × Qs=> .tuple #[setV (sv (ownA ps) q.1),setV (sv (ownB ps) q.2)]) (fun q=>[IsSet (ownA ps) q.1,IsSet (ownB ps) q.2,AL]):=by
 obtain⟨VA,hVA⟩:∃V,V=ownA ps:=⟨_,rfl⟩
 obtain⟨VB,hVB⟩:∃V,V=ownB ps:=⟨_,rfl⟩
 have la:VA.length<=320:=by rw[hVA];exact lenV_le _ _
 have lb:VB.length<=320:=by rw[hVB];exact lenV_le _ _
 rw[<- hVA,<- hVB]
 (refine Shp.cn (Sg.g_ Tryz.call202 Tryz.func202 (an:={drs:=[(1,(.alt ((.op 0 0 (.alt (.ofL [(1,0),(2,3),(3,0),(4,0)]) (.ofL [(3,0),(1,0),(2,1),(4,0)])))) ((.alt ((.op 1 0 (.alt (.ofL [(0,0),(2,3),(3,0),(4,0)]) (.ofL [(3,0),(0,0),(2,1),(4,0)])))) ((.op 3 0 (.alt (.ofL [(0,0),(1,0),(2,1),(4,0)]) (.ofL [(1,0),(0,0),(2,1),(4,0)]))))))))],rcuts:=[(2,[4])]}) (os:=[(1,[(3,[2])])])) fun F=>?_;simp only[ca_,na_])
 refine e_boxA fun b1=>?_
 refine e_newA fun b2=>?_
 refine e_newA fun b3=>?_
 refine e_cut1 (fun z=>(ex fun q:Nat × Nat × Nat=>all [pu (z= .pointer (some ⟨q.1,0,none⟩)),pt q.1 (.cells #[.slice (some ⟨q.2.1,0,none⟩) 286 286,.slice (some ⟨q.2.2,0,none⟩) 30 30] 299),Sl 1 3 (some ⟨q.2.1,0,none⟩) 286 286 (Ln 286 fun _=>0),Sl 1 3 (some ⟨q.2.2,0,none⟩) 30 30 (Ln 30 fun _=>0)])::
  pt b1 (.cells #[.slice pa ps.length pc,.slice ba bn bc,.int .i64 level] 162)::pt b2 (.cells #[.slice none 0 0,.slice none 0 0] 258)::pt b3 (.cells #[.slice none 0 0,.slice none 0 0] 258)::AL::F) ?_ ?_
 rotate_left
 ·refine e_drS (e_andS ?_ (e_andS ?_ ?_))
  ·refine e_mksl 286 286 (by rfl) (by rfl) (by omega) (by omega) (by unfold maxLen;omega) fun g0=>?_
   refine e_andS ?_ ?_
   ·refine e_mksl 30 30 (by rfl) (by rfl) (by omega) (by omega) (by unfold maxLen;omega) fun g1=>?_
    refine e_stD v_rv .nil ?_;refine e_newA fun g=>?_;refine ob_ ?_;refine sg_ ?_
    rename Nat=>g4
    refine e_sat (.ex (g4,g0,g1) (.all ?_))
    refine nr_ ?_
    rw[Ln_zero,Ln_zero]
    refine .pu rfl ?_
    exact im_
   ·refine e_newA fun g4=>?_
    refine e_mksl 30 30 (by rfl) (by rfl) (by omega) (by omega) (by unfold maxLen;omega) fun g1=>?_
    refine t_ v_rv ?_;refine sg_ ?_
    refine e_sat (.ex (g4,g0,g1) (.all ?_))
    refine nr_ ?_
    rw[Ln_zero,Ln_zero]
    refine .pu rfl ?_
    exact im_
  ·refine e_mksl 30 30 (by rfl) (by rfl) (by omega) (by omega) (by unfold maxLen;omega) fun g1=>?_
   refine e_andS ?_ ?_
   ·refine e_mksl 286 286 (by rfl) (by rfl) (by omega) (by omega) (by unfold maxLen;omega) fun g0=>?_
    refine e_stD v_rv .nil ?_;refine e_newA fun g=>?_;refine ob_ ?_;refine sg_ ?_
    rename Nat=>g4
    refine e_sat (.ex (g4,g0,g1) (.all ?_))
    refine nr_ ?_
    rw[Ln_zero,Ln_zero]
    refine .pu rfl ?_
    exact im_
   ·refine e_newA fun g4=>?_
    refine e_mksl 286 286 (by rfl) (by rfl) (by omega) (by omega) (by unfold maxLen;omega) fun g0=>?_
    refine t_ v_rv ?_;refine sg_ ?_
    refine e_sat (.ex (g4,g0,g1) (.all ?_))
    refine nr_ ?_
    rw[Ln_zero,Ln_zero]
    refine .pu rfl ?_
    exact im_
  ·refine e_newA fun g4=>?_
   refine e_andS ?_ ?_
   ·refine e_mksl 286 286 (by rfl) (by rfl) (by omega) (by omega) (by unfold maxLen;omega) fun g0=>?_
    refine e_mksl 30 30 (by rfl) (by rfl) (by omega) (by omega) (by unfold maxLen;omega) fun g1=>?_
    refine t_ v_rv ?_;refine sg_ ?_
    refine e_sat (.ex (g4,g0,g1) (.all ?_))
    refine nr_ ?_
    rw[Ln_zero,Ln_zero]
    refine .pu rfl ?_
    exact im_
   ·refine e_mksl 30 30 (by rfl) (by rfl) (by omega) (by omega) (by unfold maxLen;omega) fun g1=>?_
    refine e_mksl 286 286 (by rfl) (by rfl) (by omega) (by omega) (by unfold maxLen;omega) fun g0=>?_
    refine t_ v_rv ?_;refine sg_ ?_
    refine e_sat (.ex (g4,g0,g1) (.all ?_))
    refine nr_ ?_
    rw[Ln_zero,Ln_zero]
    refine .pu rfl ?_
    exact im_
 intro ds z
 refine e_ex .here fun q=>e_all .here ?_
 obtain⟨g4,g0,g1⟩:=q
 refine nr_ ?_
 refine e_pu .here fun hz=>?_
 subst hz
 refine lg_ ?_
 refine o_ (v_iaA 0 rfl (by omega)) ?_
 refine ln_ ?_;refine o_ v_rv ?_
 refine o_ (v_iaA 1 rfl (by omega)) ?_
 refine ln_ ?_;refine o_ v_rv ?_
 have hsym:=symbols_ (W:=W) (f:=229) (cap:=[]) (J:=Cnts g0 g1) (va:=⟨some ⟨g0,0,none⟩,286,286,none,0,0⟩) (vb:=⟨some ⟨g1,0,none⟩,30,30,none,0,0⟩) (pc:=pc) (ba:=ba) (bn:=bn) (bc:=bc) (level:=level) hA hl hg
  (fun d e r h=>own1 (emis_good hg e (by rw[h];simp)) (by have:=emis_len ps;rw[h]at this;simp at this;omega))
 refine e_imp (M:=Cnts g0 g1 []::AL::pt g4 (.cells #[.slice (some ⟨g0,0,none⟩) 286 286,.slice (some ⟨g1,0,none⟩) 30 30] 299)::pt b2 (.cells #[.slice none 0 0,.slice none 0 0] 258)::pt b3 (.cells #[.slice none 0 0,.slice none 0 0] 258)::F) ?_ ?_
 ·refine .all ?_
  refine nr_ ?_
  have z1:(Ln 286 fun s=>(cntE false [] s:Int))=Ln 286 fun _=>0:=rfl
  have z2:(Ln 30 fun s=>(cntE true [] s:Int))=Ln 30 fun _=>0:=rfl
  rw[z1,z2]
  refine .pick (by repeat constructor) (.pick (by repeat constructor) (.pu (by simp) ?_))
  exact im_
 refine e_call hsym (.cons (by repeat constructor) (.cons (by repeat constructor) .nil)) fun _=>?_
 refine nr_ ?_
 refine e_all (.there .here) ?_
 refine nr_ ?_
 rw[frqA_Ln,frqB_Ln]
 refine e_pu (by repeat constructor) fun _=>?_
 have h0:RdB W (Sl 1 3 (some ⟨g0,0,none⟩) 286 286 ((frqA ps).map I)) (some ⟨g0,0,none⟩) (frqA ps).length ((frqA ps).map I):=by
  rw[frqA_len]
  exact rd_sl (by rw[List.length_map,frqA_len]) (fun _=>⟨g0,rfl⟩)
 have h1:RdB W (Sl 1 3 (some ⟨g1,0,none⟩) 30 30 ((frqB ps).map I)) (some ⟨g1,0,none⟩) (frqB ps).length ((frqB ps).map I):=by
  rw[frqB_len]
  exact rd_sl (by rw[List.length_map,frqB_len]) (fun _=>⟨g1,rfl⟩)
 have hla:=lengths (W:=W) (cap:=286) (lim:=15) h0 (by rw[frqA_len];omega)
 have hlb:=lengths (W:=W) (cap:=30) (lim:=15) h1 (by rw[frqB_len];omega)
 rw[frqA_len,show lenV (frqA ps) 15=VA from hVA.symm]at hla
 rw[frqB_len,show lenV (frqB ps) 15=VB from hVB.symm]at hlb
 refine o_ (v_iaA 0 rfl (by omega)) ?_
 refine ln_ ?_
 refine c_ hla fun _=>?_
 rename_i qa
 refine xt_ ?_;refine xt_ ?_
 refine o_ (v_iaA 1 rfl (by omega)) ?_
 refine ln_ ?_
 refine c_ hlb fun _=>?_
 rename_i qb
 refine xt_ ?_;refine xt_ ?_
 refine e_slfacts .here fun _ hnb hcb hfb=>?_
 refine e_slfacts (.there (.there .here)) fun _ hna hca hfa=>?_
 have ra:RdB W (Sl 1 3 qa.1 qa.2 VA.length (VA.map I)) qa.1 VA.length (VA.map I):=rd_sl (by rw[List.length_map]) hfa
 have rb:RdB W (Sl 1 3 qb.1 qb.2 VB.length (VB.map I)) qb.1 VB.length (VB.map I):=rd_sl (by rw[List.length_map]) hfb
 refine e_call (newSet (cap:=qa.2) ra (by omega)) (.cons (.there (.there .here)) .nil) fun ca=>?_
 refine nr_ ?_
 refine e_call (newSet (cap:=qb.2) rb (by omega)) (.cons (.there (.there .here)) .nil) fun cb=>?_
 refine nr_ ?_
 unfold setV
 refine sg_ ?_;refine sg_ ?_;(((refine' e_stS (v_resA ?hn) ?hi ?_);(case hi=>exact im_);(case hn=>rfl)));(((refine' e_stS (v_resA ?hn) ?hi ?_);(case hi=>exact im_);(case hn=>rfl)))
 refine rt_ (((qa,ca),(qb,cb))) ?_
 unfold IsSet
 refine .all (.pick (by repeat constructor) (.pick (by repeat constructor) (.all (.pick (by repeat constructor) (.pick (by repeat constructor) ?_)))))
 exact im_
theorem putR_ok {L:List Bool}{e k:Nat}(hk:k<=32)(he:e<2^k)(h:L.length+k<=8388608):putR L (e:Int) (k:Int)=0:=by
 unfold putR
 rw[if_neg,if_neg (by omega)]
 unfold badP
 rw[Int.toNat_natCast]
 have h3:((e:Nat):Int)<((2^k:Nat):Int):=Int.ofNat_lt.2 he
 push_cast at h3
 omega
theorem putL_ok {L:List Bool}{e k:Nat}(hk:k<=32)(he:e<2^k)(h:L.length+k<=8388608):putL L (e:Int) (k:Int)=L++bitsOf e k:=by
 unfold putL
 rw[if_pos (putR_ok hk he h),Int.toNat_natCast,Int.toNat_natCast]
theorem phL_cwd {l:List Int}{s:Int}{L:List Bool}(h:L.length+(cwd l s).length<=8388608):phL (cdL l) l s L=L++cwd l s:=by
 unfold phL cwd at *
 cases hs:sym (cdL l) l s with
 |none=>simp
 |some p=>
  rw[hs]at h
  simp only at h ⊢
  have hb:=sym_pos hs
  rw[length_bitsOf]at h
  exact putL_ok (by omega) (rv_lt _ _) h
def emB (la lb:List Int)(e:Em):List Bool:=cwd (if e.w then lb else la) e.s++bitsOf e.x.toNat e.n.toNat
theorem bits0 (n:Nat):bitsOf n 0=[]:=rfl
theorem emP_bits (la lb:List Int)(p:Pz):(emP p).flatMap (emB la lb)=encD la lb p:=by
 unfold emP encD
 split
 ·simp[emB,bits0]
 ·simp[emB,bits0]
theorem emis_bits (la lb:List Int)(ps:List Pz):(emis ps).flatMap (emB la lb)=encX la lb ps:=by
 unfold emis encX
 rw[List.flatMap_append,List.flatMap_assoc]
 congr 1
 ·exact flatMap_eq fun p _=>emP_bits la lb p
 ·simp[emB,bits0]
theorem emis_cut {la lb:List Int}{ps:List Pz}{d r:List Em}{e:Em}(h:emis ps=d++e::r):(d.flatMap (emB la lb)).length+(emB la lb e).length<=(encX la lb ps).length:=by
 rw[<- emis_bits,h,List.flatMap_append,List.flatMap_cons]
 simp only[List.length_append]
 omega
theorem into {W:World}{w:Nat}:Cn p_ 201 [.pointer (some ⟨w,0,none⟩)] W [] (fun g:Nat=> .func (.func 227) #[] [.pointer (some ⟨g,0,none⟩)].toArray) (fun g=>[pt g (.cells #[.pointer (some ⟨w,0,none⟩)] 156)]):=by
 (refine Shp.cn (Sg.g_ Tryz.call201 Tryz.func201) fun F=>?_;simp only[ca_,na_])
 refine e_box1 fun c=>?_
 refine o_ v_mkF (rt_ c ?_)
 exact .refl
def Put2 (la lb:List Int)(qa qb:Qs)(w g:Nat)(L:List Bool)(d:List Em):HP:=all [IsW w (L++d.flatMap (emB la lb)),IsSet la qa,IsSet lb qb,pt g (.cells #[.pointer (some ⟨w,0,none⟩)] 156)]
theorem put2_snoc (la lb:List Int)(L:List Bool)(d:List Em)(e:Em):L++(d++[e]).flatMap (emB la lb)=(L++d.flatMap (emB la lb)++cwd (if e.w then lb else la) e.s)++bitsOf e.x.toNat e.n.toNat:=by
 rw[List.flatMap_append]
 simp[emB]
theorem Cn.frame {P:Program}{W:World}{α:Type}{f:FuncId}{args:List Value}{A A' R:List HP}{r:α->Value}{B B':α->List HP}(h:Cn P f args W A r B)(i:∀F,Ent W (A'++F) (fun w=>sat W (A++(R++F)) w))(o:∀x F,Ent W (B x++(R++F)) (fun w=>sat W (B' x++F) w)):Cn P f args W A' r B':=
 ⟨h.call,fun F w hw=>(h.run (R++F) w (i F w hw)).mono fun e w' ⟨x,he,hs⟩=>⟨x,he,o x F w' hs⟩⟩
theorem into0 {W:World}{l:List Int}{q:Qs}{w g k x:Nat}{s:Int}{M:List Bool}(hk:k<=13)(hx:x<2^k)(hd:M.length+(cwd l s).length+k<=8388608):
  Cn p_ 227 ([setV (sv l q),.int .i64 s,.int .i64 (k:Int),.int .i64 (x:Int)]++[.pointer (some ⟨g,0,none⟩)]) W [IsW w M,IsSet l q,pt g (.cells #[.pointer (some ⟨w,0,none⟩)] 156)] (fun _:Unit=> .tuple #[]) (fun _=>[IsW w ((M++cwd l s)++bitsOf x k),IsSet l q,pt g (.cells #[.pointer (some ⟨w,0,none⟩)] 156)]):=by
 unfold setV sv IsSet
 (refine Shp.cn (Sg.g_ Tryz.call227 Tryz.func227) fun F=>?_;simp only[ca_,na_])
 refine e_boxA fun b4=>?_
 refine e_all (.there (.there .here)) ?_
 refine nr_ ?_
 refine e_slfacts .here fun _ f1 f2 f3=>?_
 refine e_slfacts (.there .here) fun _ g1 g2 g3=>?_
 have r1:RdB W (Sl 1 3 q.1.1 q.1.2 l.length (l.map I)) q.1.1 l.length (l.map I):=rd_sl (by rw[List.length_map]) f3
 have r2:RdB W (Sl 1 3 q.2.1 q.2.2 (cdL l).length ((cdL l).map I)) q.2.1 (cdL l).length ((cdL l).map I):=rd_sl (by rw[List.length_map]) g3
 refine ln_ ?_;refine o_ v_fa0 (ln_ ?_);refine o_ v_fa0 (ln_ ?_)
 refine e_call (hput (L:=M) (s:=s) r2 r1) (.cons (by repeat constructor) (.cons (by repeat constructor) (.cons (by repeat constructor) .nil))) fun _=>?_
 refine nr_ ?_
 rw[phL_cwd (by omega)]
 refine ln_ ?_
 refine e_call (put (l:=M++cwd l s) (n:=(x:Int)) (k:=(k:Int))) (.cons .here .nil) fun _=>?_
 refine nr_ ?_
 rw[putL_ok (by omega) hx (by rw[List.length_append];omega)]
 refine rt_ () ?_
 refine .pick (by repeat constructor) (.all (.pick (by repeat constructor) (.pick (by repeat constructor) (.pick (by repeat constructor) ?_))))
 exact im_
theorem into1 {W:World}{la lb:List Int}{qa qb:Qs}{w g:Nat}{L:List Bool}{d:List Em}{e:Em}(he:goodE e)(hd:L.length+(d.flatMap (emB la lb)).length+(emB la lb e).length<=8388608):
  Cn p_ 227 ([setV (if e.w then sv lb qb else sv la qa),.int .i64 e.s,.int .i64 e.n,.int .i64 e.x]++[.pointer (some ⟨g,0,none⟩)]) W [Put2 la lb qa qb w g L d] (fun _:Unit=> .tuple #[]) (fun _=>[Put2 la lb qa qb w g L (d++[e])]):=by
 have hsn:=put2_snoc la lb L d e
 unfold Put2
 rw[hsn]
 obtain⟨h0,h1,h2,k,x,hn,hxx,hk,hx⟩:=he
 have hel:(emB la lb e).length=(cwd (if e.w then lb else la) e.s).length+k:=by
  unfold emB
  rw[List.length_append,length_bitsOf,hn,Int.toNat_natCast]
 rw[hel]at hd
 rw[hn,hxx,Int.toNat_natCast,Int.toNat_natCast]
 have hML:(L++d.flatMap (emB la lb)).length=L.length+(d.flatMap (emB la lb)).length:=List.length_append
 generalize L++d.flatMap (emB la lb)=M at hML ⊢
 cases hb:e.w with
 |false=>
  rw[hb]at hd
  simp only[Bool.false_eq_true,if_false]at hd ⊢
  refine Cn.frame (R:=[IsSet lb qb]) (into0 (M:=M) (l:=la) (q:=qa) (w:=w) (s:=e.s) hk hx (by omega)) (fun F=>?_) (fun _ F=>?_)
  ·refine e_all .here (e_sat ?_)
   refine nr_ ?_
   exact im_
  ·refine e_sat (.all ?_)
   refine nr_ ?_
   exact im_
 |true=>
  rw[hb]at hd
  simp only[if_true]at hd ⊢
  refine Cn.frame (R:=[IsSet la qa]) (into0 (M:=M) (l:=lb) (q:=qb) (w:=w) (s:=e.s) hk hx (by omega)) (fun F=>?_) (fun _ F=>?_)
  ·refine e_all .here (e_sat ?_)
   refine nr_ ?_
   exact im_
  ·refine e_sat (.all ?_)
   refine nr_ ?_
   exact im_
theorem upto_ {W:World}{a:Option Addr}{cap least:Nat}{l:List Int}{A:HP}(hr:RdB W A a l.length (l.map I))(hl:l.length<=1099511627776)(hm:least<=1099511627776):
  Cn p_ 231 [.slice a l.length cap,.int .i64 (least:Int)] W [A] (fun _:Unit=> .int .i64 (upto l least:Int)) (fun _=>[A]):=by
 (refine Shp.cn (Sg.g_ Tryz.call231 Tryz.func231 (an:={loops:=[(2,[5])]})) fun F=>?_;simp only[ca_,na_])
 refine o_ v_len (e_loop1 (fun m y=>pu (y= .int .i64 (m:Int)/\m<=l.length/\upF l least m=upto l least)::A::F) l.length ?_ ?_)
 ·exact .pu ⟨rfl,Nat.le_refl _,rfl⟩ .refl
 intro m ds y
 refine e_pu .here fun hk=>?_
 obtain⟨rfl,hml,hup⟩:=hk
 by_cases h1:(least:Int)<(m:Int)
 ·obtain⟨m,rfl⟩:∃k,m=k+1:=⟨m-1,by omega⟩
  refine o_ v_gtr ?_
  rw[dT_ h1]
  obtain⟨g,o,rfl,_⟩:=hr.at_ (by omega)
  refine e_gdT (e_gdT (e_gdT (sb_ ?_)));refine e_gdT (o_ (v_ia1 m (by omega) (by omega)) ?_)
  refine e_gdT (p_op (v_ldRd hr (v:=I l[m]) (I_get (by omega))) ?_)
  refine e_gdT ?_
  unfold I
  refine o_ v_eql ?_
  rw[upF]at hup
  by_cases h2:l[m]=0
  ·rw[dT_ h2]
   refine o_ v_pickT (e_condT (sb_ ?_))
   rw[if_pos ⟨by omega,by rw[List.getElem?_eq_getElem (by omega),h2]⟩]at hup
   refine e_next1 m (by omega) (.pu ⟨by rw[show((m+1:Nat):Int)-1=m by omega],by omega,hup⟩ ?_)
   exact im_
  ·rw[dF_ h2]
   refine o_ v_pickT (e_condF ?_)
   rw[if_neg (fun h=>h2 (by have:=h.2;rw[List.getElem?_eq_getElem (by omega)]at this;exact Option.some.inj this))]at hup
   rw[<- hup]
   refine rt_ () ?_
   exact im_
 ·refine o_ v_gtr ?_
  rw[dF_ h1]
  refine e_gdF2 (e_gdF2 (e_gdF2 (e_gdF2 (e_gdF2 (e_gdF2 (o_ v_pickF (e_condF ?_)))))))
  have:upF l least m=m:=by
   cases m with
   |zero=>rfl
   |succ m=>rw[upF,if_neg (by omega)]
  rw[<- hup,this]
  refine rt_ () ?_
  exact im_
theorem runs {W:World}{a:Option Addr}{n c:Nat}:Cn p_ 232 [.slice a n c] W [] (fun g:Nat=> .func (.func 244) #[] [.pointer (some ⟨g,0,none⟩)].toArray) (fun g=>[pt g (.cells #[.slice a n c] 197)]):=by
 (refine Shp.cn (Sg.g_ Tryz.call232 Tryz.func232) fun F=>?_;simp only[ca_,na_])
 refine e_box1 fun c=>?_
 refine o_ v_mkF (rt_ c ?_)
 exact .refl
def tdV (t:Td):Value:= .agg #[.int .i64 t.sym,.int .i64 (t.bits:Int),.int .i64 (t.extra:Int)]
def tdVs (row:List Int):List (List Value):=(runsF row).map fun t=>[tdV t]
def atR (row:List Int):Nat->Nat
 |0=>0
 |k+1=>if atR row k<row.length then atR row k+(tdAt row (atR row k)).2 else atR row k
theorem sameN_fuel {row:List Int}{v:Int}{i:Nat}:∀(f g n:Nat),row.length<=f+i+n->row.length<=g+i+n->sameN row v i f n=sameN row v i g n
 |0,0,n,_,_=>rfl
 |0,g+1,n,h,_=>by rw[sameN,sameN,List.getElem?_eq_none (by omega),if_neg (by simp)]
 |f+1,0,n,_,h=>by rw[sameN,sameN,List.getElem?_eq_none (by omega),if_neg (by simp)]
 |f+1,g+1,n,h1,h2=>by rw[sameN,sameN,sameN_fuel f g (n+1) (by omega) (by omega)]
theorem sameN_le {row:List Int}{v:Int}{i:Nat}:∀(f n:Nat),i+n<=row.length->i+sameN row v i f n<=row.length
 |0,n,h=>h
 |f+1,n,h=>by
  rw[sameN]
  split
  ·rename_i c
   have:=(List.getElem?_eq_some_iff.1 c).1
   exact sameN_le f (n+1) (by omega)
  ·exact h
theorem tdAt_n {row:List Int}{i:Nat}(hi:i<row.length):1<=(tdAt row i).2/\i+(tdAt row i).2<=row.length:=by
 have h1:=sameN_le (row:=row) (v:=row.getD i 0) (i:=i) row.length 1 (by omega)
 have h2:1<=sameN row (row.getD i 0) i row.length 1:=by
  have key:∀f n,n<=sameN row (row.getD i 0) i f n:=by
   intro f
   induction f with
   |zero=>intro n;exact Nat.le_refl _
   |succ f ih=>
    intro n
    rw[sameN]
    split
    ·have:=ih (n+1);omega
    ·omega
  exact key _ _
 unfold tdAt
 simp only
 generalize sameN row (row.getD i 0) i row.length 1=m at *
 split
 ·simp only;omega
 ·split
  ·simp only;omega
  ·split
   ·simp only;omega
   ·simp only;omega
theorem runsN_fuel {row:List Int}:∀(f g i:Nat),row.length<f+i->row.length<g+i->runsN row f i=runsN row g i
 |0,0,i,_,_=>rfl
 |0,g+1,i,h,_=>by rw[runsN,runsN,if_neg (by omega)]
 |f+1,0,i,_,h=>by rw[runsN,runsN,if_neg (by omega)]
 |f+1,g+1,i,h1,h2=>by
  rw[runsN,runsN]
  by_cases c:i<row.length
  ·rw[if_pos c,if_pos c,runsN_fuel f g _ (by have:=(tdAt_n c).1;omega) (by have:=(tdAt_n c).1;omega)]
  ·rw[if_neg c,if_neg c]
theorem runs_drop (row:List Int):∀k,k<=(runsF row).length->atR row k<=row.length/\(runsF row).drop k=runsN row (row.length+1) (atR row k)
 |0,_=>⟨Nat.zero_le _,rfl⟩
 |k+1,h=>by
  obtain⟨h1,h2⟩:=runs_drop row k (by omega)
  have hlt:atR row k<row.length:=by
   rcases Nat.lt_or_ge (atR row k) row.length with c|c
   ·exact c
   ·have:=congrArg List.length h2
    rw[runsN,if_neg (by omega),List.length_drop]at this
    simp at this
    omega
  have hn:=tdAt_n hlt
  rw[atR,if_pos hlt]
  refine⟨hn.2,?_⟩
  rw[<- List.tail_drop,h2,runsN,if_pos hlt]
  exact runsN_fuel _ _ _ (by omega) (by omega)
theorem runs_get {row:List Int}{k:Nat}(h:k<=(runsF row).length):(atR row k<row.length↔k<(runsF row).length)/\(k<(runsF row).length->(runsF row)[k]? =some (tdAt row (atR row k)).1):=by
 obtain⟨h1,h2⟩:=runs_drop row k h
 have hl:=congrArg List.length h2
 rw[List.length_drop,runsN]at hl
 by_cases c:atR row k<row.length
 ·rw[if_pos c,List.length_cons]at hl
  refine⟨⟨fun _=>by omega,fun _=>c⟩,fun d=>?_⟩
  have:(runsF row)[k]? =((runsF row).drop k)[0]? :=by rw[List.getElem?_drop];rfl
  rw[this,h2,runsN,if_pos c];rfl
 ·rw[if_neg c]at hl
  simp at hl
  exact⟨⟨fun d=>absurd d c,fun d=>by omega⟩,fun d=>by omega⟩
theorem runs1 {W:World} {c1 l:Nat} {a:Option Addr} {n c:Nat} {row:List Int} {A:HP} {G:Nat->HP} {Gx T T':HP} (hA:RdB W A a row.length (row.map I)) (hl:row.length<=1099511627776)
  (hy:YieldC p_ l (tdVs row) (fun k=>all [T,all [pt c1 (.cells #[.slice a row.length c] 197),A,G k]]) (all [T',Gx]) W):
  Cn p_ 244 [yv l,.pointer (some ⟨c1,0,none⟩)] W [all [T,all [pt c1 (.cells #[.slice a row.length c] 197),A,G 0]]] (fun _:Bool=> .tuple #[])
   (fun r=>[if r then all [T,all [pt c1 (.cells #[.slice a row.length c] 197),A,G (tdVs row).length]]else all [T',Gx]]):=by
 have hTl:(tdVs row).length=(runsF row).length:=by simp[tdVs]
 rw[hTl]
 (refine Shp.cn (Sg.g_ Tryz.call244 Tryz.func244 (an:={cuts:=[(15,[5])],loops:=[(1,[3]),(3,[5])]})) fun F=>?_;simp only[ca_,na_])
 refine e_all .here ?_
 refine nr_ ?_
 refine e_all (.there .here) ?_
 refine nr_ ?_
 refine e_loop1 (fun m y=>(ex fun k:Nat=>all [pu (m+k=(runsF row).length/\y= .int .i64 (atR row k:Int)),T,G k])::pt c1 (.cells #[.slice a row.length c] 197)::A::F) (runsF row).length ?_ ?_
 ·refine .ex 0 (.all (.pu ⟨by omega,rfl⟩ ?_))
  refine nr_ ?_
  exact im_
 intro m ds y
 refine e_ex .here fun k=>e_all .here ?_
 refine nr_ ?_
 refine e_pu .here fun hk=>?_
 obtain⟨hmk,rfl⟩:=hk
 obtain⟨g1,g2⟩:=runs_get (row:=row) (k:=k) (by omega)
 obtain⟨d1,d2⟩:=runs_drop row k (by omega)
 obtain⟨i,hi⟩:∃i,i=atR row k:=⟨_,rfl⟩
 have hnx:atR row (k+1)=if i<row.length then i+(tdAt row i).2 else i:=by rw[atR,<- hi]
 rw[<- hi]at g1 g2 d1 ⊢
 refine ln_ ?_;refine o_ v_len ?_
 by_cases h1:(i:Int)<(row.length:Int)
 rotate_left
 ·refine o_ v_lss ?_
  rw[dF_ h1]
  refine e_condF ?_
  have:k=(runsF row).length:=by
   rcases Nat.lt_or_ge k (runsF row).length with c|c
   ·exact absurd (g1.2 c) (by omega)
   ·omega
  subst this
  refine rt_ true ?_
  refine .all ?_
  refine nr_ ?_
  refine .pick (by repeat constructor) (.all ?_)
  refine nr_ ?_
  exact im_
 have hil:i<row.length:=by omega
 have hkl:=g1.1 hil
 refine o_ v_lss ?_
 rw[dT_ h1]
 refine e_condT (ln_ ?_)
 obtain⟨g,o,rfl,_⟩:=hA.at_ (by omega)
 refine o_ (v_ia1 i rfl hil) ?_
 refine p_op (v_ldRd hA (v:=I row[i]) (I_get hil)) ?_
 obtain⟨v,hv⟩:∃v,v=row[i]:=⟨_,rfl⟩
 have hvi:row[i]? =some v:=by rw[hv];exact List.getElem?_eq_getElem hil
 have hgd:row.getD i 0=v:=by rw[List.getD_eq_getElem?_getD,hvi];rfl
 rw[<- hv]
 unfold I
 obtain⟨N,hN⟩:∃N,N=sameN row v i row.length 1:=⟨_,rfl⟩
 refine e_loop1 (fun m2 y=>(ex fun n:Nat=>pu (m2+i+n=row.length/\y= .int .i64 (n:Int)/\1<=n/\sameN row v i m2 n=N))::T::G k::pt c1 (.cells #[.slice (some ⟨g,o,none⟩) row.length c] 197)::A::F) (row.length-i-1) ?_ ?_
 ·exact .ex 1 (.pu ⟨by omega,rfl,by omega,by rw[hN];exact sameN_fuel _ _ _ (by omega) (by omega)⟩ .refl)
 intro m2 ds y5
 refine e_ex .here fun n=>e_pu .here fun hn=>?_
 obtain⟨hmn,rfl,hn1,hs⟩:=hn
 have stop:m2=0\/¬row[i+n]? =some v->n=N:=fun h=>by
  rw[<- hs]
  rcases h with rfl|h
  ·rfl
  ·cases m2 with
   |zero=>rfl
   |succ m2=>rw[sameN,if_neg h]
 refine ad_ ?_;refine ln_ ?_;refine o_ v_len ?_
 by_cases h2:(i:Int)+(n:Int)<(row.length:Int)
 ·refine o_ v_lss ?_
  rw[dT_ h2]
  refine e_gdT (ln_ ?_);refine e_gdT (e_gdT (e_gdT (ad_ ?_)));refine e_gdT (o_ (v_ia1 (i+n) (by rfl) (by omega)) ?_)
  refine e_gdT (p_op (v_ldRd hA (v:=I row[i+n]) (I_get (by omega))) ?_)
  refine e_gdT (e_gdT ?_)
  unfold I
  refine o_ v_eql ?_
  by_cases h3:row[i+n]=v
  ·rw[dT_ h3]
   refine o_ v_pickT (e_condT (ad_ ?_))
   obtain⟨m2,rfl⟩:∃x,m2=x+1:=⟨m2-1,by omega⟩
   refine e_next1 m2 (by omega) (.ex (n+1) (.pu ⟨by omega,rfl,by omega,?_⟩ im_))
   rw[<- hs,sameN,if_pos (by rw[List.getElem?_eq_getElem (by omega),h3])]
  ·rw[dF_ h3]
   refine o_ v_pickT (e_condF (o_ v_rv ?_));refine e_newA fun g=>?_;refine sg_ ?_
   have hnN:=stop (by rw[List.getElem?_eq_getElem (by omega)];exact .inr (fun h=>h3 (Option.some.inj h)))
   clear stop hs
   subst hnN
   rename Nat=>gt
   have htd:tdAt row i=if v=0/\11<=n then(⟨18,7,min n 138-11⟩,min n 138)else if v=0/\3<=n then(⟨17,3,n-3⟩,n)else if(v≠0/\3<=n)/\(0<i/\row[i-1]? =some v)then(⟨16,2,min n 6-3⟩,min n 6)else(⟨v,0,0⟩,1):=by
    unfold tdAt
    simp only
    rw[hgd,<- hN]
   have htn:=tdAt_n hil
   obtain⟨tn,htn2⟩:∃tn,tn=tdAt row i:=⟨_,rfl⟩
   rw[<- htn2]at htd htn hnx g2
   refine e_cut1 (fun z=>pu (z= .int .i64 (tn.2:Int))::pt gt (.cells #[.int .i64 tn.1.sym,.int .i64 (tn.1.bits:Int),.int .i64 (tn.1.extra:Int)] 306)::T::G k::pt c1 (.cells #[.slice (some ⟨g,o,none⟩) row.length c] 197)::A::F) ?_ ?_
   rotate_left
   ·refine o_ v_eql ?_
    by_cases k0:v=0
    ·rw[dT_ k0]
     refine e_gdT (e_gdT (o_ v_geq ?_))
     by_cases k11:(11:Int)<=(n:Int)
     ·rw[dT_ k11]
      refine o_ v_pickT (e_condT (o_ v_min ?_))
      rw[if_pos ⟨k0,by omega⟩]at htd
      rw[show(if(138:Int)<(n:Int)then(138:Int)else(n:Int))=((min n 138:Nat):Int) by split <;> omega]
      refine sb_ ?_;refine o_ v_rv ?_;refine sg_ ?_
      refine e_sat (.pu (by rw[htd]) (.pick (by rw[htd];simp only;rw[show((min n 138-11:Nat):Int)=((min n 138:Nat):Int)-11 by omega];(repeat constructor)) ?_))
      exact im_
     ·rw[dF_ k11]
      rw[if_neg (fun h=>k11 (by omega))]at htd
      refine o_ v_pickT (e_condF (o_ v_eql ?_))
      rw[dT_ k0]
      refine e_gdT (e_gdT (o_ v_geq ?_))
      by_cases k3:(3:Int)<=(n:Int)
      ·rw[dT_ k3]
       rw[if_pos ⟨k0,by omega⟩]at htd
       refine o_ v_pickT (e_condT (sb_ ?_));refine o_ v_rv ?_;refine sg_ ?_
       refine e_sat (.pu (by rw[htd]) (.pick (by rw[htd];simp only;rw[show((n-3:Nat):Int)=(n:Int)-3 by omega];(repeat constructor)) ?_))
       exact im_
      ·rw[dF_ k3]
       rw[if_neg (fun h=>k3 (by omega)),if_neg (fun h=>h.1.1 k0)]at htd
       refine o_ v_pickT (e_condF (o_ v_neq ?_))
       rw[dF_ (fun h=>h k0)]
       refine e_gdF2 (e_gdF2 (o_ v_pickF (e_gdF2 (e_gdF2 (o_ v_pickF (e_gdF2 (e_gdF2 (e_gdF2 (e_gdF2 (e_gdF2 (e_gdF2 (e_gdF2 (o_ v_pickF (e_condF (e_sat (.pu (by rw[htd];rfl) (.pick (by rw[htd];simp only;(repeat constructor)) ?_)))))))))))))))))
       exact im_
    ·rw[dF_ k0]
     rw[if_neg (fun h=>k0 h.1),if_neg (fun h=>k0 h.1)]at htd
     refine e_gdF2 (e_gdF2 (o_ v_pickF (e_condF (o_ v_eql ?_))))
     rw[dF_ k0]
     refine e_gdF2 (e_gdF2 (o_ v_pickF (e_condF (o_ v_neq ?_))))
     rw[dT_ k0]
     refine e_gdT (e_gdT (o_ v_geq ?_))
     by_cases k3:(3:Int)<=(n:Int)
     ·rw[dT_ k3]
      refine o_ v_pickT (e_gdT (e_gdT (o_ v_gtr ?_)))
      by_cases ki:(0:Int)<(i:Int)
      ·rw[dT_ ki]
       refine o_ v_pickT (e_gdT (ln_ ?_));refine e_gdT (e_gdT (sb_ ?_));refine e_gdT (o_ (v_ia1 (i-1) (by omega) (by omega)) ?_)
       refine e_gdT (p_op (v_ldRd hA (v:=I row[i-1]) (I_get (by omega))) ?_)
       refine e_gdT (e_gdT ?_)
       unfold I
       refine o_ v_eql ?_
       by_cases kv:row[i-1]=v
       ·rw[dT_ kv]
        rw[if_pos ⟨⟨k0,by omega⟩,by omega,by rw[List.getElem?_eq_getElem (by omega),kv]⟩]at htd
        refine o_ v_pickT (e_condT (o_ v_min ?_))
        rw[show(if(6:Int)<(n:Int)then(6:Int)else(n:Int))=((min n 6:Nat):Int) by split <;> omega]
        refine sb_ ?_;refine o_ v_rv ?_;refine sg_ ?_
        refine e_sat (.pu (by rw[htd]) (.pick (by rw[htd];simp only;rw[show((min n 6-3:Nat):Int)=((min n 6:Nat):Int)-3 by omega];(repeat constructor)) ?_))
        exact im_
       ·rw[dF_ kv]
        rw[if_neg (fun h=>kv (by have:=h.2.2;rw[List.getElem?_eq_getElem (by omega)]at this;exact Option.some.inj this))]at htd
        refine o_ v_pickT (e_condF (e_sat (.pu (by rw[htd];rfl) (.pick (by rw[htd];simp only;(repeat constructor)) ?_))))
        exact im_
      ·rw[dF_ ki]
       rw[if_neg (fun h=>ki (by omega))]at htd
       refine o_ v_pickT (e_gdF2 (e_gdF2 (e_gdF2 (e_gdF2 (e_gdF2 (e_gdF2 (e_gdF2 (o_ v_pickF (e_condF (e_sat (.pu (by rw[htd];rfl) (.pick (by rw[htd];simp only;(repeat constructor)) ?_))))))))))))
       exact im_
     ·rw[dF_ k3]
      rw[if_neg (fun h=>k3 (by omega))]at htd
      refine o_ v_pickT (e_gdF2 (e_gdF2 (o_ v_pickF (e_gdF2 (e_gdF2 (e_gdF2 (e_gdF2 (e_gdF2 (e_gdF2 (e_gdF2 (o_ v_pickF (e_condF (e_sat (.pu (by rw[htd];rfl) (.pick (by rw[htd];simp only;(repeat constructor)) ?_)))))))))))))))
      exact im_
   ·intro ds z
    refine e_pu .here fun hz=>?_
    subst hz
    refine lg_ ?_
    refine e_imp (M:=all [T,all [pt c1 (.cells #[.slice (some ⟨g,o,none⟩) row.length c] 197),A,G k]]::F) ?_ ?_
    ·refine .all ?_
     refine nr_ ?_
     refine .pick (by repeat constructor) (.all ?_)
     refine nr_ ?_
     exact im_
    have hget:(tdVs row)[k]? =some [tdV tn.1]:=by
     unfold tdVs
     rw[List.getElem?_map,g2 hkl];rfl
    refine e_yield hy k hget .here ?_ ?_
    ·(refine o_ v_notT ?_);refine e_condF ?_;refine ad_ ?_
     refine e_all .here ?_
     refine nr_ ?_
     refine e_all (.there .here) ?_
     refine nr_ ?_
     rw[if_pos hil]at hnx
     refine e_next1 (m-1) (by omega) (.ex (k+1) (.all (.pu ⟨by omega,by rw[hnx];norm_cast⟩ ?_)))
     refine nr_ ?_
     exact im_
    ·(refine o_ v_notF ?_);refine e_condT ?_
     refine rt_ false ?_
     exact im_
 ·refine o_ v_lss ?_
  rw[dF_ h2]
  refine e_gdF2 (e_gdF2 (e_gdF2 (e_gdF2 (e_gdF2 (e_gdF2 (e_gdF2 (e_gdF2 (o_ v_pickF (e_condF (o_ v_rv ?_))))))))));refine e_newA fun g=>?_;refine sg_ ?_
  have hnN:=stop (by exact .inl (by omega))
  clear stop hs
  subst hnN
  rename Nat=>gt
  have htd:tdAt row i=if v=0/\11<=n then(⟨18,7,min n 138-11⟩,min n 138)else if v=0/\3<=n then(⟨17,3,n-3⟩,n)else if(v≠0/\3<=n)/\(0<i/\row[i-1]? =some v)then(⟨16,2,min n 6-3⟩,min n 6)else(⟨v,0,0⟩,1):=by
   unfold tdAt
   simp only
   rw[hgd,<- hN]
  have htn:=tdAt_n hil
  obtain⟨tn,htn2⟩:∃tn,tn=tdAt row i:=⟨_,rfl⟩
  rw[<- htn2]at htd htn hnx g2
  refine e_cut1 (fun z=>pu (z= .int .i64 (tn.2:Int))::pt gt (.cells #[.int .i64 tn.1.sym,.int .i64 (tn.1.bits:Int),.int .i64 (tn.1.extra:Int)] 306)::T::G k::pt c1 (.cells #[.slice (some ⟨g,o,none⟩) row.length c] 197)::A::F) ?_ ?_
  rotate_left
  ·refine o_ v_eql ?_
   by_cases k0:v=0
   ·rw[dT_ k0]
    refine e_gdT (e_gdT (o_ v_geq ?_))
    by_cases k11:(11:Int)<=(n:Int)
    ·rw[dT_ k11]
     refine o_ v_pickT (e_condT (o_ v_min ?_))
     rw[if_pos ⟨k0,by omega⟩]at htd
     rw[show(if(138:Int)<(n:Int)then(138:Int)else(n:Int))=((min n 138:Nat):Int) by split <;> omega]
     refine sb_ ?_;refine o_ v_rv ?_;refine sg_ ?_
     refine e_sat (.pu (by rw[htd]) (.pick (by rw[htd];simp only;rw[show((min n 138-11:Nat):Int)=((min n 138:Nat):Int)-11 by omega];(repeat constructor)) ?_))
     exact im_
    ·rw[dF_ k11]
     rw[if_neg (fun h=>k11 (by omega))]at htd
     refine o_ v_pickT (e_condF (o_ v_eql ?_))
     rw[dT_ k0]
     refine e_gdT (e_gdT (o_ v_geq ?_))
     by_cases k3:(3:Int)<=(n:Int)
     ·rw[dT_ k3]
      rw[if_pos ⟨k0,by omega⟩]at htd
      refine o_ v_pickT (e_condT (sb_ ?_));refine o_ v_rv ?_;refine sg_ ?_
      refine e_sat (.pu (by rw[htd]) (.pick (by rw[htd];simp only;rw[show((n-3:Nat):Int)=(n:Int)-3 by omega];(repeat constructor)) ?_))
      exact im_
     ·rw[dF_ k3]
      rw[if_neg (fun h=>k3 (by omega)),if_neg (fun h=>h.1.1 k0)]at htd
      refine o_ v_pickT (e_condF (o_ v_neq ?_))
      rw[dF_ (fun h=>h k0)]
      refine e_gdF2 (e_gdF2 (o_ v_pickF (e_gdF2 (e_gdF2 (o_ v_pickF (e_gdF2 (e_gdF2 (e_gdF2 (e_gdF2 (e_gdF2 (e_gdF2 (e_gdF2 (o_ v_pickF (e_condF (e_sat (.pu (by rw[htd];rfl) (.pick (by rw[htd];simp only;(repeat constructor)) ?_)))))))))))))))))
      exact im_
   ·rw[dF_ k0]
    rw[if_neg (fun h=>k0 h.1),if_neg (fun h=>k0 h.1)]at htd
    refine e_gdF2 (e_gdF2 (o_ v_pickF (e_condF (o_ v_eql ?_))))
    rw[dF_ k0]
    refine e_gdF2 (e_gdF2 (o_ v_pickF (e_condF (o_ v_neq ?_))))
    rw[dT_ k0]
    refine e_gdT (e_gdT (o_ v_geq ?_))
    by_cases k3:(3:Int)<=(n:Int)
    ·rw[dT_ k3]
     refine o_ v_pickT (e_gdT (e_gdT (o_ v_gtr ?_)))
     by_cases ki:(0:Int)<(i:Int)
     ·rw[dT_ ki]
      refine o_ v_pickT (e_gdT (ln_ ?_));refine e_gdT (e_gdT (sb_ ?_));refine e_gdT (o_ (v_ia1 (i-1) (by omega) (by omega)) ?_)
      refine e_gdT (p_op (v_ldRd hA (v:=I row[i-1]) (I_get (by omega))) ?_)
      refine e_gdT (e_gdT ?_)
      unfold I
      refine o_ v_eql ?_
      by_cases kv:row[i-1]=v
      ·rw[dT_ kv]
       rw[if_pos ⟨⟨k0,by omega⟩,by omega,by rw[List.getElem?_eq_getElem (by omega),kv]⟩]at htd
       refine o_ v_pickT (e_condT (o_ v_min ?_))
       rw[show(if(6:Int)<(n:Int)then(6:Int)else(n:Int))=((min n 6:Nat):Int) by split <;> omega]
       refine sb_ ?_;refine o_ v_rv ?_;refine sg_ ?_
       refine e_sat (.pu (by rw[htd]) (.pick (by rw[htd];simp only;rw[show((min n 6-3:Nat):Int)=((min n 6:Nat):Int)-3 by omega];(repeat constructor)) ?_))
       exact im_
      ·rw[dF_ kv]
       rw[if_neg (fun h=>kv (by have:=h.2.2;rw[List.getElem?_eq_getElem (by omega)]at this;exact Option.some.inj this))]at htd
       refine o_ v_pickT (e_condF (e_sat (.pu (by rw[htd];rfl) (.pick (by rw[htd];simp only;(repeat constructor)) ?_))))
       exact im_
     ·rw[dF_ ki]
      rw[if_neg (fun h=>ki (by omega))]at htd
      refine o_ v_pickT (e_gdF2 (e_gdF2 (e_gdF2 (e_gdF2 (e_gdF2 (e_gdF2 (e_gdF2 (o_ v_pickF (e_condF (e_sat (.pu (by rw[htd];rfl) (.pick (by rw[htd];simp only;(repeat constructor)) ?_))))))))))))
      exact im_
    ·rw[dF_ k3]
     rw[if_neg (fun h=>k3 (by omega))]at htd
     refine o_ v_pickT (e_gdF2 (e_gdF2 (o_ v_pickF (e_gdF2 (e_gdF2 (e_gdF2 (e_gdF2 (e_gdF2 (e_gdF2 (e_gdF2 (o_ v_pickF (e_condF (e_sat (.pu (by rw[htd];rfl) (.pick (by rw[htd];simp only;(repeat constructor)) ?_)))))))))))))))
     exact im_
  ·intro ds z
   refine e_pu .here fun hz=>?_
   subst hz
   refine lg_ ?_
   refine e_imp (M:=all [T,all [pt c1 (.cells #[.slice (some ⟨g,o,none⟩) row.length c] 197),A,G k]]::F) ?_ ?_
   ·refine .all ?_
    refine nr_ ?_
    refine .pick (by repeat constructor) (.all ?_)
    refine nr_ ?_
    exact im_
   have hget:(tdVs row)[k]? =some [tdV tn.1]:=by
    unfold tdVs
    rw[List.getElem?_map,g2 hkl];rfl
   refine e_yield hy k hget .here ?_ ?_
   ·(refine o_ v_notT ?_);refine e_condF ?_;refine ad_ ?_
    refine e_all .here ?_
    refine nr_ ?_
    refine e_all (.there .here) ?_
    refine nr_ ?_
    rw[if_pos hil]at hnx
    refine e_next1 (m-1) (by omega) (.ex (k+1) (.all (.pu ⟨by omega,by rw[hnx];norm_cast⟩ ?_)))
    refine nr_ ?_
    exact im_
   ·(refine o_ v_notF ?_);refine e_condT ?_
    refine rt_ false ?_
    exact im_
theorem countP_at {p q:Nat->Bool}{N:Nat}(h:∀j,j≠N->p j=q j):∀n,(List.range n).countP q+(if N<n then(p N).toNat else 0)=(List.range n).countP p+(if N<n then(q N).toNat else 0)
 |0=>by simp
 |n+1=>by
  have ih:=countP_at h n
  rw[List.range_succ,List.countP_append,List.countP_append]
  have e1:∀r:Nat->Bool,[n].countP r=(r n).toNat:=fun r=>by
   cases hr:r n with
   |true=>rw[List.countP_cons_of_pos hr];rfl
   |false=>rw[List.countP_cons_of_neg (by simp[hr])];rfl
  rw[e1,e1]
  by_cases c:n=N
  ·subst c
   rw[if_neg (by omega),if_neg (by omega)]at ih
   rw[if_pos (by omega),if_pos (by omega)]
   omega
  ·rw[h n c]
   by_cases d:N<n
   ·rw[if_pos d,if_pos d]at ih
    rw[if_pos (by omega),if_pos (by omega)]
    omega
   ·rw[if_neg d,if_neg d]at ih
    rw[if_neg (by omega),if_neg (by omega)]
    omega
def knT (T:List Td):Nat:=(frq0 T).countP fun x=>decide (0<x)
theorem cntT_snoc (T:List Td)(t:Td)(s:Nat):cntT (T++[t]) s=cntT T s+if t.sym=(s:Int)then 1 else 0:=by
 unfold cntT
 rw[List.countP_append]
 by_cases c:t.sym=(s:Int)
 ·rw[if_pos c,List.countP_cons_of_pos (by simpa using c)];rfl
 ·rw[if_neg c,List.countP_cons_of_neg (by simpa using c)];rfl
theorem knT_snoc {T:List Td}{t:Td}{N:Nat}(ht:t.sym=(N:Int))(hN:N<19):knT (T++[t])=knT T+if cntT T N+1=1 then 1 else 0:=by
 have e:∀T:List Td,knT T=(List.range 19).countP fun s=>decide (0<(cntT T s:Int)):=fun T=>by
  unfold knT frq0
  rw[List.countP_map];rfl
 have:=countP_at (p:=fun s=>decide (0<(cntT T s:Int))) (q:=fun s=>decide (0<(cntT (T++[t]) s:Int))) (N:=N) (fun j hj=>by
  rw[cntT_snoc,if_neg (fun h=>hj (by omega))];rfl) 19
 rw[if_pos hN,if_pos hN,<- e,<- e]at this
 rw[cntT_snoc,ht,if_pos rfl]at this
 by_cases c:cntT T N+1=1
 ·rw[if_pos c]
  rw[dF_ (by omega),dT_ (by omega)]at this
  exact this
 ·rw[if_neg c]
  rw[dT_ (by omega),dT_ (by omega)]at this
  simp only[Bool.toNat_true]at this
  omega
theorem cntT_le (T:List Td)(s:Nat):cntT T s<=T.length:=List.countP_le_length
theorem knT_le (T:List Td):knT T<=19:=by
 unfold knT
 refine Nat.le_trans List.countP_le_length ?_
 simp[frq0]
theorem frq0_Ln (T:List Td):(frq0 T).map I=Ln 19 fun s=>(cntT T s:Int):=by
 unfold Ln frq0
 rw[List.map_map];rfl
theorem ordL_lt:∀c:Fin 19,∃k,ordL[c.1]? =some k/\k<19:=by decide
theorem putL_i {L:List Bool}{n k:Int}{e j:Nat}(hn:n=(e:Int))(hk:k=(j:Int))(h1:j<=32)(h2:e<2^j)(h:L.length+j<=8388608):putL L n k=L++bitsOf e j:=by
 rw[hn,hk]
 exact putL_ok h1 h2 h
def tdB (l:List Int)(t:Td):List Bool:=cwd l t.sym++bitsOf t.extra t.bits
theorem fltL_take {α:Type}{f:α->List Bool}{l:List α}{k:Nat}(h:k<l.length):(l.take (k+1)).flatMap f=(l.take k).flatMap f++f l[k]:=by
 rw[List.take_succ_eq_append_getElem h,List.flatMap_append];simp
theorem fltL_le {α:Type}{f:α->List Bool}{l:List α}{k:Nat}(h:k<l.length):((l.take k).flatMap f).length+(f l[k]).length<=(l.flatMap f).length:=by
 have e:l.flatMap f=(l.take (k+1)).flatMap f++(l.drop (k+1)).flatMap f:=by rw[<- List.flatMap_append,List.take_append_drop]
 rw[e,List.length_append,fltL_take h,List.length_append]
 omega
theorem head {W:World}{w:Nat}{la lb:List Int}{qa qb:Qs}{L:List Bool}(va:∀x∈la,0<=x/\x<=15)(vb:∀x∈lb,0<=x/\x<=15)(h1:la.length=286)(h2:lb.length=30)(hL:L.length+(hdX la lb).length<=8388608):
  Cn p_ 203 [.pointer (some ⟨w,0,none⟩),setV (sv la qa),setV (sv lb qb)] W [IsW w L,IsSet la qa,IsSet lb qb] (fun _:Unit=> .tuple #[]) (fun _=>[IsW w (L++hdX la lb),IsSet la qa,IsSet lb qb]):=by
 obtain⟨T,hT⟩:∃T,T=runsF (hdRow la lb):=⟨_,rfl⟩
 obtain⟨u1,u2,u3⟩:=upto_ok la 257 (by omega)
 obtain⟨w1,w2,w3⟩:=upto_ok lb 1 (by omega)
 have hrow:(hdRow la lb).length=upto la 257+upto lb 1:=by
  unfold hdRow;rw[List.length_append,List.length_take,List.length_take];omega
 have hrv:=hdRow_b va vb
 have hTl:T.length<=1000:=by
  have:=runsN_len (hdRow la lb) ((hdRow la lb).length+1) 0
  rw[hT];unfold runsF;omega
 have hTs:∀t∈T,0<=t.sym/\t.sym<=18/\t.extra<2^t.bits/\t.bits<=7:=fun t ht=>runsN_sym hrv _ _ t (by rw[hT]at ht;exact ht)
 have hTv:tdVs (hdRow la lb)=T.map fun t=>[tdV t]:=by unfold tdVs;rw[hT]
 obtain⟨D,hD⟩:∃D,D=hdLen la lb:=⟨_,rfl⟩
 have hDe:lenV (frqT T) 7=D:=by rw[hD,hT];rfl
 have hDE:lenE (frqT T) 7=0:=by rw[hT];exact frqT_E (by omega)
 have hD19:D.length=19:=by rw[<- hDe,(PM.lenV_facts hDE).1];unfold frqT;rw[oneK_len];simp[frq0]
 have hDv:∀x∈D,0<=x/\x<=7:=fun x hx=>(PM.lenV_facts hDE).2.2.2.2.1 x (by rw[hDe];exact hx)
 have hlim:=lenV_le (frqT T) 7
 obtain⟨O,hO⟩:∃O,O=hdOrd D:=⟨_,rfl⟩
 have hO19:O.length=19:=by rw[hO];simp[hdOrd,ordL]
 have hOv:∀x∈O,0<=x/\x<=7:=fun x hx=>by
  rw[hO]at hx
  obtain⟨k,_,rfl⟩:=List.mem_map.1 hx
  rw[List.getD_eq_getElem?_getD]
  cases hk:D[k]? with
  |none=>exact⟨by simp,by simp⟩
  |some y=>exact hDv y (List.mem_of_getElem? hk)
 obtain⟨q1,q2,q3⟩:=upto_ok O 4 (by omega)
 obtain⟨c,hc⟩:∃c,c=upto O 4:=⟨_,rfl⟩
 rw[<- hc]at q1 q2 q3
 have hX:hdX la lb=bitsOf (upto la 257-257) 5++(bitsOf (upto lb 1-1) 5++(bitsOf (c-4) 4++((O.take c).flatMap (fun n=>bitsOf n.toNat 3)++T.flatMap (tdB D)))):=by
  unfold hdX
  simp only
  rw[<- hD,<- hO,<- hc,<- hT]
  simp only[List.append_assoc]
  rfl
 rw[hX]at hL ⊢
 simp only[List.length_append,length_bitsOf]at hL
 obtain⟨M0,hM0⟩:∃M0,M0=L++(bitsOf (upto la 257-257) 5++(bitsOf (upto lb 1-1) 5++bitsOf (c-4) 4)):=⟨_,rfl⟩
 have hM0l:M0.length=L.length+14:=by rw[hM0];simp only[List.length_append,length_bitsOf]
 have hfin:L++(bitsOf (upto la 257-257) 5++(bitsOf (upto lb 1-1) 5++(bitsOf (c-4) 4++((O.take c).flatMap (fun n=>bitsOf n.toNat 3)++T.flatMap (tdB D)))))=M0++(O.take c).flatMap (fun n=>bitsOf n.toNat 3)++T.flatMap (tdB D):=by
  rw[hM0];simp only[List.append_assoc]
 rw[hfin]
 have hrowe:hdRow la lb=la.take (upto la 257)++lb.take (upto lb 1):=rfl
 obtain⟨R,hR⟩:∃R,R=hdRow la lb:=⟨_,rfl⟩
 rw[<- hR]at hrow hTv hrowe
 obtain⟨ua,hua⟩:∃ua,ua=upto la 257:=⟨_,rfl⟩
 obtain⟨ub_,hub⟩:∃ub_,ub_=upto lb 1:=⟨_,rfl⟩
 unfold setV sv
 (refine S.deflate_head_s.cn fun F=>?_;unfold S.deflate_head;simp only[ca_,na_])
 refine e_box1 fun b3=>?_
 refine e_boxA fun b4=>?_
 refine e_boxA fun b5=>?_
 refine e_all (M:=[Sl 1 3 qa.1.1 qa.1.2 la.length (la.map I),Sl 1 3 qa.2.1 qa.2.2 (cdL la).length ((cdL la).map I)]) (.there (.there (.there (.there .here)))) ?_
 refine nr_ ?_
 refine e_all (M:=[Sl 1 3 qb.1.1 qb.1.2 lb.length (lb.map I),Sl 1 3 qb.2.1 qb.2.2 (cdL lb).length ((cdL lb).map I)]) (.there (.there (.there (.there (.there (.there .here)))))) ?_
 refine nr_ ?_
 refine e_slfacts (p:=(by(repeat constructor):Pick _ (Sl 1 3 qa.1.1 qa.1.2 la.length (la.map I)) _)) fun _ fa2 fa3 fa4=>?_
 refine e_slfacts (p:=(by(repeat constructor):Pick _ (Sl 1 3 qb.1.1 qb.1.2 lb.length (lb.map I)) _)) fun _ fb2 fb3 fb4=>?_
 obtain⟨⟨qaa,qac⟩,qcc⟩:=qa
 obtain⟨⟨qba,qbc⟩,qdc⟩:=qb
 (try dsimp only at *)
 obtain⟨ga,rfl⟩:=fa4 (by omega)
 obtain⟨gb,rfl⟩:=fb4 (by omega)
 have ra:RdB W (Sl 1 3 (some ⟨ga,0,none⟩) qac la.length (la.map I)) (some ⟨ga,0,none⟩) la.length (la.map I):=rd_sl (by rw[List.length_map]) (fun _=>⟨ga,rfl⟩)
 have rb:RdB W (Sl 1 3 (some ⟨gb,0,none⟩) qbc lb.length (lb.map I)) (some ⟨gb,0,none⟩) lb.length (lb.map I):=rd_sl (by rw[List.length_map]) (fun _=>⟨gb,rfl⟩)
 refine e_drS (t_ v_fa0 (ls_ ?_));refine e_stD v_fa0 .nil ?_;(((refine' e_stD (v_ldN ?hc) ?hi ?_);(case hi=>exact .pick (by repeat constructor) .nil);(case hc=>repeat constructor)))
 refine c_ (upto_ (cap:=qac) (least:=257) ra (by omega) (by omega)) fun _=>?_
 refine ob_ ?_;refine ob_ ?_
 refine c_ (upto_ (cap:=qbc) (least:=1) rb (by omega) (by omega)) fun _=>?_
 rw[<- hua,<- hub]
 rw[<- hua]at u1 u2 u3 hrow hrowe
 rw[<- hub]at w1 w2 w3 hrow hrowe
 refine e_drS (t_ v_fa0 (ls_ ?_))
 refine t_ (v_slh0 ua rfl (by omega)) ?_
 refine e_stD v_fa0 .nil ?_;(((refine' e_stD (v_ldN ?hc) ?hi ?_);(case hi=>exact .pick (by repeat constructor) .nil);(case hc=>repeat constructor)))
 refine e_stD (v_slh0 ub_ rfl (by omega)) .nil ?_
 refine e_nil (s:=1) (e:=3) ?_
 have ta:(la.take ua).length=ua:=by rw[List.length_take];omega
 have tb:(lb.take ub_).length=ub_:=by rw[List.length_take];omega
 have ra2:RdB W (Sl 1 3 (some ⟨ga,0,none⟩) qac la.length (la.map I)) (some ⟨ga,0,none⟩) ua ((la.take ua).map I):=by rw[List.map_take];exact rd_pre ra u1
 have rb2:RdB W (Sl 1 3 (some ⟨gb,0,none⟩) qbc lb.length (lb.map I)) (some ⟨gb,0,none⟩) ub_ ((lb.take ub_).map I):=by rw[List.map_take];exact rd_pre rb w1
 refine e_app (m:=ua) (news:=(la.take ua).map I) .here (src_rd (A:=Sl 1 3 (some ⟨ga,0,none⟩) qac la.length (la.map I)) (e':=3) (by kernel_rfl) (by repeat constructor) ra2 (fun c=>by cases c) I_one) (by omega) (by omega) fun a1 c1=>?_
 refine ob_ ?_;refine ob_ ?_;refine ob_ ?_
 refine e_app (m:=ub_) (news:=(lb.take ub_).map I) .here (src_rd (A:=Sl 1 3 (some ⟨gb,0,none⟩) qbc lb.length (lb.map I)) (e':=3) (by kernel_rfl) (by repeat constructor) rb2 (fun c=>by cases c) I_one) (by omega) (by omega) fun a2 c2=>?_
 rw[show []++(la.take ua).map I++(lb.take ub_).map I=R.map I by rw[hrowe,List.map_append,List.nil_append],show 0+ua+ub_=R.length by omega]
 refine e_slfacts .here fun _ _ _ fr4=>?_
 have rR:RdB W (Sl 1 3 a2 c2 R.length (R.map I)) a2 R.length (R.map I):=rd_sl (by rw[List.length_map]) fr4
 refine e_mksl 19 19 (by rfl) (by rfl) (by omega) (by omega) (by unfold maxLen;omega) fun gc=>?_
 refine e_new1 fun g=>?_;refine sn_ ?_;refine e_new1 fun g=>?_;refine sn_ ?_
 rename Nat=>b10
 obtain⟨b9,hb9⟩:∃b9,b9=g:=⟨_,rfl⟩
 rw[<- hb9]
 clear hb9 g
 obtain⟨SA,hSA⟩:∃SA,SA=IsSet la ((some ⟨ga,0,none⟩,qac),qcc):=⟨_,rfl⟩
 obtain⟨SB,hSB⟩:∃SB,SB=IsSet lb ((some ⟨gb,0,none⟩,qbc),qdc):=⟨_,rfl⟩
 rw[<- hSA,<- hSB]
 obtain⟨SR,hSR⟩:∃SR,SR=Sl 1 3 a2 c2 R.length (R.map I):=⟨_,rfl⟩
 rw[<- hSR]at rR ⊢
 refine e_imp (M:=pt b10 (.cells #[.int .i64 0] 3)::pt b9 (.cells #[.slice (some ⟨gc,0,none⟩) 19 19] 197)::Sl 1 3 (some ⟨gc,0,none⟩) 19 19 (List.replicate 19 (.int .i64 0))::SR::pt b3 (.cells #[.pointer (some ⟨w,0,none⟩)] 156)::IsW w L::SA::SB::[all F]) ?_ ?_
 ·rw[hSA,hSB]
  unfold IsSet
  refine .pick (by repeat constructor) (.pick (by repeat constructor) (.pick (by repeat constructor) (.pick (by repeat constructor) (.pick (by repeat constructor) (.pick (by repeat constructor) (.all ?_))))))
  refine nr_ ?_
  refine .pick (by repeat constructor) (.pick (by repeat constructor) (.all ?_))
  refine nr_ ?_
  refine .pick (by repeat constructor) (.pick (by repeat constructor) (.all ?_))
  rw[List.append_nil]
  exact im_
 refine c_ (runs (a:=a2) (n:=R.length) (c:=c2)) fun _=>?_
 rename_i r1
 have hTlen:(tdVs R).length=T.length:=by rw[hTv];simp
 refine e_rf (f:=244) (cap:=[.pointer (some ⟨r1,0,none⟩)]) (tdVs R)
  (fun k=>all [pt r1 (.cells #[.slice a2 R.length c2] 197),SR,all [pu (k<=T.length),pt b10 (.cells #[.int .i64 (knT (T.take k):Int)] 3),pt b9 (.cells #[.slice (some ⟨gc,0,none⟩) 19 19] 197),Sl 1 3 (some ⟨gc,0,none⟩) 19 19 (Ln 19 fun s=>(cntT (T.take k) s:Int)),all [pt b3 (.cells #[.pointer (some ⟨w,0,none⟩)] 156),IsW w L,SA,SB,all F]]]) (pu False) rfl ?_ ?_ ?_ ?_ ?_ ?_
 ·intro x hx
  rw[hTv]at hx
  obtain⟨k,_,rfl⟩:=List.mem_map.1 hx
  rfl
 ·refine .all ?_
  refine nr_ ?_
  refine .pick (by repeat constructor) (.pick (by repeat constructor) (.all ?_))
  refine nr_ ?_
  rw[Ln_zero]
  refine .pu (by omega) (.pick (by repeat constructor) (.pick (by repeat constructor) (.pick (by repeat constructor) (.all ?_))))
  refine nr_ ?_
  exact im_
 ·intro l T1 T2 hy
  exact runs1 (n:=0) (G:=fun k=>all [pu (k<=T.length),pt b10 (.cells #[.int .i64 (knT (T.take k):Int)] 3),pt b9 (.cells #[.slice (some ⟨gc,0,none⟩) 19 19] 197),Sl 1 3 (some ⟨gc,0,none⟩) 19 19 (Ln 19 fun s=>(cntT (T.take k) s:Int)),all [pt b3 (.cells #[.pointer (some ⟨w,0,none⟩)] 156),IsW w L,SA,SB,all F]]) rR (by omega) hy
 ·intro k hk F2 T0 T1 B N J hB hN hJ
  rw[hTlen]at hk
  have e0:∀h,(tdVs R)[k]'h=[tdV T[k]]:=fun h=>by simp[hTv]
  rw[e0]
  simp only[vapp,List.headD_cons,List.tail_cons]
  have hts:=hTs _ (List.getElem_mem hk)
  have htk:T.take (k+1)=T.take k++[T[k]]:=List.take_succ_eq_append_getElem hk
  obtain⟨t,ht⟩:∃t,t=T[k]:=⟨_,rfl⟩
  rw[<- ht]at hts htk ⊢
  obtain⟨n,hn⟩:=Int.eq_ofNat_of_zero_le hts.1
  have hn19:n<19:=by omega
  have hknS:=knT_snoc (T:=T.take k) hn hn19
  rw[<- htk]at hknS
  have hcs:∀s,cntT (T.take (k+1)) s=cntT (T.take k) s+if t.sym=(s:Int)then 1 else 0:=fun s=>by rw[htk];exact cntT_snoc _ _ _
  have hc1:=cntT_le (T.take k) n
  have hc2:=knT_le (T.take k)
  have hc3:(T.take k).length<=1000:=by rw[List.length_take];omega
  refine e_all (.there .here) ?_
  refine nr_ ?_
  refine e_all (.there (.there .here)) ?_
  refine nr_ ?_
  refine e_pu .here fun hkn=>?_
  unfold tdV
  rw[hn]
  refine e_newA fun g=>?_;refine sg_ ?_
  refine hB _ _ _ (by repeat constructor) ?_
  refine ln_ ?_;refine o_ v_fa0 (ln_ ?_)
  refine o_ (v_ia1 n (by rfl) hn19) ?_
  have hld:(Ln 19 fun s=>(cntT (T.take k) s:Int))[0+n]? =some (I (cntT (T.take k) n:Int)):=by rw[Nat.zero_add];exact Ln_get hn19
  refine p_op (v_ldSl hld) ?_
  refine ad_ ?_
  refine o_ (v_ia1 n (by rfl) hn19) ?_
  refine e_stSl (by repeat constructor) (by rw[Nat.zero_add,Ln_len];omega) ?_
  rw[Nat.zero_add]
  have hset:(Ln 19 fun s=>(cntT (T.take k) s:Int)).set n (.int .i64 ((cntT (T.take k) n:Int)+1))=Ln 19 fun s=>(cntT (T.take (k+1)) s:Int):=by
   have:=Ln_set (n:=19) (j:=n) (f:=fun s=>(cntT (T.take k) s:Int)) (v:=(cntT (T.take k) n:Int)+1)
   unfold I at this
   rw[this]
   refine Ln_congr fun j hj=>?_
   rw[hcs,hn]
   by_cases cj:j=n
   ·subst cj;rw[if_pos rfl,if_pos rfl];rfl
   ·rw[if_neg cj,if_neg (by omega)];rfl
  rw[hset]
  refine ln_ ?_;refine o_ v_fa0 (ln_ ?_)
  refine o_ (v_ia1 n (by rfl) hn19) ?_
  have hld2:(Ln 19 fun s=>(cntT (T.take (k+1)) s:Int))[0+n]? =some (I (cntT (T.take (k+1)) n:Int)):=by rw[Nat.zero_add];exact Ln_get hn19
  refine p_op (v_ldSl hld2) ?_
  have hc4:cntT (T.take (k+1)) n=cntT (T.take k) n+1:=by rw[hcs,hn,if_pos rfl]
  unfold I
  refine o_ v_eql ?_
  by_cases h1c:(cntT (T.take (k+1)) n:Int)=1
  ·rw[dT_ h1c]
   rw[if_pos (by omega)]at hknS
   refine e_condT (ln_ ?_);refine ad_ ?_;refine sn_ ?_
   refine hN _ ?_
   refine .pick (by repeat constructor) (.all ?_)
   refine nr_ ?_
   refine .pick (by repeat constructor) (.pick (by repeat constructor) (.all ?_))
   refine nr_ ?_
   rw[hknS,show((knT (T.take k)+1:Nat):Int)=(knT (T.take k):Int)+1 by rfl]
   refine .pu (by omega) ?_
   exact im_
  ·rw[dF_ h1c]
   rw[if_neg (by omega)]at hknS
   refine e_condF (hN _ ?_)
   refine .pick (by repeat constructor) (.all ?_)
   refine nr_ ?_
   refine .pick (by repeat constructor) (.pick (by repeat constructor) (.all ?_))
   refine nr_ ?_
   rw[hknS,Nat.add_zero]
   refine .pu (by omega) ?_
   exact im_
 rotate_left
 ·intro d1
  exact e_pu (.there .here) fun h=>h.elim
 intro d1
 rw[hTlen,List.take_length,<- frq0_Ln]
 refine e_all (.there .here) ?_
 refine nr_ ?_
 refine e_all (.there (.there .here)) ?_
 refine nr_ ?_
 refine e_pu .here fun _=>?_
 have hf19:(frq0 T).length=19:=by simp[frq0]
 have hfb:∀(j:Nat) (h:j<(frq0 T).length),0<=(frq0 T)[j]/\(frq0 T)[j]<=1000:=fun j h=>by
  have:=cntT_le T j
  simp only[frq0,List.getElem_map,List.getElem_range]
  omega
 have hkT:=knT_le T
 refine e_cut0 (Sl 1 3 (some ⟨gc,0,none⟩) 19 19 ((frqT T).map I)::pt d1 (.deferred (some []))::pt b9 (.cells #[.slice (some ⟨gc,0,none⟩) 19 19] 197)::all [pt b3 (.cells #[.pointer (some ⟨w,0,none⟩)] 156),IsW w L,SA,SB,all F]::pt r1 (.cells #[.slice a2 R.length c2] 197)::SR::[]) ?_ ?_
 rotate_left
 ·refine ln_ ?_
  refine o_ v_eql ?_
  by_cases k1:(knT T:Int)=1
  rotate_left
  ·rw[dF_ k1]
   refine e_condF ?_
   have:frqT T=frq0 T:=by
    unfold frqT oneK
    rw[if_neg (fun h=>k1 (by rw[show knT T=(frq0 T).countP fun x=>decide (0<x)from rfl,h];rfl))]
   rw[this]
   refine e_sat ?_
   exact im_
  rw[dT_ k1]
  refine e_condT ?_
  have hoK:frqT T=if 0<(frq0 T).getD 0 0 then(frq0 T).set 1 ((frq0 T).getD 1 0+1)else(frq0 T).set 0 ((frq0 T).getD 0 0+1):=by
   unfold frqT oneK
   have hk1:knT T=1:=by omega
   rw[if_pos (show((frq0 T).countP fun x=>decide (0<x))=1 from hk1)]
  have hgD:∀(j:Nat) (h:j<(frq0 T).length),(frq0 T).getD j 0=(frq0 T)[j]:=fun j h=>by rw[List.getD_eq_getElem?_getD,List.getElem?_eq_getElem h];rfl
  rw[hgD 0 (by omega),hgD 1 (by omega)]at hoK
  obtain⟨z0,hz0⟩:∃z0:Int,z0=(frq0 T)[0]'(by omega):=⟨_,rfl⟩
  obtain⟨z1,hz1⟩:∃z1:Int,z1=(frq0 T)[1]'(by omega):=⟨_,rfl⟩
  have hb0:=hfb 0 (by omega)
  have hb1:=hfb 1 (by omega)
  have hld0:((frq0 T).map I)[0+0]? =some (.int .i64 z0):=by rw[hz0];exact I_get (by omega)
  have hld1:((frq0 T).map I)[0+1]? =some (.int .i64 z1):=by rw[hz1,Nat.zero_add];exact I_get (by omega)
  rw[<- hz0,<- hz1]at hoK
  rw[<- hz0]at hb0
  rw[<- hz1]at hb1
  refine e_cut1 (fun z=>pu (z= .int .i64 (if 0<z0 then 1 else 0))::Sl 1 3 (some ⟨gc,0,none⟩) 19 19 ((frq0 T).map I)::pt d1 (.deferred (some []))::pt b9 (.cells #[.slice (some ⟨gc,0,none⟩) 19 19] 197)::all [pt b3 (.cells #[.pointer (some ⟨w,0,none⟩)] 156),IsW w L,SA,SB,all F]::pt r1 (.cells #[.slice a2 R.length c2] 197)::SR::[]) ?_ ?_
  rotate_left
  ·refine ln_ ?_
   refine o_ (v_ia1 0 (by rfl) (by omega)) ?_
   refine p_op (v_ldSl hld0) ?_
   refine o_ v_gtr ?_
   by_cases k2:0<z0
   ·rw[dT_ k2]
    refine e_condT (e_sat (.pu (by rw[if_pos k2]) ?_))
    exact im_
   ·rw[dF_ k2]
    refine e_condF (e_sat (.pu (by rw[if_neg k2]) ?_))
    exact im_
  intro ds z
  refine e_pu .here fun hz=>?_
  subst hz
  by_cases k2:0<z0
  ·rw[if_pos k2]at hoK ⊢
   refine ln_ ?_
   refine o_ (v_ia1 1 (by rfl) (by omega)) ?_
   refine p_op (v_ldSl hld1) ?_
   refine ad_ ?_
   refine o_ (v_ia1 1 (by rfl) (by omega)) ?_
   refine e_stSl (by repeat constructor) (by rw[List.length_map];omega) ?_
   rw[hoK,List.map_set]
   refine e_sat ?_
   exact im_
  ·rw[if_neg k2]at hoK ⊢
   refine ln_ ?_
   refine o_ (v_ia1 0 (by rfl) (by omega)) ?_
   refine p_op (v_ldSl hld0) ?_
   refine ad_ ?_
   refine o_ (v_ia1 0 (by rfl) (by omega)) ?_
   refine e_stSl (by repeat constructor) (by rw[List.length_map];omega) ?_
   rw[hoK,List.map_set]
   refine e_sat ?_
   exact im_
 intro ds
 have hfT19:(frqT T).length=19:=by unfold frqT;rw[oneK_len];exact hf19
 have hrf:RdB W (Sl 1 3 (some ⟨gc,0,none⟩) 19 19 ((frqT T).map I)) (some ⟨gc,0,none⟩) (frqT T).length ((frqT T).map I):=by
  rw[hfT19]
  exact rd_sl (by rw[List.length_map,hfT19]) (fun _=>⟨gc,rfl⟩)
 have hln:=lengths (W:=W) (cap:=19) (lim:=7) hrf (by omega)
 rw[hfT19,hDe,hDE]at hln
 refine ln_ ?_
 refine c_ hln fun _=>?_
 rename_i qD
 refine xt_ ?_;refine xt_ ?_
 refine e_slfacts .here fun _ hnd hcd hfd=>?_
 obtain⟨qDa,qDc⟩:=qD
 (try dsimp only at *)
 obtain⟨gd,rfl⟩:=hfd (by omega)
 have rD:RdB W (Sl 1 3 (some ⟨gd,0,none⟩) qDc D.length (D.map I)) (some ⟨gd,0,none⟩) D.length (D.map I):=rd_sl (by rw[List.length_map]) (fun _=>⟨gd,rfl⟩)
 refine c_ (newSet (cap:=qDc) rD (by omega)) fun _=>?_
 rename_i qS
 unfold setV
 (try dsimp only)
 refine e_newA fun g=>?_;refine sg_ ?_;refine o_ v_rv ?_
 rename Nat=>b15
 refine e_slfacts (.there .here) fun _ _ _ hfc=>?_
 have rC:RdB W (Sl 1 3 qS.1 qS.2 (cdL D).length ((cdL D).map I)) qS.1 (cdL D).length ((cdL D).map I):=rd_sl (by rw[List.length_map]) hfc
 refine e_all (.there (.there (.there (.there (.there (.there .here)))))) ?_
 refine nr_ ?_
 refine e_loop2 (fun m y z=>(ex fun st:(Option Addr × Nat) × Nat=>all [pu (m+st.2=19/\st.2<=19/\y= .slice st.1.1 st.2 st.1.2/\z= .int .i64 (st.2:Int)),Sl 1 3 st.1.1 st.1.2 st.2 ((O.take st.2).map I)])::pt b15 (.cells #[.slice (some ⟨gd,0,none⟩) D.length qDc,.slice qS.1 (cdL D).length qS.2] 258)::Sl 1 3 qS.1 qS.2 (cdL D).length ((cdL D).map I)::Sl 1 3 (some ⟨gd,0,none⟩) qDc D.length (D.map I)::pt d1 (.deferred (some []))::pt b3 (.cells #[.pointer (some ⟨w,0,none⟩)] 156)::IsW w (L)::SA::SB::pt r1 (.cells #[.slice a2 R.length c2] 197)::SR::[all F]) 19 ?_ ?_
 ·refine .ex ((none,0),0) (.all ?_)
  refine nr_ ?_
  refine .pu ⟨rfl,by omega,rfl,rfl⟩ ?_
  refine imp_nil ?_
  exact im_
 intro m ds y z
 refine e_ex .here fun st=>e_all .here ?_
 obtain⟨⟨ta_,tc⟩,i⟩:=st
 refine nr_ ?_
 refine e_pu .here fun hi=>?_
 (try dsimp only at hi)
 obtain⟨hmi,hi19,rfl,rfl⟩:=hi
 (try dsimp only)
 refine o_ v_lss ?_
 by_cases hlt:(i:Int)<19
 ·rw[dT_ hlt]
  refine e_condT ?_
  obtain⟨k,hk,hk19⟩:=ordL_lt ⟨i,by omega⟩
  (try dsimp only at hk)
  have hkv:(#[(.int .i64 16),(.int .i64 17),(.int .i64 18),(.int .i64 0),(.int .i64 8),(.int .i64 7),(.int .i64 9),(.int .i64 6),(.int .i64 10),(.int .i64 5),(.int .i64 11),(.int .i64 4),(.int .i64 12),(.int .i64 3),(.int .i64 13),(.int .i64 2),(.int .i64 14),(.int .i64 1),(.int .i64 15)]:Array Value)[i]? =some (.int .i64 (k:Int)):=by
   have:i=0\/i=1\/i=2\/i=3\/i=4\/i=5\/i=6\/i=7\/i=8\/i=9\/i=10\/i=11\/i=12\/i=13\/i=14\/i=15\/i=16\/i=17\/i=18:=by omega
   rcases this with rfl|rfl|rfl|rfl|rfl|rfl|rfl|rfl|rfl|rfl|rfl|rfl|rfl|rfl|rfl|rfl|rfl|rfl|rfl <;> (have hk':=Option.some.inj hk;subst hk';rfl)
  refine o_ (v_ixA i rfl (by omega) hkv) ?_
  refine o_ (v_ia1 k (by rfl) (by omega)) ?_
  have hOi:O[i]'(by omega)=D[k]'(by omega):=by
   have h1:O[i]? =some (D.getD k 0):=by rw[hO];unfold hdOrd;rw[List.getElem?_map,hk];rfl
   rw[List.getElem?_eq_getElem (by omega),List.getD_eq_getElem?_getD,List.getElem?_eq_getElem (by omega)]at h1
   exact Option.some.inj h1
  have hld:(D.map I)[0+k]? =some (.int .i64 (O[i]'(by omega))):=by rw[Nat.zero_add,hOi];exact I_get (by omega)
  refine p_op (v_ldSl hld) ?_
  refine e_bsl1 fun gb=>?_
  refine e_app (m:=1) (news:=[I (O[i]'(by omega))]) (by repeat constructor) (src_pt (s:=1) (e':=3) (by kernel_rfl) .here (by rfl) (by intro u hu;simp at hu;rw[hu];rfl)) (by omega) (by omega) fun a' c'=>?_
  have htk:(O.take i).map I++[I (O[i]'(by omega))]=(O.take (i+1)).map I:=by rw[List.take_succ_eq_append_getElem (by omega),List.map_append];rfl
  rw[htk]
  refine ad_ ?_
  refine e_next2 (m-1) (by omega) (.ex ((a',c'),i+1) (.all ?_))
  refine nr_ ?_
  refine .pu ⟨by omega,by omega,rfl,by norm_cast⟩ ?_
  exact im_
 have hi19':i=19:=by omega
 subst hi19'
 rw[dF_ hlt]
 refine e_condF ?_
 rw[show(O.take 19).map I=O.map I by rw[List.take_of_length_le (by omega)],show(19:Nat)=O.length from hO19.symm]
 refine e_slfacts .here fun _ ho2 ho3 ho4=>?_
 obtain⟨go,rfl⟩:=ho4 (by omega)
 have rO:RdB W (Sl 1 3 (some ⟨go,0,none⟩) tc O.length (O.map I)) (some ⟨go,0,none⟩) O.length (O.map I):=rd_sl (by rw[List.length_map]) (fun _=>⟨go,rfl⟩)
 have hup:=upto_ (W:=W) (cap:=tc) (least:=4) rO (by omega) (by omega)
 rw[<- hc]at hup
 refine c_ hup fun _=>?_
 refine ln_ ?_;refine sb_ ?_
 refine c_ (put (l:=L) (n:=(ua:Int)-257) (k:=5)) fun _=>?_
 rw[putL_i (e:=ua-257) (k:=5) (j:=5) (by omega) rfl (by omega) (by omega) (by omega)]
 refine ln_ ?_;refine sb_ ?_
 refine c_ (put (l:=L++bitsOf (ua-257) 5) (n:=(ub_:Int)-1) (k:=5)) fun _=>?_
 rw[putL_i (e:=ub_-1) (k:=5) (j:=5) (by omega) rfl (by omega) (by omega) (by rw[List.length_append,length_bitsOf];omega)]
 refine ln_ ?_;refine sb_ ?_
 refine c_ (put (l:=L++bitsOf (ua-257) 5++bitsOf (ub_-1) 5) (n:=(c:Int)-4) (k:=4)) fun _=>?_
 rw[putL_i (e:=c-4) (k:=4) (j:=4) (by omega) rfl (by omega) (by omega) (by simp only[List.length_append,length_bitsOf];omega)]
 rw[show L++bitsOf (ua-257) 5++bitsOf (ub_-1) 5++bitsOf (c-4) 4=M0 by rw[hM0,hua,hub];simp only[List.append_assoc]]
 refine o_ (v_slh0 c rfl (by omega)) ?_
 refine o_ v_len ?_
 have hcl:(O.take c).length=c:=by rw[List.length_take];omega
 refine e_loop1 (fun m y=>(ex fun i:Nat=>all [pu (m+i=c/\y= .int .i64 (i:Int)),IsW w (M0++((O.take c).take i).flatMap (fun n=>bitsOf n.toNat 3))])::Sl 1 3 (some ⟨go,0,none⟩) tc O.length (O.map I)::pt b15 (.cells #[.slice (some ⟨gd,0,none⟩) D.length qDc,.slice qS.1 (cdL D).length qS.2] 258)::Sl 1 3 qS.1 qS.2 (cdL D).length ((cdL D).map I)::Sl 1 3 (some ⟨gd,0,none⟩) qDc D.length (D.map I)::pt d1 (.deferred (some []))::pt b3 (.cells #[.pointer (some ⟨w,0,none⟩)] 156)::SA::SB::pt r1 (.cells #[.slice a2 R.length c2] 197)::SR::[all F]) c ?_ ?_
 ·refine .ex 0 (.all ?_)
  refine nr_ ?_
  refine .pu ⟨by omega,rfl⟩ ?_
  rw[List.take_zero,List.flatMap_nil,List.append_nil]
  exact im_
 intro m ds y
 refine e_ex .here fun i=>e_all .here ?_
 refine nr_ ?_
 refine e_pu .here fun hi=>?_
 obtain⟨hmi,rfl⟩:=hi
 refine o_ v_lss ?_
 by_cases hlt:(i:Int)<(c:Int)
 ·rw[dT_ hlt]
  refine e_condT (o_ (v_ia1 i (by rfl) (by omega)) ?_)
  have hld:(O.map I)[0+i]? =some (.int .i64 (O[i]'(by omega))):=by rw[Nat.zero_add];exact I_get (by omega)
  refine p_op (v_ldSl hld) ?_
  refine ln_ ?_
  have hv:=hOv _ (List.getElem_mem (show i<O.length by omega))
  have hfl:=fltL_take (f:=fun n:Int=>bitsOf n.toNat 3) (l:=O.take c) (k:=i) (by omega)
  have hfe:=fltL_le (f:=fun n:Int=>bitsOf n.toNat 3) (l:=O.take c) (k:=i) (by omega)
  have hel:(O.take c)[i]'(by omega)=O[i]'(by omega):=List.getElem_take
  rw[hel]at hfl hfe
  obtain⟨v,hvv⟩:∃v,v=O[i]'(by omega):=⟨_,rfl⟩
  rw[<- hvv]at hv hfl hfe ⊢
  (try dsimp only at hfe)
  rw[length_bitsOf]at hfe
  refine c_ (put (l:=M0++((O.take c).take i).flatMap (fun n=>bitsOf n.toNat 3)) (n:=v) (k:=3)) fun _=>?_
  rw[putL_i (e:=v.toNat) (k:=3) (j:=3) (by omega) rfl (by omega) (by omega) (by rw[List.length_append];omega)]
  refine ad_ ?_
  refine e_next1 (m-1) (by omega) (.ex (i+1) (.all ?_))
  refine nr_ ?_
  rw[hfl,<- List.append_assoc]
  refine .pu ⟨by omega,by norm_cast⟩ ?_
  exact im_
 have hic:i=c:=by omega
 subst hic
 rw[dF_ hlt,List.take_of_length_le (show(O.take i).length<=i by omega)]
 obtain⟨M1,hM1⟩:∃M1,M1=M0++(O.take i).flatMap (fun n=>bitsOf n.toNat 3):=⟨_,rfl⟩
 rw[<- hM1]
 have hM1l:M1.length+(T.flatMap (tdB D)).length<=8388608:=by rw[hM1,List.length_append];omega
 refine e_condF (c_ (runs (a:=a2) (n:=R.length) (c:=c2)) fun _=>?_)
 rename_i r2
 refine e_rf (f:=244) (cap:=[.pointer (some ⟨r2,0,none⟩)]) (tdVs R)
  (fun k=>all [pt r2 (.cells #[.slice a2 R.length c2] 197),SR,all [pu (k<=T.length),IsW w (M1++(T.take k).flatMap (tdB D)),pt b15 (.cells #[.slice (some ⟨gd,0,none⟩) D.length qDc,.slice qS.1 (cdL D).length qS.2] 258),Sl 1 3 qS.1 qS.2 (cdL D).length ((cdL D).map I),Sl 1 3 (some ⟨gd,0,none⟩) qDc D.length (D.map I),pt d1 (.deferred (some [])),pt b3 (.cells #[.pointer (some ⟨w,0,none⟩)] 156),SA,SB,all F]]) (pu False) rfl ?_ ?_ ?_ ?_ ?_ ?_
 ·intro x hx
  rw[hTv]at hx
  obtain⟨k,_,rfl⟩:=List.mem_map.1 hx
  rfl
 ·refine .all ?_
  refine nr_ ?_
  refine .pick (by repeat constructor) (.pick (by repeat constructor) (.all ?_))
  refine nr_ ?_
  rw[List.take_zero,List.flatMap_nil,List.append_nil]
  refine .pu (by omega) ?_
  exact im_
 ·intro l T1 T2 hy
  exact runs1 (n:=0) (G:=fun k=>all [pu (k<=T.length),IsW w (M1++(T.take k).flatMap (tdB D)),pt b15 (.cells #[.slice (some ⟨gd,0,none⟩) D.length qDc,.slice qS.1 (cdL D).length qS.2] 258),Sl 1 3 qS.1 qS.2 (cdL D).length ((cdL D).map I),Sl 1 3 (some ⟨gd,0,none⟩) qDc D.length (D.map I),pt d1 (.deferred (some [])),pt b3 (.cells #[.pointer (some ⟨w,0,none⟩)] 156),SA,SB,all F]) rR (by omega) hy
 ·intro k hk F2 T0 T1 B N J hB hN hJ
  rw[hTlen]at hk
  have e0:∀h,(tdVs R)[k]'h=[tdV T[k]]:=fun h=>by simp[hTv]
  rw[e0]
  simp only[vapp,List.headD_cons,List.tail_cons]
  have hts:=hTs _ (List.getElem_mem hk)
  have hfl:=fltL_take (f:=tdB D) (l:=T) hk
  have hfe:=fltL_le (f:=tdB D) (l:=T) hk
  obtain⟨t,ht⟩:∃t,t=T[k]:=⟨_,rfl⟩
  rw[<- ht]at hts hfl hfe ⊢
  unfold tdB at hfe
  rw[List.length_append,length_bitsOf]at hfe
  change ((T.take k).flatMap (tdB D)).length+((cwd D t.sym).length+t.bits)<=(T.flatMap (tdB D)).length at hfe
  refine e_all (.there .here) ?_
  refine nr_ ?_
  refine e_all (.there (.there .here)) ?_
  refine nr_ ?_
  refine e_pu .here fun hkn=>?_
  unfold tdV
  refine e_newA fun g=>?_;refine sg_ ?_
  refine hB _ _ _ (by repeat constructor) ?_
  refine ln_ ?_;refine o_ v_fa0 (ln_ ?_);refine o_ v_fa0 (ln_ ?_);refine o_ v_fa0 (ln_ ?_)
  obtain⟨Mk,hMk⟩:∃Mk,Mk=M1++(T.take k).flatMap (tdB D):=⟨_,rfl⟩
  have hMkl:Mk.length=M1.length+((T.take k).flatMap (tdB D)).length:=by rw[hMk,List.length_append]
  rw[<- hMk]
  refine e_call (hput (L:=Mk) (s:=t.sym) rC rD) (.cons (by repeat constructor) (.cons (by repeat constructor) (.cons (by repeat constructor) .nil))) fun _=>?_
  refine nr_ ?_
  rw[phL_cwd (by omega)]
  refine ln_ ?_;refine o_ v_fa0 (ln_ ?_);refine o_ v_fa0 (ln_ ?_)
  refine c_ (put (l:=Mk++cwd D t.sym) (n:=(t.extra:Int)) (k:=(t.bits:Int))) fun _=>?_
  rw[putL_ok (by omega) hts.2.2.1 (by rw[List.length_append];omega)]
  refine hN _ ?_
  refine .pick (by repeat constructor) (.all ?_)
  refine nr_ ?_
  refine .pick (by repeat constructor) (.pick (by repeat constructor) (.all ?_))
  refine nr_ ?_
  rw[hfl,<- List.append_assoc,<- hMk]
  unfold tdB
  rw[<- List.append_assoc]
  refine .pu (by omega) ?_
  exact im_
 rotate_left
 ·intro d2
  exact e_pu (.there .here) fun h=>h.elim
 intro d2
 rw[hTlen,List.take_length]
 refine e_all (.there .here) ?_
 refine nr_ ?_
 refine e_all (.there (.there .here)) ?_
 refine nr_ ?_
 refine e_pu .here fun _=>?_
 refine e_tk (by repeat constructor) ?_
 refine e_tk (by repeat constructor) ?_
 refine e_rest (M:=[IsW w (M1++T.flatMap (tdB D)),SA,SB]) (F:=F) ?_ ?_
 ·refine .pick (by repeat constructor) ?_
  exact im_
 refine nr_ ?_
 refine rt_ () ?_
 exact .refl
theorem rd_none_ {W:World}{a:Option Addr}{n:Nat}{cs:List Value}{A:HP}(h:RdB W A a n cs)(c:a=none):n=0:=by
 rcases Nat.eq_zero_or_pos n with z|z
 ·exact z
 ·obtain⟨_,_,e,_⟩:=h.at_ z
  rw[c]at e;cases e
structure goodB (x:Blk):Prop where
 g:∀p∈x.1,goodP p
 pn:x.1.length<=30000
 bn:x.2.length<=30258
theorem okBk.good {b:List UInt8}{fr:Nat}{x:Blk}(h:okBk b fr x):goodB x:=⟨gPs_good h.gps,h.pn,h.bn⟩
variable {W:World} {AL AB:HP} {x:Blk} {v:Bv} {level:Int}
theorem dstored {w:Nat}{M:List Bool}(hx:BkOk W AL AB (x,v))(hb:x.2.length<=65535)(hM:M.length+100+8 * x.2.length<=8388608):
  Cn p_ 151 [bvV level (x,v),.pointer (some ⟨w,0,none⟩)] W [IsW w M,AB] (fun _:Unit=> .tuple #[]) (fun _=>[IsW w (stoX M x),AB]):=by
 have hl:=length_pad M
 have hp:(pk (padTo8 M++bitsOf x.2.length 16++bitsOf (65535-x.2.length) 16)).length<=(M.length+7) / 8+4:=by
  rw[length_pk];simp only[List.length_append,length_bitsOf];omega
 have h8:(padTo8 M++bitsOf x.2.length 16++bitsOf (65535-x.2.length) 16).length%8=0:=by
  simp only[List.length_append,length_bitsOf];omega
 have hr:rawL (padTo8 M++bitsOf x.2.length 16++bitsOf (65535-x.2.length) 16) x.2=stoX M x:=by
  unfold rawL rawR
  rw[if_neg (show ¬1048576<_ by omega),if_pos rfl]
  unfold stoX
  congr 1
  unfold padTo8 at h8 ⊢
  rw[h8]
  simp
 obtain⟨⟨la,lc⟩,⟨ba,bc⟩⟩:=v
 unfold bvV
 (try dsimp only)
 (refine Shp.cn (Sg.g_ Tryz.call151 Tryz.func151) fun F=>?_;simp only[ca_,na_])
 refine e_boxA fun b2=>?_
 refine c_ (align (l:=M)) fun _=>?_
 refine o_ v_fa0 (ln_ ?_);refine o_ v_len (c_ (put (l:=padTo8 M) (n:=(x.2.length:Int)) (k:=16)) fun _=>?_)
 rw[putL_i (e:=x.2.length) (k:=16) (j:=16) rfl rfl (by omega) (by omega) (by omega)]
 refine o_ v_fa0 (ln_ ?_);refine o_ v_len (sb_ ?_)
 refine c_ (put (l:=padTo8 M++bitsOf x.2.length 16) (n:=65535-(x.2.length:Int)) (k:=16)) fun _=>?_
 rw[putL_i (e:=65535-x.2.length) (k:=16) (j:=16) (by omega) rfl (by omega) (by omega) (by rw[List.length_append,length_bitsOf];omega)]
 refine o_ v_fa0 (ln_ ?_)
 refine e_call (raw (l:=padTo8 M++bitsOf x.2.length 16++bitsOf (65535-x.2.length) 16) (cap:=bc) hx.rb (rd_none_ hx.rb) (by omega)) (.cons (by repeat constructor) (.cons (by repeat constructor) .nil)) fun _=>?_
 refine nr_ ?_
 rw[hr]
 refine rt_ () ?_
 exact im_
theorem dfixed {w:Nat}{M:List Bool}(hx:BkOk W AL AB (x,v))(hg:goodB x)(hM:M.length+(fixX x).length<=8388608):
  Cn p_ 152 [bvV level (x,v),.pointer (some ⟨w,0,none⟩)] W [IsW w M,AL] (fun _:Unit=> .tuple #[]) (fun _=>[IsW w (M++fixX x),AL]):=by
 obtain⟨⟨la,lc⟩,⟨ba,bc⟩⟩:=v
 have hpn:=hg.pn
 unfold fixX at hM ⊢
 obtain⟨A5,hA5⟩:∃A5,A5=litL:=⟨_,rfl⟩
 obtain⟨B5,hB5⟩:∃B5,B5=dstL:=⟨_,rfl⟩
 have l1:A5.length<=1000:=by rw[hA5,lit_len];omega
 have l2:B5.length<=1000:=by rw[hB5,dst_len];omega
 unfold bvV
 (try dsimp only)
 (refine Shp.cn (Sg.g_ Tryz.call152 Tryz.func152 (an:={drs:=[(2,.ofL [(0,3),(1,1),(3,2),(5,2),(2,0),(4,0),(6,0),(7,0)])]}) (os:=[(2,[(2,[0]),(4,[0]),(6,[0])])])) fun F=>?_;simp only[ca_,na_])
 rw[<- hA5,<- hB5]at hM ⊢
 refine e_boxA fun b2=>?_
 have hF:=fixedL (W:=W)
 rw[<- hA5,<- hB5]at hF
 refine c_ hF fun _=>?_
 rename_i q
 obtain⟨⟨a1,c1⟩,⟨a2,c2⟩⟩:=q
 (try dsimp only)
 refine xt_ ?_;refine xt_ ?_;refine e_drS ?_;(((refine' e_stD (v_ldAgg ?hn) ?hi ?_);(case hi=>exact .pick (by repeat constructor) .nil);(case hn=>rfl)))
 refine e_slfacts .here fun _ _ _ h1=>?_
 refine e_slfacts (.there .here) fun _ _ _ h2=>?_
 have r1:RdB W (Sl 1 3 a1 c1 A5.length (A5.map I)) a1 A5.length (A5.map I):=rd_sl (by rw[List.length_map]) h1
 have r2:RdB W (Sl 1 3 a2 c2 B5.length (B5.map I)) a2 B5.length (B5.map I):=rd_sl (by rw[List.length_map]) h2
 refine e_call (newSet (cap:=c1) r1 (by omega)) (.cons (by repeat constructor) .nil) fun q1=>?_
 refine nr_ ?_
 refine ob_ ?_
 refine e_call (newSet (cap:=c2) r2 (by omega)) (.cons (by repeat constructor) .nil) fun q2=>?_
 refine nr_ ?_
 refine ob_ ?_
 refine c_ (into (w:=w)) fun _=>?_
 rename_i g
 refine ob_ ?_
 refine e_imp (M:=Put2 A5 B5 ((a1,c1),q1) ((a2,c2),q2) w g M []::AL::pt b2 (.cells #[.slice la x.1.length lc,.slice ba x.2.length bc,.int .i64 level] 162)::F) ?_ ?_
 ·unfold Put2 IsSet
  refine .all ?_
  refine nr_ ?_
  rw[List.flatMap_nil,List.append_nil]
  refine .pick (by repeat constructor) (.all ?_)
  refine nr_ ?_
  refine .pick (by repeat constructor) (.pick (by repeat constructor) (.all ?_))
  refine nr_ ?_
  exact im_
 refine e_call (symbols_ (f:=227) (cap:=[.pointer (some ⟨g,0,none⟩)]) (J:=Put2 A5 B5 ((a1,c1),q1) ((a2,c2),q2) w g M) (va:=sv A5 ((a1,c1),q1)) (vb:=sv B5 ((a2,c2),q2)) (ps:=x.1) hx.rl (by omega) hg.g
  (fun d e r h=>into1 (emis_good hg.g e (by rw[h];simp)) (by have:=emis_cut (la:=A5) (lb:=B5) h;omega))) (.cons (by repeat constructor) (.cons (by repeat constructor) .nil)) fun _=>?_
 refine nr_ ?_
 refine e_all (M:=[IsW w (M++(emis x.1).flatMap (emB A5 B5)),IsSet A5 ((a1,c1),q1),IsSet B5 ((a2,c2),q2),pt g (.cells #[.pointer (some ⟨w,0,none⟩)] 156)]) (.there .here) ?_
 refine nr_ ?_
 rw[emis_bits]
 refine rt_ () ?_
 exact im_
theorem ddynamic {w:Nat}{M:List Bool}(hx:BkOk W AL AB (x,v))(hg:goodB x)(hM:M.length+(dynX x).length<=8388608):
  Cn p_ 153 [bvV level (x,v),.pointer (some ⟨w,0,none⟩)] W [IsW w M,AL] (fun _:Unit=> .tuple #[]) (fun _=>[IsW w (M++dynX x),AL]):=by
 obtain⟨⟨la,lc⟩,⟨ba,bc⟩⟩:=v
 have hpn:=hg.pn
 obtain⟨l1,l2⟩:=own_len (ps:=x.1) (by omega)
 have v1:=lenV_b15 (frqA x.1) 15
 have v2:=lenV_b15 (frqB x.1) 15
 change ∀z∈ownA x.1,0<=z/\z<=15 at v1
 change ∀z∈ownB x.1,0<=z/\z<=15 at v2
 have hdx:dynX x=hdX (ownA x.1) (ownB x.1)++encX (ownA x.1) (ownB x.1) x.1:=rfl
 rw[hdx,List.length_append]at hM
 rw[hdx,<- List.append_assoc]
 unfold bvV
 (try dsimp only)
 (refine Shp.cn (Sg.g_ Tryz.call153 Tryz.func153 (an:={drs:=[(3,.ofL [(0,3),(1,3),(2,3),(3,1),(4,0),(5,0)])]}) (os:=[(3,[(4,[2,1,0])])])) fun F=>?_;simp only[ca_,na_])
 have hO:=own (W:=W) (pc:=lc) (ba:=ba) (bn:=x.2.length) (bc:=bc) (level:=level) (ps:=x.1) hx.rl (by omega) hg.g
 (try dsimp only at hO)
 clear hdx
 generalize ownA x.1=A5 at *
 generalize ownB x.1=B5 at *
 refine e_boxA fun b2=>?_
 refine lg_ ?_
 refine c_ hO fun _=>?_
 rename_i q
 obtain⟨qa,qb⟩:=q
 (try dsimp only)
 refine o_ (v_ext (v:=setV (sv A5 qa)) rfl) ?_
 refine o_ (v_ext (v:=setV (sv B5 qb)) rfl) ?_
 unfold setV
 (try dsimp only)
 refine e_newA fun g=>?_;refine e_newA fun g=>?_;refine sg_ ?_;refine sg_ ?_;refine lg_ ?_;refine lg_ ?_
 refine e_call (head (w:=w) (L:=M) (qa:=qa) (qb:=qb) v1 v2 l1 l2 (by omega)) (.cons (by repeat constructor) (.cons (by repeat constructor) (.cons (by repeat constructor) .nil))) fun _=>?_
 refine nr_ ?_
 refine e_drS ?_;(((refine' e_stD (v_ldAgg ?hn) ?hi ?_);(case hi=>exact .pick (by repeat constructor) .nil);(case hn=>rfl)));(((refine' e_stD (v_ldAgg ?hn) ?hi ?_);(case hi=>exact .pick (by repeat constructor) .nil);(case hn=>rfl)));(((refine' e_stD (v_ldAgg ?hn) ?hi ?_);(case hi=>exact .pick (by repeat constructor) .nil);(case hn=>rfl)))
 refine c_ (into (w:=w)) fun _=>?_
 rename_i g2
 refine ob_ ?_;refine ob_ ?_;refine ob_ ?_
 refine e_imp (M:=Put2 A5 B5 qa qb w g2 (M++hdX A5 B5) []::AL::F) ?_ ?_
 ·unfold Put2
  refine .all ?_
  refine nr_ ?_
  rw[List.flatMap_nil,List.append_nil]
  exact im_
 refine e_call (symbols_ (f:=227) (cap:=[.pointer (some ⟨g2,0,none⟩)]) (J:=Put2 A5 B5 qa qb w g2 (M++hdX A5 B5)) (va:=sv A5 qa) (vb:=sv B5 qb) (ps:=x.1) hx.rl (by omega) hg.g
  (fun d e r h=>into1 (emis_good hg.g e (by rw[h];simp)) (by have:=emis_cut (la:=A5) (lb:=B5) h;rw[List.length_append];omega))) (.cons (by repeat constructor) (.cons (by repeat constructor) .nil)) fun _=>?_
 refine nr_ ?_
 refine e_all (M:=[IsW w ((M++hdX A5 B5)++(emis x.1).flatMap (emB A5 B5)),IsSet A5 qa,IsSet B5 qb,pt g2 (.cells #[.pointer (some ⟨w,0,none⟩)] 156)]) (.there .here) ?_
 refine nr_ ?_
 rw[emis_bits]
 refine rt_ () ?_
 exact im_
end Go.Proofs.YtndojgomlkpeaaaGreatDoor.IF
namespace Go.Proofs.YtndojgomlkpeaaaGreatDoor.IF
open Go Go.Proofs Go.RowKit Sh Sl T HM HF B M
variable {W:World} {AL AB:HP} {x:Blk} {v:Bv} {level:Int}
def wayF (k:Nat):FuncId:=if k=0 then 151 else if k=1 then 152 else 153
theorem dway {k w:Nat}{M:List Bool}(hx:BkOk W AL AB (x,v))(hg:goodB x)(hM:M.length<=6500000):
  Cn p_ (wayF k) [bvV level (x,v),.pointer (some ⟨w,0,none⟩)] W [IsW w M,AL,AB] (fun _:Unit=> .tuple #[]) (fun _=>[IsW w (wayX k M x),AL,AB]):=by
 have hpn:=hg.pn
 have hbn:=hg.bn
 unfold wayF wayX
 by_cases h0:k=0
 ·rw[if_pos h0,if_pos h0]
  exact Cn.frame (R:=[AL]) (dstored (level:=level) (w:=w) (M:=M) hx (by omega) (by omega)) (fun F=>e_sat im_) (fun _ F=>e_sat im_)
 ·rw[if_neg h0,if_neg h0]
  by_cases h1:k=1
  ·rw[if_pos h1,if_pos h1]
   have:=fixX_le (x:=x) hg.g hpn
   exact Cn.frame (R:=[AB]) (dfixed (level:=level) (w:=w) (M:=M) hx hg (by omega)) (fun F=>e_sat im_) (fun _ F=>e_sat im_)
  ·rw[if_neg h1,if_neg h1]
   have:=dynX_le (x:=x) hg.g hpn
   exact Cn.frame (R:=[AB]) (ddynamic (level:=level) (w:=w) (M:=M) hx hg (by omega)) (fun F=>e_sat im_) (fun _ F=>e_sat im_)
def sizX (k n:Nat)(x:Blk):Nat:=if k=0 then stoN n x else if k=1 then 3+(fixX x).length else 3+(dynX x).length
theorem wayX_len (k n:Nat)(x:Blk):(wayX k (bitsOf 0 (n%8)++bitsOf 0 3) x).length=n%8+sizX k n x:=by
 unfold wayX sizX
 split
 ·rw[stoX_len]
  simp only[List.length_append,length_bitsOf]
  unfold stoN
  omega
 ·split
  ·simp only[List.length_append,length_bitsOf];omega
  ·simp only[List.length_append,length_bitsOf];omega
theorem sizX_le (k n:Nat)(hg:goodB x):sizX k n x<=1500100:=by
 have h1:=fixX_le (x:=x) hg.g hg.pn
 have h2:=dynX_le (x:=x) hg.g hg.pn
 have h3:=hg.bn
 unfold sizX
 split
 ·unfold stoN;omega
 ·split <;> omega
theorem dsize {k n:Nat}(hx:BkOk W AL AB (x,v))(hg:goodB x)(hn:n<=1099511627776):
  Cn p_ 154 [bvV level (x,v),fn (wayF k),.int .i64 (n:Int)] W [AL,AB] (fun _:Unit=> .int .i64 (sizX k n x:Int)) (fun _=>[AL,AB]):=by
 have hlen:=wayX_len k n x
 have hle:=sizX_le k n hg
 have hw:=fun w=>dway (k:=k) (w:=w) (level:=level) (M:=bitsOf 0 (n%8)++bitsOf 0 3) hx hg (by simp only[List.length_append,length_bitsOf];omega)
 obtain⟨⟨la,lc⟩,⟨ba,bc⟩⟩:=v
 unfold bvV at hw ⊢
 (try dsimp only at hw)
 (try dsimp only)
 (refine Shp.cn (Sg.g_ Tryz.call154 Tryz.func154) fun F=>?_;simp only[ca_,na_])
 refine e_boxA fun b3=>?_
 refine c_ newWriter fun _=>?_
 rename_i w
 (((refine o_ (v_rem ?h1 ?h2) ?_);(case h1=>omega);(case h2=>omega)))
 have hmod:(n:Int)%8=((n%8:Nat):Int):=by omega
 refine c_ (put (l:=[]) (n:=0) (k:=(n:Int)%8)) fun _=>?_
 rw[putL_i (n:=0) (e:=0) (k:=(n:Int)%8) (j:=n%8) rfl hmod (by omega) (Nat.two_pow_pos _) (by simp only[List.length_nil];omega),List.nil_append]
 refine c_ (put (l:=bitsOf 0 (n%8)) (n:=0) (k:=3)) fun _=>?_
 rw[putL_i (n:=0) (e:=0) (k:=3) (j:=3) rfl rfl (by omega) (by omega) (by rw[length_bitsOf];omega)]
 refine lg_ ?_
 refine e_call (hw w) (.cons (by repeat constructor) (.cons (by repeat constructor) (.cons (by repeat constructor) .nil))) fun _=>?_
 refine nr_ ?_
 refine c_ (Go.Proofs.YtndojgomlkpeaaaGreatDoor.B.bits (l:=wayX k (bitsOf 0 (n%8)++bitsOf 0 3) x)) fun _=>?_
 rw[hlen]
 (((refine o_ (v_rem ?h1 ?h2) ?_);(case h1=>omega);(case h2=>omega)));refine sb_ ?_
 rw[show((n%8+sizX k n x:Nat):Int)-(n:Int)%8=(sizX k n x:Int) by omega]
 refine rt_ () ?_
 exact im_
theorem dput {w last:Nat}{L:List Bool}(hx:BkOk W AL AB (x,v))(hg:goodB x)(hl:last<=1)(hL:L.length<=6000000):
  Cn p_ 112 [bvV level (x,v),.pointer (some ⟨w,0,none⟩),.int .i64 (last:Int)] W [IsW w L,AL,AB] (fun _:Unit=> .tuple #[]) (fun _=>[IsW w (putX level L last x),AL,AB]):=by
 have hs:=fun k=>dsize (k:=k) (n:=L.length) (level:=level) hx hg (by omega)
 have hsl:=fun k=>sizX_le (x:=x) k L.length hg
 have hb2:=best_le2 L.length level x
 have hpX:putX level L last x=wayX (best L.length level x) (L++bitsOf last 1++bitsOf (best L.length level x) 2) x:=rfl
 have hw:=dway (k:=best L.length level x) (w:=w) (level:=level) (M:=L++bitsOf last 1++bitsOf (best L.length level x) 2) hx hg (by simp only[List.length_append,length_bitsOf];omega)
 rw[hpX]
 have hbd:best L.length level x=if ¬0<level then 0 else if sizX 2 L.length x<(if sizX 1 L.length x<sizX 0 L.length x then sizX 1 L.length x else sizX 0 L.length x)then 2 else if sizX 1 L.length x<sizX 0 L.length x then 1 else 0:=rfl
 obtain⟨bst_,hbst⟩:∃bst_,bst_=best L.length level x:=⟨_,rfl⟩
 rw[<- hbst]at hb2 hw hbd ⊢
 obtain⟨⟨la,lc⟩,⟨ba,bc⟩⟩:=v
 unfold bvV at hs hw ⊢
 (try dsimp only at hs hw)
 (try dsimp only)
 (refine Shp.cn (Sg.g_ Tryz.call112 Tryz.func112 (an:={cuts:=[(12,[7])],loops:=[(6,[7,8,24])],drs:=[(4,.ofL [(0,3),(1,3),(2,3),(3,1),(4,0),(5,0),(6,1)]),(8,.ofL [(0,3),(1,2),(2,1),(3,0),(4,0),(5,1)]),(14,.ofL [(0,1),(1,1),(2,1),(3,1),(4,1),(5,0)])]}) (os:=[(4,[(4,[2,1,0])]),(8,[(3,[0])])])) fun F=>?_;simp only[ca_,na_])
 refine e_boxA fun b3=>?_
 refine o_ v_rv ?_;refine e_newA fun g=>?_;refine sg_ ?_
 rename Nat=>bw
 obtain⟨s0,hs0⟩:∃s0,s0=sizX 0 L.length x:=⟨_,rfl⟩
 obtain⟨s1,hs1⟩:∃s1,s1=sizX 1 L.length x:=⟨_,rfl⟩
 obtain⟨s2,hs2⟩:∃s2,s2=sizX 2 L.length x:=⟨_,rfl⟩
 have hle0:=hsl 0
 have hle1:=hsl 1
 have hle2:=hsl 2
 have hz0:=hs 0
 have hz1:=hs 1
 have hz2:=hs 2
 rw[<- hs0]at hbd hle0 hz0
 rw[<- hs1]at hbd hle1 hz1
 rw[<- hs2]at hbd hle2 hz2
 refine e_imp (M:=pt bw (.cells #[fn (wayF 0),fn (wayF 1),fn (wayF 2)] 212)::pt b3 (.cells #[.slice la x.1.length lc,.slice ba x.2.length bc,.int .i64 level] 162)::IsW w L::AL::AB::F) .refl ?_
 refine e_cut1 (fun z=>pu (z= .int .i64 (bst_:Int))::pt bw (.cells #[fn (wayF 0),fn (wayF 1),fn (wayF 2)] 212)::pt b3 (.cells #[.slice la x.1.length lc,.slice ba x.2.length bc,.int .i64 level] 162)::IsW w L::AL::AB::F) ?_ ?_
 rotate_left
 ·(refine o_ v_fa0 ?_);refine ln_ ?_
  refine o_ v_gtr ?_
  by_cases hlv:0<level
  rotate_left
  ·rw[dF_ hlv]
   rw[if_pos hlv]at hbd
   refine e_condF (e_sat (.pu (by rw[hbd];rfl) ?_))
   exact im_
  rw[dT_ hlv]
  rw[if_neg (fun h=>h hlv)]at hbd
  refine e_condT (e_drS ?_);(((refine' e_stD (v_ldAgg ?hn) ?hi ?_);(case hi=>exact .pick (by repeat constructor) .nil);(case hn=>rfl)))
  refine e_stD (v_iaA 0 rfl (by omega)) .nil ?_
  (((refine' e_stD (v_ldN ?hc) ?hi ?_);(case hi=>exact .pick (by repeat constructor) .nil);(case hc=>repeat constructor)))
  refine c_ (Go.Proofs.YtndojgomlkpeaaaGreatDoor.B.bits (l:=L)) fun _=>?_
  refine ob_ ?_;refine ob_ ?_;refine ob_ ?_
  refine e_call hz0 (.cons (by repeat constructor) (.cons (by repeat constructor) .nil)) fun _=>?_
  refine nr_ ?_
  refine o_ (v_slA (l:=1) rfl (by omega)) ?_
  refine o_ v_len (e_loop3 (fun m y z u=>pu (∃i:Nat,m+i=2/\u= .int .i64 (i:Int)/\((i=0/\y= .int .i64 0/\z= .int .i64 (s0:Int))\/(i=1/\y= .int .i64 (if s1<s0 then 1 else 0)/\z= .int .i64 ((if s1<s0 then s1 else s0:Nat):Int))\/(i=2/\y= .int .i64 (bst_:Int))))::pt bw (.cells #[fn (wayF 0),fn (wayF 1),fn (wayF 2)] 212)::pt b3 (.cells #[.slice la x.1.length lc,.slice ba x.2.length bc,.int .i64 level] 162)::IsW w L::AL::AB::F) 2 ?_ ?_)
  ·refine .pu ⟨0,rfl,rfl,.inl ⟨rfl,rfl,rfl⟩⟩ ?_
   exact im_
  intro m ds y z u
  refine e_pu .here fun hi=>?_
  obtain⟨i,hmi,rfl,hi⟩:=hi
  refine o_ v_lss ?_
  rcases hi with ⟨rfl,rfl,rfl⟩|⟨rfl,rfl,rfl⟩|⟨rfl,rfl⟩
  ·rw[dT_ (by decide)]
   refine e_condT (o_ (v_ia1 0 rfl (by omega)) ?_)
   refine ln_ ?_;refine e_drS ?_;(((refine' e_stD (v_ldAgg ?hn) ?hi ?_);(case hi=>exact .pick (by repeat constructor) .nil);(case hn=>rfl)))
   refine c_ (Go.Proofs.YtndojgomlkpeaaaGreatDoor.B.bits (l:=L)) fun _=>?_
   refine ob_ ?_
   refine e_call hz1 (.cons (by repeat constructor) (.cons (by repeat constructor) .nil)) fun _=>?_
   refine nr_ ?_
   refine o_ v_lss ?_
   by_cases hc:(s1:Int)<(s0:Int)
   ·rw[dT_ hc]
    refine e_condT (ad_ ?_);refine ad_ ?_
    refine e_next3 (m-1) (by omega) (.pu ⟨1,by omega,rfl,.inr (.inl ⟨rfl,?_,?_⟩)⟩ ?_)
    ·rw[if_pos (by omega)];rfl
    ·rw[if_pos (by omega)]
    exact im_
   ·rw[dF_ hc]
    refine e_condF (ad_ ?_)
    refine e_next3 (m-1) (by omega) (.pu ⟨1,by omega,rfl,.inr (.inl ⟨rfl,?_,?_⟩)⟩ ?_)
    ·rw[if_neg (by omega)]
    ·rw[if_neg (by omega)]
    exact im_
  ·rw[dT_ (by decide)]
   refine e_condT (o_ (v_ia1 1 rfl (by omega)) ?_)
   refine ln_ ?_;refine e_drS ?_;(((refine' e_stD (v_ldAgg ?hn) ?hi ?_);(case hi=>exact .pick (by repeat constructor) .nil);(case hn=>rfl)))
   refine c_ (Go.Proofs.YtndojgomlkpeaaaGreatDoor.B.bits (l:=L)) fun _=>?_
   refine ob_ ?_
   refine e_call hz2 (.cons (by repeat constructor) (.cons (by repeat constructor) .nil)) fun _=>?_
   refine nr_ ?_
   refine o_ v_lss ?_
   by_cases hc:(s2:Int)<((if s1<s0 then s1 else s0:Nat):Int)
   ·rw[dT_ hc]
    rw[if_pos (by exact_mod_cast hc)]at hbd
    refine e_condT (ad_ ?_);refine ad_ ?_
    refine e_next3 (m-1) (by omega) (.pu ⟨2,by omega,rfl,.inr (.inr ⟨rfl,?_⟩)⟩ ?_)
    ·rw[hbd];rfl
    exact im_
   ·rw[dF_ hc]
    rw[if_neg (fun h=>hc (by exact_mod_cast h))]at hbd
    refine e_condF (ad_ ?_)
    refine e_next3 (m-1) (by omega) (.pu ⟨2,by omega,rfl,.inr (.inr ⟨rfl,?_⟩)⟩ ?_)
    ·rw[hbd];split <;> rfl
    exact im_
  ·rw[dF_ (by decide)]
   refine e_condF (e_sat (.pu rfl ?_))
   exact im_
 intro ds z
 refine e_pu .here fun hz=>?_
 subst hz
 refine c_ (put (l:=L) (n:=(last:Int)) (k:=1)) fun _=>?_
 rw[putL_i (n:=(last:Int)) (e:=last) (k:=1) (j:=1) rfl rfl (by omega) (by omega) (by omega)]
 refine c_ (put (l:=L++bitsOf last 1) (n:=(bst_:Int)) (k:=2)) fun _=>?_
 rw[putL_i (n:=(bst_:Int)) (e:=bst_) (k:=2) (j:=2) rfl rfl (by omega) (by omega) (by rw[List.length_append,length_bitsOf];omega)]
 refine e_drS (t_ (v_iaA bst_ rfl (by omega)) ?_)
 have hld:RunV p_ W [pt bw (.cells #[fn (wayF 0),fn (wayF 1),fn (wayF 2)] 212)] (sLoad 210 (.pointer (some ⟨bw,0+bst_ * 1,none⟩))) (fn (wayF bst_)):=by
  rcases(show bst_=0\/bst_=1\/bst_=2 by omega)with rfl|rfl|rfl <;> exact v_ld rfl
 refine p_st hld ?_
 (((refine' e_stS (v_ldAgg ?hn) ?hi ?_);(case hi=>exact .pick (by repeat constructor) .nil);(case hn=>rfl)))
 refine e_call hw (.cons (by repeat constructor) (.cons (by repeat constructor) (.cons (by repeat constructor) .nil))) fun _=>?_
 refine rt_ () ?_
 exact im_
end Go.Proofs.YtndojgomlkpeaaaGreatDoor.IF
namespace Go.Proofs.YtndojgomlkpeaaaGreatDoor.IF
open Go Go.Proofs Go.RowKit Sh Sl T HM HF B M
theorem bv_get {level:Int}:∀ {X:List (Blk × Bv)} {i j:Nat} (h:i<X.length),j<3->(X.flatMap (bvC level))[i * 3+j]? =(bvC level X[i])[j]?
 |y::X,0,j,h,hj=>by
  rw[List.flatMap_cons,List.getElem?_append_left (by rw[bv_len];omega)]
  simp
 |y::X,i+1,j,h,hj=>by
  rw[List.flatMap_cons,List.getElem?_append_right (by rw[bv_len];omega),bv_len,show(i+1) * 3+j-3=i * 3+j by omega]
  exact bv_get (by simpa using h) hj
theorem bvs_len (level:Int)(X:List (Blk × Bv)):(X.flatMap (bvC level)).length=X.length * 3:=by
 induction X with
 |nil=>rfl
 |cons y X ih=>rw[List.flatMap_cons,List.length_append,ih,bv_len,List.length_cons];omega
theorem puts0_nil (level:Int)(L:List Bool):puts0 level L []=L:=rfl
theorem puts0_cons (level:Int)(L:List Bool)(x:Blk)(xs:List Blk):puts0 level L (x::xs)=puts0 level (putX level L 0 x) xs:=by unfold puts0;rw[List.foldl_cons]
theorem puts0_snoc (level:Int)(L:List Bool)(xs:List Blk)(x:Blk):puts0 level L (xs++[x])=putX level (puts0 level L xs) 0 x:=by
 unfold puts0;rw[List.foldl_append,List.foldl_cons,List.foldl_nil]
theorem putsX_snoc (level:Int):∀(xs:List Blk) (L:List Bool) (x:Blk),putsX level L (xs++[x])=putX level (puts0 level L xs) 1 x
 |[],L,x=>by rw[List.nil_append,putsX,puts0_nil]
 |y::r,L,x=>by
  have ih:=putsX_snoc level r (putX level L 0 y) x
  rw[puts0_cons,<- ih]
  cases r with
  |nil=>simp only[ca_,na_,putsX]
  |cons z r=>rw[List.cons_append,List.cons_append,putsX]
theorem bytesN_app:∀(xs ys:List Blk),bytesN (xs++ys)=bytesN xs+bytesN ys
 |[],ys=>by simp[bytesN]
 |x::xs,ys=>by rw[List.cons_append,bytesN,bytesN,bytesN_app xs ys];omega
theorem puts0_bnd {b:List UInt8}{level:Int}(hlv:0<=level)(hb:b.length<=524288)(i:Nat):(puts0 level [] ((blksF b level).take i)).length<=6000000:=by
 obtain⟨hG,hn⟩:=blks_G b hlv
 have h1:=puts0_len level ((blksF b level).take i) []
 have h2:=bytesN_G hG
 have h3:=bytesN_app ((blksF b level).take i) ((blksF b level).drop i)
 rw[List.take_append_drop]at h3
 rw[List.length_take]at h1
 simp only[List.length_nil]at h1
 omega
theorem wrong {W:World}{n:Int}:Cn p_ 109 [.int .i64 n] W [] (fun _:Unit=> .bool (decide (n<0\/9<n))) (fun _=>[]):=by
 (refine Shp.cn (Sg.g_ Tryz.call109 Tryz.func109) fun F=>?_;simp only[ca_,na_])
 refine o_ v_lss ?_
 by_cases h:n<0
 ·rw[dT_ h,dT_ (Or.inl h)]
  refine e_gdF1 (e_gdF1 (o_ v_pickT (rt_ () ?_)))
  exact .refl
 ·rw[dF_ h]
  refine e_gdT (e_gdT (o_ v_gtr (o_ v_pickF ?_)))
  rw[show decide (n<0\/9<n)=decide (9<n)from decide_eq_decide.2 ⟨fun x=>x.resolve_left h,.inr⟩]
  refine rt_ () ?_
  exact .refl
def pgX (level:Int)(xs:List Blk)(i:Nat):List Bool:=if i<xs.length then puts0 level [] (xs.take i)else putsX level [] xs
theorem pg_step {level:Int}{xs:List Blk}{i:Nat}(h:i<xs.length):pgX level xs (i+1)=putX level (pgX level xs i) (if i+1=xs.length then 1 else 0) xs[i]:=by
 unfold pgX
 rw[if_pos h]
 by_cases c:i+1=xs.length
 ·rw[if_neg (by omega),if_pos c]
  have e:xs=xs.take i++[xs[i]]:=by rw[<- List.take_succ_eq_append_getElem h,List.take_of_length_le (by omega)]
  conv=>lhs;rw[e]
  exact putsX_snoc _ _ _ _
 ·rw[if_pos (by omega),if_neg c,List.take_succ_eq_append_getElem h,puts0_snoc]
theorem deflate {W:World}{a:Option Addr}{c:Nat}{level:Int}{b:List UInt8}{A:HP}(hA:RdB W A a b.length (b.map Sl.B))(hc:b.length<=c):
  Cn p_ 79 [.slice a b.length c,.int .i64 level] W [A] (fun q:Option Addr × Nat=> .tuple #[.slice q.1 (dflB b level).length q.2,.int .i64 (dflE b level)]) (fun q=>[Sl 1 5 q.1 q.2 (dflB b level).length ((dflB b level).map Sl.B),A]):=by
 have bad:∀(e:Int) (L:List HP),dflE b level=e->e≠0->Ent W (A::L) (fun w=>∃q:Option Addr × Nat,(.tuple #[.slice none 0 0,.int .i64 e]:Value)= .tuple #[.slice q.1 (dflB b level).length q.2,.int .i64 (dflE b level)]/\sat W ([Sl 1 5 q.1 q.2 (dflB b level).length ((dflB b level).map Sl.B),A]++L) w):=by
  intro e L h h0
  have hv:dflB b level=[]:=by unfold dflB;rw[if_neg (by rw[h];exact h0)]
  rw[h,hv]
  refine e_ret (none,0) rfl ?_
  exact imp_nil .refl
 (refine Shp.cn (Sg.g_ Tryz.call79 Tryz.func79 (an:={cuts:=[(13,[10])],loops:=[(8,[24])]})) fun F=>?_;simp only[ca_,na_])
 refine c_ (wrong (n:=level)) fun _=>?_
 by_cases hw:level<0\/9<level
 ·rw[dT_ hw]
  exact e_condT (bad 1 F (by unfold dflE;rw[if_pos hw]) (by decide))
 rw[dF_ hw]
 refine e_condF (o_ v_len (o_ v_gtr ?_))
 by_cases hs:(524288:Int)<(b.length:Int)
 ·rw[dT_ hs]
  exact e_condT (bad 6 F (by unfold dflE;rw[if_neg hw,if_pos (by omega)]) (by decide))
 rw[dF_ hs]
 have hE:dflE b level=0:=by unfold dflE;rw[if_neg hw,if_neg (by omega)]
 have hlv:0<=level:=by omega
 have hbl:b.length<=524288:=by omega
 refine e_condF (c_ newWriter fun _=>?_)
 rename_i w
 refine e_call (dblocks (c:=c) (level:=level) hA hc (by omega) (by omega)) (.cons (by repeat constructor) .nil) fun q=>?_
 obtain⟨⟨xa,xc⟩,⟨pa,pc⟩,X⟩:=q
 refine nr_ ?_
 refine e_pu .here fun hX=>?_
 (try dsimp only at hX)
 (try dsimp only)
 obtain⟨hXf,hXk⟩:=hX
 obtain⟨hG,hn⟩:=blks_G b hlv
 have hXl:X.length=(blksF b level).length:=by rw[<- hXf,List.length_map]
 have hbnd:=puts0_bnd (b:=b) (level:=level) hlv hbl
 have hXb:X.length<=1000:=by omega
 have hne:=blks_ne b level
 have hpos:0<X.length:=by rw[hXl];exact List.length_pos_iff.2 hne
 have hdX:dflX b level=pgX level (blksF b level) X.length:=by unfold pgX dflX;rw[if_neg (by omega)]
 have hdB:dflB b level=pk (dflX b level):=by unfold dflB;rw[if_pos hE]
 refine e_slsome .here hpos fun gx hgx=>?_
 subst hgx
 refine o_ v_len ?_
 obtain⟨AL,hAL⟩:∃AL,AL=Sl 3 209 pa pc (pcsL b level).length ((pcsL b level).flatMap pPz):=⟨_,rfl⟩
 rw[<- hAL]at hXk ⊢
 refine e_loop1 (fun m y=>(ex fun i:Nat=>all [pu (m+i=X.length/\y= .int .i64 (i:Int)),IsW w (pgX level (blksF b level) i)])::Sl 3 162 (some ⟨gx,0,none⟩) xc X.length (X.flatMap (bvC level))::AL::A::F) X.length ?_ ?_
 ·refine .ex 0 (.all ?_)
  refine nr_ ?_
  refine .pu ⟨by omega,rfl⟩ ?_
  rw[show pgX level (blksF b level) 0=[] by unfold pgX;rw[if_pos (by omega)];rfl]
  exact im_
 intro m ds y
 refine e_ex .here fun i=>e_all .here ?_
 refine nr_ ?_
 refine e_pu .here fun hi=>?_
 obtain⟨hmi,rfl⟩:=hi
 refine o_ v_lss ?_
 by_cases hlt:(i:Int)<(X.length:Int)
 ·rw[dT_ hlt]
  have hi:i<X.length:=by omega
  have hib:i<(blksF b level).length:=by omega
  have hk:=hXk _ (List.getElem_mem hi)
  have hx1:X[i].1=(blksF b level)[i]:=by
   have:=List.getElem_map (f:=Prod.fst) (l:=X) (i:=i) (h:=by rw[List.length_map];exact hi)
   rw[<- this]
   congr 1
  obtain⟨fr,hok⟩:=blkG_all hG _ (List.getElem_mem hib)
  have hst:=pg_step (level:=level) hib
  have hLi:(pgX level (blksF b level) i).length<=6000000:=by unfold pgX;rw[if_pos hib];exact hbnd i
  rw[<- hx1]at hok hst
  refine e_condT (o_ (v_ia i (by rfl) hi) ?_)
  have ld:RunV p_ W [Sl 3 162 (some ⟨gx,0,none⟩) xc X.length (X.flatMap (bvC level))] (sLoad 162 (.pointer (some ⟨gx,0+i * 3,none⟩))) (bvV level X[i]):=v_ldRdG (vs:=bvC level X[i]) (rd_slG (bvs_len _ _) (fun _=>⟨gx,rfl⟩)) rfl (fun j hj=>bv_get hi hj)
  refine p_op ld ?_
  obtain⟨⟨x,v⟩,hxv⟩:∃z,z=X[i]:=⟨_,rfl⟩
  rw[<- hxv]at hk hok hst ⊢
  (try dsimp only at hok hst)
  unfold bvV
  refine e_newA fun g=>?_;refine sg_ ?_
  rename Nat=>b9
  refine e_cut1 (fun z=>pu (z= .int .i64 ((if i+1=X.length then 1 else 0:Nat):Int))::pt b9 (.cells #[.slice v.1.1 x.1.length v.1.2,.slice v.2.1 x.2.length v.2.2,.int .i64 level] 162)::IsW w (pgX level (blksF b level) i)::Sl 3 162 (some ⟨gx,0,none⟩) xc X.length (X.flatMap (bvC level))::AL::A::F) ?_ ?_
  rotate_left
  ·(refine o_ v_len ?_);refine sb_ ?_
   refine o_ v_eql ?_
   by_cases hz:(i:Int)=(X.length:Int)-1
   ·rw[dT_ hz]
    refine e_condT (e_sat (.pu (by rw[if_pos (by omega)];rfl) ?_))
    exact im_
   ·rw[dF_ hz]
    refine e_condF (e_sat (.pu (by rw[if_neg (by omega)];rfl) ?_))
    exact im_
  intro ds z
  refine e_pu .here fun hz=>?_
  subst hz
  refine lg_ ?_
  refine e_call (dput (w:=w) (last:=if i+1=X.length then 1 else 0) (L:=pgX level (blksF b level) i) (level:=level) hk (okBk.good hok) (by split <;> omega) hLi) (.cons (by repeat constructor) (.cons (by repeat constructor) (.cons (by repeat constructor) .nil))) fun _=>?_
  refine nr_ ?_
  refine ad_ ?_
  refine e_next1 (m-1) (by omega) (.ex (i+1) (.all ?_))
  refine nr_ ?_
  rw[hst,hXl]
  refine .pu ⟨by omega,by norm_cast⟩ ?_
  exact im_
 ·rw[dF_ hlt]
  have hie:i=X.length:=by omega
  subst hie
  rw[<- hdX]
  refine e_condF (c_ (Go.Proofs.YtndojgomlkpeaaaGreatDoor.B.bytes (l:=dflX b level)) fun _=>?_)
  rename_i q
  rw[hdB,hE]
  refine rt_ q ?_
  exact im_
end Go.Proofs.YtndojgomlkpeaaaGreatDoor.IF
namespace Go.Proofs.YtndojgomlkpeaaaGreatDoor.GZ
open Go Go.Proofs Go.RowKit Sh Sl T IF
theorem v_unx {P:Program}{W:World}{q:IntKind}{a:Int}:RunV P W [] (sUn .xor (.int q a)) (.int q (bitOp .xor q (if q.signed then-1 else q.max) a)):=fun w _=>by
 simp[sUn,Op.unary,Op.intBits,bitOp]
theorem v_inv {P:Program}{W:World}{a:Nat}(h:a<4294967296):RunV P W [] (sUn .xor (.int .u32 (a:Int))) (.int .u32 (inv a:Int)):=by
 have:=v_unx (P:=P) (W:=W) (q:= .u32) (a:=(a:Int))
 unfold inv
 rw[show(if IntKind.u32.signed=true then(-1:Int)else IntKind.u32.max)=((4294967295:Nat):Int)from rfl,xor32 (by decide) h]at this
 exact this
def Un (n:Nat)(f:Nat->Nat):Array Value:=((List.range n).map fun j=>Value.int .u32 (f j:Int)).toArray
theorem Un_size (n:Nat)(f:Nat->Nat):(Un n f).size=n:=by simp[Un]
theorem Un_get {n j:Nat}{f:Nat->Nat}(h:j<n):(Un n f)[j]? =some (.int .u32 (f j:Int)):=by simp[Un,h]
theorem Un_ext {n:Nat}{f:Nat->Nat}{m:Array Value}(hm:m.size=n)(h:∀j,j<n->m[j]? =some (.int .u32 (f j:Int))):Un n f=m:=by
 apply Array.ext_getElem?
 intro j
 by_cases c:j<n
 ·rw[Un_get c,h j c]
 ·rw[Array.getElem?_eq_none (by rw[Un_size];omega),Array.getElem?_eq_none (by omega)]
theorem Un_set {n j:Nat}{f:Nat->Nat}{v:Nat}:(Un n f).setIfInBounds j (.int .u32 (v:Int))=Un n fun i=>if i=j then v else f i:=by
 refine(Un_ext (by simp[Un_size]) fun i hi=>?_).symm
 rw[Array.getElem?_setIfInBounds]
 by_cases c:i=j
 ·subst c;rw[if_pos rfl,if_pos (by rw[Un_size];exact hi),if_pos rfl]
 ·rw[if_neg (fun h=>c h.symm),if_neg c,Un_get hi]
theorem Un_congr {n:Nat}{f g:Nat->Nat}(h:∀j,j<n->f j=g j):Un n f=Un n g:=Un_ext (Un_size n g) fun j hj=>by rw[Un_get hj,h j hj]
theorem Un_one {n:Nat}{f:Nat->Nat}:∀u∈(Un n f).toList,u.oneCell'=true:=fun u hu=>by
 simp only[Un,List.mem_map]at hu
 obtain⟨j,_,rfl⟩:=hu
 rfl
theorem zero256:Tryz.zeroCells190=Un 256 fun _=>0:=by kernel_rfl
theorem table {W:World}:Cn p_ 140 [] W [] (fun _:Unit=> .agg (Un 256 tbl)) (fun _=>[]):=by
 (refine Shp.cn (Sg.g_ Tryz.call140 Tryz.func140 (an:={loops:=[(3,[4]),(7,[3,9])]})) fun F=>?_;simp only[ca_,na_])
 refine e_new (fun w=>Tryz.zeroValue190 w) fun g0=>?_
 refine e_new (fun w=>Tryz.zeroValue190 w) fun g1=>?_
 rw[cells_agg,zero256]
 refine e_loop1 (fun m y=>(ex fun i:Nat=>all [pu (m+i=256/\y= .int .i64 (i:Int)),pt g1 (.cells (Un 256 fun j=>if j<i then tbl j else 0) 190 (0,0))])::pt g0 (.cells (Un 256 fun _=>0) 190 (0,0))::F) 256 ?_ ?_
 ·refine .ex 0 (.all ?_)
  refine nr_ ?_
  rw[Un_congr (f:=fun j=>if j<0 then tbl j else 0) (g:=fun _=>0) (fun j _=>by simp)]
  refine .pu ⟨rfl,rfl⟩ ?_
  exact im_
 intro m ds y
 refine e_ex .here fun i=>e_all .here ?_
 refine nr_ ?_
 refine e_pu .here fun hi=>?_
 obtain⟨hmi,rfl⟩:=hi
 refine o_ v_lss ?_
 by_cases hlt:(i:Int)<256
 ·rw[dT_ hlt]
  refine e_condT (o_ (v_conv (q:= .u32)) ?_)
  rw[wrapu32 (n:=i) (by omega)]
  refine e_loop2 (fun m2 y z=>pu (∃k:Nat,m2+k=8/\y= .int .u32 (stps k i:Int)/\z= .int .i64 (k:Int))::pt g1 (.cells (Un 256 fun j=>if j<i then tbl j else 0) 190 (0,0))::pt g0 (.cells (Un 256 fun _=>0) 190 (0,0))::F) 8 ?_ ?_
  ·refine .pu ⟨0,rfl,rfl,rfl⟩ ?_
   exact im_
  intro m2 ds y z
  refine e_pu .here fun hk=>?_
  obtain⟨k,hmk,rfl,rfl⟩:=hk
  have hs:=stps_lt k (c:=i) (by omega)
  have hsn:=stps_snoc k i
  refine o_ v_lss ?_
  by_cases hlk:(k:Int)<8
  ·rw[dT_ hlk]
   refine e_condT (o_ v_and ?_)
   rw[and1_32 hs]
   refine o_ v_eql ?_
   by_cases hodd:((stps k i%2:Nat):Int)=1
   ·rw[dT_ hodd]
    refine e_condT (o_ (v_shr (by decide)) ?_)
    rw[show(1:Int)=((1:Nat):Int)from rfl,shr32 (by omega)]
    refine o_ v_xor ?_
    rw[show(3988292384:Int)=((3988292384:Nat):Int)from rfl,xor32 (by omega) (by decide)]
    refine ad_ ?_
    refine e_next2 (m2-1) (by omega) (.pu ⟨k+1,by omega,?_,by rfl⟩ ?_)
    ·rw[hsn,stp,if_pos (by omega)];rfl
    exact im_
   ·rw[dF_ hodd]
    refine e_condF (o_ (v_shr (by decide)) ?_)
    rw[show(1:Int)=((1:Nat):Int)from rfl,shr32 (by omega)]
    refine ad_ ?_
    refine e_next2 (m2-1) (by omega) (.pu ⟨k+1,by omega,?_,by rfl⟩ ?_)
    ·rw[hsn,stp,if_neg (by omega)]
    exact im_
  have hk8:k=8:=by omega
  subst hk8
  rw[dF_ hlk]
  refine e_condF (o_ (v_iaA i rfl (by omega)) ?_)
  refine e_st (.here) (by rw[Un_size];omega) ?_
  rw[Un_set,Nat.zero_add,Nat.mul_one]
  refine ad_ ?_
  refine e_next1 (m-1) (by omega) (.ex (i+1) (.all ?_))
  refine nr_ ?_
  rw[Un_congr (f:=fun j=>if j<i+1 then tbl j else 0) (g:=fun j=>if j=i then stps 8 i else if j<i then tbl j else 0) (fun j _=>by
   by_cases c:j=i
   ·subst c;rw[if_pos (by omega),if_pos rfl];exact tbl_eq _
   ·rw[if_neg c]
    by_cases d:j<i
    ·rw[if_pos (by omega),if_pos d]
    ·rw[if_neg (by omega),if_neg d])]
  refine .pu ⟨by omega,by rfl⟩ ?_
  exact im_
 have hi256:i=256:=by omega
 subst hi256
 rw[dF_ hlt,Un_congr (f:=fun j=>if j<256 then tbl j else 0) (g:=tbl) (fun j hj=>if_pos hj)]
 refine e_condF (p_op (v_ldAgg (Un_size _ _)) ?_)
 refine e_stAgg (.there .here) (Un_size _ _) (Un_size _ _) Un_one ?_
 refine p_st (v_resA (Un_size _ _)) ?_
 refine rt_ () ?_
 exact im_
theorem bl_one (l:List UInt8):∀u∈(l.map Sl.B).toArray.toList,u.oneCell'=true:=by
 rw[List.toList_toArray]
 exact B_one
theorem add {W:World}{s:Nat}{a:Option Addr}{c:Nat}{b:List UInt8}{A:HP}(hs:s<4294967296)(hr:RdB W A a b.length (b.map Sl.B))(hb:b.length<=4611686018427387904):
  Cn p_ 104 [.int .u32 (s:Int),.slice a b.length c] W [A] (fun _:Unit=> .int .u32 (addF s b:Int)) (fun _=>[A]):=by
 (refine Shp.cn (Sg.g_ Tryz.call104 Tryz.func104 (an:={loops:=[(4,[6,14])]})) fun F=>?_;simp only[ca_,na_])
 refine c_ table fun _=>?_
 refine e_new (fun w=>Tryz.zeroValue190 w) fun g0=>?_
 rw[cells_agg,zero256]
 refine e_stAgg .here (Un_size _ _) (Un_size _ _) Un_one ?_
 refine o_ (v_inv hs) ?_
 refine o_ v_len (e_loop2 (fun m y z=>pu (∃i:Nat,m+i=b.length/\y= .int .u32 (crcF (inv s) (b.take i):Int)/\z= .int .i64 (i:Int))::pt g0 (.cells (Un 256 tbl) 190 (0,0))::A::F) b.length ?_ ?_)
 ·refine .pu ⟨0,by omega,rfl,rfl⟩ ?_
  exact im_
 intro m ds y z
 refine e_pu .here fun hk=>?_
 obtain⟨i,hmi,rfl,rfl⟩:=hk
 refine o_ v_lss ?_
 by_cases hlt:(i:Int)<(b.length:Int)
 ·rw[dT_ hlt]
  have hi:i<b.length:=by omega
  obtain⟨g,o,rfl,_⟩:=hr.at_ (by omega)
  have hst:crcF (inv s) (b.take (i+1))=tbl ((crcF (inv s) (b.take i)%256) ^^^ b[i].toNat) ^^^ (crcF (inv s) (b.take i) / 256):=by
   rw[List.take_succ_eq_append_getElem hi,crcF_snoc]
  have hcl:=crcF_lt (b.take i) (inv_lt hs)
  obtain⟨C,hC⟩:∃C,C=crcF (inv s) (b.take i):=⟨_,rfl⟩
  rw[<- hC]at hst hcl ⊢
  have hx:=b[i].toNat_lt
  refine e_condT (o_ (v_ia1 i rfl hi) ?_)
  refine p_op (v_ldRd hr (v:= .int .u8 (b[i].toNat:Int)) (B_get hi)) ?_
  refine o_ (v_conv (q:= .u8)) ?_
  rw[wrapu8m]
  refine o_ v_xor ?_
  rw[xor8 (by omega) hx]
  have hxl:=xor_lt8 (a:=C%256) (b:=b[i].toNat) (by omega) hx
  refine o_ (v_iaA _ rfl hxl) ?_
  have hld:(Un 256 tbl)[0+((C%256) ^^^ b[i].toNat) * 1]? =some (.int .u32 (tbl ((C%256) ^^^ b[i].toNat):Int)):=by rw[Nat.zero_add,Nat.mul_one];exact Un_get hxl
  refine p_op (v_ld hld) ?_
  refine o_ (v_shr (by decide)) ?_
  rw[show(8:Int)=((8:Nat):Int)from rfl,shr32 (by omega)]
  refine o_ v_xor ?_
  rw[xor32 (tbl_lt hxl) (by omega),show C / 2^8=C / 256 from rfl,<- hst]
  refine ad_ ?_
  refine e_next2 (m-1) (by omega) (.pu ⟨i+1,by omega,rfl,rfl⟩ ?_)
  exact im_
 have hie:i=b.length:=by omega
 subst hie
 have hcl:=crcF_lt b (inv_lt hs)
 rw[dF_ hlt,List.take_length]
 refine e_condF (o_ (v_inv hcl) ?_)
 refine rt_ () ?_
 exact im_
theorem crc_ {W:World}{a:Option Addr}{c:Nat}{b:List UInt8}{A:HP}(hr:RdB W A a b.length (b.map Sl.B))(hb:b.length<=4611686018427387904):
  Cn p_ 72 [.slice a b.length c] W [A] (fun _:Unit=> .int .u32 (crc b:Int)) (fun _=>[A]):=by
 (refine Shp.cn (Sg.g_ Tryz.call72 Tryz.func72) fun F=>?_;simp only[ca_,na_])
 refine c_ (add (s:=0) (by decide) hr hb) fun _=>?_
 refine rt_ () ?_
 exact .refl
theorem four_ {W:World}{n:Nat}{a:Option Addr}{c:Nat}{b:List UInt8}(hn:n<4294967296)(hb:b.length<=70368744177664):
  Cn p_ 71 [.slice a b.length c,.int .u32 (n:Int)] W [Sl 1 5 a c b.length (b.map Sl.B)] (fun q:Option Addr × Nat=> .slice q.1 (b++four n).length q.2) (fun q=>[Sl 1 5 q.1 q.2 (b++four n).length ((b++four n).map Sl.B)]):=by
 (refine Shp.cn (Sg.g_ Tryz.call71 Tryz.func71) fun F=>?_;simp only[ca_,na_])
 refine o_ (v_conv (q:= .u8)) ?_
 rw[wrapu8m]
 refine o_ (v_shr (by decide)) ?_
 rw[show(8:Int)=((8:Nat):Int)from rfl,shr32 (by omega)]
 refine o_ (v_conv (q:= .u8)) ?_
 rw[wrapu8m]
 refine o_ (v_shr (by decide)) ?_
 rw[show(16:Int)=((16:Nat):Int)from rfl,shr32 (by omega)]
 refine o_ (v_conv (q:= .u8)) ?_
 rw[wrapu8m]
 refine o_ (v_shr (by decide)) ?_
 rw[show(24:Int)=((24:Nat):Int)from rfl,shr32 (by omega)]
 refine o_ (v_conv (q:= .u8)) ?_
 rw[wrapu8m]
 have hf:(four n).map Sl.B=[.int .u8 ((n%256:Nat):Int),.int .u8 ((n / 2^8%256:Nat):Int),.int .u8 ((n / 2^16%256:Nat):Int),.int .u8 ((n / 2^24%256:Nat):Int)]:=by
  unfold four
  simp only[List.map_cons,List.map_nil]
  rw[Go.Proofs.YtndojgomlkpeaaaGreatDoor.M.B_ofNat (by omega),Go.Proofs.YtndojgomlkpeaaaGreatDoor.M.B_ofNat (by omega),Go.Proofs.YtndojgomlkpeaaaGreatDoor.M.B_ofNat (by omega),Go.Proofs.YtndojgomlkpeaaaGreatDoor.M.B_ofNat (by omega)]
 refine e_bslN (vs:=(four n).map Sl.B) rfl (by rw[hf];rfl) (by intro v hv;obtain⟨c,_,rfl⟩:=List.mem_map.1 hv;rfl) (by omega) fun gd=>?_
 refine e_app (m:=4) (news:=(four n).map Sl.B) (.there .here) (src_pt (s:=1) (e':=5) (by kernel_rfl) .here (by rfl) (bl_one (four n))) (by omega) (by omega) fun a2 c2=>?_
 rw[<- List.map_append,show b.length+4=(b++four n).length by rw[List.length_append,show(four n).length=4 from rfl]]
 refine rt_ ((a2,c2)) ?_
 exact im_
theorem head_ {W : World} {n : Int} : Cn p_ 80 [.int .i64 n] W [] (fun q : Option Addr × Nat => .slice q.1 (gzH (n % 4294967296).toNat).length q.2) (fun q => [Sl 1 5 q.1 q.2 (gzH (n % 4294967296).toNat).length ((gzH (n % 4294967296).toNat).map Sl.B)]) := by
 obtain ⟨m, hm⟩ : ∃ m, m = (n % 4294967296).toNat := ⟨_, rfl⟩
 have hml : m < 4294967296 := by omega
 rw [<- hm]
 (refine Shp.cn (Sg.g_ Tryz.call80 Tryz.func80) fun F => ?_; simp only [ca_, na_])
 refine e_bslN (vs := ([31, 139, 8, 0] : List UInt8).map Sl.B) rfl rfl (by intro v hv; obtain ⟨c, _, rfl⟩ := List.mem_map.1 hv; rfl) (by omega) fun g1 => ?_
 refine e_opN (v_conv (q := .u32)) .nil ?_
 rw [wrapu32m, <- hm]
 refine e_own (s := 1) (e := 5) (cs := ([31, 139, 8, 0] : List UInt8).map Sl.B) (n := 4) .here rfl (by decide) ?_
 (refine' e_call (four_ (a := some ⟨g1, 0, none⟩) (c := 4) (b := [31, 139, 8, 0]) hml (by decide)) ?hp fun _ => ?_; (case hp => (repeat (first | exact Picks.nil | (apply Picks.cons; (focus repeat constructor))))); (try simp only [ca_, na_, Bool.not_true, Bool.not_false]))
 rename_i q
 obtain ⟨qa, qc⟩ := q
 (try dsimp only)
 refine e_bslN (vs := ([0, 255] : List UInt8).map Sl.B) rfl rfl (by intro v hv; obtain ⟨c, _, rfl⟩ := List.mem_map.1 hv; rfl) (by omega) fun gd => ?_
 have h8 : (31 :: 139 :: 8 :: 0 :: four m).length = 8 := rfl
 refine e_app (m := 2) (news := ([0, 255] : List UInt8).map Sl.B) (.there .here) (src_pt (s := 1) (e' := 5) (by kernel_rfl) .here (by rfl) (bl_one [0, 255])) (by rw [h8]; omega) (by rw [h8]; omega) fun a2 c2 => ?_
 rw [<- List.map_append, show (31 :: 139 :: 8 :: 0 :: four m).length + 2 = (gzH m).length from rfl, show (31 :: 139 :: 8 :: 0 :: four m) ++ [0, 255] = gzH m from rfl]
 (first | refine e_ret ((a2, c2)) rfl ?_ | refine e_retT ((a2, c2)) ?_)
 (repeat (first | exact .refl | exact .nil | (apply Imp.pick; (focus ((repeat constructor); done))) | refine .drop ?_))
theorem gzH_len (m:Nat):(gzH m).length=10:=rfl
theorem pack {W:World}{a:Option Addr}{c:Nat}{b:List UInt8}{A:HP}{level mtime:Int}(hr:RdB W A a b.length (b.map Sl.B))(hc:b.length<=c)(hb:b.length<=4611686018427387904):
  Cn p_ 50 [.slice a b.length c,.int .i64 level,.int .i64 mtime] W [A] (fun q:Option Addr × Nat=> .tuple #[.slice q.1 (pkB b level mtime).length q.2,.int .i64 (pkE b level mtime)]) (fun q=>[Sl 1 5 q.1 q.2 (pkB b level mtime).length ((pkB b level mtime).map Sl.B),A]):=by
 have bad:∀(e:Int) (L:List HP),pkE b level mtime=e->e≠0->Ent W (A::L) (fun w=>∃q:Option Addr × Nat,(.tuple #[.slice none 0 0,.int .i64 e]:Value)= .tuple #[.slice q.1 (pkB b level mtime).length q.2,.int .i64 (pkE b level mtime)]/\sat W ([Sl 1 5 q.1 q.2 (pkB b level mtime).length ((pkB b level mtime).map Sl.B),A]++L) w):=by
  intro e L h h0
  have hv:pkB b level mtime=[]:=by unfold pkB;rw[if_neg (by rw[h];exact h0)]
  rw[h,hv]
  refine e_ret (none,0) rfl ?_
  exact imp_nil .refl
 (refine Shp.cn (Sg.g_ Tryz.call50 Tryz.func50) fun F=>?_;simp only[ca_,na_])
 refine o_ v_lss ?_
 by_cases h0:mtime<0
 ·rw[dT_ h0]
  exact e_gdF1 (e_gdF1 (o_ v_pickT (e_condT (bad 1 F (by unfold pkE;rw[if_pos (.inl h0)]) (by decide)))))
 rw[dF_ h0]
 refine e_gdT (e_gdT (o_ v_gtr ?_))
 by_cases h1:4294967295<mtime
 ·rw[dT_ h1]
  exact o_ v_pickF (e_condT (bad 1 F (by unfold pkE;rw[if_pos (.inr h1)]) (by decide)))
 rw[dF_ h1]
 have hE:pkE b level mtime=dflE b level:=by unfold pkE;rw[if_neg (by omega)]
 refine o_ v_pickF (e_condF (e_call (deflate (c:=c) (level:=level) hr hc) (.cons (by repeat constructor) .nil) fun q=>?_))
 obtain⟨qa,qc⟩:=q
 refine nr_ ?_
 (try dsimp only)
 refine o_ (v_ext (v:= .slice qa (dflB b level).length qc) rfl) ?_
 refine o_ (v_ext (v:= .int .i64 (dflE b level)) rfl) ?_
 refine o_ v_neq ?_
 by_cases hd:dflE b level=0
 rotate_left
 ·rw[dT_ hd]
  refine e_condT (e_imp (M:=A::F) im_ ?_)
  exact bad _ F hE hd
 rw[dF_ (fun h=>h hd)]
 have hpb:pkB b level mtime=gzH mtime.toNat++dflB b level++gzT b:=by unfold pkB;rw[if_pos (by rw[hE];exact hd)]
 have hbl:=(dflE_0 hd).2.2
 have hdl:=dfl_small hd
 refine e_condF (c_ (head_ (n:=mtime)) fun _=>?_)
 rename_i q2
 obtain⟨ha,hc2⟩:=q2
 (try dsimp only)
 rw[show mtime%4294967296=mtime from Int.emod_eq_of_lt (by omega) (by omega)]
 have hhl:=gzH_len mtime.toNat
 obtain⟨D,hD⟩:∃D,D=dflB b level:=⟨_,rfl⟩
 rw[<- hD]at hdl hpb ⊢
 obtain⟨H0,hH0⟩:∃H0,H0=gzH mtime.toNat:=⟨_,rfl⟩
 rw[<- hH0]at hhl hpb ⊢
 have hDl:D.length<=1048576:=by omega
 clear hdl
 refine e_slfacts (by(repeat constructor):Pick _ (Sl 1 5 qa qc D.length (D.map Sl.B)) _) fun _ g2 g3 g4=>?_
 have hrD:RdB W (Sl 1 5 qa qc D.length (D.map Sl.B)) qa D.length (D.map Sl.B):=rd_sl (by rw[List.length_map]) g4
 refine e_app (m:=D.length) (news:=D.map Sl.B) .here (src_rd (A:=Sl 1 5 qa qc D.length (D.map Sl.B)) (e':=5) (by kernel_rfl) (by repeat constructor) hrD (rd_none_ hrD) B_one) (by omega) (by omega) fun a3 c3=>?_
 rw[<- List.map_append,<- List.length_append]
 refine e_call (crc_ (c:=c) hr hb) (.cons (by repeat constructor) .nil) fun _=>?_
 refine nr_ ?_
 refine c_ (four_ (a:=a3) (c:=c3) (b:=H0++D) (crc_lt b) (by rw[List.length_append];omega)) fun _=>?_
 rename_i q4
 obtain⟨a4,c4⟩:=q4
 (try dsimp only)
 refine o_ v_len (o_ (v_conv (q:= .u32)) ?_)
 rw[wrapu32m,show((b.length:Int)%4294967296).toNat=b.length%4294967296 by omega]
 refine c_ (four_ (a:=a4) (c:=c4) (b:=H0++D++four (crc b)) (n:=b.length%4294967296) (by omega) (by rw[List.length_append,List.length_append];have:(four (crc b)).length=4:=rfl;omega)) fun _=>?_
 rename_i q5
 obtain⟨a5,c5⟩:=q5
 (try dsimp only)
 have hfin:H0++D++four (crc b)++four (b.length%4294967296)=pkB b level mtime:=by rw[hpb];unfold gzT;simp only[List.append_assoc]
 rw[hfin,hE,hd]
 refine rt_ ((a5,c5)) ?_
 exact im_
end Go.Proofs.YtndojgomlkpeaaaGreatDoor.GZ
namespace Go.Proofs.YtndojgomlkpeaaaGreatDoor.FD
open Go Go.Proofs Go.RowKit Sh Sl T IF GZ
theorem wk_take {l:List Fd}{i:Nat}(h:i<l.length):(l.take (i+1)).map wkF++l.drop (i+1)=((l.take i).map wkF++l.drop i).set i (wkF l[i]):=by
 have e:(l.take i).map wkF++l.drop i=(l.take i).map wkF++l[i]::l.drop (i+1):=by rw[List.drop_eq_getElem_cons h]
 have hl:((l.take i).map wkF).length=i:=by rw[List.length_map,List.length_take];omega
 rw[e,List.set_append_right _ _ (by omega),hl,Nat.sub_self,List.take_succ_eq_append_getElem h,List.map_append]
 simp only[List.map_cons,List.map_nil,List.append_assoc,ca_,na_,List.set_cons_zero]
theorem flat_set {l:List Fd}{i:Nat}{n v v':List UInt8}(h:l[i]? =some (n,v)):(l.set i (n,v')).flatMap pFd=(l.flatMap pFd).set (i * 2+1) (txt v'):=by
 induction l generalizing i with
 |nil=>cases h
 |cons x r ih=>
  cases i with
  |zero=>
   simp only[List.getElem?_cons_zero,Option.some.injEq]at h
   subst h
   rfl
  |succ i=>
   simp only[List.getElem?_cons_succ]at h
   have:=ih h
   rw[List.set_cons_succ,List.flatMap_cons,List.flatMap_cons,this]
   obtain⟨a,b⟩:=x
   rw[show(i+1) * 2+1=i * 2+1+1+1 by omega]
   rfl
theorem set_same {l:List Fd}{i:Nat}{x:Fd}(h:l[i]? =some x):l.set i x=l:=by
 induction l generalizing i with
 |nil=>rfl
 |cons y r ih=>
  cases i with
  |zero=>simp only[List.getElem?_cons_zero,Option.some.injEq]at h;subst h;rfl
  |succ i=>simp only[List.getElem?_cons_succ]at h;rw[List.set_cons_succ,ih h]
theorem wk_len {l:List Fd}{i:Nat}(h:i<=l.length):((l.take i).map wkF++l.drop i).length=l.length:=by
 rw[List.length_append,List.length_map,List.length_take,List.length_drop];omega
theorem wk_at {l:List Fd}{i:Nat}(h:i<l.length):((l.take i).map wkF++l.drop i)[i]? =some l[i]:=by
 rw[List.getElem?_append_right (by rw[List.length_map,List.length_take];omega),List.length_map,List.length_take,show i-min i l.length=0 by omega,List.getElem?_drop,Nat.add_zero,List.getElem?_eq_getElem h]
theorem tagF_le (v:List UInt8):(tagF v).1.2.length<=v.length:=by
 unfold tagF
 split
 ·have h1:(tagV v).length<=v.length:=by unfold tagV;split <;> simp
  show(mid (tagV v)).length<=v.length
  unfold mid sub
  simp only[List.length_take,List.length_drop]
  omega
 ·simp
theorem cpack {W : World} [hG : Gp W] {o : Nat} {st level : Int} {X : List Fd} {D : List UInt8} {a ad : Option Addr} {c cd : Nat} {AX AD : HP} (hA : RdF W AX a X) (hX : zF X ≤ 2097152) (hB : RdB W AD ad D.length (D.map Sl.B)) (hc : D.length ≤ cd) (hD : D.length ≤ 4611686018427387904) :
  Cn p_ 33 [.pointer (some ⟨o, 0, none⟩), .int .i64 level] W [pt o (.cells #[.int .i64 st, .slice a X.length c, .slice ad D.length cd] 25), AX, AD]
   (fun _ : (Option Addr × Nat) × (Option Addr × Nat) => .bool (decide (pkE D level 0 = 0)))
   (fun q => if pkE D level 0 = 0 then [pt o (.cells #[.int .i64 st, .slice q.1.1 (pakX X (pkB D level 0)).length q.1.2, .slice q.2.1 (pkB D level 0).length q.2.2] 25), Sl 2 52 q.1.1 q.1.2 (pakX X (pkB D level 0)).length ((pakX X (pkB D level 0)).flatMap pFd), Sl 1 5 q.2.1 q.2.2 (pkB D level 0).length ((pkB D level 0).map Sl.B)]
    else [pt o (.cells #[.int .i64 st, .slice a X.length c, .slice ad D.length cd] 25), AX, AD]) := by
 (refine Shp.cn (Sg.g_ Tryz.call33 Tryz.func33 (an := { loops := [(6, [31])] })) fun F => ?_; simp only [ca_, na_])
 refine e_opN v_nil .nil ?_; refine e_opN v_fa0 .nil ?_; (((refine' e_opN (v_ldN ?hc) ?hi ?_); (case hi => exact .pick (by repeat constructor) .nil); (case hc => repeat constructor)))
 (refine' e_call (pack (c := cd) (level := level) (mtime := 0) hB hc hD) ?hp fun _ => ?_; (case hp => (repeat (first | exact Picks.nil | (apply Picks.cons; (focus repeat constructor))))); (try simp only [ca_, na_, Bool.not_true, Bool.not_false]))
 rename_i q
 obtain ⟨ga, gc⟩ := q
 (try dsimp only)
 refine e_opN (v_ext (v := .slice ga (pkB D level 0).length gc) rfl) .nil ?_
 refine e_opN (v_ext (v := .int .i64 (pkE D level 0)) rfl) .nil ?_
 refine e_opN v_neq .nil ?_
 by_cases hE : pkE D level 0 = 0
 rotate_left
 ·rw [dT_ hE, dF_ hE]
  simp only [if_neg hE]
  refine e_condT ?_
  (first | refine e_ret (((none, 0), (none, 0))) rfl ?_ | refine e_retT (((none, 0), (none, 0))) ?_)
  (repeat (first | exact .refl | exact .nil | (apply Imp.pick; (focus ((repeat constructor); done))) | refine .drop ?_))
 have hgl : (pkB D level 0).length ≤ 1048576 := by
  have h2 : pkB D level 0 = gzH 0 ++ dflB D level ++ gzT D := by unfold pkB; rw [if_pos hE]; rfl
  have h1 : dflE D level = 0 := by unfold pkE at hE; rwa [if_neg (by omega)] at hE
  obtain ⟨h0, _, h3⟩ := dflE_0 h1
  have h4 := dflX_len (b := D) h0
  have h5 := dflB_len h1
  rw [h2, List.length_append, List.length_append, gzH_len]
  have : (gzT D).length = 8 := rfl
  omega
 simp only [if_pos hE]
 rw [dT_ hE, dF_ (fun h => h hE)]
 obtain ⟨G, hG2⟩ : ∃ G, G = pkB D level 0 := ⟨_, rfl⟩
 rw [← hG2] at hgl ⊢
 refine e_condF ?_; refine e_opN v_nil .nil ?_; refine e_opN v_fa0 .nil ?_; (((refine' e_opN (v_ldN ?hc) ?hi ?_); (case hi => exact .pick (by repeat constructor) .nil); (case hc => repeat constructor)))
 refine e_bslN (vs := [txt kCL, txt kAR]) rfl rfl (by intro v hv; simp at hv; rcases hv with rfl | rfl <;> rfl) (by decide) fun gn => ?_
 have hN : RdB W (pt gn (.cells #[txt kCL, txt kAR] 9)) (some ⟨gn, 0, none⟩) [kCL, kAR].length ([kCL, kAR].map txt) := rd_pt (cs := [txt kCL, txt kAR]) rfl
 refine e_call (without (N := [kCL, kAR]) (nc := 2) hA (z_ok (by omega)) hN (by decide) (by decide)) (.cons (by repeat constructor) (.cons (by repeat constructor) .nil)) fun r => ?_
 obtain ⟨wa, wc⟩ := r
 (try simp only [ca_, na_, -eq_self])
 (try dsimp only)
 have hwl := with_len X [kCL, kAR]
 have hzl := z_len X
 have hzw : ∀ f ∈ withF X [kCL, kAR], f.1.length ≤ 2097152 ∧ f.2.length ≤ 2097152 := fun f hf => by
  have := z_mem (List.mem_filter.1 hf).1
  omega
 obtain ⟨Y, hY⟩ : ∃ Y, Y = withF X [kCL, kAR] := ⟨_, rfl⟩
 have hpak : pakX X G = Y.map wkF ++ [(kCE, kGz), (kCL, dig G.length)] := by rw [hY]; rfl
 rw [← hY] at hwl hzw ⊢
 rw [hpak]
 refine e_opN v_len .nil ?_
 refine e_slfacts (by (repeat constructor) : Pick _ (Sl 2 52 wa wc Y.length (Y.flatMap pFd)) _) fun _ _ _ hs => ?_
 refine e_loop1 (fun m y => (ex fun i : Nat => all [pu (m + i = Y.length ∧ y = .int .i64 (i : Int)), Sl 2 52 wa wc Y.length (((Y.take i).map wkF ++ Y.drop i).flatMap pFd)]) :: pt o (.cells #[.int .i64 st, .slice a X.length c, .slice ad D.length cd] 25) :: Sl 1 5 ga gc G.length (G.map Sl.B) :: F) Y.length ?_ ?_
 ·refine .ex 0 (.all ?_)
  (try simp only [ca_, na_, -eq_self])
  refine .pu ⟨rfl, rfl⟩ ?_
  rw [List.take_zero, List.map_nil, List.nil_append, List.drop_zero]
  (repeat (first | exact .refl | exact .nil | (apply Imp.pick; (focus ((repeat constructor); done))) | refine .drop ?_))
 intro m ds y
 refine e_ex .here fun i => e_all .here ?_
 (try simp only [ca_, na_, -eq_self])
 refine e_pu .here fun hi => ?_
 obtain ⟨hmi, rfl⟩ := hi
 refine e_ask v_lss .nil (fun h => ?_) (fun h => ?_)
 ·have hin : i < Y.length := by omega
  obtain ⟨wg, rfl⟩ := hs (by omega)
  have hat := wk_at hin
  have hln := wk_len (Nat.le_of_lt hin)
  have hnx := wk_take hin
  have hvl := hzw _ (List.getElem_mem hin)
  obtain ⟨f, hf⟩ : ∃ f, f = Y[i] := ⟨_, rfl⟩
  rw [← hf] at hat hnx hvl
  obtain ⟨Z, hZ⟩ : ∃ Z, Z = (Y.take i).map wkF ++ Y.drop i := ⟨_, rfl⟩
  rw [← hZ] at hat hnx hln ⊢
  obtain ⟨n, v⟩ := f
  obtain ⟨hnl, hvl⟩ := hvl
  (try dsimp only at hvl hnl)
  refine e_condT ?_
  refine e_opN (v_ia i rfl hin) .nil ?_
  rw [← hln]
  have hiz : i < Z.length := by omega
  have hzi : Z[i] = (n, v) := by rw [List.getElem?_eq_getElem hiz] at hat; exact Option.some.inj hat
  have hld := ld_fdA (W := W) (A := Sl 2 52 (some ⟨wg, 0, none⟩) wc Z.length (Z.flatMap pFd)) (l := Z) (i := i) (g := wg) (o := 0) rdF_sl hiz
  rw [hzi] at hld
  refine e_opN hld (.pick (by repeat constructor) .nil) ?_
  unfold vFd
  refine e_newA fun g => ?_; (((refine' e_stAgg ?hp ?hn ?hv ?h1 ?_); (case hp => (repeat constructor)); (case hn => rfl); (case hv => rfl); (case h1 => (intro u hu; simp at hu; rcases hu with rfl | rfl <;> rfl)))); refine e_opN v_fa0 .nil ?_; (((refine' e_opN (v_ldN ?hc) ?hi ?_); (case hi => exact .pick (by repeat constructor) .nil); (case hc => repeat constructor)))
  refine e_call (parseTag (l := v) (by omega)) .nil fun _ => ?_
  (try simp only [ca_, na_, -eq_self])
  refine e_opN (v_ext (v := vTag (tagF v).1) rfl) .nil ?_
  refine e_opN (v_ext (v := .int .i64 (if (tagF v).2 then 0 else 42)) rfl) .nil ?_
  have htl := tagF_le v
  obtain ⟨⟨⟨tw, tt⟩, tk⟩, ht⟩ : ∃ t, t = tagF v := ⟨_, rfl⟩
  have hwk : wkF (n, v) = if tk && eqlF n kETag then (n, tagT (true, tt)) else (n, v) := by unfold wkF; rw [← ht]
  rw [← ht] at htl ⊢
  (try dsimp only at htl)
  (try dsimp only)
  unfold vTag
  refine e_newA fun g => ?_; (((refine' e_stAgg ?hp ?hn ?hv ?h1 ?_); (case hp => (repeat constructor)); (case hn => rfl); (case hv => rfl); (case h1 => (intro u hu; simp at hu; rcases hu with rfl | rfl <;> rfl))))
  refine e_opN v_eql .nil ?_
  cases tk with
  | false =>
   rw [dF_ (by simp)]
   have hst : (Y.take (i + 1)).map wkF ++ Y.drop (i + 1) = Z := by rw [hnx, hwk, Bool.false_and]; exact set_same hat
   refine e_gdF2 ?_; refine e_gdF2 ?_; refine e_gdF2 ?_; refine e_opN v_pickF .nil ?_; refine e_condF ?_; (refine e_opN (v_add (by omega) (by omega)) .nil ?_)
   (try refine e_opN (v_add (by omega) (by omega)) .nil ?_)
   refine e_next1 (m - 1) (by omega) (.ex (i + 1) (.all ?_))
   (try simp only [ca_, na_, -eq_self])
   rw [hst]
   refine .pu ⟨by omega, by norm_cast⟩ ?_
   (repeat (first | exact .refl | exact .nil | (apply Imp.pick; (focus ((repeat constructor); done))) | refine .drop ?_))
  | true =>
   rw [dT_ (by simp)]
   refine e_gdT ?_; refine e_opN v_fa0 .nil ?_; refine e_gdT ?_; (((refine' e_opN (v_ldN ?hc) ?hi ?_); (case hi => exact .pick (by repeat constructor) .nil); (case hc => repeat constructor))); refine e_gdT ?_
   refine e_call (equal (a := n) (b := kETag) (by omega) (by decide)) .nil fun _ => ?_
   (try simp only [ca_, na_, -eq_self])
   cases he : eqlF n kETag with
   | false =>
    have hst : (Y.take (i + 1)).map wkF ++ Y.drop (i + 1) = Z := by rw [hnx, hwk, he, Bool.and_false]; exact set_same hat
    refine e_opN v_pickT .nil ?_; refine e_condF ?_; (refine e_opN (v_add (by omega) (by omega)) .nil ?_)
    (try refine e_opN (v_add (by omega) (by omega)) .nil ?_)
    refine e_next1 (m - 1) (by omega) (.ex (i + 1) (.all ?_))
    (try simp only [ca_, na_, -eq_self])
    rw [hst]
    refine .pu ⟨by omega, by norm_cast⟩ ?_
    (repeat (first | exact .refl | exact .nil | (apply Imp.pick; (focus ((repeat constructor); done))) | refine .drop ?_))
   | true =>
    have hst : (Y.take (i + 1)).map wkF ++ Y.drop (i + 1) = Z.set i (n, tagT (true, tt)) := by rw [hnx, hwk, he]; rfl
    have hfl := flat_set (v' := tagT (true, tt)) hat
    have hfll : i * 2 + 1 < (Z.flatMap pFd).length := by rw [flat_len (f := pFd) (s := 2) (fun _ => rfl)]; omega
    refine e_opN v_pickT .nil ?_; refine e_condT ?_; refine e_opN v_fa0 .nil ?_; (((refine' e_stN ?hp ?ho ?_); (case hp => (repeat constructor)); (case ho => repeat constructor))); (((refine' e_opN (v_ldAgg ?hn) ?hi ?_); (case hi => exact .pick (by repeat constructor) .nil); (case hn => rfl)))
    refine e_call (tagText (x := (true, tt)) (by (try dsimp only); omega)) .nil fun _ => ?_
    (try simp only [ca_, na_, -eq_self])
    refine e_opN (v_ia i rfl (by omega)) .nil ?_
    refine e_opN v_fa .nil ?_
    rw [Nat.zero_add]
    refine e_stSl (by repeat constructor) hfll ?_
    refine e_opN (v_add (by omega) (by omega)) .nil ?_
    refine e_next1 (m - 1) (by omega) (.ex (i + 1) (.all ?_))
    (try simp only [ca_, na_, -eq_self])
    rw [hst, hfl]
    refine .pu ⟨by omega, by norm_cast⟩ ?_
    (repeat (first | exact .refl | exact .nil | (apply Imp.pick; (focus ((repeat constructor); done))) | refine .drop ?_))
 ·have : i = Y.length := by omega
  subst this
  rw [List.take_length, List.drop_length, List.append_nil]
  refine e_condF ?_
  refine e_opN v_rv .nil ?_; refine e_opN v_len .nil ?_
  (try refine e_opN v_len .nil ?_)
  (refine' e_call (digits (i := (G.length : Int)) (by omega) (by omega)) ?hp fun _ => ?_; (case hp => (repeat (first | exact Picks.nil | (apply Picks.cons; (focus repeat constructor))))); (try simp only [ca_, na_, Bool.not_true, Bool.not_false]))
  rw [show Y.length = (Y.map wkF).length by rw [List.length_map]]
  obtain ⟨V, hV⟩ : ∃ V, V = Y.map wkF := ⟨_, rfl⟩
  have hVl : V.length = Y.length := by rw [hV, List.length_map]
  rw [← hV]
  refine e_opN v_rv .nil ?_
  refine e_bslS (n := 2) (vs := [vFd (kCE, kGz), vFd (kCL, dig G.length)]) rfl (by decide) rfl (by intro v hv; simp at hv; rcases hv with rfl | rfl <;> rfl) (by decide) fun gb => ?_
  refine e_app (m := 2) (news := pFd (kCE, kGz) ++ pFd (kCL, dig G.length)) (by (repeat constructor) : Pick _ (Sl 2 52 wa wc V.length (V.flatMap pFd)) _) (src_pt (s := 2) (e' := 52) (by kernel_rfl) .here (by rfl) (by intro u hu; simp [vFd, pFd, Value.cells] at hu; rcases hu with rfl | rfl | rfl | rfl <;> rfl)) (by omega) (by omega) fun a' c' => ?_
  rw [show V.length + 2 = (V ++ [(kCE, kGz), (kCL, dig G.length)]).length by simp, show V.flatMap pFd ++ (pFd (kCE, kGz) ++ pFd (kCL, dig G.length)) = (V ++ [(kCE, kGz), (kCL, dig G.length)]).flatMap pFd by simp]
  refine e_opN v_nil .nil ?_; refine e_opN v_fa0 .nil ?_; (((refine' e_stN ?hp ?ho ?_); (case hp => (repeat constructor)); (case ho => repeat constructor))); refine e_opN v_nil .nil ?_; refine e_opN v_fa0 .nil ?_; (((refine' e_stN ?hp ?ho ?_); (case hp => (repeat constructor)); (case ho => repeat constructor)))
  (first | refine e_ret (((a', c'), (ga, gc))) rfl ?_ | refine e_retT (((a', c'), (ga, gc))) ?_)
  (repeat (first | exact .refl | exact .nil | (apply Imp.pick; (focus ((repeat constructor); done))) | refine .drop ?_))
theorem apply1 {W:World}{bl bx:Nat}{level st:Int}{X:List Fd}{D:List UInt8}{ax ad:Option Addr}{cx cd:Nat}{A:HP}(hA:RdF W A ax X)(hX:zF X<=1100000)(hD:D.length<=4611686018427387904):
  Cn p_ 28 [.pointer (some ⟨bl,0,none⟩),.pointer (some ⟨bx,0,none⟩)] W [pt bl (.cells #[.int .i64 level] 3),pt bx (.cells #[.int .i64 st,.slice ax X.length cx,.slice ad D.length cd] 25),A]
   (fun _:Unit=> .bool ((decide (1<=level)&&decide (level<=9))&&fitB st X D)) (fun _=>[pt bl (.cells #[.int .i64 level] 3),pt bx (.cells #[.int .i64 st,.slice ax X.length cx,.slice ad D.length cd] 25),A]):=by
 (refine Shp.cn (Sg.g_ Tryz.call28 Tryz.func28) fun F=>?_;simp only[ca_,na_])
 refine ln_ ?_
 refine o_ v_geq ?_
 by_cases h1:1<=level
 rotate_left
 ·rw[dF_ h1]
  simp only[Bool.false_and]
  refine e_gdF2 (e_gdF2 (o_ v_pickF (e_gdF2 (e_gdF2 (o_ v_pickF (rt_ () ?_))))))
  exact im_
 rw[dT_ h1]
 refine e_gdT (ln_ ?_);refine e_gdT (o_ v_leq ?_)
 by_cases h2:level<=9
 rotate_left
 ·rw[dF_ h2]
  simp only[Bool.and_false,Bool.false_and]
  refine o_ v_pickT (e_gdF2 (e_gdF2 (o_ v_pickF (rt_ () ?_))))
  exact im_
 rw[dT_ h2]
 simp only[Bool.true_and]
 refine o_ v_pickT (e_gdT (lg_ ?_));refine e_gdT (c_ (fit hA hX hD) fun _=>?_)
 refine o_ v_pickT (rt_ () ?_)
 exact im_
theorem apply2 {W:World}{o:Nat}{st:Int}{X:List Fd}{a:Option Addr}{c:Nat}{bd:Value}[OC bd](hX:zF X<=1100000):
  Cn p_ 29 [.pointer (some ⟨o,0,none⟩)] W [pt o (.cells #[.int .i64 st,.slice a X.length c,bd] 25),Sl 2 52 a c X.length (X.flatMap pFd)] (fun _:Option Addr × Nat=> .bool true)
   (fun q=>[pt o (.cells #[.int .i64 st,.slice q.1 (varyX X).length q.2,bd] 25),Sl 2 52 q.1 q.2 (varyX X).length ((varyX X).flatMap pFd)]):=by
 (refine Shp.cn (Sg.g_ Tryz.call29 Tryz.func29) fun F=>?_;simp only[ca_,na_])
 refine c_ (vary (bd:=bd) hX) fun _=>?_
 rename_i q
 refine rt_ q ?_
 exact im_
theorem apply3 {W:World}[hG:Gl W]{l:List Fd}{g c:Nat}{a:Option Addr}{A:HP}(hA:RdF W A a l)(hl:zF l<=1100000):
  Cn p_ 31 [.pointer (some ⟨g,0,none⟩)] W [pt g (.cells #[.slice a l.length c] 22),A] (fun _:Unit=> .bool (chooB l)) (fun _=>[pt g (.cells #[.slice a l.length c] 22),A]):=by
 (refine Shp.cn (Sg.g_ Tryz.call31 Tryz.func31) fun F=>?_;simp only[ca_,na_])
 refine ln_ ?_
 refine c_ (choose hA hl) fun _=>?_
 refine o_ (v_streq (m:=kGz)) ?_
 rw[show decide (chooF l=kGz)=chooB l by unfold chooF;cases chooB l <;> decide]
 refine rt_ () ?_
 exact im_
theorem apply4 {W : World} [hG : Gp W] {o g : Nat} {st level : Int} {X : List Fd} {D : List UInt8} {a ad : Option Addr} {c cd : Nat} {AX AD : HP} (hA : RdF W AX a X) (hX : zF X ≤ 2097152) (hB : RdB W AD ad D.length (D.map Sl.B)) (hc : D.length ≤ cd) (hD : D.length ≤ 4611686018427387904) :
  Cn p_ 32 [.pointer (some ⟨o, 0, none⟩), .pointer (some ⟨g, 0, none⟩)] W [pt g (.cells #[.int .i64 level] 3), pt o (.cells #[.int .i64 st, .slice a X.length c, .slice ad D.length cd] 25), AX, AD]
   (fun _ : (Option Addr × Nat) × (Option Addr × Nat) => .bool (decide (pkE D level 0 = 0)))
   (fun q => if pkE D level 0 = 0 then [pt g (.cells #[.int .i64 level] 3), pt o (.cells #[.int .i64 st, .slice q.1.1 (pakX X (pkB D level 0)).length q.1.2, .slice q.2.1 (pkB D level 0).length q.2.2] 25), Sl 2 52 q.1.1 q.1.2 (pakX X (pkB D level 0)).length ((pakX X (pkB D level 0)).flatMap pFd), Sl 1 5 q.2.1 q.2.2 (pkB D level 0).length ((pkB D level 0).map Sl.B)]
    else [pt g (.cells #[.int .i64 level] 3), pt o (.cells #[.int .i64 st, .slice a X.length c, .slice ad D.length cd] 25), AX, AD]) := by
 (refine Shp.cn (Sg.g_ Tryz.call32 Tryz.func32) fun F => ?_; simp only [ca_, na_])
 refine ln_ ?_
 refine e_call (cpack (level := level) (st := st) (o := o) (c := c) hA hX hB hc hD) (.cons (by repeat constructor) (.cons (by repeat constructor) (.cons (by repeat constructor) .nil))) fun q => ?_
 by_cases hE : pkE D level 0 = 0
 ·simp only [if_pos hE]
  refine nr_ ?_
  refine rt_ q ?_
  exact im_
 ·simp only [if_neg hE]
  refine nr_ ?_
  refine rt_ q ?_
  exact im_
def stX (X:List Fd)(D:List UInt8)(level:Int)(i:Nat):List Fd:=if i<=1 then X else if i<=3 then varyX X else pakX (varyX X) (pkB D level 0)
def stD_ (D:List UInt8)(level:Int)(i:Nat):List UInt8:=if i<=3 then D else pkB D level 0
theorem z_app (a b:List Fd):zF (a++b)=zF a+zF b:=by
 induction a with
 |nil=>rw[List.nil_append];show zF b=0+zF b;omega
 |cons f r ih=>rw[List.cons_append,zF_cons,zF_cons,ih];omega
theorem vary_z (X:List Fd):zF (varyX X)<=zF X+64:=by
 unfold varyX
 split
 ·omega
 ·rw[z_app]
  have:zF [(kVary,kAE)]<=64:=by decide
  omega
theorem apply {W : World} [hG : Gl W] [hP : Gp W] {l X : List Fd} {D : List UInt8} {st level : Int} {al ax ad : Option Addr} {cl cx cd : Nat} {AL AX AD : HP} (hl : RdF W AL al l) (hl1 : zF l <= 1100000)
  (hA : RdF W AX ax X) (ha : ax = none -> X.length = 0) (hX : zF X <= 1100000) (hB : RdB W AD ad D.length (D.map Sl.B)) (hb : ad = none -> D.length = 0) (hD : D.length <= 1099511627776) :
  Cn p_ 14 [.slice al l.length cl, .agg #[.int .i64 st, .slice ax X.length cx, .slice ad D.length cd], .int .i64 level] W [AL, AX, AD]
   (fun q : (Option Addr × Nat) × (Option Addr × Nat) => .agg #[.int .i64 st, .slice q.1.1 (appR l level st X D).X.length q.1.2, .slice q.2.1 (appR l level st X D).D.length q.2.2])
   (fun q => [AL, AX, AD, Sl 2 52 q.1.1 q.1.2 (appR l level st X D).X.length ((appR l level st X D).X.flatMap pFd), Sl 1 5 q.2.1 q.2.2 (appR l level st X D).D.length ((appR l level st X D).D.map Sl.B)]) := by
 have hzl := z_len X
 have hvz := vary_z X
 (refine S.coding_Apply_s.cn fun F => ?_; unfold S.coding_Apply; simp only [ca_, na_])
 refine e_box1 fun bl => ?_
 refine e_boxA fun bx => ?_
 refine e_box1 fun bv => ?_
 refine e_newA fun b6 => ?_
 refine e_cut1 (fun z => (ex fun q : (Option Addr × Nat) × (Option Addr × Nat) => ex fun o : Nat => all [pu (z = .pointer (some ⟨o, 0, none⟩)), pt o (.cells #[.int .i64 st, .slice q.1.1 X.length q.1.2, .slice q.2.1 D.length q.2.2] 25), Sl 2 52 q.1.1 q.1.2 X.length (X.flatMap pFd), Sl 1 5 q.2.1 q.2.2 D.length (D.map Sl.B)])
   :: pt bl (.cells #[.slice al l.length cl] 22) :: pt bx (.cells #[.int .i64 st, .slice ax X.length cx, .slice ad D.length cd] 25) :: pt bv (.cells #[.int .i64 level] 3) :: pt b6 (.cells #[.int .i64 0, .slice none 0 0, .slice none 0 0] 25) :: AL :: AX :: AD :: F) ?_ ?_
 rotate_left
 ·(refine e_drS ?_); refine e_stD v_fa0 .nil ?_; (((refine' e_stD (v_ldN ?hc) ?hi ?_); (case hi => exact .pick (by repeat constructor) .nil); (case hc => repeat constructor))); refine e_stD v_fa0 .nil ?_; (((refine' e_stD (v_ldN ?hc) ?hi ?_); (case hi => exact .pick (by repeat constructor) .nil); (case hc => repeat constructor))); refine e_stD v_fa0 .nil ?_; (((refine' e_stD (v_ldN ?hc) ?hi ?_); (case hi => exact .pick (by repeat constructor) .nil); (case hc => repeat constructor)))
  refine e_andS ?_ ?_
  ·refine e_nil (s := 2) (e := 52) ?_
   refine e_app (m := X.length) (news := X.flatMap pFd) (by (repeat constructor) : Pick _ (Sl 2 52 none 0 0 []) _) (src_rdG (s := 2) (e' := 52) (by kernel_rfl) (by decide) (by (repeat constructor) : Pick _ AX _) hA ha pFd_one) (by omega) (by omega) fun a1 c1 => ?_
   rw [Nat.zero_add, List.nil_append]
   (((refine e_obl ?hi ?_); (case hi => (repeat (first | exact .refl | exact .nil | (apply Imp.pick; (focus ((repeat constructor); done))) | refine .drop ?_))))); (((refine e_obl ?hi ?_); (case hi => (repeat (first | exact .refl | exact .nil | (apply Imp.pick; (focus ((repeat constructor); done))) | refine .drop ?_))))); (((refine e_obl ?hi ?_); (case hi => (repeat (first | exact .refl | exact .nil | (apply Imp.pick; (focus ((repeat constructor); done))) | refine .drop ?_))))); (((refine e_obl ?hi ?_); (case hi => (repeat (first | exact .refl | exact .nil | (apply Imp.pick; (focus ((repeat constructor); done))) | refine .drop ?_)))))
   refine e_andS ?_ ?_
   ·refine e_nil (s := 1) (e := 5) ?_
    refine e_app (m := D.length) (news := D.map Sl.B) (by (repeat constructor) : Pick _ (Sl 1 5 none 0 0 []) _) (src_rd (e' := 5) (by kernel_rfl) (by (repeat constructor) : Pick _ AD _) hB hb B_one) (by omega) (by omega) fun a2 c2 => ?_
    rw [Nat.zero_add, List.nil_append]
    (((refine e_obl ?hi ?_); (case hi => (repeat (first | exact .refl | exact .nil | (apply Imp.pick; (focus ((repeat constructor); done))) | refine .drop ?_))))); (((refine e_obl ?hi ?_); (case hi => (repeat (first | exact .refl | exact .nil | (apply Imp.pick; (focus ((repeat constructor); done))) | refine .drop ?_))))); refine e_stD v_rv .nil ?_; refine e_newA fun g => ?_; (((refine e_obl ?hi ?_); (case hi => (repeat (first | exact .refl | exact .nil | (apply Imp.pick; (focus ((repeat constructor); done))) | refine .drop ?_))))); (((refine e_obl ?hi ?_); (case hi => (repeat (first | exact .refl | exact .nil | (apply Imp.pick; (focus ((repeat constructor); done))) | refine .drop ?_))))); (((refine e_obl ?hi ?_); (case hi => (repeat (first | exact .refl | exact .nil | (apply Imp.pick; (focus ((repeat constructor); done))) | refine .drop ?_))))); (((refine e_obl ?hi ?_); (case hi => (repeat (first | exact .refl | exact .nil | (apply Imp.pick; (focus ((repeat constructor); done))) | refine .drop ?_))))); (((refine e_obl ?hi ?_); (case hi => (repeat (first | exact .refl | exact .nil | (apply Imp.pick; (focus ((repeat constructor); done))) | refine .drop ?_))))); (((refine e_obl ?hi ?_); (case hi => (repeat (first | exact .refl | exact .nil | (apply Imp.pick; (focus ((repeat constructor); done))) | refine .drop ?_))))); (((refine e_obl ?hi ?_); (case hi => (repeat (first | exact .refl | exact .nil | (apply Imp.pick; (focus ((repeat constructor); done))) | refine .drop ?_))))); (((refine' e_stAgg ?hp ?hn ?hv ?h1 ?_); (case hp => (repeat constructor)); (case hn => rfl); (case hv => rfl); (case h1 => simp [Value.oneCell'])))
    rename Nat => b7
    refine e_sat (.ex ((a1, c1), (a2, c2)) (.ex b7 (.all ?_)))
    (try simp only [ca_, na_, -eq_self])
    refine .pu rfl ?_
    (repeat (first | exact .refl | exact .nil | (apply Imp.pick; (focus ((repeat constructor); done))) | refine .drop ?_))
   ·refine e_newA fun b7 => ?_
    (((refine e_obl ?hi ?_); (case hi => (repeat (first | exact .refl | exact .nil | (apply Imp.pick; (focus ((repeat constructor); done))) | refine .drop ?_))))); (((refine e_obl ?hi ?_); (case hi => (repeat (first | exact .refl | exact .nil | (apply Imp.pick; (focus ((repeat constructor); done))) | refine .drop ?_))))); (((refine e_obl ?hi ?_); (case hi => (repeat (first | exact .refl | exact .nil | (apply Imp.pick; (focus ((repeat constructor); done))) | refine .drop ?_))))); (((refine e_obl ?hi ?_); (case hi => (repeat (first | exact .refl | exact .nil | (apply Imp.pick; (focus ((repeat constructor); done))) | refine .drop ?_))))); (((refine e_obl ?hi ?_); (case hi => (repeat (first | exact .refl | exact .nil | (apply Imp.pick; (focus ((repeat constructor); done))) | refine .drop ?_))))); (((refine e_obl ?hi ?_); (case hi => (repeat (first | exact .refl | exact .nil | (apply Imp.pick; (focus ((repeat constructor); done))) | refine .drop ?_)))))
    refine e_nil (s := 1) (e := 5) ?_
    refine e_app (m := D.length) (news := D.map Sl.B) (by (repeat constructor) : Pick _ (Sl 1 5 none 0 0 []) _) (src_rd (e' := 5) (by kernel_rfl) (by (repeat constructor) : Pick _ AD _) hB hb B_one) (by omega) (by omega) fun a2 c2 => ?_
    rw [Nat.zero_add, List.nil_append]
    (((refine e_obl ?hi ?_); (case hi => (repeat (first | exact .refl | exact .nil | (apply Imp.pick; (focus ((repeat constructor); done))) | refine .drop ?_))))); (((refine e_obl ?hi ?_); (case hi => (repeat (first | exact .refl | exact .nil | (apply Imp.pick; (focus ((repeat constructor); done))) | refine .drop ?_))))); refine e_stS v_rv .nil ?_; (((refine' e_stAgg ?hp ?hn ?hv ?h1 ?_); (case hp => (repeat constructor)); (case hn => rfl); (case hv => rfl); (case h1 => simp [Value.oneCell'])))
    refine e_sat (.ex ((a1, c1), (a2, c2)) (.ex b7 (.all ?_)))
    (try simp only [ca_, na_, -eq_self])
    refine .pu rfl ?_
    (repeat (first | exact .refl | exact .nil | (apply Imp.pick; (focus ((repeat constructor); done))) | refine .drop ?_))
  ·refine e_newA fun b7 => ?_
   (((refine e_obl ?hi ?_); (case hi => (repeat (first | exact .refl | exact .nil | (apply Imp.pick; (focus ((repeat constructor); done))) | refine .drop ?_))))); (((refine e_obl ?hi ?_); (case hi => (repeat (first | exact .refl | exact .nil | (apply Imp.pick; (focus ((repeat constructor); done))) | refine .drop ?_))))); (((refine e_obl ?hi ?_); (case hi => (repeat (first | exact .refl | exact .nil | (apply Imp.pick; (focus ((repeat constructor); done))) | refine .drop ?_))))); (((refine e_obl ?hi ?_); (case hi => (repeat (first | exact .refl | exact .nil | (apply Imp.pick; (focus ((repeat constructor); done))) | refine .drop ?_))))); (((refine e_obl ?hi ?_); (case hi => (repeat (first | exact .refl | exact .nil | (apply Imp.pick; (focus ((repeat constructor); done))) | refine .drop ?_))))); (((refine e_obl ?hi ?_); (case hi => (repeat (first | exact .refl | exact .nil | (apply Imp.pick; (focus ((repeat constructor); done))) | refine .drop ?_)))))
   refine e_nil (s := 2) (e := 52) ?_
   refine e_app (m := X.length) (news := X.flatMap pFd) (by (repeat constructor) : Pick _ (Sl 2 52 none 0 0 []) _) (src_rdG (s := 2) (e' := 52) (by kernel_rfl) (by decide) (by (repeat constructor) : Pick _ AX _) hA ha pFd_one) (by omega) (by omega) fun a1 c1 => ?_
   rw [Nat.zero_add, List.nil_append]
   (((refine e_obl ?hi ?_); (case hi => (repeat (first | exact .refl | exact .nil | (apply Imp.pick; (focus ((repeat constructor); done))) | refine .drop ?_))))); (((refine e_obl ?hi ?_); (case hi => (repeat (first | exact .refl | exact .nil | (apply Imp.pick; (focus ((repeat constructor); done))) | refine .drop ?_))))); (((refine e_obl ?hi ?_); (case hi => (repeat (first | exact .refl | exact .nil | (apply Imp.pick; (focus ((repeat constructor); done))) | refine .drop ?_))))); (((refine e_obl ?hi ?_); (case hi => (repeat (first | exact .refl | exact .nil | (apply Imp.pick; (focus ((repeat constructor); done))) | refine .drop ?_)))))
   refine e_nil (s := 1) (e := 5) ?_
   refine e_app (m := D.length) (news := D.map Sl.B) (by (repeat constructor) : Pick _ (Sl 1 5 none 0 0 []) _) (src_rd (e' := 5) (by kernel_rfl) (by (repeat constructor) : Pick _ AD _) hB hb B_one) (by omega) (by omega) fun a2 c2 => ?_
   rw [Nat.zero_add, List.nil_append]
   (((refine e_obl ?hi ?_); (case hi => (repeat (first | exact .refl | exact .nil | (apply Imp.pick; (focus ((repeat constructor); done))) | refine .drop ?_))))); (((refine e_obl ?hi ?_); (case hi => (repeat (first | exact .refl | exact .nil | (apply Imp.pick; (focus ((repeat constructor); done))) | refine .drop ?_))))); refine e_stS v_rv .nil ?_; (((refine' e_stAgg ?hp ?hn ?hv ?h1 ?_); (case hp => (repeat constructor)); (case hn => rfl); (case hv => rfl); (case h1 => simp [Value.oneCell'])))
   refine e_sat (.ex ((a1, c1), (a2, c2)) (.ex b7 (.all ?_)))
   (try simp only [ca_, na_, -eq_self])
   refine .pu rfl ?_
   (repeat (first | exact .refl | exact .nil | (apply Imp.pick; (focus ((repeat constructor); done))) | refine .drop ?_))
 intro ds z
 refine e_ex .here fun q => e_ex .here fun o => e_all .here ?_
 obtain ⟨⟨a1, c1⟩, ⟨a2, c2⟩⟩ := q
 (try simp only [ca_, na_, -eq_self])
 refine e_pu .here fun hz => ?_
 subst hz
 refine e_opN v_mkF .nil ?_
 refine e_opN v_mkF .nil ?_
 refine e_opN v_mkF .nil ?_
 refine e_opN v_mkF .nil ?_
 refine e_opN v_rv .nil ?_; refine e_newA fun g => ?_; (((refine' e_stAgg ?hp ?hn ?hv ?h1 ?_); (case hp => (repeat constructor)); (case hn => rfl); (case hv => rfl); (case h1 => simp [Value.oneCell']))); (((refine' e_opN (v_ldAgg ?hn) ?hi ?_); (case hi => exact .pick (by repeat constructor) .nil); (case hn => rfl)))
 rename Nat => b8
 obtain ⟨ok, hok⟩ : ∃ ok, ok = ((decide (1 <= level) && decide (level <= 9)) && fitB st X D) := ⟨_, rfl⟩
 have hap : appR l level st X D = if ok then if chooB l then if pkE D level 0 = 0 then ⟨pakX (varyX X) (pkB D level 0), pkB D level 0⟩ else ⟨varyX X, D⟩ else ⟨varyX X, D⟩ else ⟨X, D⟩ := by rw [hok]; rfl
 refine e_loop1 (fun k y => (ex fun q : (Option Addr × Nat) × (Option Addr × Nat) => ex fun i : Nat => all [pu (k + i = 4 /\ y = .int .i64 (i : Int) /\ (1 <= i -> ok = true) /\ (3 <= i -> chooB l = true) /\ (4 <= i -> pkE D level 0 = 0)), pt o (.cells #[.int .i64 st, .slice q.1.1 (stX X D level i).length q.1.2, .slice q.2.1 (stD_ D level i).length q.2.2] 25), Sl 2 52 q.1.1 q.1.2 (stX X D level i).length ((stX X D level i).flatMap pFd), Sl 1 5 q.2.1 q.2.2 (stD_ D level i).length ((stD_ D level i).map Sl.B)])
  :: pt bl (.cells #[.slice al l.length cl] 22) :: pt bx (.cells #[.int .i64 st, .slice ax X.length cx, .slice ad D.length cd] 25) :: pt bv (.cells #[.int .i64 level] 3) :: pt b6 (.cells #[.int .i64 0, .slice none 0 0, .slice none 0 0] 25) :: AL :: AX :: AD :: F) 4 ?_ ?_
 ·refine .ex ((a1, c1), (a2, c2)) (.ex 0 (.all ?_))
  (try simp only [ca_, na_, -eq_self])
  refine .pu ⟨rfl, rfl, by omega, by omega, by omega⟩ ?_
  show Imp W _ ([pt o (.cells #[.int .i64 st, .slice a1 X.length c1, .slice a2 D.length c2] 25), Sl 2 52 a1 c1 X.length (X.flatMap pFd), Sl 1 5 a2 c2 D.length (D.map Sl.B)] ++ _)
  (try simp only [ca_, na_, -eq_self])
  (repeat (first | exact .refl | exact .nil | (apply Imp.pick; (focus ((repeat constructor); done))) | refine .drop ?_))
 intro k ds2 y
 refine e_ex .here fun q => e_ex .here fun i => e_all .here ?_
 obtain ⟨⟨a3, c3⟩, ⟨a4, c4⟩⟩ := q
 (try simp only [ca_, na_, -eq_self])
 refine e_pu .here fun hi => ?_
 obtain ⟨hki, rfl, h1, h3, h4⟩ := hi
 (try dsimp only)
 refine e_opN v_lss .nil ?_
 rcases (show i = 0 \/ i = 1 \/ i = 2 \/ i = 3 \/ i = 4 by omega) with rfl | rfl | rfl | rfl | rfl
 ·rw [dT_ (by decide), show stX X D level 0 = X from rfl, show stD_ D level 0 = D from rfl]
  refine e_condT ?_
  refine e_opN (v_ixA 0 rfl (by decide) rfl) .nil ?_
  refine e_callC (cap := [.pointer (some ⟨bv, 0, none⟩), .pointer (some ⟨bx, 0, none⟩)]) (apply1 (level := level) (st := st) (D := D) (cx := cx) (cd := cd) (ad := ad) hA hX (by omega)) (by (repeat (first | exact Picks.nil | (apply Picks.cons; (focus repeat constructor))))) fun _ => ?_
  rw [<- hok]
  (try simp only [ca_, na_, -eq_self])
  cases hk : ok with
  | false =>
   rw [hk] at hap
   simp only [Bool.false_eq_true, if_false] at hap
   rw [hap]
   refine e_opN v_notF .nil ?_; refine e_condT ?_; (((refine' e_opN (v_ldAgg ?hn) ?hi ?_); (case hi => exact .pick (by repeat constructor) .nil); (case hn => rfl))); (((refine' e_stAgg ?hp ?hn ?hv ?h1 ?_); (case hp => (repeat constructor)); (case hn => rfl); (case hv => rfl); (case h1 => simp [Value.oneCell']))); (((refine' e_stS (v_resA ?hn) ?hi ?_); (case hi => (repeat (first | exact .refl | exact .nil | (apply Imp.pick; (focus ((repeat constructor); done))) | refine .drop ?_))); (case hn => rfl)))
   refine e_ret ((a3, c3), (a4, c4)) rfl ?_
   (repeat (first | exact .refl | exact .nil | (apply Imp.pick; (focus ((repeat constructor); done))) | refine .drop ?_))
  | true =>
   refine e_opN v_notT .nil ?_; refine e_condF ?_; (refine e_opN (v_add (by omega) (by omega)) .nil ?_)
   (try refine e_opN (v_add (by omega) (by omega)) .nil ?_)
   refine e_next1 (k - 1) (by omega) (.ex ((a3, c3), (a4, c4)) (.ex 1 (.all ?_)))
   (try simp only [ca_, na_, -eq_self])
   refine .pu ⟨by omega, rfl, fun _ => rfl, by omega, by omega⟩ ?_
   show Imp W _ ([pt o (.cells #[.int .i64 st, .slice a3 X.length c3, .slice a4 D.length c4] 25), Sl 2 52 a3 c3 X.length (X.flatMap pFd), Sl 1 5 a4 c4 D.length (D.map Sl.B)] ++ _)
   (try simp only [ca_, na_, -eq_self])
   (repeat (first | exact .refl | exact .nil | (apply Imp.pick; (focus ((repeat constructor); done))) | refine .drop ?_))
 ·rw [dT_ (by decide), show stX X D level 1 = X from rfl, show stD_ D level 1 = D from rfl]
  refine e_condT ?_
  refine e_opN (v_ixA 1 rfl (by decide) rfl) .nil ?_
  refine e_callC (cap := [.pointer (some ⟨o, 0, none⟩)]) (apply2 (st := st) (bd := .slice a4 D.length c4) hX) (by (repeat (first | exact Picks.nil | (apply Picks.cons; (focus repeat constructor))))) fun r => ?_
  obtain ⟨a5, c5⟩ := r
  (try simp only [ca_, na_, -eq_self])
  (try dsimp only)
  refine e_opN v_notT .nil ?_; refine e_condF ?_; (refine e_opN (v_add (by omega) (by omega)) .nil ?_)
  (try refine e_opN (v_add (by omega) (by omega)) .nil ?_)
  refine e_next1 (k - 1) (by omega) (.ex ((a5, c5), (a4, c4)) (.ex 2 (.all ?_)))
  (try simp only [ca_, na_, -eq_self])
  refine .pu ⟨by omega, rfl, fun _ => h1 (by omega), by omega, by omega⟩ ?_
  show Imp W _ ([pt o (.cells #[.int .i64 st, .slice a5 (varyX X).length c5, .slice a4 D.length c4] 25), Sl 2 52 a5 c5 (varyX X).length ((varyX X).flatMap pFd), Sl 1 5 a4 c4 D.length (D.map Sl.B)] ++ _)
  (try simp only [ca_, na_, -eq_self])
  (repeat (first | exact .refl | exact .nil | (apply Imp.pick; (focus ((repeat constructor); done))) | refine .drop ?_))
 ·rw [dT_ (by decide), show stX X D level 2 = varyX X from rfl, show stD_ D level 2 = D from rfl]
  refine e_condT ?_
  refine e_opN (v_ixA 2 rfl (by decide) rfl) .nil ?_
  refine e_callC (cap := [.pointer (some ⟨bl, 0, none⟩)]) (apply3 (c := cl) hl hl1) (by (repeat (first | exact Picks.nil | (apply Picks.cons; (focus repeat constructor))))) fun _ => ?_
  (try simp only [ca_, na_, -eq_self])
  rw [h1 (by omega)] at hap
  simp only [if_true] at hap
  cases hk : chooB l with
  | false =>
   rw [hk] at hap
   simp only [Bool.false_eq_true, if_false] at hap
   rw [hap]
   refine e_opN v_notF .nil ?_; refine e_condT ?_; (((refine' e_opN (v_ldAgg ?hn) ?hi ?_); (case hi => exact .pick (by repeat constructor) .nil); (case hn => rfl))); (((refine' e_stAgg ?hp ?hn ?hv ?h1 ?_); (case hp => (repeat constructor)); (case hn => rfl); (case hv => rfl); (case h1 => simp [Value.oneCell']))); (((refine' e_stS (v_resA ?hn) ?hi ?_); (case hi => (repeat (first | exact .refl | exact .nil | (apply Imp.pick; (focus ((repeat constructor); done))) | refine .drop ?_))); (case hn => rfl)))
   refine e_ret ((a3, c3), (a4, c4)) rfl ?_
   (repeat (first | exact .refl | exact .nil | (apply Imp.pick; (focus ((repeat constructor); done))) | refine .drop ?_))
  | true =>
   refine e_opN v_notT .nil ?_; refine e_condF ?_; (refine e_opN (v_add (by omega) (by omega)) .nil ?_)
   (try refine e_opN (v_add (by omega) (by omega)) .nil ?_)
   refine e_next1 (k - 1) (by omega) (.ex ((a3, c3), (a4, c4)) (.ex 3 (.all ?_)))
   (try simp only [ca_, na_, -eq_self])
   refine .pu ⟨by omega, rfl, fun _ => h1 (by omega), fun _ => rfl, by omega⟩ ?_
   show Imp W _ ([pt o (.cells #[.int .i64 st, .slice a3 (varyX X).length c3, .slice a4 D.length c4] 25), Sl 2 52 a3 c3 (varyX X).length ((varyX X).flatMap pFd), Sl 1 5 a4 c4 D.length (D.map Sl.B)] ++ _)
   (try simp only [ca_, na_, -eq_self])
   (repeat (first | exact .refl | exact .nil | (apply Imp.pick; (focus ((repeat constructor); done))) | refine .drop ?_))
 ·rw [dT_ (by decide), show stX X D level 3 = varyX X from rfl, show stD_ D level 3 = D from rfl]
  refine e_condT ?_
  refine e_opN (v_ixA 3 rfl (by decide) rfl) .nil ?_
  rw [h1 (by omega), h3 (by omega)] at hap
  simp only [if_true] at hap
  refine e_slfacts (by (repeat constructor) : Pick _ (Sl 2 52 a3 c3 (varyX X).length ((varyX X).flatMap pFd)) _) fun _ _ _ hs => ?_
  refine e_slfacts (by (repeat constructor) : Pick _ (Sl 1 5 a4 c4 D.length (D.map Sl.B)) _) fun _ k2 _ k4 => ?_
  refine e_callC (cap := [.pointer (some ⟨o, 0, none⟩), .pointer (some ⟨bv, 0, none⟩)]) (apply4 (level := level) (st := st) (c := c3) (cd := c4) (rdF_any hs) (by omega) (rd_sl (e := 5) (a := a4) (cap := c4) (by rw [List.length_map]) k4) k2 (by omega)) (by (repeat (first | exact Picks.nil | (apply Picks.cons; (focus repeat constructor))))) fun r => ?_
  obtain ⟨⟨a5, c5⟩, ⟨a6, c6⟩⟩ := r
  by_cases hE : pkE D level 0 = 0
  ·simp only [if_pos hE]
   rw [dT_ hE]
   (try simp only [ca_, na_, -eq_self])
   refine e_opN v_notT .nil ?_; refine e_condF ?_; (refine e_opN (v_add (by omega) (by omega)) .nil ?_)
   (try refine e_opN (v_add (by omega) (by omega)) .nil ?_)
   refine e_next1 (k - 1) (by omega) (.ex ((a5, c5), (a6, c6)) (.ex 4 (.all ?_)))
   (try simp only [ca_, na_, -eq_self])
   refine .pu ⟨by omega, rfl, fun _ => h1 (by omega), fun _ => h3 (by omega), fun _ => hE⟩ ?_
   show Imp W _ ([pt o (.cells #[.int .i64 st, .slice a5 (pakX (varyX X) (pkB D level 0)).length c5, .slice a6 (pkB D level 0).length c6] 25), Sl 2 52 a5 c5 (pakX (varyX X) (pkB D level 0)).length ((pakX (varyX X) (pkB D level 0)).flatMap pFd), Sl 1 5 a6 c6 (pkB D level 0).length ((pkB D level 0).map Sl.B)] ++ _)
   (try simp only [ca_, na_, -eq_self])
   (repeat (first | exact .refl | exact .nil | (apply Imp.pick; (focus ((repeat constructor); done))) | refine .drop ?_))
  ·simp only [if_neg hE]
   rw [if_neg hE] at hap
   rw [dF_ hE, hap]
   (try simp only [ca_, na_, -eq_self])
   refine e_opN v_notF .nil ?_; refine e_condT ?_; (((refine' e_opN (v_ldAgg ?hn) ?hi ?_); (case hi => exact .pick (by repeat constructor) .nil); (case hn => rfl))); (((refine' e_stAgg ?hp ?hn ?hv ?h1 ?_); (case hp => (repeat constructor)); (case hn => rfl); (case hv => rfl); (case h1 => simp [Value.oneCell']))); (((refine' e_stS (v_resA ?hn) ?hi ?_); (case hi => (repeat (first | exact .refl | exact .nil | (apply Imp.pick; (focus ((repeat constructor); done))) | refine .drop ?_))); (case hn => rfl)))
   refine e_ret ((a3, c3), (a4, c4)) rfl ?_
   (repeat (first | exact .refl | exact .nil | (apply Imp.pick; (focus ((repeat constructor); done))) | refine .drop ?_))
 ·rw [dF_ (by decide), show stX X D level 4 = pakX (varyX X) (pkB D level 0) from rfl, show stD_ D level 4 = pkB D level 0 from rfl]
  rw [h1 (by omega), h3 (by omega)] at hap
  simp only [if_true] at hap
  rw [if_pos (h4 (by omega))] at hap
  rw [hap]
  refine e_condF ?_; (((refine' e_opN (v_ldAgg ?hn) ?hi ?_); (case hi => exact .pick (by repeat constructor) .nil); (case hn => rfl))); (((refine' e_stAgg ?hp ?hn ?hv ?h1 ?_); (case hp => (repeat constructor)); (case hn => rfl); (case hv => rfl); (case h1 => simp [Value.oneCell']))); (((refine' e_stS (v_resA ?hn) ?hi ?_); (case hi => (repeat (first | exact .refl | exact .nil | (apply Imp.pick; (focus ((repeat constructor); done))) | refine .drop ?_))); (case hn => rfl)))
  refine e_ret ((a3, c3), (a4, c4)) rfl ?_
  (repeat (first | exact .refl | exact .nil | (apply Imp.pick; (focus ((repeat constructor); done))) | refine .drop ?_))
end Go.Proofs.YtndojgomlkpeaaaGreatDoor.FD
namespace Go.Proofs.YtndojgomlkpeaaaGreatDoor.GZ
open Go Go.Proofs Go.RowKit Sh Sl T IF B M
def IsU (W:World)(A:HP)(p:Nat)(l:List UInt8):HP:=ex fun q:Option Addr × Nat=>all [pt p (.cells #[.slice q.1 l.length q.2] 107),pu (RdB W A q.1 l.length (l.map Sl.B)/\l.length<=q.2)]
theorem udemand {W:World}{b:Bool}:CnP p_ 69 [.bool b] W [] (fun _:If (b=true)=> .tuple #[]) (fun _=>[]) (fun _:If (b=false)=>pn 32) (fun _=>[]):=by
 (refine Shp.cnP (Sg.g_ Tryz.call69 Tryz.func69) fun F=>?_;simp only[ca_,na_,-eq_self])
 cases b with
 |true=>
  refine o_ v_notT (e_condF (rt_ (yes (rfl)) ?_))
  exact .refl
 |false=>
  refine o_ v_notF (e_condT (o_ v_mkI (e_panic ?_)))
  exact e_pan (yes (rfl)) rfl .refl
theorem utake {W:World}{A:HP}{p n:Nat}{l:List UInt8}:CnP p_ 68 [.pointer (some ⟨p,0,none⟩),.int .i64 (n:Int)] W [IsU W A p l]
  (fun x:{q:Option Addr × Nat // n<=l.length/\RdB W A q.1 n ((l.take n).map Sl.B)/\n<=q.2}=> .slice x.1.1 n x.1.2) (fun _=>[IsU W A p (l.drop n)]) (fun _:If (l.length<n)=>pn 20) (fun _=>[]):=by
 (refine Shp.cnP (Sg.g_ Tryz.call68 Tryz.func68 (an:={cuts:=[(3,[])]})) fun F=>?_;simp only[ca_,na_,-eq_self])
 refine e_ex .here fun q=>e_all .here ?_
 obtain⟨qa,qc⟩:=q
 refine nr_ ?_
 refine e_pu (.there .here) fun hq=>?_
 obtain⟨hr,hc⟩:=hq
 (try dsimp only at hr hc)
 (try dsimp only)
 refine e_cut0 (pu (n<=l.length)::pt p (.cells #[.slice qa l.length qc] 107)::F) ?_ ?_
 rotate_left
 ·(refine o_ v_nil ?_);refine o_ v_fa0 ?_;refine ln_ ?_;refine o_ v_len ?_
  refine o_ v_gtr ?_
  by_cases h:(l.length:Int)<(n:Int)
  ·rw[dT_ h]
   refine e_condT (o_ v_mkI (e_panic ?_))
   refine e_pan (yes (by omega)) rfl ?_
   exact im_
  ·rw[dF_ h]
   refine e_condF (e_sat (.pu (by omega) ?_))
   exact im_
 intro ds
 refine e_pu .here fun hn=>?_
 have h1:=hr.cut (cap:=qc) (l:=0) (h:=n) (by omega) (by omega) hc
 have h2:=hr.cut (cap:=qc) (l:=n) (h:=l.length) (by omega) (by omega) hc
 rw[List.drop_zero,Nat.sub_zero,<- List.map_take]at h1
 rw[<- List.map_drop,<- List.map_take,List.take_of_length_le (by rw[List.length_drop];omega)]at h2
 refine o_ v_nil (o_ v_fa0 (ln_ ?_))
 refine o_ (v_slh n rfl (by omega)) ?_
 refine o_ v_nil (o_ v_fa0 (ln_ ?_))
 refine o_ (v_sll n rfl hn) ?_
 refine o_ v_nil (o_ v_fa0 (sn_ ?_))
 refine rt_ (⟨((if qc=0 then qa else qa.map (·.add (0 * 1))),qc),hn,h1,by omega⟩) ?_
 refine .ex ((if qc=n then qa else qa.map (·.add (n * 1))),qc-n) (.all ?_)
 refine nr_ ?_
 rw[List.length_drop]
 refine .pick (by repeat constructor) (.pu ⟨h2,by omega⟩ ?_)
 exact im_
theorem or0_8:∀n:Nat,n<256->bitOp .or .i64 0 (n:Int)=(n:Int):=by decide+kernel
theorem unum {W:World}{A:HP}{p:Nat}{x:UInt8}{l:List UInt8}:CnP p_ 100 [.pointer (some ⟨p,0,none⟩),.int .i64 1] W [IsU W A p (x::l),A]
  (fun _:Unit=> .int .i64 (x.toNat:Int)) (fun _=>[IsU W A p l,A]) (fun _:If False=>pn 20) (fun _=>[]):=by
 have hT:=utake (W:=W) (A:=A) (p:=p) (n:=1) (l:=x::l)
 (refine Shp.cnP (Sg.g_ Tryz.call100 Tryz.func100 (an:={loops:=[(3,[5,12])]})) fun F=>?_;simp only[ca_,na_,-eq_self])
 (refine' e_callP (hT) ?hp (fun _=>?_) (fun _=>?_);(case hp=>(repeat(first|exact Picks.nil|(apply Picks.cons;(focus repeat constructor)))));(all_goals (try simp only[ca_,na_,Bool.not_true,Bool.not_false,-eq_self])))
 ·rename_i q
  obtain⟨⟨qa,qc⟩,h1,h2,h3⟩:=q
  (try dsimp only)
  (try dsimp only at h2 h3)
  obtain⟨g,o,rfl,_⟩:=h2.at_ (by decide)
  have hx:=x.toNat_lt
  refine o_ v_len (e_loop2 (fun m y z=>pu (∃i:Nat,m+i=1/\z= .int .i64 (i:Int)/\y= .int .i64 (if i=0 then 0 else(x.toNat:Int)))::IsU W A p l::A::F) 1 ?_ ?_)
  ·refine .pu ⟨0,rfl,rfl,rfl⟩ ?_
   exact im_
  intro m ds y z
  refine e_pu .here fun hi=>?_
  obtain⟨i,hmi,rfl,rfl⟩:=hi
  refine o_ v_lss ?_
  rcases(show i=0\/i=1 by omega)with rfl|rfl
  ·rw[dT_ (by decide),if_pos rfl]
   refine e_condT (o_ (v_ia1 0 rfl (by decide)) ?_)
   refine p_op (v_ldRd h2 (j:=0) (v:= .int .u8 (x.toNat:Int)) rfl) ?_
   refine o_ (v_conv (q:= .i64)) ?_
   rw[w64 (by omega) (by omega)]
   refine o_ (v_mul (by decide) (by decide)) ?_
   refine o_ (v_conv (q:= .u64)) ?_
   rw[show IntKind.u64.wrap (8 * ((0:Nat):Int))=0 by decide]
   refine o_ (v_shl (by decide)) ?_
   rw[show min (0:Int).toNat IntKind.i64.bits=0 from rfl,Int.pow_zero,Int.mul_one,w64 (by omega) (by omega)]
   refine o_ v_or ?_
   rw[or0_8 x.toNat hx]
   refine o_ (v_add (by decide) (by decide)) ?_
   refine e_next2 (m-1) (by omega) (.pu ⟨1,by omega,rfl,by rw[if_neg (by decide)]⟩ ?_)
   exact im_
  ·rw[dF_ (by decide),if_neg (by decide)]
   refine e_condF (rt_ () ?_)
   exact im_
 ·rename_i y
  exact absurd y.2 (by simp)
theorem v_ixAG {P:Program}{W:World}{t e:TypeId}{n s:Nat}{cs:Array Value}{q:IntKind}{i:Int}(j:Nat)[ht:ArrT P t n e s][ha:AggT P e s](hi:i=(j:Int))(hj:j<n):RunV P W [] (sIx t (.agg cs) (.int q i)) (.agg (cs.extract (j * s) (j * s+s))):=fun w _=>by
 subst hi
 simp[sIx,Instr.index,asIntOf,ht.ut,ht.size,hj,part,ha.agg,ha.size]
theorem bytesEq {W:World}{a b:Option Addr}{ca cb:Nat}{x y:List UInt8}{A C:HP}(hx:RdB W A a x.length (x.map Sl.B))(ha:a=none->x.length=0)(hy:RdB W C b y.length (y.map Sl.B))(hb:b=none->y.length=0):
  Cn p_ 70 [.slice a x.length ca,.slice b y.length cb] W [A,C] (fun _:Unit=> .bool (decide (x=y))) (fun _=>[A,C]):=by
 (refine Shp.cn (Sg.g_ Tryz.call70 Tryz.func70) fun F=>?_;simp only[ca_,na_])
 refine p_op (v_str hx ha) ?_
 refine p_op (v_str hy hb) ?_
 refine o_ v_streq (rt_ () ?_)
 exact im_
theorem e_uo {W:World}{A:HP}{p:Nat}{l:List UInt8}{L L':List HP}{S:WP}(q:Pick L (IsU W A p l) L')(h:∀(qa:Option Addr) (qc:Nat),RdB W A qa l.length (l.map Sl.B)->l.length<=qc->Ent W (pt p (.cells #[.slice qa l.length qc] 107)::L') S):Ent W L S:=
 e_pick q (e_ex .here fun x=>e_all .here (e_pu (.there .here) fun hq=>h x.1 x.2 hq.1 hq.2))
theorem e_uc {W:World}{A:HP}{p:Nat}{l:List UInt8}{L L':List HP}{S:WP}{qa:Option Addr}{qc:Nat}(q:Pick L (pt p (.cells #[.slice qa l.length qc] 107)) L')(hr:RdB W A qa l.length (l.map Sl.B))(hc:l.length<=qc)(h:Ent W (IsU W A p l::L') S):Ent W L S:=
 e_imp (.ex (qa,qc) (.all (.pick q (.pu ⟨hr,hc⟩ .refl)))) h
structure Mb (most:Int)(b out t:List UInt8)(u:Nat):Prop where
 e:aE b (most-out.length)=0
 o:aO b (most-out.length)=t
 n:aU b (most-out.length)=(u:Int)
 le:u<=b.length
 sz:((out.length+t.length:Nat):Int)<=most
inductive Ur (most:Int):List UInt8->List UInt8->Nat->Except Int (List UInt8 × Nat)->Prop
 |done {out:List UInt8} {n:Nat} (h:n≠0):Ur most [] out n (.ok (out,n))
 |mem {b out t r:List UInt8} {n m u:Nat} {R:Except Int (List UInt8 × Nat)} (h:Mb most b out t u) (ht:b.drop u=gzT t++r) (hr:Ur most r (out++t) (n+1) R):Ur most (gzH m++b) out n R
 |short {b out t:List UInt8} {n m u:Nat} (h:Mb most b out t u) (hs:(b.drop u).length<8):Ur most (gzH m++b) out n (.error 20)
 |wrong {b out t:List UInt8} {n m u:Nat} (h:Mb most b out t u) (hs:8<=(b.drop u).length) (hw:(b.drop u).take 8≠gzT t):Ur most (gzH m++b) out n (.error 32)
theorem Ur.head {most:Int}{l out:List UInt8}{n:Nat}{R:Except Int (List UInt8 × Nat)}(h:Ur most l out n R):(l=[]/\n≠0/\R= .ok (out,n))\/∃(m u:Nat) (b t:List UInt8),l=gzH m++b/\Mb most b out t u/\
  (((b.drop u).length<8/\R= .error 20)\/(8<=(b.drop u).length/\(b.drop u).take 8≠gzT t/\R= .error 32)\/(8<=(b.drop u).length/\(b.drop u).take 8=gzT t/\Ur most ((b.drop u).drop 8) (out++t) (n+1) R)):=by
 cases h with
 |done h=>exact .inl ⟨rfl,h,rfl⟩
 |mem h ht hr=>exact .inr ⟨_,_,_,_,rfl,h,.inr (.inr ⟨by rw[ht,List.length_append];simp[gzT,GZ.four],by rw[ht];rfl,by rw[ht];exact hr⟩)⟩
 |short h hs=>exact .inr ⟨_,_,_,_,rfl,h,.inl ⟨hs,rfl⟩⟩
 |wrong h hs hw=>exact .inr ⟨_,_,_,_,rfl,h,.inr (.inl ⟨hs,hw,rfl⟩)⟩
def rO (R:Except Int (List UInt8 × Nat)):List UInt8:=match R with
 | .ok x=>x.1
 | .error _=>[]
def rN (R:Except Int (List UInt8 × Nat)):Int:=match R with
 | .ok x=>x.2
 | .error _=>0
def rE (R:Except Int (List UInt8 × Nat)):Int:=match R with
 | .ok _=>0
 | .error e=>e
theorem both_ {G H:Prop}(k:G->H)(m:G):H:=k m
theorem ufails {W:World} {F:List HP} {g4 g5 g6:Nat} {v4 v5 v6:Value} {e:Int} {K:Value->WP} {Kq:PK}
  (h:Ent W (pt g4 (.cells #[.slice none 0 0] 23)::pt g5 (.cells #[.int .i64 0] 3)::pt g6 (.cells #[.int .i64 e] 27)::F) (K (.tuple #[.slice none 0 0,.int .i64 0,.int .i64 e]))):
  Ent W (pt g4 (.cells #[v4] 23)::pt g5 (.cells #[v5] 3)::pt g6 (.cells #[v6] 27)::F)
   (KpD p_ {target:= .fn (.func 65) ([.pointer (some ⟨g4,0,none⟩),.pointer (some ⟨g5,0,none⟩),.pointer (some ⟨g6,0,none⟩)]:List Value).toArray,args:=([]:List Value).toArray} (S.gzip_unpack_ret (.pointer (some ⟨g4,0,none⟩)) (.pointer (some ⟨g5,0,none⟩)) (.pointer (some ⟨g6,0,none⟩)) K) Kq (pn e)):=by
 unfold KpD
 refine e_dfS (f:=65) (A:=[.pointer (some ⟨g4,0,none⟩),.pointer (some ⟨g5,0,none⟩),.pointer (some ⟨g6,0,none⟩)]) (shape:=fun rv=>S.gzip_unpack_1 (.pointer (some ⟨g4,0,none⟩)) (.pointer (some ⟨g5,0,none⟩)) (.pointer (some ⟨g6,0,none⟩)) rv) (fun c=>by cases c) ⟨_,_,rfl⟩ (inv_closure (cs:=[.pointer (some ⟨g4,0,none⟩),.pointer (some ⟨g5,0,none⟩),.pointer (some ⟨g6,0,none⟩)]) (bs:=[]) Tryz.call65) (fun h=>S.gzip_unpack_1_d h) ?_
 unfold S.gzip_unpack_1 pn
 rw[rec_pan,lv_pan]
 refine o_ (v_neIf (by kernel_rfl)) ?_
 refine e_condT (e_drS (e_stD (v_ta (k:= .i64) (by kernel_rfl)) .nil ?_))
 refine sn_ ?_;refine ob_ ?_;refine sn_ ?_;refine ob_ ?_;refine sn_ ?_
 unfold S.gzip_unpack_ret
 (((refine' e_stS (v_res1 ?hc) ?hi ?_);(case hi=>exact im_);(case hc=>repeat constructor)));(((refine' e_stS (v_res1 ?hc) ?hi ?_);(case hi=>exact im_);(case hc=>repeat constructor)));(((refine' e_stS (v_res1 ?hc) ?hi ?_);(case hi=>exact im_);(case hc=>repeat constructor)))
 exact e_imp im_ h
theorem and0:∀n:Nat,n<32->bitOp .and .i64 0 (n:Int)=0:=by decide
theorem uhead {W:World}{A:HP}{p m:Nat}{l:List UInt8}:CnP p_ 66 [.pointer (some ⟨p,0,none⟩)] W [IsU W A p (gzH m++l),A]
  (fun _:Unit=> .tuple #[]) (fun _=>[IsU W A p l,A]) (fun _:If False=>pn 32) (fun _=>[]):=by
 (refine Shp.cnP (Sg.g_ Tryz.call66 Tryz.func66 (an:={loops:=[(3,[15]),(12,[43])]})) fun F=>?_;simp only[ca_,na_,-eq_self])
 refine e_ex .here fun q=>e_all .here ?_
 obtain⟨qa,qc⟩:=q
 refine nr_ ?_
 refine e_pu (.there .here) fun hq=>?_
 refine e_box1 fun g=>?_;refine ln_ ?_;refine o_ v_nil (o_ v_fa0 (ln_ ?_));refine o_ v_rv ?_
 rename Nat=>gb
 refine e_loop1 (fun k y=>(ex fun i:Nat=>all [pu (k+i=3/\y= .int .i64 (i:Int)),IsU W A p ((gzH m++l).drop i)])::pt gb (.cells #[.pointer (some ⟨p,0,none⟩)] 105)::A::F) 3 ?_ ?_
 ·refine .ex 0 (.all ?_)
  refine nr_ ?_
  refine .pu ⟨rfl,rfl⟩ (.ex (qa,qc) (.all ?_))
  refine nr_ ?_
  rw[List.drop_zero]
  refine .pick (by repeat constructor) (.pu hq ?_)
  exact im_
 intro k ds y
 refine e_ex .here fun i=>e_all .here ?_
 refine nr_ ?_
 refine e_pu .here fun hi=>?_
 obtain⟨hki,rfl⟩:=hi
 refine o_ v_lss ?_
 by_cases hlt:(i:Int)<3
 ·rw[dT_ hlt]
  obtain⟨x,hx,hv⟩:∃x:UInt8,(gzH m++l).drop i=x::(gzH m++l).drop (i+1)/\(#[.int .u8 31,.int .u8 139,.int .u8 8]:Array Value)[i]? =some (.int .u8 (x.toNat:Int)):=by
   rcases(show i=0\/i=1\/i=2 by omega)with rfl|rfl|rfl
   ·exact⟨31,rfl,rfl⟩
   ·exact⟨139,rfl,rfl⟩
   ·exact⟨8,rfl,rfl⟩
  have hT:=utake (W:=W) (A:=A) (p:=p) (n:=1) (l:=x::(gzH m++l).drop (i+1))
  rw[hx]
  refine e_condT (o_ (v_ixA i rfl (by omega) hv) ?_)
  refine ln_ ?_
  (refine' e_callP (hT) ?hp (fun _=>?_) (fun _=>?_);(case hp=>(repeat(first|exact Picks.nil|(apply Picks.cons;(focus repeat constructor)))));(all_goals (try simp only[ca_,na_,Bool.not_true,Bool.not_false,-eq_self])))
  ·rename_i q
   obtain⟨⟨ta,tc⟩,h1,h2,h3⟩:=q
   (try dsimp only)
   (try dsimp only at h2 h3)
   obtain⟨g2,o2,rfl,_⟩:=h2.at_ (by decide)
   refine o_ (v_ia1 0 rfl (by decide)) ?_
   refine p_op (v_ldRd h2 (j:=0) (v:= .int .u8 (x.toNat:Int)) rfl) ?_
   refine o_ v_eql ?_
   rw[dT_ rfl]
   (refine' e_callP (udemand) ?hp (fun _=>?_) (fun _=>?_);(case hp=>(repeat(first|exact Picks.nil|(apply Picks.cons;(focus repeat constructor)))));(all_goals (try simp only[ca_,na_,Bool.not_true,Bool.not_false,-eq_self])))
   ·refine ad_ ?_
    refine e_next1 (k-1) (by omega) (.ex (i+1) (.all ?_))
    refine nr_ ?_
    refine .pu ⟨by omega,by rfl⟩ ?_
    exact im_
   ·rename_i y
    exact absurd y.2 (by decide)
  ·rename_i y
   exact absurd y.2 (by simp)
 ·rw[dF_ hlt]
  obtain rfl:i=3:=by omega
  have h8:(gzH m++l).drop 3=0::(four m++[0,255]++l):=rfl
  have h10:(four m++[0,255]++l).drop 6=l:=rfl
  rw[h8]
  refine e_condF (ln_ ?_)
  (refine' e_callP (unum) ?hp (fun _=>?_) (fun _=>?_);(case hp=>(repeat(first|exact Picks.nil|(apply Picks.cons;(focus repeat constructor)))));(all_goals (try simp only[ca_,na_,Bool.not_true,Bool.not_false,-eq_self])))
  ·rw[show((UInt8.toNat 0:Nat):Int)=0 from rfl]
   refine o_ v_lss ?_
   rw[dT_ (by decide)]
   have hT:=utake (W:=W) (A:=A) (p:=p) (n:=6) (l:=four m++[0,255]++l)
   rw[h10]at hT
   (refine' e_callP (udemand) ?hp (fun _=>?_) (fun _=>?_);(case hp=>(repeat(first|exact Picks.nil|(apply Picks.cons;(focus repeat constructor)))));(all_goals (try simp only[ca_,na_,Bool.not_true,Bool.not_false,-eq_self])))
   ·refine ln_ ?_
    (refine' e_callP (hT) ?hp (fun _=>?_) (fun _=>?_);(case hp=>(repeat(first|exact Picks.nil|(apply Picks.cons;(focus repeat constructor)))));(all_goals (try simp only[ca_,na_,Bool.not_true,Bool.not_false,-eq_self])))
    ·skip
     refine o_ v_mkF (o_ v_rv ?_);refine ln_ ?_
     refine o_ v_mkF (o_ v_rv ?_);refine ln_ ?_
     refine o_ v_mkF (o_ v_rv ?_);refine o_ v_rv ?_;refine e_newA fun g=>?_;refine sg_ ?_;refine lg_ ?_
     refine e_loop1 (fun k y=>pu (∃i:Nat,k+i=3/\y= .int .i64 (i:Int))::IsU W A p l::pt gb (.cells #[.pointer (some ⟨p,0,none⟩)] 105)::A::F) 3 ?_ ?_
     ·refine .pu ⟨0,rfl,rfl⟩ ?_
      exact im_
     intro k2 ds2 y2
     refine e_pu .here fun hi2=>?_
     obtain⟨i2,hki2,rfl⟩:=hi2
     refine o_ v_lss ?_
     by_cases hl2:(i2:Int)<3
     ·rw[dT_ hl2]
      refine e_condT (o_ (v_ixAG i2 rfl (by omega)) ?_)
      refine e_newA fun g8=>?_
      have hx:∃v u:Value,∃n:Nat,(#[.int .i64 4,.func (.func 101) #[] #[.pointer (some ⟨gb,0,none⟩)],.int .i64 8,.func (.func 102) #[.pointer (some ⟨p,0,none⟩)] #[],.int .i64 16,.func (.func 102) #[.pointer (some ⟨p,0,none⟩)] #[]]:Array Value).extract (i2 * 2) (i2 * 2+2)= #[.int .i64 (n:Int),u]/\u.oneCell'=true/\n<32:=by
       rcases(show i2=0\/i2=1\/i2=2 by omega)with rfl|rfl|rfl
       ·exact⟨.int .i64 4,_,4,rfl,rfl,by decide⟩
       ·exact⟨.int .i64 8,_,8,rfl,rfl,by decide⟩
       ·exact⟨.int .i64 16,_,16,rfl,rfl,by decide⟩
      obtain⟨_,u,n,hx,hu,hn⟩:=hx
      have hand:=and0 n hn
      rw[hx]
      refine e_stAgg (by repeat constructor) (by rfl) (by rfl) (by intro v hv;simp at hv;rcases hv with rfl|rfl;rfl;exact hu) ?_
      refine o_ v_fa0 (ln_ ?_)
      refine o_ v_and ?_
      rw[hand]
      refine o_ v_neq ?_
      rw[dF_ (by decide)]
      refine e_condF (ad_ ?_)
      refine e_next1 (k2-1) (by omega) (.pu ⟨i2+1,by omega,by rfl⟩ ?_)
      exact im_
     ·rw[dF_ hl2]
      refine e_condF (o_ v_and ?_)
      rw[show bitOp .and .i64 0 2=0 by decide]
      refine o_ v_neq ?_
      rw[dF_ (by decide)]
      refine e_condF (rt_ () ?_)
      exact im_
    ·rename_i y
     exact absurd y.2 (by simp[four])
   ·rename_i y
    exact absurd y.2 (by decide)
  ·rename_i y
   exact y.2.elim
end Go.Proofs.YtndojgomlkpeaaaGreatDoor.GZ
