/- Deflate, in one piece. No conditions but those that each names. (21 texts made one; each says below what it is.) -/
import Derived.Test.YtndojgomlkpeaaaGreatDoorK6
import Derived.KernelRfl
import Derived.Test.YtndojgomlkpeaaaGreatDoorRows
import Derived.Deep.DeepHandedRow
import Derived.LaidMore
import Derived.Lay
import Derived.MakeChecks
set_option linter.unusedVariables false
set_option linter.unusedSimpArgs false
set_option linter.unusedSectionVars false
set_option maxRecDepth 9999
namespace Go.Proofs.YtndojgomlkpeaaaGreatDoor.IF
open Go Go.Proofs Go.RowKit Sh Sl T HM HF B M
theorem bv_get {level:Int}:∀ {X:List (Blk × Bv)} {i j:Nat} (h:i<X.length),j<3->(X.flatMap (bvC level))[i * 3+j]? =(bvC level X[i])[j]?
 |y::X,0,j,h,hj=>by
  rw[List.flatMap_cons,List.getElem?_append_left (by rw[bv_len];omega)]
  simp
 |y::X,i+1,j,h,hj=>by
  rw[List.flatMap_cons,List.getElem?_append_right (by rw[bv_len];omega),bv_len,show(i+1) * 3+j-3=i * 3+j by omega]
  exact bv_get (by simpa using h) hj
theorem bvs_len (level:Int)(X:List (Blk × Bv)):(X.flatMap (bvC level)).length=X.length * 3:=by
 induction X with
 |nil=>rfl
 |cons y X ih=>rw[List.flatMap_cons,List.length_append,ih,bv_len,List.length_cons];omega
theorem puts0_nil (level:Int)(L:List Bool):puts0 level L []=L:=rfl
theorem puts0_cons (level:Int)(L:List Bool)(x:Blk)(xs:List Blk):puts0 level L (x::xs)=puts0 level (putX level L 0 x) xs:=by unfold puts0;rw[List.foldl_cons]
theorem puts0_snoc (level:Int)(L:List Bool)(xs:List Blk)(x:Blk):puts0 level L (xs++[x])=putX level (puts0 level L xs) 0 x:=by
 unfold puts0;rw[List.foldl_append,List.foldl_cons,List.foldl_nil]
theorem putsX_snoc (level:Int):∀(xs:List Blk) (L:List Bool) (x:Blk),putsX level L (xs++[x])=putX level (puts0 level L xs) 1 x
 |[],L,x=>by rw[List.nil_append,putsX,puts0_nil]
 |y::r,L,x=>by
  have ih:=putsX_snoc level r (putX level L 0 y) x
  rw[puts0_cons,<- ih]
  cases r with
  |nil=>simp only[ca_,na_,putsX]
  |cons z r=>rw[List.cons_append,List.cons_append,putsX]
theorem bytesN_app:∀(xs ys:List Blk),bytesN (xs++ys)=bytesN xs+bytesN ys
 |[],ys=>by simp[bytesN]
 |x::xs,ys=>by rw[List.cons_append,bytesN,bytesN,bytesN_app xs ys];omega
theorem puts0_bnd {b:List UInt8}{level:Int}(hlv:0<=level)(hb:b.length<=524288)(i:Nat):(puts0 level [] ((blksF b level).take i)).length<=6000000:=by
 obtain⟨hG,hn⟩:=blks_G b hlv
 have h1:=puts0_len level ((blksF b level).take i) []
 have h2:=bytesN_G hG
 have h3:=bytesN_app ((blksF b level).take i) ((blksF b level).drop i)
 rw[List.take_append_drop]at h3
 rw[List.length_take]at h1
 simp only[List.length_nil]at h1
 omega
theorem wrong {W:World}{n:Int}:Cn p_ 109 [.int .i64 n] W [] (fun _:Unit=> .bool (decide (n<0\/9<n))) (fun _=>[]):=by
 (refine Shp.cn (Sg.g_ Tryz.call109 Tryz.func109) fun F=>?_;simp only[ca_,na_])
 refine o_ v_lss ?_
 by_cases h:n<0
 ·rw[dT_ h,dT_ (Or.inl h)]
  refine e_gdF1 (e_gdF1 (o_ v_pickT (rt_ () ?_)))
  exact .refl
 ·rw[dF_ h]
  refine e_gdT (e_gdT (o_ v_gtr (o_ v_pickF ?_)))
  rw[show decide (n<0\/9<n)=decide (9<n)from decide_eq_decide.2 ⟨fun x=>x.resolve_left h,.inr⟩]
  refine rt_ () ?_
  exact .refl
def pgX (level:Int)(xs:List Blk)(i:Nat):List Bool:=if i<xs.length then puts0 level [] (xs.take i)else putsX level [] xs
theorem pg_step {level:Int}{xs:List Blk}{i:Nat}(h:i<xs.length):pgX level xs (i+1)=putX level (pgX level xs i) (if i+1=xs.length then 1 else 0) xs[i]:=by
 unfold pgX
 rw[if_pos h]
 by_cases c:i+1=xs.length
 ·rw[if_neg (by omega),if_pos c]
  have e:xs=xs.take i++[xs[i]]:=by rw[<- List.take_succ_eq_append_getElem h,List.take_of_length_le (by omega)]
  conv=>lhs;rw[e]
  exact putsX_snoc _ _ _ _
 ·rw[if_pos (by omega),if_neg c,List.take_succ_eq_append_getElem h,puts0_snoc]
theorem deflate {W:World}{a:Option Addr}{c:Nat}{level:Int}{b:List UInt8}{A:HP}(hA:RdB W A a b.length (b.map Sl.B))(hc:b.length<=c):
  Cn p_ 79 [.slice a b.length c,.int .i64 level] W [A] (fun q:Option Addr × Nat=> .tuple #[.slice q.1 (dflB b level).length q.2,.int .i64 (dflE b level)]) (fun q=>[Sl 1 5 q.1 q.2 (dflB b level).length ((dflB b level).map Sl.B),A]):=by
 have bad:∀(e:Int) (L:List HP),dflE b level=e->e≠0->Ent W (A::L) (fun w=>∃q:Option Addr × Nat,(.tuple #[.slice none 0 0,.int .i64 e]:Value)= .tuple #[.slice q.1 (dflB b level).length q.2,.int .i64 (dflE b level)]/\sat W ([Sl 1 5 q.1 q.2 (dflB b level).length ((dflB b level).map Sl.B),A]++L) w):=by
  intro e L h h0
  have hv:dflB b level=[]:=by unfold dflB;rw[if_neg (by rw[h];exact h0)]
  rw[h,hv]
  refine e_ret (none,0) rfl ?_
  exact imp_nil .refl
 (refine Shp.cn (Sg.g_ Tryz.call79 Tryz.func79 (an:={cuts:=[(13,[10])],loops:=[(8,[24])]})) fun F=>?_;simp only[ca_,na_])
 refine c_ (wrong (n:=level)) fun _=>?_
 by_cases hw:level<0\/9<level
 ·rw[dT_ hw]
  exact e_condT (bad 1 F (by unfold dflE;rw[if_pos hw]) (by decide))
 rw[dF_ hw]
 refine e_condF (o_ v_len (o_ v_gtr ?_))
 by_cases hs:(524288:Int)<(b.length:Int)
 ·rw[dT_ hs]
  exact e_condT (bad 6 F (by unfold dflE;rw[if_neg hw,if_pos (by omega)]) (by decide))
 rw[dF_ hs]
 have hE:dflE b level=0:=by unfold dflE;rw[if_neg hw,if_neg (by omega)]
 have hlv:0<=level:=by omega
 have hbl:b.length<=524288:=by omega
 refine e_condF (c_ newWriter fun _=>?_)
 rename_i w
 refine e_call (dblocks (c:=c) (level:=level) hA hc (by omega) (by omega)) (.cons (by repeat constructor) .nil) fun q=>?_
 obtain⟨⟨xa,xc⟩,⟨pa,pc⟩,X⟩:=q
 refine nr_ ?_
 refine e_pu .here fun hX=>?_
 (try dsimp only at hX)
 (try dsimp only)
 obtain⟨hXf,hXk⟩:=hX
 obtain⟨hG,hn⟩:=blks_G b hlv
 have hXl:X.length=(blksF b level).length:=by rw[<- hXf,List.length_map]
 have hbnd:=puts0_bnd (b:=b) (level:=level) hlv hbl
 have hXb:X.length<=1000:=by omega
 have hne:=blks_ne b level
 have hpos:0<X.length:=by rw[hXl];exact List.length_pos_iff.2 hne
 have hdX:dflX b level=pgX level (blksF b level) X.length:=by unfold pgX dflX;rw[if_neg (by omega)]
 have hdB:dflB b level=pk (dflX b level):=by unfold dflB;rw[if_pos hE]
 refine e_slsome .here hpos fun gx hgx=>?_
 subst hgx
 refine o_ v_len ?_
 obtain⟨AL,hAL⟩:∃AL,AL=Sl 3 209 pa pc (pcsL b level).length ((pcsL b level).flatMap pPz):=⟨_,rfl⟩
 rw[<- hAL]at hXk ⊢
 refine e_loop1 (fun m y=>(ex fun i:Nat=>all [pu (m+i=X.length/\y= .int .i64 (i:Int)),IsW w (pgX level (blksF b level) i)])::Sl 3 162 (some ⟨gx,0,none⟩) xc X.length (X.flatMap (bvC level))::AL::A::F) X.length ?_ ?_
 ·refine .ex 0 (.all ?_)
  refine nr_ ?_
  refine .pu ⟨by omega,rfl⟩ ?_
  rw[show pgX level (blksF b level) 0=[] by unfold pgX;rw[if_pos (by omega)];rfl]
  exact im_
 intro m ds y
 refine e_ex .here fun i=>e_all .here ?_
 refine nr_ ?_
 refine e_pu .here fun hi=>?_
 obtain⟨hmi,rfl⟩:=hi
 refine o_ v_lss ?_
 by_cases hlt:(i:Int)<(X.length:Int)
 ·rw[dT_ hlt]
  have hi:i<X.length:=by omega
  have hib:i<(blksF b level).length:=by omega
  have hk:=hXk _ (List.getElem_mem hi)
  have hx1:X[i].1=(blksF b level)[i]:=by
   have:=List.getElem_map (f:=Prod.fst) (l:=X) (i:=i) (h:=by rw[List.length_map];exact hi)
   rw[<- this]
   congr 1
  obtain⟨fr,hok⟩:=blkG_all hG _ (List.getElem_mem hib)
  have hst:=pg_step (level:=level) hib
  have hLi:(pgX level (blksF b level) i).length<=6000000:=by unfold pgX;rw[if_pos hib];exact hbnd i
  rw[<- hx1]at hok hst
  refine e_condT (o_ (v_ia i (by rfl) hi) ?_)
  have ld:RunV p_ W [Sl 3 162 (some ⟨gx,0,none⟩) xc X.length (X.flatMap (bvC level))] (sLoad 162 (.pointer (some ⟨gx,0+i * 3,none⟩))) (bvV level X[i]):=v_ldRdG (vs:=bvC level X[i]) (rd_slG (bvs_len _ _) (fun _=>⟨gx,rfl⟩)) rfl (fun j hj=>bv_get hi hj)
  refine p_op ld ?_
  obtain⟨⟨x,v⟩,hxv⟩:∃z,z=X[i]:=⟨_,rfl⟩
  rw[<- hxv]at hk hok hst ⊢
  (try dsimp only at hok hst)
  unfold bvV
  refine e_newA fun g=>?_;refine sg_ ?_
  rename Nat=>b9
  refine e_cut1 (fun z=>pu (z= .int .i64 ((if i+1=X.length then 1 else 0:Nat):Int))::pt b9 (.cells #[.slice v.1.1 x.1.length v.1.2,.slice v.2.1 x.2.length v.2.2,.int .i64 level] 162)::IsW w (pgX level (blksF b level) i)::Sl 3 162 (some ⟨gx,0,none⟩) xc X.length (X.flatMap (bvC level))::AL::A::F) ?_ ?_
  rotate_left
  ·(refine o_ v_len ?_);refine sb_ ?_
   refine o_ v_eql ?_
   by_cases hz:(i:Int)=(X.length:Int)-1
   ·rw[dT_ hz]
    refine e_condT (e_sat (.pu (by rw[if_pos (by omega)];rfl) ?_))
    exact im_
   ·rw[dF_ hz]
    refine e_condF (e_sat (.pu (by rw[if_neg (by omega)];rfl) ?_))
    exact im_
  intro ds z
  refine e_pu .here fun hz=>?_
  subst hz
  refine lg_ ?_
  refine e_call (dput (w:=w) (last:=if i+1=X.length then 1 else 0) (L:=pgX level (blksF b level) i) (level:=level) hk (okBk.good hok) (by split <;> omega) hLi) (.cons (by repeat constructor) (.cons (by repeat constructor) (.cons (by repeat constructor) .nil))) fun _=>?_
  refine nr_ ?_
  refine ad_ ?_
  refine e_next1 (m-1) (by omega) (.ex (i+1) (.all ?_))
  refine nr_ ?_
  rw[hst,hXl]
  refine .pu ⟨by omega,by norm_cast⟩ ?_
  exact im_
 ·rw[dF_ hlt]
  have hie:i=X.length:=by omega
  subst hie
  rw[<- hdX]
  refine e_condF (c_ (Go.Proofs.YtndojgomlkpeaaaGreatDoor.B.bytes (l:=dflX b level)) fun _=>?_)
  rename_i q
  rw[hdB,hE]
  refine rt_ q ?_
  exact im_
end Go.Proofs.YtndojgomlkpeaaaGreatDoor.IF
namespace Go.Proofs.YtndojgomlkpeaaaGreatDoor.GZ
open Go Go.Proofs Go.RowKit Sh Sl T IF
theorem v_unx {P:Program}{W:World}{q:IntKind}{a:Int}:RunV P W [] (sUn .xor (.int q a)) (.int q (bitOp .xor q (if q.signed then-1 else q.max) a)):=fun w _=>by
 simp[sUn,Op.unary,Op.intBits,bitOp]
theorem v_inv {P:Program}{W:World}{a:Nat}(h:a<4294967296):RunV P W [] (sUn .xor (.int .u32 (a:Int))) (.int .u32 (inv a:Int)):=by
 have:=v_unx (P:=P) (W:=W) (q:= .u32) (a:=(a:Int))
 unfold inv
 rw[show(if IntKind.u32.signed=true then(-1:Int)else IntKind.u32.max)=((4294967295:Nat):Int)from rfl,xor32 (by decide) h]at this
 exact this
def Un (n:Nat)(f:Nat->Nat):Array Value:=((List.range n).map fun j=>Value.int .u32 (f j:Int)).toArray
theorem Un_size (n:Nat)(f:Nat->Nat):(Un n f).size=n:=by simp[Un]
theorem Un_get {n j:Nat}{f:Nat->Nat}(h:j<n):(Un n f)[j]? =some (.int .u32 (f j:Int)):=by simp[Un,h]
theorem Un_ext {n:Nat}{f:Nat->Nat}{m:Array Value}(hm:m.size=n)(h:∀j,j<n->m[j]? =some (.int .u32 (f j:Int))):Un n f=m:=by
 apply Array.ext_getElem?
 intro j
 by_cases c:j<n
 ·rw[Un_get c,h j c]
 ·rw[Array.getElem?_eq_none (by rw[Un_size];omega),Array.getElem?_eq_none (by omega)]
theorem Un_set {n j:Nat}{f:Nat->Nat}{v:Nat}:(Un n f).setIfInBounds j (.int .u32 (v:Int))=Un n fun i=>if i=j then v else f i:=by
 refine(Un_ext (by simp[Un_size]) fun i hi=>?_).symm
 rw[Array.getElem?_setIfInBounds]
 by_cases c:i=j
 ·subst c;rw[if_pos rfl,if_pos (by rw[Un_size];exact hi),if_pos rfl]
 ·rw[if_neg (fun h=>c h.symm),if_neg c,Un_get hi]
theorem Un_congr {n:Nat}{f g:Nat->Nat}(h:∀j,j<n->f j=g j):Un n f=Un n g:=Un_ext (Un_size n g) fun j hj=>by rw[Un_get hj,h j hj]
theorem Un_one {n:Nat}{f:Nat->Nat}:∀u∈(Un n f).toList,u.oneCell'=true:=fun u hu=>by
 simp only[Un,List.mem_map]at hu
 obtain⟨j,_,rfl⟩:=hu
 rfl
theorem zero256:Tryz.zeroCells190=Un 256 fun _=>0:=by kernel_rfl
theorem table {W:World}:Cn p_ 140 [] W [] (fun _:Unit=> .agg (Un 256 tbl)) (fun _=>[]):=by
 (refine Shp.cn (Sg.g_ Tryz.call140 Tryz.func140 (an:={loops:=[(3,[4]),(7,[3,9])]})) fun F=>?_;simp only[ca_,na_])
 refine e_new (fun w=>Tryz.zeroValue190 w) fun g0=>?_
 refine e_new (fun w=>Tryz.zeroValue190 w) fun g1=>?_
 rw[cells_agg,zero256]
 refine e_loop1 (fun m y=>(ex fun i:Nat=>all [pu (m+i=256/\y= .int .i64 (i:Int)),pt g1 (.cells (Un 256 fun j=>if j<i then tbl j else 0) 190 (0,0))])::pt g0 (.cells (Un 256 fun _=>0) 190 (0,0))::F) 256 ?_ ?_
 ·refine .ex 0 (.all ?_)
  refine nr_ ?_
  rw[Un_congr (f:=fun j=>if j<0 then tbl j else 0) (g:=fun _=>0) (fun j _=>by simp)]
  refine .pu ⟨rfl,rfl⟩ ?_
  exact im_
 intro m ds y
 refine e_ex .here fun i=>e_all .here ?_
 refine nr_ ?_
 refine e_pu .here fun hi=>?_
 obtain⟨hmi,rfl⟩:=hi
 refine o_ v_lss ?_
 by_cases hlt:(i:Int)<256
 ·rw[dT_ hlt]
  refine e_condT (o_ (v_conv (q:= .u32)) ?_)
  rw[wrapu32 (n:=i) (by omega)]
  refine e_loop2 (fun m2 y z=>pu (∃k:Nat,m2+k=8/\y= .int .u32 (stps k i:Int)/\z= .int .i64 (k:Int))::pt g1 (.cells (Un 256 fun j=>if j<i then tbl j else 0) 190 (0,0))::pt g0 (.cells (Un 256 fun _=>0) 190 (0,0))::F) 8 ?_ ?_
  ·refine .pu ⟨0,rfl,rfl,rfl⟩ ?_
   exact im_
  intro m2 ds y z
  refine e_pu .here fun hk=>?_
  obtain⟨k,hmk,rfl,rfl⟩:=hk
  have hs:=stps_lt k (c:=i) (by omega)
  have hsn:=stps_snoc k i
  refine o_ v_lss ?_
  by_cases hlk:(k:Int)<8
  ·rw[dT_ hlk]
   refine e_condT (o_ v_and ?_)
   rw[and1_32 hs]
   refine o_ v_eql ?_
   by_cases hodd:((stps k i%2:Nat):Int)=1
   ·rw[dT_ hodd]
    refine e_condT (o_ (v_shr (by decide)) ?_)
    rw[show(1:Int)=((1:Nat):Int)from rfl,shr32 (by omega)]
    refine o_ v_xor ?_
    rw[show(3988292384:Int)=((3988292384:Nat):Int)from rfl,xor32 (by omega) (by decide)]
    refine ad_ ?_
    refine e_next2 (m2-1) (by omega) (.pu ⟨k+1,by omega,?_,by rfl⟩ ?_)
    ·rw[hsn,stp,if_pos (by omega)];rfl
    exact im_
   ·rw[dF_ hodd]
    refine e_condF (o_ (v_shr (by decide)) ?_)
    rw[show(1:Int)=((1:Nat):Int)from rfl,shr32 (by omega)]
    refine ad_ ?_
    refine e_next2 (m2-1) (by omega) (.pu ⟨k+1,by omega,?_,by rfl⟩ ?_)
    ·rw[hsn,stp,if_neg (by omega)]
    exact im_
  have hk8:k=8:=by omega
  subst hk8
  rw[dF_ hlk]
  refine e_condF (o_ (v_iaA i rfl (by omega)) ?_)
  refine e_st (.here) (by rw[Un_size];omega) ?_
  rw[Un_set,Nat.zero_add,Nat.mul_one]
  refine ad_ ?_
  refine e_next1 (m-1) (by omega) (.ex (i+1) (.all ?_))
  refine nr_ ?_
  rw[Un_congr (f:=fun j=>if j<i+1 then tbl j else 0) (g:=fun j=>if j=i then stps 8 i else if j<i then tbl j else 0) (fun j _=>by
   by_cases c:j=i
   ·subst c;rw[if_pos (by omega),if_pos rfl];exact tbl_eq _
   ·rw[if_neg c]
    by_cases d:j<i
    ·rw[if_pos (by omega),if_pos d]
    ·rw[if_neg (by omega),if_neg d])]
  refine .pu ⟨by omega,by rfl⟩ ?_
  exact im_
 have hi256:i=256:=by omega
 subst hi256
 rw[dF_ hlt,Un_congr (f:=fun j=>if j<256 then tbl j else 0) (g:=tbl) (fun j hj=>if_pos hj)]
 refine e_condF (p_op (v_ldAgg (Un_size _ _)) ?_)
 refine e_stAgg (.there .here) (Un_size _ _) (Un_size _ _) Un_one ?_
 refine p_st (v_resA (Un_size _ _)) ?_
 refine rt_ () ?_
 exact im_
theorem bl_one (l:List UInt8):∀u∈(l.map Sl.B).toArray.toList,u.oneCell'=true:=by
 rw[List.toList_toArray]
 exact B_one
theorem add {W:World}{s:Nat}{a:Option Addr}{c:Nat}{b:List UInt8}{A:HP}(hs:s<4294967296)(hr:RdB W A a b.length (b.map Sl.B))(hb:b.length<=4611686018427387904):
  Cn p_ 104 [.int .u32 (s:Int),.slice a b.length c] W [A] (fun _:Unit=> .int .u32 (addF s b:Int)) (fun _=>[A]):=by
 (refine Shp.cn (Sg.g_ Tryz.call104 Tryz.func104 (an:={loops:=[(4,[6,14])]})) fun F=>?_;simp only[ca_,na_])
 refine c_ table fun _=>?_
 refine e_new (fun w=>Tryz.zeroValue190 w) fun g0=>?_
 rw[cells_agg,zero256]
 refine e_stAgg .here (Un_size _ _) (Un_size _ _) Un_one ?_
 refine o_ (v_inv hs) ?_
 refine o_ v_len (e_loop2 (fun m y z=>pu (∃i:Nat,m+i=b.length/\y= .int .u32 (crcF (inv s) (b.take i):Int)/\z= .int .i64 (i:Int))::pt g0 (.cells (Un 256 tbl) 190 (0,0))::A::F) b.length ?_ ?_)
 ·refine .pu ⟨0,by omega,rfl,rfl⟩ ?_
  exact im_
 intro m ds y z
 refine e_pu .here fun hk=>?_
 obtain⟨i,hmi,rfl,rfl⟩:=hk
 refine o_ v_lss ?_
 by_cases hlt:(i:Int)<(b.length:Int)
 ·rw[dT_ hlt]
  have hi:i<b.length:=by omega
  obtain⟨g,o,rfl,_⟩:=hr.at_ (by omega)
  have hst:crcF (inv s) (b.take (i+1))=tbl ((crcF (inv s) (b.take i)%256) ^^^ b[i].toNat) ^^^ (crcF (inv s) (b.take i) / 256):=by
   rw[List.take_succ_eq_append_getElem hi,crcF_snoc]
  have hcl:=crcF_lt (b.take i) (inv_lt hs)
  obtain⟨C,hC⟩:∃C,C=crcF (inv s) (b.take i):=⟨_,rfl⟩
  rw[<- hC]at hst hcl ⊢
  have hx:=b[i].toNat_lt
  refine e_condT (o_ (v_ia1 i rfl hi) ?_)
  refine p_op (v_ldRd hr (v:= .int .u8 (b[i].toNat:Int)) (B_get hi)) ?_
  refine o_ (v_conv (q:= .u8)) ?_
  rw[wrapu8m]
  refine o_ v_xor ?_
  rw[xor8 (by omega) hx]
  have hxl:=xor_lt8 (a:=C%256) (b:=b[i].toNat) (by omega) hx
  refine o_ (v_iaA _ rfl hxl) ?_
  have hld:(Un 256 tbl)[0+((C%256) ^^^ b[i].toNat) * 1]? =some (.int .u32 (tbl ((C%256) ^^^ b[i].toNat):Int)):=by rw[Nat.zero_add,Nat.mul_one];exact Un_get hxl
  refine p_op (v_ld hld) ?_
  refine o_ (v_shr (by decide)) ?_
  rw[show(8:Int)=((8:Nat):Int)from rfl,shr32 (by omega)]
  refine o_ v_xor ?_
  rw[xor32 (tbl_lt hxl) (by omega),show C / 2^8=C / 256 from rfl,<- hst]
  refine ad_ ?_
  refine e_next2 (m-1) (by omega) (.pu ⟨i+1,by omega,rfl,rfl⟩ ?_)
  exact im_
 have hie:i=b.length:=by omega
 subst hie
 have hcl:=crcF_lt b (inv_lt hs)
 rw[dF_ hlt,List.take_length]
 refine e_condF (o_ (v_inv hcl) ?_)
 refine rt_ () ?_
 exact im_
theorem crc_ {W:World}{a:Option Addr}{c:Nat}{b:List UInt8}{A:HP}(hr:RdB W A a b.length (b.map Sl.B))(hb:b.length<=4611686018427387904):
  Cn p_ 72 [.slice a b.length c] W [A] (fun _:Unit=> .int .u32 (crc b:Int)) (fun _=>[A]):=by
 (refine Shp.cn (Sg.g_ Tryz.call72 Tryz.func72) fun F=>?_;simp only[ca_,na_])
 refine c_ (add (s:=0) (by decide) hr hb) fun _=>?_
 refine rt_ () ?_
 exact .refl
theorem four_ {W:World}{n:Nat}{a:Option Addr}{c:Nat}{b:List UInt8}(hn:n<4294967296)(hb:b.length<=70368744177664):
  Cn p_ 71 [.slice a b.length c,.int .u32 (n:Int)] W [Sl 1 5 a c b.length (b.map Sl.B)] (fun q:Option Addr × Nat=> .slice q.1 (b++four n).length q.2) (fun q=>[Sl 1 5 q.1 q.2 (b++four n).length ((b++four n).map Sl.B)]):=by
 (refine Shp.cn (Sg.g_ Tryz.call71 Tryz.func71) fun F=>?_;simp only[ca_,na_])
 refine o_ (v_conv (q:= .u8)) ?_
 rw[wrapu8m]
 refine o_ (v_shr (by decide)) ?_
 rw[show(8:Int)=((8:Nat):Int)from rfl,shr32 (by omega)]
 refine o_ (v_conv (q:= .u8)) ?_
 rw[wrapu8m]
 refine o_ (v_shr (by decide)) ?_
 rw[show(16:Int)=((16:Nat):Int)from rfl,shr32 (by omega)]
 refine o_ (v_conv (q:= .u8)) ?_
 rw[wrapu8m]
 refine o_ (v_shr (by decide)) ?_
 rw[show(24:Int)=((24:Nat):Int)from rfl,shr32 (by omega)]
 refine o_ (v_conv (q:= .u8)) ?_
 rw[wrapu8m]
 have hf:(four n).map Sl.B=[.int .u8 ((n%256:Nat):Int),.int .u8 ((n / 2^8%256:Nat):Int),.int .u8 ((n / 2^16%256:Nat):Int),.int .u8 ((n / 2^24%256:Nat):Int)]:=by
  unfold four
  simp only[List.map_cons,List.map_nil]
  rw[Go.Proofs.YtndojgomlkpeaaaGreatDoor.M.B_ofNat (by omega),Go.Proofs.YtndojgomlkpeaaaGreatDoor.M.B_ofNat (by omega),Go.Proofs.YtndojgomlkpeaaaGreatDoor.M.B_ofNat (by omega),Go.Proofs.YtndojgomlkpeaaaGreatDoor.M.B_ofNat (by omega)]
 refine e_bslN (vs:=(four n).map Sl.B) rfl (by rw[hf];rfl) (by intro v hv;obtain⟨c,_,rfl⟩:=List.mem_map.1 hv;rfl) (by omega) fun gd=>?_
 refine e_app (m:=4) (news:=(four n).map Sl.B) (.there .here) (src_pt (s:=1) (e':=5) (by kernel_rfl) .here (by rfl) (bl_one (four n))) (by omega) (by omega) fun a2 c2=>?_
 rw[<- List.map_append,show b.length+4=(b++four n).length by rw[List.length_append,show(four n).length=4 from rfl]]
 refine rt_ ((a2,c2)) ?_
 exact im_
theorem head_ {W : World} {n : Int} : Cn p_ 80 [.int .i64 n] W [] (fun q : Option Addr × Nat => .slice q.1 (gzH (n % 4294967296).toNat).length q.2) (fun q => [Sl 1 5 q.1 q.2 (gzH (n % 4294967296).toNat).length ((gzH (n % 4294967296).toNat).map Sl.B)]) := by
 obtain ⟨m, hm⟩ : ∃ m, m = (n % 4294967296).toNat := ⟨_, rfl⟩
 have hml : m < 4294967296 := by omega
 rw [<- hm]
 (refine Shp.cn (Sg.g_ Tryz.call80 Tryz.func80) fun F => ?_; simp only [ca_, na_])
 refine e_bslN (vs := ([31, 139, 8, 0] : List UInt8).map Sl.B) rfl rfl (by intro v hv; obtain ⟨c, _, rfl⟩ := List.mem_map.1 hv; rfl) (by omega) fun g1 => ?_
 refine e_opN (v_conv (q := .u32)) .nil ?_
 rw [wrapu32m, <- hm]
 refine e_own (s := 1) (e := 5) (cs := ([31, 139, 8, 0] : List UInt8).map Sl.B) (n := 4) .here rfl (by decide) ?_
 (refine' e_call (four_ (a := some ⟨g1, 0, none⟩) (c := 4) (b := [31, 139, 8, 0]) hml (by decide)) ?hp fun _ => ?_; (case hp => (repeat (first | exact Picks.nil | (apply Picks.cons; (focus repeat constructor))))); (try simp only [ca_, na_, Bool.not_true, Bool.not_false]))
 rename_i q
 obtain ⟨qa, qc⟩ := q
 (try dsimp only)
 refine e_bslN (vs := ([0, 255] : List UInt8).map Sl.B) rfl rfl (by intro v hv; obtain ⟨c, _, rfl⟩ := List.mem_map.1 hv; rfl) (by omega) fun gd => ?_
 have h8 : (31 :: 139 :: 8 :: 0 :: four m).length = 8 := rfl
 refine e_app (m := 2) (news := ([0, 255] : List UInt8).map Sl.B) (.there .here) (src_pt (s := 1) (e' := 5) (by kernel_rfl) .here (by rfl) (bl_one [0, 255])) (by rw [h8]; omega) (by rw [h8]; omega) fun a2 c2 => ?_
 rw [<- List.map_append, show (31 :: 139 :: 8 :: 0 :: four m).length + 2 = (gzH m).length from rfl, show (31 :: 139 :: 8 :: 0 :: four m) ++ [0, 255] = gzH m from rfl]
 (first | refine e_ret ((a2, c2)) rfl ?_ | refine e_retT ((a2, c2)) ?_)
 (repeat (first | exact .refl | exact .nil | (apply Imp.pick; (focus ((repeat constructor); done))) | refine .drop ?_))
theorem gzH_len (m:Nat):(gzH m).length=10:=rfl
theorem pack {W:World}{a:Option Addr}{c:Nat}{b:List UInt8}{A:HP}{level mtime:Int}(hr:RdB W A a b.length (b.map Sl.B))(hc:b.length<=c)(hb:b.length<=4611686018427387904):
  Cn p_ 50 [.slice a b.length c,.int .i64 level,.int .i64 mtime] W [A] (fun q:Option Addr × Nat=> .tuple #[.slice q.1 (pkB b level mtime).length q.2,.int .i64 (pkE b level mtime)]) (fun q=>[Sl 1 5 q.1 q.2 (pkB b level mtime).length ((pkB b level mtime).map Sl.B),A]):=by
 have bad:∀(e:Int) (L:List HP),pkE b level mtime=e->e≠0->Ent W (A::L) (fun w=>∃q:Option Addr × Nat,(.tuple #[.slice none 0 0,.int .i64 e]:Value)= .tuple #[.slice q.1 (pkB b level mtime).length q.2,.int .i64 (pkE b level mtime)]/\sat W ([Sl 1 5 q.1 q.2 (pkB b level mtime).length ((pkB b level mtime).map Sl.B),A]++L) w):=by
  intro e L h h0
  have hv:pkB b level mtime=[]:=by unfold pkB;rw[if_neg (by rw[h];exact h0)]
  rw[h,hv]
  refine e_ret (none,0) rfl ?_
  exact imp_nil .refl
 (refine Shp.cn (Sg.g_ Tryz.call50 Tryz.func50) fun F=>?_;simp only[ca_,na_])
 refine o_ v_lss ?_
 by_cases h0:mtime<0
 ·rw[dT_ h0]
  exact e_gdF1 (e_gdF1 (o_ v_pickT (e_condT (bad 1 F (by unfold pkE;rw[if_pos (.inl h0)]) (by decide)))))
 rw[dF_ h0]
 refine e_gdT (e_gdT (o_ v_gtr ?_))
 by_cases h1:4294967295<mtime
 ·rw[dT_ h1]
  exact o_ v_pickF (e_condT (bad 1 F (by unfold pkE;rw[if_pos (.inr h1)]) (by decide)))
 rw[dF_ h1]
 have hE:pkE b level mtime=dflE b level:=by unfold pkE;rw[if_neg (by omega)]
 refine o_ v_pickF (e_condF (e_call (deflate (c:=c) (level:=level) hr hc) (.cons (by repeat constructor) .nil) fun q=>?_))
 obtain⟨qa,qc⟩:=q
 refine nr_ ?_
 (try dsimp only)
 refine o_ (v_ext (v:= .slice qa (dflB b level).length qc) rfl) ?_
 refine o_ (v_ext (v:= .int .i64 (dflE b level)) rfl) ?_
 refine o_ v_neq ?_
 by_cases hd:dflE b level=0
 rotate_left
 ·rw[dT_ hd]
  refine e_condT (e_imp (M:=A::F) im_ ?_)
  exact bad _ F hE hd
 rw[dF_ (fun h=>h hd)]
 have hpb:pkB b level mtime=gzH mtime.toNat++dflB b level++gzT b:=by unfold pkB;rw[if_pos (by rw[hE];exact hd)]
 have hbl:=(dflE_0 hd).2.2
 have hdl:=dfl_small hd
 refine e_condF (c_ (head_ (n:=mtime)) fun _=>?_)
 rename_i q2
 obtain⟨ha,hc2⟩:=q2
 (try dsimp only)
 rw[show mtime%4294967296=mtime from Int.emod_eq_of_lt (by omega) (by omega)]
 have hhl:=gzH_len mtime.toNat
 obtain⟨D,hD⟩:∃D,D=dflB b level:=⟨_,rfl⟩
 rw[<- hD]at hdl hpb ⊢
 obtain⟨H0,hH0⟩:∃H0,H0=gzH mtime.toNat:=⟨_,rfl⟩
 rw[<- hH0]at hhl hpb ⊢
 have hDl:D.length<=1048576:=by omega
 clear hdl
 refine e_slfacts (by(repeat constructor):Pick _ (Sl 1 5 qa qc D.length (D.map Sl.B)) _) fun _ g2 g3 g4=>?_
 have hrD:RdB W (Sl 1 5 qa qc D.length (D.map Sl.B)) qa D.length (D.map Sl.B):=rd_sl (by rw[List.length_map]) g4
 refine e_app (m:=D.length) (news:=D.map Sl.B) .here (src_rd (A:=Sl 1 5 qa qc D.length (D.map Sl.B)) (e':=5) (by kernel_rfl) (by repeat constructor) hrD (rd_none_ hrD) B_one) (by omega) (by omega) fun a3 c3=>?_
 rw[<- List.map_append,<- List.length_append]
 refine e_call (crc_ (c:=c) hr hb) (.cons (by repeat constructor) .nil) fun _=>?_
 refine nr_ ?_
 refine c_ (four_ (a:=a3) (c:=c3) (b:=H0++D) (crc_lt b) (by rw[List.length_append];omega)) fun _=>?_
 rename_i q4
 obtain⟨a4,c4⟩:=q4
 (try dsimp only)
 refine o_ v_len (o_ (v_conv (q:= .u32)) ?_)
 rw[wrapu32m,show((b.length:Int)%4294967296).toNat=b.length%4294967296 by omega]
 refine c_ (four_ (a:=a4) (c:=c4) (b:=H0++D++four (crc b)) (n:=b.length%4294967296) (by omega) (by rw[List.length_append,List.length_append];have:(four (crc b)).length=4:=rfl;omega)) fun _=>?_
 rename_i q5
 obtain⟨a5,c5⟩:=q5
 (try dsimp only)
 have hfin:H0++D++four (crc b)++four (b.length%4294967296)=pkB b level mtime:=by rw[hpb];unfold gzT;simp only[List.append_assoc]
 rw[hfin,hE,hd]
 refine rt_ ((a5,c5)) ?_
 exact im_
end Go.Proofs.YtndojgomlkpeaaaGreatDoor.GZ
namespace Go.Proofs.YtndojgomlkpeaaaGreatDoor.FD
open Go Go.Proofs Go.RowKit Sh Sl T IF GZ
theorem wk_take {l:List Fd}{i:Nat}(h:i<l.length):(l.take (i+1)).map wkF++l.drop (i+1)=((l.take i).map wkF++l.drop i).set i (wkF l[i]):=by
 have e:(l.take i).map wkF++l.drop i=(l.take i).map wkF++l[i]::l.drop (i+1):=by rw[List.drop_eq_getElem_cons h]
 have hl:((l.take i).map wkF).length=i:=by rw[List.length_map,List.length_take];omega
 rw[e,List.set_append_right _ _ (by omega),hl,Nat.sub_self,List.take_succ_eq_append_getElem h,List.map_append]
 simp only[List.map_cons,List.map_nil,List.append_assoc,ca_,na_,List.set_cons_zero]
theorem flat_set {l:List Fd}{i:Nat}{n v v':List UInt8}(h:l[i]? =some (n,v)):(l.set i (n,v')).flatMap pFd=(l.flatMap pFd).set (i * 2+1) (txt v'):=by
 induction l generalizing i with
 |nil=>cases h
 |cons x r ih=>
  cases i with
  |zero=>
   simp only[List.getElem?_cons_zero,Option.some.injEq]at h
   subst h
   rfl
  |succ i=>
   simp only[List.getElem?_cons_succ]at h
   have:=ih h
   rw[List.set_cons_succ,List.flatMap_cons,List.flatMap_cons,this]
   obtain⟨a,b⟩:=x
   rw[show(i+1) * 2+1=i * 2+1+1+1 by omega]
   rfl
theorem set_same {l:List Fd}{i:Nat}{x:Fd}(h:l[i]? =some x):l.set i x=l:=by
 induction l generalizing i with
 |nil=>rfl
 |cons y r ih=>
  cases i with
  |zero=>simp only[List.getElem?_cons_zero,Option.some.injEq]at h;subst h;rfl
  |succ i=>simp only[List.getElem?_cons_succ]at h;rw[List.set_cons_succ,ih h]
theorem wk_len {l:List Fd}{i:Nat}(h:i<=l.length):((l.take i).map wkF++l.drop i).length=l.length:=by
 rw[List.length_append,List.length_map,List.length_take,List.length_drop];omega
theorem wk_at {l:List Fd}{i:Nat}(h:i<l.length):((l.take i).map wkF++l.drop i)[i]? =some l[i]:=by
 rw[List.getElem?_append_right (by rw[List.length_map,List.length_take];omega),List.length_map,List.length_take,show i-min i l.length=0 by omega,List.getElem?_drop,Nat.add_zero,List.getElem?_eq_getElem h]
theorem tagF_le (v:List UInt8):(tagF v).1.2.length<=v.length:=by
 unfold tagF
 split
 ·have h1:(tagV v).length<=v.length:=by unfold tagV;split <;> simp
  show(mid (tagV v)).length<=v.length
  unfold mid sub
  simp only[List.length_take,List.length_drop]
  omega
 ·simp
theorem cpack {W : World} [hG : Gp W] {o : Nat} {st level : Int} {X : List Fd} {D : List UInt8} {a ad : Option Addr} {c cd : Nat} {AX AD : HP} (hA : RdF W AX a X) (hX : zF X ≤ 2097152) (hB : RdB W AD ad D.length (D.map Sl.B)) (hc : D.length ≤ cd) (hD : D.length ≤ 4611686018427387904) :
  Cn p_ 33 [.pointer (some ⟨o, 0, none⟩), .int .i64 level] W [pt o (.cells #[.int .i64 st, .slice a X.length c, .slice ad D.length cd] 25), AX, AD]
   (fun _ : (Option Addr × Nat) × (Option Addr × Nat) => .bool (decide (pkE D level 0 = 0)))
   (fun q => if pkE D level 0 = 0 then [pt o (.cells #[.int .i64 st, .slice q.1.1 (pakX X (pkB D level 0)).length q.1.2, .slice q.2.1 (pkB D level 0).length q.2.2] 25), Sl 2 52 q.1.1 q.1.2 (pakX X (pkB D level 0)).length ((pakX X (pkB D level 0)).flatMap pFd), Sl 1 5 q.2.1 q.2.2 (pkB D level 0).length ((pkB D level 0).map Sl.B)]
    else [pt o (.cells #[.int .i64 st, .slice a X.length c, .slice ad D.length cd] 25), AX, AD]) := by
 (refine Shp.cn (Sg.g_ Tryz.call33 Tryz.func33 (an := { loops := [(6, [31])] })) fun F => ?_; simp only [ca_, na_])
 refine e_opN v_nil .nil ?_; refine e_opN v_fa0 .nil ?_; (((refine' e_opN (v_ldN ?hc) ?hi ?_); (case hi => exact .pick (by repeat constructor) .nil); (case hc => repeat constructor)))
 (refine' e_call (pack (c := cd) (level := level) (mtime := 0) hB hc hD) ?hp fun _ => ?_; (case hp => (repeat (first | exact Picks.nil | (apply Picks.cons; (focus repeat constructor))))); (try simp only [ca_, na_, Bool.not_true, Bool.not_false]))
 rename_i q
 obtain ⟨ga, gc⟩ := q
 (try dsimp only)
 refine e_opN (v_ext (v := .slice ga (pkB D level 0).length gc) rfl) .nil ?_
 refine e_opN (v_ext (v := .int .i64 (pkE D level 0)) rfl) .nil ?_
 refine e_opN v_neq .nil ?_
 by_cases hE : pkE D level 0 = 0
 rotate_left
 ·rw [dT_ hE, dF_ hE]
  simp only [if_neg hE]
  refine e_condT ?_
  (first | refine e_ret (((none, 0), (none, 0))) rfl ?_ | refine e_retT (((none, 0), (none, 0))) ?_)
  (repeat (first | exact .refl | exact .nil | (apply Imp.pick; (focus ((repeat constructor); done))) | refine .drop ?_))
 have hgl : (pkB D level 0).length ≤ 1048576 := by
  have h2 : pkB D level 0 = gzH 0 ++ dflB D level ++ gzT D := by unfold pkB; rw [if_pos hE]; rfl
  have h1 : dflE D level = 0 := by unfold pkE at hE; rwa [if_neg (by omega)] at hE
  obtain ⟨h0, _, h3⟩ := dflE_0 h1
  have h4 := dflX_len (b := D) h0
  have h5 := dflB_len h1
  rw [h2, List.length_append, List.length_append, gzH_len]
  have : (gzT D).length = 8 := rfl
  omega
 simp only [if_pos hE]
 rw [dT_ hE, dF_ (fun h => h hE)]
 obtain ⟨G, hG2⟩ : ∃ G, G = pkB D level 0 := ⟨_, rfl⟩
 rw [← hG2] at hgl ⊢
 refine e_condF ?_; refine e_opN v_nil .nil ?_; refine e_opN v_fa0 .nil ?_; (((refine' e_opN (v_ldN ?hc) ?hi ?_); (case hi => exact .pick (by repeat constructor) .nil); (case hc => repeat constructor)))
 refine e_bslN (vs := [txt kCL, txt kAR]) rfl rfl (by intro v hv; simp at hv; rcases hv with rfl | rfl <;> rfl) (by decide) fun gn => ?_
 have hN : RdB W (pt gn (.cells #[txt kCL, txt kAR] 9)) (some ⟨gn, 0, none⟩) [kCL, kAR].length ([kCL, kAR].map txt) := rd_pt (cs := [txt kCL, txt kAR]) rfl
 refine e_call (without (N := [kCL, kAR]) (nc := 2) hA (z_ok (by omega)) hN (by decide) (by decide)) (.cons (by repeat constructor) (.cons (by repeat constructor) .nil)) fun r => ?_
 obtain ⟨wa, wc⟩ := r
 (try simp only [ca_, na_, -eq_self])
 (try dsimp only)
 have hwl := with_len X [kCL, kAR]
 have hzl := z_len X
 have hzw : ∀ f ∈ withF X [kCL, kAR], f.1.length ≤ 2097152 ∧ f.2.length ≤ 2097152 := fun f hf => by
  have := z_mem (List.mem_filter.1 hf).1
  omega
 obtain ⟨Y, hY⟩ : ∃ Y, Y = withF X [kCL, kAR] := ⟨_, rfl⟩
 have hpak : pakX X G = Y.map wkF ++ [(kCE, kGz), (kCL, dig G.length)] := by rw [hY]; rfl
 rw [← hY] at hwl hzw ⊢
 rw [hpak]
 refine e_opN v_len .nil ?_
 refine e_slfacts (by (repeat constructor) : Pick _ (Sl 2 52 wa wc Y.length (Y.flatMap pFd)) _) fun _ _ _ hs => ?_
 refine e_loop1 (fun m y => (ex fun i : Nat => all [pu (m + i = Y.length ∧ y = .int .i64 (i : Int)), Sl 2 52 wa wc Y.length (((Y.take i).map wkF ++ Y.drop i).flatMap pFd)]) :: pt o (.cells #[.int .i64 st, .slice a X.length c, .slice ad D.length cd] 25) :: Sl 1 5 ga gc G.length (G.map Sl.B) :: F) Y.length ?_ ?_
 ·refine .ex 0 (.all ?_)
  (try simp only [ca_, na_, -eq_self])
  refine .pu ⟨rfl, rfl⟩ ?_
  rw [List.take_zero, List.map_nil, List.nil_append, List.drop_zero]
  (repeat (first | exact .refl | exact .nil | (apply Imp.pick; (focus ((repeat constructor); done))) | refine .drop ?_))
 intro m ds y
 refine e_ex .here fun i => e_all .here ?_
 (try simp only [ca_, na_, -eq_self])
 refine e_pu .here fun hi => ?_
 obtain ⟨hmi, rfl⟩ := hi
 refine e_ask v_lss .nil (fun h => ?_) (fun h => ?_)
 ·have hin : i < Y.length := by omega
  obtain ⟨wg, rfl⟩ := hs (by omega)
  have hat := wk_at hin
  have hln := wk_len (Nat.le_of_lt hin)
  have hnx := wk_take hin
  have hvl := hzw _ (List.getElem_mem hin)
  obtain ⟨f, hf⟩ : ∃ f, f = Y[i] := ⟨_, rfl⟩
  rw [← hf] at hat hnx hvl
  obtain ⟨Z, hZ⟩ : ∃ Z, Z = (Y.take i).map wkF ++ Y.drop i := ⟨_, rfl⟩
  rw [← hZ] at hat hnx hln ⊢
  obtain ⟨n, v⟩ := f
  obtain ⟨hnl, hvl⟩ := hvl
  (try dsimp only at hvl hnl)
  refine e_condT ?_
  refine e_opN (v_ia i rfl hin) .nil ?_
  rw [← hln]
  have hiz : i < Z.length := by omega
  have hzi : Z[i] = (n, v) := by rw [List.getElem?_eq_getElem hiz] at hat; exact Option.some.inj hat
  have hld := ld_fdA (W := W) (A := Sl 2 52 (some ⟨wg, 0, none⟩) wc Z.length (Z.flatMap pFd)) (l := Z) (i := i) (g := wg) (o := 0) rdF_sl hiz
  rw [hzi] at hld
  refine e_opN hld (.pick (by repeat constructor) .nil) ?_
  unfold vFd
  refine e_newA fun g => ?_; (((refine' e_stAgg ?hp ?hn ?hv ?h1 ?_); (case hp => (repeat constructor)); (case hn => rfl); (case hv => rfl); (case h1 => (intro u hu; simp at hu; rcases hu with rfl | rfl <;> rfl)))); refine e_opN v_fa0 .nil ?_; (((refine' e_opN (v_ldN ?hc) ?hi ?_); (case hi => exact .pick (by repeat constructor) .nil); (case hc => repeat constructor)))
  refine e_call (parseTag (l := v) (by omega)) .nil fun _ => ?_
  (try simp only [ca_, na_, -eq_self])
  refine e_opN (v_ext (v := vTag (tagF v).1) rfl) .nil ?_
  refine e_opN (v_ext (v := .int .i64 (if (tagF v).2 then 0 else 42)) rfl) .nil ?_
  have htl := tagF_le v
  obtain ⟨⟨⟨tw, tt⟩, tk⟩, ht⟩ : ∃ t, t = tagF v := ⟨_, rfl⟩
  have hwk : wkF (n, v) = if tk && eqlF n kETag then (n, tagT (true, tt)) else (n, v) := by unfold wkF; rw [← ht]
  rw [← ht] at htl ⊢
  (try dsimp only at htl)
  (try dsimp only)
  unfold vTag
  refine e_newA fun g => ?_; (((refine' e_stAgg ?hp ?hn ?hv ?h1 ?_); (case hp => (repeat constructor)); (case hn => rfl); (case hv => rfl); (case h1 => (intro u hu; simp at hu; rcases hu with rfl | rfl <;> rfl))))
  refine e_opN v_eql .nil ?_
  cases tk with
  | false =>
   rw [dF_ (by simp)]
   have hst : (Y.take (i + 1)).map wkF ++ Y.drop (i + 1) = Z := by rw [hnx, hwk, Bool.false_and]; exact set_same hat
   refine e_gdF2 ?_; refine e_gdF2 ?_; refine e_gdF2 ?_; refine e_opN v_pickF .nil ?_; refine e_condF ?_; (refine e_opN (v_add (by omega) (by omega)) .nil ?_)
   (try refine e_opN (v_add (by omega) (by omega)) .nil ?_)
   refine e_next1 (m - 1) (by omega) (.ex (i + 1) (.all ?_))
   (try simp only [ca_, na_, -eq_self])
   rw [hst]
   refine .pu ⟨by omega, by norm_cast⟩ ?_
   (repeat (first | exact .refl | exact .nil | (apply Imp.pick; (focus ((repeat constructor); done))) | refine .drop ?_))
  | true =>
   rw [dT_ (by simp)]
   refine e_gdT ?_; refine e_opN v_fa0 .nil ?_; refine e_gdT ?_; (((refine' e_opN (v_ldN ?hc) ?hi ?_); (case hi => exact .pick (by repeat constructor) .nil); (case hc => repeat constructor))); refine e_gdT ?_
   refine e_call (equal (a := n) (b := kETag) (by omega) (by decide)) .nil fun _ => ?_
   (try simp only [ca_, na_, -eq_self])
   cases he : eqlF n kETag with
   | false =>
    have hst : (Y.take (i + 1)).map wkF ++ Y.drop (i + 1) = Z := by rw [hnx, hwk, he, Bool.and_false]; exact set_same hat
    refine e_opN v_pickT .nil ?_; refine e_condF ?_; (refine e_opN (v_add (by omega) (by omega)) .nil ?_)
    (try refine e_opN (v_add (by omega) (by omega)) .nil ?_)
    refine e_next1 (m - 1) (by omega) (.ex (i + 1) (.all ?_))
    (try simp only [ca_, na_, -eq_self])
    rw [hst]
    refine .pu ⟨by omega, by norm_cast⟩ ?_
    (repeat (first | exact .refl | exact .nil | (apply Imp.pick; (focus ((repeat constructor); done))) | refine .drop ?_))
   | true =>
    have hst : (Y.take (i + 1)).map wkF ++ Y.drop (i + 1) = Z.set i (n, tagT (true, tt)) := by rw [hnx, hwk, he]; rfl
    have hfl := flat_set (v' := tagT (true, tt)) hat
    have hfll : i * 2 + 1 < (Z.flatMap pFd).length := by rw [flat_len (f := pFd) (s := 2) (fun _ => rfl)]; omega
    refine e_opN v_pickT .nil ?_; refine e_condT ?_; refine e_opN v_fa0 .nil ?_; (((refine' e_stN ?hp ?ho ?_); (case hp => (repeat constructor)); (case ho => repeat constructor))); (((refine' e_opN (v_ldAgg ?hn) ?hi ?_); (case hi => exact .pick (by repeat constructor) .nil); (case hn => rfl)))
    refine e_call (tagText (x := (true, tt)) (by (try dsimp only); omega)) .nil fun _ => ?_
    (try simp only [ca_, na_, -eq_self])
    refine e_opN (v_ia i rfl (by omega)) .nil ?_
    refine e_opN v_fa .nil ?_
    rw [Nat.zero_add]
    refine e_stSl (by repeat constructor) hfll ?_
    refine e_opN (v_add (by omega) (by omega)) .nil ?_
    refine e_next1 (m - 1) (by omega) (.ex (i + 1) (.all ?_))
    (try simp only [ca_, na_, -eq_self])
    rw [hst, hfl]
    refine .pu ⟨by omega, by norm_cast⟩ ?_
    (repeat (first | exact .refl | exact .nil | (apply Imp.pick; (focus ((repeat constructor); done))) | refine .drop ?_))
 ·have : i = Y.length := by omega
  subst this
  rw [List.take_length, List.drop_length, List.append_nil]
  refine e_condF ?_
  refine e_opN v_rv .nil ?_; refine e_opN v_len .nil ?_
  (try refine e_opN v_len .nil ?_)
  (refine' e_call (digits (i := (G.length : Int)) (by omega) (by omega)) ?hp fun _ => ?_; (case hp => (repeat (first | exact Picks.nil | (apply Picks.cons; (focus repeat constructor))))); (try simp only [ca_, na_, Bool.not_true, Bool.not_false]))
  rw [show Y.length = (Y.map wkF).length by rw [List.length_map]]
  obtain ⟨V, hV⟩ : ∃ V, V = Y.map wkF := ⟨_, rfl⟩
  have hVl : V.length = Y.length := by rw [hV, List.length_map]
  rw [← hV]
  refine e_opN v_rv .nil ?_
  refine e_bslS (n := 2) (vs := [vFd (kCE, kGz), vFd (kCL, dig G.length)]) rfl (by decide) rfl (by intro v hv; simp at hv; rcases hv with rfl | rfl <;> rfl) (by decide) fun gb => ?_
  refine e_app (m := 2) (news := pFd (kCE, kGz) ++ pFd (kCL, dig G.length)) (by (repeat constructor) : Pick _ (Sl 2 52 wa wc V.length (V.flatMap pFd)) _) (src_pt (s := 2) (e' := 52) (by kernel_rfl) .here (by rfl) (by intro u hu; simp [vFd, pFd, Value.cells] at hu; rcases hu with rfl | rfl | rfl | rfl <;> rfl)) (by omega) (by omega) fun a' c' => ?_
  rw [show V.length + 2 = (V ++ [(kCE, kGz), (kCL, dig G.length)]).length by simp, show V.flatMap pFd ++ (pFd (kCE, kGz) ++ pFd (kCL, dig G.length)) = (V ++ [(kCE, kGz), (kCL, dig G.length)]).flatMap pFd by simp]
  refine e_opN v_nil .nil ?_; refine e_opN v_fa0 .nil ?_; (((refine' e_stN ?hp ?ho ?_); (case hp => (repeat constructor)); (case ho => repeat constructor))); refine e_opN v_nil .nil ?_; refine e_opN v_fa0 .nil ?_; (((refine' e_stN ?hp ?ho ?_); (case hp => (repeat constructor)); (case ho => repeat constructor)))
  (first | refine e_ret (((a', c'), (ga, gc))) rfl ?_ | refine e_retT (((a', c'), (ga, gc))) ?_)
  (repeat (first | exact .refl | exact .nil | (apply Imp.pick; (focus ((repeat constructor); done))) | refine .drop ?_))
theorem apply1 {W:World}{bl bx:Nat}{level st:Int}{X:List Fd}{D:List UInt8}{ax ad:Option Addr}{cx cd:Nat}{A:HP}(hA:RdF W A ax X)(hX:zF X<=1100000)(hD:D.length<=4611686018427387904):
  Cn p_ 28 [.pointer (some ⟨bl,0,none⟩),.pointer (some ⟨bx,0,none⟩)] W [pt bl (.cells #[.int .i64 level] 3),pt bx (.cells #[.int .i64 st,.slice ax X.length cx,.slice ad D.length cd] 25),A]
   (fun _:Unit=> .bool ((decide (1<=level)&&decide (level<=9))&&fitB st X D)) (fun _=>[pt bl (.cells #[.int .i64 level] 3),pt bx (.cells #[.int .i64 st,.slice ax X.length cx,.slice ad D.length cd] 25),A]):=by
 (refine Shp.cn (Sg.g_ Tryz.call28 Tryz.func28) fun F=>?_;simp only[ca_,na_])
 refine ln_ ?_
 refine o_ v_geq ?_
 by_cases h1:1<=level
 rotate_left
 ·rw[dF_ h1]
  simp only[Bool.false_and]
  refine e_gdF2 (e_gdF2 (o_ v_pickF (e_gdF2 (e_gdF2 (o_ v_pickF (rt_ () ?_))))))
  exact im_
 rw[dT_ h1]
 refine e_gdT (ln_ ?_);refine e_gdT (o_ v_leq ?_)
 by_cases h2:level<=9
 rotate_left
 ·rw[dF_ h2]
  simp only[Bool.and_false,Bool.false_and]
  refine o_ v_pickT (e_gdF2 (e_gdF2 (o_ v_pickF (rt_ () ?_))))
  exact im_
 rw[dT_ h2]
 simp only[Bool.true_and]
 refine o_ v_pickT (e_gdT (lg_ ?_));refine e_gdT (c_ (fit hA hX hD) fun _=>?_)
 refine o_ v_pickT (rt_ () ?_)
 exact im_
theorem apply2 {W:World}{o:Nat}{st:Int}{X:List Fd}{a:Option Addr}{c:Nat}{bd:Value}[OC bd](hX:zF X<=1100000):
  Cn p_ 29 [.pointer (some ⟨o,0,none⟩)] W [pt o (.cells #[.int .i64 st,.slice a X.length c,bd] 25),Sl 2 52 a c X.length (X.flatMap pFd)] (fun _:Option Addr × Nat=> .bool true)
   (fun q=>[pt o (.cells #[.int .i64 st,.slice q.1 (varyX X).length q.2,bd] 25),Sl 2 52 q.1 q.2 (varyX X).length ((varyX X).flatMap pFd)]):=by
 (refine Shp.cn (Sg.g_ Tryz.call29 Tryz.func29) fun F=>?_;simp only[ca_,na_])
 refine c_ (vary (bd:=bd) hX) fun _=>?_
 rename_i q
 refine rt_ q ?_
 exact im_
theorem apply3 {W:World}[hG:Gl W]{l:List Fd}{g c:Nat}{a:Option Addr}{A:HP}(hA:RdF W A a l)(hl:zF l<=1100000):
  Cn p_ 31 [.pointer (some ⟨g,0,none⟩)] W [pt g (.cells #[.slice a l.length c] 22),A] (fun _:Unit=> .bool (chooB l)) (fun _=>[pt g (.cells #[.slice a l.length c] 22),A]):=by
 (refine Shp.cn (Sg.g_ Tryz.call31 Tryz.func31) fun F=>?_;simp only[ca_,na_])
 refine ln_ ?_
 refine c_ (choose hA hl) fun _=>?_
 refine o_ (v_streq (m:=kGz)) ?_
 rw[show decide (chooF l=kGz)=chooB l by unfold chooF;cases chooB l <;> decide]
 refine rt_ () ?_
 exact im_
theorem apply4 {W : World} [hG : Gp W] {o g : Nat} {st level : Int} {X : List Fd} {D : List UInt8} {a ad : Option Addr} {c cd : Nat} {AX AD : HP} (hA : RdF W AX a X) (hX : zF X ≤ 2097152) (hB : RdB W AD ad D.length (D.map Sl.B)) (hc : D.length ≤ cd) (hD : D.length ≤ 4611686018427387904) :
  Cn p_ 32 [.pointer (some ⟨o, 0, none⟩), .pointer (some ⟨g, 0, none⟩)] W [pt g (.cells #[.int .i64 level] 3), pt o (.cells #[.int .i64 st, .slice a X.length c, .slice ad D.length cd] 25), AX, AD]
   (fun _ : (Option Addr × Nat) × (Option Addr × Nat) => .bool (decide (pkE D level 0 = 0)))
   (fun q => if pkE D level 0 = 0 then [pt g (.cells #[.int .i64 level] 3), pt o (.cells #[.int .i64 st, .slice q.1.1 (pakX X (pkB D level 0)).length q.1.2, .slice q.2.1 (pkB D level 0).length q.2.2] 25), Sl 2 52 q.1.1 q.1.2 (pakX X (pkB D level 0)).length ((pakX X (pkB D level 0)).flatMap pFd), Sl 1 5 q.2.1 q.2.2 (pkB D level 0).length ((pkB D level 0).map Sl.B)]
    else [pt g (.cells #[.int .i64 level] 3), pt o (.cells #[.int .i64 st, .slice a X.length c, .slice ad D.length cd] 25), AX, AD]) := by
 (refine Shp.cn (Sg.g_ Tryz.call32 Tryz.func32) fun F => ?_; simp only [ca_, na_])
 refine ln_ ?_
 refine e_call (cpack (level := level) (st := st) (o := o) (c := c) hA hX hB hc hD) (.cons (by repeat constructor) (.cons (by repeat constructor) (.cons (by repeat constructor) .nil))) fun q => ?_
 by_cases hE : pkE D level 0 = 0
 ·simp only [if_pos hE]
  refine nr_ ?_
  refine rt_ q ?_
  exact im_
 ·simp only [if_neg hE]
  refine nr_ ?_
  refine rt_ q ?_
  exact im_
def stX (X:List Fd)(D:List UInt8)(level:Int)(i:Nat):List Fd:=if i<=1 then X else if i<=3 then varyX X else pakX (varyX X) (pkB D level 0)
def stD_ (D:List UInt8)(level:Int)(i:Nat):List UInt8:=if i<=3 then D else pkB D level 0
theorem z_app (a b:List Fd):zF (a++b)=zF a+zF b:=by
 induction a with
 |nil=>rw[List.nil_append];show zF b=0+zF b;omega
 |cons f r ih=>rw[List.cons_append,zF_cons,zF_cons,ih];omega
theorem vary_z (X:List Fd):zF (varyX X)<=zF X+64:=by
 unfold varyX
 split
 ·omega
 ·rw[z_app]
  have:zF [(kVary,kAE)]<=64:=by decide
  omega
theorem apply {W : World} [hG : Gl W] [hP : Gp W] {l X : List Fd} {D : List UInt8} {st level : Int} {al ax ad : Option Addr} {cl cx cd : Nat} {AL AX AD : HP} (hl : RdF W AL al l) (hl1 : zF l <= 1100000)
  (hA : RdF W AX ax X) (ha : ax = none -> X.length = 0) (hX : zF X <= 1100000) (hB : RdB W AD ad D.length (D.map Sl.B)) (hb : ad = none -> D.length = 0) (hD : D.length <= 1099511627776) :
  Cn p_ 14 [.slice al l.length cl, .agg #[.int .i64 st, .slice ax X.length cx, .slice ad D.length cd], .int .i64 level] W [AL, AX, AD]
   (fun q : (Option Addr × Nat) × (Option Addr × Nat) => .agg #[.int .i64 st, .slice q.1.1 (appR l level st X D).X.length q.1.2, .slice q.2.1 (appR l level st X D).D.length q.2.2])
   (fun q => [AL, AX, AD, Sl 2 52 q.1.1 q.1.2 (appR l level st X D).X.length ((appR l level st X D).X.flatMap pFd), Sl 1 5 q.2.1 q.2.2 (appR l level st X D).D.length ((appR l level st X D).D.map Sl.B)]) := by
 have hzl := z_len X
 have hvz := vary_z X
 (refine S.coding_Apply_s.cn fun F => ?_; unfold S.coding_Apply; simp only [ca_, na_])
 refine e_box1 fun bl => ?_
 refine e_boxA fun bx => ?_
 refine e_box1 fun bv => ?_
 refine e_newA fun b6 => ?_
 refine e_cut1 (fun z => (ex fun q : (Option Addr × Nat) × (Option Addr × Nat) => ex fun o : Nat => all [pu (z = .pointer (some ⟨o, 0, none⟩)), pt o (.cells #[.int .i64 st, .slice q.1.1 X.length q.1.2, .slice q.2.1 D.length q.2.2] 25), Sl 2 52 q.1.1 q.1.2 X.length (X.flatMap pFd), Sl 1 5 q.2.1 q.2.2 D.length (D.map Sl.B)])
   :: pt bl (.cells #[.slice al l.length cl] 22) :: pt bx (.cells #[.int .i64 st, .slice ax X.length cx, .slice ad D.length cd] 25) :: pt bv (.cells #[.int .i64 level] 3) :: pt b6 (.cells #[.int .i64 0, .slice none 0 0, .slice none 0 0] 25) :: AL :: AX :: AD :: F) ?_ ?_
 rotate_left
 ·(refine e_drS ?_); refine e_stD v_fa0 .nil ?_; (((refine' e_stD (v_ldN ?hc) ?hi ?_); (case hi => exact .pick (by repeat constructor) .nil); (case hc => repeat constructor))); refine e_stD v_fa0 .nil ?_; (((refine' e_stD (v_ldN ?hc) ?hi ?_); (case hi => exact .pick (by repeat constructor) .nil); (case hc => repeat constructor))); refine e_stD v_fa0 .nil ?_; (((refine' e_stD (v_ldN ?hc) ?hi ?_); (case hi => exact .pick (by repeat constructor) .nil); (case hc => repeat constructor)))
  refine e_andS ?_ ?_
  ·refine e_nil (s := 2) (e := 52) ?_
   refine e_app (m := X.length) (news := X.flatMap pFd) (by (repeat constructor) : Pick _ (Sl 2 52 none 0 0 []) _) (src_rdG (s := 2) (e' := 52) (by kernel_rfl) (by decide) (by (repeat constructor) : Pick _ AX _) hA ha pFd_one) (by omega) (by omega) fun a1 c1 => ?_
   rw [Nat.zero_add, List.nil_append]
   (((refine e_obl ?hi ?_); (case hi => (repeat (first | exact .refl | exact .nil | (apply Imp.pick; (focus ((repeat constructor); done))) | refine .drop ?_))))); (((refine e_obl ?hi ?_); (case hi => (repeat (first | exact .refl | exact .nil | (apply Imp.pick; (focus ((repeat constructor); done))) | refine .drop ?_))))); (((refine e_obl ?hi ?_); (case hi => (repeat (first | exact .refl | exact .nil | (apply Imp.pick; (focus ((repeat constructor); done))) | refine .drop ?_))))); (((refine e_obl ?hi ?_); (case hi => (repeat (first | exact .refl | exact .nil | (apply Imp.pick; (focus ((repeat constructor); done))) | refine .drop ?_)))))
   refine e_andS ?_ ?_
   ·refine e_nil (s := 1) (e := 5) ?_
    refine e_app (m := D.length) (news := D.map Sl.B) (by (repeat constructor) : Pick _ (Sl 1 5 none 0 0 []) _) (src_rd (e' := 5) (by kernel_rfl) (by (repeat constructor) : Pick _ AD _) hB hb B_one) (by omega) (by omega) fun a2 c2 => ?_
    rw [Nat.zero_add, List.nil_append]
    (((refine e_obl ?hi ?_); (case hi => (repeat (first | exact .refl | exact .nil | (apply Imp.pick; (focus ((repeat constructor); done))) | refine .drop ?_))))); (((refine e_obl ?hi ?_); (case hi => (repeat (first | exact .refl | exact .nil | (apply Imp.pick; (focus ((repeat constructor); done))) | refine .drop ?_))))); refine e_stD v_rv .nil ?_; refine e_newA fun g => ?_; (((refine e_obl ?hi ?_); (case hi => (repeat (first | exact .refl | exact .nil | (apply Imp.pick; (focus ((repeat constructor); done))) | refine .drop ?_))))); (((refine e_obl ?hi ?_); (case hi => (repeat (first | exact .refl | exact .nil | (apply Imp.pick; (focus ((repeat constructor); done))) | refine .drop ?_))))); (((refine e_obl ?hi ?_); (case hi => (repeat (first | exact .refl | exact .nil | (apply Imp.pick; (focus ((repeat constructor); done))) | refine .drop ?_))))); (((refine e_obl ?hi ?_); (case hi => (repeat (first | exact .refl | exact .nil | (apply Imp.pick; (focus ((repeat constructor); done))) | refine .drop ?_))))); (((refine e_obl ?hi ?_); (case hi => (repeat (first | exact .refl | exact .nil | (apply Imp.pick; (focus ((repeat constructor); done))) | refine .drop ?_))))); (((refine e_obl ?hi ?_); (case hi => (repeat (first | exact .refl | exact .nil | (apply Imp.pick; (focus ((repeat constructor); done))) | refine .drop ?_))))); (((refine e_obl ?hi ?_); (case hi => (repeat (first | exact .refl | exact .nil | (apply Imp.pick; (focus ((repeat constructor); done))) | refine .drop ?_))))); (((refine' e_stAgg ?hp ?hn ?hv ?h1 ?_); (case hp => (repeat constructor)); (case hn => rfl); (case hv => rfl); (case h1 => simp [Value.oneCell'])))
    rename Nat => b7
    refine e_sat (.ex ((a1, c1), (a2, c2)) (.ex b7 (.all ?_)))
    (try simp only [ca_, na_, -eq_self])
    refine .pu rfl ?_
    (repeat (first | exact .refl | exact .nil | (apply Imp.pick; (focus ((repeat constructor); done))) | refine .drop ?_))
   ·refine e_newA fun b7 => ?_
    (((refine e_obl ?hi ?_); (case hi => (repeat (first | exact .refl | exact .nil | (apply Imp.pick; (focus ((repeat constructor); done))) | refine .drop ?_))))); (((refine e_obl ?hi ?_); (case hi => (repeat (first | exact .refl | exact .nil | (apply Imp.pick; (focus ((repeat constructor); done))) | refine .drop ?_))))); (((refine e_obl ?hi ?_); (case hi => (repeat (first | exact .refl | exact .nil | (apply Imp.pick; (focus ((repeat constructor); done))) | refine .drop ?_))))); (((refine e_obl ?hi ?_); (case hi => (repeat (first | exact .refl | exact .nil | (apply Imp.pick; (focus ((repeat constructor); done))) | refine .drop ?_))))); (((refine e_obl ?hi ?_); (case hi => (repeat (first | exact .refl | exact .nil | (apply Imp.pick; (focus ((repeat constructor); done))) | refine .drop ?_))))); (((refine e_obl ?hi ?_); (case hi => (repeat (first | exact .refl | exact .nil | (apply Imp.pick; (focus ((repeat constructor); done))) | refine .drop ?_)))))
    refine e_nil (s := 1) (e := 5) ?_
    refine e_app (m := D.length) (news := D.map Sl.B) (by (repeat constructor) : Pick _ (Sl 1 5 none 0 0 []) _) (src_rd (e' := 5) (by kernel_rfl) (by (repeat constructor) : Pick _ AD _) hB hb B_one) (by omega) (by omega) fun a2 c2 => ?_
    rw [Nat.zero_add, List.nil_append]
    (((refine e_obl ?hi ?_); (case hi => (repeat (first | exact .refl | exact .nil | (apply Imp.pick; (focus ((repeat constructor); done))) | refine .drop ?_))))); (((refine e_obl ?hi ?_); (case hi => (repeat (first | exact .refl | exact .nil | (apply Imp.pick; (focus ((repeat constructor); done))) | refine .drop ?_))))); refine e_stS v_rv .nil ?_; (((refine' e_stAgg ?hp ?hn ?hv ?h1 ?_); (case hp => (repeat constructor)); (case hn => rfl); (case hv => rfl); (case h1 => simp [Value.oneCell'])))
    refine e_sat (.ex ((a1, c1), (a2, c2)) (.ex b7 (.all ?_)))
    (try simp only [ca_, na_, -eq_self])
    refine .pu rfl ?_
    (repeat (first | exact .refl | exact .nil | (apply Imp.pick; (focus ((repeat constructor); done))) | refine .drop ?_))
  ·refine e_newA fun b7 => ?_
   (((refine e_obl ?hi ?_); (case hi => (repeat (first | exact .refl | exact .nil | (apply Imp.pick; (focus ((repeat constructor); done))) | refine .drop ?_))))); (((refine e_obl ?hi ?_); (case hi => (repeat (first | exact .refl | exact .nil | (apply Imp.pick; (focus ((repeat constructor); done))) | refine .drop ?_))))); (((refine e_obl ?hi ?_); (case hi => (repeat (first | exact .refl | exact .nil | (apply Imp.pick; (focus ((repeat constructor); done))) | refine .drop ?_))))); (((refine e_obl ?hi ?_); (case hi => (repeat (first | exact .refl | exact .nil | (apply Imp.pick; (focus ((repeat constructor); done))) | refine .drop ?_))))); (((refine e_obl ?hi ?_); (case hi => (repeat (first | exact .refl | exact .nil | (apply Imp.pick; (focus ((repeat constructor); done))) | refine .drop ?_))))); (((refine e_obl ?hi ?_); (case hi => (repeat (first | exact .refl | exact .nil | (apply Imp.pick; (focus ((repeat constructor); done))) | refine .drop ?_)))))
   refine e_nil (s := 2) (e := 52) ?_
   refine e_app (m := X.length) (news := X.flatMap pFd) (by (repeat constructor) : Pick _ (Sl 2 52 none 0 0 []) _) (src_rdG (s := 2) (e' := 52) (by kernel_rfl) (by decide) (by (repeat constructor) : Pick _ AX _) hA ha pFd_one) (by omega) (by omega) fun a1 c1 => ?_
   rw [Nat.zero_add, List.nil_append]
   (((refine e_obl ?hi ?_); (case hi => (repeat (first | exact .refl | exact .nil | (apply Imp.pick; (focus ((repeat constructor); done))) | refine .drop ?_))))); (((refine e_obl ?hi ?_); (case hi => (repeat (first | exact .refl | exact .nil | (apply Imp.pick; (focus ((repeat constructor); done))) | refine .drop ?_))))); (((refine e_obl ?hi ?_); (case hi => (repeat (first | exact .refl | exact .nil | (apply Imp.pick; (focus ((repeat constructor); done))) | refine .drop ?_))))); (((refine e_obl ?hi ?_); (case hi => (repeat (first | exact .refl | exact .nil | (apply Imp.pick; (focus ((repeat constructor); done))) | refine .drop ?_)))))
   refine e_nil (s := 1) (e := 5) ?_
   refine e_app (m := D.length) (news := D.map Sl.B) (by (repeat constructor) : Pick _ (Sl 1 5 none 0 0 []) _) (src_rd (e' := 5) (by kernel_rfl) (by (repeat constructor) : Pick _ AD _) hB hb B_one) (by omega) (by omega) fun a2 c2 => ?_
   rw [Nat.zero_add, List.nil_append]
   (((refine e_obl ?hi ?_); (case hi => (repeat (first | exact .refl | exact .nil | (apply Imp.pick; (focus ((repeat constructor); done))) | refine .drop ?_))))); (((refine e_obl ?hi ?_); (case hi => (repeat (first | exact .refl | exact .nil | (apply Imp.pick; (focus ((repeat constructor); done))) | refine .drop ?_))))); refine e_stS v_rv .nil ?_; (((refine' e_stAgg ?hp ?hn ?hv ?h1 ?_); (case hp => (repeat constructor)); (case hn => rfl); (case hv => rfl); (case h1 => simp [Value.oneCell'])))
   refine e_sat (.ex ((a1, c1), (a2, c2)) (.ex b7 (.all ?_)))
   (try simp only [ca_, na_, -eq_self])
   refine .pu rfl ?_
   (repeat (first | exact .refl | exact .nil | (apply Imp.pick; (focus ((repeat constructor); done))) | refine .drop ?_))
 intro ds z
 refine e_ex .here fun q => e_ex .here fun o => e_all .here ?_
 obtain ⟨⟨a1, c1⟩, ⟨a2, c2⟩⟩ := q
 (try simp only [ca_, na_, -eq_self])
 refine e_pu .here fun hz => ?_
 subst hz
 refine e_opN v_mkF .nil ?_
 refine e_opN v_mkF .nil ?_
 refine e_opN v_mkF .nil ?_
 refine e_opN v_mkF .nil ?_
 refine e_opN v_rv .nil ?_; refine e_newA fun g => ?_; (((refine' e_stAgg ?hp ?hn ?hv ?h1 ?_); (case hp => (repeat constructor)); (case hn => rfl); (case hv => rfl); (case h1 => simp [Value.oneCell']))); (((refine' e_opN (v_ldAgg ?hn) ?hi ?_); (case hi => exact .pick (by repeat constructor) .nil); (case hn => rfl)))
 rename Nat => b8
 obtain ⟨ok, hok⟩ : ∃ ok, ok = ((decide (1 <= level) && decide (level <= 9)) && fitB st X D) := ⟨_, rfl⟩
 have hap : appR l level st X D = if ok then if chooB l then if pkE D level 0 = 0 then ⟨pakX (varyX X) (pkB D level 0), pkB D level 0⟩ else ⟨varyX X, D⟩ else ⟨varyX X, D⟩ else ⟨X, D⟩ := by rw [hok]; rfl
 refine e_loop1 (fun k y => (ex fun q : (Option Addr × Nat) × (Option Addr × Nat) => ex fun i : Nat => all [pu (k + i = 4 /\ y = .int .i64 (i : Int) /\ (1 <= i -> ok = true) /\ (3 <= i -> chooB l = true) /\ (4 <= i -> pkE D level 0 = 0)), pt o (.cells #[.int .i64 st, .slice q.1.1 (stX X D level i).length q.1.2, .slice q.2.1 (stD_ D level i).length q.2.2] 25), Sl 2 52 q.1.1 q.1.2 (stX X D level i).length ((stX X D level i).flatMap pFd), Sl 1 5 q.2.1 q.2.2 (stD_ D level i).length ((stD_ D level i).map Sl.B)])
  :: pt bl (.cells #[.slice al l.length cl] 22) :: pt bx (.cells #[.int .i64 st, .slice ax X.length cx, .slice ad D.length cd] 25) :: pt bv (.cells #[.int .i64 level] 3) :: pt b6 (.cells #[.int .i64 0, .slice none 0 0, .slice none 0 0] 25) :: AL :: AX :: AD :: F) 4 ?_ ?_
 ·refine .ex ((a1, c1), (a2, c2)) (.ex 0 (.all ?_))
  (try simp only [ca_, na_, -eq_self])
  refine .pu ⟨rfl, rfl, by omega, by omega, by omega⟩ ?_
  show Imp W _ ([pt o (.cells #[.int .i64 st, .slice a1 X.length c1, .slice a2 D.length c2] 25), Sl 2 52 a1 c1 X.length (X.flatMap pFd), Sl 1 5 a2 c2 D.length (D.map Sl.B)] ++ _)
  (try simp only [ca_, na_, -eq_self])
  (repeat (first | exact .refl | exact .nil | (apply Imp.pick; (focus ((repeat constructor); done))) | refine .drop ?_))
 intro k ds2 y
 refine e_ex .here fun q => e_ex .here fun i => e_all .here ?_
 obtain ⟨⟨a3, c3⟩, ⟨a4, c4⟩⟩ := q
 (try simp only [ca_, na_, -eq_self])
 refine e_pu .here fun hi => ?_
 obtain ⟨hki, rfl, h1, h3, h4⟩ := hi
 (try dsimp only)
 refine e_opN v_lss .nil ?_
 rcases (show i = 0 \/ i = 1 \/ i = 2 \/ i = 3 \/ i = 4 by omega) with rfl | rfl | rfl | rfl | rfl
 ·rw [dT_ (by decide), show stX X D level 0 = X from rfl, show stD_ D level 0 = D from rfl]
  refine e_condT ?_
  refine e_opN (v_ixA 0 rfl (by decide) rfl) .nil ?_
  refine e_callC (cap := [.pointer (some ⟨bv, 0, none⟩), .pointer (some ⟨bx, 0, none⟩)]) (apply1 (level := level) (st := st) (D := D) (cx := cx) (cd := cd) (ad := ad) hA hX (by omega)) (by (repeat (first | exact Picks.nil | (apply Picks.cons; (focus repeat constructor))))) fun _ => ?_
  rw [<- hok]
  (try simp only [ca_, na_, -eq_self])
  cases hk : ok with
  | false =>
   rw [hk] at hap
   simp only [Bool.false_eq_true, if_false] at hap
   rw [hap]
   refine e_opN v_notF .nil ?_; refine e_condT ?_; (((refine' e_opN (v_ldAgg ?hn) ?hi ?_); (case hi => exact .pick (by repeat constructor) .nil); (case hn => rfl))); (((refine' e_stAgg ?hp ?hn ?hv ?h1 ?_); (case hp => (repeat constructor)); (case hn => rfl); (case hv => rfl); (case h1 => simp [Value.oneCell']))); (((refine' e_stS (v_resA ?hn) ?hi ?_); (case hi => (repeat (first | exact .refl | exact .nil | (apply Imp.pick; (focus ((repeat constructor); done))) | refine .drop ?_))); (case hn => rfl)))
   refine e_ret ((a3, c3), (a4, c4)) rfl ?_
   (repeat (first | exact .refl | exact .nil | (apply Imp.pick; (focus ((repeat constructor); done))) | refine .drop ?_))
  | true =>
   refine e_opN v_notT .nil ?_; refine e_condF ?_; (refine e_opN (v_add (by omega) (by omega)) .nil ?_)
   (try refine e_opN (v_add (by omega) (by omega)) .nil ?_)
   refine e_next1 (k - 1) (by omega) (.ex ((a3, c3), (a4, c4)) (.ex 1 (.all ?_)))
   (try simp only [ca_, na_, -eq_self])
   refine .pu ⟨by omega, rfl, fun _ => rfl, by omega, by omega⟩ ?_
   show Imp W _ ([pt o (.cells #[.int .i64 st, .slice a3 X.length c3, .slice a4 D.length c4] 25), Sl 2 52 a3 c3 X.length (X.flatMap pFd), Sl 1 5 a4 c4 D.length (D.map Sl.B)] ++ _)
   (try simp only [ca_, na_, -eq_self])
   (repeat (first | exact .refl | exact .nil | (apply Imp.pick; (focus ((repeat constructor); done))) | refine .drop ?_))
 ·rw [dT_ (by decide), show stX X D level 1 = X from rfl, show stD_ D level 1 = D from rfl]
  refine e_condT ?_
  refine e_opN (v_ixA 1 rfl (by decide) rfl) .nil ?_
  refine e_callC (cap := [.pointer (some ⟨o, 0, none⟩)]) (apply2 (st := st) (bd := .slice a4 D.length c4) hX) (by (repeat (first | exact Picks.nil | (apply Picks.cons; (focus repeat constructor))))) fun r => ?_
  obtain ⟨a5, c5⟩ := r
  (try simp only [ca_, na_, -eq_self])
  (try dsimp only)
  refine e_opN v_notT .nil ?_; refine e_condF ?_; (refine e_opN (v_add (by omega) (by omega)) .nil ?_)
  (try refine e_opN (v_add (by omega) (by omega)) .nil ?_)
  refine e_next1 (k - 1) (by omega) (.ex ((a5, c5), (a4, c4)) (.ex 2 (.all ?_)))
  (try simp only [ca_, na_, -eq_self])
  refine .pu ⟨by omega, rfl, fun _ => h1 (by omega), by omega, by omega⟩ ?_
  show Imp W _ ([pt o (.cells #[.int .i64 st, .slice a5 (varyX X).length c5, .slice a4 D.length c4] 25), Sl 2 52 a5 c5 (varyX X).length ((varyX X).flatMap pFd), Sl 1 5 a4 c4 D.length (D.map Sl.B)] ++ _)
  (try simp only [ca_, na_, -eq_self])
  (repeat (first | exact .refl | exact .nil | (apply Imp.pick; (focus ((repeat constructor); done))) | refine .drop ?_))
 ·rw [dT_ (by decide), show stX X D level 2 = varyX X from rfl, show stD_ D level 2 = D from rfl]
  refine e_condT ?_
  refine e_opN (v_ixA 2 rfl (by decide) rfl) .nil ?_
  refine e_callC (cap := [.pointer (some ⟨bl, 0, none⟩)]) (apply3 (c := cl) hl hl1) (by (repeat (first | exact Picks.nil | (apply Picks.cons; (focus repeat constructor))))) fun _ => ?_
  (try simp only [ca_, na_, -eq_self])
  rw [h1 (by omega)] at hap
  simp only [if_true] at hap
  cases hk : chooB l with
  | false =>
   rw [hk] at hap
   simp only [Bool.false_eq_true, if_false] at hap
   rw [hap]
   refine e_opN v_notF .nil ?_; refine e_condT ?_; (((refine' e_opN (v_ldAgg ?hn) ?hi ?_); (case hi => exact .pick (by repeat constructor) .nil); (case hn => rfl))); (((refine' e_stAgg ?hp ?hn ?hv ?h1 ?_); (case hp => (repeat constructor)); (case hn => rfl); (case hv => rfl); (case h1 => simp [Value.oneCell']))); (((refine' e_stS (v_resA ?hn) ?hi ?_); (case hi => (repeat (first | exact .refl | exact .nil | (apply Imp.pick; (focus ((repeat constructor); done))) | refine .drop ?_))); (case hn => rfl)))
   refine e_ret ((a3, c3), (a4, c4)) rfl ?_
   (repeat (first | exact .refl | exact .nil | (apply Imp.pick; (focus ((repeat constructor); done))) | refine .drop ?_))
  | true =>
   refine e_opN v_notT .nil ?_; refine e_condF ?_; (refine e_opN (v_add (by omega) (by omega)) .nil ?_)
   (try refine e_opN (v_add (by omega) (by omega)) .nil ?_)
   refine e_next1 (k - 1) (by omega) (.ex ((a3, c3), (a4, c4)) (.ex 3 (.all ?_)))
   (try simp only [ca_, na_, -eq_self])
   refine .pu ⟨by omega, rfl, fun _ => h1 (by omega), fun _ => rfl, by omega⟩ ?_
   show Imp W _ ([pt o (.cells #[.int .i64 st, .slice a3 (varyX X).length c3, .slice a4 D.length c4] 25), Sl 2 52 a3 c3 (varyX X).length ((varyX X).flatMap pFd), Sl 1 5 a4 c4 D.length (D.map Sl.B)] ++ _)
   (try simp only [ca_, na_, -eq_self])
   (repeat (first | exact .refl | exact .nil | (apply Imp.pick; (focus ((repeat constructor); done))) | refine .drop ?_))
 ·rw [dT_ (by decide), show stX X D level 3 = varyX X from rfl, show stD_ D level 3 = D from rfl]
  refine e_condT ?_
  refine e_opN (v_ixA 3 rfl (by decide) rfl) .nil ?_
  rw [h1 (by omega), h3 (by omega)] at hap
  simp only [if_true] at hap
  refine e_slfacts (by (repeat constructor) : Pick _ (Sl 2 52 a3 c3 (varyX X).length ((varyX X).flatMap pFd)) _) fun _ _ _ hs => ?_
  refine e_slfacts (by (repeat constructor) : Pick _ (Sl 1 5 a4 c4 D.length (D.map Sl.B)) _) fun _ k2 _ k4 => ?_
  refine e_callC (cap := [.pointer (some ⟨o, 0, none⟩), .pointer (some ⟨bv, 0, none⟩)]) (apply4 (level := level) (st := st) (c := c3) (cd := c4) (rdF_any hs) (by omega) (rd_sl (e := 5) (a := a4) (cap := c4) (by rw [List.length_map]) k4) k2 (by omega)) (by (repeat (first | exact Picks.nil | (apply Picks.cons; (focus repeat constructor))))) fun r => ?_
  obtain ⟨⟨a5, c5⟩, ⟨a6, c6⟩⟩ := r
  by_cases hE : pkE D level 0 = 0
  ·simp only [if_pos hE]
   rw [dT_ hE]
   (try simp only [ca_, na_, -eq_self])
   refine e_opN v_notT .nil ?_; refine e_condF ?_; (refine e_opN (v_add (by omega) (by omega)) .nil ?_)
   (try refine e_opN (v_add (by omega) (by omega)) .nil ?_)
   refine e_next1 (k - 1) (by omega) (.ex ((a5, c5), (a6, c6)) (.ex 4 (.all ?_)))
   (try simp only [ca_, na_, -eq_self])
   refine .pu ⟨by omega, rfl, fun _ => h1 (by omega), fun _ => h3 (by omega), fun _ => hE⟩ ?_
   show Imp W _ ([pt o (.cells #[.int .i64 st, .slice a5 (pakX (varyX X) (pkB D level 0)).length c5, .slice a6 (pkB D level 0).length c6] 25), Sl 2 52 a5 c5 (pakX (varyX X) (pkB D level 0)).length ((pakX (varyX X) (pkB D level 0)).flatMap pFd), Sl 1 5 a6 c6 (pkB D level 0).length ((pkB D level 0).map Sl.B)] ++ _)
   (try simp only [ca_, na_, -eq_self])
   (repeat (first | exact .refl | exact .nil | (apply Imp.pick; (focus ((repeat constructor); done))) | refine .drop ?_))
  ·simp only [if_neg hE]
   rw [if_neg hE] at hap
   rw [dF_ hE, hap]
   (try simp only [ca_, na_, -eq_self])
   refine e_opN v_notF .nil ?_; refine e_condT ?_; (((refine' e_opN (v_ldAgg ?hn) ?hi ?_); (case hi => exact .pick (by repeat constructor) .nil); (case hn => rfl))); (((refine' e_stAgg ?hp ?hn ?hv ?h1 ?_); (case hp => (repeat constructor)); (case hn => rfl); (case hv => rfl); (case h1 => simp [Value.oneCell']))); (((refine' e_stS (v_resA ?hn) ?hi ?_); (case hi => (repeat (first | exact .refl | exact .nil | (apply Imp.pick; (focus ((repeat constructor); done))) | refine .drop ?_))); (case hn => rfl)))
   refine e_ret ((a3, c3), (a4, c4)) rfl ?_
   (repeat (first | exact .refl | exact .nil | (apply Imp.pick; (focus ((repeat constructor); done))) | refine .drop ?_))
 ·rw [dF_ (by decide), show stX X D level 4 = pakX (varyX X) (pkB D level 0) from rfl, show stD_ D level 4 = pkB D level 0 from rfl]
  rw [h1 (by omega), h3 (by omega)] at hap
  simp only [if_true] at hap
  rw [if_pos (h4 (by omega))] at hap
  rw [hap]
  refine e_condF ?_; (((refine' e_opN (v_ldAgg ?hn) ?hi ?_); (case hi => exact .pick (by repeat constructor) .nil); (case hn => rfl))); (((refine' e_stAgg ?hp ?hn ?hv ?h1 ?_); (case hp => (repeat constructor)); (case hn => rfl); (case hv => rfl); (case h1 => simp [Value.oneCell']))); (((refine' e_stS (v_resA ?hn) ?hi ?_); (case hi => (repeat (first | exact .refl | exact .nil | (apply Imp.pick; (focus ((repeat constructor); done))) | refine .drop ?_))); (case hn => rfl)))
  refine e_ret ((a3, c3), (a4, c4)) rfl ?_
  (repeat (first | exact .refl | exact .nil | (apply Imp.pick; (focus ((repeat constructor); done))) | refine .drop ?_))
end Go.Proofs.YtndojgomlkpeaaaGreatDoor.FD
namespace Go.Proofs.YtndojgomlkpeaaaGreatDoor.GZ
open Go Go.Proofs Go.RowKit Sh Sl T IF B M
def IsU (W:World)(A:HP)(p:Nat)(l:List UInt8):HP:=ex fun q:Option Addr × Nat=>all [pt p (.cells #[.slice q.1 l.length q.2] 107),pu (RdB W A q.1 l.length (l.map Sl.B)/\l.length<=q.2)]
theorem udemand {W:World}{b:Bool}:CnP p_ 69 [.bool b] W [] (fun _:If (b=true)=> .tuple #[]) (fun _=>[]) (fun _:If (b=false)=>pn 32) (fun _=>[]):=by
 (refine Shp.cnP (Sg.g_ Tryz.call69 Tryz.func69) fun F=>?_;simp only[ca_,na_,-eq_self])
 cases b with
 |true=>
  refine o_ v_notT (e_condF (rt_ (yes (rfl)) ?_))
  exact .refl
 |false=>
  refine o_ v_notF (e_condT (o_ v_mkI (e_panic ?_)))
  exact e_pan (yes (rfl)) rfl .refl
theorem utake {W:World}{A:HP}{p n:Nat}{l:List UInt8}:CnP p_ 68 [.pointer (some ⟨p,0,none⟩),.int .i64 (n:Int)] W [IsU W A p l]
  (fun x:{q:Option Addr × Nat // n<=l.length/\RdB W A q.1 n ((l.take n).map Sl.B)/\n<=q.2}=> .slice x.1.1 n x.1.2) (fun _=>[IsU W A p (l.drop n)]) (fun _:If (l.length<n)=>pn 20) (fun _=>[]):=by
 (refine Shp.cnP (Sg.g_ Tryz.call68 Tryz.func68 (an:={cuts:=[(3,[])]})) fun F=>?_;simp only[ca_,na_,-eq_self])
 refine e_ex .here fun q=>e_all .here ?_
 obtain⟨qa,qc⟩:=q
 refine nr_ ?_
 refine e_pu (.there .here) fun hq=>?_
 obtain⟨hr,hc⟩:=hq
 (try dsimp only at hr hc)
 (try dsimp only)
 refine e_cut0 (pu (n<=l.length)::pt p (.cells #[.slice qa l.length qc] 107)::F) ?_ ?_
 rotate_left
 ·(refine o_ v_nil ?_);refine o_ v_fa0 ?_;refine ln_ ?_;refine o_ v_len ?_
  refine o_ v_gtr ?_
  by_cases h:(l.length:Int)<(n:Int)
  ·rw[dT_ h]
   refine e_condT (o_ v_mkI (e_panic ?_))
   refine e_pan (yes (by omega)) rfl ?_
   exact im_
  ·rw[dF_ h]
   refine e_condF (e_sat (.pu (by omega) ?_))
   exact im_
 intro ds
 refine e_pu .here fun hn=>?_
 have h1:=hr.cut (cap:=qc) (l:=0) (h:=n) (by omega) (by omega) hc
 have h2:=hr.cut (cap:=qc) (l:=n) (h:=l.length) (by omega) (by omega) hc
 rw[List.drop_zero,Nat.sub_zero,<- List.map_take]at h1
 rw[<- List.map_drop,<- List.map_take,List.take_of_length_le (by rw[List.length_drop];omega)]at h2
 refine o_ v_nil (o_ v_fa0 (ln_ ?_))
 refine o_ (v_slh n rfl (by omega)) ?_
 refine o_ v_nil (o_ v_fa0 (ln_ ?_))
 refine o_ (v_sll n rfl hn) ?_
 refine o_ v_nil (o_ v_fa0 (sn_ ?_))
 refine rt_ (⟨((if qc=0 then qa else qa.map (·.add (0 * 1))),qc),hn,h1,by omega⟩) ?_
 refine .ex ((if qc=n then qa else qa.map (·.add (n * 1))),qc-n) (.all ?_)
 refine nr_ ?_
 rw[List.length_drop]
 refine .pick (by repeat constructor) (.pu ⟨h2,by omega⟩ ?_)
 exact im_
theorem or0_8:∀n:Nat,n<256->bitOp .or .i64 0 (n:Int)=(n:Int):=by decide+kernel
theorem unum {W:World}{A:HP}{p:Nat}{x:UInt8}{l:List UInt8}:CnP p_ 100 [.pointer (some ⟨p,0,none⟩),.int .i64 1] W [IsU W A p (x::l),A]
  (fun _:Unit=> .int .i64 (x.toNat:Int)) (fun _=>[IsU W A p l,A]) (fun _:If False=>pn 20) (fun _=>[]):=by
 have hT:=utake (W:=W) (A:=A) (p:=p) (n:=1) (l:=x::l)
 (refine Shp.cnP (Sg.g_ Tryz.call100 Tryz.func100 (an:={loops:=[(3,[5,12])]})) fun F=>?_;simp only[ca_,na_,-eq_self])
 (refine' e_callP (hT) ?hp (fun _=>?_) (fun _=>?_);(case hp=>(repeat(first|exact Picks.nil|(apply Picks.cons;(focus repeat constructor)))));(all_goals (try simp only[ca_,na_,Bool.not_true,Bool.not_false,-eq_self])))
 ·rename_i q
  obtain⟨⟨qa,qc⟩,h1,h2,h3⟩:=q
  (try dsimp only)
  (try dsimp only at h2 h3)
  obtain⟨g,o,rfl,_⟩:=h2.at_ (by decide)
  have hx:=x.toNat_lt
  refine o_ v_len (e_loop2 (fun m y z=>pu (∃i:Nat,m+i=1/\z= .int .i64 (i:Int)/\y= .int .i64 (if i=0 then 0 else(x.toNat:Int)))::IsU W A p l::A::F) 1 ?_ ?_)
  ·refine .pu ⟨0,rfl,rfl,rfl⟩ ?_
   exact im_
  intro m ds y z
  refine e_pu .here fun hi=>?_
  obtain⟨i,hmi,rfl,rfl⟩:=hi
  refine o_ v_lss ?_
  rcases(show i=0\/i=1 by omega)with rfl|rfl
  ·rw[dT_ (by decide),if_pos rfl]
   refine e_condT (o_ (v_ia1 0 rfl (by decide)) ?_)
   refine p_op (v_ldRd h2 (j:=0) (v:= .int .u8 (x.toNat:Int)) rfl) ?_
   refine o_ (v_conv (q:= .i64)) ?_
   rw[w64 (by omega) (by omega)]
   refine o_ (v_mul (by decide) (by decide)) ?_
   refine o_ (v_conv (q:= .u64)) ?_
   rw[show IntKind.u64.wrap (8 * ((0:Nat):Int))=0 by decide]
   refine o_ (v_shl (by decide)) ?_
   rw[show min (0:Int).toNat IntKind.i64.bits=0 from rfl,Int.pow_zero,Int.mul_one,w64 (by omega) (by omega)]
   refine o_ v_or ?_
   rw[or0_8 x.toNat hx]
   refine o_ (v_add (by decide) (by decide)) ?_
   refine e_next2 (m-1) (by omega) (.pu ⟨1,by omega,rfl,by rw[if_neg (by decide)]⟩ ?_)
   exact im_
  ·rw[dF_ (by decide),if_neg (by decide)]
   refine e_condF (rt_ () ?_)
   exact im_
 ·rename_i y
  exact absurd y.2 (by simp)
theorem v_ixAG {P:Program}{W:World}{t e:TypeId}{n s:Nat}{cs:Array Value}{q:IntKind}{i:Int}(j:Nat)[ht:ArrT P t n e s][ha:AggT P e s](hi:i=(j:Int))(hj:j<n):RunV P W [] (sIx t (.agg cs) (.int q i)) (.agg (cs.extract (j * s) (j * s+s))):=fun w _=>by
 subst hi
 simp[sIx,Instr.index,asIntOf,ht.ut,ht.size,hj,part,ha.agg,ha.size]
theorem bytesEq {W:World}{a b:Option Addr}{ca cb:Nat}{x y:List UInt8}{A C:HP}(hx:RdB W A a x.length (x.map Sl.B))(ha:a=none->x.length=0)(hy:RdB W C b y.length (y.map Sl.B))(hb:b=none->y.length=0):
  Cn p_ 70 [.slice a x.length ca,.slice b y.length cb] W [A,C] (fun _:Unit=> .bool (decide (x=y))) (fun _=>[A,C]):=by
 (refine Shp.cn (Sg.g_ Tryz.call70 Tryz.func70) fun F=>?_;simp only[ca_,na_])
 refine p_op (v_str hx ha) ?_
 refine p_op (v_str hy hb) ?_
 refine o_ v_streq (rt_ () ?_)
 exact im_
theorem e_uo {W:World}{A:HP}{p:Nat}{l:List UInt8}{L L':List HP}{S:WP}(q:Pick L (IsU W A p l) L')(h:∀(qa:Option Addr) (qc:Nat),RdB W A qa l.length (l.map Sl.B)->l.length<=qc->Ent W (pt p (.cells #[.slice qa l.length qc] 107)::L') S):Ent W L S:=
 e_pick q (e_ex .here fun x=>e_all .here (e_pu (.there .here) fun hq=>h x.1 x.2 hq.1 hq.2))
theorem e_uc {W:World}{A:HP}{p:Nat}{l:List UInt8}{L L':List HP}{S:WP}{qa:Option Addr}{qc:Nat}(q:Pick L (pt p (.cells #[.slice qa l.length qc] 107)) L')(hr:RdB W A qa l.length (l.map Sl.B))(hc:l.length<=qc)(h:Ent W (IsU W A p l::L') S):Ent W L S:=
 e_imp (.ex (qa,qc) (.all (.pick q (.pu ⟨hr,hc⟩ .refl)))) h
structure Mb (most:Int)(b out t:List UInt8)(u:Nat):Prop where
 e:aE b (most-out.length)=0
 o:aO b (most-out.length)=t
 n:aU b (most-out.length)=(u:Int)
 le:u<=b.length
 sz:((out.length+t.length:Nat):Int)<=most
inductive Ur (most:Int):List UInt8->List UInt8->Nat->Except Int (List UInt8 × Nat)->Prop
 |done {out:List UInt8} {n:Nat} (h:n≠0):Ur most [] out n (.ok (out,n))
 |mem {b out t r:List UInt8} {n m u:Nat} {R:Except Int (List UInt8 × Nat)} (h:Mb most b out t u) (ht:b.drop u=gzT t++r) (hr:Ur most r (out++t) (n+1) R):Ur most (gzH m++b) out n R
 |short {b out t:List UInt8} {n m u:Nat} (h:Mb most b out t u) (hs:(b.drop u).length<8):Ur most (gzH m++b) out n (.error 20)
 |wrong {b out t:List UInt8} {n m u:Nat} (h:Mb most b out t u) (hs:8<=(b.drop u).length) (hw:(b.drop u).take 8≠gzT t):Ur most (gzH m++b) out n (.error 32)
theorem Ur.head {most:Int}{l out:List UInt8}{n:Nat}{R:Except Int (List UInt8 × Nat)}(h:Ur most l out n R):(l=[]/\n≠0/\R= .ok (out,n))\/∃(m u:Nat) (b t:List UInt8),l=gzH m++b/\Mb most b out t u/\
  (((b.drop u).length<8/\R= .error 20)\/(8<=(b.drop u).length/\(b.drop u).take 8≠gzT t/\R= .error 32)\/(8<=(b.drop u).length/\(b.drop u).take 8=gzT t/\Ur most ((b.drop u).drop 8) (out++t) (n+1) R)):=by
 cases h with
 |done h=>exact .inl ⟨rfl,h,rfl⟩
 |mem h ht hr=>exact .inr ⟨_,_,_,_,rfl,h,.inr (.inr ⟨by rw[ht,List.length_append];simp[gzT,GZ.four],by rw[ht];rfl,by rw[ht];exact hr⟩)⟩
 |short h hs=>exact .inr ⟨_,_,_,_,rfl,h,.inl ⟨hs,rfl⟩⟩
 |wrong h hs hw=>exact .inr ⟨_,_,_,_,rfl,h,.inr (.inl ⟨hs,hw,rfl⟩)⟩
def rO (R:Except Int (List UInt8 × Nat)):List UInt8:=match R with
 | .ok x=>x.1
 | .error _=>[]
def rN (R:Except Int (List UInt8 × Nat)):Int:=match R with
 | .ok x=>x.2
 | .error _=>0
def rE (R:Except Int (List UInt8 × Nat)):Int:=match R with
 | .ok _=>0
 | .error e=>e
theorem both_ {G H:Prop}(k:G->H)(m:G):H:=k m
theorem ufails {W:World} {F:List HP} {g4 g5 g6:Nat} {v4 v5 v6:Value} {e:Int} {K:Value->WP} {Kq:PK}
  (h:Ent W (pt g4 (.cells #[.slice none 0 0] 23)::pt g5 (.cells #[.int .i64 0] 3)::pt g6 (.cells #[.int .i64 e] 27)::F) (K (.tuple #[.slice none 0 0,.int .i64 0,.int .i64 e]))):
  Ent W (pt g4 (.cells #[v4] 23)::pt g5 (.cells #[v5] 3)::pt g6 (.cells #[v6] 27)::F)
   (KpD p_ {target:= .fn (.func 65) ([.pointer (some ⟨g4,0,none⟩),.pointer (some ⟨g5,0,none⟩),.pointer (some ⟨g6,0,none⟩)]:List Value).toArray,args:=([]:List Value).toArray} (S.gzip_unpack_ret (.pointer (some ⟨g4,0,none⟩)) (.pointer (some ⟨g5,0,none⟩)) (.pointer (some ⟨g6,0,none⟩)) K) Kq (pn e)):=by
 unfold KpD
 refine e_dfS (f:=65) (A:=[.pointer (some ⟨g4,0,none⟩),.pointer (some ⟨g5,0,none⟩),.pointer (some ⟨g6,0,none⟩)]) (shape:=fun rv=>S.gzip_unpack_1 (.pointer (some ⟨g4,0,none⟩)) (.pointer (some ⟨g5,0,none⟩)) (.pointer (some ⟨g6,0,none⟩)) rv) (fun c=>by cases c) ⟨_,_,rfl⟩ (inv_closure (cs:=[.pointer (some ⟨g4,0,none⟩),.pointer (some ⟨g5,0,none⟩),.pointer (some ⟨g6,0,none⟩)]) (bs:=[]) Tryz.call65) (fun h=>S.gzip_unpack_1_d h) ?_
 unfold S.gzip_unpack_1 pn
 rw[rec_pan,lv_pan]
 refine o_ (v_neIf (by kernel_rfl)) ?_
 refine e_condT (e_drS (e_stD (v_ta (k:= .i64) (by kernel_rfl)) .nil ?_))
 refine sn_ ?_;refine ob_ ?_;refine sn_ ?_;refine ob_ ?_;refine sn_ ?_
 unfold S.gzip_unpack_ret
 (((refine' e_stS (v_res1 ?hc) ?hi ?_);(case hi=>exact im_);(case hc=>repeat constructor)));(((refine' e_stS (v_res1 ?hc) ?hi ?_);(case hi=>exact im_);(case hc=>repeat constructor)));(((refine' e_stS (v_res1 ?hc) ?hi ?_);(case hi=>exact im_);(case hc=>repeat constructor)))
 exact e_imp im_ h
theorem and0:∀n:Nat,n<32->bitOp .and .i64 0 (n:Int)=0:=by decide
theorem uhead {W:World}{A:HP}{p m:Nat}{l:List UInt8}:CnP p_ 66 [.pointer (some ⟨p,0,none⟩)] W [IsU W A p (gzH m++l),A]
  (fun _:Unit=> .tuple #[]) (fun _=>[IsU W A p l,A]) (fun _:If False=>pn 32) (fun _=>[]):=by
 (refine Shp.cnP (Sg.g_ Tryz.call66 Tryz.func66 (an:={loops:=[(3,[15]),(12,[43])]})) fun F=>?_;simp only[ca_,na_,-eq_self])
 refine e_ex .here fun q=>e_all .here ?_
 obtain⟨qa,qc⟩:=q
 refine nr_ ?_
 refine e_pu (.there .here) fun hq=>?_
 refine e_box1 fun g=>?_;refine ln_ ?_;refine o_ v_nil (o_ v_fa0 (ln_ ?_));refine o_ v_rv ?_
 rename Nat=>gb
 refine e_loop1 (fun k y=>(ex fun i:Nat=>all [pu (k+i=3/\y= .int .i64 (i:Int)),IsU W A p ((gzH m++l).drop i)])::pt gb (.cells #[.pointer (some ⟨p,0,none⟩)] 105)::A::F) 3 ?_ ?_
 ·refine .ex 0 (.all ?_)
  refine nr_ ?_
  refine .pu ⟨rfl,rfl⟩ (.ex (qa,qc) (.all ?_))
  refine nr_ ?_
  rw[List.drop_zero]
  refine .pick (by repeat constructor) (.pu hq ?_)
  exact im_
 intro k ds y
 refine e_ex .here fun i=>e_all .here ?_
 refine nr_ ?_
 refine e_pu .here fun hi=>?_
 obtain⟨hki,rfl⟩:=hi
 refine o_ v_lss ?_
 by_cases hlt:(i:Int)<3
 ·rw[dT_ hlt]
  obtain⟨x,hx,hv⟩:∃x:UInt8,(gzH m++l).drop i=x::(gzH m++l).drop (i+1)/\(#[.int .u8 31,.int .u8 139,.int .u8 8]:Array Value)[i]? =some (.int .u8 (x.toNat:Int)):=by
   rcases(show i=0\/i=1\/i=2 by omega)with rfl|rfl|rfl
   ·exact⟨31,rfl,rfl⟩
   ·exact⟨139,rfl,rfl⟩
   ·exact⟨8,rfl,rfl⟩
  have hT:=utake (W:=W) (A:=A) (p:=p) (n:=1) (l:=x::(gzH m++l).drop (i+1))
  rw[hx]
  refine e_condT (o_ (v_ixA i rfl (by omega) hv) ?_)
  refine ln_ ?_
  (refine' e_callP (hT) ?hp (fun _=>?_) (fun _=>?_);(case hp=>(repeat(first|exact Picks.nil|(apply Picks.cons;(focus repeat constructor)))));(all_goals (try simp only[ca_,na_,Bool.not_true,Bool.not_false,-eq_self])))
  ·rename_i q
   obtain⟨⟨ta,tc⟩,h1,h2,h3⟩:=q
   (try dsimp only)
   (try dsimp only at h2 h3)
   obtain⟨g2,o2,rfl,_⟩:=h2.at_ (by decide)
   refine o_ (v_ia1 0 rfl (by decide)) ?_
   refine p_op (v_ldRd h2 (j:=0) (v:= .int .u8 (x.toNat:Int)) rfl) ?_
   refine o_ v_eql ?_
   rw[dT_ rfl]
   (refine' e_callP (udemand) ?hp (fun _=>?_) (fun _=>?_);(case hp=>(repeat(first|exact Picks.nil|(apply Picks.cons;(focus repeat constructor)))));(all_goals (try simp only[ca_,na_,Bool.not_true,Bool.not_false,-eq_self])))
   ·refine ad_ ?_
    refine e_next1 (k-1) (by omega) (.ex (i+1) (.all ?_))
    refine nr_ ?_
    refine .pu ⟨by omega,by rfl⟩ ?_
    exact im_
   ·rename_i y
    exact absurd y.2 (by decide)
  ·rename_i y
   exact absurd y.2 (by simp)
 ·rw[dF_ hlt]
  obtain rfl:i=3:=by omega
  have h8:(gzH m++l).drop 3=0::(four m++[0,255]++l):=rfl
  have h10:(four m++[0,255]++l).drop 6=l:=rfl
  rw[h8]
  refine e_condF (ln_ ?_)
  (refine' e_callP (unum) ?hp (fun _=>?_) (fun _=>?_);(case hp=>(repeat(first|exact Picks.nil|(apply Picks.cons;(focus repeat constructor)))));(all_goals (try simp only[ca_,na_,Bool.not_true,Bool.not_false,-eq_self])))
  ·rw[show((UInt8.toNat 0:Nat):Int)=0 from rfl]
   refine o_ v_lss ?_
   rw[dT_ (by decide)]
   have hT:=utake (W:=W) (A:=A) (p:=p) (n:=6) (l:=four m++[0,255]++l)
   rw[h10]at hT
   (refine' e_callP (udemand) ?hp (fun _=>?_) (fun _=>?_);(case hp=>(repeat(first|exact Picks.nil|(apply Picks.cons;(focus repeat constructor)))));(all_goals (try simp only[ca_,na_,Bool.not_true,Bool.not_false,-eq_self])))
   ·refine ln_ ?_
    (refine' e_callP (hT) ?hp (fun _=>?_) (fun _=>?_);(case hp=>(repeat(first|exact Picks.nil|(apply Picks.cons;(focus repeat constructor)))));(all_goals (try simp only[ca_,na_,Bool.not_true,Bool.not_false,-eq_self])))
    ·skip
     refine o_ v_mkF (o_ v_rv ?_);refine ln_ ?_
     refine o_ v_mkF (o_ v_rv ?_);refine ln_ ?_
     refine o_ v_mkF (o_ v_rv ?_);refine o_ v_rv ?_;refine e_newA fun g=>?_;refine sg_ ?_;refine lg_ ?_
     refine e_loop1 (fun k y=>pu (∃i:Nat,k+i=3/\y= .int .i64 (i:Int))::IsU W A p l::pt gb (.cells #[.pointer (some ⟨p,0,none⟩)] 105)::A::F) 3 ?_ ?_
     ·refine .pu ⟨0,rfl,rfl⟩ ?_
      exact im_
     intro k2 ds2 y2
     refine e_pu .here fun hi2=>?_
     obtain⟨i2,hki2,rfl⟩:=hi2
     refine o_ v_lss ?_
     by_cases hl2:(i2:Int)<3
     ·rw[dT_ hl2]
      refine e_condT (o_ (v_ixAG i2 rfl (by omega)) ?_)
      refine e_newA fun g8=>?_
      have hx:∃v u:Value,∃n:Nat,(#[.int .i64 4,.func (.func 101) #[] #[.pointer (some ⟨gb,0,none⟩)],.int .i64 8,.func (.func 102) #[.pointer (some ⟨p,0,none⟩)] #[],.int .i64 16,.func (.func 102) #[.pointer (some ⟨p,0,none⟩)] #[]]:Array Value).extract (i2 * 2) (i2 * 2+2)= #[.int .i64 (n:Int),u]/\u.oneCell'=true/\n<32:=by
       rcases(show i2=0\/i2=1\/i2=2 by omega)with rfl|rfl|rfl
       ·exact⟨.int .i64 4,_,4,rfl,rfl,by decide⟩
       ·exact⟨.int .i64 8,_,8,rfl,rfl,by decide⟩
       ·exact⟨.int .i64 16,_,16,rfl,rfl,by decide⟩
      obtain⟨_,u,n,hx,hu,hn⟩:=hx
      have hand:=and0 n hn
      rw[hx]
      refine e_stAgg (by repeat constructor) (by rfl) (by rfl) (by intro v hv;simp at hv;rcases hv with rfl|rfl;rfl;exact hu) ?_
      refine o_ v_fa0 (ln_ ?_)
      refine o_ v_and ?_
      rw[hand]
      refine o_ v_neq ?_
      rw[dF_ (by decide)]
      refine e_condF (ad_ ?_)
      refine e_next1 (k2-1) (by omega) (.pu ⟨i2+1,by omega,by rfl⟩ ?_)
      exact im_
     ·rw[dF_ hl2]
      refine e_condF (o_ v_and ?_)
      rw[show bitOp .and .i64 0 2=0 by decide]
      refine o_ v_neq ?_
      rw[dF_ (by decide)]
      refine e_condF (rt_ () ?_)
      exact im_
    ·rename_i y
     exact absurd y.2 (by simp[four])
   ·rename_i y
    exact absurd y.2 (by decide)
  ·rename_i y
   exact y.2.elim
theorem un_unpack {W:World}{a:Option Addr}{cap:Nat}{b:List UInt8}{A:HP}{most:Int}{R:Except Int (List UInt8 × Nat)}(hr:RdB W A a b.length (b.map Sl.B))(hc:b.length<=cap)(hb:b.length<=1048576)(hm0:0<=most)(hm1:most<=1048576)(hU:Ur most b [] 0 R):
  Cn p_ 46 [.slice a b.length cap,.int .i64 most] W [A]
   (fun q:Option Addr × Nat=> .tuple #[.slice q.1 (rO R).length q.2,.int .i64 (rN R),.int .i64 (rE R)])
   (fun q=>[Sl 1 5 q.1 q.2 (rO R).length ((rO R).map Sl.B),A]):=by
 (refine S.gzip_unpack_s.cn fun F=>?_;unfold S.gzip_unpack;simp only[ca_,na_])
 refine e_new1 fun g4=>?_
 refine e_new1 fun g5=>?_
 refine e_new1 fun g6=>?_
 have bad:∀(e:Int) (L:List HP) (v:Value) (n:Int),R= .error e->Imp W L ([pt g4 (.cells #[v] 23),pt g5 (.cells #[.int .i64 n] 3),pt g6 (.cells #[.int .i64 0] 27),A]++F)->Ent W L (KpD p_ {target:= .fn (.func 65) ([.pointer (some ⟨g4,0,none⟩),.pointer (some ⟨g5,0,none⟩),.pointer (some ⟨g6,0,none⟩)]:List Value).toArray,args:=([]:List Value).toArray} (S.gzip_unpack_ret (.pointer (some ⟨g4,0,none⟩)) (.pointer (some ⟨g5,0,none⟩)) (.pointer (some ⟨g6,0,none⟩)) (fun v w=>∃q:Option Addr × Nat,v= .tuple #[.slice q.1 (rO R).length q.2,.int .i64 (rN R),.int .i64 (rE R)]/\sat W ([Sl 1 5 q.1 q.2 (rO R).length ((rO R).map Sl.B),A]++F) w)) noP (pn e)):=by
  intro e L v n he hi
  subst he
  refine e_imp hi ?_
  refine nr_ ?_
  refine ufails ?_
  refine e_nil (s:=1) (e:=5) ?_
  refine e_ret (none,0) rfl ?_
  exact im_
 refine e_cut1d ?_
 refine o_ v_lss ?_
 rw[dF_ (by omega)]
 refine e_condF (o_ v_gtr ?_)
 rw[dF_ (by omega)]
 refine e_allds fun ds=>?_
 refine e_condF (o_ v_len (o_ v_gtr ?_))
 rw[dF_ (by omega)]
 refine e_condF (o_ v_mkF (e_opDf ?_))
 simp only[List.nil_append,Array.append_empty,List.append_toArray]
 refine o_ v_rv ?_
 refine e_boxA fun g=>?_
 refine e_uc (A:=A) (l:=b) .here hr hc ?_
 refine e_nil (s:=1) (e:=5) ?_
 refine e_loop0 (fun m=>[ex fun st:((Option Addr × Nat) × Nat) × (List UInt8 × List UInt8)=>all [pu (Ur most st.2.1 st.2.2 st.1.2 R/\m=st.2.1.length/\st.1.2+st.2.1.length<=1048576/\(st.2.2.length:Int)<=most),IsU W A g st.2.1,Sl 1 5 st.1.1.1 st.1.1.2 st.2.2.length (st.2.2.map Sl.B),pt g4 (.cells #[.slice st.1.1.1 st.2.2.length st.1.1.2] 23),pt g5 (.cells #[.int .i64 (st.1.2:Int)] 3),pt g6 (.cells #[.int .i64 0] 27),A]]++F) b.length ?_ ?_
 ·refine .ex (((none,0),0),(b,[])) (.all ?_)
  refine nr_ ?_
  refine .pu ⟨hU,rfl,by(try dsimp only);omega,hm0⟩ ?_
  exact im_
 clear hU hr hc hb
 intro m ds
 refine nr_ ?_
 refine e_ex .here fun st=>e_all .here ?_
 obtain⟨⟨⟨oa,oc⟩,n⟩,⟨l,out⟩⟩:=st
 refine nr_ ?_
 refine e_pu .here fun hi=>?_
 (try dsimp only at hi)
 obtain⟨hU,hml,hn,ho⟩:=hi
 (try dsimp only)
 rcases hU.head with ⟨rfl,hn0,hR⟩|⟨k,u,x,t,rfl,hM,hT⟩
 ·subst hR
  refine ln_ ?_
  refine o_ v_eql ?_
  rw[dF_ (by omega)]
  refine e_uo (A:=A) (p:=g) (l:=[]) (by repeat constructor) fun qa qc hr hc=>?_
  refine e_gdT (e_gdT (o_ v_nil (e_gdT (o_ v_fa0 (e_gdT (ln_ ?_))))));refine e_gdT (o_ v_len (e_gdT (o_ v_gtr ?_)))
  rw[dF_ (by decide)]
  refine o_ v_pickF (e_condF (e_drS (ls_ ?_)));(((refine' e_stD (v_ldN ?hc) ?hi ?_);(case hi=>exact .pick (by repeat constructor) .nil);(case hc=>repeat constructor)));refine sn_ ?_;refine ob_ ?_;refine sn_ ?_;refine sn_ ?_
  refine e_dfS (f:=65) (A:=[.pointer (some ⟨g4,0,none⟩),.pointer (some ⟨g5,0,none⟩),.pointer (some ⟨g6,0,none⟩)]) (shape:=fun rv=>S.gzip_unpack_1 (.pointer (some ⟨g4,0,none⟩)) (.pointer (some ⟨g5,0,none⟩)) (.pointer (some ⟨g6,0,none⟩)) rv) (fun c=>by cases c) ⟨_,_,rfl⟩ (inv_closure (cs:=[.pointer (some ⟨g4,0,none⟩),.pointer (some ⟨g5,0,none⟩),.pointer (some ⟨g6,0,none⟩)]) (bs:=[]) Tryz.call65) (fun h=>S.gzip_unpack_1_d h) ?_
  unfold S.gzip_unpack_1
  rw[rec_ret,lv_ret]
  refine o_ (v_neIf0 (by kernel_rfl)) ?_
  refine e_condF ?_
  unfold S.gzip_unpack_ret
  (((refine' e_stS (v_res1 ?hc) ?hi ?_);(case hi=>exact im_);(case hc=>repeat constructor)));(((refine' e_stS (v_res1 ?hc) ?hi ?_);(case hi=>exact im_);(case hc=>repeat constructor)));(((refine' e_stS (v_res1 ?hc) ?hi ?_);(case hi=>exact im_);(case hc=>repeat constructor)))
  refine e_ret (oa,oc) rfl ?_
  exact im_
 refine e_uo (A:=A) (p:=g) (by repeat constructor) fun qa qc hr hc=>?_
 have d1:n=0->decide ((n:Int)=0)=true:=fun h=>dT_ (by omega)
 have d2:n≠0->decide ((n:Int)=0)=false:=fun h=>dF_ (by omega)
 have d3:decide ((0:Int)<((gzH k++x).length:Int))=true:=dT_ (by rw[List.length_append,gzH_len];omega)
 refine' both_ ?_ ?_
 rotate_left
 ·intro main
  by_cases h0:n=0
  ·refine ln_ ?_
   refine o_ v_eql ?_
   rw[d1 h0]
   exact e_gdF1 (e_gdF1 (e_gdF1 (e_gdF1 (e_gdF1 (e_gdF1 (o_ v_pickT (e_condT main)))))))
  ·refine ln_ ?_
   refine o_ v_eql ?_
   rw[d2 h0]
   refine e_gdT (e_gdT (o_ v_nil (e_gdT (o_ v_fa0 (e_gdT (ln_ ?_))))));refine e_gdT (o_ v_len (e_gdT (o_ v_gtr ?_)))
   rw[d3]
   exact o_ v_pickF (e_condT main)
 have hxl:(gzH k++x).length=10+x.length:=by rw[List.length_append,gzH_len]
 rw[hxl]at hn
 refine e_uc (A:=A) (l:=gzH k++x) (by repeat constructor) hr hc ?_
 (refine' e_callP (uhead) ?hp (fun _=>?_) (fun _=>?_);(case hp=>(repeat(first|exact Picks.nil|(apply Picks.cons;(focus repeat constructor)))));(all_goals (try simp only[ca_,na_,Bool.not_true,Bool.not_false,-eq_self])))
 rotate_left
 ·rename_i y
  exact y.2.elim
 refine e_uo (A:=A) (p:=g) .here fun qa qc hr hc=>?_
 refine e_drS (t_ v_nil (t_ v_fa0 (ls_ ?_)));refine ls_ ?_;refine t_ v_len ?_;(refine t_ (v_sub (by omega) (by omega)) ?_)
 refine c_ (inflate hr (fun c=>by by_cases h0:0<x.length;(obtain⟨_,_,h1,_⟩:=hr.at_ h0;rw[h1]at c;cases c);omega) (by omega)) fun _=>?_
 rename_i q
 obtain⟨ia,ic⟩:=q
 rw[hM.e,hM.o,hM.n]
 (try dsimp only)
 refine t_ (v_ext (v:= .slice ia t.length ic) rfl) ?_
 refine t_ (v_ext (v:= .int .i64 (u:Int)) rfl) ?_
 refine t_ (v_ext (v:= .int .i64 0) rfl) ?_
 refine e_cut0d ?_
 refine o_ v_neq ?_
 rw[dF_ (by decide)]
 refine e_condF (e_allds fun ds2=>?_)
 refine e_uc (A:=A) (l:=x) (by repeat constructor) hr hc ?_
 have hu:=hM.le
 have hsz:=hM.sz
 (refine' e_callP (utake (A:=A) (n:=u) (l:=x)) ?hp (fun _=>?_) (fun _=>?_);(case hp=>(repeat(first|exact Picks.nil|(apply Picks.cons;(focus repeat constructor)))));(all_goals (try simp only[ca_,na_,Bool.not_true,Bool.not_false,-eq_self])))
 rotate_left
 ·rename_i y
  exact absurd y.2 (by omega)
 (refine' e_callP (utake (A:=A) (n:=8) (l:=x.drop u)) ?hp (fun _=>?_) (fun _=>?_);(case hp=>(repeat(first|exact Picks.nil|(apply Picks.cons;(focus repeat constructor)))));(all_goals (try simp only[ca_,na_,Bool.not_true,Bool.not_false,-eq_self])))
 rotate_left
 ·rename_i y
  rcases hT with ⟨hs,hR⟩|⟨hs,_⟩|⟨hs,_⟩
  ·exact bad _ _ _ _ hR im_
  ·exact absurd y.2 (by omega)
  ·exact absurd y.2 (by omega)
 rename_i q8
 obtain⟨⟨ta,tc⟩,h8,hr8,hc8⟩:=q8
 (try dsimp only)
 (try dsimp only at h8 hr8 hc8)
 have htl:t.length<=1048576:=by omega
 refine e_slfacts (by repeat constructor) fun _ _ _ hsome=>?_
 have ht:=rd_sl (W:=W) (e:=5) (a:=ia) (cap:=ic) (n:=t.length) (cs:=t.map Sl.B) (by rw[List.length_map]) hsome
 refine c_ (crc_ (b:=t) ht (by omega)) fun _=>?_
 refine e_nil (s:=1) (e:=5) ?_
 refine c_ (four_ (n:=crc t) (a:=none) (c:=0) (b:=[]) (crc_lt t) (by decide)) fun _=>?_
 rename_i qf
 obtain⟨fa,fc⟩:=qf
 (try dsimp only)
 refine o_ v_len (o_ (v_conv (q:= .u32)) ?_)
 rw[wrapu32 (by omega)]
 refine c_ (four_ (n:=t.length) (b:=GZ.four (crc t)) (by omega) (by simp[GZ.four])) fun _=>?_
 rename_i qg
 obtain⟨ga,gc⟩:=qg
 rw[show GZ.four (crc t)++GZ.four t.length=gzT t by unfold gzT;rw[Nat.mod_eq_of_lt (by omega)]]
 refine e_slfacts .here fun _ _ _ hsg=>?_
 have h88:((x.drop u).take 8).length=8:=by rw[List.length_take];omega
 rw[show(Value.slice ta 8 tc)=Value.slice ta ((x.drop u).take 8).length tc by rw[h88]]
 have hr8':RdB W A ta ((x.drop u).take 8).length (((x.drop u).take 8).map Sl.B):=by rw[h88];exact hr8
 refine c_ (bytesEq (x:=(x.drop u).take 8) (y:=gzT t) (A:=A) hr8' (fun c=>by obtain⟨_,_,h1,_⟩:=hr8.at_ (by decide);rw[h1]at c;cases c) (rd_sl (e:=5) (a:=ga) (cap:=gc) (by rw[List.length_map]) hsg) (fun c=>by obtain⟨_,h1⟩:=hsg (by simp[gzT,GZ.four]);rw[h1]at c;cases c)) fun _=>?_
 (refine' e_callP (udemand) ?hp (fun _=>?_) (fun _=>?_);(case hp=>(repeat(first|exact Picks.nil|(apply Picks.cons;(focus repeat constructor)))));(all_goals (try simp only[ca_,na_,Bool.not_true,Bool.not_false,-eq_self])))
 rotate_left
 ·rename_i y
  have hy:=of_decide_eq_false y.2
  rcases hT with ⟨hs,hR⟩|⟨hs,_,hR⟩|⟨hs,he,_⟩
  ·exact absurd h8 (by omega)
  ·exact bad _ _ _ _ hR im_
  ·exact absurd he hy
 rename_i y
 have hy:=of_decide_eq_true y.2
 have hT:Ur most ((x.drop u).drop 8) (out++t) (n+1) R:=by
  rcases hT with ⟨hs,hR⟩|⟨hs,hw,hR⟩|⟨hs,he,hT⟩
  ·exact absurd h8 (by omega)
  ·exact absurd hy hw
  ·exact hT
 refine ln_ ?_
 refine e_app (m:=t.length) (news:=t.map Sl.B) (by(repeat constructor):Pick _ (Sl 1 5 oa oc out.length (out.map Sl.B)) _) (src_sl (e':=5) (by kernel_rfl) (by(repeat constructor):Pick _ (Sl 1 5 ia ic t.length (t.map Sl.B)) _) B_one) (by omega) (by omega) fun a' c'=>?_
 refine sn_ ?_;refine ln_ ?_;refine ad_ ?_;refine sn_ ?_
 refine e_next0 ((x.drop u).drop 8).length (by rw[hml,hxl,List.length_drop,List.length_drop];omega) (.ex (((a',c'),n+1),((x.drop u).drop 8,out++t)) (.all ?_))
 refine nr_ ?_
 refine .pu ⟨hT,rfl,by(try dsimp only);rw[List.length_drop,List.length_drop];omega,by rw[List.length_append];exact hsz⟩ ?_
 rw[List.length_append,List.map_append]
 exact im_
theorem unpack_ {W:World}{a:Option Addr}{cap:Nat}{b:List UInt8}{A:HP}{most:Int}{R:Except Int (List UInt8 × Nat)}(hr:RdB W A a b.length (b.map Sl.B))(hc:b.length<=cap)(hb:b.length<=1048576)(hm0:0<=most)(hm1:most<=1048576)(hU:Ur most b [] 0 R):
  Cn p_ 23 [.slice a b.length cap,.int .i64 most] W [A] (fun q:Option Addr × Nat=> .tuple #[.slice q.1 (rO R).length q.2,.int .i64 (rE R)]) (fun q=>[Sl 1 5 q.1 q.2 (rO R).length ((rO R).map Sl.B),A]):=by
 (refine Shp.cn (Sg.g_ Tryz.call23 Tryz.func23) fun F=>?_;simp only[ca_,na_])
 refine c_ (un_unpack hr hc hb hm0 hm1 hU) fun _=>?_
 rename_i q
 obtain⟨qa,qc⟩:=q
 (try dsimp only)
 refine o_ (v_ext (v:= .slice qa (rO R).length qc) rfl) ?_
 refine o_ (v_ext (v:= .int .i64 (rN R)) rfl) ?_
 refine o_ (v_ext (v:= .int .i64 (rE R)) rfl) ?_
 refine rt_ ((qa,qc)) ?_
 exact im_
theorem stream_more {level most:Int}{ws:List (List UInt8)}{w r:List UInt8}(hE:dflE w level=0)(hm:((ws.flatten.length+w.length:Nat):Int)<=most)(hm1:most<=1048576)(hl:(outF level ws++dflB w level++r).length<=1048576):
  aE (outF level ws++dflB w level++r) most=0/\aO (outF level ws++dflB w level++r) most=ws.flatten++w/\aU (outF level ws++dflB w level++r) most=((outF level ws++dflB w level).length:Int):=by
 obtain⟨hlv,_,_⟩:=dflE_0 hE
 obtain⟨Z,hZ⟩:=dflB_ub hE
 have hdl:=dflB_len hE
 have hge:=putsX_ge level (blksF w level) []
 have hX:(dflX w level).length=(putsX level [] (blksF w level)).length:=rfl
 simp only[List.length_nil]at hge
 obtain⟨g,l',h1,h2⟩:=flus_loop (most:=most) hlv (dflB w level++r) ws [] [] (8 * (outF level ws++(dflB w level++r)).length+1) [] (by simp only[List.length_nil];omega) (by rw[List.length_append];omega)
 simp only[List.nil_append,List.length_nil,Nat.zero_add,Nat.mul_zero]at h2
 obtain⟨B,hB⟩:∃B,B=outF level ws++dflB w level++r:=⟨_,rfl⟩
 rw[<- List.append_assoc]at h1 h2
 have hBl:B.length=(outF level ws).length+(dflB w level).length+r.length:=by rw[hB,List.length_append,List.length_append]
 rw[<- hB]at h1 h2 hl ⊢
 have hd:(ub B).drop (8 * (outF level ws).length)=dflX w level++(Z++ub r):=by
  rw[hB,List.append_assoc,ub_app,List.drop_left' (length_ub _),ub_app,hZ,List.append_assoc]
 have hdf:=dfl_loop (b:=w) (pre:=ws.flatten) (B:=B) (base:=8 * (outF level ws).length) (f:=g) (level:=level) (most:=most) (l:=l') hlv (by omega) (by omega) hd (by omega) (by omega)
 have hall:mAll B most= .ok (8 * (outF level ws).length+(dflX w level).length,ws.flatten++w,l'++kd0 level [] (blksF w level)):=by
  unfold mAll
  rw[if_neg (by omega),if_neg (by omega),h2,hdf]
 unfold aE aO aU
 rw[hall]
 refine⟨rfl,rfl,?_⟩
 simp only
 rw[List.length_append]
 omega
theorem gzT_len (b:List UInt8):(gzT b).length=8:=rfl
theorem mb_stream {level most:Int}{ws:List (List UInt8)}{w r out:List UInt8}(hE:dflE w level=0)(hm:((out.length+(ws.flatten++w).length:Nat):Int)<=most)(hm1:most<=1048576)(hl:(outF level ws++dflB w level++r).length<=1048576):
  Mb most (outF level ws++dflB w level++r) out (ws.flatten++w) (outF level ws++dflB w level).length:=by
 rw[List.length_append]at hm
 obtain⟨h1,h2,h3⟩:=stream_more (r:=r) (most:=most-out.length) hE (by omega) (by omega) hl
 exact⟨h1,h2,h3,by rw[List.length_append (bs:=r)];omega,by rw[List.length_append];exact hm⟩
theorem dflB_le {b:List UInt8}{level:Int}(hE:dflE b level=0):(dflB b level).length<=b.length+400/\b.length<=524288:=by
 obtain⟨h0,_,h1⟩:=dflE_0 hE
 have:=dflX_len (b:=b) h0
 rw[dflB_len hE]
 omega
theorem mb_dfl {level most:Int}{b r out:List UInt8}(hE:dflE b level=0)(hm:((out.length+b.length:Nat):Int)<=most)(hm1:most<=1048576)(hl:(dflB b level++r).length<=1048576):
  Mb most (dflB b level++r) out b (dflB b level).length:=mb_stream (ws:=[]) (w:=b) (r:=r) (out:=out) hE hm hm1 hl
end Go.Proofs.YtndojgomlkpeaaaGreatDoor.GZ
namespace Go.Proofs.YtndojgomlkpeaaaGreatDoor.FD
open Go Go.Proofs Go.RowKit Sh Sl T IF GZ
def idV (V:List (List UInt8))(D:List UInt8)(most:Int)(U:Except Int (List UInt8 × Nat)):List UInt8 × Int:=
 match V with
 |[]=>if most<(D.length:Int)then([],6)else(D,0)
 |[v]=>if eqlF v kGz then(rO U,rE U)else([],46)
 |_::_::_=>([],46)
def idR (V:List (List UInt8))(D:List UInt8)(most:Int)(U:Except Int (List UInt8 × Nat)):List UInt8 × Int:=
 if most<0\/1048576<most then([],1)else if 1048576<(D.length:Int)then([],6)else idV V D most U
theorem identity {W:World} {st most:Int} {Y:List Fd} {D:List UInt8} {ax ad:Option Addr} {cx cd:Nat} {AX AD:HP} {U:Except Int (List UInt8 × Nat)} (hA:RdF W AX ax Y) (hY:zF Y<=2097152) (hB:RdB W AD ad D.length (D.map Sl.B)) (hb:ad=none->D.length=0) (hD:D.length<=1099511627776)
  (hU:∀v,valsF Y kCE=[v]->eqlF v kGz=true->0<=most->most<=1048576->D.length<=1048576->Cn p_ 23 [.slice ad D.length cd,.int .i64 most] W [AD] (fun q:Option Addr × Nat=> .tuple #[.slice q.1 (rO U).length q.2,.int .i64 (rE U)]) (fun q=>[Sl 1 5 q.1 q.2 (rO U).length ((rO U).map Sl.B),AD])):
  Cn p_ 8 [.agg #[.int .i64 st,.slice ax Y.length cx,.slice ad D.length cd],.int .i64 most] W [AX,AD]
   (fun q:Option Addr × Nat=> .tuple #[.slice q.1 (idR (valsF Y kCE) D most U).1.length q.2,.int .i64 (idR (valsF Y kCE) D most U).2])
   (fun q=>[Sl 1 5 q.1 q.2 (idR (valsF Y kCE) D most U).1.length ((idR (valsF Y kCE) D most U).1.map Sl.B),AX,AD]):=by
 have hok:=z_ok (l:=Y) (by omega)
 have hvz:=zL_vals Y kCE
 have hvl:=vals_len Y kCE
 have hzl:=z_len Y
 (refine Shp.cn (Sg.g_ Tryz.call8 Tryz.func8 (an:={cuts:=[(4,[10])]})) fun F=>?_;simp only[ca_,na_])
 refine e_boxA fun b=>?_
 refine o_ v_fa0 (ln_ ?_)
 refine e_call (values (n:=kCE) hA hok (by decide)) (.cons (by repeat constructor) .nil) fun r=>?_
 obtain⟨va,vc⟩:=r
 refine nr_ ?_
 (try dsimp only)
 obtain⟨V,hV⟩:∃V,V=valsF Y kCE:=⟨_,rfl⟩
 rw[<- hV]at hU hvz hvl ⊢
 obtain⟨I,hI⟩:∃I,I=idR V D most U:=⟨_,rfl⟩
 rw[<- hI]
 refine e_cut1d ?_
 refine o_ v_lss ?_
 by_cases c1:most<0
 ·obtain rfl:I=([],1):=by rw[hI];unfold idR;rw[if_pos (.inl c1)]
  rw[dT_ c1]
  refine e_condT (e_allds fun ds=>?_)
  refine e_condT (e_nil (s:=1) (e:=5) ?_)
  refine e_ret (none,0) rfl ?_
  exact im_
 rw[dF_ c1]
 refine e_condF (o_ v_gtr (e_allds fun ds=>?_))
 by_cases c2:1048576<most
 ·obtain rfl:I=([],1):=by rw[hI];unfold idR;rw[if_pos (.inr c2)]
  rw[dT_ c2]
  refine e_condT (e_nil (s:=1) (e:=5) ?_)
  refine e_ret (none,0) rfl ?_
  exact im_
 rw[dF_ c2]
 refine e_condF (o_ v_fa0 (ln_ ?_));refine o_ v_len (o_ v_gtr ?_)
 by_cases c3:1048576<(D.length:Int)
 ·obtain rfl:I=([],6):=by rw[hI];unfold idR;rw[if_neg (by omega),if_pos c3]
  rw[dT_ c3]
  refine e_condT (e_nil (s:=1) (e:=5) ?_)
  refine e_ret (none,0) rfl ?_
  exact im_
 have hIV:I=idV V D most U:=by rw[hI];unfold idR;rw[if_neg (by omega),if_neg c3]
 clear hI
 rw[dF_ c3]
 refine e_condF (o_ v_len (o_ v_eql ?_))
 match hVV:V with
 |[]=>
  unfold idV at hIV
  rw[dF_ (by simp)]
  refine e_gdF2 (e_gdF2 (e_gdF2 (e_gdF2 (o_ v_pickF (e_condF (o_ v_len (o_ v_gtr ?_)))))))
  rw[dF_ (by simp)]
  refine e_condF (o_ v_fa0 (ln_ ?_));refine o_ v_len (o_ v_gtr ?_)
  by_cases c4:most<(D.length:Int)
  ·rw[if_pos c4]at hIV
   subst hIV
   rw[dT_ c4]
   refine e_condT (e_nil (s:=1) (e:=5) ?_)
   refine e_ret (none,0) rfl ?_
   exact im_
  ·rw[if_neg c4]at hIV
   subst hIV
   rw[dF_ c4]
   refine e_condF (o_ v_fa0 (ln_ ?_))
   refine e_nil (s:=1) (e:=5) ?_
   refine e_app (m:=D.length) (news:=D.map Sl.B) (by(repeat constructor):Pick _ (Sl 1 5 none 0 0 []) _) (src_rd (e':=5) (by kernel_rfl) (by(repeat constructor):Pick _ AD _) hB hb B_one) (by omega) (by omega) fun a2 c2=>?_
   rw[Nat.zero_add,List.nil_append]
   refine e_ret (a2,c2) rfl ?_
   exact im_
 |[v]=>
  unfold idV at hIV
  have hvv:=zL_mem (show v∈valsF Y kCE by rw[<- hV];exact List.mem_singleton.2 rfl)
  rw[<- hV]at hvv
  rw[dT_ (by simp)]
  refine e_slfacts (by(repeat constructor):Pick _ (Sl 1 9 va vc [v].length ([v].map txt)) _) fun _ _ _ hs=>?_
  have hN:RdB W (Sl 1 9 va vc [v].length ([v].map txt)) va [v].length ([v].map txt):=rd_sl (by rw[List.length_map]) hs
  obtain⟨ng,rfl⟩:=hs (by simp)
  refine e_gdT (e_gdT (o_ (v_ia1 0 rfl (by simp)) ?_))
  refine e_gdT ?_;(((refine' e_opN (v_ldSl ?hc) ?hi ?_);(case hi=>exact im_);(case hc=>rfl)));refine e_gdT ?_
  (try refine p_op (txt_at hN (j:=0) (by simp)) ?_)
  refine e_call (equal (a:=v) (b:=kGz) (by omega) (by decide)) .nil fun _=>?_
  refine nr_ ?_
  cases he:eqlF v kGz with
  |true=>
   simp only[he,if_true]at hIV
   subst hIV
   refine o_ v_pickT (e_condT (o_ v_fa0 (ln_ ?_)))
   refine e_call (hU v rfl he (by omega) (by omega) (by omega)) (.cons (by repeat constructor) .nil) fun r=>?_
   obtain⟨ua,uc⟩:=r
   refine nr_ ?_
   (try dsimp only)
   refine o_ (v_ext (v:= .slice ua (rO U).length uc) rfl) ?_
   refine o_ (v_ext (v:= .int .i64 (rE U)) rfl) ?_
   refine e_ret (ua,uc) rfl ?_
   exact im_
  |false=>
   simp only[he,Bool.false_eq_true,if_false]at hIV
   subst hIV
   refine o_ v_pickT (e_condF (o_ v_len (o_ v_gtr ?_)))
   rw[dT_ (by simp)]
   refine e_condT (e_nil (s:=1) (e:=5) ?_)
   refine e_ret (none,0) rfl ?_
   exact im_
 |v::u::r=>
  unfold idV at hIV
  subst hIV
  rw[dF_ (by simp only[List.length_cons];omega)]
  refine e_gdF2 (e_gdF2 (e_gdF2 (e_gdF2 (o_ v_pickF (e_condF (o_ v_len (o_ v_gtr ?_)))))))
  rw[dT_ (by simp only[List.length_cons];omega)]
  refine e_condT (e_nil (s:=1) (e:=5) ?_)
  refine e_ret (none,0) rfl ?_
  exact im_
end Go.Proofs.YtndojgomlkpeaaaGreatDoor.FD
namespace Go.Proofs.YtndojgomlkpeaaaGreatDoor.Sl
open Go Go.RowKit Sh
variable {P:Program} {W:World} {L L':List HP} {Kp:PK} {k:Value->WP}
theorem e_bconst {t e e':TypeId} {g n c:Nat} {cs:Array Value} (ht:P.underlying t=some (.slice e)) (he:P.underlying e=some (.int .u8)) (p:Pick L (pt g (.cells cs e' (0,0))) L')
  (h:Ent W (pt g (.cells cs e' (cs.size,cs.size+1))::L') (k (.slice (some ⟨g,0,none⟩) n c))):Ent W L (opN P (sConv t t (.slice (some ⟨g,0,none⟩) n c)) Kp k):=fun w hw=>by
 have hp:=hw.pick p
 have hg:=hp.pt_.1
 have hsh:w.shape? g=some (e',cs.size):=by unfold World.shape?;rw[hg]
 have hrun:(sConv t t (.slice (some ⟨g,0,none⟩) n c)).run P w= .ok (.value (.slice (some ⟨g,0,none⟩) n c)) (w.freeze ⟨g,cs.size,none⟩ 1):=by
  simp[sConv,convert,run_underlying ht,run_underlying he,markStringish,hsh]
 refine⟨?_⟩
 rw[hrun]
 refine h _ (hp.turn (w':=w.freeze ⟨g,cs.size,none⟩ 1) rfl rfl rfl ?_ ?_ ?_)
 ·simp[World.freeze]
 ·simp[World.freeze,Array.getElem?_modify,hg]
 ·intro i hi
  simp only[World.freeze]
  rw[if_neg (by decide),Array.getElem?_modify,if_neg (fun c=>hi c.symm)]
end Go.Proofs.YtndojgomlkpeaaaGreatDoor.Sl
namespace Go.Proofs.YtndojgomlkpeaaaGreatDoor.FD
open Go Go.Proofs Go.RowKit Sh Sl T IF GZ
theorem pk_len {level:Int}{b:List UInt8}(hE:pkE b level 0=0):(pkB b level 0).length<=1048576:=by
 have h2:pkB b level 0=gzH 0++dflB b level++gzT b:=by unfold pkB;rw[if_pos hE];rfl
 have h1:dflE b level=0:=by unfold pkE at hE;rwa [if_neg (by omega)]at hE
 obtain⟨h3,h4⟩:=dflB_le h1
 rw[h2,List.length_append,List.length_append,gzH_len,gzT_len];omega
theorem ur_at {level most:Int}{b:List UInt8}(hE:pkE b level 0=0)(hm:(b.length:Int)<=most)(hm1:most<=1048576):(pkB b level 0).length<=1048576/\Ur most (pkB b level 0) [] 0 (.ok (b,1)):=by
 have h2:pkB b level 0=gzH 0++dflB b level++gzT b:=by unfold pkB;rw[if_pos hE];rfl
 have h1:dflE b level=0:=by unfold pkE at hE;rwa [if_neg (by omega)]at hE
 obtain⟨h3,h4⟩:=dflB_le h1
 rw[h2]
 have:=Ur.mem (m:=0) (n:=0) (out:=[]) (r:=[]) (mb_dfl (most:=most) (r:=gzT b) (out:=[]) h1 (by simp only[List.length_nil];omega) hm1 (by rw[List.length_append,gzT_len];omega)) (by rw[List.drop_left,List.append_nil]) (.done (by decide))
 rw[List.nil_append]at this
 refine⟨by rw[List.length_append,List.length_append,gzH_len,gzT_len];omega,?_⟩
 rw[List.append_assoc]
 exact this
theorem num19 {W:World}{n:Int}:Cn p_ 10 [.int .i64 n] W [] (fun _:Unit=> .int .i64 n) (fun _=>[]):=by
 (refine Shp.cn (Sg.g_ Tryz.call10 Tryz.func10) fun F=>?_;simp only[ca_,na_])
 refine rt_ () ?_
 exact .refl
theorem rdF_pt {W:World}{g:Nat}{l:List Fd}{T:TypeId}{fz:Nat × Nat}:RdF W (pt g (.cells (l.flatMap pFd).toArray T fz)) (some ⟨g,0,none⟩) l:=rd_pt (flat_len (f:=pFd) (s:=2) (fun _=>rfl) l)
theorem accept {W:World}{s:List UInt8}:Cn p_ 27 [txt s] W [] (fun g:Nat=> .slice (some ⟨g,0,none⟩) 1 1) (fun g=>[pt g (.cells ([(kAE,s)].flatMap pFd).toArray 52)]):=by
 (refine Shp.cn (Sg.g_ Tryz.call27 Tryz.func27) fun F=>?_;simp only[ca_,na_])
 refine o_ v_rv ?_
 refine e_bslS (n:=1) (vs:=[vFd (kAE,s)]) rfl (by decide) rfl (by intro v hv;rw[List.mem_singleton.1 hv];rfl) (by decide) fun g=>?_
 refine e_ret g rfl ?_
 exact im_
def kA:List UInt8:=[97,97,97,97,97,97,97,97,97,97,97,97,97,97,97,97,97,97,97,97,97,97,97,97,97,97,97,97,97,97,97,97,97,97,97,97,97,97,97,97]
def kPl:List UInt8:=[116,101,120,116,47,112,108,97,105,110]
def kQ:List UInt8:=[103,122,105,112,59,113,61,48,46,53,44,32,105,100,101,110,116,105,116,121,59,113,61,48,46,54]
set_option maxRecDepth 100000 in
theorem kn_pk:pkE kA 6 0=0/\(pkB kA 6 0).length<40:=by
 have:decide (pkE kA 6 0=0/\(pkB kA 6 0).length<40)=true:=by decide+kernel
 exact of_decide_eq_true this
def kB:List UInt8:=(pkB kA 6 0).drop 10
set_option maxRecDepth 100000 in
theorem kn_b:pkB kA 6 0=gzH 0++kB/\aE kB 100=0/\aO kB 100=kA/\aU kB 100=((kB.length-8:Nat):Int)/\kB.drop (kB.length-8)=gzT kA++[]:=by
 have:decide (pkB kA 6 0=gzH 0++kB/\aE kB 100=0/\aO kB 100=kA/\aU kB 100=((kB.length-8:Nat):Int)/\kB.drop (kB.length-8)=gzT kA++[])=true:=by decide+kernel
 exact of_decide_eq_true this
theorem kn_u:(pkB kA 6 0).length<=1048576/\Ur 100 (pkB kA 6 0) [] 0 (.ok (kA,1)):=by
 refine⟨by have:=kn_pk.2;omega,?_⟩
 obtain⟨h1,h2,h3,h4,h5⟩:=kn_b
 rw[h1]
 exact Ur.mem (n:=0) (out:=[]) (r:=[]) ⟨h2,h3,h4,Nat.sub_le _ _,by decide⟩ h5 (.done (by decide))
theorem kn_ch:chooB [(kAE,kGz)]=true/\chooF [(kAE,kQ)]=kIdn/\chooF [(kAE,kGz)]=kGz:=by
 have:decide (chooB [(kAE,kGz)]=true/\chooF [(kAE,kQ)]=kIdn/\chooF [(kAE,kGz)]=kGz)=true:=by decide+kernel
 exact of_decide_eq_true this
theorem kn_fit:fitB 200 [(kCT,kPl)] kA=true:=by decide+kernel
theorem kn_app:(appR [(kAE,kGz)] 6 200 [(kCT,kPl)] kA).D=pkB kA 6 0/\valsF (appR [(kAE,kGz)] 6 200 [(kCT,kPl)] kA).X kCE=[kGz]:=by
 have h:=app_same (l:=[(kAE,kGz)]) (level:=6) (st:=200) (D:=kA) (fit_ce kn_fit)
 rcases h with ⟨h1,h2⟩|⟨h1,_,_,h2,_⟩
 ·exfalso
  have:(appR [(kAE,kGz)] 6 200 [(kCT,kPl)] kA).X=pakX (varyX [(kCT,kPl)]) (pkB kA 6 0):=by
   unfold appR
   rw[kn_fit,kn_ch.1,if_pos (by decide),if_pos rfl,if_pos kn_pk.1]
  rw[this]at h1
  unfold pakX at h1
  rw[vals_app]at h1
  have h3:=(List.append_eq_nil_iff.1 h1).2
  rw[vals_cons,vals_one,if_pos (by decide)]at h3
  cases h3
 ·exact⟨h2,h1⟩
end Go.Proofs.YtndojgomlkpeaaaGreatDoor.FD
namespace Go.Proofs.YtndojgomlkpeaaaGreatDoor.FD
open Go Go.Proofs Go.RowKit Sh Sl T
theorem copied {W:World}{st:Int}{l:List Fd}{D:List UInt8}{a b:Option Addr}{c d:Nat}{A B:HP}(hA:RdF W A a l)(ha:a=none->l.length=0)(hl:l.length<=1099511627776)(hB:RdB W B b D.length (D.map Sl.B))(hb:b=none->D.length=0)(hD:D.length<=1099511627776):
  Cn p_ 7 [.agg #[.int .i64 st,.slice a l.length c,.slice b D.length d]] W [A,B] (fun q:(Option Addr × Nat) × (Option Addr × Nat)=> .agg #[.int .i64 st,.slice q.1.1 l.length q.1.2,.slice q.2.1 D.length q.2.2])
   (fun q=>[A,B,Sl 2 52 q.1.1 q.1.2 l.length (l.flatMap pFd),Sl 1 5 q.2.1 q.2.2 D.length (D.map Sl.B)]):=by
 (refine Shp.cn (Sg.g_ Tryz.call7 Tryz.func7 (an:={drs:=[(1,(.op 0 3 (.op 1 3 (.op 3 3 (.op 4 3 (.op 7 3 (.op 8 3 (.alt ((.op 2 0 (.alt (.ofL [(5,0),(6,0),(9,0),(10,1),(11,0)]) (.ofL [(6,0),(5,0),(9,0),(10,1),(11,0)])))) (.ofL [(6,0),(2,0),(5,0),(9,0),(10,1),(11,0)])))))))))]}) (os:=[(1,[(2,[8,7,4,3,1,0]),(5,[8,7,1,0]),(6,[8,7,4,3,1,0]),(9,[1,0])])])) fun F=>?_;simp only[ca_,na_])
 refine e_boxA fun b1=>?_
 refine e_newA fun g=>?_;refine e_drS (e_stD v_fa0 .nil ?_);(((refine' e_stD (v_ldN ?hc) ?hi ?_);(case hi=>exact .pick (by repeat constructor) .nil);(case hc=>repeat constructor)));refine e_stD v_fa0 .nil ?_;(((refine' e_stD (v_ldN ?hc) ?hi ?_);(case hi=>exact .pick (by repeat constructor) .nil);(case hc=>repeat constructor)));refine e_stD v_fa0 .nil ?_;(((refine' e_stD (v_ldN ?hc) ?hi ?_);(case hi=>exact .pick (by repeat constructor) .nil);(case hc=>repeat constructor)))
 refine e_andS ?_ ?_
 ·refine e_bsl0 fun g=>?_
  refine ob_ ?_;refine ob_ ?_;refine ob_ ?_;refine ob_ ?_;refine ob_ ?_;refine ob_ ?_
  refine e_andS ?_ ?_
  ·refine e_app (m:=l.length) (news:=l.flatMap pFd) (by(repeat constructor):Pick _ (Sl 2 52 (some ⟨g,0,none⟩) 0 0 []) _) (src_rdG (s:=2) (e':=52) (by kernel_rfl) (by decide) (by(repeat constructor):Pick _ A _) hA ha pFd_one) (by omega) (by omega) fun a' c'=>?_
   rw[Nat.zero_add,List.nil_append]
   refine ob_ ?_;refine ob_ ?_;refine ob_ ?_;refine ob_ ?_
   refine e_bsl0 fun g2=>?_
   refine ob_ ?_;refine ob_ ?_;refine ob_ ?_;refine ob_ ?_;refine ob_ ?_;refine ob_ ?_
   refine e_app (m:=D.length) (news:=D.map Sl.B) (by(repeat constructor):Pick _ (Sl 1 5 (some ⟨g2,0,none⟩) 0 0 []) _) (src_rd (e':=5) (by kernel_rfl) (by(repeat constructor):Pick _ B _) hB hb B_one) (by omega) (by omega) fun a2 c2=>?_
   rw[Nat.zero_add,List.nil_append]
   refine ob_ ?_;refine ob_ ?_;refine t_ v_rv ?_;refine sg_ ?_;(((refine' e_stS (v_resA ?hn) ?hi ?_);(case hi=>exact im_);(case hn=>rfl)))
   refine e_ret ((a',c'),(a2,c2)) rfl ?_
   exact im_
  ·refine e_bsl0 fun g2=>?_
   refine ob_ ?_;refine ob_ ?_;refine ob_ ?_;refine ob_ ?_;refine ob_ ?_;refine ob_ ?_
   refine e_app (m:=l.length) (news:=l.flatMap pFd) (by(repeat constructor):Pick _ (Sl 2 52 (some ⟨g,0,none⟩) 0 0 []) _) (src_rdG (s:=2) (e':=52) (by kernel_rfl) (by decide) (by(repeat constructor):Pick _ A _) hA ha pFd_one) (by omega) (by omega) fun a' c'=>?_
   rw[Nat.zero_add,List.nil_append]
   refine ob_ ?_;refine ob_ ?_;refine ob_ ?_;refine ob_ ?_
   refine e_app (m:=D.length) (news:=D.map Sl.B) (by(repeat constructor):Pick _ (Sl 1 5 (some ⟨g2,0,none⟩) 0 0 []) _) (src_rd (e':=5) (by kernel_rfl) (by(repeat constructor):Pick _ B _) hB hb B_one) (by omega) (by omega) fun a2 c2=>?_
   rw[Nat.zero_add,List.nil_append]
   refine ob_ ?_;refine ob_ ?_;refine t_ v_rv ?_;refine sg_ ?_;(((refine' e_stS (v_resA ?hn) ?hi ?_);(case hi=>exact im_);(case hn=>rfl)))
   refine e_ret ((a',c'),(a2,c2)) rfl ?_
   exact im_
 ·refine e_bsl0 fun g2=>?_
  refine ob_ ?_;refine ob_ ?_;refine ob_ ?_;refine ob_ ?_;refine ob_ ?_;refine ob_ ?_
  refine e_bsl0 fun g=>?_
  refine ob_ ?_;refine ob_ ?_;refine ob_ ?_;refine ob_ ?_;refine ob_ ?_;refine ob_ ?_
  refine e_app (m:=l.length) (news:=l.flatMap pFd) (by(repeat constructor):Pick _ (Sl 2 52 (some ⟨g,0,none⟩) 0 0 []) _) (src_rdG (s:=2) (e':=52) (by kernel_rfl) (by decide) (by(repeat constructor):Pick _ A _) hA ha pFd_one) (by omega) (by omega) fun a' c'=>?_
  rw[Nat.zero_add,List.nil_append]
  refine ob_ ?_;refine ob_ ?_;refine ob_ ?_;refine ob_ ?_
  refine e_app (m:=D.length) (news:=D.map Sl.B) (by(repeat constructor):Pick _ (Sl 1 5 (some ⟨g2,0,none⟩) 0 0 []) _) (src_rd (e':=5) (by kernel_rfl) (by(repeat constructor):Pick _ B _) hB hb B_one) (by omega) (by omega) fun a2 c2=>?_
  rw[Nat.zero_add,List.nil_append]
  refine ob_ ?_;refine ob_ ?_;refine t_ v_rv ?_;refine sg_ ?_;(((refine' e_stS (v_resA ?hn) ?hi ?_);(case hi=>exact im_);(case hn=>rfl)))
  refine e_ret ((a',c'),(a2,c2)) rfl ?_
  exact im_
end Go.Proofs.YtndojgomlkpeaaaGreatDoor.FD
namespace Go.Proofs.YtndojgomlkpeaaaGreatDoor.FD
open Go Go.Proofs Go.RowKit Sh Sl T IF GZ
set_option maxRecDepth 100000 in
theorem kn_z:zF (appR [(kAE,kGz)] 6 200 [(kCT,kPl)] kA).X<=2097152:=by
 have:decide (zF (appR [(kAE,kGz)] 6 200 [(kCT,kPl)] kA).X<=2097152)=true:=by decide+kernel
 exact of_decide_eq_true this
theorem idR_gz {G b:List UInt8}{most:Int}(h0:0<=most)(h1:most<=1048576)(hG:G.length<=1048576):idR [kGz] G most (.ok (b,1))=(b,0):=by
 unfold idR
 rw[if_neg (by omega),if_neg (by omega)]
 show(if eqlF kGz kGz=true then(rO (.ok (b,1)),rE (.ok (b,1)))else(([],46):List UInt8 × Int))=_
 rw[if_pos (by decide)]
 rfl
theorem knows19 {W : World} [hG : Gl W] [hP : Gp W] : Cn p_ 12 [] W [] (fun _ : Unit => .bool true) (fun _ => []) := by
 obtain ⟨hkA, hkC⟩ := kn_app
 have hkz := kn_z
 obtain ⟨hpk, hp40⟩ := kn_pk
 obtain ⟨hgl, hur⟩ := kn_u
 obtain ⟨hc1, hc2, hc3⟩ := kn_ch
 (refine Shp.cn (Sg.g_ Tryz.call12 Tryz.func12 (an := { drs := [(2, (.op 1 3 (.alt ((.op 0 0 (.alt (.ofL [(2, 0), (3, 0), (4, 0)]) (.ofL [(3, 0), (2, 0), (4, 0)])))) (.ofL [(3, 0), (0, 0), (2, 0), (4, 0)]))))], rcuts := [(3, [2])] }) (os := [(2, [(0, [1]), (3, [1])])])) fun F => ?_; simp only [ca_, na_])
 refine e_opN v_rv .nil ?_
 refine e_bslS (n := 1) (vs := [vFd (kCT, kPl)]) rfl (by decide) rfl (by intro v hv; rw [List.mem_singleton.1 hv]; rfl) (by decide) fun g6 => ?_
 refine e_bslN (vs := kA.map Sl.B) rfl rfl (by intro v hv; obtain ⟨c, _, rfl⟩ := List.mem_map.1 hv; rfl) (by decide) fun g7 => ?_
 refine e_bconst (e := 5) (by kernel_rfl) (by kernel_rfl) .here ?_
 refine e_opN v_rv .nil ?_; refine e_newA fun g => ?_; (((refine' e_stAgg ?hp ?hn ?hv ?h1 ?_); (case hp => (repeat constructor)); (case hn => rfl); (case hv => rfl); (case h1 => simp [Value.oneCell'])))
 rename Nat => b1
 have hX : ∀ {W : World}, RdF W (pt g6 (.cells ([vFd (kCT, kPl)].flatMap fun v => v.cells.toList).toArray 52)) (some ⟨g6, 0, none⟩) [(kCT, kPl)] := fun {W} => rdF_pt (W := W) (g := g6) (l := [(kCT, kPl)]) (T := 52) (fz := (0, 0))
 have hD : ∀ {W : World} {fz : Nat × Nat}, RdB W (pt g7 (.cells (kA.map Sl.B).toArray 5 fz)) (some ⟨g7, 0, none⟩) kA.length (kA.map Sl.B) := rd_pt (by rw [List.length_map])
 obtain ⟨R, hR⟩ : ∃ R, R = appR [(kAE, kGz)] 6 200 [(kCT, kPl)] kA := ⟨_, rfl⟩
 have hz : zF [(kCT, kPl)] <= 1100000 := by decide
 have hl : ∀ {W : World} {ga : Nat}, RdF W (pt ga (.cells ([(kAE, kGz)].flatMap pFd).toArray 52)) (some ⟨ga, 0, none⟩) [(kAE, kGz)] := fun {W ga} => rdF_pt
 obtain ⟨PX, hPX⟩ : ∃ PX, PX = pt g6 (.cells ([vFd (kCT, kPl)].flatMap fun v => v.cells.toList).toArray 52) := ⟨_, rfl⟩
 obtain ⟨PD, hPD⟩ : ∃ PD, PD = pt g7 (.cells (kA.map Sl.B).toArray 5 ((kA.map Sl.B).toArray.size, (kA.map Sl.B).toArray.size + 1)) := ⟨_, rfl⟩
 rw [<- hPX, <- hPD]
 have hX2 : ∀ {W : World}, RdF W PX (some ⟨g6, 0, none⟩) [(kCT, kPl)] := fun {W} => by rw [hPX]; exact hX
 have hD2 : ∀ {W : World}, RdB W PD (some ⟨g7, 0, none⟩) kA.length (kA.map Sl.B) := fun {W} => by rw [hPD]; exact hD
 clear hX hD hPX hPD
 have hap : ∀ ga : Nat, Cn p_ 14 [.slice (some ⟨ga, 0, none⟩) 1 1, .agg #[.int .i64 200, .slice (some ⟨g6, 0, none⟩) 1 1, .slice (some ⟨g7, 0, none⟩) 40 40], .int .i64 6] W [pt ga (.cells ([(kAE, kGz)].flatMap pFd).toArray 52), PX, PD]
   (fun q : (Option Addr × Nat) × (Option Addr × Nat) => .agg #[.int .i64 200, .slice q.1.1 R.X.length q.1.2, .slice q.2.1 R.D.length q.2.2])
   (fun q => [pt ga (.cells ([(kAE, kGz)].flatMap pFd).toArray 52), PX, PD, Sl 2 52 q.1.1 q.1.2 R.X.length (R.X.flatMap pFd), Sl 1 5 q.2.1 q.2.2 R.D.length (R.D.map Sl.B)]) := fun ga => by
  rw [hR]
  exact apply (l := [(kAE, kGz)]) (X := [(kCT, kPl)]) (D := kA) hl (by decide) hX2 (fun h => by cases h) hz hD2 (fun h => by cases h) (by decide)
 rw [<- hR] at hkA hkC hkz
 refine e_cut1 (fun z => (ex fun q : (Option Addr × Nat) × (Option Addr × Nat) => ex fun o : Nat => all [pu (z = .pointer (some ⟨o, 0, none⟩)), pt o (.cells #[.int .i64 200, .slice q.1.1 R.X.length q.1.2, .slice q.2.1 R.D.length q.2.2] 25), Sl 2 52 q.1.1 q.1.2 R.X.length (R.X.flatMap pFd), Sl 1 5 q.2.1 q.2.2 R.D.length (R.D.map Sl.B)])
   :: pt b1 (.cells #[.int .i64 200, .slice (some ⟨g6, 0, none⟩) 1 1, .slice (some ⟨g7, 0, none⟩) 40 40] 25) :: PX :: PD :: F) ?_ ?_
 rotate_left
 ·(refine e_drS ?_); (((refine' e_stD (v_ldAgg ?hn) ?hi ?_); (case hi => exact .pick (by repeat constructor) .nil); (case hn => rfl)))
  refine e_andS ?_ ?_
  ·(refine' e_call (accept (s := kGz)) ?hp fun _ => ?_; (case hp => (repeat (first | exact Picks.nil | (apply Picks.cons; (focus repeat constructor))))); (try simp only [ca_, na_, Bool.not_true, Bool.not_false]))
   rename_i ga
   (((refine e_obl ?hi ?_); (case hi => (repeat (first | exact .refl | exact .nil | (apply Imp.pick; (focus ((repeat constructor); done))) | refine .drop ?_)))))
   refine e_andS ?_ ?_
   ·(refine' e_call (hap ga) ?hp fun _ => ?_; (case hp => (repeat (first | exact Picks.nil | (apply Picks.cons; (focus repeat constructor))))); (try simp only [ca_, na_, Bool.not_true, Bool.not_false]))
    rename_i q
    refine e_newA fun g => ?_; (((refine e_obl ?hi ?_); (case hi => (repeat (first | exact .refl | exact .nil | (apply Imp.pick; (focus ((repeat constructor); done))) | refine .drop ?_))))); (((refine' e_stAgg ?hp ?hn ?hv ?h1 ?_); (case hp => (repeat constructor)); (case hn => rfl); (case hv => rfl); (case h1 => simp [Value.oneCell'])))
    rename Nat => o
    refine e_sat (.ex q (.ex o (.all ?_)))
    (try simp only [ca_, na_, -eq_self])
    refine .pu rfl ?_
    (repeat (first | exact .refl | exact .nil | (apply Imp.pick; (focus ((repeat constructor); done))) | refine .drop ?_))
   ·refine e_newA fun o => ?_
    (((refine e_obl ?hi ?_); (case hi => (repeat (first | exact .refl | exact .nil | (apply Imp.pick; (focus ((repeat constructor); done))) | refine .drop ?_)))))
    (refine' e_call (hap ga) ?hp fun _ => ?_; (case hp => (repeat (first | exact Picks.nil | (apply Picks.cons; (focus repeat constructor))))); (try simp only [ca_, na_, Bool.not_true, Bool.not_false]))
    rename_i q
    (((refine' e_stAgg ?hp ?hn ?hv ?h1 ?_); (case hp => (repeat constructor)); (case hn => rfl); (case hv => rfl); (case h1 => simp [Value.oneCell'])))
    refine e_sat (.ex q (.ex o (.all ?_)))
    (try simp only [ca_, na_, -eq_self])
    refine .pu rfl ?_
    (repeat (first | exact .refl | exact .nil | (apply Imp.pick; (focus ((repeat constructor); done))) | refine .drop ?_))
  ·refine e_newA fun o => ?_
   (((refine e_obl ?hi ?_); (case hi => (repeat (first | exact .refl | exact .nil | (apply Imp.pick; (focus ((repeat constructor); done))) | refine .drop ?_)))))
   (refine' e_call (accept (s := kGz)) ?hp fun _ => ?_; (case hp => (repeat (first | exact Picks.nil | (apply Picks.cons; (focus repeat constructor))))); (try simp only [ca_, na_, Bool.not_true, Bool.not_false]))
   rename_i ga
   (((refine e_obl ?hi ?_); (case hi => (repeat (first | exact .refl | exact .nil | (apply Imp.pick; (focus ((repeat constructor); done))) | refine .drop ?_)))))
   (refine' e_call (hap ga) ?hp fun _ => ?_; (case hp => (repeat (first | exact Picks.nil | (apply Picks.cons; (focus repeat constructor))))); (try simp only [ca_, na_, Bool.not_true, Bool.not_false]))
   rename_i q
   (((refine' e_stAgg ?hp ?hn ?hv ?h1 ?_); (case hp => (repeat constructor)); (case hn => rfl); (case hv => rfl); (case h1 => simp [Value.oneCell'])))
   refine e_sat (.ex q (.ex o (.all ?_)))
   (try simp only [ca_, na_, -eq_self])
   refine .pu rfl ?_
   (repeat (first | exact .refl | exact .nil | (apply Imp.pick; (focus ((repeat constructor); done))) | refine .drop ?_))
 intro ds z
 refine e_ex .here fun q => e_ex .here fun o => e_all .here ?_
 obtain ⟨⟨a1, c1⟩, ⟨a2, c2⟩⟩ := q
 (try simp only [ca_, na_, -eq_self])
 refine e_pu .here fun hz2 => ?_
 subst hz2
 (try dsimp only)
 refine e_slfacts (by (repeat constructor) : Pick _ (Sl 2 52 a1 c1 R.X.length (R.X.flatMap pFd)) _) fun _ _ _ hs => ?_
 refine e_slfacts (by (repeat constructor) : Pick _ (Sl 1 5 a2 c2 R.D.length (R.D.map Sl.B)) _) fun _ k2 k3 k4 => ?_
 have hRD := rd_sl (W := W) (e := 5) (a := a2) (cap := c2) (n := R.D.length) (cs := R.D.map Sl.B) (by rw [List.length_map]) k4
 have hb0 : a2 = none -> R.D.length = 0 := fun c => by
  rcases Nat.eq_zero_or_pos R.D.length with h | h
  ·exact h
  ·obtain ⟨g, hg⟩ := k4 h; rw [hg] at c; cases c
 have hid := identity (W := W) (st := 200) (most := 100) (cx := c1) (cd := c2) (U := .ok (kA, 1)) (rdF_any (c := c1) hs) hkz hRD hb0 (by rw [hkA]; omega) (fun v _ _ h0 h1 h2 => unpack_ hRD k2 h2 h0 h1 (by rw [hkA]; exact hur))
 rw [hkC, hkA, idR_gz (by decide) (by decide) hgl] at hid
 rw [hkA]
 (((refine' e_opN (v_ldAgg ?hn) ?hi ?_); (case hi => exact .pick (by repeat constructor) .nil); (case hn => rfl)))
 refine e_call hid (.cons (by repeat constructor) (.cons (by repeat constructor) .nil)) fun r => ?_
 obtain ⟨ua, uc⟩ := r
 (try simp only [ca_, na_, -eq_self])
 (try dsimp only)
 refine e_opN (v_ext (v := .slice ua kA.length uc) rfl) .nil ?_
 refine e_opN (v_ext (v := .int .i64 0) rfl) .nil ?_
 (refine' e_call (accept (s := kQ)) ?hp fun _ => ?_; (case hp => (repeat (first | exact Picks.nil | (apply Picks.cons; (focus repeat constructor))))); (try simp only [ca_, na_, Bool.not_true, Bool.not_false]))
 rename_i gq
 refine e_call (choose (l := [(kAE, kQ)]) (c := 1) rdF_pt (by decide)) (.cons (by repeat constructor) .nil) fun _ => ?_
 rw [hc2]
 (try simp only [ca_, na_, -eq_self])
 refine e_opN (v_streq (m := kIdn)) .nil ?_
 rw [dT_ rfl]
 refine e_gdT ?_
 (refine' e_call (accept (s := kGz)) ?hp fun _ => ?_; (case hp => (repeat (first | exact Picks.nil | (apply Picks.cons; (focus repeat constructor))))); (try simp only [ca_, na_, Bool.not_true, Bool.not_false]))
 rename_i gr
 refine e_gdT ?_
 refine e_call (choose (l := [(kAE, kGz)]) (c := 1) rdF_pt (by decide)) (.cons (by repeat constructor) .nil) fun _ => ?_
 rw [hc3]
 (try simp only [ca_, na_, -eq_self])
 refine e_gdT ?_
 refine e_opN (v_streq (m := kGz)) .nil ?_
 rw [dT_ rfl]
 refine e_opN v_pickT .nil ?_; refine e_gdT ?_; refine e_opN v_fa0 .nil ?_; refine e_gdT ?_; (((refine' e_opN (v_ldN ?hc) ?hi ?_); (case hi => exact .pick (by repeat constructor) .nil); (case hc => repeat constructor))); refine e_gdT ?_; refine e_opN v_len .nil ?_; refine e_gdT ?_
 refine e_opN v_lss .nil ?_
 rw [dT_ (by omega)]
 refine e_opN v_pickT .nil ?_; refine e_gdT ?_; refine e_gdT ?_
 (refine' e_call (num19) ?hp fun _ => ?_; (case hp => (repeat (first | exact Picks.nil | (apply Picks.cons; (focus repeat constructor))))); (try simp only [ca_, na_, Bool.not_true, Bool.not_false]))
 refine e_gdT ?_
 refine e_opN v_eql .nil ?_
 rw [dT_ rfl]
 refine e_opN v_pickT .nil ?_; refine e_gdT ?_; refine e_gdT ?_
 refine e_slfacts (by (repeat constructor) : Pick _ (Sl 1 5 ua uc kA.length (kA.map Sl.B)) _) fun _ _ _ hs5 => ?_
 refine e_opN (v_str (rd_sl (W := W) (e := 5) (a := ua) (cap := uc) (n := kA.length) (cs := kA.map Sl.B) (by rw [List.length_map]) hs5) (fun c => by obtain ⟨g, hg⟩ := hs5 (by decide); rw [hg] at c; cases c)) (.pick (by repeat constructor) .nil) ?_
 refine e_gdT ?_; refine e_opN v_fa0 .nil ?_; refine e_gdT ?_; (((refine' e_opN (v_ldN ?hc) ?hi ?_); (case hi => exact .pick (by repeat constructor) .nil); (case hc => repeat constructor))); refine e_gdT ?_
 refine e_opN (v_str hD2 (fun c => by cases c)) (.pick (by repeat constructor) .nil) ?_
 refine e_gdT ?_
 refine e_opN v_streq .nil ?_
 rw [dT_ rfl]
 refine e_opN v_pickT .nil ?_
 (first | refine e_ret (()) rfl ?_ | refine e_retT (()) ?_)
 (repeat (first | exact .refl | exact .nil | (apply Imp.pick; (focus ((repeat constructor); done))) | refine .drop ?_))
end Go.Proofs.YtndojgomlkpeaaaGreatDoor.FD
namespace Go.Proofs.YtndojgomlkpeaaaGreatDoor.Sl
open Go Go.RowKit Sh
variable {P:Program} {H:Type} {enc:TypeId × Value->H} {W:World}
theorem Old.flat {α:Type}{s n:Nat}{f:α->List Value}{a:Option Addr}{xs:List α}(hf:∀x,(f x).length=s)(h0:0<s)(h:Old W s (fun x cs=>cs=f x) a n xs)(A:HP):RdB W A a (n * s) (xs.flatMap f):=by
 have hl:=h.len
 refine⟨by rw[flat_len hf,hl],fun hn=>?_⟩
 obtain⟨g,o,rfl,hg,hc⟩:=h.at_ (by
  rcases Nat.eq_zero_or_pos n with z|z
  ·subst z;simp at hn
  ·exact z)
 refine⟨g,o,rfl,fun w L hw j v hv=>?_⟩
 have hj:j<xs.length * s:=by
  rcases Nat.lt_or_ge j (xs.flatMap f).length with c|c
  ·rwa [flat_len hf]at c
  ·rw[List.getElem?_eq_none c]at hv;cases hv
 have hi:j / s<xs.length:=Nat.div_lt_of_lt_mul (by rwa [Nat.mul_comm]at hj)
 have hm:j%s<s:=Nat.mod_lt _ h0
 have hd:j=j / s * s+j%s:=by rw[Nat.mul_comm];exact(Nat.div_add_mod j s).symm
 obtain⟨cs,h1,h2,h3⟩:=hc (j / s) hi
 subst h2
 rw[hd,flat_get hf xs _ _ hi hm]at hv
 have:=h3 (j%s) v hv
 rw[hw.base.cell (p:=⟨g,o+j,none⟩) hg]
 rwa [<- hd]at this
end Go.Proofs.YtndojgomlkpeaaaGreatDoor.Sl
namespace Go.Proofs.YtndojgomlkpeaaaGreatDoor.FD
open Go Go.Proofs Go.RowKit Go.ChangeShapes Sh Sl T
theorem witness_row_shaped {H : Type} {enc : TypeId × Value → H} {C : Checked} {os : Os} {f : FuncId} {fn : Func} {s : OpenSpec} {conds : List PathCond} {apart : Bool} {laid : List (String × DataW Unit)} (modest : Bool) (w0 : World) (args : Array Value) (hos : w0.os = os)
  (hsh : (w0.forCall (fun _ _ => 0) ⟨#[], args, []⟩).Shaped C.prog)
  (hok : Input.okWideB C.prog (w0.forCall (fun _ _ => 0) ⟨#[], args, []⟩) f ⟨#[], args, []⟩ = true)
  (hrow : s.preRow enc C.prog fn conds apart laid (w0.forCall (fun _ _ => 0) ⟨#[], args, []⟩).memory args) :
  ∃ (w : World) (tape : Tape) (i : Input), w.os = os ∧ (w.forCall tape i).Shaped C.prog ∧ i.vars = [] ∧ Input.okWide C.prog (w.forCall tape i) .any w.heap.size f i ∧
   s.preRow enc C.prog fn conds apart laid (w.forCall tape i).memory i.args ∧ ({ modest := modest } : Assume).holds C.prog (lone (Frame.enter C.prog f i.args .normal) [] (w.forCall tape i)) :=
 ⟨w0, fun _ _ => 0, ⟨#[], args, []⟩, hos, hsh, (Input.okWide_of_okWideB (base := 0) hok).1, (Input.okWide_of_okWideB hok).2, hrow, by
  simp only [Assume.holds]
  exact ⟨by simp, by simp, fun _ => Modest.zero, by simp, by simp⟩⟩
theorem laid_at {P:Program}{W:World}{n:String}{d:DataW Unit}:∀ {l:List (String × DataW Unit)} {ps:List MemPlace},DataW.LaidVars P W l ps->(n,d)∈l->
  ∃g t cs fuel p,P.globalNamed n=some g/\(P.globals[g]?).map (·.type)=some t/\W.var? P n=some cs/\DataW.trod (fun _=>()) P W 0 (fun _=>true) false fuel t cs.toList=some (d,p)
 |[],_,_,h=>by cases h
 |(n',d')::r,ps,h,hm=>by
  obtain⟨g,t,cs,fuel,p,q,h1,h2,h3,h4,h5,_⟩:=h
  rcases List.mem_cons.1 hm with e|hm
  ·obtain⟨rfl,rfl⟩:=Prod.mk.inj e
   exact⟨g,t,cs,fuel,p,h1,h2,h3,h4⟩
  ·exact laid_at h5 hm
set_option maxRecDepth 20000 in
theorem open_fd {H:Type}{enc:TypeId × Value->H}{W:World}{sp:Nat->Bool}{held:Bool}(n:Nat)(cs:List Value)(x:DataW H × List MemPlace)(h:DataW.trod enc p_ W 0 sp held n 52 cs=some x):∃a:Fd,cs=pFd a/\a.1.length+a.2.length+3<=Rows.uptoBulk x.1:=by
 obtain⟨xs,m,rfl,rfl,hl,hs,hf⟩:=DataW.trod_struct (fs:=#[⟨"Name",9,0,false,"","",0⟩,⟨"Value",9,1,false,"","",16⟩]) (by kernel_rfl) h
 rw[show p_.cellsOf 52=2 by kernel_rfl]at hl
 obtain⟨c0,c1,rfl⟩:∃c0 c1,cs=[c0,c1]:=by
  match cs,hl with
  |[a,b],_=>exact⟨a,b,rfl⟩
 obtain⟨x0,x1,rfl⟩:∃x0 x1,xs=[x0,x1]:=by
  match xs,hs with
  |[a,b],_=>exact⟨a,b,rfl⟩
 have e1:p_.cellsOf 9=1:=by kernel_rfl
 have f0:=hf 0 _ rfl
 have f1:=hf 1 _ rfl
 simp only[e1,List.drop_zero,List.drop_succ_cons,List.take_succ_cons,List.take_zero,List.getElem?_cons_zero,List.getElem?_cons_succ]at f0 f1
 obtain⟨n0,h0,hx0,_⟩:=DataW.trod_string (by kernel_rfl) f0
 obtain⟨n1,h1,hx1,_⟩:=DataW.trod_string (by kernel_rfl) f1
 have k0:c0= .string n0:=by injection h0
 have k1:c1= .string n1:=by injection h1
 subst k0;subst k1
 refine⟨(n0.data.toList,n1.data.toList),by unfold pFd txt;simp,?_⟩
 have h2:=(Prod.mk.inj hx0).1
 have h3:=(Prod.mk.inj hx1).1
 simp only[List.map_cons,List.map_nil,Rows.uptoBulk,Rows.uptoBulkAll]
 rw[h2,h3]
 simp[Rows.uptoBulk]
 omega
theorem z_sum (l:List Fd):(l.map fun f=>f.1.length+f.2.length+3).sum=zF l:=by
 induction l with
 |nil=>rfl
 |cons f r ih=>rw[List.map_cons,List.sum_cons,ih,zF_cons]
theorem mapM_get {α β:Type}{f:α->Option β}:∀ {l:List α} {ys:List β},l.mapM f=some ys->ys.length=l.length/\∀(i:Nat) (a:α),l[i]? =some a->∃y,ys[i]? =some y/\f a=some y
 |[],ys,h=>by
  simp at h
  subst h
  exact⟨rfl,fun i a hi=>by simp at hi⟩
 |a::l,ys,h=>by
  rw[List.mapM_cons]at h
  cases ha:f a with
  |none=>rw[ha]at h;cases h
  |some y=>
   cases hl:l.mapM f with
   |none=>rw[ha,hl]at h;cases h
   |some zs=>
    rw[ha,hl]at h
    have h:some (y::zs)=some ys:=h
    obtain rfl:=Option.some.inj h
    obtain⟨h1,h2⟩:=mapM_get hl
    refine⟨by rw[List.length_cons,List.length_cons,h1],fun i b hi=>?_⟩
    cases i with
    |zero=>exact⟨y,rfl,by rw[<- ha];congr 1;simpa using hi.symm⟩
    |succ i=>exact h2 i b (by simpa using hi)
theorem trod_arr {P:Program}{H:Type}{enc:TypeId × Value->H}{W:World}{sp:Nat->Bool}{held:Bool}{t e:TypeId}{n fuel:Nat}{cs:List Value}{x:DataW H × List MemPlace}(ht:P.underlying t=some (.array n e))(hce:P.cellsOf e=1)(h:DataW.trod enc P W 0 sp held fuel t cs=some x):
  ∃(xs:List (DataW H × List MemPlace)) (m:Nat),x.1= .agg (xs.map (·.1))/\xs.length=n/\∀i,i<n->∃y,xs[i]? =some y/\DataW.trod enc P W 0 sp held m e ((cs.drop i).take 1)=some y:=by
 cases fuel with
 |zero=>simp[DataW.trod]at h
 |succ m=>
  unfold DataW.trod at h
  rw[ht]at h
  simp only[hce,Nat.mul_one]at h
  split at h
  ·cases hm:(List.range n).mapM fun i=>DataW.trod enc P W 0 sp held m e ((cs.drop i).take 1)with
   |none=>rw[hm]at h;cases h
   |some xs=>
    rw[hm]at h
    have h:=Option.some.inj h
    obtain⟨h1,h2⟩:=mapM_get hm
    refine⟨xs,m,by rw[<- h],by rw[h1,List.length_range],fun i hi=>h2 i i (List.getElem?_range hi)⟩
  ·cases h
theorem gp_of {W:World}{l:List (String × DataW Unit)}(h:laidMet p_ l W)(hm:("internal/strconv.uint64pow10",Rows.laid_internal_strconv_uint64pow10)∈l):Gp W:=by
 obtain⟨ps,hv,_,_⟩:=h
 obtain⟨g,t,cs,fuel,p,h1,h2,h3,h4⟩:=laid_at hv hm
 obtain rfl:=Option.some.inj ((show p_.globalNamed "internal/strconv.uint64pow10" =some 1 by kernel_rfl).symm.trans h1)
 obtain rfl:=Option.some.inj ((show(p_.globals[1]?).map (·.type)=some 220 by kernel_rfl).symm.trans h2)
 obtain⟨xs,m,hx,hl,hf⟩:=trod_arr (n:=20) (e:=170) (by kernel_rfl) (by kernel_rfl) h4
 have key:∀j,j<20->cs[j]? =some (.int .u64 ((10^j:Nat):Int)):=by
  intro j hj
  obtain⟨y,hy,hyt⟩:=hf j hj
  have hlt:∃c,(cs.toList.drop j).take 1=[c]:=by
   cases hd:(cs.toList.drop j).take 1 with
   |nil=>rw[hd]at hyt;cases m <;> simp[DataW.trod]at hyt <;> (split at hyt <;> simp_all)
   |cons c r=>
    have:((cs.toList.drop j).take 1).length<=1:=by rw[List.length_take];omega
    rw[hd]at this
    simp at this
    subst this
    exact⟨c,rfl⟩
  obtain⟨c,hc⟩:=hlt
  rw[hc]at hyt
  obtain⟨n,h0,hx0,_⟩:=DataW.trod_int (by kernel_rfl:p_.underlying 170=some (.int .u64)) hyt
  have hcj:cs[j]? =some c:=by
   have:=congrArg (fun l=>l[0]?) hc
   simpa using this
  have hya:(xs.map (·.1))[j]? =some (.lit (.int .u64 n)):=by rw[List.getElem?_map,hy];simp only[Option.map_some];rw[(Prod.mk.inj hx0).1]
  have hlist:xs.map (·.1)=(List.range 20).map fun j=>(.lit (.int .u64 ((10^j:Nat):Int)):DataW Unit):=by
   have:(DataW.agg (xs.map (·.1)))= .agg ((List.range 20).map fun j=>(.lit (.int .u64 ((10^j:Nat):Int)):DataW Unit)):=by rw[<- hx];rfl
   injection this
  rw[hlist,List.getElem?_map,List.getElem?_range hj]at hya
  simp only[Option.map_some,Option.some.injEq,DataW.lit.injEq,Lit.int.injEq,true_and]at hya
  rw[hcj,hya]
  have:c= .int .u64 n:=by injection h0
  rw[this]
 have hc:=fun j=>World.var?_cell h1 h3 j
 refine⟨?_,fun j hj=>?_⟩
 ·have h0:=hc 0
  rw[key 0 (by decide)]at h0
  unfold World.cell? at h0
  rcases Nat.lt_or_ge 1 W.heap.size with c|c
  ·exact c
  ·rw[Array.getElem?_eq_none c]at h0;cases h0
 ·rw[hc j,key j hj]
set_option maxRecDepth 20000 in
theorem rs_cells {H:Type}{enc:TypeId × Value->H}{W:World}{sp:Nat->Bool}{held:Bool}(n:Nat)(cs:List Value)(x:DataW H × List MemPlace)(hl:DataW.trod enc p_ W 0 sp held n 25 cs=some x):
  ∃(st:Int) (a b:Option Addr) (c d:Nat) (l:List Fd) (D:List UInt8),cs=[.int .i64 st,.slice a l.length c,.slice b D.length d]/\(∀A,RdF W A a l)/\(a=none->l.length=0)/\(∀A,RdB W A b D.length (D.map Sl.B))/\(b=none->D.length=0)/\zF l+D.length+1<=Rows.uptoBulk x.1/\D.length<=d:=by
 obtain⟨xs,m,rfl,rfl,hsz,hs,hf⟩:=DataW.trod_struct (fs:=#[⟨"Status",3,0,false,"","",0⟩,⟨"Fields",22,1,false,"","",8⟩,⟨"Body",23,2,false,"","",32⟩]) (by kernel_rfl) hl
 rw[show p_.cellsOf 25=3 by kernel_rfl]at hsz
 obtain⟨c0,c1,c2,rfl⟩:∃c0 c1 c2,cs=[c0,c1,c2]:=by
  match cs,hsz with
  |[a,b,c],_=>exact⟨a,b,c,rfl⟩
 obtain⟨x0,x1,x2,rfl⟩:∃x0 x1 x2,xs=[x0,x1,x2]:=by
  match xs,hs with
  |[a,b,c],_=>exact⟨a,b,c,rfl⟩
 have e1:p_.cellsOf 3=1:=by kernel_rfl
 have e2:p_.cellsOf 22=1:=by kernel_rfl
 have e3:p_.cellsOf 23=1:=by kernel_rfl
 have f0:=hf 0 _ rfl
 have f1:=hf 1 _ rfl
 have f2:=hf 2 _ rfl
 simp only[e1,e2,e3,List.drop_zero,List.drop_succ_cons,List.take_succ_cons,List.take_zero,List.getElem?_cons_zero,List.getElem?_cons_succ]at f0 f1 f2
 obtain⟨st,h0,_,_⟩:=DataW.trod_int Tryz.underlying3 f0
 obtain⟨a,n,c,fs,e,g1,g2,g3,g4,g5⟩:=open_old (e:=52) (s:=2) (rd:=fun(x:Fd) cs=>cs=pFd x) (m:=fun f=>f.1.length+f.2.length+3) (by kernel_rfl) (by kernel_rfl) (by omega) (fun n cs x h=>open_fd n cs x h) f1
 obtain⟨b,d,D,j0,j1,j2,j3,j4,j5⟩:=open_bytes (e:=5) (by kernel_rfl) (by kernel_rfl) (by kernel_rfl) f2
 have hln:=g4.len
 subst hln
 rw[z_sum]at g5
 have k0:c0= .int .i64 st:=by injection h0
 have k1:c1= .slice a fs.length c:=by injection e
 have k2:c2= .slice b D.length d:=by injection j0
 subst k0;subst k1;subst k2
 refine⟨st,a,b,c,d,fs,D,rfl,fun A=>g4.flat (f:=pFd) (fun _=>rfl) (by omega) A,?_,j4,j3,?_,j1⟩
 ·intro ha
  rcases Nat.eq_zero_or_pos fs.length with z|z
  ·exact z
  ·obtain⟨g,o,hg,_⟩:=g4.at_ z;rw[hg]at ha;cases ha
 simp only[List.map_cons,List.map_nil,Rows.uptoBulk,Rows.uptoBulkAll]
 (try simp at g5)
 (try simp at j5)
 omega
theorem gl_of {W:World}{l:List (String × DataW Unit)}(h:laidMet p_ l W)(hm:("strconv.ErrRange",Rows.laid_strconv_ErrRange)∈l):Gl W:=by
 obtain⟨ps,hv,_,_⟩:=h
 obtain⟨g,t,cs,fuel,p,h1,h2,h3,h4⟩:=laid_at hv hm
 obtain rfl:=Option.some.inj ((show p_.globalNamed "strconv.ErrRange" =some 7 by kernel_rfl).symm.trans h1)
 obtain rfl:=Option.some.inj ((show(p_.globals[7]?).map (·.type)=some 124 by kernel_rfl).symm.trans h2)
 obtain⟨f1,u,v,hcs,_,_⟩:=iface_of_trod Tryz.underlying124 h4
 have hc:=World.var?_cell h1 h3 0
 have hc0:cs[0]? =some (.iface u v):=by
  rw[<- Array.getElem?_toList,hcs];rfl
 rw[hc0]at hc
 refine⟨?_,u,v,hc⟩
 unfold World.cell? at hc
 rcases Nat.lt_or_ge 7 W.heap.size with c|c
 ·exact c
 ·rw[Array.getElem?_eq_none c]at hc;cases hc
set_option maxRecDepth 20000 in
theorem open_fds {H:Type}{enc:TypeId × Value->H}{W:World}{sp:Nat->Bool}{held:Bool}{v:Value}{d:DataW H}{ps:List MemPlace}{r:Reach}{b0:Nat}(hval:Value.okWide p_ W r b0 22 v)(hd:DataW.Trod enc p_ W 0 sp held 22 v d ps):
  ∃(a:Option Addr) (c:Nat) (l:List Fd),v= .slice a l.length c/\(∀A,RdF W A a l)/\(a=none->l.length=0)/\zF l+1<=Rows.uptoBulk d:=by
 obtain⟨fuel,hf⟩:=open_slice (e:=52) (by kernel_rfl) hval hd
 obtain⟨a,n,c,l,e,g1,g2,g3,g4,g5⟩:=open_old (e:=52) (s:=2) (rd:=fun(x:Fd) cs=>cs=pFd x) (m:=fun f=>f.1.length+f.2.length+3) (by kernel_rfl) (by kernel_rfl) (by omega) (fun n cs x h=>open_fd n cs x h) hf
 have hl:=g4.len
 subst hl
 rw[z_sum]at g5
 refine⟨a,c,l,by injection e,fun A=>g4.flat (f:=pFd) (fun _=>rfl) (by omega) A,?_,by simp at g5;omega⟩
 intro ha
 rcases Nat.eq_zero_or_pos l.length with z|z
 ·exact z
 ·obtain⟨g,o,hg,_⟩:=g4.at_ z;rw[hg]at ha;cases ha
set_option maxRecDepth 20000 in
theorem open_rs {H:Type}{enc:TypeId × Value->H}{W:World}{sp:Nat->Bool}{held:Bool}{v:Value}{d:DataW H}{ps:List MemPlace}{r:Reach}{b0:Nat}(hval:Value.okWide p_ W r b0 25 v)(hd:DataW.Trod enc p_ W 0 sp held 25 v d ps):
  ∃(st:Int) (a b:Option Addr) (c k:Nat) (l:List Fd) (D:List UInt8),v= .agg #[.int .i64 st,.slice a l.length c,.slice b D.length k]/\(∀A,RdF W A a l)/\(a=none->l.length=0)/\(∀A,RdB W A b D.length (D.map Sl.B))/\(b=none->D.length=0)/\zF l+D.length+1<=Rows.uptoBulk d/\D.length<=k:=by
 obtain⟨cs,rfl,hsz⟩:=WideShapes.okWide_struct (fs:=#[⟨"Status",3,0,false,"","",0⟩,⟨"Fields",22,1,false,"","",8⟩,⟨"Body",23,2,false,"","",32⟩]) (by kernel_rfl) hval
 obtain⟨fuel,hf⟩:=hd
 obtain⟨l⟩:=cs
 rw[show(Value.agg ⟨l⟩).cells.toList=l from rfl]at hf
 obtain⟨st,a,b,c,k,X,D,h1,h2,h3,h4,h5,h6⟩:=rs_cells _ _ _ hf
 subst h1
 exact⟨st,a,b,c,k,X,D,rfl,h2,h3,h4,h5,h6⟩
end Go.Proofs.YtndojgomlkpeaaaGreatDoor.FD
namespace Go.Proofs.YtndojgomlkpeaaaGreatDoor.FD
open Go Go.Proofs Go.RowKit Sh Sl T IF GZ
theorem cn_imp {P:Program}{W:World}{α:Type}{f:FuncId}{args:List Value}{A A':List HP}{r:α->Value}{B B':α->List HP}(h:Cn P f args W A r B)(hi:∀F,Imp W (A'++F) (A++F))(ho:∀x F,Imp W (B x++F) (B' x++F)):Cn P f args W A' r B':=
 ⟨h.call,fun F w hw=>(h.run F w ((hi F).sat hw)).mono fun e w' ⟨x,he,hs⟩=>⟨x,he,(ho x F).sat hs⟩⟩
theorem copiedO {W:World}{st:Int}{l:List Fd}{D:List UInt8}{a b:Option Addr}{c d:Nat}(hA:∀A,RdF W A a l)(ha:a=none->l.length=0)(hl:l.length<=1099511627776)(hB:∀A,RdB W A b D.length (D.map Sl.B))(hb:b=none->D.length=0)(hD:D.length<=1099511627776):
  Cn p_ 7 [.agg #[.int .i64 st,.slice a l.length c,.slice b D.length d]] W [] (fun q:(Option Addr × Nat) × (Option Addr × Nat)=> .agg #[.int .i64 st,.slice q.1.1 l.length q.1.2,.slice q.2.1 D.length q.2.2])
   (fun q=>[Sl 2 52 q.1.1 q.1.2 l.length (l.flatMap pFd),Sl 1 5 q.2.1 q.2.2 D.length (D.map Sl.B)]):=
 cn_imp (copied (A:=pu True) (B:=pu True) (hA _) ha hl (hB _) hb hD) (fun F=> .pu trivial (.pu trivial .refl)) (fun x F=> .drop (.drop .refl))
theorem none0 {α:Type}{a:Option Addr}{l:List α}(h:0<l.length->∃g,a=some ⟨g,0,none⟩):a=none->l.length=0:=fun c=>by
 rcases Nat.eq_zero_or_pos l.length with h0|h0
 ·exact h0
 ·obtain⟨g,hg⟩:=h h0;rw[hg]at c;cases c
theorem applyS {W : World} [hG : Gl W] [hP : Gp W] {l X : List Fd} {D : List UInt8} {st level : Int} {al ax ad : Option Addr} {cl cx cd : Nat} (hl : ∀ A, RdF W A al l) (hl1 : zF l <= 1100000) (hX : zF X <= 1100000) (hs : 0 < X.length -> ∃ g, ax = some ⟨g, 0, none⟩) (hb : 0 < D.length -> ∃ g, ad = some ⟨g, 0, none⟩) (hD : D.length <= 1099511627776) :
  Cn p_ 14 [.slice al l.length cl, .agg #[.int .i64 st, .slice ax X.length cx, .slice ad D.length cd], .int .i64 level] W [Sl 2 52 ax cx X.length (X.flatMap pFd), Sl 1 5 ad cd D.length (D.map Sl.B)]
   (fun q : (Option Addr × Nat) × (Option Addr × Nat) => .agg #[.int .i64 st, .slice q.1.1 (appR l level st X D).X.length q.1.2, .slice q.2.1 (appR l level st X D).D.length q.2.2])
   (fun q => [Sl 2 52 ax cx X.length (X.flatMap pFd), Sl 1 5 ad cd D.length (D.map Sl.B), Sl 2 52 q.1.1 q.1.2 (appR l level st X D).X.length ((appR l level st X D).X.flatMap pFd), Sl 1 5 q.2.1 q.2.2 (appR l level st X D).D.length ((appR l level st X D).D.map Sl.B)]) :=
 cn_imp (apply (AL := pu True) (hl _) hl1 (rdF_any hs) (none0 hs) hX (rd_sl (e := 5) (a := ad) (cap := cd) (by rw [List.length_map]) hb) (none0 hb) hD) (fun F => .pu trivial .refl) (fun x F => .drop .refl)
theorem rfirst {W:World}{l:List Fd}{n:List UInt8}{a:Option Addr}{c:Nat}{A:HP}(hA:RdF W A a l)(hl:hOK l)(hn:n.length<=4194304):Cn p_ 15 [.slice a l.length c,txt n] W [A] (fun _:Unit=> .tuple #[txt (firstF l n).1,.bool (firstF l n).2])
  (fun r=>[A]):=by
 (refine Shp.cn (Sg.g_ Tryz.call15 Tryz.func15) fun F=>?_;simp only[ca_,na_])
 refine e_call (rvalues hA hl hn) (.cons .here .nil) fun r=>?_
 obtain⟨sa,sc⟩:=r
 refine nr_ ?_
 unfold firstF
 generalize valsF l n=V
 refine o_ v_len ?_
 cases V with
 |nil=>
  refine o_ v_eql ?_
  rw[dT_ (by rfl)]
  refine e_condT (rt_ () ?_)
  exact im_
 |cons v r=>
  refine o_ v_eql ?_
  rw[dF_ (by simp;omega)]
  refine e_condF (e_slsome (a:=sa) (.there .here) (by simp) fun g hg=>?_)
  subst hg
  have ld:RunV p_ W [Sl 1 9 (some ⟨g,0,none⟩) sc (v::r).length ((v::r).map txt)] (sLoad 9 (.pointer (some ⟨g,0+0,none⟩))) (txt v):=v_ldSl rfl
  refine o_ (v_ia1 0 rfl (by simp)) ?_
  refine p_op ld ?_
  refine rt_ () ?_
  exact im_
def kce:List UInt8:=[99,111,110,116,101,110,116,45,101,110,99,111,100,105,110,103]
def kcl:List UInt8:=[99,111,110,116,101,110,116,45,108,101,110,103,116,104]
theorem wk_grow (f:Fd):(wkF f).1.length+(wkF f).2.length<=f.1.length+f.2.length+2:=by
 unfold wkF
 split
 ·rename_i h
  rw[Bool.and_eq_true]at h
  have h1:tagOk (tagV f.2)=true:=by
   cases hk:tagOk (tagV f.2)with
   |true=>rfl
   |false=>have:=h.1;unfold tagF at this;rw[hk]at this;cases this
  have h2:(tagF f.2).1.2=mid (tagV f.2):=by unfold tagF;rw[h1];rfl
  have h3:2<=(tagV f.2).length:=by
   unfold tagOk at h1
   rw[Bool.and_eq_true,decide_eq_true_eq]at h1
   exact h1.1.1
  have h4:(tagV f.2).length<=f.2.length:=by unfold tagV;split <;> simp
  rw[h2]
  unfold tagT mid sub
  simp only[if_true,List.length_append,List.length_cons,List.length_nil,List.length_take,List.length_drop]
  omega
 ·omega
theorem wk_z:∀l:List Fd,zF (l.map wkF)<=zF l+2 * l.length
 |[]=>by simp[zF]
 |f::r=>by
  have h1:=wk_grow f
  have h2:=wk_z r
  rw[List.map_cons,zF_cons,zF_cons,List.length_cons]
  omega
theorem app_z {l X:List Fd}{level st:Int}{D:List UInt8}(hX:zF X<=1048576):zF (appR l level st X D).X<=2097152:=by
 have h1:=vary_z X
 have key:pkE D level 0=0->zF (pakX (varyX X) (pkB D level 0))<=2097152:=fun hE=>by
  have h2:=wk_z (withF (varyX X) [kCL,kAR])
  have h3:=z_len (withF (varyX X) [kCL,kAR])
  have h4:zF (withF (varyX X) [kCL,kAR])<=zF (varyX X):=z_filter _ _
  have h5:=pk_len hE
  have h6:=dig_len (i:=((pkB D level 0).length:Int)) (by omega) (by omega)
  unfold pakX
  rw[z_app]
  have h7:zF [(kCE,kGz),(kCL,dig (pkB D level 0).length)]=16+4+3+(14+(dig (pkB D level 0).length).length+3+0):=rfl
  omega
 unfold appR
 split
 ·split
  ·split
   ·rename_i h
    exact key h
   ·show zF (varyX X)<=_
    omega
  ·show zF (varyX X)<=_
   omega
 ·show zF X<=_
  omega
theorem idR_id {D:List UInt8}{most:Int}{U:Except Int (List UInt8 × Nat)}(h0:(D.length:Int)<=most)(h1:most<=1048576):idR [] D most U=(D,0):=by
 unfold idR
 rw[if_neg (by omega),if_neg (by omega)]
 show(if most<(D.length:Int)then(([],6):List UInt8 × Int)else(D,0))=_
 rw[if_neg (by omega)]
theorem rvaluesO {W:World}{l:List Fd}{n:List UInt8}{a:Option Addr}{c:Nat}(hA:∀A,RdF W A a l)(hl:hOK l)(hn:n.length<=4194304):Cn p_ 13 [.slice a l.length c,txt n] W [] (fun r:Option Addr × Nat=> .slice r.1 (valsF l n).length r.2)
  (fun r=>[Sl 1 9 r.1 r.2 (valsF l n).length ((valsF l n).map txt)]):=
 cn_imp (rvalues (A:=pu True) (hA _) hl hn) (fun F=> .pu trivial .refl) (fun x F=> .drop .refl)
theorem chooseO {W:World}[hG:Gl W]{l:List Fd}{a:Option Addr}{c:Nat}(hA:∀A,RdF W A a l)(hl:zF l<=1100000):
  Cn p_ 16 [.slice a l.length c] W [] (fun _:Unit=>txt (chooF l)) (fun _=>[]):=
 cn_imp (choose (A:=pu True) (hA _) hl) (fun F=> .pu trivial .refl) (fun x F=> .drop .refl)
theorem codingSame {W:World}[hG:Gl W][hP:Gp W]{l X:List Fd}{D:List UInt8}{st level:Int}{al ax ad:Option Addr}{cl cx cd:Nat}(hl:∀A,RdF W A al l)(hl1:zF l<=1048576)(hA:∀A,RdF W A ax X)(ha:ax=none->X.length=0)(hX:zF X<=1048576)(hB:∀A,RdB W A ad D.length (D.map Sl.B))(hb:ad=none->D.length=0)(hD:D.length<=1048576):
  Cn p_ 4 [.slice al l.length cl,.agg #[.int .i64 st,.slice ax X.length cx,.slice ad D.length cd],.int .i64 level] W [] (fun _:Unit=> .bool true) (fun _=>[]):=by
 have hzl:=z_len X
 have hz2:=app_z (l:=l) (level:=level) (st:=st) (D:=D) hX
 have vce:∀Y,valsF Y kce=valsF Y kCE:=fun Y=>vals_lo (by decide)
 have vcl:∀Y,valsF Y kcl=valsF Y kCL:=fun Y=>vals_lo (by decide)
 (refine Shp.cn (Sg.g_ Tryz.call4 Tryz.func4 (an:={drs:=[(11,.ofL [(0,1),(1,1),(2,1),(3,1),(4,0),(5,1),(6,1),(7,1),(8,1),(9,1),(10,1),(11,1),(12,1),(13,2),(14,3),(15,3),(16,1),(17,1),(18,1),(19,0),(20,1),(21,1),(22,1),(23,0),(24,1),(25,1)])]}) (os:=[(11,[(19,[15,14])])])) fun F=>?_;simp only[ca_,na_])
 refine e_boxA fun b4=>?_
 refine o_ v_fa0 (ln_ ?_)
 refine e_call (rvaluesO (n:=kce) (c:=cx) hA (z_ok (by omega)) (by decide)) .nil fun r=>?_
 rw[vce]
 obtain⟨ra,rc⟩:=r
 refine nr_ ?_
 (try dsimp only)
 (try refine o_ v_len ?_)
 refine o_ v_gtr ?_
 by_cases hce:valsF X kCE=[]
 rotate_left
 ·rw[dT_ (by have:=List.length_pos_iff.2 hce;omega)]
  refine e_gdF1 (e_gdF1 (e_gdF1 (e_gdF1 (o_ v_pickT (e_condT (c_ knows19 fun _=>?_))))))
  refine rt_ () ?_
  exact im_
 rw[hce,dF_ (by simp)]
 refine e_gdT (o_ v_fa0 (e_gdT (ln_ ?_)));refine e_gdT (o_ v_len (e_gdT (o_ v_gtr ?_)))
 by_cases hbig:(524288:Int)<(D.length:Int)
 ·rw[dT_ hbig]
  refine o_ v_pickF (e_condT (c_ knows19 fun _=>?_))
  refine rt_ () ?_
  exact im_
 rw[dF_ hbig]
 refine o_ v_pickF (e_condF (lg_ ?_))
 refine e_call (copiedO (st:=st) (c:=cx) (d:=cd) hA ha (by omega) hB hb (by omega)) .nil fun q=>?_
 obtain⟨⟨p1,p2⟩,⟨p3,p4⟩⟩:=q
 refine nr_ ?_
 (try dsimp only)
 refine e_slfacts (by(repeat constructor):Pick _ (Sl 2 52 p1 p2 X.length (X.flatMap pFd)) _) fun _ _ _ s1=>?_
 refine e_slfacts (by(repeat constructor):Pick _ (Sl 1 5 p3 p4 D.length (D.map Sl.B)) _) fun _ _ _ s2=>?_
 refine e_call (applyS (st:=st) (level:=level) (cl:=cl) (cx:=p2) (cd:=p4) hl (by omega) (by omega) s1 s2 (by omega)) (.cons (by repeat constructor) (.cons (by repeat constructor) .nil)) fun q=>?_
 obtain⟨⟨q1,q2⟩,⟨q3,q4⟩⟩:=q
 refine nr_ ?_
 (try dsimp only)
 have hsame:=app_same (l:=l) (level:=level) (st:=st) (D:=D) hce
 obtain⟨R,hR⟩:∃R,R=appR l level st X D:=⟨_,rfl⟩
 rw[<- hR]at hsame hz2 ⊢
 refine e_slfacts (by(repeat constructor):Pick _ (Sl 2 52 q1 q2 R.X.length (R.X.flatMap pFd)) _) fun _ _ _ s3=>?_
 refine e_slfacts (by(repeat constructor):Pick _ (Sl 1 5 q3 q4 R.D.length (R.D.map Sl.B)) _) fun _ k2 _ s4=>?_
 have hRD:=rd_sl (W:=W) (e:=5) (a:=q3) (cap:=q4) (n:=R.D.length) (cs:=R.D.map Sl.B) (by rw[List.length_map]) s4
 have hid:Cn p_ 8 [.agg #[.int .i64 st,.slice q1 R.X.length q2,.slice q3 R.D.length q4],.int .i64 1048576] W [Sl 2 52 q1 q2 R.X.length (R.X.flatMap pFd),Sl 1 5 q3 q4 R.D.length (R.D.map Sl.B)]
   (fun q:Option Addr × Nat=> .tuple #[.slice q.1 D.length q.2,.int .i64 0]) (fun q=>[Sl 1 5 q.1 q.2 D.length (D.map Sl.B),Sl 2 52 q1 q2 R.X.length (R.X.flatMap pFd),Sl 1 5 q3 q4 R.D.length (R.D.map Sl.B)]):=by
  rcases hsame with ⟨h1,h2⟩|⟨h1,h2,h3,h4,h5⟩
  ·have:=identity (W:=W) (st:=st) (most:=1048576) (cx:=q2) (cd:=q4) (U:= .ok (D,1)) (rdF_any (c:=q2) s3) hz2 hRD (none0 s4) (by rw[h2];omega) (fun v h=>by rw[h1]at h;cases h)
   rw[h1,idR_id (by rw[h2];omega) (by decide)]at this
   rw[h2]at this ⊢
   exact this
  ·obtain⟨u1,u2⟩:=ur_at (b:=D) (level:=level) (most:=1048576) h3 (by omega) (by decide)
   have:=identity (W:=W) (st:=st) (most:=1048576) (cx:=q2) (cd:=q4) (U:= .ok (D,1)) (rdF_any (c:=q2) s3) hz2 hRD (none0 s4) (by rw[h4];omega) (fun v _ _ h0 h1 h2=>unpack_ hRD k2 h2 h0 h1 (by rw[h4];exact u2))
   rw[h1,idR_gz (by decide) (by decide) (by rw[h4];exact u1)]at this
   exact this
 refine e_newA fun g=>?_;refine sg_ ?_;refine lg_ ?_
 rename Nat=>b7
 refine e_call hid (.cons (by repeat constructor) (.cons (by repeat constructor) .nil)) fun r=>?_
 obtain⟨ua,uc⟩:=r
 refine nr_ ?_
 (try dsimp only)
 refine o_ (v_ext (v:= .slice ua D.length uc) rfl) ?_
 refine o_ (v_ext (v:= .int .i64 0) rfl) ?_
 refine c_ num19 fun _=>?_
 refine o_ v_neq ?_
 rw[dF_ (by decide)]
 refine e_gdT (e_gdT (e_slfacts (by(repeat constructor):Pick _ (Sl 1 5 ua uc D.length (D.map Sl.B)) _) fun _ _ _ s5=>?_))
 refine p_op (v_str (rd_sl (W:=W) (e:=5) (a:=ua) (cap:=uc) (n:=D.length) (cs:=D.map Sl.B) (by rw[List.length_map]) s5) (none0 s5)) ?_
 refine e_gdT (o_ v_fa0 (e_gdT (ln_ ?_)));refine e_gdT (e_opN (v_str (hB (pu True)) hb) (.pu trivial .nil) ?_)
 refine e_gdT (o_ v_strne ?_)
 rw[show decide (D≠D)=false by simp]
 refine o_ v_pickF (e_gdT (o_ v_fa0 (e_gdT (ln_ ?_))));refine e_gdT (o_ v_fa0 (e_gdT (ln_ ?_)));refine e_gdT (o_ v_neq ?_)
 rw[dF_ (fun h=>h rfl)]
 refine o_ v_pickF (e_condF (o_ v_fa0 (ln_ ?_)))
 refine e_call (rfirst (n:=kce) (c:=q2) (rdF_any (c:=q2) s3) (z_ok hz2) (by decide)) (.cons (by repeat constructor) .nil) fun _=>?_
 rcases hsame with ⟨h1,h2⟩|⟨h1,h2,h3,h4,h5⟩
 ·have hf:firstF R.X kce=([],false):=by unfold firstF;rw[vce,h1]
  rw[hf]
  refine nr_ ?_
  refine xt_ ?_;refine xt_ ?_;refine o_ v_notF (e_condT (o_ v_fa0 (ln_ ?_)))
  refine p_op (v_str hRD (none0 s4)) ?_
  refine o_ v_fa0 (ln_ ?_)
  refine e_opN (v_str (hB (pu True)) hb) (.pu trivial .nil) ?_
  refine o_ v_streq ?_
  rw[h2,dT_ rfl]
  refine e_gdT (c_ knows19 fun _=>?_)
  refine o_ v_pickT (rt_ () ?_)
  exact im_
 ·have hf:firstF R.X kce=(kGz,true):=by unfold firstF;rw[vce,h1]
  rw[hf]
  refine nr_ ?_
  refine xt_ ?_;refine xt_ ?_;refine o_ v_notT (e_condF (o_ v_fa0 (ln_ ?_)))
  refine e_call (rvalues (n:=kcl) (c:=q2) (rdF_any (c:=q2) s3) (z_ok hz2) (by decide)) (.cons (by repeat constructor) .nil) fun r=>?_
  rw[vcl,h5]
  obtain⟨va,vc⟩:=r
  refine nr_ ?_
  (try dsimp only)
  have hg:chooF l=kGz:=by unfold chooF;rw[h2];rfl
  refine e_drS (t_ (v_streq (m:=kGz)) ?_)
  rw[dT_ rfl]
  refine e_gdT (e_gdT (e_call (chooseO (c:=cl) hl (by omega)) .nil fun _=>?_))
  rw[hg]
  refine nr_ ?_
  refine e_gdT (t_ (v_streq (m:=kGz)) ?_)
  rw[dT_ rfl]
  refine t_ v_pickT (e_gdT (e_gdT (t_ v_len (e_gdT (e_slfacts (by(repeat constructor):Pick _ (Sl 1 9 va vc [dig ((pkB D level 0).length:Int)].length ([dig ((pkB D level 0).length:Int)].map txt)) _) fun _ _ _ s6=>?_)))))
  obtain⟨vg,rfl⟩:=s6 (by simp)
  obtain⟨u1,_⟩:=ur_at (b:=D) (level:=level) (most:=1048576) h3 (by omega) (by decide)
  refine t_ v_eql ?_
  rw[dT_ (by simp),h4]
  refine t_ v_pickT (e_gdT (e_gdDT (e_stD (v_ia1 0 rfl (by simp)) .nil ?_)))
  refine e_gdDT ?_;(((refine' e_stD (v_ldSl ?hc) ?hi ?_);(case hi=>exact im_);(case hc=>rfl)));refine e_gdT (t_ v_fa0 (e_gdT (ls_ ?_)));refine e_gdT (t_ v_len (e_gdT (c_ (digits (i:=((pkB D level 0).length:Int)) (by omega) (by omega)) fun _=>?_)))
  refine ob_ ?_;refine ob_ ?_;refine e_gdT (t_ v_streq ?_)
  rw[dT_ rfl]
  refine t_ v_pickT (e_gdT (c_ knows19 fun _=>?_))
  refine t_ v_pickT (rt_ () ?_)
  exact im_
end Go.Proofs.YtndojgomlkpeaaaGreatDoor.FD
