/- A member's head, any text: numbers, texts, parts, all of it. No conditions but those that each names. (10 texts made one; each says below what it is.) -/
import Derived.Test.YtndojgomlkpeaaaGreatDoorK7
import Derived.Lib.BytesEntry
set_option linter.unusedVariables false
set_option linter.unusedSimpArgs false
set_option linter.unusedSectionVars false
namespace Go.Proofs.YtndojgomlkpeaaaGreatDoor
set_option maxRecDepth 9999
namespace GZ
open Go Go.Proofs Go.RowKit Sh Sl T IF B M
def xU:List UInt8->Nat
 |[a]=>a.toNat
 |[a,b]=>nS a b
 |_=>0
theorem LZ {a b:Nat}(h:a<256)(hb:b<256):co .or .i64 (a:Int) ((b:Int) * 256)=((a+256 * b:Nat):Int):=by
 rw[show(b:Int) * 256=((b * 256:Nat):Int) by rw[Int.natCast_mul];rfl]
 unfold co
 have h1:(BitVec.ofInt IntKind.i64.bits (a:Int)).toNat=a:=by
  rw[BitVec.ofInt_natCast,BitVec.toNat_ofNat];exact Nat.mod_eq_of_lt (by simp only[IntKind.bits];omega)
 have h2:(BitVec.ofInt IntKind.i64.bits ((b * 256:Nat):Int)).toNat=b * 256:=by
  rw[BitVec.ofInt_natCast,BitVec.toNat_ofNat];exact Nat.mod_eq_of_lt (by simp only[IntKind.bits];omega)
 have h3:a ||| b * 256=a+256 * b:=by
  have:=Nat.two_pow_add_eq_or_of_lt (i:=8) (b:=a) h b
  rw[show(2:Nat)^8=256 from rfl]at this
  rw[Nat.or_comm,Nat.mul_comm b 256,<- this];omega
 simp only[BitVec.toNat_or,h1,h2,h3]
 exact mx (by omega) (by omega)
theorem FL {W:World}{A:HP}{p n:Nat}{l:List UInt8}(hn:n=1\/n=2):CnP p_ 100 [.pointer (some ⟨p,0,none⟩),.int .i64 (n:Int)] W [yg W A p l,A]
  (fun _:If (n<=l.length)=> .int .i64 ((xU (l.take n):Nat):Int)) (fun _=>[yg W A p (l.drop n),A]) (fun _:If (l.length<n)=>pn 20) (fun _=>[A]):=by
 have hT:=sm (W:=W) (A:=A) (p:=p) (n:=n) (l:=l)
 (refine Shp.cnP (Sg.g_ Tryz.call100 Tryz.func100 (an:={loops:=[(3,[5,12])]})) fun F=>?_;simp only[ca_,na_,-eq_self])
 (refine' bf (hT) ?hp (fun _=>?_) (fun _=>?_);(case hp=>(repeat(first|exact Picks.nil|(apply Picks.cons;(focus repeat constructor)))));(all_goals (try simp only[ca_,na_,Bool.not_true,Bool.not_false,-eq_self])))
 ·rename_i q
  obtain⟨⟨qa,qc⟩,h1,h2,h3⟩:=q
  (try dsimp only)
  (try dsimp only at h2 h3)
  obtain⟨g,o,rfl,_⟩:=h2.at_ (by omega)
  refine o_ aC (bI (fun m y z=>pu (∃i:Nat,m+i=n/\z= .int .i64 (i:Int)/\y= .int .i64 ((xU (l.take i):Nat):Int))::yg W A p (l.drop n)::A::F) n ?_ ?_)
  ·refine .pu ⟨0,by omega,rfl,rfl⟩ ?_
   exact aw
  intro m ds y z
  refine aG .here fun hi=>?_
  obtain⟨i,hmi,rfl,rfl⟩:=hi
  refine ay az .nil (fun h=>?_) (fun h=>?_)
  ·have hin:i<n:=by omega
   have hx:=l[i].toNat_lt
   have hget:((l.take n).map Sl.B)[i]? =some (.int .u8 (l[i].toNat:Int)):=by
    rw[List.getElem?_map,List.getElem?_take_of_lt hin,List.getElem?_eq_getElem (by omega)]
    rfl
   refine ab (o_ (bj i rfl hin) ?_)
   refine bt (bP h2 (j:=i) (v:= .int .u8 (l[i].toNat:Int)) hget) ?_
   refine o_ (br (q:= .i64)) ?_
   rw[mx (by omega) (by omega)]
   refine o_ (eh (by omega) (by omega)) ?_
   refine o_ (br (q:= .u64)) ?_
   rcases(show i=0\/i=1 by omega)with rfl|rfl
   ·rw[show IntKind.u64.wrap (8 * ((0:Nat):Int))=0 by decide]
    refine o_ (fS (by decide)) ?_
    rw[show min (0:Int).toNat IntKind.i64.bits=0 from rfl,Int.pow_zero,Int.mul_one,mx (by omega) (by omega)]
    refine o_ sH ?_
    rw[show xU (l.take 0)=0 from rfl,show((0:Nat):Int)=0 from rfl,PL _ hx]
    refine o_ (bU (by decide) (by decide)) ?_
    refine bo (m-1) (by omega) (.pu ⟨1,by omega,rfl,?_⟩ ?_)
    ·cases l with
     |nil=>simp only[List.length_nil]at h1;omega
     |cons a r=>rfl
    ·exact aw
   ·rw[show IntKind.u64.wrap (8 * ((1:Nat):Int))=8 by decide]
    refine o_ (fS (by decide)) ?_
    rw[show min (8:Int).toNat IntKind.i64.bits=8 from rfl,show(2:Int)^8=256 from rfl,mx (by omega) (by omega)]
    refine o_ sH ?_
    obtain rfl:n=2:=by omega
    have h0:=l[0].toNat_lt
    have e1:xU (l.take 1)=l[0].toNat:=by
     match l,h1 with
     |a::b::r,_=>rfl
    have e2:xU (l.take 2)=l[0].toNat+256 * l[1].toNat:=by
     match l,h1 with
     |a::b::r,_=>rfl
    rw[e1,LZ h0 hx,<- e2]
    refine o_ (bU (by decide) (by decide)) ?_
    refine bo (m-1) (by omega) (.pu ⟨2,by omega,rfl,rfl⟩ ?_)
    exact aw
  ·obtain rfl:i=n:=by omega
   refine aa (bq (mh h1) ?_)
   exact aw
 ·rename_i y
  exact bT (mh y.2) rfl aw
theorem L0 {W:World}{A:HP}{a:Option Addr}{cap:Nat}{l:List UInt8}{c:UInt8}(H:RdB W A a l.length (l.map Sl.B))(ha:a=none->l.length=0):
  Cn p_ 131 [.slice a l.length cap,Sl.B c] W [A] (fun _:Unit=> .int .i64 (FD.sr l c)) (fun _=>[A]):=by
 have ext:bg p_ W [A] (bN (fn 170) [.slice a l.length cap,Sl.B c]) (.int .i64 (FD.sr l c)):=fun w hw=>by
  have hb:(Extern.Bytes.bytesOf (.slice a l.length cap)).run p_ w= .ok ⟨l.toArray⟩ w:=by
   cases a with
   |none=>
    have:l=[]:=List.eq_nil_of_length_eq_zero (ha rfl)
    subst this
    rfl
   |some ad=>
    have hl:=Lib.run_loadBytesX (P:=p_) w (l.map fun x=>(x.toNat:Int)) ad .empty (fun j x hj=>by
     have hjl:j<l.length:=by have:=(List.getElem?_eq_some_iff.1 hj).1;rwa [List.length_map]at this
     obtain⟨g,o,e,hc⟩:=H.at_ (by omega)
     obtain rfl:=Option.some.inj e
     rw[List.getElem?_map,List.getElem?_eq_getElem hjl]at hj
     obtain rfl:=Option.some.inj hj
     rw[cp]
     exact hc w [] hw j _ (by rw[List.getElem?_map,List.getElem?_eq_getElem hjl];rfl))
    rw[List.length_map]at hl
    have e1:Lib.bytesOf (l.map fun x=>(x.toNat:Int))=l:=by
     unfold Lib.bytesOf
     rw[List.map_map]
     exact(List.map_congr_left fun x _=>by simp).trans (List.map_id l)
    rw[e1]at hl
    have e2:(⟨ByteArray.empty.data++l.toArray⟩:ByteArray)=⟨l.toArray⟩:=by
     apply ByteArray.ext
     show(#[]:Array UInt8)++l.toArray=l.toArray
     simp
    rw[e2]at hl
    exact hl
  have hr:(callFunc 170 #[.slice a l.length cap,Sl.B c]).run p_ w= .ok (.value (.int .i64 (FD.sr l c))) w:=by
   rw[run_callFunc_extern Tryz.func170 (by kernel_rfl) (by kernel_rfl) (by kernel_rfl) (e:=Extern.BytealgIndexByte.indexByte) (by kernel_rfl)]
   have hs:=run_indexByte_string (P:=p_) ⟨l.toArray⟩ (c.toNat:Int) w
   have key:(Extern.BytealgIndexByte.indexByte #[.slice a l.length cap,.int .u8 (c.toNat:Int)]).run p_ w= .ok (.int .i64 (firstIdx ⟨l.toArray⟩ (c.toNat:Int).toNat.toUInt8)) w:=by
    rw[<- hs]
    change Sem.run _ (do
     let b <- Extern.Bytes.bytesOf (.slice a l.length cap)
     let c' <- Extern.Bytes.asByte (.int .u8 (c.toNat:Int))
     match(List.range b.size).find? fun i=>b[i]! ==c' with
     |some i=>pure (goInt i)
     |none=>pure (goInt (-1))) w=Sem.run _ (do
     let b <- Extern.Bytes.bytesOf (.string ⟨l.toArray⟩)
     let c' <- Extern.Bytes.asByte (.int .u8 (c.toNat:Int))
     match(List.range b.size).find? fun i=>b[i]! ==c' with
     |some i=>pure (goInt i)
     |none=>pure (goInt (-1))) w
    rw[Sem.run_bind,hb]
    rfl
   unfold Sl.B
   rw[key]
   simp only[Result.andThen_ok]
   rw[show(↑c.toNat:Int).toNat.toUInt8=c by simp,FD.pq]
  simp[bN,Deferred.ofValue,invoke,fn,hr]
 (refine Shp.cn (Sg.g_ Tryz.call131 Tryz.func131) fun F=>?_;simp only[ca_,na_])
 refine bt ext ?_
 refine bq () ?_
 exact aw
theorem FM:∀l:List UInt8,((0:UInt8)∈l->fh l= .ok (l.drop (l.findIdx (· ==0)+1))/\l.findIdx (· ==0)+1<=l.length)/\((0:UInt8)∉l->fh l= .error 20)
 |[]=>⟨fun h=>(by cases h),fun _=>rfl⟩
 |x::r=>by
  obtain⟨h1,h2⟩:=FM r
  unfold fh
  rw[List.findIdx_cons]
  by_cases hx:x=0
  ·subst hx
   refine⟨fun _=>⟨by simp,by simp⟩,fun h=>absurd List.mem_cons_self h⟩
  ·have hb:(x==0)=false:=by simpa using hx
   rw[if_neg hx,hb]
   refine⟨fun h=>?_,fun h=>h2 fun c=>h (List.mem_cons_of_mem _ c)⟩
   rcases List.mem_cons.1 h with h|h
   ·exact absurd h.symm hx
   ·obtain⟨h3,h4⟩:=h1 h
    exact⟨by rw[h3];simp,by simp only[cond_false,List.length_cons];omega⟩
theorem JD {W:World}{A:HP}{p:Nat}{l:List UInt8}(hl:l.length<=1048576):CnP p_ 102 [.pointer (some ⟨p,0,none⟩)] W [yg W A p l,A]
  (fun _:{r:List UInt8 // fh l= .ok r}=> .tuple #[]) (fun x=>[yg W A p x.1,A]) (fun _:If (fh l= .error 20)=>pn 20) (fun _=>[A]):=by
 obtain⟨t1,t2⟩:=FM l
 (refine Shp.cnP (Sg.g_ Tryz.call102 Tryz.func102) fun F=>?_;simp only[ca_,na_,-eq_self])
 refine Fj (A:=A) (p:=p) (l:=l) (by repeat constructor) fun qa qc hr hc=>?_
 refine o_ au (o_ aj (bJ ?_))
 refine c_ (L0 (c:=0) hr (fun c=>by by_cases h0:0<l.length;(obtain⟨_,_,h1,_⟩:=hr.at_ h0;rw[h1]at c;cases c);omega)) fun _=>?_
 refine zn (A:=A) (l:=l) (by repeat constructor) hr hc ?_
 unfold FD.sr
 by_cases hm:(0:UInt8)∈l
 ·obtain⟨t3,t4⟩:=t1 hm
  rw[if_pos hm]
  refine o_ az ?_
  rw[dF_ (by omega)]
  refine aa (bG ?_)
  rw[show((l.findIdx (· ==0):Nat):Int)+1=((l.findIdx (· ==0)+1:Nat):Int) by norm_cast]
  (refine' bf (sm (A:=A) (n:=l.findIdx (· ==0)+1) (l:=l)) ?hp (fun _=>?_) (fun _=>?_);(case hp=>(repeat(first|exact Picks.nil|(apply Picks.cons;(focus repeat constructor)))));(all_goals (try simp only[ca_,na_,Bool.not_true,Bool.not_false,-eq_self])))
  ·refine bq (⟨_,t3⟩) ?_
   exact aw
  ·rename_i y
   exact absurd y.2 (by omega)
 ·rw[if_neg hm]
  refine o_ az ?_
  rw[dT_ (by decide)]
  refine ab (o_ lE (jD ?_))
  refine bT (mh (t2 hm)) rfl ?_
  exact aw
theorem CF {l:List UInt8}(h:l.length<2):mu l= .error 20:=by
 match l,h with
 |[],_=>rfl
 |[_],_=>rfl
theorem FN {P:Program} {W:World} {L:List HP} {Kp:PK} {k:Value->WP} {α β:Type} {f:FuncId} {args cap:List Value} {A F:List HP} {r:α->Value} {B:α->List HP} {pc:β->List PanicEntry} {Bp:β->List HP} (hf:CnP P f (args++cap) W A r B pc Bp) (p:Picks L A F)
  (h:∀x,aZ W (B x++F) (k (r x))) (hp:∀y,aZ W (Bp y++F) (Kp (pc y))):aZ W L (opN P (bN (.func (.func f) #[] cap.toArray) args) Kp k):=fun w hw=>by
 refine⟨?_⟩
 rw[qA hf.call,show args.toArray++cap.toArray=(args++cap).toArray by simp]
 refine(hf.run F w (p.sat hw)).mono fun e w' he=>?_
 rcases he with ⟨x,he,hs⟩|⟨y,he,hs⟩
 ·subst he;exact h x w' hs
 ·subst he;exact hp y w' hs
theorem SU {W:World}{A:HP}{p gb:Nat}{l:List UInt8}:CnP p_ 101 [.pointer (some ⟨gb,0,none⟩)] W [pt gb (.cells #[.pointer (some ⟨p,0,none⟩)] 105),yg W A p l,A]
  (fun _:{r:List UInt8 // mu l= .ok r}=> .tuple #[]) (fun x=>[pt gb (.cells #[.pointer (some ⟨p,0,none⟩)] 105),yg W A p x.1,A]) (fun _:If (mu l= .error 20)=>pn 20) (fun _=>[A]):=by
 (refine Shp.cnP (Sg.g_ Tryz.call101 Tryz.func101 (an:={drs:=[(0,.ofL [(0,3),(1,1),(2,0),(3,0)])]}) (os:=[(0,[(2,[0])])])) fun F=>?_;simp only[ca_,na_,-eq_self])
 refine bA ?_;(((refine' bh (bC ?hc) ?hi ?_);(case hi=>exact .pick (by repeat constructor) .nil);(case hc=>repeat constructor)));refine ew ?_
 (refine' bf (FL (A:=A) (n:=2) (l:=l) (.inr rfl)) ?hp (fun _=>?_) (fun _=>?_);(case hp=>(repeat(first|exact Picks.nil|(apply Picks.cons;(focus repeat constructor)))));(all_goals (try simp only[ca_,na_,Bool.not_true,Bool.not_false,-eq_self])))
 ·rename_i y
  have h2:=y.2
  match l,h2 with
  |a::b::r,_=>
  rw[show xU ((a::b::r).take 2)=nS a b from rfl,show(a::b::r).drop 2=r from rfl]
  have hx:mu (a::b::r)=if nS a b<=r.length then .ok (r.drop (nS a b))else .error 20:=rfl
  refine cf ?_
  (refine' bf (sm (A:=A) (n:=nS a b) (l:=r)) ?hp (fun _=>?_) (fun _=>?_);(case hp=>(repeat(first|exact Picks.nil|(apply Picks.cons;(focus repeat constructor)))));(all_goals (try simp only[ca_,na_,Bool.not_true,Bool.not_false,-eq_self])))
  ·rename_i q
   obtain⟨q,h3,_⟩:=q
   rw[if_pos h3]at hx
   (try dsimp only)
   refine bq (⟨_,hx⟩) ?_
   exact aw
  ·rename_i y
   have h3:=y.2
   rw[if_neg (by omega)]at hx
   refine bT (mh hx) rfl ?_
   exact aw
 ·rename_i y
  refine bT (mh (CF y.2)) rfl ?_
  exact aw
theorem xV {P:Program} {W:World} {L:List HP} {Kp:PK} {k:Value->WP} {α β:Type} {f:FuncId} {first:List Value} {A F:List HP} {r:α->Value} {B:α->List HP} {pc:β->List PanicEntry} {Bp:β->List HP} (hf:CnP P f first W A r B pc Bp) (p:Picks L A F)
  (h:∀x,aZ W (B x++F) (k (r x))) (hp:∀y,aZ W (Bp y++F) (Kp (pc y))):aZ W L (opN P (bN (.func (.func f) first.toArray #[]) []) Kp k):=fun w hw=>by
 refine⟨?_⟩
 have hr:(bN (.func (.func f) first.toArray #[]) []).run P w= .ok (.enter f first.toArray) w:=by
  unfold bN Deferred.ofValue
  simp[invoke,hf.call]
 rw[hr]
 refine(hf.run F w (p.sat hw)).mono fun e w' he=>?_
 rcases he with ⟨x,he,hs⟩|⟨y,he,hs⟩
 ·subst he;exact h x w' hs
 ·subst he;exact hp y w' hs
def xW (b:List UInt8)(x:UInt8)(l:List UInt8):Hd:=if has x 2 then sV (b.take (b.length-l.length)) l else .ok l
def vX (b:List UInt8)(x:UInt8)(i:Nat)(l:List UInt8):Hd:=match i with
 |0=>eo (d_ x 4 mu l) fun l=>eo (d_ x 8 fh l) fun l=>eo (d_ x 16 fh l) (xW b x)
 |1=>eo (d_ x 8 fh l) fun l=>eo (d_ x 16 fh l) (xW b x)
 |2=>eo (d_ x 16 fh l) (xW b x)
 |_=>xW b x l
theorem Bm (b:List UInt8)(x:UInt8)(l:List UInt8):sn b x l=eo (Fq l) (vX b x 0):=rfl
theorem zr {l r:List UInt8}{x:UInt8}{k:Int}{f:List UInt8->Hd}{g:List UInt8->Hd}(h:has x k=true)(hf:f l= .ok r):eo (d_ x k f l) g=g r:=by
 unfold d_ eo
 rw[if_pos h,hf]
theorem zt {l:List UInt8}{x:UInt8}{k e:Int}{f:List UInt8->Hd}{g:List UInt8->Hd}(h:has x k=true)(hf:f l= .error e):eo (d_ x k f l) g= .error e:=by
 unfold d_ eo
 rw[if_pos h,hf]
theorem FO {l:List UInt8}{x:UInt8}{k:Int}{f:List UInt8->Hd}{g:List UInt8->Hd}(h:has x k=false):eo (d_ x k f l) g=g l:=by
 unfold d_ eo
 rw[h]
 rfl
def cL:Hd->Nat
 | .ok l=>l.length
 | .error _=>0
theorem oV {n:Nat}{l:List UInt8}(h:n<=l.length):lR n (.ok l)= .ok (l.drop n):=if_pos (c:=n<=l.length) h
theorem L3 {n:Nat}{l:List UInt8}(h:l.length<n):lR n (.ok l)= .error 20:=if_neg (c:=n<=l.length) (by omega)
theorem FP {n:Nat}{l:List UInt8}(h:n<=l.length):xT n (.ok l)=l.take n:=if_pos (c:=n<=l.length) h
theorem vM (s:Hd)(f g:List UInt8->Hd):eo (eo s f) g=eo s fun l=>eo (f l) g:=by cases s <;> rfl
theorem zu (s:Hd):eo s .ok=s:=by cases s <;> rfl
theorem JE {W:World}{A:HP}{p:Nat}{b:List UInt8}{s:Hd}(hb:b.length<=1048576):Cn p_ 105 [.pointer (some ⟨p,0,none⟩)] W [vW W A p b s,A] (fun _:Unit=> .tuple #[]) (fun _=>[vW W A p b (eo s fh),A]):=by
 (refine Shp.cn (Sg.g_ Tryz.call105 Tryz.func105 (an:={loops:=[(0,[])]})) fun F=>?_;simp only[ca_,na_])
 refine mG (fun m=>(ex fun st:Hd=>all [pu (eo st fh=eo s fh/\cL st<=m),vW W A p b st,A])::F) (cL s) ?_ ?_
 ·refine .ex s (.all ?_)
  refine aq ?_
  refine .pu ⟨rfl,Nat.le_refl _⟩ ?_
  exact aw
 intro m ds
 refine aH .here fun st=>ap .here ?_
 refine aq ?_
 refine aG .here fun hi=>?_
 obtain⟨hst,hm⟩:=hi
 refine sY (A:=A) (p:=p) (b:=b) (s:=st) .here fun qa qc k hr hc hf=>?_
 cases st with
 |error e=>
  rw[show dE (.error e)=e from rfl]
  refine o_ au (o_ aj (bJ ?_))
  refine o_ aP ?_
  rw[dF_ (show ¬e=0 from hf)]
  refine af (af (af (af (af (o_ ag (aa ?_))))))
  rw[<- hst]
  refine bq () ?_
  exact vK (s:= .error e) (by rfl) (by repeat constructor) hr hc hf .refl
 |ok l=>
  rw[show dE (.ok l)=0 from rfl]
  refine o_ au (o_ aj (bJ ?_))
  refine o_ aP ?_
  rw[dT_ rfl]
  refine ae (ae (FK (A:=A) (s:= .ok l) (by rfl) (by repeat constructor) hr hc hf ?_))
  refine c_ (pH (A:=A) (n:=1) (s:= .ok l) (by decide) hb) fun _=>?_
  rename_i q
  obtain⟨⟨⟨ta,tc⟩,C⟩,h2,h3⟩:=q
  (try dsimp only at h2 h3)
  (try dsimp only)
  obtain⟨g2,o2,rfl,_⟩:=h2.at_ (by decide)
  match l,hst,hm,h2 with
  |[],hst,hm,h2=>
   refine ae (o_ (bj 0 rfl (by decide)) ?_)
   refine ae (bt (bP h2 (j:=0) (v:= .int .u8 0) rfl) ?_)
   refine ae (o_ bK ?_)
   rw[dF_ (by decide)]
   refine h3 (by repeat constructor) ?_
   refine o_ ah (aa ?_)
   rw[<- hst]
   refine bq () ?_
   rw[show eo (.ok []) fh=lR 1 (.ok [])from rfl]
   exact aw
  |x::r,hst,hm,h2=>
   have hT:eo (.ok (x::r)) fh=if x=0 then .ok r else fh r:=rfl
   rw[hT]at hst
   rw[show lR 1 (.ok (x::r))= .ok r from oV (by simp)]
   have h2v:xT 1 (.ok (x::r))=[x]:=FP (by simp)
   rw[h2v]at h2
   refine ae (o_ (bj 0 rfl (by decide)) ?_)
   refine ae (bt (bP h2 (j:=0) (v:= .int .u8 (x.toNat:Int)) rfl) ?_)
   refine ae (o_ bK ?_)
   by_cases hx:x=0
   ·rw[if_pos hx]at hst
    rw[dF_ (by rw[hx];decide)]
    refine h3 (by repeat constructor) ?_
    refine o_ ah (aa ?_)
    rw[<- hst]
    refine bq () ?_
    exact aw
   ·rw[if_neg hx]at hst
    have hx0:(x.toNat:Int)≠0:=fun h=>hx (UInt8.toNat_inj.1 (by simp;omega))
    rw[dT_ hx0]
    refine h3 (by repeat constructor) ?_
    refine o_ ah (ab ?_)
    have hm:r.length+1<=m:=hm
    refine iX (m-1) (by omega) (.ex (.ok r) (.all ?_))
    refine aq ?_
    refine .pu ⟨hst,by show r.length<=_;omega⟩ ?_
    exact aw
def CM (n:Nat):Hd->Prop
 | .ok l=>l.length<=n
 | .error _=>True
theorem FQ {n k:Nat}{s:Hd}(h:CM n s):CM n (lR k s):=by
 cases s with
 |error e=>exact h
 |ok l=>
  show CM n (if k<=l.length then .ok (l.drop k)else .error 20)
  split
  ·exact Nat.le_trans (by rw[List.length_drop];omega) (show l.length<=n from h)
  ·trivial
theorem JF {n:Nat}{w:Bool}{s:Hd}(h:CM n s):CM n (Ge w s):=by
 cases s with
 |error e=>exact h
 |ok l=>cases w <;> first|trivial|exact h
theorem zv {n:Nat}{f:List UInt8->Hd}{s:Hd}(hf:∀(b:List UInt8) {l:List UInt8},f b= .ok l->l.length<=b.length)(h:CM n s):CM n (eo s f):=by
 cases s with
 |error e=>exact h
 |ok l=>
  show CM n (f l)
  cases hl:f l with
  |error e=>trivial
  |ok r=>exact Nat.le_trans (hf l hl) h
theorem IC {x:UInt8}{k:Int}(hk:k=2\/k=4\/k=8\/k=16):decide (co .and .u8 (x.toNat:Int) k≠0)=has x k:=by
 have h:∀n:Nat,n<256->∀k∈([2,4,8,16]:List Int),decide (co .and .u8 (n:Int) k≠0)=decide (co .and .i64 (n:Int) k≠0):=by decide+kernel
 exact h x.toNat x.toNat_lt k (by simp;omega)
theorem L4 {s:Hd}{a c:UInt8}(h:xT 2 s=[a,c]):lR (nS a c) (lR 2 s)=eo s mu:=by
 cases s with
 |error e=>rfl
 |ok l=>
  match l with
  |[]=>rfl
  |[x]=>rfl
  |x::y::r=>
   have h:(if 2<=(x::y::r).length then(x::y::r).take 2 else List.replicate 2 0)=[a,c]:=h
   rw[if_pos (by simp)]at h
   simp at h
   obtain⟨rfl,rfl⟩:=h
   rw[show lR 2 (.ok (x::y::r))= .ok r from oV (by simp)]
   rfl
theorem L5 {w:List UInt8}{s:Hd}{a c:UInt8}{n:Nat}(h:xT 2 s=[a,c])(hn:∀l,s= .ok l->n=pE w):Ge (decide (((nS a c:Nat):Int)≠((n%65536:Nat):Int))) (lR 2 s)=eo s (sV w):=by
 cases s with
 |error e=>rfl
 |ok l=>
  match l with
  |[]=>rfl
  |[x]=>rfl
  |x::y::r=>
   have h:(if 2<=(x::y::r).length then(x::y::r).take 2 else List.replicate 2 0)=[a,c]:=h
   rw[if_pos (by simp)]at h
   simp at h
   obtain⟨rfl,rfl⟩:=h
   rw[show lR 2 (.ok (x::y::r))= .ok r from oV (by simp),hn _ rfl]
   show(if decide (((nS x y:Nat):Int)≠((pE w%65536:Nat):Int))=true then(.error 32:Hd)else .ok r)=if nS x y=pE w%65536 then .ok r else .error 32
   by_cases c:nS x y=pE w%65536
   ·rw[if_neg (by simp;omega),if_pos c]
   ·rw[if_pos (by simp;omega),if_neg c]
theorem FR {s:Hd}:∃x:UInt8,xT 1 s=[x]:=by
 have:=vL 1 s
 match h:xT 1 s,this with
 |[x],_=>exact⟨x,rfl⟩
theorem FS {s:Hd}:∃x y:UInt8,xT 2 s=[x,y]:=by
 have:=vL 2 s
 match h:xT 2 s,this with
 |[x,y],_=>exact⟨x,y,rfl⟩
theorem L6 {c x:UInt8}{cs:List UInt8}{s:Hd}(h:xT 1 s=[x]):eo (Ge (decide ((x.toNat:Int)≠(c.toNat:Int))) (lR 1 s)) (mt cs)=eo s (mt (c::cs)):=by
 cases s with
 |error e=>rfl
 |ok l=>
  match l with
  |[]=>rfl
  |y::r=>
   have h:(if 1<=(y::r).length then(y::r).take 1 else List.replicate 1 0)=[x]:=h
   rw[if_pos (by simp)]at h
   simp at h
   subst h
   rw[show lR 1 (.ok (y::r))= .ok r from oV (by simp)]
   show eo (if decide ((y.toNat:Int)≠(c.toNat:Int))=true then(.error 32:Hd)else .ok r) (mt cs)=if y=c then mt cs r else .error 32
   by_cases hc:y=c
   ·subst hc;rw[if_neg (by simp),if_pos rfl];rfl
   ·rw[if_pos (by simp;exact fun h=>hc (UInt8.toNat_inj.1 (by omega))),if_neg hc];rfl
theorem L7 {x:UInt8}{w:List UInt8}{s:Hd}(h:xT 1 s=[x]):eo (lR 6 (Ge (decide ((31:Int)<(x.toNat:Int))) (lR 1 s))) (vX w x 0)=eo s (Fr w):=by
 cases s with
 |error e=>rfl
 |ok l=>
  match l with
  |[]=>rfl
  |y::r=>
   have h:(if 1<=(y::r).length then(y::r).take 1 else List.replicate 1 0)=[x]:=h
   rw[if_pos (by simp)]at h
   simp at h
   subst h
   rw[show lR 1 (.ok (y::r))= .ok r from oV (by simp)]
   show eo (lR 6 (if decide ((31:Int)<(y.toNat:Int))=true then(.error 32:Hd)else .ok r)) (vX w y 0)=if y.toNat<32 then sn w y r else .error 32
   by_cases hc:y.toNat<32
   ·rw[if_neg (by simp;omega),if_pos hc,Bm];rfl
   ·rw[if_pos (by simp;omega),if_neg hc];rfl
theorem CG {w l:List UInt8}(h:l.length<2):sV w l= .error 20:=by
 match l,h with
 |[],_=>rfl
 |[_],_=>rfl
theorem JG {n:Nat}(h:n<4294967296):co .and .u32 (n:Int) 65535=((n%65536:Nat):Int):=by
 unfold co
 have h1:(BitVec.ofInt IntKind.u32.bits (n:Int)).toNat=n:=by
  rw[BitVec.ofInt_natCast,BitVec.toNat_ofNat];exact Nat.mod_eq_of_lt (by simp only[IntKind.bits];omega)
 have h2:(BitVec.ofInt IntKind.u32.bits 65535).toNat=2^16-1:=by decide
 simp only[BitVec.toNat_and,h1,h2]
 rw[Nat.and_two_pow_sub_one_eq_mod]
 exact lu (by omega)
theorem L8 {W:World}{A:HP}{p:Nat}{b:List UInt8}(hb:b.length<=1048576):CnP p_ 66 [.pointer (some ⟨p,0,none⟩)] W [yg W A p b,A]
  (fun _:{r:List UInt8 // eb b= .ok r}=> .tuple #[]) (fun x=>[yg W A p x.1,A]) (fun y:{e:Int // eb b= .error e}=>pn y.1) (fun _=>[A]):=by
 (refine Shp.cnP (Sg.g_ Tryz.call66 Tryz.func66 (an:={loops:=[(3,[15]),(12,[43])]})) fun F=>?_;simp only[ca_,na_,-eq_self])
 refine Fj (A:=A) (p:=p) (l:=b) .here fun qa qc hr hc=>?_
 refine fb fun g=>?_;refine bJ ?_;refine o_ au (o_ aj (bJ ?_));refine o_ b_ ?_
 rename Nat=>gb
 refine zn (A:=A) (l:=b) (by repeat constructor) hr hc ?_
 refine a_ (fun k y=>(ex fun st:Nat × List UInt8=>all [pu (k+st.1=3/\y= .int .i64 (st.1:Int)/\mt (([31,139,8]:List UInt8).drop st.1) st.2=mt [31,139,8] b/\st.2.length<=b.length),yg W A p st.2])::pt gb (.cells #[.pointer (some ⟨p,0,none⟩)] 105)::A::F) 3 ?_ ?_
 ·refine .ex (0,b) (.all ?_)
  refine aq ?_
  refine .pu ⟨rfl,rfl,rfl,Nat.le_refl _⟩ ?_
  exact aw
 intro k ds y
 refine aH .here fun st=>ap .here ?_
 obtain⟨i,l⟩:=st
 refine aq ?_
 refine aG .here fun hi=>?_
 (try dsimp only at hi)
 obtain⟨hki,rfl,hmag,hlb⟩:=hi
 (try dsimp only)
 refine o_ az ?_
 by_cases hlt:(i:Int)<3
 ·rw[dT_ hlt]
  obtain⟨c,hx,hv⟩:∃c:UInt8,([31,139,8]:List UInt8).drop i=c::([31,139,8]:List UInt8).drop (i+1)/\(#[.int .u8 31,.int .u8 139,.int .u8 8]:Array Value)[i]? =some (.int .u8 (c.toNat:Int)):=by
   rcases(show i=0\/i=1\/i=2 by omega)with rfl|rfl|rfl
   ·exact⟨31,rfl,rfl⟩
   ·exact⟨139,rfl,rfl⟩
   ·exact⟨8,rfl,rfl⟩
  rw[hx]at hmag
  refine ab (o_ (lH i rfl (by omega) hv) ?_)
  refine bJ ?_
  (refine' bf (sm (A:=A) (n:=1) (l:=l)) ?hp (fun _=>?_) (fun _=>?_);(case hp=>(repeat(first|exact Picks.nil|(apply Picks.cons;(focus repeat constructor)))));(all_goals (try simp only[ca_,na_,Bool.not_true,Bool.not_false,-eq_self])))
  ·rename_i q
   obtain⟨⟨ta,tc⟩,h1,h2,h3⟩:=q
   (try dsimp only)
   (try dsimp only at h2 h3)
   obtain⟨g2,o2,rfl,_⟩:=h2.at_ (by decide)
   match l,h1 with
   |x::r,_=>
   have hm2:mt (c::([31,139,8]:List UInt8).drop (i+1)) (x::r)=if x=c then mt (([31,139,8]:List UInt8).drop (i+1)) r else .error 32:=rfl
   refine o_ (bj 0 rfl (by decide)) ?_
   refine bt (bP h2 (j:=0) (v:= .int .u8 (x.toNat:Int)) rfl) ?_
   refine o_ aP ?_
   have hxc:decide ((x.toNat:Int)=(c.toNat:Int))=decide (x=c):=decide_eq_decide.2 ⟨fun h=>UInt8.toNat_inj.1 (by omega),fun h=>by rw[h]⟩
   rw[hxc]
   (refine' bf (ql) ?hp (fun _=>?_) (fun _=>?_);(case hp=>(repeat(first|exact Picks.nil|(apply Picks.cons;(focus repeat constructor)))));(all_goals (try simp only[ca_,na_,Bool.not_true,Bool.not_false,-eq_self])))
   ·rename_i y
    have hy:=of_decide_eq_true y.2
    rw[hm2,if_pos hy]at hmag
    refine bG ?_
    simp only[List.length_cons]at hlb
    refine aK (k-1) (by omega) (.ex (i+1,r) (.all ?_))
    refine aq ?_
    refine .pu ⟨by omega,by rfl,hmag,by(try dsimp only);omega⟩ ?_
    exact aw
   ·rename_i y
    have hy:=of_decide_eq_false y.2
    rw[hm2,if_neg hy]at hmag
    refine bT ⟨32,by unfold eb;rw[<- hmag];rfl⟩ rfl ?_
    exact aw
  ·rename_i y
   have hy:=y.2
   obtain rfl:l=[]:=List.eq_nil_of_length_eq_zero (by omega)
   refine bT ⟨20,by unfold eb;rw[<- hmag];rfl⟩ rfl ?_
   exact aw
 rw[dF_ hlt]
 obtain rfl:i=3:=by omega
 have hmag: .ok l=mt [31,139,8] b:=hmag
 have hh:eb b=Fr b l:=by unfold eb;rw[<- hmag];rfl
 refine aa (bJ ?_)
 (refine' bf (FL (A:=A) (n:=1) (l:=l) (.inl rfl)) ?hp (fun _=>?_) (fun _=>?_);(case hp=>(repeat(first|exact Picks.nil|(apply Picks.cons;(focus repeat constructor)))));(all_goals (try simp only[ca_,na_,Bool.not_true,Bool.not_false,-eq_self])))
 rotate_left
 ·rename_i y
  have hy:=y.2
  obtain rfl:l=[]:=List.eq_nil_of_length_eq_zero (by omega)
  refine bT ⟨20,hh⟩ rfl ?_
  exact aw
 rename_i y
 have hy:=y.2
 match l,hy with
 |x::l,_=>
 have hx:=x.toNat_lt
 simp only[List.length_cons]at hlb
 have hh:eb b=if x.toNat<32 then sn b x l else .error 32:=hh
 rw[show xU ((x::l).take 1)=x.toNat from rfl,show(x::l).drop 1=l from rfl]
 refine o_ az ?_
 (refine' bf (ql) ?hp (fun _=>?_) (fun _=>?_);(case hp=>(repeat(first|exact Picks.nil|(apply Picks.cons;(focus repeat constructor)))));(all_goals (try simp only[ca_,na_,Bool.not_true,Bool.not_false,-eq_self])))
 rotate_left
 ·rename_i y
  have hy:=of_decide_eq_false y.2
  rw[if_neg (by omega)]at hh
  refine bT ⟨32,hh⟩ rfl ?_
  exact aw
 rename_i y
 have hy:=of_decide_eq_true y.2
 rw[if_pos (by omega),Bm]at hh
 refine bJ ?_
 (refine' bf (sm (A:=A) (n:=6) (l:=l)) ?hp (fun _=>?_) (fun _=>?_);(case hp=>(repeat(first|exact Picks.nil|(apply Picks.cons;(focus repeat constructor)))));(all_goals (try simp only[ca_,na_,Bool.not_true,Bool.not_false,-eq_self])))
 rotate_left
 ·rename_i y
  have hy:=y.2
  unfold Fq at hh
  rw[if_neg (by omega)]at hh
  refine bT ⟨20,hh⟩ rfl ?_
  exact aw
 rename_i q
 obtain⟨_,h6,_⟩:=q
 have hh:eb b=vX b x 0 (l.drop 6):=by rw[hh];unfold Fq;rw[if_pos h6];rfl
 obtain⟨r0,hr0⟩:∃r0,r0=l.drop 6:=⟨_,rfl⟩
 have hlr:r0.length<=b.length:=by rw[hr0,List.length_drop];omega
 rw[<- hr0]at hh ⊢
 refine o_ gI (o_ b_ ?_);refine bJ ?_
 refine o_ gI (o_ b_ ?_);refine bJ ?_
 refine o_ gI (o_ b_ ?_);refine o_ b_ ?_;refine bp fun g=>?_;refine fO ?_;refine lG ?_
 refine a_ (fun k y=>(ex fun st:Nat × List UInt8=>all [pu (k+st.1=3/\y= .int .i64 (st.1:Int)/\eb b=vX b x st.1 st.2/\st.2.length<=b.length),yg W A p st.2])::pt gb (.cells #[.pointer (some ⟨p,0,none⟩)] 105)::A::F) 3 ?_ ?_
 ·refine .ex (0,r0) (.all ?_)
  refine aq ?_
  refine .pu ⟨rfl,rfl,hh,hlr⟩ ?_
  exact aw
 clear hh hlr hr0
 intro k2 ds2 y2
 refine aH .here fun st=>ap .here ?_
 obtain⟨i2,r⟩:=st
 refine aq ?_
 refine aG .here fun hi=>?_
 (try dsimp only at hi)
 obtain⟨hki2,rfl,hh,hlr⟩:=hi
 (try dsimp only)
 refine o_ az ?_
 rcases(show i2=0\/i2=1\/i2=2\/i2=3 by omega)with rfl|rfl|rfl|rfl
 ·have hh:eb b=eo (d_ x 4 mu r) (vX b x 1):=hh
  rw[dT_ (by decide)]
  refine ab (o_ (zm 0 rfl (by omega)) ?_)
  rw[show(#[.int .i64 4,.func (.func 101) #[] #[.pointer (some ⟨gb,0,none⟩)],.int .i64 8,.func (.func 102) #[.pointer (some ⟨p,0,none⟩)] #[],.int .i64 16,.func (.func 102) #[.pointer (some ⟨p,0,none⟩)] #[]]:Array Value).extract (0 * 2) (0 * 2+2)= #[.int .i64 4,.func (.func 101) #[] #[.pointer (some ⟨gb,0,none⟩)]]from rfl]
  refine bp fun g8=>?_
  refine bS (by repeat constructor) (by rfl) (by rfl) (by intro v hv;simp at hv;rcases hv with rfl|rfl <;> rfl) ?_
  refine o_ aj (bJ ?_)
  refine o_ fT (o_ bK ?_)
  rw[show decide (co .and .i64 (x.toNat:Int) 4≠0)=has x 4 from rfl]
  cases hk:has x 4 with
  |false=>
   rw[FO hk]at hh
   refine aa (bG ?_)
   refine aK (k2-1) (by omega) (.ex (1,r) (.all ?_))
   refine aq ?_
   refine .pu ⟨by omega,by rfl,hh,hlr⟩ ?_
   exact aw
  |true=>
   refine ab (o_ aj (bJ ?_))
   refine FN (cap:=[.pointer (some ⟨gb,0,none⟩)]) (SU (A:=A) (p:=p) (gb:=gb) (l:=r)) (by(repeat(first|exact Picks.nil|(apply Picks.cons;(focus repeat constructor))))) (fun z=>?_) (fun z=>?_)
   ·rw[zr hk z.2]at hh
    have hz:=zp _ z.2
    refine aq ?_
    refine bG ?_
    refine aK (k2-1) (by omega) (.ex (1,z.1) (.all ?_))
    refine aq ?_
    refine .pu ⟨by omega,by rfl,hh,by(try dsimp only);omega⟩ ?_
    exact aw
   ·rw[zt hk z.2]at hh
    refine bT ⟨20,hh⟩ rfl ?_
    exact aw
 ·have hh:eb b=eo (d_ x 8 fh r) (vX b x 2):=hh
  rw[dT_ (by decide)]
  refine ab (o_ (zm 1 rfl (by omega)) ?_)
  rw[show(#[.int .i64 4,.func (.func 101) #[] #[.pointer (some ⟨gb,0,none⟩)],.int .i64 8,.func (.func 102) #[.pointer (some ⟨p,0,none⟩)] #[],.int .i64 16,.func (.func 102) #[.pointer (some ⟨p,0,none⟩)] #[]]:Array Value).extract (1 * 2) (1 * 2+2)= #[.int .i64 8,.func (.func 102) #[.pointer (some ⟨p,0,none⟩)] #[]]from rfl]
  refine bp fun g8=>?_
  refine bS (by repeat constructor) (by rfl) (by rfl) (by intro v hv;simp at hv;rcases hv with rfl|rfl <;> rfl) ?_
  refine o_ aj (bJ ?_)
  refine o_ fT (o_ bK ?_)
  rw[show decide (co .and .i64 (x.toNat:Int) 8≠0)=has x 8 from rfl]
  cases hk:has x 8 with
  |false=>
   rw[FO hk]at hh
   refine aa (bG ?_)
   refine aK (k2-1) (by omega) (.ex (2,r) (.all ?_))
   refine aq ?_
   refine .pu ⟨by omega,by rfl,hh,hlr⟩ ?_
   exact aw
  |true=>
   refine ab (o_ aj (bJ ?_))
   refine xV (first:=[.pointer (some ⟨p,0,none⟩)]) (JD (A:=A) (p:=p) (l:=r) (by omega)) (by(repeat(first|exact Picks.nil|(apply Picks.cons;(focus repeat constructor))))) (fun z=>?_) (fun z=>?_)
   ·rw[zr hk z.2]at hh
    have hz:=mw _ z.2
    refine aq ?_
    refine bG ?_
    refine aK (k2-1) (by omega) (.ex (2,z.1) (.all ?_))
    refine aq ?_
    refine .pu ⟨by omega,by rfl,hh,by(try dsimp only);omega⟩ ?_
    exact aw
   ·rw[zt hk z.2]at hh
    refine bT ⟨20,hh⟩ rfl ?_
    exact aw
 ·have hh:eb b=eo (d_ x 16 fh r) (vX b x 3):=hh
  rw[dT_ (by decide)]
  refine ab (o_ (zm 2 rfl (by omega)) ?_)
  rw[show(#[.int .i64 4,.func (.func 101) #[] #[.pointer (some ⟨gb,0,none⟩)],.int .i64 8,.func (.func 102) #[.pointer (some ⟨p,0,none⟩)] #[],.int .i64 16,.func (.func 102) #[.pointer (some ⟨p,0,none⟩)] #[]]:Array Value).extract (2 * 2) (2 * 2+2)= #[.int .i64 16,.func (.func 102) #[.pointer (some ⟨p,0,none⟩)] #[]]from rfl]
  refine bp fun g8=>?_
  refine bS (by repeat constructor) (by rfl) (by rfl) (by intro v hv;simp at hv;rcases hv with rfl|rfl <;> rfl) ?_
  refine o_ aj (bJ ?_)
  refine o_ fT (o_ bK ?_)
  rw[show decide (co .and .i64 (x.toNat:Int) 16≠0)=has x 16 from rfl]
  cases hk:has x 16 with
  |false=>
   rw[FO hk]at hh
   refine aa (bG ?_)
   refine aK (k2-1) (by omega) (.ex (3,r) (.all ?_))
   refine aq ?_
   refine .pu ⟨by omega,by rfl,hh,hlr⟩ ?_
   exact aw
  |true=>
   refine ab (o_ aj (bJ ?_))
   refine xV (first:=[.pointer (some ⟨p,0,none⟩)]) (JD (A:=A) (p:=p) (l:=r) (by omega)) (by(repeat(first|exact Picks.nil|(apply Picks.cons;(focus repeat constructor))))) (fun z=>?_) (fun z=>?_)
   ·rw[zr hk z.2]at hh
    have hz:=mw _ z.2
    refine aq ?_
    refine bG ?_
    refine aK (k2-1) (by omega) (.ex (3,z.1) (.all ?_))
    refine aq ?_
    refine .pu ⟨by omega,by rfl,hh,by(try dsimp only);omega⟩ ?_
    exact aw
   ·rw[zt hk z.2]at hh
    refine bT ⟨20,hh⟩ rfl ?_
    exact aw
 ·have hh:eb b=if has x 2 then sV (b.take (b.length-r.length)) r else .ok r:=hh
  rw[dF_ (by decide)]
  refine aa (o_ fT (o_ bK ?_))
  rw[show decide (co .and .i64 (x.toNat:Int) 2≠0)=has x 2 from rfl]
  cases hk:has x 2 with
  |false=>
   rw[hk]at hh
   refine aa (bq (⟨r,hh⟩) ?_)
   exact aw
  |true=>
   rw[hk,if_pos rfl]at hh
   refine ab (o_ aC (bJ ?_));refine o_ au (o_ aj (Fj (A:=A) (p:=p) (l:=r) (by repeat constructor) fun ra rc hr2 hc2=>?_))
   refine bJ ?_;refine o_ aC (dX ?_)
   refine zn (A:=A) (l:=r) (by repeat constructor) hr2 hc2 ?_
   have hk2:(b.take (b.length-r.length)).length=b.length-r.length:=by rw[List.length_take];omega
   have h1:=hr.cut (cap:=qc) (l:=0) (h:=b.length-r.length) (by omega) (by omega) hc
   rw[List.drop_zero,Nat.sub_zero,<- List.map_take]at h1
   refine o_ (qB (b.length-r.length) (by omega) (by omega)) ?_
   obtain⟨A0,hA0⟩:∃A0,A0=(if qc=0 then qa else qa.map (·.add (0 * 1))):=⟨_,rfl⟩
   rw[<- hA0]at h1 ⊢
   have h1b:RdB W A A0 (b.take (b.length-r.length)).length ((b.take (b.length-r.length)).map Sl.B):=by rw[hk2];exact h1
   rw[show(Value.slice A0 (b.length-r.length) qc)=Value.slice A0 (b.take (b.length-r.length)).length qc by rw[hk2]]
   refine c_ (Lv (b:=b.take (b.length-r.length)) (c:=qc) h1b (by omega)) fun _=>?_
   have hcl:=rY (b.take (b.length-r.length))
   obtain⟨s,hs⟩:∃s,s=pE (b.take (b.length-r.length)):=⟨_,rfl⟩
   rw[<- hs]at hcl ⊢
   refine bJ ?_
   (refine' bf (FL (A:=A) (n:=2) (l:=r) (.inr rfl)) ?hp (fun _=>?_) (fun _=>?_);(case hp=>(repeat(first|exact Picks.nil|(apply Picks.cons;(focus repeat constructor)))));(all_goals (try simp only[ca_,na_,Bool.not_true,Bool.not_false,-eq_self])))
   rotate_left
   ·rename_i y
    rw[CG y.2]at hh
    refine bT ⟨20,hh⟩ rfl ?_
    exact aw
   rename_i y
   have hy:=y.2
   match r,hy with
   |c1::c2::r',_=>
   have hh:eb b=if nS c1 c2=s%65536 then .ok r' else .error 32:=by rw[hh,hs];rfl
   rw[show xU ((c1::c2::r').take 2)=nS c1 c2 from rfl,show(c1::c2::r').drop 2=r' from rfl]
   refine o_ fT ?_
   rw[JG hcl]
   refine o_ (br (q:= .i64)) ?_
   rw[mx (by omega) (by omega)]
   refine o_ aP ?_
   rw[show decide (((nS c1 c2:Nat):Int)=((s%65536:Nat):Int))=decide (nS c1 c2=s%65536)from decide_eq_decide.2 (by omega)]
   (refine' bf (ql) ?hp (fun _=>?_) (fun _=>?_);(case hp=>(repeat(first|exact Picks.nil|(apply Picks.cons;(focus repeat constructor)))));(all_goals (try simp only[ca_,na_,Bool.not_true,Bool.not_false,-eq_self])))
   ·rename_i y
    rw[if_pos (of_decide_eq_true y.2)]at hh
    refine bq (⟨r',hh⟩) ?_
    exact aw
   ·rename_i y
    rw[if_neg (of_decide_eq_false y.2)]at hh
    refine bT ⟨32,hh⟩ rfl ?_
    exact aw
def zw:List UInt8:=[31,139,8]
theorem zx {x:UInt8}{k:Int}{f:List UInt8->Hd}{s:Hd}(h:has x k=false):eo s (d_ x k f)=s:=by
 have:d_ x k f= .ok:=by funext l;unfold d_;rw[h];rfl
 rw[this,zu]
theorem vO {x:UInt8}{k:Int}{f:List UInt8->Hd}{s:Hd}(h:has x k=true):eo s (d_ x k f)=eo s f:=by
 have:d_ x k f=f:=by funext l;unfold d_;rw[h];rfl
 rw[this]
theorem P4 {W:World}{A:HP}{p:Nat}{b l0:List UInt8}(hb:b.length<=1048576):Cn p_ 73 [.pointer (some ⟨p,0,none⟩)] W [vW W A p b (.ok l0),A] (fun _:Unit=> .tuple #[]) (fun _=>[vW W A p b (eb l0),A]):=by
 (refine Shp.cn (Sg.g_ Tryz.call73 Tryz.func73 (an:={cuts:=[(12,[]),(14,[]),(16,[]),(20,[7])],loops:=[(3,[4])],drs:=[(5,.ofL [(0,2),(1,1),(5,2),(6,2),(7,3),(8,3),(2,0),(3,1),(4,1),(9,1),(10,0)]),(11,.ofL [(0,1),(1,1),(2,1),(3,1),(4,1),(5,1),(6,1),(7,1),(8,1),(9,1),(10,1),(11,0)]),(19,.ofL [(0,1),(1,1),(2,1),(3,1),(4,1),(5,1),(6,1),(7,1),(8,1),(9,1),(10,0),(11,1)]),(21,.ofL [(0,1),(1,1),(2,1),(3,1),(4,1),(5,1),(6,1),(7,1),(8,1),(9,1),(10,1),(11,1),(12,1),(13,1),(14,1),(15,0)])]}) (os:=[(5,[(2,[8,7])])])) fun F=>?_;simp only[ca_,na_])
 refine sY (A:=A) (p:=p) (b:=b) (s:= .ok l0) .here fun qa qc k hr hc hf=>?_
 obtain⟨j0,hj0,rfl,hl0⟩:=hf
 have hl0n:l0.length=b.length-j0:=by rw[hl0,List.length_drop]
 rw[show dE (.ok l0)=0 from rfl]
 refine o_ au (o_ aj (bJ ?_))
 refine f_ (vs:=zw.map Sl.B) rfl rfl (by intro v hv;obtain⟨c,_,rfl⟩:=List.mem_map.1 hv;rfl) (by decide) fun g7=>?_
 refine FK (A:=A) (s:= .ok l0) (by rfl) (by repeat constructor) hr hc ⟨j0,hj0,rfl,hl0⟩ ?_
 clear hr hc
 refine a_ (fun m y=>(ex fun st:Nat × Hd=>all [pu (m+st.1=3/\y= .int .i64 (st.1:Int)/\eo (eo st.2 (mt (zw.drop st.1))) (Fr l0)=eb l0/\CM l0.length st.2),vW W A p b st.2])::pt g7 (.cells (zw.map Sl.B).toArray 5)::A::F) 3 ?_ ?_
 ·refine .ex (0,.ok l0) (.all ?_)
  refine aq ?_
  refine .pu ⟨rfl,rfl,rfl,Nat.le_refl _⟩ ?_
  exact aw
 intro m ds y
 refine aH .here fun st=>ap .here ?_
 obtain⟨i,s⟩:=st
 refine aq ?_
 refine aG .here fun hi=>?_
 (try dsimp only at hi)
 obtain⟨hmi,rfl,hk,hle⟩:=hi
 (try dsimp only)
 refine o_ az ?_
 by_cases hlt:(i:Int)<3
 ·rw[dT_ hlt]
  obtain⟨c,hx,hv⟩:∃c:UInt8,zw.drop i=c::zw.drop (i+1)/\(zw.map Sl.B)[i]? =some (.int .u8 (c.toNat:Int)):=by
   rcases(show i=0\/i=1\/i=2 by omega)with rfl|rfl|rfl
   ·exact⟨31,rfl,rfl⟩
   ·exact⟨139,rfl,rfl⟩
   ·exact⟨8,rfl,rfl⟩
  rw[hx]at hk
  refine ab (bA (bh (bj i rfl (by omega)) .nil ?_))
  refine bh (bP (tm (W:=W) (g:=g7) (n:=3) (T:=5) (cs:=zw.map Sl.B) rfl) hv) (.pick (by repeat constructor) .nil) ?_
  refine c_ (pH (A:=A) (n:=1) (s:=s) (by decide) hb) fun _=>?_
  rename_i q
  obtain⟨⟨⟨ta,tc⟩,C⟩,h2,h3⟩:=q
  (try dsimp only at h2 h3)
  (try dsimp only)
  obtain⟨g2,o2,rfl,_⟩:=h2.at_ (by decide)
  obtain⟨x,hxv⟩:=FR (s:=s)
  rw[hxv]at h2
  refine cf ?_;refine cf ?_
  refine t_ (bj 0 rfl (by decide)) ?_
  refine eJ (bP h2 (j:=0) (v:= .int .u8 (x.toNat:Int)) rfl) ?_
  refine t_ bK (h3 (by repeat constructor) ?_)
  refine c_ (Bl (A:=A) (s:=lR 1 s)) fun _=>?_
  rw[<- L6 hxv]at hk
  refine bG ?_
  refine aK (m-1) (by omega) (.ex (i+1,Ge (decide ((x.toNat:Int)≠(c.toNat:Int))) (lR 1 s)) (.all ?_))
  refine aq ?_
  refine .pu ⟨by omega,by rfl,hk,JF (FQ hle)⟩ ?_
  exact aw
 rw[dF_ hlt]
 obtain rfl:i=3:=by omega
 have hk:eo (eo s .ok) (Fr l0)=eb l0:=hk
 rw[zu]at hk
 refine aa (c_ (pH (A:=A) (n:=1) (s:=s) (by decide) hb) fun _=>?_)
 rename_i q
 obtain⟨⟨⟨ta,tc⟩,C⟩,h2,h3⟩:=q
 (try dsimp only at h2 h3)
 (try dsimp only)
 obtain⟨g2,o2,rfl,_⟩:=h2.at_ (by decide)
 obtain⟨x,hxv⟩:=FR (s:=s)
 rw[hxv]at h2
 refine o_ (bj 0 rfl (by decide)) ?_
 refine bt (bP h2 (j:=0) (v:= .int .u8 (x.toNat:Int)) rfl) ?_
 refine o_ aV (h3 (by repeat constructor) ?_)
 refine c_ (Bl (A:=A) (s:=lR 1 s)) fun _=>?_
 refine c_ (pH (A:=A) (n:=6) (s:=Ge (decide ((31:Int)<(x.toNat:Int))) (lR 1 s)) (by decide) hb) fun _=>?_
 rename_i q
 obtain⟨⟨⟨ta6,tc6⟩,C6⟩,_,h6⟩:=q
 (try dsimp only at h6)
 (try dsimp only)
 refine h6 (by repeat constructor) ?_
 rw[<- L7 hxv]at hk
 have hle6:=FQ (k:=6) (JF (w:=decide ((31:Int)<(x.toNat:Int))) (FQ (k:=1) hle))
 obtain⟨s6,hs6⟩:∃s6,s6=lR 6 (Ge (decide ((31:Int)<(x.toNat:Int))) (lR 1 s)):=⟨_,rfl⟩
 rw[<- hs6]at hk hle6 ⊢
 clear hs6 h2 h3 h6 hle hxv
 -- the first part
 refine cP (vW W A p b (eo s6 (d_ x 4 mu))::A::F) ?_ ?_
 rotate_left
 ·refine o_ fT (o_ bK ?_)
  rw[IC (.inr (.inl rfl))]
  cases hh:has x 4 with
  |false=>
   rw[zx hh]
   refine aa (aD ?_)
   exact aw
  |true=>
   rw[vO hh]
   refine ab (c_ (pH (A:=A) (n:=2) (s:=s6) (by decide) hb) fun _=>?_)
   rename_i q
   obtain⟨⟨⟨ta,tc⟩,C⟩,h2,h3⟩:=q
   (try dsimp only at h2 h3)
   (try dsimp only)
   obtain⟨g3,o3,rfl,_⟩:=h2.at_ (by decide)
   obtain⟨a,c,hac⟩:=FS (s:=s6)
   rw[hac]at h2
   have ha:=a.toNat_lt
   have hcn:=c.toNat_lt
   refine bA (t_ (bj 0 rfl (by decide)) ?_)
   refine eJ (bP h2 (j:=0) (v:= .int .u8 (a.toNat:Int)) rfl) ?_
   refine t_ (br (q:= .i64)) ?_
   rw[mx (by omega) (by omega)]
   refine t_ (bj 1 rfl (by decide)) ?_
   refine eJ (bP h2 (j:=1) (v:= .int .u8 (c.toNat:Int)) rfl) ?_
   refine t_ (br (q:= .i64)) ?_
   rw[mx (by omega) (by omega)]
   (refine t_ (eh (by omega) (by omega)) ?_);(refine t_ (bU (by omega) (by omega)) ?_)
   rw[show(a.toNat:Int)+256 * (c.toNat:Int)=((nS a c:Nat):Int) by unfold nS;omega]
   refine h3 (by repeat constructor) ?_
   refine c_ (pH (A:=A) (n:=nS a c) (s:=lR 2 s6) (by unfold nS;omega) hb) fun _=>?_
   rename_i q
   obtain⟨⟨⟨ta,tc⟩,C⟩,_,h3⟩:=q
   (try dsimp only at h3)
   (try dsimp only)
   refine h3 (by repeat constructor) ?_
   rw[L4 hac]
   refine aD ?_
   exact aw
 intro ds2
 have hle7:CM l0.length (eo s6 (d_ x 4 mu)):=zv (fun b l h=>oR (fun b _=>zp b) (Nat.le_refl _) h) hle6
 rw[show eo s6 (vX l0 x 0)=eo (eo s6 (d_ x 4 mu)) (vX l0 x 1) by rw[vM];rfl]at hk
 obtain⟨s7,hs7⟩:∃s7,s7=eo s6 (d_ x 4 mu):=⟨_,rfl⟩
 rw[<- hs7]at hk hle7 ⊢
 clear hs7 hle6
 refine cP (vW W A p b (eo s7 (d_ x 8 fh))::A::F) ?_ ?_
 rotate_left
 ·refine o_ fT (o_ bK ?_)
  rw[IC (.inr (.inr (.inl rfl)))]
  cases hh:has x 8 with
  |false=>
   rw[zx hh]
   refine aa (aD ?_)
   exact aw
  |true=>
   rw[vO hh]
   refine ab (c_ (JE (A:=A) (s:=s7) hb) fun _=>?_)
   refine aD ?_
   exact aw
 intro ds3
 have hle8:CM l0.length (eo s7 (d_ x 8 fh)):=zv (fun b l h=>oR (fun b _=>mw b) (Nat.le_refl _) h) hle7
 rw[show eo s7 (vX l0 x 1)=eo (eo s7 (d_ x 8 fh)) (vX l0 x 2) by rw[vM];rfl]at hk
 obtain⟨s8,hs8⟩:∃s8,s8=eo s7 (d_ x 8 fh):=⟨_,rfl⟩
 rw[<- hs8]at hk hle8 ⊢
 clear hs8 hle7
 refine cP (vW W A p b (eo s8 (d_ x 16 fh))::A::F) ?_ ?_
 rotate_left
 ·refine o_ fT (o_ bK ?_)
  rw[IC (.inr (.inr (.inr rfl)))]
  cases hh:has x 16 with
  |false=>
   rw[zx hh]
   refine aa (aD ?_)
   exact aw
  |true=>
   rw[vO hh]
   refine ab (c_ (JE (A:=A) (s:=s8) hb) fun _=>?_)
   refine aD ?_
   exact aw
 intro ds4
 have hle9:CM l0.length (eo s8 (d_ x 16 fh)):=zv (fun b l h=>oR (fun b _=>mw b) (Nat.le_refl _) h) hle8
 rw[show eo s8 (vX l0 x 2)=eo (eo s8 (d_ x 16 fh)) (vX l0 x 3) by rw[vM];rfl]at hk
 obtain⟨s9,hs9⟩:∃s9,s9=eo s8 (d_ x 16 fh):=⟨_,rfl⟩
 rw[<- hs9]at hk hle9 ⊢
 clear hs9 hle8
 refine o_ fT (o_ bK ?_)
 rw[IC (.inl rfl)]
 cases hh:has x 2 with
 |false=>
  rw[show eo s9 (vX l0 x 3)=s9 by
   have:vX l0 x 3= .ok:=by funext l;show(if has x 2=true then _ else _)=_;rw[hh];rfl
   rw[this,zu]]at hk
  rw[<- hk]
  refine aa (bq () ?_)
  exact aw
 |true=>
  rw[show eo s9 (vX l0 x 3)=eo s9 (fun l=>sV (l0.take (l0.length-l.length)) l) by
   have:vX l0 x 3=fun l=>sV (l0.take (l0.length-l.length)) l:=by funext l;show(if has x 2=true then _ else _)=_;rw[hh];rfl
   rw[this]]at hk
  refine ab (dD (fun z=>pu (∃n:Nat,z= .int .u32 (n:Int)/\n<4294967296/\∀l,s9= .ok l->n=pE (l0.take (l0.length-l.length)))::vW W A p b s9::A::F) ?_ ?_)
  rotate_left
  ·refine sY (A:=A) (p:=p) (b:=b) (s:=s9) .here fun qa qc k hr hc hf=>?_
   cases s9 with
   |error e=>
    rw[show dE (.error e)=e from rfl]
    refine o_ au (o_ aj (bJ ?_))
    refine o_ aP ?_
    rw[dF_ (show ¬e=0 from hf)]
    refine aa (aD (.pu ⟨0,rfl,by decide,fun l h=>by cases h⟩ ?_))
    exact vK (s:= .error e) (by rfl) (by repeat constructor) hr hc hf .refl
   |ok l=>
    obtain⟨j,hj,rfl,hlj⟩:=hf
    have hle9:l.length<=l0.length:=hle9
    have hln:l.length=b.length-j:=by rw[hlj,List.length_drop]
    obtain⟨M,hM⟩:∃M,M=l0.take (l0.length-l.length):=⟨_,rfl⟩
    have hMn:M.length=j-j0:=by rw[hM,List.length_take];omega
    have h1:=hr.cut (cap:=qc) (l:=j0) (h:=j) (by omega) (by omega) hc
    rw[<- List.map_drop,<- List.map_take,<- hl0,show l0.take (j-j0)=M by rw[hM];congr 1;omega,<- hMn]at h1
    rw[show dE (.ok l)=0 from rfl]
    refine o_ au (o_ aj (bJ ?_))
    refine o_ aP ?_
    rw[dT_ rfl]
    refine ab (bA (t_ au (t_ aj (ew ?_))));refine t_ au (t_ aj (ew ?_))
    refine t_ (tq j0 j rfl rfl (by omega) (by omega)) ?_
    rw[<- hMn]
    refine c_ (P2 (b:=M) h1 (by omega)) fun _=>?_
    refine aD (.pu ⟨pE M,rfl,rY M,fun l2 h2=>by cases h2;rw[hM]⟩ ?_)
    exact vK (s:= .ok l) (by rfl) (by repeat constructor) hr hc ⟨j,hj,rfl,hlj⟩ aw
  intro ds5 z
  refine aG .here fun hz=>?_
  obtain⟨n,rfl,hn,hnc⟩:=hz
  refine c_ (pH (A:=A) (n:=2) (s:=s9) (by decide) hb) fun _=>?_
  rename_i q
  obtain⟨⟨⟨ta,tc⟩,C⟩,h2,h3⟩:=q
  (try dsimp only at h2 h3)
  (try dsimp only)
  obtain⟨g3,o3,rfl,_⟩:=h2.at_ (by decide)
  obtain⟨a,c,hac⟩:=FS (s:=s9)
  rw[hac]at h2
  have ha:=a.toNat_lt
  have hcn:=c.toNat_lt
  refine bA (t_ (bj 0 rfl (by decide)) ?_)
  refine eJ (bP h2 (j:=0) (v:= .int .u8 (a.toNat:Int)) rfl) ?_
  refine t_ (br (q:= .i64)) ?_
  rw[mx (by omega) (by omega)]
  refine t_ (bj 1 rfl (by decide)) ?_
  refine eJ (bP h2 (j:=1) (v:= .int .u8 (c.toNat:Int)) rfl) ?_
  refine t_ (br (q:= .i64)) ?_
  rw[mx (by omega) (by omega)]
  (refine t_ (eh (by omega) (by omega)) ?_);(refine t_ (bU (by omega) (by omega)) ?_)
  refine t_ fT ?_
  rw[JG hn]
  refine t_ (br (q:= .i64)) ?_
  rw[mx (by omega) (by omega)]
  rw[show(a.toNat:Int)+256 * (c.toNat:Int)=((nS a c:Nat):Int) by unfold nS;omega]
  refine t_ bK (h3 (by repeat constructor) ?_)
  refine c_ (Bl (A:=A) (s:=lR 2 s9)) fun _=>?_
  have hfin:Ge (decide (((nS a c:Nat):Int)≠((n%65536:Nat):Int))) (lR 2 s9)=eb l0:=by
   rw[<- hk]
   cases s9 with
   |error e=>rfl
   |ok l=>exact L5 hac fun l2 h2=>by cases h2;exact hnc l rfl
  rw[hfin]
  refine bq () ?_
  exact aw
def P5 (most:Int)(R:Except Int (List UInt8 × Nat))(m n:Nat)(out:List UInt8):Hd->Prop
 | .ok l=>Bk most l out n R/\m=l.length/\n+l.length<=1048576/\(out.length:Int)<=most
 | .error e=>R= .error e/\n≠0
theorem SW {W:World}{a:Option Addr}{cap:Nat}{b:List UInt8}{A:HP}{most:Int}{R:Except Int (List UInt8 × Nat)}(hr:RdB W A a b.length (b.map Sl.B))(hc:b.length<=cap)(hb:b.length<=1048576)(hm0:0<=most)(hm1:most<=1048576)(hU:Bk most b [] 0 R):
  Cn p_ 48 [.slice a b.length cap,.int .i64 most] W [A]
   (fun q:Option Addr × Nat=> .tuple #[.slice q.1 (rO R).length q.2,.int .i64 (rN R),.int .i64 (rE R)])
   (fun q=>[Sl 1 5 q.1 q.2 (rO R).length ((rO R).map Sl.B),A]):=by
 (refine Shp.cn (Sg.g_ Tryz.call48 Tryz.func48 (an:={loops:=[(8,[8,9])],drs:=[(11,.ofL [(0,1),(1,1),(2,1),(3,1),(4,1),(5,1),(6,1)]),(17,.ofL [(0,2),(1,2),(2,3),(3,1),(4,0),(5,1),(6,1),(7,0)]),(21,.ofL [(0,1),(1,1),(2,1),(3,1),(4,1),(5,1),(6,1)])]}) (os:=[(17,[(4,[2])])])) fun F=>?_;simp only[ca_,na_])
 have bad:∀(e:Int) (L:List HP),R= .error e->Imp W L (A::F)->aZ W L (fun w=>∃q:Option Addr × Nat,(.tuple #[.slice none 0 0,.int .i64 0,.int .i64 e]:Value)= .tuple #[.slice q.1 (rO R).length q.2,.int .i64 (rN R),.int .i64 (rE R)]/\sat W ([Sl 1 5 q.1 q.2 (rO R).length ((rO R).map Sl.B),A]++F) w):=by
  intro e L he hi
  subst he
  refine bF hi ?_
  refine aR (none,0) rfl ?_
  exact bR .refl
 refine o_ az ?_
 rw[dF_ (by omega)]
 refine ae (ae (o_ aV ?_))
 rw[dF_ (by omega)]
 refine o_ ag (aa (o_ aC (o_ aV ?_)))
 rw[dF_ (by omega)]
 refine aa (o_ b_ ?_);refine bV fun g=>?_
 rename Nat=>g
 refine FK (A:=A) (s:= .ok b) (by rfl) (by repeat constructor) hr hc ⟨0,Nat.zero_le _,rfl,rfl⟩ ?_
 refine cU (s:=1) (e:=5) ?_
 refine bI (fun m x y=>(ex fun st:((Option Addr × Nat) × Nat) × (Hd × List UInt8)=>all [pu (x= .slice st.1.1.1 st.2.2.length st.1.1.2/\y= .int .i64 (st.1.2:Int)/\P5 most R m st.1.2 st.2.2 st.2.1),vW W A g b st.2.1,Sl 1 5 st.1.1.1 st.1.1.2 st.2.2.length (st.2.2.map Sl.B)])::A::F) b.length ?_ ?_
 ·refine .ex (((none,0),0),(.ok b,[])) (.all ?_)
  refine aq ?_
  refine .pu ⟨rfl,rfl,hU,rfl,by omega,hm0⟩ ?_
  exact aw
 clear hU
 intro m ds x y
 refine aH .here fun st=>ap .here ?_
 obtain⟨⟨⟨oa,oc⟩,n⟩,⟨s,out⟩⟩:=st
 refine aq ?_
 refine aG .here fun hi=>?_
 (try dsimp only at hi)
 obtain⟨rfl,rfl,hinv⟩:=hi
 (try dsimp only)
 have d1:n=0->decide ((n:Int)=0)=true:=fun h=>dT_ (by omega)
 have d2:n≠0->decide ((n:Int)=0)=false:=fun h=>dF_ (by omega)
 cases s with
 |error e=>
  obtain⟨hR,hn0⟩:=hinv
  refine o_ aP ?_
  rw[d2 hn0]
  refine sY (A:=A) (p:=g) (b:=b) (s:= .error e) .here fun qa qc k _ _ hf=>?_
  rw[show dE (.error e)=e from rfl]
  have hf:e≠0:=hf
  refine ae (ae (o_ au (ae (o_ aj (ae (bJ ?_))))));refine ae (o_ aP ?_)
  rw[dF_ (show ¬e=0 from hf)]
  refine ae (af (af (af (af (af (af (af (ae (o_ ag (o_ ag (aa (o_ au (o_ aj (bJ ?_))))))))))))))
  refine o_ bK ?_
  rw[dT_ hf]
  refine ab (bA (t_ au (t_ aj (ew ?_))))
  exact bad e _ hR aw
 |ok l=>
 obtain⟨hU,hml,hn,ho⟩:=hinv
 by_cases hend:n≠0/\l=[]
 ·obtain⟨hn0,rfl⟩:=hend
  have hR:=hU.nil hn0
  subst hR
  refine o_ aP ?_
  rw[d2 hn0]
  refine sY (A:=A) (p:=g) (b:=b) (s:= .ok []) .here fun qa qc k _ _ hf=>?_
  obtain⟨j,hj,rfl,hjl⟩:=hf
  have hjb:j=b.length:=by have:=congrArg List.length hjl;rw[List.length_drop]at this;simp at this;omega
  rw[show dE (.ok [])=0 from rfl]
  refine ae (ae (o_ au (ae (o_ aj (ae (bJ ?_))))));refine ae (o_ aP ?_)
  rw[dT_ rfl]
  refine ae (ae (ae (o_ au (ae (o_ aj (ae (bJ ?_)))))));refine ae (ae (o_ aC (ae (o_ az ?_))))
  rw[dF_ (by omega)]
  refine ae (o_ ah (o_ ag (aa (o_ au (o_ aj (bJ ?_))))))
  refine o_ bK ?_
  rw[dF_ (by decide)]
  refine aa (aR (oa,oc) rfl ?_)
  exact aw
 have hst:=hU.step hend
 refine' Ag ?_ ?_
 rotate_left
 ·intro main
  by_cases h0:n=0
  ·refine o_ aP ?_
   rw[d1 h0]
   exact ao (ao (ao (ao (ao (ao (dg (dg (dg (dg (dg (dg (dg (ao (o_ ah (ab main)))))))))))))))
  ·refine o_ aP ?_
   rw[d2 h0]
   refine sY (A:=A) (p:=g) (b:=b) (s:= .ok l) .here fun qa qc k hr2 hc2 hf=>?_
   obtain⟨j,hj,rfl,hjl⟩:=hf
   have hjb:j<b.length:=by
    have h1:=congrArg List.length hjl
    rw[List.length_drop]at h1
    have:l≠[]:=fun c=>hend ⟨h0,c⟩
    have:=List.length_pos_iff.2 this
    omega
   rw[show dE (.ok l)=0 from rfl]
   refine ae (ae (o_ au (ae (o_ aj (ae (bJ ?_))))));refine ae (o_ aP ?_)
   rw[dT_ rfl]
   refine ae (ae (ae (o_ au (ae (o_ aj (ae (bJ ?_)))))));refine ae (ae (o_ aC (ae (o_ az ?_))))
   rw[dT_ (by omega)]
   refine ae (o_ ah (o_ ag (ab (FK (A:=A) (s:= .ok l) (by rfl) (by repeat constructor) hr2 hc2 ⟨j,hj,rfl,hjl⟩ ?_))))
   exact main
 refine c_ (P4 (A:=A) (p:=g) (b:=b) (l0:=l) hb) fun _=>?_
 cases hx:eb l with
 |error e=>
  have hm:=FG (most:=most) (out:=out) hx
  have hR:R= .error e:=by
   rcases hst with ⟨e2,he,hR⟩|⟨r,o,he,_⟩
   ·rw[hm]at he;cases he;exact hR
   ·rw[hm]at he;cases he
  refine sY (A:=A) (p:=g) (b:=b) (s:= .error e) .here fun qa qc k _ _ hf=>?_
  rw[show dE (.error e)=e from rfl]
  have hf:e≠0:=hf
  refine o_ au (o_ aj (bJ ?_))
  refine o_ bK ?_
  rw[dT_ hf]
  refine ab (bA (t_ au (t_ aj (ew ?_))))
  exact bad e _ hR aw
 |ok x=>
 have hlt:=vI hx
 have hm:=FH (most:=most) (out:=out) hx
 rw[hm]at hst
 unfold FF at hst
 clear hm
 refine sY (A:=A) (p:=g) (b:=b) (s:= .ok x) .here fun qa qc k hr2 hc2 hf=>?_
 obtain⟨j,hj,rfl,hjx⟩:=hf
 have hxn:x.length=b.length-j:=by rw[hjx,List.length_drop]
 rw[show dE (.ok x)=0 from rfl]
 refine o_ au (o_ aj (bJ ?_))
 refine o_ bK ?_
 rw[dF_ (by decide)]
 refine aa (o_ au (o_ aj (bJ ?_)))
 refine o_ (ph j rfl hj) ?_
 have h1:=hr.cut (cap:=cap) (l:=j) (h:=b.length) (by omega) (by omega) hc
 rw[<- List.map_drop,<- List.map_take,<- hjx,List.take_of_length_le (by omega),<- hxn]at h1
 rw[<- hxn]
 refine o_ aC (dX ?_)
 refine c_ (FB h1 (fun c=>by by_cases h0:0<x.length;(obtain⟨_,_,h1,_⟩:=h1.at_ h0;rw[h1]at c;cases c);omega) (by omega)) fun _=>?_
 rename_i q
 obtain⟨ia,ic⟩:=q
 refine aG (by repeat constructor) fun hux=>?_
 have hoL:=JC (b:=x) (most:=most-out.length) (by omega)
 have huN:=FI (b:=x) (most:=most-out.length)
 obtain⟨E,hE⟩:∃E,E=aE x (most-out.length):=⟨_,rfl⟩
 obtain⟨u,hu⟩:∃u,u=(aU x (most-out.length)).toNat:=⟨_,rfl⟩
 obtain⟨t,ht⟩:∃t,t=aO x (most-out.length):=⟨_,rfl⟩
 rw[<- hu]at huN
 rw[<- hE,<- hu,<- ht]at hst
 rw[<- ht]at hoL
 rw[huN]at hux
 rw[huN,<- hE,<- ht]
 (try dsimp only)
 refine o_ (bk (v:= .slice ia t.length ic) rfl) ?_
 refine o_ (bk (v:= .int .i64 (u:Int)) rfl) ?_
 refine o_ (bk (v:= .int .i64 E) rfl) ?_
 refine o_ bK ?_
 by_cases hE0:E≠0
 ·rw[dT_ hE0]
  refine ab ?_
  rw[if_pos hE0]at hst
  rcases hst with ⟨e,he,hR⟩|⟨r,o,he,_⟩
  ·cases he
   exact bad _ _ hR aw
  ·cases he
 rw[if_neg hE0]at hst
 rw[dF_ hE0]
 refine aa (o_ au (o_ aj (bJ ?_)));refine bG ?_;refine o_ au (o_ aj (eE ?_))
 refine FK (A:=A) (s:= .ok (x.drop u)) (by rfl) (by repeat constructor) hr2 hc2 ⟨j+u,by omega,by norm_cast,by rw[hjx,List.drop_drop]⟩ ?_
 refine c_ (pH (A:=A) (n:=8) (s:= .ok (x.drop u)) (by decide) hb) fun _=>?_
 rename_i q
 obtain⟨⟨⟨ta,tc⟩,C⟩,h2,h3⟩:=q
 (try dsimp only at h2 h3)
 (try dsimp only)
 have hV8:=vL 8 (.ok (x.drop u))
 obtain⟨V,hV⟩:∃V,V=xT 8 (.ok (x.drop u)):=⟨_,rfl⟩
 rw[<- hV]at h2 hV8
 have h2:RdB W C ta V.length (V.map Sl.B):=by rw[hV8];exact h2
 rw[show(Value.slice ta 8 tc)= .slice ta V.length tc by rw[hV8]]
 refine bA (bh (iF h2 (fun c=>by obtain⟨_,_,h1,_⟩:=h2.at_ (by omega);rw[h1]at c;cases c)) (.pick (by repeat constructor) .nil) ?_)
 refine aF (by(repeat constructor):Pick _ (Sl 1 5 ia ic t.length (t.map Sl.B)) _) fun _ _ _ hsome=>?_
 have htl:t.length<=1048576:=by omega
 refine c_ (P3 (b:=t) (cq (W:=W) (e:=5) (a:=ia) (cap:=ic) (n:=t.length) (cs:=t.map Sl.B) (by rw[List.length_map]) hsome) (by omega)) fun _=>?_
 rename_i qg
 obtain⟨ga,gc⟩:=qg
 (try dsimp only)
 refine aF (by(repeat constructor):Pick _ (Sl 1 5 ga gc (rZ t).length ((rZ t).map Sl.B)) _) fun _ _ _ hsg=>?_
 refine cf ?_
 refine eJ (iF (cq (W:=W) (e:=5) (a:=ga) (cap:=gc) (n:=(rZ t).length) (cs:=(rZ t).map Sl.B) (by rw[List.length_map]) hsg) (fun c=>by obtain⟨_,h1⟩:=hsg (by rw[LY];decide);rw[h1]at c;cases c)) ?_
 refine t_ ij (h3 (by repeat constructor) ?_)
 refine c_ (Bl (A:=A) (s:=lR 8 (.ok (x.drop u)))) fun _=>?_
 refine bO (m:=t.length) (news:=t.map Sl.B) (by(repeat constructor):Pick _ (Sl 1 5 oa oc out.length (out.map Sl.B)) _) (yx (e':=5) (by kernel_rfl) (by(repeat constructor):Pick _ (Sl 1 5 ia ic t.length (t.map Sl.B)) _) dY) (by omega) (by omega) fun a' c'=>?_
 refine bG ?_
 obtain⟨s2,hs2⟩:∃s2,s2=Ge (decide (V≠rZ t)) (lR 8 (.ok (x.drop u))):=⟨_,rfl⟩
 rw[<- hs2]
 have hI:∃m',m'<m/\P5 most R m' (n+1) (out++t) s2:=by
  by_cases h8:x.length<u+8
  ·rw[if_pos h8]at hst
   rw[show lR 8 (.ok (x.drop u))= .error 20 from L3 (by rw[List.length_drop];omega)]at hs2
   subst hs2
   rcases hst with ⟨e,he,hR⟩|⟨r,o,he,_⟩
   ·cases he;exact⟨0,by omega,hR,by omega⟩
   ·cases he
  ·rw[if_neg h8]at hst
   rw[show lR 8 (.ok (x.drop u))= .ok ((x.drop u).drop 8)from oV (by rw[List.length_drop];omega)]at hs2
   rw[show xT 8 (.ok (x.drop u))=(x.drop u).take 8 from FP (by rw[List.length_drop];omega)]at hV
   rw[<- hV]at hst
   by_cases hVg:V≠rZ t
   ·rw[if_pos hVg]at hst
    rw[dT_ hVg]at hs2
    subst hs2
    rcases hst with ⟨e,he,hR⟩|⟨r,o,he,_⟩
    ·cases he;exact⟨0,by omega,hR,by omega⟩
    ·cases he
   ·rw[if_neg hVg]at hst
    rw[dF_ hVg]at hs2
    subst hs2
    rcases hst with ⟨e,he,hR⟩|⟨r,o,he,hT⟩
    ·cases he
    ·cases he
     refine⟨((x.drop u).drop 8).length,?_,hT,rfl,?_,?_⟩
     ·rw[List.length_drop,List.length_drop];omega
     ·rw[List.length_drop,List.length_drop];omega
     ·rw[List.length_append];omega
 obtain⟨m',hm',hI⟩:=hI
 refine bo m' hm' (.ex (((a',c'),n+1),(s2,out++t)) (.all ?_))
 refine aq ?_
 refine .pu ⟨by rw[List.length_append],by rfl,hI⟩ ?_
 rw[List.length_append,List.map_append]
 exact aw
theorem ID {W:World}{a:Option Addr}{cap:Nat}{b:List UInt8}{A:HP}{most:Int}{R:Except Int (List UInt8 × Nat)}(hr:RdB W A a b.length (b.map Sl.B))(hc:b.length<=cap)(hb:b.length<=1048576)(hm0:0<=most)(hm1:most<=1048576)(hU:Bk most b [] 0 R):
  Cn p_ 25 [.slice a b.length cap,.int .i64 most] W [A] (fun q:Option Addr × Nat=> .tuple #[.slice q.1 (rO R).length q.2,.int .i64 (rE R)]) (fun q=>[Sl 1 5 q.1 q.2 (rO R).length ((rO R).map Sl.B),A]):=by
 (refine Shp.cn (Sg.g_ Tryz.call25 Tryz.func25) fun F=>?_;simp only[ca_,na_])
 refine c_ (SW hr hc hb hm0 hm1 hU) fun _=>?_
 rename_i q
 obtain⟨qa,qc⟩:=q
 (try dsimp only)
 refine o_ (bk (v:= .slice qa (rO R).length qc) rfl) ?_
 refine o_ (bk (v:= .int .i64 (rN R)) rfl) ?_
 refine o_ (bk (v:= .int .i64 (rE R)) rfl) ?_
 refine bq ((qa,qc)) ?_
 exact aw
theorem zy {W:World}{a:Option Addr}{cap:Nat}{b:List UInt8}{A:HP}{most:Int}{R:Except Int (List UInt8 × Nat)}(hr:RdB W A a b.length (b.map Sl.B))(hc:b.length<=cap)(hb:b.length<=1048576)(hm0:0<=most)(hm1:most<=1048576)(hU:Bk most b [] 0 R):
  Cn p_ 46 [.slice a b.length cap,.int .i64 most] W [A]
   (fun q:Option Addr × Nat=> .tuple #[.slice q.1 (rO R).length q.2,.int .i64 (rN R),.int .i64 (rE R)])
   (fun q=>[Sl 1 5 q.1 q.2 (rO R).length ((rO R).map Sl.B),A]):=by
 (refine S.sL.cn fun F=>?_;unfold S.pm;simp only[ca_,na_])
 refine dx fun g4=>?_
 refine dx fun g5=>?_
 refine dx fun g6=>?_
 have bad:∀(e:Int) (L:List HP) (v:Value) (n:Int),R= .error e->Imp W L ([pt g4 (.cells #[v] 23),pt g5 (.cells #[.int .i64 n] 3),pt g6 (.cells #[.int .i64 0] 27),A]++F)->aZ W L (fy p_ {target:= .fn (.func 65) ([.pointer (some ⟨g4,0,none⟩),.pointer (some ⟨g5,0,none⟩),.pointer (some ⟨g6,0,none⟩)]:List Value).toArray,args:=([]:List Value).toArray} (S.aA (.pointer (some ⟨g4,0,none⟩)) (.pointer (some ⟨g5,0,none⟩)) (.pointer (some ⟨g6,0,none⟩)) (fun v w=>∃q:Option Addr × Nat,v= .tuple #[.slice q.1 (rO R).length q.2,.int .i64 (rN R),.int .i64 (rE R)]/\sat W ([Sl 1 5 q.1 q.2 (rO R).length ((rO R).map Sl.B),A]++F) w)) gH (pn e)):=by
  intro e L v n he hi
  subst he
  refine bF hi ?_
  refine aq ?_
  refine LC ?_
  refine cU (s:=1) (e:=5) ?_
  refine aR (none,0) rfl ?_
  exact aw
 refine pV ?_
 refine o_ az ?_
 rw[dF_ (by omega)]
 refine aa (o_ aV ?_)
 rw[dF_ (by omega)]
 refine fB fun ds=>?_
 refine aa (o_ aC (o_ aV ?_))
 rw[dF_ (by omega)]
 refine aa (o_ gI (CY ?_))
 simp only[List.nil_append,Array.append_empty,List.append_toArray]
 refine o_ b_ ?_
 refine bV fun g=>?_
 refine zn (A:=A) (l:=b) .here hr hc ?_
 refine cU (s:=1) (e:=5) ?_
 refine mG (fun m=>[ex fun st:((Option Addr × Nat) × Nat) × (List UInt8 × List UInt8)=>all [pu (Bk most st.2.1 st.2.2 st.1.2 R/\m=st.2.1.length/\st.1.2+st.2.1.length<=1048576/\(st.2.2.length:Int)<=most),yg W A g st.2.1,Sl 1 5 st.1.1.1 st.1.1.2 st.2.2.length (st.2.2.map Sl.B),pt g4 (.cells #[.slice st.1.1.1 st.2.2.length st.1.1.2] 23),pt g5 (.cells #[.int .i64 (st.1.2:Int)] 3),pt g6 (.cells #[.int .i64 0] 27),A]]++F) b.length ?_ ?_
 ·refine .ex (((none,0),0),(b,[])) (.all ?_)
  refine aq ?_
  refine .pu ⟨hU,rfl,by(try dsimp only);omega,hm0⟩ ?_
  exact aw
 clear hU hr hc hb
 intro m ds
 refine aq ?_
 refine aH .here fun st=>ap .here ?_
 obtain⟨⟨⟨oa,oc⟩,n⟩,⟨l,out⟩⟩:=st
 refine aq ?_
 refine aG .here fun hi=>?_
 (try dsimp only at hi)
 obtain⟨hU,hml,hn,ho⟩:=hi
 (try dsimp only)
 have d1:n=0->decide ((n:Int)=0)=true:=fun h=>dT_ (by omega)
 have d2:n≠0->decide ((n:Int)=0)=false:=fun h=>dF_ (by omega)
 refine Fj (A:=A) (p:=g) (l:=l) (by repeat constructor) fun qa qc hr hc=>?_
 by_cases hend:n≠0/\l=[]
 ·obtain⟨hn0,rfl⟩:=hend
  have hR:=hU.nil hn0
  subst hR
  refine bJ ?_
  refine o_ aP ?_
  rw[d2 hn0]
  refine ae (ae (o_ au (ae (o_ aj (ae (bJ ?_))))));refine ae (o_ aC (ae (o_ aV ?_)))
  rw[dF_ (by decide)]
  refine o_ ag (aa (bA (ew ?_)));(((refine' bh (bC ?hc) ?hi ?_);(case hi=>exact .pick (by repeat constructor) .nil);(case hc=>repeat constructor)));refine eE ?_;refine cf ?_;refine eE ?_;refine eE ?_
  refine zO (f:=65) (A:=[.pointer (some ⟨g4,0,none⟩),.pointer (some ⟨g5,0,none⟩),.pointer (some ⟨g6,0,none⟩)]) (shape:=fun rv=>S.ec (.pointer (some ⟨g4,0,none⟩)) (.pointer (some ⟨g5,0,none⟩)) (.pointer (some ⟨g6,0,none⟩)) rv) (fun c=>by cases c) ⟨_,_,rfl⟩ (iY (cs:=[.pointer (some ⟨g4,0,none⟩),.pointer (some ⟨g5,0,none⟩),.pointer (some ⟨g6,0,none⟩)]) (bs:=[]) Tryz.call65) (fun h=>S.jR h) ?_
  unfold S.ec
  rw[zP,C0]
  refine o_ (p7 (by kernel_rfl)) ?_
  refine aa ?_
  unfold S.aA
  (((refine' aT (cB ?hc) ?hi ?_);(case hi=>exact aw);(case hc=>repeat constructor)));(((refine' aT (cB ?hc) ?hi ?_);(case hi=>exact aw);(case hc=>repeat constructor)));(((refine' aT (cB ?hc) ?hi ?_);(case hi=>exact aw);(case hc=>repeat constructor)))
  refine aR (oa,oc) rfl ?_
  exact aw
 have d3:n≠0->decide ((0:Int)<(l.length:Int))=true:=fun h=>dT_ (by
  have:l≠[]:=fun c=>hend ⟨h,c⟩
  have:=List.length_pos_iff.2 this
  omega)
 have hst:=hU.step hend
 refine' Ag ?_ ?_
 rotate_left
 ·intro main
  by_cases h0:n=0
  ·refine bJ ?_
   refine o_ aP ?_
   rw[d1 h0]
   exact ao (ao (ao (ao (ao (ao (o_ ah (ab main)))))))
  ·refine bJ ?_
   refine o_ aP ?_
   rw[d2 h0]
   refine ae (ae (o_ au (ae (o_ aj (ae (bJ ?_))))));refine ae (o_ aC (ae (o_ aV ?_)))
   rw[d3 h0]
   exact o_ ag (ab main)
 refine zn (A:=A) (l:=l) (by repeat constructor) hr hc ?_
 (refine' bf (L8 (A:=A) (p:=g) (b:=l) (by omega)) ?hp (fun _=>?_) (fun _=>?_);(case hp=>(repeat(first|exact Picks.nil|(apply Picks.cons;(focus repeat constructor)))));(all_goals (try simp only[ca_,na_,Bool.not_true,Bool.not_false,-eq_self])))
 rotate_left
 ·rename_i y
  have hm:=FG (most:=most) (out:=out) y.2
  rcases hst with ⟨e,he,hR⟩|⟨r,o,he,_⟩
  ·rw[hm]at he
   cases he
   exact bad _ _ _ _ hR aw
  ·rw[hm]at he;cases he
 rename_i q
 obtain⟨x,hx⟩:=q
 (try dsimp only)
 have hlt:=vI hx
 have hm:=FH (most:=most) (out:=out) hx
 rw[hm]at hst
 unfold FF at hst
 clear hm hr hc
 refine Fj (A:=A) (p:=g) .here fun qa qc hr hc=>?_
 refine bA (t_ au (t_ aj (ew ?_)));refine ew ?_;refine t_ aC ?_;(refine t_ (dv (by omega) (by omega)) ?_)
 refine c_ (Hn hr (fun c=>by by_cases h0:0<x.length;(obtain⟨_,_,h1,_⟩:=hr.at_ h0;rw[h1]at c;cases c);omega) (by omega)) fun _=>?_
 rename_i q
 obtain⟨ia,ic⟩:=q
 have hoL:=JC (b:=x) (most:=most-out.length) (by omega)
 have huN:=FI (b:=x) (most:=most-out.length)
 obtain⟨E,hE⟩:∃E,E=aE x (most-out.length):=⟨_,rfl⟩
 obtain⟨u,hu⟩:∃u,u=(aU x (most-out.length)).toNat:=⟨_,rfl⟩
 obtain⟨t,ht⟩:∃t,t=aO x (most-out.length):=⟨_,rfl⟩
 rw[<- hu]at huN
 rw[<- hE,<- hu,<- ht]at hst
 rw[<- ht]at hoL
 rw[huN,<- hE,<- ht]
 (try dsimp only)
 refine t_ (bk (v:= .slice ia t.length ic) rfl) ?_
 refine t_ (bk (v:= .int .i64 (u:Int)) rfl) ?_
 refine t_ (bk (v:= .int .i64 E) rfl) ?_
 refine pU ?_
 refine o_ bK ?_
 by_cases hE0:E≠0
 ·rw[dT_ (by omega)]
  refine ab (o_ lE (jD ?_))
  rw[if_pos hE0]at hst
  rcases hst with ⟨e,he,hR⟩|⟨r,o,he,_⟩
  ·cases he
   refine zn (A:=A) (l:=x) (by repeat constructor) hr hc ?_
   exact bad _ _ _ _ hR aw
  ·cases he
 rw[if_neg hE0]at hst
 rw[dF_ (by omega)]
 refine aa (fB fun ds2=>?_)
 refine zn (A:=A) (l:=x) (by repeat constructor) hr hc ?_
 (refine' bf (sm (A:=A) (n:=u) (l:=x)) ?hp (fun _=>?_) (fun _=>?_);(case hp=>(repeat(first|exact Picks.nil|(apply Picks.cons;(focus repeat constructor)))));(all_goals (try simp only[ca_,na_,Bool.not_true,Bool.not_false,-eq_self])))
 rotate_left
 ·rename_i y
  have hy:=y.2
  rw[if_pos (by omega)]at hst
  rcases hst with ⟨e,he,hR⟩|⟨r,o,he,_⟩
  ·cases he
   exact bad _ _ _ _ hR aw
  ·cases he
 rename_i qu
 have hux:=qu.2.1
 (refine' bf (sm (A:=A) (n:=8) (l:=x.drop u)) ?hp (fun _=>?_) (fun _=>?_);(case hp=>(repeat(first|exact Picks.nil|(apply Picks.cons;(focus repeat constructor)))));(all_goals (try simp only[ca_,na_,Bool.not_true,Bool.not_false,-eq_self])))
 rotate_left
 ·rename_i y
  have hy:=y.2
  rw[List.length_drop]at hy
  rw[if_pos (by omega)]at hst
  rcases hst with ⟨e,he,hR⟩|⟨r,o,he,_⟩
  ·cases he
   exact bad _ _ _ _ hR aw
  ·cases he
 rename_i q8
 obtain⟨⟨ta,tc⟩,h8,hr8,hc8⟩:=q8
 (try dsimp only)
 (try dsimp only at h8 hr8 hc8)
 rw[if_neg (by rw[List.length_drop]at h8;omega)]at hst
 have htl:t.length<=1048576:=by omega
 refine aF (by repeat constructor) fun _ _ _ hsome=>?_
 have ht:=cq (W:=W) (e:=5) (a:=ia) (cap:=ic) (n:=t.length) (cs:=t.map Sl.B) (by rw[List.length_map]) hsome
 refine c_ (Lv (b:=t) ht (by omega)) fun _=>?_
 refine cU (s:=1) (e:=5) ?_
 refine c_ (xI (n:=pE t) (a:=none) (c:=0) (b:=[]) (rY t) (by decide)) fun _=>?_
 rename_i qf
 obtain⟨fa,fc⟩:=qf
 (try dsimp only)
 refine o_ aC (o_ (br (q:= .u32)) ?_)
 rw[lu (by omega)]
 refine c_ (xI (n:=t.length) (b:=GZ.du (pE t)) (by omega) (by simp[GZ.du])) fun _=>?_
 rename_i qg
 obtain⟨ga,gc⟩:=qg
 rw[show GZ.du (pE t)++GZ.du t.length=rZ t by unfold rZ;rw[Nat.mod_eq_of_lt (by omega)]]
 refine aF .here fun _ _ _ hsg=>?_
 have h88:((x.drop u).take 8).length=8:=by rw[List.length_take];omega
 rw[show(Value.slice ta 8 tc)=Value.slice ta ((x.drop u).take 8).length tc by rw[h88]]
 have hr8':RdB W A ta ((x.drop u).take 8).length (((x.drop u).take 8).map Sl.B):=by rw[h88];exact hr8
 refine c_ (Im (x:=(x.drop u).take 8) (y:=rZ t) (A:=A) hr8' (fun c=>by obtain⟨_,_,h1,_⟩:=hr8.at_ (by decide);rw[h1]at c;cases c) (cq (e:=5) (a:=ga) (cap:=gc) (by rw[List.length_map]) hsg) (fun c=>by obtain⟨_,h1⟩:=hsg (by simp[rZ,GZ.du]);rw[h1]at c;cases c)) fun _=>?_
 (refine' bf (ql) ?hp (fun _=>?_) (fun _=>?_);(case hp=>(repeat(first|exact Picks.nil|(apply Picks.cons;(focus repeat constructor)))));(all_goals (try simp only[ca_,na_,Bool.not_true,Bool.not_false,-eq_self])))
 rotate_left
 ·rename_i y
  have hy:=of_decide_eq_false y.2
  rw[if_pos hy]at hst
  rcases hst with ⟨e,he,hR⟩|⟨r,o,he,_⟩
  ·cases he
   exact bad _ _ _ _ hR aw
  ·cases he
 rename_i y
 have hy:=of_decide_eq_true y.2
 rw[if_neg (fun h=>h hy)]at hst
 obtain hT:Bk most ((x.drop u).drop 8) (out++t) (n+1) R:=by
  rcases hst with ⟨e,he,_⟩|⟨r,o,he,hT⟩
  ·cases he
  ·cases he;exact hT
 refine bJ ?_
 refine bO (m:=t.length) (news:=t.map Sl.B) (by(repeat constructor):Pick _ (Sl 1 5 oa oc out.length (out.map Sl.B)) _) (yx (e':=5) (by kernel_rfl) (by(repeat constructor):Pick _ (Sl 1 5 ia ic t.length (t.map Sl.B)) _) dY) (by omega) (by omega) fun a' c'=>?_
 refine eE ?_;refine bJ ?_;refine bG ?_;refine eE ?_
 refine iX ((x.drop u).drop 8).length (by rw[hml,List.length_drop,List.length_drop];omega) (.ex (((a',c'),n+1),((x.drop u).drop 8,out++t)) (.all ?_))
 refine aq ?_
 refine .pu ⟨hT,rfl,by(try dsimp only);rw[List.length_drop,List.length_drop];omega,by rw[List.length_append];omega⟩ ?_
 rw[List.length_append,List.map_append]
 exact aw
theorem Bo {W:World}{a:Option Addr}{cap:Nat}{b:List UInt8}{A:HP}{most:Int}{R:Except Int (List UInt8 × Nat)}(hr:RdB W A a b.length (b.map Sl.B))(hc:b.length<=cap)(hb:b.length<=1048576)(hm0:0<=most)(hm1:most<=1048576)(hU:Bk most b [] 0 R):
  Cn p_ 23 [.slice a b.length cap,.int .i64 most] W [A] (fun q:Option Addr × Nat=> .tuple #[.slice q.1 (rO R).length q.2,.int .i64 (rE R)]) (fun q=>[Sl 1 5 q.1 q.2 (rO R).length ((rO R).map Sl.B),A]):=by
 (refine Shp.cn (Sg.g_ Tryz.call23 Tryz.func23) fun F=>?_;simp only[ca_,na_])
 refine c_ (zy hr hc hb hm0 hm1 hU) fun _=>?_
 rename_i q
 obtain⟨qa,qc⟩:=q
 (try dsimp only)
 refine o_ (bk (v:= .slice qa (rO R).length qc) rfl) ?_
 refine o_ (bk (v:= .int .i64 (rN R)) rfl) ?_
 refine o_ (bk (v:= .int .i64 (rE R)) rfl) ?_
 refine bq ((qa,qc)) ?_
 exact aw
end GZ
namespace FD
open Go Go.Proofs Go.RowKit Sh Sl T IF GZ
theorem CH {W:World} {st most:Int} {Y:List Fd} {D:List UInt8} {ax ad:Option Addr} {cx cd:Nat} {AX AD:HP} {U:Except Int (List UInt8 × Nat)} (hA:k9 W AX ax Y) (hY:zF Y<=2097152) (hB:RdB W AD ad D.length (D.map Sl.B)) (hb:ad=none->D.length=0) (hD:D.length<=1099511627776)
  (hU:0<=most->most<=1048576->D.length<=1048576->Cn p_ 25 [.slice ad D.length cd,.int .i64 most] W [AD] (fun q:Option Addr × Nat=> .tuple #[.slice q.1 (rO U).length q.2,.int .i64 (rE U)]) (fun q=>[Sl 1 5 q.1 q.2 (rO U).length ((rO U).map Sl.B),AD])):
  Cn p_ 9 [.agg #[.int .i64 st,.slice ax Y.length cx,.slice ad D.length cd],.int .i64 most] W [AX,AD]
   (fun q:Option Addr × Nat=> .tuple #[.slice q.1 (sU (bz Y jA) D most U).1.length q.2,.int .i64 (sU (bz Y jA) D most U).2])
   (fun q=>[Sl 1 5 q.1 q.2 (sU (bz Y jA) D most U).1.length ((sU (bz Y jA) D most U).1.map Sl.B),AX,AD]):=by
 have hok:=BM (l:=Y) (by omega)
 have hvz:=m7 Y jA
 have hvl:=jo Y jA
 have hzl:=m6 Y
 have vce:bz Y Tk=bz Y jA:=HR (by decide)
 obtain⟨I,hI⟩:∃I,I=sU (bz Y jA) D most U:=⟨_,rfl⟩
 rw[<- hI]
 (refine Shp.cn (Sg.g_ Tryz.call9 Tryz.func9) fun F=>?_;simp only[ca_,na_])
 refine bV fun b=>?_
 refine o_ az ?_
 by_cases c1:most<0
 ·obtain rfl:I=([],1):=by rw[hI];unfold sU;rw[if_pos (.inl c1)]
  rw[dT_ c1]
  refine ao (ao (o_ ah (ab (cU (s:=1) (e:=5) ?_))))
  refine aR (none,0) rfl ?_
  exact aw
 rw[dF_ c1]
 refine ae (ae (o_ aV ?_))
 by_cases c2:1048576<most
 ·obtain rfl:I=([],1):=by rw[hI];unfold sU;rw[if_pos (.inr c2)]
  rw[dT_ c2]
  refine o_ ag (ab (cU (s:=1) (e:=5) ?_))
  refine aR (none,0) rfl ?_
  exact aw
 rw[dF_ c2]
 refine o_ ag (aa (o_ aj (bJ ?_)))
 refine aB (GQ (n:=Tk) hA hok (by decide)) (.cons (by repeat constructor) .nil) fun r=>?_
 obtain⟨va,vc⟩:=r
 rw[vce]
 refine aq ?_
 (try dsimp only)
 obtain⟨V,hV⟩:∃V,V=bz Y jA:=⟨_,rfl⟩
 rw[<- hV]at hvz hvl hI ⊢
 refine o_ aj (bJ ?_);refine o_ aC (o_ aV ?_)
 by_cases c3:1048576<(D.length:Int)
 ·obtain rfl:I=([],6):=by rw[hI];unfold sU;rw[if_neg (by omega),if_pos c3]
  rw[dT_ c3]
  refine ab (cU (s:=1) (e:=5) ?_)
  refine aR (none,0) rfl ?_
  exact aw
 have hIV:I=In V D most U:=by rw[hI];unfold sU;rw[if_neg (by omega),if_neg c3]
 clear hI
 rw[dF_ c3]
 refine aa (o_ aC (o_ aP ?_))
 match hVV:V with
 |[]=>
  unfold In at hIV
  rw[dF_ (by simp)]
  refine af (af (af (af (o_ ag (aa (o_ aC (o_ aV ?_)))))))
  rw[dF_ (by simp)]
  refine aa (o_ aj (bJ ?_));refine o_ aC (o_ aV ?_)
  by_cases c4:most<(D.length:Int)
  ·rw[if_pos c4]at hIV
   subst hIV
   rw[dT_ c4]
   refine ab (cU (s:=1) (e:=5) ?_)
   refine aR (none,0) rfl ?_
   exact aw
  ·rw[if_neg c4]at hIV
   subst hIV
   rw[dF_ c4]
   refine aa (nW fun gn=>?_)
   refine o_ aj (bJ ?_)
   refine bO (m:=D.length) (news:=D.map Sl.B) (by(repeat constructor):Pick _ (Sl 1 5 (some ⟨gn,0,none⟩) 0 0 []) _) (dF (e':=5) (by kernel_rfl) (by(repeat constructor):Pick _ AD _) hB hb dY) (by omega) (by omega) fun a2 c2=>?_
   rw[Nat.zero_add,List.nil_append]
   refine aR (a2,c2) rfl ?_
   exact aw
 |[v]=>
  unfold In at hIV
  have hvv:=uM (show v∈bz Y jA by rw[<- hV];exact List.mem_singleton.2 rfl)
  rw[<- hV]at hvv
  rw[dT_ (by simp)]
  refine aF (by(repeat constructor):Pick _ (Sl 1 9 va vc [v].length ([v].map bm)) _) fun _ _ _ hs=>?_
  have hN:RdB W (Sl 1 9 va vc [v].length ([v].map bm)) va [v].length ([v].map bm):=cq (by rw[List.length_map]) hs
  obtain⟨ng,rfl⟩:=hs (by simp)
  refine ae (ae (o_ (bj 0 rfl (by simp)) ?_))
  refine ae ?_;(((refine' am (cI ?hc) ?hi ?_);(case hi=>exact aw);(case hc=>rfl)));refine ae ?_
  (try refine bt (qU hN (j:=0) (by simp)) ?_)
  refine aB (DA (a:=v) (b:=ie) (by omega) (by decide)) .nil fun _=>?_
  refine aq ?_
  cases he:dy v ie with
  |true=>
   simp only[he,if_true]at hIV
   subst hIV
   refine o_ ah (ab (o_ aj (bJ ?_)))
   refine aB (hU (by omega) (by omega) (by omega)) (.cons (by repeat constructor) .nil) fun r=>?_
   obtain⟨ua,uc⟩:=r
   refine aq ?_
   (try dsimp only)
   refine o_ (bk (v:= .slice ua (rO U).length uc) rfl) ?_
   refine o_ (bk (v:= .int .i64 (rE U)) rfl) ?_
   refine aR (ua,uc) rfl ?_
   exact aw
  |false=>
   simp only[he,Bool.false_eq_true,if_false]at hIV
   subst hIV
   refine o_ ah (aa (o_ aC (o_ aV ?_)))
   rw[dT_ (by simp)]
   refine ab (cU (s:=1) (e:=5) ?_)
   refine aR (none,0) rfl ?_
   exact aw
 |v::u::r=>
  unfold In at hIV
  subst hIV
  rw[dF_ (by simp only[List.length_cons];omega)]
  refine af (af (af (af (o_ ag (aa (o_ aC (o_ aV ?_)))))))
  rw[dT_ (by simp only[List.length_cons];omega)]
  refine ab (cU (s:=1) (e:=5) ?_)
  refine aR (none,0) rfl ?_
  exact aw
set_option maxRecDepth 100000 in
theorem P6:Nb 100 (gS kA 6 0)= .ok (kA,1):=by
 have:(match Nb 100 (gS kA 6 0)with| .ok x=>decide (x=(kA,1))| .error _=>false)=true:=by decide+kernel
 split at this
 ·rename_i x h;rw[h,of_decide_eq_true this]
 ·cases this
theorem SX:Bk 100 (gS kA 6 0) [] 0 (.ok (kA,1)):=by rw[<- P6];exact vJ
theorem FT {W : World} [hG : Gl W] [hP : Gp W] : Cn p_ 12 [] W [] (fun _ : Unit => .bool true) (fun _ => []) := by
 obtain ⟨hkA, hkC⟩ := LF
 have hkz := SK
 obtain ⟨hpk, hp40⟩ := Jx
 have hgl : (gS kA 6 0).length <= 1048576 := by omega
 have hur := SX
 obtain ⟨hc1, hc2, hc3⟩ := Jy
 (refine Shp.cn (Sg.g_ Tryz.call12 Tryz.func12 (an := { drs := [(2, (.op 1 3 (.alt ((.op 0 0 (.alt (.ofL [(2, 0), (3, 0), (4, 0)]) (.ofL [(3, 0), (2, 0), (4, 0)])))) (.ofL [(3, 0), (0, 0), (2, 0), (4, 0)]))))], rcuts := [(3, [2])] }) (os := [(2, [(0, [1]), (3, [1])])])) fun F => ?_; simp only [ca_, na_])
 refine o_ b_ ?_
 refine eL (n := 1) (vs := [wC (pF, yh)]) rfl (by decide) rfl (by intro v hv; rw [List.mem_singleton.1 hv]; rfl) (by decide) fun g6 => ?_
 refine f_ (vs := kA.map Sl.B) rfl rfl (by intro v hv; obtain ⟨c, _, rfl⟩ := List.mem_map.1 hv; rfl) (by decide) fun g7 => ?_
 refine Fl (e := 5) (by kernel_rfl) (by kernel_rfl) .here ?_
 refine o_ b_ ?_; refine bp fun g => ?_; refine fO ?_
 rename Nat => b1
 have hX : ∀ {W : World}, k9 W (pt g6 (.cells ([wC (pF, yh)].flatMap fun v => v.cells.toList).toArray 52)) (some ⟨g6, 0, none⟩) [(pF, yh)] := fun {W} => vE (W := W) (g := g6) (l := [(pF, yh)]) (T := 52) (fz := (0, 0))
 have hD : ∀ {W : World} {fz : Nat × Nat}, RdB W (pt g7 (.cells (kA.map Sl.B).toArray 5 fz)) (some ⟨g7, 0, none⟩) kA.length (kA.map Sl.B) := tm (by rw [List.length_map])
 obtain ⟨R, hR⟩ : ∃ R, R = jv [(iP, ie)] 6 200 [(pF, yh)] kA := ⟨_, rfl⟩
 have hz : zF [(pF, yh)] <= 1100000 := by decide
 have hl : ∀ {W : World} {ga : Nat}, k9 W (pt ga (.cells ([(iP, ie)].flatMap dO).toArray 52)) (some ⟨ga, 0, none⟩) [(iP, ie)] := fun {W ga} => vE
 obtain ⟨PX, hPX⟩ : ∃ PX, PX = pt g6 (.cells ([wC (pF, yh)].flatMap fun v => v.cells.toList).toArray 52) := ⟨_, rfl⟩
 obtain ⟨PD, hPD⟩ : ∃ PD, PD = pt g7 (.cells (kA.map Sl.B).toArray 5 ((kA.map Sl.B).toArray.size, (kA.map Sl.B).toArray.size + 1)) := ⟨_, rfl⟩
 rw [<- hPX, <- hPD]
 have hX2 : ∀ {W : World}, k9 W PX (some ⟨g6, 0, none⟩) [(pF, yh)] := fun {W} => by rw [hPX]; exact hX
 have hD2 : ∀ {W : World}, RdB W PD (some ⟨g7, 0, none⟩) kA.length (kA.map Sl.B) := fun {W} => by rw [hPD]; exact hD
 clear hX hD hPX hPD
 have hap : ∀ ga : Nat, Cn p_ 14 [.slice (some ⟨ga, 0, none⟩) 1 1, .agg #[.int .i64 200, .slice (some ⟨g6, 0, none⟩) 1 1, .slice (some ⟨g7, 0, none⟩) 40 40], .int .i64 6] W [pt ga (.cells ([(iP, ie)].flatMap dO).toArray 52), PX, PD]
   (fun q : (Option Addr × Nat) × (Option Addr × Nat) => .agg #[.int .i64 200, .slice q.1.1 R.X.length q.1.2, .slice q.2.1 R.D.length q.2.2])
   (fun q => [pt ga (.cells ([(iP, ie)].flatMap dO).toArray 52), PX, PD, Sl 2 52 q.1.1 q.1.2 R.X.length (R.X.flatMap dO), Sl 1 5 q.2.1 q.2.2 R.D.length (R.D.map Sl.B)]) := fun ga => by
  rw [hR]
  exact apply (l := [(iP, ie)]) (X := [(pF, yh)]) (D := kA) hl (by decide) hX2 (fun h => by cases h) hz hD2 (fun h => by cases h) (by decide)
 rw [<- hR] at hkA hkC hkz
 refine dD (fun z => (ex fun q : (Option Addr × Nat) × (Option Addr × Nat) => ex fun o : Nat => all [pu (z = .pointer (some ⟨o, 0, none⟩)), pt o (.cells #[.int .i64 200, .slice q.1.1 R.X.length q.1.2, .slice q.2.1 R.D.length q.2.2] 25), Sl 2 52 q.1.1 q.1.2 R.X.length (R.X.flatMap dO), Sl 1 5 q.2.1 q.2.2 R.D.length (R.D.map Sl.B)])
   :: pt b1 (.cells #[.int .i64 200, .slice (some ⟨g6, 0, none⟩) 1 1, .slice (some ⟨g7, 0, none⟩) 40 40] 25) :: PX :: PD :: F) ?_ ?_
 rotate_left
 ·(refine bA ?_); (((refine' bh (cg ?hn) ?hi ?_); (case hi => exact .pick (by repeat constructor) .nil); (case hn => rfl)))
  refine gY ?_ ?_
  ·refine c_ (vF (s := ie)) fun _ => ?_
   rename_i ga
   refine cf ?_
   refine gY ?_ ?_
   ·refine c_ (hap ga) fun _ => ?_
    rename_i q
    refine bp fun g => ?_; refine cf ?_; refine fO ?_
    rename Nat => o
    refine aD (.ex q (.ex o (.all ?_)))
    refine aq ?_
    refine .pu rfl ?_
    exact aw
   ·refine bp fun o => ?_
    refine cf ?_
    refine c_ (hap ga) fun _ => ?_
    rename_i q
    refine fO ?_
    refine aD (.ex q (.ex o (.all ?_)))
    refine aq ?_
    refine .pu rfl ?_
    exact aw
  ·refine bp fun o => ?_
   refine cf ?_
   refine c_ (vF (s := ie)) fun _ => ?_
   rename_i ga
   refine cf ?_
   refine c_ (hap ga) fun _ => ?_
   rename_i q
   refine fO ?_
   refine aD (.ex q (.ex o (.all ?_)))
   refine aq ?_
   refine .pu rfl ?_
   exact aw
 intro ds z
 refine aH .here fun q => aH .here fun o => ap .here ?_
 obtain ⟨⟨a1, c1⟩, ⟨a2, c2⟩⟩ := q
 refine aq ?_
 refine aG .here fun hz2 => ?_
 subst hz2
 (try dsimp only)
 refine aF (by (repeat constructor) : Pick _ (Sl 2 52 a1 c1 R.X.length (R.X.flatMap dO)) _) fun _ _ _ hs => ?_
 refine aF (by (repeat constructor) : Pick _ (Sl 1 5 a2 c2 R.D.length (R.D.map Sl.B)) _) fun _ k2 k3 k4 => ?_
 have hRD := cq (W := W) (e := 5) (a := a2) (cap := c2) (n := R.D.length) (cs := R.D.map Sl.B) (by rw [List.length_map]) k4
 have hb0 : a2 = none -> R.D.length = 0 := fun c => by
  rcases Nat.eq_zero_or_pos R.D.length with h | h
  ·exact h
  ·obtain ⟨g, hg⟩ := k4 h; rw [hg] at c; cases c
 have hid := xL (W := W) (st := 200) (most := 100) (cx := c1) (cd := c2) (U := .ok (kA, 1)) (nf (c := c1) hs) hkz hRD hb0 (by rw [hkA]; omega) (fun v _ _ h0 h1 h2 => Bo hRD k2 h2 h0 h1 (by rw [hkA]; exact hur))
 rw [hkC, hkA, LH (by decide) (by decide) hgl] at hid
 rw [hkA]
 refine lG ?_
 refine aB hid (.cons (by repeat constructor) (.cons (by repeat constructor) .nil)) fun r => ?_
 obtain ⟨ua, uc⟩ := r
 refine aq ?_
 (try dsimp only)
 refine o_ (bk (v := .slice ua kA.length uc) rfl) ?_
 refine o_ (bk (v := .int .i64 0) rfl) ?_
 refine c_ (vF (s := kQ)) fun _ => ?_
 rename_i gq
 refine aB (choose (l := [(iP, kQ)]) (c := 1) vE (by decide)) (.cons (by repeat constructor) .nil) fun _ => ?_
 rw [hc2]
 refine aq ?_
 refine o_ (cS (m := ze)) ?_
 rw [dT_ rfl]
 refine ae (c_ (vF (s := ie)) fun _ => ?_)
 rename_i gr
 refine ae (aB (choose (l := [(iP, ie)]) (c := 1) vE (by decide)) (.cons (by repeat constructor) .nil) fun _ => ?_)
 rw [hc3]
 refine aq ?_
 refine ae (o_ (cS (m := ie)) ?_)
 rw [dT_ rfl]
 refine o_ ah (ae (o_ aj (ae (bJ ?_)))); refine ae (o_ aC (ae (o_ az ?_)))
 rw [dT_ (by omega)]
 refine o_ ah (ae (ae (c_ Jw fun _ => ?_)))
 refine ae (o_ aP ?_)
 rw [dT_ rfl]
 refine o_ ah (ae (ae (aF (by (repeat constructor) : Pick _ (Sl 1 5 ua uc kA.length (kA.map Sl.B)) _) fun _ _ _ hs5 => ?_)))
 refine bt (iF (cq (W := W) (e := 5) (a := ua) (cap := uc) (n := kA.length) (cs := kA.map Sl.B) (by rw [List.length_map]) hs5) (fun c => by obtain ⟨g, hg⟩ := hs5 (by decide); rw [hg] at c; cases c)) ?_
 refine ae (o_ aj (ae (bJ ?_))); refine ae (bt (iF hD2 (fun c => by cases c)) ?_)
 refine ae (o_ cS ?_)
 rw [dT_ rfl]
 refine o_ ah (bq () ?_)
 exact aw
theorem codingTells {W:World}[hG:Gl W][hP:Gp W]{X:List Fd}{D:List UInt8}{st most:Int}{ax ad:Option Addr}{cx cd:Nat}(hA:∀A,k9 W A ax X)(ha:ax=none->X.length=0)(hX:zF X<=1048576)(hB:∀A,RdB W A ad D.length (D.map Sl.B))(hb:ad=none->D.length=0)(hD:D.length<=1048576)(hcd:D.length<=cd):
  Cn p_ 3 [.agg #[.int .i64 st,.slice ax X.length cx,.slice ad D.length cd],.int .i64 most] W [] (fun _:Unit=> .bool true) (fun _=>[]):=by
 have hzl:=m6 X
 obtain⟨I,hI⟩:∃I,I=sU (bz X jA) D most (Nb most D):=⟨_,rfl⟩
 have hri:Cn p_ 9 [.agg #[.int .i64 st,.slice ax X.length cx,.slice ad D.length cd],.int .i64 most] W []
   (fun q:Option Addr × Nat=> .tuple #[.slice q.1 I.1.length q.2,.int .i64 I.2]) (fun q=>[Sl 1 5 q.1 q.2 I.1.length (I.1.map Sl.B)]):=by
  rw[hI]
  exact zo (CH (W:=W) (st:=st) (cx:=cx) (AX:=pu True) (AD:=pu True) (U:=Nb most D) (hA _) (by omega) (hB _) hb (by omega) (fun h0 h1 h2=>ID (hB _) hcd h2 h0 h1 vJ)) (fun F=> .pu trivial (.pu trivial .refl)) (fun x F=> .pick .here (.drop (.drop .refl)))
 (refine Shp.cn (Sg.g_ Tryz.call3 Tryz.func3) fun F=>?_;simp only[ca_,na_])
 refine bV fun b2=>?_
 refine lG ?_
 refine aB (Iq (st:=st) (c:=cx) (d:=cd) hA ha (by omega) hB hb (by omega)) .nil fun q=>?_
 obtain⟨⟨p1,p2⟩,⟨p3,p4⟩⟩:=q
 refine aq ?_
 (try dsimp only)
 refine aF (by(repeat constructor):Pick _ (Sl 2 52 p1 p2 X.length (X.flatMap dO)) _) fun _ _ _ s1=>?_
 refine aF (by(repeat constructor):Pick _ (Sl 1 5 p3 p4 D.length (D.map Sl.B)) _) fun _ k2 _ s2=>?_
 have hRD:=cq (W:=W) (e:=5) (a:=p3) (cap:=p4) (n:=D.length) (cs:=D.map Sl.B) (by rw[List.length_map]) s2
 have hid:=xL (W:=W) (st:=st) (most:=most) (cx:=p2) (cd:=p4) (U:=Nb most D) (nf (c:=p2) s1) (by omega) hRD (Bg s2) (by omega) (fun v _ _ h0 h1 h2=>Bo hRD k2 h2 h0 h1 vJ)
 rw[<- hI]at hid
 refine bp fun g=>?_;refine fO ?_;refine lG ?_
 refine aB hid (.cons (by repeat constructor) (.cons (by repeat constructor) .nil)) fun r=>?_
 obtain⟨ua,uc⟩:=r
 refine aq ?_
 (try dsimp only)
 refine o_ (bk (v:= .slice ua I.1.length uc) rfl) ?_
 refine o_ (bk (v:= .int .i64 I.2) rfl) ?_
 refine lG ?_
 refine aB hri .nil fun r=>?_
 obtain⟨ra,rc⟩:=r
 refine aq ?_
 (try dsimp only)
 refine o_ (bk (v:= .slice ra I.1.length rc) rfl) ?_
 refine o_ (bk (v:= .int .i64 I.2) rfl) ?_
 refine aF (by(repeat constructor):Pick _ (Sl 1 5 ua uc I.1.length (I.1.map Sl.B)) _) fun _ _ _ s5=>?_
 refine aF (by(repeat constructor):Pick _ (Sl 1 5 ra rc I.1.length (I.1.map Sl.B)) _) fun _ _ _ s6=>?_
 refine bt (iF (cq (W:=W) (e:=5) (a:=ua) (cap:=uc) (n:=I.1.length) (cs:=I.1.map Sl.B) (by rw[List.length_map]) s5) (Bg s5)) ?_
 refine bt (iF (cq (W:=W) (e:=5) (a:=ra) (cap:=rc) (n:=I.1.length) (cs:=I.1.map Sl.B) (by rw[List.length_map]) s6) (Bg s6)) ?_
 refine o_ cS ?_
 rw[dT_ rfl]
 refine ae (ae (c_ Jw fun _=>?_))
 refine ae (ae (o_ aP ?_))
 rw[dT_ rfl]
 refine o_ ah (ae (lG ?_));refine ae (lG ?_);refine ae (aB (PQ (s:=st) (t:=st) (c:=p2) (d:=cx) (xc:=p4) (yc:=cd) s1 hA (by omega) (by omega) s2 hB hb) (.cons (by repeat constructor) (.cons (by repeat constructor) .nil)) fun _=>?_)
 rw[Tt]
 refine aq ?_
 refine o_ ah (ae (c_ FT fun _=>?_))
 refine o_ ah (bq () ?_)
 exact aw
end FD
end Go.Proofs.YtndojgomlkpeaaaGreatDoor
