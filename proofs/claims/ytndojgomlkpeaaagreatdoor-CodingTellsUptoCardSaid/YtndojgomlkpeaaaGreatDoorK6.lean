/- An entry of a map, asked for and then stored: m[k] = f(m[k]). No conditions but those that each names. (17 texts made one; each says below what it is.) -/
import Derived.Test.YtndojgomlkpeaaaGreatDoorK5
set_option linter.unusedVariables false
set_option linter.unusedSimpArgs false
set_option linter.unusedSectionVars false
namespace Go.Proofs.YtndojgomlkpeaaaGreatDoor
set_option maxRecDepth 9999
namespace Sl
open Go Go.RowKit Sh
variable {P:Program} {W:World} {L L':List HP} {Kp:PK} {k:Value->WP}
variable {κ:Type} [DecidableEq κ] {enc:κ->Value} {t kt:TypeId}
def xz (g:Nat)(enc:κ->Value)(m:List (κ × Value))(i c0:Nat):HP:=fun _ h=>∃es c,h g=some (.map es c)/\Ents enc es c m/\(es[i]?).map (·.born)=some c0
theorem Cu {g:Nat}{m:List (κ × Value)}{i c0:Nat}{w:World}(H:sat W (xz g enc m i c0::L) w):∃es c,Ents enc es c m/\(es[i]?).map (·.born)=some c0/\sat W (pt g (.map es c)::L) w:=by
 obtain⟨f,⟨h1,h2,⟨es,c,ha,he,hi⟩,r⟩,b⟩:=H.heap
 exact⟨es,c,he,hi,H.base,f,⟨h1,h2,ha,r⟩,b⟩
theorem r8 {g:Nat}{m:List (κ × Value)}{i c0:Nat}{w:World}{es:Array MapEntry}{c:Nat}(he:Ents enc es c m)(hi:(es[i]?).map (·.born)=some c0)(H:sat W (pt g (.map es c)::L) w):sat W (xz g enc m i c0::L) w:=by
 obtain⟨f,⟨h1,h2,ha,r⟩,b⟩:=H.heap
 exact⟨H.base,f,⟨h1,h2,⟨es,c,ha,he,hi⟩,r⟩,b⟩
theorem E0 {e:TypeId} {z:Value} {g:Nat} {m:List (κ × Value)} {q:κ} [ht:MapT P t kt e] [hz:ZeroT P e z] (K:KeyLaw P kt enc) (p:Pick L (gJ g enc m) L')
  (h:∀i c0,(gK q ((jc q m).getD z) m)[i]? =some (q,(jc q m).getD z)->aZ W (xz g enc (gK q ((jc q m).getD z) m) i c0::L') (k (.tuple #[(jc q m).getD z,.int .i64 (c0:Int)]))):aZ W L (opN P (jB t (.map (some g)) (enc q)) Kp k):=fun w hw=>by
 obtain⟨es,c,he,hp⟩:=mM (hw.pick p)
 have hg:=hp.pt_.1
 have hf:=i6 K q w he.kvs
 refine⟨?_⟩
 cases hq:pL q m 0 with
 |none=>
  have e0:(jc q m).getD z=z:=by simp[jc,hq]
  rw[e0]at h
  have:(jB t (.map (some g)) (enc q)).run P w= .ok (.value (.tuple #[z,.int .i64 (c:Int)])) {w with heap:=w.heap.setIfInBounds g (.map (es.push {key:=enc q,val:=z,born:=c}) (c+1))}:=by
   simp[jB,Instr.mapEntry,run_underlying ht.ut,MapKept.run_getObj_map hg,K.check,hf,hq,hz.run,Result.andThen,MapKept.run_setObj_map _ hg,goInt]
  rw[this]
  have hl:=congrArg List.length he.kvs
  simp only[List.length_map,Array.length_toList]at hl
  rw[n5 q z m 0 hq]at h
  refine h es.size c ?_ _ (r8 he.push ?_ (hp.putObj _))
  ·rw[hl,List.getElem?_append_right (Nat.le_refl _),Nat.sub_self];rfl
  ·simp
 |some r=>
  obtain⟨i,u⟩:=r
  obtain⟨_,h2,h3,h4⟩:=n6 q u m 0 i u hq
  rw[Nat.sub_zero]at h2 h3 h4
  have e0:(jc q m).getD z=u:=by simp[jc,hq]
  rw[e0]at h
  obtain⟨en,hen,e1,e2⟩:=pX he.kvs h4
  have hk:(Instr.keyThatStays en.key (enc q)).run P w= .ok (enc q) w:=by
   rw[e1]
   unfold Instr.keyThatStays
   rw[if_pos (K.same q)];rfl
  have em:(es.modify i fun e=>{e with key:=enc q})=es.modify i fun e=>{e with key:=enc q,val:=u}:=by
   apply Array.ext_getElem?
   intro j
   rw[Array.getElem?_modify,Array.getElem?_modify]
   by_cases c:i=j
   ·subst c
    rw[if_pos rfl,if_pos rfl,hen]
    simp only[Option.map_some,Option.some.injEq]
    simp only at e2;rw[e2]
   ·rw[if_neg c,if_neg c]
  have:(jB t (.map (some g)) (enc q)).run P w= .ok (.value (.tuple #[u,.int .i64 (en.born:Int)])) {w with heap:=w.heap.setIfInBounds g (.map (es.modify i fun e=>{e with key:=enc q,val:=u}) c)}:=by
   rw[<- em]
   simp[jB,Instr.mapEntry,run_underlying ht.ut,MapKept.run_getObj_map hg,K.check,hf,hq,Result.andThen,hk,MapKept.run_setObj_map _ hg,goInt,hen]
  rw[this]
  have hset:gK q u m=m:=by
   rw[h3]
   apply List.ext_getElem?
   intro j
   rw[List.getElem?_set]
   split
   ·rename_i c;subst c
    have:=(List.getElem?_eq_some_iff.1 h4).2
    simp[h2,this]
   ·rfl
  have Eg:=he.put (v:=u) h4
  rw[<- h3]at Eg
  refine h i en.born ?_ _ (r8 Eg ?_ (hp.putObj _))
  ·rw[hset];exact h4
  ·rw[Array.getElem?_modify,if_pos rfl,hen];rfl
theorem H3 {g:Nat}{m:List (κ × Value)}{q:κ}{u v:Value}{i c0:Nat}(hi:m[i]? =some (q,u))(p:Pick L (xz g enc m i c0) L')(h:aZ W (gJ g enc (m.set i (q,v))::L') (k undef)):
  aZ W L (opN P (qs t (.map (some g)) (.int .i64 (c0:Int)) v) Kp k):=fun w hw=>by
 obtain⟨es,c,he,hb,hp⟩:=Cu (hw.pick p)
 have hg:=hp.pt_.1
 obtain⟨en,hen,e1,e2⟩:=pX he.kvs hi
 rw[hen]at hb
 have hb:en.born=c0:=by simpa using hb
 have hf:es.findIdx? (fun e=>(e.born:Int)==(c0:Int))=some i:=by
  rw[Array.findIdx?_eq_some_iff_getElem]
  obtain⟨hlt,hgi⟩:=Array.getElem?_eq_some_iff.1 hen
  refine⟨hlt,by simp[hgi,hb],fun j hj=>?_⟩
  have hnd:=he.nodup
  rw[List.nodup_iff_pairwise_ne,List.pairwise_iff_getElem]at hnd
  have:=hnd j i (by simp;omega) (by simp;omega) hj
  simp only[List.getElem_map,Array.getElem_toList,hgi,hb]at this
  simp only[beq_iff_eq,Bool.not_eq_true]
  simp;omega
 refine⟨?_⟩
 have em:(es.modify i fun e=>{e with val:=v})=es.modify i fun e=>{e with key:=enc q,val:=v}:=by
  apply Array.ext_getElem?
  intro j
  rw[Array.getElem?_modify,Array.getElem?_modify]
  by_cases c:i=j
  ·subst c
   rw[if_pos rfl,if_pos rfl,hen]
   simp only[Option.map_some,Option.some.injEq]
   simp only at e1;rw[e1]
  ·rw[if_neg c,if_neg c]
 have:(qs t (.map (some g)) (.int .i64 (c0:Int)) v).run P w= .ok .skip {w with heap:=w.heap.setIfInBounds g (.map (es.modify i fun e=>{e with key:=enc q,val:=v}) c)}:=by
  rw[<- em]
  simp[qs,Instr.entryStore,MapKept.run_getObj_map hg,asInt,asIntOf,hf,Result.andThen,MapKept.run_setObj_map _ hg]
 rw[this]
 exact h _ (mN (he.put hi) (hp.putObj _))
theorem xA {q:κ}{u v:Value}:∀ {m:List (κ × Value)} {i:Nat},(m.map (·.1)).Nodup->m[i]? =some (q,u)->m.set i (q,v)=gK q v m
 |[],i,_,h=>by simp at h
 |p::m,0,_,h=>by
  simp at h
  subst h
  simp[gK]
 |p::m,i+1,hn,h=>by
  rw[List.map_cons,List.nodup_cons]at hn
  simp only[List.getElem?_cons_succ]at h
  have hne:q≠p.1:=fun c=>hn.1 (by rw[<- c];exact List.mem_map.2 ⟨(q,u),List.mem_of_getElem? h,rfl⟩)
  rw[List.set_cons_succ,gK,if_neg hne,xA hn.2 h]
def Jn (g:Nat)(enc:κ->Value)(f:κ->Option Value)(q:κ)(c0:Nat):HP:=ex fun x:List (κ × Value) × Nat × Value=>all [pu ((x.1.map (·.1)).Nodup/\(∀q',q'≠q->jc q' x.1=f q')/\x.1[x.2.1]? =some (q,x.2.2)),xz g enc x.1 x.2.1 c0]
theorem Cv {e:TypeId} {z:Value} {g:Nat} {f:κ->Option Value} {q:κ} [ht:MapT P t kt e] [hz:ZeroT P e z] (K:KeyLaw P kt enc) (p:Pick L (eG g enc f) L')
  (h:∀c0:Nat,aZ W (Jn g enc f q c0::L') (k (.tuple #[(f q).getD z,.int .i64 (c0:Int)]))):aZ W L (opN P (jB t (.map (some g)) (enc q)) Kp k):=
 G8 p fun m h1 h2=>E0 K .here fun i c0 hi=>by
  rw[h2]at hi ⊢
  refine bF (.ex (gK q ((f q).getD z) m,i,(f q).getD z) (.all ?_)) (h c0)
  refine .pu ⟨(k_ q _ m h1).1,fun q' hq=>?_,hi⟩ .refl
  rw[k5,if_neg hq,h2]
theorem E1 {g:Nat}{f:κ->Option Value}{q:κ}{v:Value}{c0:Nat}(p:Pick L (Jn g enc f q c0) L')(h:aZ W (eG g enc (B6 f q (some v))::L') (k undef)):
  aZ W L (opN P (qs t (.map (some g)) (.int .i64 (c0:Int)) v) Kp k):=by
 refine aH p fun x=>ap .here (aG .here fun hx=>?_)
 obtain⟨m,i,u⟩:=x
 obtain⟨h1,h2,h3⟩:=hx
 refine H3 h3 .here ?_
 rw[xA h1 h3]
 refine bF (rg .here (k_ q v m h1).1 (fun q'=>?_) .refl) h
 rw[k5]
 unfold B6
 by_cases c:q'=q
 ·rw[if_pos c,if_pos c]
 ·rw[if_neg c,if_neg c];exact h2 q' c
end Sl
namespace IF
open Go Go.Proofs Go.RowKit Sh Sl T HM HF B M
abbrev K3:=UInt8 × UInt8 × UInt8
def mq (k:K3):Value:= .agg #[Sl.B k.1,Sl.B k.2.1,Sl.B k.2.2]
theorem H4 {t e:TypeId}{s b:Nat}(ht:SlT p_ t e s b)(w:World):(sizeOf e).run p_ w= .ok s w:=by
 obtain⟨i,z,h1,h2,h3,h4,h5⟩:=ht.info
 rw[di h1,h3]
theorem nL (w:World):(sizeOf 5).run p_ w= .ok 1 w:=H4 (t:=23) inferInstance w
theorem Lp (a b:UInt8):((a.toNat:Int)==(b.toNat:Int))=decide (a=b):=by
 by_cases c:a=b
 ·subst c;simp
 ·have c2:(a.toNat:Int)≠(b.toNat:Int):=fun d=>c (UInt8.toNat_inj.1 (Int.ofNat.inj d))
  simp[c,c2]
theorem Lq (a b:Int)(w:World):(Op.equalIn 9999 5 (.int .u8 a) (.int .u8 b)).run p_ w= .ok (a==b) w:=run_equalIn_int w 9998 5 .u8 .u8 a b (by kernel_rfl)
theorem A3 (a b:UInt8)(w:World):(Op.equalIn 9999 5 (Sl.B a) (Sl.B b)).run p_ w= .ok (decide (a=b)) w:=(Lq a.toNat b.toNat w).trans (congrArg (fun x=>Result.ok x w) (Lp a b))
theorem r9:List.range' 0 3=[0,1,2]:=rfl
theorem Jo:KeyLaw p_ 142 mq where
 check:=fun b k w=>by
  unfold mq Instr.checkKey
  simp only[Sem.run_bind,Tryz.runUnderlying142,Result.andThen_ok]
  have hk:∀(v:UInt8) (w:World),(Instr.checkKey b 9999 5 (Sl.B v)).run p_ w= .ok () w:=fun v w=>MapKept.run_checkKey (n:=9998) (d:= .int .u8) (by kernel_rfl) (by simp[MapKept.IsKey,Sl.B]) b
  simp[part,Tryz.isAgg5,nL,hk,Result.andThen,r9]
 eq:=fun k k' w=>by
  unfold mq Op.equal Op.maxDepth Op.equalIn
  simp only[Sem.run_bind,Tryz.runUnderlying142,Result.andThen_ok]
  obtain⟨a1,a2,a3⟩:=k
  obtain⟨b1,b2,b3⟩:=k'
  by_cases h1:a1=b1
  ·subst h1
   by_cases h2:a2=b2
   ·subst h2
    by_cases h3:a3=b3
    ·subst h3
     simp[part,Tryz.isAgg5,nL,A3,Result.andThen,r9]
    ·simp[part,Tryz.isAgg5,nL,A3,Result.andThen,r9,h3]
   ·simp[part,Tryz.isAgg5,nL,A3,Result.andThen,r9,h2]
  ·simp[part,Tryz.isAgg5,nL,A3,Result.andThen,r9,h1]
 now:=⟨.array 3 5,by kernel_rfl,fun k k'=> .inl rfl⟩
 same:=fun k=>by
  unfold mq Instr.sameBits
  simp[Instr.sameBits,Sl.B]
theorem E2 {P:Program}{W:World}{t e:TypeId}{s len n cap:Nat}{a:Option Addr}[ht:ArrT P t len e s](h:len<=n):bg P W [] (CS t (.slice a n cap)) (.pointer a):=fun w _=>by
 simp[CS,Instr.arrayAt,ht.ut,show ¬n<len by omega]
theorem E3 {P:Program}{W:World}{t e:TypeId}{s b n cap g o:Nat}{q:IntKind}{i:Int}(l:Nat)[ht:SlT P t e s b](hi:i=(l:Int))(h1:l<=n)(h2:l<cap):
  bg P W [] (ly t (.slice (some ⟨g,o,none⟩) n cap) (some (.int q i)) none none) (.slice (some ⟨g,o+l * s,none⟩) (n-l) (cap-l)):=by
 have h:=ph (P:=P) (W:=W) (t:=t) (n:=n) (cap:=cap) (a:=some ⟨g,o,none⟩) (q:=q) l hi h1
 rw[if_neg (by omega),Option.map_some,cp]at h
 exact h
theorem Tj {W:World}{A:HP}{g o n at_:Nat}{b:List UInt8}(hA:RdB W A (some ⟨g,o,none⟩) n (b.map Sl.B))(h:at_+3<=b.length):bg p_ W [A] (aI 142 (.pointer (some ⟨g,o+at_ * 1,none⟩))) (mq (my b at_)):=by
 rw[Nat.mul_one]
 refine jE (vs:=[Sl.B (my b at_).1,Sl.B (my b at_).2.1,Sl.B (my b at_).2.2]) hA rfl fun i hi=>?_
 rw[u5 h,List.getElem?_map]
 match i,hi with
 |0,_=>rw[List.getElem?_eq_getElem (by omega)];rfl
 |1,_=>rw[List.getElem?_eq_getElem (by omega)];rfl
 |2,_=>rw[List.getElem?_eq_getElem (by omega)];rfl
def kn (k:K3):Nat:=k.1.toNat+256 * k.2.1.toNat+65536 * k.2.2.toNat
def un (n:Nat):K3:=(UInt8.ofNat (n%256),UInt8.ofNat (n / 256%256),UInt8.ofNat (n / 65536%256))
@[irreducible] def KN:Nat:=16777216
theorem Jp:KN=16777216:=by unfold KN;rfl
theorem xB (k:K3):kn k<KN:=by
 rw[Jp]
 have h1:=k.1.toNat_lt
 have h2:=k.2.1.toNat_lt
 have h3:=k.2.2.toNat_lt
 unfold kn
 omega
theorem nM (k:K3):un (kn k)=k:=by
 obtain⟨a,b,c⟩:=k
 have h1:=a.toNat_lt
 have h2:=b.toNat_lt
 have h3:=c.toNat_lt
 have e1:(a.toNat+256 * b.toNat+65536 * c.toNat)%256=a.toNat:=by omega
 have e2:(a.toNat+256 * b.toNat+65536 * c.toNat) / 256%256=b.toNat:=by omega
 have e3:(a.toNat+256 * b.toNat+65536 * c.toNat) / 65536%256=c.toNat:=by omega
 unfold un kn
 simp only[e1,e2,e3,UInt8.ofNat_toNat]
theorem Pv {n:Nat}(h:n<KN):kn (un n)=n:=by
 rw[Jp]at h
 unfold un kn
 simp only[UInt8.toNat_ofNat']
 omega
def NI (n:Nat):Value:=I (n:Int)
abbrev Qm:=Nat->Option Addr × Nat
def A4 (Q:Qm)(b:List UInt8)(m:Nat)(k:K3):Option Value:=if rn b m k=[]then none else some (.slice (Q (kn k)).1 (rn b m k).length (Q (kn k)).2)
def vV (Q:Qm)(b:List UInt8)(m:Nat)(n:Nat):HP:=Sl 1 3 (Q n).1 (Q n).2 (rn b m (un n)).length ((rn b m (un n)).map NI)
def xC (p:Nat)(a:Option Addr)(c:Nat)(b:List UInt8)(m w d:Nat):HP:=ex fun q:Nat × Qm=>all [pu (∀n,rn b m (un n)=[]->q.2 n=(none,0)),pt p (.cells #[.slice a b.length c,.map (some q.1),.int .i64 (m:Int),.int .i64 (w:Int),.int .i64 (d:Int)] 253),eG q.1 mq (A4 q.2 b m),BS KN (vV q.2 b m)]
theorem A6 {Q:Qm}{b:List UInt8}{m:Nat}{k:K3}(hQ:∀n,rn b m (un n)=[]->Q n=(none,0)):(A4 Q b m k).getD (.slice none 0 0)= .slice (Q (kn k)).1 (rn b m k).length (Q (kn k)).2:=by
 unfold A4
 by_cases c:rn b m k=[]
 ·have:=hQ (kn k) (by rw[nM];exact c)
  rw[if_pos c,this,c];rfl
 ·rw[if_neg c];rfl
def Cw (Q:Qm)(n:Nat)(v:Option Addr × Nat):Qm:=fun i=>if i=n then v else Q i
theorem H5 {Q:Qm}{b:List UInt8}{m:Nat}{v:Option Addr × Nat}:B6 (A4 Q b m) (my b m) (some (.slice v.1 ((rn b m (my b m)).length+1) v.2))=A4 (Cw Q (kn (my b m)) v) b (m+1):=by
 funext k
 unfold B6 A4 Cw
 rw[kD]
 by_cases c:k=my b m
 ·subst c
  rw[if_pos rfl,if_pos rfl,if_neg (by simp),if_pos rfl,List.length_append];rfl
 ·rw[if_neg c,if_neg (show ¬my b m=k from fun e=>c e.symm)]
  have:kn k≠kn (my b m):=fun e=>c (by rw[<- nM k,e,nM])
  rw[if_neg this]
theorem Pw {W:World}{p:Nat}{a:Option Addr}{c m w d to:Nat}{b:List UInt8}{A:HP}(hA:RdB W A a b.length (b.map Sl.B))(hc:b.length<=c)(hb:b.length<=1048576)(ht:to<=b.length)(hm:m<=min to (b.length-2)):
  Cn p_ 195 [.pointer (some ⟨p,0,none⟩),.int .i64 (to:Int)] W [xC p a c b m w d,A] (fun _:Unit=> .tuple #[]) (fun _=>[xC p a c b (min to (b.length-2)) w d,A]):=by
 (refine Shp.cn (Sg.g_ Tryz.call195 Tryz.func195 (an:={loops:=[(0,[])],drs:=[(0,.ofL [(0,1),(1,1),(2,1),(3,1),(4,1),(5,1),(6,1),(7,1),(8,1),(9,1),(10,1),(11,1),(12,1),(13,1),(14,1),(15,1),(16,1),(17,1),(18,1)]),(2,.ofL [(0,2),(1,3),(2,3),(3,3),(4,2),(5,3),(6,3),(7,3),(8,3),(9,3),(10,3),(11,0),(12,0)]),(3,.ofL [(0,2),(1,3),(2,3),(3,3),(4,3),(5,1),(6,1),(7,1),(8,1),(9,0),(10,0),(11,1),(13,3),(12,0),(14,0)])]}) (os:=[(2,[(11,[10,9,8,7,6,5,3,2,1])]),(3,[(9,[4,3,2,1]),(12,[13])])])) fun F=>?_;simp only[ca_,na_])
 refine mG (fun k=>(ex fun i:Nat=>all [pu (k+i=min to (b.length-2)),xC p a c b i w d])::A::F) (min to (b.length-2)-m) ?_ ?_
 ·refine .ex m (.all ?_)
  refine aq ?_
  refine .pu (by omega) ?_
  exact aw
 intro k ds
 refine aH .here fun i=>ap .here ?_
 refine aq ?_
 refine aG .here fun hk=>?_
 refine aH .here fun q=>ap .here ?_
 obtain⟨gm,Q⟩:=q
 refine aq ?_
 refine aG .here fun hQ=>?_
 (try dsimp only at hQ)
 refine bA (t_ au (t_ aj (ew ?_)))
 by_cases h1:(i:Int)<(to:Int)
 ·refine t_ az ?_
  rw[dT_ h1]
  refine ae (ae (t_ au (ae (t_ aj (ae (ew ?_))))));refine ae ?_;(refine t_ (bU (by omega) (by omega)) ?_);refine ae (ae (t_ au (ae (t_ aj (ae (ew ?_))))));refine ae (t_ aC (ae ?_))
  by_cases h2:(i:Int)+3<=(b.length:Int)
  ·refine t_ cZ ?_
   rw[dT_ h2]
   refine t_ ah (ab (bA (bh au .nil ?_)));refine bh aj .nil ?_;(((refine' bh (bC ?hc) ?hi ?_);(case hi=>exact .pick (by repeat constructor) .nil);(case hc=>repeat constructor)));refine bh au .nil ?_;refine bh aj .nil ?_;(((refine' bh (bC ?hc) ?hi ?_);(case hi=>exact .pick (by repeat constructor) .nil);(case hc=>repeat constructor)))
   obtain⟨g,o,rfl,_⟩:=hA.at_ (by omega)
   refine bh (E3 i rfl (by omega) (by omega)) .nil ?_
   refine bh (E2 (by omega)) .nil ?_
   refine bh (Tj hA (by omega)) (.pick (by repeat constructor) .nil) ?_
   obtain⟨x,hx⟩:∃x,x=my b i:=⟨_,rfl⟩
   rw[<- hx]
   unfold mq
   refine bp fun g=>?_;refine cf ?_;refine cf ?_;refine cf ?_;refine cf ?_;refine cf ?_;refine cf ?_;refine cf ?_;refine cf ?_;refine cf ?_;refine fO ?_;refine bA (bh au .nil ?_);refine bh aj .nil ?_;(((refine' bh (bC ?hc) ?hi ?_);(case hi=>exact .pick (by repeat constructor) .nil);(case hc=>repeat constructor)));(((refine' bh (cg ?hn) ?hi ?_);(case hi=>exact .pick (by repeat constructor) .nil);(case hn=>rfl)));refine t_ au (t_ aj (ew ?_));refine eI fun g=>?_;refine cf ?_;refine cf ?_;refine cf ?_;refine cf ?_
   refine Cv (q:=x) Jo (by repeat constructor) fun c0=>?_
   rw[A6 hQ]
   refine Tl ?_;(((refine' bh (bM ?hc) .nil ?_);(case hc=>repeat constructor)))
   refine II (by repeat constructor) (kn x) (xB x) ?_
   unfold vV
   rw[nM]
   have cL:=Aw b i x
   refine bO (m:=1) (news:=[NI i]) (by repeat constructor) (cA (e':=3) (by kernel_rfl) (by repeat constructor) (by rfl) (by intro u hu;rw[List.mem_singleton.1 hu];rfl)) (by omega) (by omega) fun a' c'=>?_
   refine cf ?_
   refine E1 (by repeat constructor) ?_
   refine o_ au (o_ aj (bJ ?_));refine bG ?_;refine o_ au (o_ aj (eE ?_))
   refine iX (k-1) (by omega) (.ex (i+1) (.all ?_))
   refine aq ?_
   refine .pu (by omega) (.ex (gm,Cw Q (kn x) (a',c')) (.all ?_))
   refine aq ?_
   refine .pu ?_ ?_
   ·intro n hn
    rw[kD]at hn
    by_cases e:my b i=un n
    ·rw[if_pos e]at hn;simp at hn
    ·rw[if_neg e]at hn
     unfold Cw
     rw[if_neg (fun h=>e (by rw[h,nM,hx]))]
     exact hQ n hn
   subst hx
   rw[<- H5 (v:=(a',c'))]
   rw[show((i+1:Nat):Int)=(i:Int)+1 from rfl]
   refine .pick (by repeat constructor) (.pick (by repeat constructor) ?_)
   refine uy (kn (my b i)) (xB _) (F:=vV Q b i) (fun j hj hji=>?_) ?_
   ·unfold vV Cw
    rw[if_neg hji,kD,if_neg (fun h=>hji (by rw[h,Pv hj]))]
   ·unfold vV Cw
    rw[if_pos rfl,nM,kD,if_pos rfl,List.length_append,List.map_append]
    refine .pick (by repeat constructor) ?_
    exact aw
  ·refine t_ cZ ?_
   rw[dF_ h2]
   refine t_ ah (aa ?_)
   have:i=min to (b.length-2):=by omega
   subst this
   refine bq () ?_
   refine .ex (gm,Q) (.all ?_)
   refine aq ?_
   exact .pu hQ aw
 ·refine t_ az ?_
  rw[dF_ h1]
  refine af (af (af (af (af (af (af (af (af (af (af (t_ ag (aa ?_))))))))))))
  have:i=min to (b.length-2):=by omega
  subst this
  refine bq () ?_
  refine .ex (gm,Q) (.all ?_)
  refine aq ?_
  exact .pu hQ aw
theorem SE {a b:UInt8}:decide ((a.toNat:Int)=(b.toNat:Int))=decide (some a=some b):=by
 by_cases c:a=b
 ·subst c;simp
 ·have:(a.toNat:Int)≠(b.toNat:Int):=fun d=>c (UInt8.toNat_inj.1 (Int.ofNat.inj d))
  simp[c,this]
theorem H6 {W:World}{p:Nat}{a:Option Addr}{v1 v2 v3 v4:Value}{c i j:Nat}{b:List UInt8}{A:HP}(hA:RdB W A a b.length (b.map Sl.B))(hb:b.length<=1048576)(hij:i<j)(hj:j<b.length):
  Cn p_ 223 [.pointer (some ⟨p,0,none⟩),.int .i64 (i:Int),.int .i64 (j:Int)] W [pt p (.cells #[.slice a b.length c,v1,v2,v3,v4] 253),A] (fun _:Unit=> .int .i64 (dQ b i j:Int)) (fun _=>[pt p (.cells #[.slice a b.length c,v1,v2,v3,v4] 253),A]):=by
 (refine Shp.cn (Sg.g_ Tryz.call223 Tryz.func223 (an:={loops:=[(2,[7])],drs:=[(2,.ofL [(0,1),(1,1),(2,1),(3,1),(4,1),(5,1),(6,1),(7,1),(8,1),(9,1),(10,1),(11,1),(12,1),(13,1),(14,1),(15,1),(16,1),(17,1),(18,1),(19,1),(20,1),(21,1),(22,1),(23,1),(24,1),(25,1),(26,1),(27,1),(28,1),(29,1),(30,1),(31,1),(32,1),(33,1)])]})) fun F=>?_;simp only[ca_,na_])
 refine a_ (fun k y=>(ex fun n:Nat=>pu (k+n=259/\y= .int .i64 (n:Int)/\B8 b i j k n=dQ b i j))::pt p (.cells #[.slice a b.length c,v1,v2,v3,v4] 253)::A::F) 259 ?_ ?_
 ·exact .ex 0 (.pu ⟨rfl,rfl,rfl⟩ aw)
 intro k ds y
 refine aH .here fun n=>aG .here fun hk=>?_
 obtain⟨hkn,rfl,hal⟩:=hk
 have done:∀h:¬(n<258/\j+n<b.length/\b[i+n]? =b[j+n]?),dQ b i j=n:=fun h=>by
  rw[<- hal]
  cases k with
  |zero=>rfl
  |succ k=>rw[B8,if_neg h]
 refine bA ?_
 by_cases h1:(n:Int)<258
 ·refine t_ az ?_
  rw[dT_ h1]
  refine ae (ae (ae ?_));(refine t_ (bU (by omega) (by omega)) ?_);refine ae (ae (t_ au (ae (t_ aj (ae (ew ?_))))));refine ae (t_ aC (ae ?_))
  by_cases h2:(j:Int)+(n:Int)<(b.length:Int)
  ·refine t_ az ?_
   rw[dT_ h2]
   refine t_ ah (ae (ae (t_ au (ae (t_ aj (ae (ew ?_)))))));refine ae (ae (ae ?_));(refine t_ (bU (by omega) (by omega)) ?_);refine ae ?_
   obtain⟨g,o,rfl,_⟩:=hA.at_ (by omega)
   refine t_ (bj (i+n) (by rfl) (by omega)) ?_
   refine ae (eJ (bP (v:=Sl.B b[i+n]) hA (by rw[List.getElem?_map,List.getElem?_eq_getElem (by omega)];rfl)) ?_)
   refine ae (ae (t_ au (ae (t_ aj (ae (ew ?_))))));refine ae (ae (ae ?_));(refine t_ (bU (by omega) (by omega)) ?_);refine ae (t_ (bj (j+n) (by rfl) (by omega)) ?_)
   refine ae (eJ (bP (v:=Sl.B b[j+n]) hA (by rw[List.getElem?_map,List.getElem?_eq_getElem (by omega)];rfl)) ?_)
   refine ae ?_
   unfold Sl.B
   refine t_ aP ?_
   rw[SE]
   by_cases h3:some b[i+n]=some b[j+n]
   ·rw[dT_ h3]
    refine t_ ah (ab (bG ?_))
    obtain⟨k,rfl⟩:∃k',k=k'+1:=⟨k-1,by omega⟩
    refine aK k (by omega) (.ex (n+1) (.pu ⟨by omega,by rfl,?_⟩ aw))
    rw[<- hal,B8,if_pos ⟨by omega,by omega,by rw[List.getElem?_eq_getElem (by omega),List.getElem?_eq_getElem (by omega)];exact h3⟩]
   ·rw[dF_ h3]
    refine t_ ah (aa ?_)
    rw[done (fun h=>h3 (by have:=h.2.2;rwa [List.getElem?_eq_getElem (by omega),List.getElem?_eq_getElem (by omega)]at this))]
    refine bq () ?_
    exact aw
  ·refine t_ az ?_
   rw[dF_ h2]
   refine t_ ah (af (af (af (af (af (af (af (af (af (af (af (af (af (af (af (af (af (af (af (t_ ag (aa ?_)))))))))))))))))))))
   rw[done (fun h=>h2 (by omega))]
   refine bq () ?_
   exact aw
 ·refine t_ az ?_
  rw[dF_ h1]
  refine af (af (af (af (af (af (af (af (af (t_ ag (af (af (af (af (af (af (af (af (af (af (af (af (af (af (af (af (af (af (af (t_ ag (aa ?_))))))))))))))))))))))))))))))
  rw[done (fun h=>h1 (by omega))]
  refine bq () ?_
  exact aw
theorem zh {W:World}{p:Nat}{j:Int}:Cn p_ 222 [.pointer (some ⟨p,0,none⟩),.int .i64 j] W [] (fun q:Nat × Nat=> .func (.func 236) #[] [.pointer (some ⟨q.2,0,none⟩),.pointer (some ⟨q.1,0,none⟩)].toArray) (fun q=>[pt q.1 (.cells #[.pointer (some ⟨p,0,none⟩)] 250),pt q.2 (.cells #[.int .i64 j] 3)]):=by
 (refine Shp.cn (Sg.g_ Tryz.call222 Tryz.func222) fun F=>?_;simp only[ca_,na_])
 refine fb fun c1=>?_
 refine fb fun c2=>?_
 refine o_ gI (bq ((c1,c2)) ?_)
 exact aw
def sS (b:List UInt8)(w d j:Nat):List Nat:=if j+3<=b.length then su w j (rn b j (my b j)).reverse d else []
def Cx (b:List UInt8)(w d j:Nat):List (List Value):=(sS b w d j).map fun i=>[NI i]
theorem Lr {b:List UInt8}{w d j i:Nat}(h:i∈sS b w d j):i<j:=by
 unfold sS at h
 split at h
 ·have key:∀(l:List Nat) (d:Nat),i∈su w j l d->i∈l:=by
   intro l
   induction l with
   |nil=>intro d h;simp[su]at h
   |cons x l ih=>
    intro d h
    cases d with
    |zero=>simp[su]at h
    |succ d=>
     rw[su]at h
     split at h
     ·cases h
     ·rcases List.mem_cons.1 h with e|e
      ·rw[e];simp
      ·exact List.mem_cons_of_mem _ (ih d e)
  have:=key _ _ h
  rw[List.mem_reverse]at this
  exact u6 this
 ·cases h
theorem xD {W:World} {p c1 c2 l gm:Nat} {mv:Value} {Q:Qm} {a:Option Addr} {c w d j:Nat} {b:List UInt8} {A:HP} {G:Nat->HP} {Gx T T':HP} (hA:RdB W A a b.length (b.map Sl.B)) (hc:b.length<=c) (hb:b.length<=1048576) (hj:j<b.length)
  (hQ:∀n,rn b (min j (b.length-2)) (un n)=[]->Q n=(none,0))
  (hy:kl p_ l (Cx b w d j) (fun k=>all [T,all [pt c1 (.cells #[.pointer (some ⟨p,0,none⟩)] 250),pt c2 (.cells #[.int .i64 (j:Int)] 3),pt p (.cells #[.slice a b.length c,.map (some gm),mv,.int .i64 (w:Int),.int .i64 (d:Int)] 253),eG gm mq (A4 Q b (min j (b.length-2))),BS KN (vV Q b (min j (b.length-2))),A,G k]]) (all [T',Gx]) W):
  Cn p_ 236 [yv l,.pointer (some ⟨c2,0,none⟩),.pointer (some ⟨c1,0,none⟩)] W [all [T,all [pt c1 (.cells #[.pointer (some ⟨p,0,none⟩)] 250),pt c2 (.cells #[.int .i64 (j:Int)] 3),pt p (.cells #[.slice a b.length c,.map (some gm),mv,.int .i64 (w:Int),.int .i64 (d:Int)] 253),eG gm mq (A4 Q b (min j (b.length-2))),BS KN (vV Q b (min j (b.length-2))),A,G 0]]] (fun _:Bool=> .tuple #[])
   (fun r=>[if r then all [T,all [pt c1 (.cells #[.pointer (some ⟨p,0,none⟩)] 250),pt c2 (.cells #[.int .i64 (j:Int)] 3),pt p (.cells #[.slice a b.length c,.map (some gm),mv,.int .i64 (w:Int),.int .i64 (d:Int)] 253),eG gm mq (A4 Q b (min j (b.length-2))),BS KN (vV Q b (min j (b.length-2))),A,G (Cx b w d j).length]]else all [T',Gx]]):=by
 (refine Shp.cn (Sg.g_ Tryz.call236 Tryz.func236 (an:={loops:=[(3,[5,6])],drs:=[(0,.ofL [(0,1),(1,1),(2,1),(3,1),(4,1),(5,1),(6,1),(7,1)]),(1,.ofL [(0,1),(1,1),(2,1),(3,1),(4,1),(5,1),(6,1),(7,1),(8,1),(9,1),(10,1),(11,1),(12,1),(13,1)]),(5,.ofL [(0,1),(1,1),(2,1),(3,1),(4,1),(5,1),(6,1),(7,1),(8,1),(9,1),(10,1),(11,1),(12,1),(13,1),(14,1),(15,1),(16,1),(17,0),(18,1),(19,1)])]})) fun F=>?_;simp only[ca_,na_])
 refine ap .here ?_
 refine aq ?_
 refine ap (.there .here) ?_
 refine aq ?_
 refine bA (ew ?_);(refine t_ (bU (by omega) (by omega)) ?_);refine ew ?_;refine t_ au (t_ aj (ew ?_));refine t_ aC ?_
 by_cases h1:(b.length:Int)<(j:Int)+3
 ·refine t_ aV ?_
  rw[dT_ h1]
  refine ab ?_
  have hl:(Cx b w d j).length=0:=by unfold Cx sS;rw[if_neg (by omega)];rfl
  rw[hl]
  refine bq true ?_
  refine .all ?_
  refine aq ?_
  refine .pick (by repeat constructor) (.all ?_)
  refine aq ?_
  exact aw
 refine t_ aV ?_
 rw[dF_ h1]
 have hmj:min j (b.length-2)=j:=by omega
 rw[hmj]at hQ hy ⊢
 refine aa (bA (ew ?_));refine t_ au (t_ aj (ew ?_));refine ew ?_;refine t_ au (t_ aj (ew ?_));refine ew ?_
 obtain⟨g,o,rfl,_⟩:=hA.at_ (by omega)
 refine t_ (E3 j rfl (by omega) (by omega)) ?_
 refine t_ (E2 (by omega)) ?_
 refine eJ (Tj hA (by omega)) ?_
 refine G8 (g:=gm) (by repeat constructor) fun ml hm1 hm2=>?_
 refine eJ (J4 (z:= .slice none 0 0) (q:=my b j) Jo) ?_
 refine bF (rg (M:=_) .here hm1 hm2 .refl) ?_
 rw[hm2,A6 hQ]
 obtain⟨L,hL⟩:∃L,L=rn b j (my b j):=⟨_,rfl⟩
 obtain⟨xs,hxs⟩:∃xs,xs=sS b w d j:=⟨_,rfl⟩
 have hxL:xs=su w j L.reverse d:=by rw[hxs,hL,sS,if_pos (by omega)]
 have hvl:(Cx b w d j).length=xs.length:=by rw[hxs];simp[Cx]
 have hget:∀k (h:k<xs.length),(Cx b w d j)[k]? =some [NI xs[k]]:=fun k h=>by
  subst hxs
  unfold Cx
  rw[List.getElem?_map,List.getElem?_eq_getElem h];rfl
 have hLlen:L.length<=b.length:=by have:=Aw b j (my b j);rw[hL];omega
 rw[<- hL,hvl]
 refine o_ aC (dX ?_)
 refine bI (fun m y z=>(ex fun n:Nat=>all [pu (m+n=L.length/\y= .int .i64 ((L.length:Int)-1-n)/\z= .int .i64 (n:Int)/\n<=xs.length/\xs.drop n=su w j (L.reverse.drop n) (d-n)),all [T,all [pt c1 (.cells #[.pointer (some ⟨p,0,none⟩)] 250),pt c2 (.cells #[.int .i64 (j:Int)] 3),pt p (.cells #[.slice (some ⟨g,o,none⟩) b.length c,.map (some gm),mv,.int .i64 (w:Int),.int .i64 (d:Int)] 253),eG gm mq (A4 Q b (j)),BS KN (vV Q b (j)),A,G n]]])::F) L.length ?_ ?_
 ·refine .ex 0 (.all ?_)
  refine aq ?_
  refine .pu ⟨by omega,by simp,rfl,by omega,by simp[hxL]⟩ (.all ?_)
  refine aq ?_
  refine .pick (by repeat constructor) (.all ?_)
  refine aq ?_
  exact aw
 intro m ds y z
 refine aH .here fun n=>ap .here ?_
 refine aq ?_
 refine aG .here fun hk=>?_
 obtain⟨hmn,rfl,rfl,hnx,hcd⟩:=hk
 have fin:xs.length<=n->n=xs.length:=fun h=>by omega
 by_cases h2:(0:Int)<=(L.length:Int)-1-n
 ·have hnL:n<L.reverse.length:=by rw[List.length_reverse];omega
  rw[List.drop_eq_getElem_cons hnL]at hcd
  refine o_ cH ?_
  rw[dT_ h2]
  refine ae (ae (ap .here ?_))
  refine aq ?_
  refine ap (.there .here) ?_
  refine aq ?_
  refine bJ ?_;refine ae (o_ au (ae (o_ aj (ae (bJ ?_)))));refine ae ?_
  by_cases h3:(n:Int)<(d:Int)
  ·refine o_ az ?_
   rw[dT_ h3]
   refine o_ ah (ab (bA (ew ?_)))
   obtain⟨d',hd'⟩:∃d',d-n=d'+1:=⟨d-n-1,by omega⟩
   rw[hd',su]at hcd
   have hri:L.reverse[n]=L[L.length-1-n]'(by omega):=by rw[List.getElem_reverse]
   obtain⟨i,hi⟩:∃i,i=L[L.length-1-n]'(by omega):=⟨_,rfl⟩
   rw[hri,<- hi]at hcd
   have hij:i<j:=by
    have:i∈L:=by rw[hi];exact List.getElem_mem _
    rw[hL]at this
    exact u6 this
   refine II (F:=vV Q b j) (by repeat constructor) (kn (my b j)) (xB _) ?_
   unfold vV
   rw[nM,<- hL]
   refine dA .here (by omega) fun gq hgq=>?_
   rw[hgq]
   refine t_ (bj (L.length-1-n) (by omega) (by omega)) ?_
   have hld:((L.map NI)[0+(L.length-1-n)]?)=some (NI i):=by
    rw[Nat.zero_add,List.getElem?_map,List.getElem?_eq_getElem (by omega),hi];rfl
   refine aT (cI hld) (.pick .here .nil) ?_
   refine t_ (dv (by omega) (by omega)) ?_
   refine ew ?_;refine t_ au (t_ aj (ew ?_))
   by_cases h4:(w:Int)<(j:Int)-(i:Int)
   ·refine t_ aV ?_
    rw[dT_ h4]
    rw[if_pos (by omega)]at hcd
    have hn:=fin (List.drop_eq_nil_iff.1 hcd)
    subst hn
    refine ao (ao (ao (ao (ao (ao (ao (t_ ah (ab (bq true ?_)))))))))
    refine .all ?_
    refine aq ?_
    refine .pick (by repeat constructor) (.all ?_)
    refine aq ?_
    refine .pick (by repeat constructor) (.pick (by repeat constructor) (.pick (by repeat constructor) (.pick (by repeat constructor) ?_)))
    refine uy (kn (my b j)) (xB _) (F:=vV Q b j) (fun _ _ _=>rfl) ?_
    unfold vV
    rw[nM,<- hL,hgq]
    refine .pick (by repeat constructor) ?_
    exact aw
   ·refine t_ aV ?_
    rw[dF_ h4]
    rw[if_neg (by omega)]at hcd
    have hlt:n<xs.length:=by
     rcases Nat.lt_or_ge n xs.length with h|h
     ·exact h
     ·rw[List.drop_eq_nil_iff.2 h]at hcd;cases hcd
    rw[List.drop_eq_getElem_cons hlt]at hcd
    obtain⟨hx1,hx2⟩:=List.cons.inj hcd
    refine ae (ae (ae (ae (t_ (bj (L.length-1-n) (by omega) (by omega)) ?_))))
    refine ae (aT (cI hld) (.pick .here .nil) ?_)
    refine ae (bF (M:=all [T,all [pt c1 (.cells #[.pointer (some ⟨p,0,none⟩)] 250),pt c2 (.cells #[.int .i64 (j:Int)] 3),pt p (.cells #[.slice (some ⟨g,o,none⟩) b.length c,.map (some gm),mv,.int .i64 (w:Int),.int .i64 (d:Int)] 253),eG gm mq (A4 Q b j),BS KN (vV Q b j),A,G n]]::F) ?_ ?_)
    ·refine .all ?_
     refine aq ?_
     refine .pick (by repeat constructor) (.all ?_)
     refine aq ?_
     refine .pick (by repeat constructor) (.pick (by repeat constructor) (.pick (by repeat constructor) (.pick (by repeat constructor) ?_)))
     refine uy (kn (my b j)) (xB _) (F:=vV Q b j) (fun _ _ _=>rfl) ?_
     unfold vV
     rw[nM,<- hL,hgq]
     refine .pick (by repeat constructor) ?_
     exact aw
    refine iZ hy n (by rw[hget n hlt,hx1]) .here ?_ ?_
    ·(refine ae ?_);refine t_ dJ ?_;refine t_ ag ?_;refine aa ?_;refine dX ?_;refine bG ?_
     refine bo (m-1) (by omega) (.ex (n+1) (.all ?_))
     refine aq ?_
     refine .pu ⟨by omega,by congr 1;omega,rfl,by omega,?_⟩ .refl
     rw[hx2]
     congr 1
     omega
    ·(refine ae ?_);refine t_ dh ?_;refine t_ ag ?_;refine ab ?_
     refine bq false ?_
     exact .refl
  ·refine o_ az ?_
   rw[dF_ h3]
   refine o_ ah (aa ?_)
   rw[show d-n=0 by omega,su]at hcd
   have hn:=fin (List.drop_eq_nil_iff.1 hcd)
   subst hn
   refine bq true ?_
   refine .all ?_
   refine aq ?_
   refine .pick (by repeat constructor) (.all ?_)
   refine aq ?_
   exact aw
 ·refine o_ cH ?_
  rw[dF_ h2]
  refine af (af (af (af (af (af (o_ ag (aa ?_)))))))
  rw[List.drop_eq_nil_iff.2 (show L.reverse.length<=n by rw[List.length_reverse];omega),show su w j [] (d-n)=[] by simp[su]]at hcd
  have hn:=fin (List.drop_eq_nil_iff.1 hcd)
  subst hn
  refine bq true ?_
  exact .refl
def pR (b:List UInt8)(j:Nat)(l:List Nat):Pz:=l.foldl (fun p i=>Jf j i (dQ b i j) p) ⟨0,0,b.getD j 0⟩
theorem zi {b:List UInt8}{w d j:Nat}:e9 b w d j=pR b j (sS b w d j):=by
 unfold e9 sS pR
 by_cases h:j+3<=b.length
 ·rw[if_pos h,u7 h j d _ (Nat.le_refl _)]
 ·rw[if_neg h,tL (by omega)];rfl
theorem Cy {b:List UInt8}{j k:Nat}{l:List Nat}(h:k<l.length):pR b j (l.take (k+1))=Jf j l[k] (dQ b l[k] j) (pR b j (l.take k)):=by
 unfold pR
 rw[List.take_succ_eq_append_getElem h,List.foldl_append];rfl
theorem Jq {W:World}{p:Nat}{a:Option Addr}{c w d j:Nat}{b:List UInt8}{A:HP}(hA:RdB W A a b.length (b.map Sl.B))(hc:b.length<=c)(hb:b.length<=1048576)(hj:j<b.length):
  Cn p_ 196 [.pointer (some ⟨p,0,none⟩),.int .i64 (j:Int)] W [xC p a c b (min j (b.length-2)) w d,A] (fun _:Unit=>Je (e9 b w d j)) (fun _=>[xC p a c b (min j (b.length-2)) w d,A]):=by
 (refine S.mR.cn fun F=>?_;unfold S.jU;simp only[ca_,na_])
 refine aH .here fun q=>ap .here ?_
 obtain⟨gm,Q⟩:=q
 refine aq ?_
 refine aG .here fun hQ=>?_
 (try dsimp only at hQ)
 refine fb fun b2=>?_
 refine fb fun b3=>?_
 refine bp fun b4=>?_
 refine bA ?_
 (((refine' bh (bC ?hc) ?hi ?_);(case hi=>exact .pick (by repeat constructor) .nil);(case hc=>repeat constructor)));refine bh au .nil ?_;refine bh aj .nil ?_;(((refine' bh (bC ?hc) ?hi ?_);(case hi=>exact .pick (by repeat constructor) .nil);(case hc=>repeat constructor)));(((refine' bh (bC ?hc) ?hi ?_);(case hi=>exact .pick (by repeat constructor) .nil);(case hc=>repeat constructor)))
 have hA0:=hA
 obtain⟨ga,o,ha,_⟩:=hA.at_ (by omega)
 rw[ha]at hA ⊢
 refine bh (bj j rfl hj) .nil ?_
 refine bh (bP (v:=Sl.B (b.getD j 0)) hA (by rw[List.getElem?_map,List.getElem?_eq_getElem hj,List.getD_eq_getElem?_getD,List.getElem?_eq_getElem hj];rfl)) (.pick (by repeat constructor) .nil) ?_
 refine bh b_ .nil ?_;refine bp fun g=>?_;refine cf ?_;refine cf ?_;refine cf ?_;refine cf ?_;refine cf ?_;refine cf ?_;refine cf ?_;refine cf ?_;refine fO ?_;refine bJ ?_;refine bJ ?_
 rename Nat=>b5
 refine c_ (zh (j:=(j:Int))) fun _=>?_
 rename_i qc
 obtain⟨bc,bd⟩:=qc
 (try dsimp only)
 refine aq ?_
 have hvl:(Cx b w d j).length=(sS b w d j).length:=by simp[Cx]
 refine Bw (f:=236) (cap:=[.pointer (some ⟨bd,0,none⟩),.pointer (some ⟨bc,0,none⟩)]) (Cx b w d j)
  (fun k=>all [pt bc (.cells #[.pointer (some ⟨p,0,none⟩)] 250),pt bd (.cells #[.int .i64 (j:Int)] 3),pt p (.cells #[.slice (some ⟨ga,o,none⟩) b.length c,.map (some gm),.int .i64 ((min j (b.length-2):Nat):Int),.int .i64 (w:Int),.int .i64 (d:Int)] 253),eG gm mq (A4 Q b (min j (b.length-2))),BS KN (vV Q b (min j (b.length-2))),A,all [pu (k<=(sS b w d j).length),pt b2 (.cells #[.pointer (some ⟨p,0,none⟩)] 250),pt b3 (.cells #[.int .i64 (j:Int)] 3),pt b4 (.cells #[.int .i64 0,.int .i64 0,.int .u8 0] 209),pt b5 (.cells #[.int .i64 (pR b j ((sS b w d j).take k)).len,.int .i64 (pR b j ((sS b w d j).take k)).dist,Sl.B (pR b j ((sS b w d j).take k)).c] 209),all F]]) (pu False) rfl ?_ ?_ ?_ ?_ ?_ ?_
 ·intro x hx
  obtain⟨k,_,rfl⟩:=List.mem_map.1 hx
  rfl
 ·refine .all ?_
  refine aq ?_
  refine .pick (by repeat constructor) (.pick (by repeat constructor) (.pick (by repeat constructor) (.pick (by repeat constructor) (.pick (by repeat constructor) (.pick (by repeat constructor) (.all ?_))))))
  refine aq ?_
  refine .pu (by omega) (.pick (by repeat constructor) (.pick (by repeat constructor) (.pick (by repeat constructor) (.pick (by repeat constructor) (.all ?_)))))
  rw[List.append_nil]
  exact .refl
 ·intro l T T' hy
  exact xD (G:=fun k=>all [pu (k<=(sS b w d j).length),pt b2 (.cells #[.pointer (some ⟨p,0,none⟩)] 250),pt b3 (.cells #[.int .i64 (j:Int)] 3),pt b4 (.cells #[.int .i64 0,.int .i64 0,.int .u8 0] 209),pt b5 (.cells #[.int .i64 (pR b j ((sS b w d j).take k)).len,.int .i64 (pR b j ((sS b w d j).take k)).dist,Sl.B (pR b j ((sS b w d j).take k)).c] 209),all F]) hA hc hb hj hQ hy
 ·intro k hk F2 T0 T1 B N J hB hN hJ
  rw[hvl]at hk
  have e0:∀h,(Cx b w d j)[k]'h=[NI (sS b w d j)[k]]:=fun h=>by simp[Cx]
  rw[e0]
  simp only[jh,List.headD_cons,List.tail_cons]
  have hij:(sS b w d j)[k]<j:=Lr (List.getElem_mem hk)
  obtain⟨i,hi⟩:∃i,i=(sS b w d j)[k]:=⟨_,rfl⟩
  have hfs:=Cy (b:=b) (j:=j) hk
  rw[<- hi]at hij hfs ⊢
  obtain⟨P0,hP0⟩:∃P0,P0=pR b j ((sS b w d j).take k):=⟨_,rfl⟩
  rw[<- hP0]at hfs ⊢
  refine ap (.there .here) ?_
  refine aq ?_
  refine ap (.there (.there (.there (.there (.there (.there .here)))))) ?_
  refine aq ?_
  refine aG .here fun hkn=>?_
  refine hB _ _ _ (by repeat constructor) ?_
  unfold NI I
  refine bJ ?_;refine bJ ?_
  refine c_ (H6 (i:=i) (j:=j) hA hb hij hj) fun _=>?_
  refine o_ aj (bJ ?_)
  have hal:=(jM b i j).1
  refine ay aV .nil (fun h=>?_) (fun h=>?_)
  ·refine ab (bJ ?_);refine dX ?_;refine o_ b_ ?_;refine fO ?_
   refine hN _ ?_
   refine .pick (by repeat constructor) (.all ?_)
   refine aq ?_
   refine .pick (by repeat constructor) (.pick (by repeat constructor) (.pick (by repeat constructor) (.pick (by repeat constructor) (.pick (by repeat constructor) (.pick (by repeat constructor) (.all ?_))))))
   refine aq ?_
   rw[hfs,Jf,if_pos h]
   refine .pu (by omega) ?_
   exact aw
  ·refine aa (hN _ ?_)
   refine .pick (by repeat constructor) (.all ?_)
   refine aq ?_
   refine .pick (by repeat constructor) (.pick (by repeat constructor) (.pick (by repeat constructor) (.pick (by repeat constructor) (.pick (by repeat constructor) (.pick (by repeat constructor) (.all ?_))))))
   refine aq ?_
   rw[hfs,Jf,if_neg h]
   refine .pu (by omega) ?_
   exact aw
 ·intro d1
  rw[hvl,List.take_length,<- zi]
  refine ap (.there .here) ?_
  refine aq ?_
  refine ap (.there (.there (.there (.there (.there (.there .here)))))) ?_
  refine aq ?_
  refine aG .here fun hkn=>?_
  refine lG ?_;refine fO ?_
  refine uw (by repeat constructor) ?_
  (((refine' aT (cG ?hn) ?hi ?_);(case hi=>exact aw);(case hn=>rfl)))
  rw[<- ha]
  refine km (M:=[xC p a c b (min j (b.length-2)) w d,A]) (F:=F) ?_ ?_
  ·refine .ex (gm,Q) (.all ?_)
   refine aq ?_
   refine .pu hQ ?_
   exact aw
  ·refine aq ?_
   refine bq () ?_
   exact .refl
 ·intro d1
  exact aG (.there .here) fun h=>h.elim
theorem A7 {W:World}{L M:List HP}{F:Nat->HP}:∀n,(∀j,j<n->∀ {L M:List HP},Imp W L M->Imp W L (F j::M))->Imp W L M->Imp W L (BS n F::M)
 |0,_,h=>Gu h
 |n+1,hF,h=>Gv (F:=F) (fun _ _=>rfl) (A7 n (fun j hj=>hF j (by omega)) (hF n (by omega) h))
theorem xE (b:List UInt8)(k:K3):rn b 0 k=[]:=rfl
theorem H7 {W:World}{L L' M:List HP}{p gm w d c:Nat}{a:Option Addr}{b:List UInt8}(q:Picks L [pt p (.cells #[.slice a b.length c,.map (some gm),.int .i64 0,.int .i64 (w:Int),.int .i64 (d:Int)] 253),eG gm mq (fun _=>none)] L')(h:Imp W L' M):Imp W L (xC p a c b 0 w d::M):=by
 cases q with
 |cons p1 q=>
  cases q with
  |cons p2 q=>
   cases q
   refine .ex (gm,fun _=>(none,0)) (.all ?_)
   simp only[ca_,na_,-eq_self]
   refine .pu (fun _ _=>rfl) (.pick p1 ?_)
   rw[show A4 (fun _=>(none,0)) b 0=fun _=>none from funext fun k=>by unfold A4;rw[if_pos (xE b k)]]
   refine .pick p2 ?_
   refine A7 KN (fun j _ L M h=>?_) h
   unfold vV
   rw[xE]
   exact bR h
theorem Ls {W:World}{a:Option Addr}{c w d:Nat}{b:List UInt8}{A:HP}(hA:RdB W A a b.length (b.map Sl.B))(hc:b.length<=c)(hb:b.length<=1048576)(hw:1<=w/\w<=32768)(hd:d<=4096):
  Cn p_ 149 [.slice a b.length c,.int .i64 (w:Int),.int .i64 (d:Int)] W [A] (fun q:Option Addr × Nat=> .tuple #[.slice q.1 (lj b w d).length q.2,.int .i64 0]) (fun q=>[Sl 3 209 q.1 q.2 (lj b w d).length ((lj b w d).flatMap mi),A]):=by
 (refine Shp.cn (Sg.g_ Tryz.call149 Tryz.func149 (an:={cuts:=[(5,[12])],loops:=[(11,[9,10])]})) fun F=>?_;simp only[ca_,na_])
 refine dD (fun z=>pu (z= .bool false)::A::F) ?_ ?_
 rotate_left
 ·refine o_ az ?_
  rw[dF_ (by omega)]
  refine aa (o_ aV ?_)
  rw[dF_ (by omega)]
  refine aa (o_ az ?_)
  rw[dF_ (by omega)]
  refine aa (o_ aV ?_)
  rw[dF_ (by omega)]
  refine aD (.pu rfl ?_)
  exact .refl
 intro ds z
 refine aG .here fun hz=>?_
 subst hz
 refine aa (o_ aC (o_ aV ?_))
 rw[dF_ (by omega)]
 refine aa (Jb mq fun gm=>?_)
 refine o_ b_ ?_;refine bV fun g=>?_
 rename Nat=>p
 refine bI (fun m x y=>(ex fun st:(Option Addr × Nat) × Nat × Nat=>ex fun o:List Pz=>all [pu (b.length+1<=m+st.2.1/\x= .slice st.1.1 o.length st.1.2/\y= .int .i64 (st.2.1:Int)/\st.2.1<=b.length/\st.2.2<=min st.2.1 (b.length-2)/\o++Hf b w d m st.2.1=lj b w d/\o.length<=st.2.1),xC p a c b st.2.2 w d,Sl 3 209 st.1.1 st.1.2 o.length (o.flatMap mi)])::A::F) (b.length+1) ?_ ?_
 ·refine .ex ((none,0),0,0) (.ex [] (.all ?_))
  refine aq ?_
  refine .pu ⟨by omega,rfl,rfl,by omega,by omega,rfl,by simp⟩ ?_
  refine H7 (.cons (by repeat constructor) (.cons (by repeat constructor) .nil)) ?_
  exact bR .refl
 intro m ds x y
 refine aH .here fun st=>aH .here fun o=>ap .here ?_
 obtain⟨⟨sa,sc⟩,j,mk⟩:=st
 refine aq ?_
 refine aG .here fun hi=>?_
 (try dsimp only at hi)
 obtain⟨hmj,rfl,rfl,hj,hmk,hex,hol⟩:=hi
 (try dsimp only)
 refine o_ aC (ay az .nil (fun h=>?_) (fun h=>?_))
 ·refine ab ?_
  have hjl:j<b.length:=by omega
  obtain⟨m,rfl⟩:∃m',m=m'+1:=⟨m-1,by omega⟩
  rw[Hf,if_pos hjl]at hex
  have hgp:gP b j (e9 b w d j):=rp hw.2
  obtain⟨he1,he2,he3⟩:=rr hgp hjl
  have hpn:=ns (e9 b w d j)
  refine c_ (Pw (to:=j) hA hc hb hj hmk) fun _=>?_
  refine c_ (Jq hA hc hb hjl) fun _=>?_
  generalize e9 b w d j=P at *
  unfold Je
  refine bp fun b8=>?_
  refine bS .here (by rfl) (by rfl) (by intro u hu;simp at hu;rcases hu with rfl|rfl|rfl <;> rfl) ?_
  refine lG ?_
  refine eL (n:=1) (vs:=[Je P]) rfl (by decide) rfl (by intro v hv;rw[List.mem_singleton.1 hv];rfl) (by decide) fun gb=>?_
  refine bO (m:=1) (news:=mi P) (by repeat constructor) (cA (e':=209) (by kernel_rfl) .here (by rfl) (by intro u hu;simp[mi]at hu;rcases hu with rfl|rfl|rfl <;> rfl)) (by omega) (by omega) fun a' c'=>?_
  refine o_ aj (bJ ?_)
  refine o_ zN ?_
  have e3:(if(1:Int)<P.len then P.len else 1)=(gF P:Int):=by rw[he3];split <;> split <;> omega
  rw[e3]
  refine bG ?_
  refine bo m (by omega) (.ex ((a',c'),j+gF P,min j (b.length-2)) (.ex (o++[P]) (.all ?_)))
  refine aq ?_
  rw[List.length_append,List.flatMap_append]
  refine .pu ⟨by omega,rfl,rfl,he1,by omega,by rw[List.append_assoc];exact hex,by simp only[List.length_singleton];omega⟩ ?_
  exact aw
 ·have hje:b.length<=j:=by omega
  rw[Hg hje,List.append_nil]at hex
  subst hex
  refine aa (bq ((sa,sc)) ?_)
  exact aw
abbrev Bv:=(Option Addr × Nat) × (Option Addr × Nat)
def A8 (level:Int)(x:fX × Bv):List Value:=[.slice x.2.1.1 x.1.1.length x.2.1.2,.slice x.2.2.1 x.1.2.length x.2.2.2,.int .i64 level]
def ye (level:Int)(x:fX × Bv):Value:= .agg #[.slice x.2.1.1 x.1.1.length x.2.1.2,.slice x.2.2.1 x.1.2.length x.2.2.2,.int .i64 level]
structure BkOk (W:World)(AL AB:HP)(x:fX × Bv):Prop where
 rl:RdB W AL x.2.1.1 (x.1.1.length * 3) (x.1.1.flatMap mi)
 rb:RdB W AB x.2.2.1 x.1.2.length (x.1.2.map Sl.B)
 bc:x.1.2.length<=x.2.2.2
theorem E4 {l:List Pz}(i n:Nat):((l.flatMap mi).drop (i * 3)).take (n * 3)=((l.drop i).take n).flatMap mi:=by
 induction l generalizing i n with
 |nil=>simp
 |cons p l ih=>
  have hp:(mi p).length=3:=rfl
  cases i with
  |succ i=>
   rw[List.flatMap_cons,List.drop_succ_cons,<- ih i n,show(i+1) * 3=(mi p).length+i * 3 by rw[hp];omega,<- List.drop_drop,List.drop_left]
  |zero=>
   cases n with
   |zero=>simp
   |succ n=>
    have:=ih 0 n
    simp only[Nat.zero_mul,List.drop_zero]at this ⊢
    rw[List.take_succ_cons,List.flatMap_cons,List.flatMap_cons,<- this,show(n+1) * 3=(mi p).length+n * 3 by rw[hp];omega,List.take_length_add_append]
theorem r_ {W:World}{A:HP}{a:Option Addr}{c:Nat}{l:List Pz}{i j:Nat}(hA:RdB W A a (l.length * 3) (l.flatMap mi))(h1:i<=j)(h2:j<=l.length)(h3:l.length<=c):
  RdB W A (if c=i then a else a.map (·.add (i * 3))) (((l.drop i).take (j-i)).length * 3) (((l.drop i).take (j-i)).flatMap mi):=by
 have h:=RdB.cut (l:=i * 3) (h:=j * 3) (cap:=c * 3) hA (by omega) (by omega) (by omega)
 rw[<- Nat.sub_mul,E4,Nat.mul_one]at h
 have e:((l.drop i).take (j-i)).length=j-i:=by rw[List.length_take,List.length_drop];omega
 rw[e]
 by_cases c1:c=i
 ·subst c1
  rw[if_pos rfl]at h ⊢
  exact h
 ·rw[if_neg (by omega)]at h
  rw[if_neg c1]
  exact h
theorem jP {b:List UInt8}{fr at_:Nat}(h1:fr<=at_)(h2:at_<=b.length):(seg b fr at_).length=at_-fr:=by
 unfold seg
 rw[List.length_take,List.length_drop];omega
theorem nN {W:World}{A:HP}{a:Option Addr}{c:Nat}{b:List UInt8}{i j:Nat}(hA:RdB W A a b.length (b.map Sl.B))(h1:i<=j)(h2:j<=b.length)(h3:b.length<=c):
  RdB W A (if c=i then a else a.map (·.add (i * 1))) (seg b i j).length ((seg b i j).map Sl.B):=by
 have h:=RdB.cut (l:=i) (h:=j) (cap:=c) hA h1 h2 h3
 rw[jP h1 h2]
 unfold seg
 rw[List.map_take,List.map_drop]
 exact h
theorem vA (level:Int)(x:fX × Bv):(A8 level x).length=3:=rfl
theorem kS {W : World} {g1 g2 g3 g4 g5 g6 g7 : Nat} {oa pa a : Option Addr} {oc pc c fi to fr at_ : Nat} {level : Int} {l : List Pz} {b : List UInt8} {X : List (fX × Bv)} (h1 : fi ≤ to) (h2 : to ≤ l.length) (h3 : l.length ≤ pc) (h4 : fr ≤ at_) (h5 : at_ ≤ b.length) (h6 : b.length ≤ c) (h7 : X.length ≤ 1099511627776) :
  Cn p_ 150 [.int .i64 (to : Int), .pointer (some ⟨g1, 0, none⟩), .pointer (some ⟨g2, 0, none⟩), .pointer (some ⟨g3, 0, none⟩), .pointer (some ⟨g4, 0, none⟩), .pointer (some ⟨g5, 0, none⟩), .pointer (some ⟨g6, 0, none⟩), .pointer (some ⟨g7, 0, none⟩)] W
   [pt g1 (.cells #[.slice oa X.length oc] 158), Sl 3 162 oa oc X.length (X.flatMap (A8 level)), pt g2 (.cells #[.slice pa l.length pc] 160), pt g3 (.cells #[.int .i64 (fi : Int)] 3), pt g4 (.cells #[.slice a b.length c] 23), pt g5 (.cells #[.int .i64 (fr : Int)] 3), pt g6 (.cells #[.int .i64 (at_ : Int)] 3), pt g7 (.cells #[.int .i64 level] 3)]
   (fun _ : Option Addr × Nat => .tuple #[])
   (fun q => [pt g1 (.cells #[.slice q.1 (X ++ [((((l.drop fi).take (to - fi)), seg b fr at_), ((if pc = fi then pa else pa.map (·.add (fi * 3)), pc - fi), (if c = fr then a else a.map (·.add (fr * 1)), c - fr)))]).length q.2] 158),
    Sl 3 162 q.1 q.2 (X ++ [((((l.drop fi).take (to - fi)), seg b fr at_), ((if pc = fi then pa else pa.map (·.add (fi * 3)), pc - fi), (if c = fr then a else a.map (·.add (fr * 1)), c - fr)))]).length ((X ++ [((((l.drop fi).take (to - fi)), seg b fr at_), ((if pc = fi then pa else pa.map (·.add (fi * 3)), pc - fi), (if c = fr then a else a.map (·.add (fr * 1)), c - fr)))]).flatMap (A8 level)),
    pt g2 (.cells #[.slice pa l.length pc] 160), pt g3 (.cells #[.int .i64 (to : Int)] 3), pt g4 (.cells #[.slice a b.length c] 23), pt g5 (.cells #[.int .i64 (at_ : Int)] 3), pt g6 (.cells #[.int .i64 (at_ : Int)] 3), pt g7 (.cells #[.int .i64 level] 3)]) := by
 (refine Shp.cn (Sg.g_ Tryz.call150 Tryz.func150 (an := { drs := [(0, .ofL [(0, 3), (1, 1), (2, 1), (3, 1), (4, 1), (5, 1), (6, 1), (7, 1), (8, 1), (9, 1), (10, 1), (11, 0), (12, 0), (13, 0)]), (1, .ofL [(0, 1), (1, 3), (2, 0), (3, 0)])] }) (os := [(0, [(11, [0])]), (1, [(2, [1])])])) fun F => ?_; simp only [ca_, na_])
 refine bA ?_
 (((refine' bh (bC ?hc) ?hi ?_); (case hi => exact .pick (by repeat constructor) .nil); (case hc => repeat constructor))); refine ew ?_; refine ew ?_
 refine t_ (tq fi to rfl rfl h1 (by omega)) ?_
 refine ew ?_; refine ew ?_; refine ew ?_
 refine t_ (tq fr at_ rfl rfl h4 (by omega)) ?_
 refine ew ?_; refine t_ b_ ?_
 have e1 : ((l.drop fi).take (to - fi)).length = to - fi := by rw [List.length_take, List.length_drop]; omega
 have e2 := jP h4 h5
 obtain ⟨nx, hnx⟩ : ∃ nx : fX × Bv, nx = (((l.drop fi).take (to - fi), seg b fr at_), ((if pc = fi then pa else pa.map (·.add (fi * 3)), pc - fi), (if c = fr then a else a.map (·.add (fr * 1)), c - fr))) := ⟨_, rfl⟩
 have hv : ye level nx = .agg #[.slice (if pc = fi then pa else pa.map (·.add (fi * 3))) (to - fi) (pc - fi), .slice (if c = fr then a else a.map (·.add (fr * 1))) (at_ - fr) (c - fr), .int .i64 level] := by
  rw [hnx, ye, e1, e2]
 rw [← hnx, ← hv]
 refine eL (n := 1) (vs := [ye level nx]) rfl (by decide) rfl (by intro v hv; rw [List.mem_singleton.1 hv]; rfl) (by decide) fun gb => ?_
 refine cf ?_
 refine bO (m := 1) (news := A8 level nx) (by repeat constructor) (cA (e' := 162) (by kernel_rfl) (by repeat constructor) (by rfl) (by intro u hu; simp [A8] at hu; rcases hu with rfl | rfl | rfl <;> rfl)) (by omega) (by omega) fun a' c' => ?_
 refine eE ?_; refine bA ?_; (((refine' bh (bC ?hc) ?hi ?_); (case hi => exact .pick (by repeat constructor) .nil); (case hc => repeat constructor))); refine eE ?_; refine cf ?_; refine eE ?_
 refine bq ((a', c')) ?_
 (try dsimp only)
 rw [List.length_append, List.flatMap_append]
 refine .pick (by repeat constructor) ?_
 exact aw
theorem BkOk.up {W:World}{AL AB:HP}{X:List (fX × Bv)}{x:fX × Bv}(h:∀y∈X,BkOk W AL AB y)(hx:BkOk W AL AB x):∀y∈X++[x],BkOk W AL AB y:=fun y hy=>by
 rcases List.mem_append.1 hy with c|c
 ·exact h y c
 ·rw[List.mem_singleton.1 c];exact hx
theorem H8 {n:Nat}(h1:1<=n)(h2:n<=9):IntKind.i64.wrap (2 * 2^(min (IntKind.u64.wrap (n:Int)).toNat IntKind.i64.bits))=((2 * 2^n:Nat):Int)/\2 * 2^n<=4096:=by
 rcases(show n=1\/n=2\/n=3\/n=4\/n=5\/n=6\/n=7\/n=8\/n=9 by omega)with e|e|e|e|e|e|e|e|e <;> subst e <;> exact⟨by decide,by decide⟩
theorem H9 {W:World}{a:Option Addr}{c:Nat}{level:Int}{b:List UInt8}{A:HP}(hA:RdB W A a b.length (b.map Sl.B))(hc:b.length<=c)(hb:b.length<=1048576)(hl:0<=level/\level<=9):
  Cn p_ 111 [.slice a b.length c,.int .i64 level] W [A] (fun q:(Option Addr × Nat) × (Option Addr × Nat) × List (fX × Bv)=> .slice q.1.1 q.2.2.length q.1.2)
   (fun q=>[pu (q.2.2.map Prod.fst=eY b level/\∀x∈q.2.2,BkOk W (Sl 3 209 q.2.1.1 q.2.1.2 (iK b level).length ((iK b level).flatMap mi)) A x),Sl 3 162 q.1.1 q.1.2 q.2.2.length (q.2.2.flatMap (A8 level)),Sl 3 209 q.2.1.1 q.2.1.2 (iK b level).length ((iK b level).flatMap mi),A]):=by
 (refine Shp.cn (Sg.g_ Tryz.call111 Tryz.func111 (an:={cuts:=[(9,[])],loops:=[(5,[28]),(13,[41])]})) fun F=>?_;simp only[ca_,na_])
 refine fb fun g2=>?_
 refine fb fun g3=>?_
 refine dx fun g5=>?_
 have hpl:=Eu b level
 refine cP ((ex fun q:Option Addr × Nat=>all [pt g5 (.cells #[.slice q.1 (iK b level).length q.2] 160),Sl 3 209 q.1 q.2 (iK b level).length ((iK b level).flatMap mi)])::pt g2 (.cells #[.slice a b.length c] 23)::pt g3 (.cells #[.int .i64 level] 3)::A::F) ?_ ?_
 rotate_left
 ·refine bJ ?_
  refine ay aV .nil (fun h=>?_) (fun h=>?_)
  ·refine ab (bJ ?_);refine bJ ?_
   refine o_ (br (q:= .u64)) ?_
   obtain⟨N,rfl⟩:=Int.eq_ofNat_of_zero_le hl.1
   obtain⟨s1,s2⟩:=H8 (n:=N) (by omega) (by omega)
   refine o_ (fS (by simp[i8 (show N<18446744073709551616 by omega)])) ?_
   rw[s1]
   refine c_ (Ls (w:=32768) (d:=2 * 2^N) hA hc hb (by omega) s2) fun _=>?_
   rename_i q
   obtain⟨qa,qc⟩:=q
   (try dsimp only)
   have hp:iK b (N:Int)=lj b 32768 (2 * 2^N):=by unfold iK;rw[if_pos h,Int.toNat_natCast]
   rw[<- hp]
   refine fP ?_;refine fP ?_;refine eE ?_
   refine aD (.ex (qa,qc) (.all ?_))
   refine aq ?_
   exact aw
  ·refine aa (bJ ?_);refine o_ aC ?_
   have hp:iK b level=ot b:=by unfold iK;rw[if_neg h]
   rw[hp]
   refine a_ (fun m y=>(ex fun i:Nat=>ex fun q:Option Addr × Nat=>all [pu (m+i=b.length/\y= .int .i64 (i:Int)),pt g5 (.cells #[.slice q.1 (ot (b.take i)).length q.2] 160),Sl 3 209 q.1 q.2 (ot (b.take i)).length ((ot (b.take i)).flatMap mi)])::pt g2 (.cells #[.slice a b.length c] 23)::pt g3 (.cells #[.int .i64 level] 3)::A::F) b.length ?_ ?_
   ·refine .ex 0 (.ex (none,0) (.all ?_))
    refine aq ?_
    refine .pu ⟨by omega,rfl⟩ (.pick (by repeat constructor) ?_)
    refine bR ?_
    exact aw
   intro m ds y
   refine aH .here fun i=>aH .here fun q=>ap .here ?_
   obtain⟨qa,qc⟩:=q
   refine aq ?_
   refine aG .here fun hk=>?_
   (try dsimp only at hk)
   obtain⟨hmi,rfl⟩:=hk
   (try dsimp only)
   refine ay az .nil (fun h2=>?_) (fun h2=>?_)
   ·have hil:i<b.length:=by omega
    refine ab ?_
    obtain⟨g,o,ha,_⟩:=hA.at_ (by omega)
    have hA2:=hA
    rw[ha]at hA2 ⊢
    refine o_ (bj i rfl hil) ?_
    refine bt (bP (v:=Sl.B b[i]) hA2 (by rw[List.getElem?_map,List.getElem?_eq_getElem hil];rfl)) ?_
    refine bJ ?_;refine o_ b_ ?_
    refine eL (n:=1) (vs:=[Je ⟨0,0,b[i]⟩]) rfl (by decide) rfl (by intro v hv;rw[List.mem_singleton.1 hv];rfl) (by decide) fun gb=>?_
    have hll:(ot (b.take i)).length=i:=by unfold ot;rw[List.length_map,List.length_take];omega
    refine bO (m:=1) (news:=mi ⟨0,0,b[i]⟩) (by repeat constructor) (cA (e':=209) (by kernel_rfl) .here (by rfl) (by intro u hu;simp[mi]at hu;rcases hu with rfl|rfl <;> rfl)) (by omega) (by omega) fun a' c'=>?_
    refine eE ?_;refine bG ?_
    refine aK (m-1) (by omega) (.ex (i+1) (.ex (a',c') (.all ?_)))
    refine aq ?_
    have e1:ot (b.take (i+1))=ot (b.take i)++[⟨0,0,b[i]⟩]:=by unfold ot;rw[List.take_succ_eq_append_getElem hil,List.map_append];rfl
    rw[e1,List.length_append,List.flatMap_append]
    refine .pu ⟨by omega,rfl⟩ ?_
    refine .pick (by repeat constructor) (.pick (by repeat constructor) ?_)
    rw[<- ha]
    exact aw
   ·have:i=b.length:=by omega
    subst this
    rw[List.take_length]
    refine aa (aD (.ex (qa,qc) (.all ?_)))
    refine aq ?_
    exact aw
 intro ds
 refine aH .here fun q=>ap .here ?_
 obtain⟨pa,pc⟩:=q
 refine aq ?_
 (try dsimp only)
 obtain⟨hg0,hend⟩:=rA b level
 have hbf:nE b level (iK b level) [] 0 0 []=eY b level:=rfl
 generalize iK b level=l at *
 refine aF (by repeat constructor) fun f1 f2 f3 f4=>?_
 have hpc:l.length<=pc:=f2
 have hPL:RdB W (Sl 3 209 pa pc l.length (l.flatMap mi)) pa (l.length * 3) (l.flatMap mi):=nV f1 f4
 refine dx fun g8=>?_
 refine dx fun g9=>?_
 refine dx fun g10=>?_
 refine dx fun g11=>?_
 refine eE ?_;refine eE ?_;refine eE ?_
 refine o_ gI (bJ ?_);refine o_ aC ?_
 refine a_ (fun m y=>(ex fun i:Nat=>ex fun st:(Option Addr × Nat) × Nat × Nat=>ex fun X:List (fX × Bv)=>all [pu (m+i=l.length/\y= .int .i64 (i:Int)/\i<=l.length/\st.2.1<=i/\st.2.2<=eM 0 (l.take i)/\X.length<=i/\nE b level (l.drop i) ((l.drop st.2.1).take (i-st.2.1)) st.2.2 (eM 0 (l.take i)) (X.map Prod.fst)=eY b level/\∀x∈X,BkOk W (Sl 3 209 pa pc l.length (l.flatMap mi)) A x),
   pt g8 (.cells #[.slice st.1.1 X.length st.1.2] 158),Sl 3 162 st.1.1 st.1.2 X.length (X.flatMap (A8 level)),pt g9 (.cells #[.int .i64 (st.2.1:Int)] 3),pt g10 (.cells #[.int .i64 (st.2.2:Int)] 3),pt g11 (.cells #[.int .i64 (eM 0 (l.take i):Int)] 3)])::
   pt g5 (.cells #[.slice pa l.length pc] 160)::(Sl 3 209 pa pc l.length (l.flatMap mi))::pt g2 (.cells #[.slice a b.length c] 23)::pt g3 (.cells #[.int .i64 level] 3)::A::F) l.length ?_ ?_
 ·refine .ex 0 (.ex ((none,0),0,0) (.ex [] (.all ?_)))
  refine aq ?_
  refine .pu ⟨by omega,rfl,by omega,by omega,by omega,by simp,by simpa [eM]using hbf,by simp⟩ ?_
  refine .pick (by repeat constructor) ?_
  refine bR ?_
  exact aw
 intro m ds2 y
 refine aH .here fun i=>aH .here fun st=>aH .here fun X=>ap .here ?_
 obtain⟨⟨oa,oc⟩,fi,fr⟩:=st
 refine aq ?_
 refine aG .here fun hk=>?_
 (try dsimp only at hk)
 obtain⟨hmi,rfl,hil,hfi,hfr,hXi,hcut,hok⟩:=hk
 (try dsimp only)
 have hsp:x_ b 0 (l.take i++l.drop i):=by rw[List.take_append_drop];exact hg0
 obtain⟨hs1,hs2⟩:=mj.1 hsp
 have hle:=vd hs1 (by omega)
 obtain⟨e,he⟩:∃e,e=eM 0 (l.take i):=⟨_,rfl⟩
 rw[<- he]at hcut hfr hs2 hle ⊢
 refine ay az .nil (fun h=>?_) (fun h=>?_)
 ·have hi2:i<l.length:=by omega
  refine ab ?_
  rw[List.drop_eq_getElem_cons hi2]at hcut hs2
  obtain⟨hs3,hs4,_⟩:=hs2
  obtain⟨q1,q2,q3⟩:=rr hs4 hs3
  have hpn:=ns l[i]
  have hLl:((l.drop fi).take (i-fi)).length=i-fi:=by rw[List.length_take,List.length_drop];omega
  have hLp:(l.drop fi).take (i+1-fi)=(l.drop fi).take (i-fi)++[l[i]]:=by
   rw[show i+1-fi=(i-fi)+1 by omega,List.take_succ_eq_append_getElem (by rw[List.length_drop];omega),List.getElem_drop]
   congr 3
   omega
  have he1:eM 0 (l.take (i+1))=e+gF l[i]:=by rw[List.take_succ_eq_append_getElem hi2,kG,<- he];rfl
  rw[nE,hLl,show i-fi+1=i+1-fi by omega]at hcut
  obtain⟨g,o,ha,_⟩:=hPL.at_ (by omega)
  rw[ha]
  refine o_ (cR i rfl hi2) ?_
  have ld:bg p_ W [(Sl 3 209 pa pc l.length (l.flatMap mi))] (aI 209 (.pointer (some ⟨g,o+i * 3,none⟩))) (Je l[i]):=jE (vs:=mi l[i]) (by have h:=hPL;rw[ha]at h ⊢;exact h) rfl (fun j hj=>Ek hi2 j hj)
  rw[ha]at ld
  refine bt ld ?_
  rw[<- ha]
  unfold Je
  refine bp fun g=>?_;refine fO ?_;refine bJ ?_;refine o_ aj (bJ ?_)
  refine o_ zN ?_
  have e3:(if(1:Int)<(l[i]).len then(l[i]).len else 1)=(gF l[i]:Int):=by rw[q3];split <;> split <;> omega
  rw[e3]
  refine bG ?_
  rw[show(e:Int)+(gF l[i]:Int)=((e+gF l[i]:Nat):Int)from rfl]
  refine eE ?_;refine bJ ?_;refine bJ ?_;refine dX ?_;refine bJ ?_
  refine o_ aP ?_
  by_cases l0:level=0
  ·rw[dT_ l0]
   refine ae (ae (o_ aP ?_))
   by_cases n0:((e+gF l[i]:Nat):Int)-(fr:Int)=30000
   ·rw[dT_ n0]
    refine o_ ah (ao (ao (ao (dg (dg (dg (dg (dg (dg (dg (dg (dg (ao (o_ ah (ab (bG ?_))))))))))))))))
    rw[if_pos (show kM level (i+1-fi) (e+gF l[i]-fr)from .inl ⟨l0,by omega⟩)]at hcut
    rw[show(i:Int)+1=((i+1:Nat):Int)from rfl]
    refine dS (kS (fi:=fi) (to:=i+1) (fr:=fr) (at_:=e+gF (l[i])) (l:=l) (b:=b) (X:=X) (by omega) (by omega) hpc (by omega) (by omega) hc (by omega)) (by(repeat(first|exact Picks.nil|(apply Picks.cons;(focus repeat constructor))))) fun q=>?_
    obtain⟨qa,qc⟩:=q
    (try dsimp only)
    refine aq ?_
    refine bG ?_
    refine aK (m-1) (by omega) (.ex (i+1) (.ex ((qa,qc),i+1,e+gF (l[i])) (.ex (X++[((((l.drop fi).take (i+1-fi)),seg b fr (e+gF (l[i]))),((if pc=fi then pa else pa.map (·.add (fi * 3)),pc-fi),(if c=fr then a else a.map (·.add (fr * 1)),c-fr)))]) (.all ?_))))
    refine aq ?_
    refine .pu ⟨by omega,rfl,by omega,by omega,by omega,by simp;omega,?_,(BkOk.up hok ⟨by
      have:=r_ (i:=fi) (j:=i+1) (c:=pc) hPL (by omega) (by omega) hpc
      exact this,by
      have:=nN (i:=fr) (j:=(e+gF (l[i]))) (c:=c) hA (by omega) (by omega) hc
      exact this,by
      show(seg b fr (e+gF (l[i]))).length<=c-fr
      rw[jP (by omega) (by omega)];omega⟩)⟩ ?_
    ·rw[Nat.sub_self,List.take_zero,he1,List.map_append,List.map_singleton,hLp]
     exact hcut
    rw[he1]
    exact aw
   ·rw[dF_ n0]
    refine o_ ah (ae (bJ ?_));refine ae (o_ aV ?_)
    rw[dF_ (by omega)]
    refine ae (af (af (af (af (af (af (dg (dg (af (ae (o_ ag (o_ ag (aa (bG ?_))))))))))))))
    rw[if_neg (show ¬kM level (i+1-fi) (e+gF l[i]-fr)from fun h=>by rcases h with h|h <;> omega)]at hcut
    refine aK (m-1) (by omega) (.ex (i+1) (.ex ((oa,oc),fi,fr) (.ex X (.all ?_))))
    refine aq ?_
    refine .pu ⟨by omega,rfl,by omega,by omega,by omega,by omega,?_,hok⟩ ?_
    ·rw[he1,hLp]
     exact hcut
    rw[he1]
    exact aw
  ·rw[dF_ l0]
   refine af (af (o_ ag (ae (bJ ?_))));refine ae (o_ aV ?_)
   rw[dT_ (by omega)]
   refine ae (ae (ae (bG ?_)));refine ae (bJ ?_);refine ae (dX ?_);refine ae (o_ aP ?_)
   by_cases k0:(i:Int)+1-(fi:Int)=8192
   ·rw[dT_ k0]
    refine ae (ao (ao (ae (o_ ah (ae (o_ ah (o_ ag (ab (bG ?_)))))))))
    rw[if_pos (show kM level (i+1-fi) (e+gF l[i]-fr)from .inr ⟨by omega,.inl (by omega)⟩)]at hcut
    rw[show(i:Int)+1=((i+1:Nat):Int)from rfl]
    refine dS (kS (fi:=fi) (to:=i+1) (fr:=fr) (at_:=e+gF (l[i])) (l:=l) (b:=b) (X:=X) (by omega) (by omega) hpc (by omega) (by omega) hc (by omega)) (by(repeat(first|exact Picks.nil|(apply Picks.cons;(focus repeat constructor))))) fun q=>?_
    obtain⟨qa,qc⟩:=q
    (try dsimp only)
    refine aq ?_
    refine bG ?_
    refine aK (m-1) (by omega) (.ex (i+1) (.ex ((qa,qc),i+1,e+gF (l[i])) (.ex (X++[((((l.drop fi).take (i+1-fi)),seg b fr (e+gF (l[i]))),((if pc=fi then pa else pa.map (·.add (fi * 3)),pc-fi),(if c=fr then a else a.map (·.add (fr * 1)),c-fr)))]) (.all ?_))))
    refine aq ?_
    refine .pu ⟨by omega,rfl,by omega,by omega,by omega,by simp;omega,?_,(BkOk.up hok ⟨by
      have:=r_ (i:=fi) (j:=i+1) (c:=pc) hPL (by omega) (by omega) hpc
      exact this,by
      have:=nN (i:=fr) (j:=(e+gF (l[i]))) (c:=c) hA (by omega) (by omega) hc
      exact this,by
      show(seg b fr (e+gF (l[i]))).length<=c-fr
      rw[jP (by omega) (by omega)];omega⟩)⟩ ?_
    ·rw[Nat.sub_self,List.take_zero,he1,List.map_append,List.map_singleton,hLp]
     exact hcut
    rw[he1]
    exact aw
   ·rw[dF_ k0]
    refine ae (ae (ae (o_ aV ?_)))
    by_cases n0:30000<((e+gF l[i]:Nat):Int)-(fr:Int)
    ·rw[dT_ n0]
     refine ae (o_ ag (ae (o_ ah (o_ ag (ab (bG ?_))))))
     rw[if_pos (show kM level (i+1-fi) (e+gF l[i]-fr)from .inr ⟨by omega,.inr (by omega)⟩)]at hcut
     rw[show(i:Int)+1=((i+1:Nat):Int)from rfl]
     refine dS (kS (fi:=fi) (to:=i+1) (fr:=fr) (at_:=e+gF (l[i])) (l:=l) (b:=b) (X:=X) (by omega) (by omega) hpc (by omega) (by omega) hc (by omega)) (by(repeat(first|exact Picks.nil|(apply Picks.cons;(focus repeat constructor))))) fun q=>?_
     obtain⟨qa,qc⟩:=q
     (try dsimp only)
     refine aq ?_
     refine bG ?_
     refine aK (m-1) (by omega) (.ex (i+1) (.ex ((qa,qc),i+1,e+gF (l[i])) (.ex (X++[((((l.drop fi).take (i+1-fi)),seg b fr (e+gF (l[i]))),((if pc=fi then pa else pa.map (·.add (fi * 3)),pc-fi),(if c=fr then a else a.map (·.add (fr * 1)),c-fr)))]) (.all ?_))))
     refine aq ?_
     refine .pu ⟨by omega,rfl,by omega,by omega,by omega,by simp;omega,?_,(BkOk.up hok ⟨by
       have:=r_ (i:=fi) (j:=i+1) (c:=pc) hPL (by omega) (by omega) hpc
       exact this,by
       have:=nN (i:=fr) (j:=(e+gF (l[i]))) (c:=c) hA (by omega) (by omega) hc
       exact this,by
       show(seg b fr (e+gF (l[i]))).length<=c-fr
       rw[jP (by omega) (by omega)];omega⟩)⟩ ?_
     ·rw[Nat.sub_self,List.take_zero,he1,List.map_append,List.map_singleton,hLp]
      exact hcut
     rw[he1]
     exact aw
    ·rw[dF_ n0]
     refine ae (o_ ag (ae (o_ ah (o_ ag (aa (bG ?_))))))
     rw[if_neg (show ¬kM level (i+1-fi) (e+gF l[i]-fr)from fun h=>by rcases h with h|⟨_,h|h⟩ <;> omega)]at hcut
     refine aK (m-1) (by omega) (.ex (i+1) (.ex ((oa,oc),fi,fr) (.ex X (.all ?_))))
     refine aq ?_
     refine .pu ⟨by omega,rfl,by omega,by omega,by omega,by omega,?_,hok⟩ ?_
     ·rw[he1,hLp]
      exact hcut
     rw[he1]
     exact aw
 ·have hie:i=l.length:=by omega
  subst hie
  rw[List.take_length]at he
  rw[List.drop_length,nE]at hcut
  have hLl:((l.drop fi).take (l.length-fi)).length=l.length-fi:=by rw[List.length_take,List.length_drop];omega
  refine aa (bJ ?_);refine bJ ?_;refine o_ aC ?_
  by_cases f0:(fi:Int)<(l.length:Int)
  ·refine o_ az ?_
   rw[dT_ f0]
   refine ao (ao (ao (o_ ah (ab (bJ ?_)))));refine o_ aC ?_
   rw[if_pos (show(l.drop fi).take (l.length-fi)≠[]\/X.map Prod.fst=[]from .inl fun c=>by rw[c]at hLl;simp at hLl;omega)]at hcut
   refine dS (kS (fi:=fi) (to:=l.length) (fr:=fr) (at_:=e) (l:=l) (b:=b) (X:=X) (by omega) (by omega) hpc (by omega) (by omega) hc (by omega)) (by(repeat(first|exact Picks.nil|(apply Picks.cons;(focus repeat constructor))))) fun q=>?_
   obtain⟨qa,qc⟩:=q
   (try dsimp only)
   refine aq ?_
   refine bJ ?_
   refine aR ((qa,qc),(pa,pc),X++[((((l.drop fi).take (l.length-fi)),seg b fr e),((if pc=fi then pa else pa.map (·.add (fi * 3)),pc-fi),(if c=fr then a else a.map (·.add (fr * 1)),c-fr)))]) rfl ?_
   refine aq ?_
   refine .pu ⟨by rw[List.map_append,List.map_singleton];exact hcut,(BkOk.up hok ⟨by
     have:=r_ (i:=fi) (j:=l.length) (c:=pc) hPL (by omega) (by omega) hpc
     exact this,by
     have:=nN (i:=fr) (j:=e) (c:=c) hA (by omega) (by omega) hc
     exact this,by
     show(seg b fr e).length<=c-fr
     rw[jP (by omega) (by omega)];omega⟩)⟩ ?_
   exact aw
  ·refine o_ az ?_
   rw[dF_ f0]
   refine ae (bJ ?_);refine ae (o_ aC (ae (o_ aP ?_)))
   by_cases x0:(X.length:Int)=0
   ·rw[dT_ x0]
    refine o_ ag (ab (bJ ?_));refine o_ aC ?_
    rw[if_pos (show(l.drop fi).take (l.length-fi)≠[]\/X.map Prod.fst=[]from .inr (by rw[List.eq_nil_of_length_eq_zero (show X.length=0 by omega)];rfl))]at hcut
    refine dS (kS (fi:=fi) (to:=l.length) (fr:=fr) (at_:=e) (l:=l) (b:=b) (X:=X) (by omega) (by omega) hpc (by omega) (by omega) hc (by omega)) (by(repeat(first|exact Picks.nil|(apply Picks.cons;(focus repeat constructor))))) fun q=>?_
    obtain⟨qa,qc⟩:=q
    (try dsimp only)
    refine aq ?_
    refine bJ ?_
    refine aR ((qa,qc),(pa,pc),X++[((((l.drop fi).take (l.length-fi)),seg b fr e),((if pc=fi then pa else pa.map (·.add (fi * 3)),pc-fi),(if c=fr then a else a.map (·.add (fr * 1)),c-fr)))]) rfl ?_
    refine aq ?_
    refine .pu ⟨by rw[List.map_append,List.map_singleton];exact hcut,(BkOk.up hok ⟨by
      have:=r_ (i:=fi) (j:=l.length) (c:=pc) hPL (by omega) (by omega) hpc
      exact this,by
      have:=nN (i:=fr) (j:=e) (c:=c) hA (by omega) (by omega) hc
      exact this,by
      show(seg b fr e).length<=c-fr
      rw[jP (by omega) (by omega)];omega⟩)⟩ ?_
    exact aw
   ·rw[dF_ x0]
    refine o_ ag (aa (bJ ?_))
    rw[if_neg (fun c=>by rcases c with c|c;exact c (List.eq_nil_of_length_eq_zero (by omega));have:=congrArg List.length c;simp at this;rw[this]at x0;exact x0 rfl)]at hcut
    refine aR ((oa,oc),(pa,pc),X) rfl ?_
    refine .pu ⟨hcut,hok⟩ ?_
    exact aw
structure Em where
 w:Bool
 s:Int
 n:Int
 x:Int
def lQ (p:Pz):List Em:=if p.len=0 then [⟨false,p.c.toNat,0,0⟩]else [⟨false,(jp p.len).1,(jp p.len).2.1,(jp p.len).2.2⟩,⟨true,(iT p.dist).1,(iT p.dist).2.1,(iT p.dist).2.2⟩]
def lB (ps:List Pz):List Em:=ps.flatMap lQ++[⟨false,256,0,0⟩]
def t7 (p:Pz):Prop:=(p.len=0/\p.dist=0)\/(3<=p.len/\p.len<=258/\1<=p.dist/\p.dist<=32768)
def A9 (e:Em):Prop:=0<=e.s/\(e.w=false->e.s<=285)/\(e.w=true->e.s<=29)/\∃k x:Nat,e.n=k/\e.x=x/\k<=13/\x<2^k
theorem E5 {p:Pz}(h:t7 p):∀e∈lQ p,A9 e:=by
 intro e he
 unfold lQ at he
 by_cases h0:p.len=0
 ·rw[if_pos h0,List.mem_singleton]at he
  subst he
  have:=p.c.toNat_lt
  exact⟨by simp,by simp;omega,by simp,0,0,rfl,rfl,by omega,by decide⟩
 ·rw[if_neg h0]at he
  obtain⟨c1,c2,c3,c4⟩:3<=p.len/\p.len<=258/\1<=p.dist/\p.dist<=32768:=by
   rcases h with h|h
   ·exact absurd h.1 h0
   ·exact h
  obtain⟨s,x,k,hs,h1,h2,h3,h4,h5,h6,h7⟩:=At c1 c2
  obtain⟨t,y,j,ht,g1,g2,g3,g4,g5,g6⟩:=Au c3 c4
  rw[hs,ht]at he
  simp only[List.mem_cons,List.not_mem_nil,or_false]at he
  rcases he with rfl|rfl
  ·exact⟨by simp,by simp;omega,by simp,k,x,rfl,rfl,by omega,h5⟩
  ·exact⟨by simp,by simp,by simp;omega,j,y,rfl,rfl,by omega,g4⟩
theorem oM {ps:List Pz}(h:∀p∈ps,t7 p):∀e∈lB ps,A9 e:=by
 intro e he
 unfold lB at he
 rcases List.mem_append.1 he with he|he
 ·obtain⟨p,hp,he⟩:=List.mem_flatMap.1 he
  exact E5 (h p hp) e he
 ·rw[List.mem_singleton]at he
  subst he
  exact⟨by decide,by decide,by decide,0,0,rfl,rfl,by omega,by decide⟩
structure SetV where
 l:Option Addr
 ln:Nat
 lc:Nat
 c:Option Addr
 cn:Nat
 cc:Nat
def jw (s:SetV):Value:= .agg #[.slice s.l s.ln s.lc,.slice s.c s.cn s.cc]
theorem sb {W:World}{a:Option Addr}{cap:Nat}{l:List Int}{A:HP}(hr:RdB W A a l.length (l.map I))(hl:l.length<=4611686018427387904):
  Cn p_ 200 [.slice a l.length cap] W [A] (fun q:Option Addr × Nat=>jw ⟨a,l.length,cap,q.1,(gZ l).length,q.2⟩) (fun q=>[Sl 1 3 q.1 q.2 (gZ l).length ((gZ l).map I),A]):=by
 (refine Shp.cn (Sg.g_ Tryz.call200 Tryz.func200) fun F=>?_;simp only[ca_,na_])
 refine bp fun g=>?_
 refine c_ (yR hr hl) fun _=>?_
 rename_i q
 obtain⟨qa,qc⟩:=q
 (try dsimp only)
 refine fP ?_;refine fP ?_;refine o_ b_ ?_;refine fO ?_;(((refine' aT (cG ?hn) ?hi ?_);(case hi=>exact aw);(case hn=>rfl)))
 refine bq ((qa,qc)) ?_
 exact aw
theorem sd {W:World} {f:FuncId} {cap:List Value} {J:List Em->HP} {AL:HP} {pa ba:Option Addr} {pc bn bc:Nat} {level:Int} {ps:List Pz} {va vb:SetV} (hA:RdB W AL pa (ps.length * 3) (ps.flatMap mi)) (hl:ps.length<=1048576) (hg:∀p∈ps,t7 p)
  (hf:∀(d:List Em) (e:Em) (r:List Em),lB ps=d++e::r->Cn p_ f ([jw (if e.w then vb else va),.int .i64 e.s,.int .i64 e.n,.int .i64 e.x]++cap) W [J d] (fun _:Unit=> .tuple #[]) (fun _=>[J (d++[e])])):
  Cn p_ 199 [.agg #[.slice pa ps.length pc,.slice ba bn bc,.int .i64 level],jw va,jw vb,.func (.func f) #[] cap.toArray] W [AL,J []] (fun _:Unit=> .tuple #[]) (fun _=>[AL,J (lB ps)]):=by
 unfold jw at *
 (refine Shp.cn (Sg.g_ Tryz.call199 Tryz.func199 (an:={loops:=[(2,[16])]})) fun F=>?_;simp only[ca_,na_])
 refine bV fun b4=>?_
 refine bV fun b5=>?_
 refine bV fun b6=>?_
 refine o_ aj (bJ ?_);refine o_ aC ?_
 have lda:bg p_ W [pt b5 (.cells #[.slice va.l va.ln va.lc,.slice va.c va.cn va.cc] 258)] (aI 258 (.pointer (some ⟨b5,0,none⟩))) (.agg #[.slice va.l va.ln va.lc,.slice va.c va.cn va.cc]):=cg rfl
 have ldb:bg p_ W [pt b6 (.cells #[.slice vb.l vb.ln vb.lc,.slice vb.c vb.cn vb.cc] 258)] (aI 258 (.pointer (some ⟨b6,0,none⟩))) (.agg #[.slice vb.l vb.ln vb.lc,.slice vb.c vb.cn vb.cc]):=cg rfl
 refine a_ (fun m y=>(ex fun i:Nat=>all [pu (m+i=ps.length/\y= .int .i64 (i:Int)),J ((ps.take i).flatMap lQ)])::AL::pt b5 (.cells #[.slice va.l va.ln va.lc,.slice va.c va.cn va.cc] 258)::pt b6 (.cells #[.slice vb.l vb.ln vb.lc,.slice vb.c vb.cn vb.cc] 258)::F) ps.length ?_ ?_
 ·refine .ex 0 (.all ?_)
  refine aq ?_
  refine .pu ⟨by omega,rfl⟩ ?_
  exact aw
 intro m ds y
 refine aH .here fun i=>ap .here ?_
 refine aq ?_
 refine aG .here fun hk=>?_
 obtain⟨hmi,rfl⟩:=hk
 refine ay az .nil (fun h=>?_) (fun h=>?_)
 ·have hil:i<ps.length:=by omega
  have hgp:=hg _ (List.getElem_mem hil)
  have htk:(ps.take (i+1)).flatMap lQ=(ps.take i).flatMap lQ++lQ ps[i]:=by rw[List.take_succ_eq_append_getElem hil,List.flatMap_append];simp
  have hem:lB ps=(ps.take i).flatMap lQ++(lQ ps[i]++((ps.drop (i+1)).flatMap lQ++[⟨false,256,0,0⟩])):=by
   unfold lB
   rw[<- List.append_assoc,<- List.append_assoc,<- htk,<- List.flatMap_append,List.take_append_drop]
  refine ab ?_
  obtain⟨g,o,rfl,_⟩:=hA.at_ (by omega)
  refine o_ (cR i rfl hil) ?_
  have ld:bg p_ W [AL] (aI 209 (.pointer (some ⟨g,o+i * 3,none⟩))) (Je ps[i]):=jE (vs:=mi ps[i]) hA rfl (fun j hj=>Ek hil j hj)
  refine bt ld ?_
  generalize ps[i]=p at *
  unfold Je
  refine bp fun b8=>?_
  refine bS .here (by rfl) (by rfl) (by intro u hu;simp at hu;rcases hu with rfl|rfl|rfl <;> rfl) ?_
  have lf0:bg p_ W [pt b8 (.cells #[I p.len,I p.dist,Sl.B p.c] 209 (0,0))] (aI 3 (.pointer (some ⟨b8,0,none⟩))) (.int .i64 p.len):=e_ rfl
  have lf1:bg p_ W [pt b8 (.cells #[I p.len,I p.dist,Sl.B p.c] 209 (0,0))] (aI 3 (.pointer (some ⟨b8,1,none⟩))) (.int .i64 p.dist):=e_ rfl
  have lf2:bg p_ W [pt b8 (.cells #[I p.len,I p.dist,Sl.B p.c] 209 (0,0))] (aI 5 (.pointer (some ⟨b8,2,none⟩))) (.int .u8 p.c.toNat):=e_ rfl
  refine o_ aj (bt lf0 ?_)
  refine o_ aP ?_
  by_cases l0:p.len=0
  ·rw[dT_ l0]
   refine ab (bt lda ?_)
   refine o_ aj (bt lf2 ?_)
   have hc:=p.c.toNat_lt
   refine o_ (br (q:= .i64)) ?_
   rw[mx (by omega) (by omega)]
   have he:lQ p=[⟨false,p.c.toNat,0,0⟩]:=by unfold lQ;rw[if_pos l0]
   rw[he]at htk hem
   refine dS (hf _ _ _ hem) (by(repeat(first|exact Picks.nil|(apply Picks.cons;(focus repeat constructor))))) fun _=>?_
   refine aq ?_
   refine bG ?_
   refine aK (m-1) (by omega) (.ex (i+1) (.all ?_))
   refine aq ?_
   rw[htk]
   refine .pu ⟨by omega,rfl⟩ ?_
   exact aw
  ·rw[dF_ l0]
   have he:lQ p=[⟨false,(jp p.len).1,(jp p.len).2.1,(jp p.len).2.2⟩,⟨true,(iT p.dist).1,(iT p.dist).2.1,(iT p.dist).2.2⟩]:=by unfold lQ;rw[if_neg l0]
   rw[he]at htk hem
   have hbd:0<=p.len/\0<=p.dist:=by unfold t7 at hgp;omega
   refine aa (o_ aj (bt lf0 ?_))
   refine c_ (Ej (n:=p.len) (by omega)) fun _=>?_
   refine fP ?_;refine fP ?_;refine fP ?_;refine lG ?_
   refine dS (hf _ _ _ hem) (by(repeat(first|exact Picks.nil|(apply Picks.cons;(focus repeat constructor))))) fun _=>?_
   refine aq ?_
   refine o_ aj (bt lf1 ?_)
   refine c_ (yT (n:=p.dist) (by omega)) fun _=>?_
   refine fP ?_;refine fP ?_;refine fP ?_;refine lG ?_
   refine dS (hf ((ps.take i).flatMap lQ++[⟨false,(jp p.len).1,(jp p.len).2.1,(jp p.len).2.2⟩]) ⟨true,(iT p.dist).1,(iT p.dist).2.1,(iT p.dist).2.2⟩ ((ps.drop (i+1)).flatMap lQ++[⟨false,256,0,0⟩]) (by rw[hem];simp)) (by(repeat(first|exact Picks.nil|(apply Picks.cons;(focus repeat constructor))))) fun _=>?_
   refine aq ?_
   refine bG ?_
   refine aK (m-1) (by omega) (.ex (i+1) (.all ?_))
   refine aq ?_
   rw[htk]
   refine .pu ⟨by omega,rfl⟩ ?_
   rw[List.append_assoc]
   exact aw
 ·have hie:i=ps.length:=by omega
  subst hie
  rw[List.take_length]
  refine aa (bt lda ?_)
  refine dS (hf (ps.flatMap lQ) ⟨false,256,0,0⟩ [] rfl) (by(repeat(first|exact Picks.nil|(apply Picks.cons;(focus repeat constructor))))) fun _=>?_
  refine aq ?_
  refine bq () ?_
  unfold lB
  exact aw
theorem gY {W:World}{L:List HP}{A B:WP}(h1:aZ W L A)(h2:aZ W L B):aZ W L (yi A B):=fun w hw=>⟨h1 w hw,h2 w hw⟩
def fx (w:Bool)(d:List Em)(s:Nat):Nat:=d.countP fun e=>decide (e.w=w/\e.s=(s:Int))
theorem A_ (w:Bool)(d:List Em)(s:Nat):fx w d s<=d.length:=List.countP_le_length
theorem lx (w:Bool)(d:List Em)(e:Em)(s:Nat):fx w (d++[e]) s=fx w d s+if e.w=w/\e.s=(s:Int)then 1 else 0:=by
 unfold fx
 rw[List.countP_append]
 congr 1
 by_cases h:e.w=w/\e.s=(s:Int)
 ·rw[if_pos h];simp[h.1,h.2]
 ·rw[if_neg h]
  rw[List.countP_cons_of_neg (by simpa using h)];rfl
theorem H_ (p:Pz)(s:Nat):fx false (lQ p) s=(if HD p=(s:Int)then 1 else 0)/\fx true (lQ p) s=(if p.len≠0/\(iT p.dist).1=(s:Int)then 1 else 0):=by
 unfold fx lQ HD
 by_cases h0:p.len=0
 ·rw[if_pos h0,if_pos h0]
  constructor
  ·by_cases c:(p.c.toNat:Int)=(s:Int)
   ·rw[if_pos c,List.countP_cons_of_pos (by simpa using c)];rfl
   ·rw[if_neg c,List.countP_cons_of_neg (by simpa using c)];rfl
  ·rw[if_neg (fun c=>c.1 h0),List.countP_cons_of_neg (by simp)];rfl
 ·rw[if_neg h0,if_neg h0]
  constructor
  ·by_cases c:(jp p.len).1=(s:Int)
   ·rw[if_pos c,List.countP_cons_of_pos (by simpa using c),List.countP_cons_of_neg (by simp)];rfl
   ·rw[if_neg c,List.countP_cons_of_neg (by simpa using c),List.countP_cons_of_neg (by simp)];rfl
  ·by_cases c:(iT p.dist).1=(s:Int)
   ·rw[if_pos ⟨h0,c⟩,List.countP_cons_of_neg (by simp),List.countP_cons_of_pos (by simpa using c)];rfl
   ·rw[if_neg (fun x=>c x.2),List.countP_cons_of_neg (by simp),List.countP_cons_of_neg (by simpa using c)];rfl
theorem se:∀(ps:List Pz) (s:Nat),fx false (ps.flatMap lQ) s=EK ps s/\fx true (ps.flatMap lQ) s=EL ps s
 |[],s=>⟨rfl,rfl⟩
 |p::ps,s=>by
  obtain⟨h1,h2⟩:=se ps s
  obtain⟨h3,h4⟩:=H_ p s
  have key:∀w,fx w ((p::ps).flatMap lQ) s=fx w (lQ p) s+fx w (ps.flatMap lQ) s:=fun w=>by
   rw[List.flatMap_cons];unfold fx;rw[List.countP_append]
  rw[key,key,h1,h2,h3,h4]
  unfold EK EL
  constructor
  ·by_cases c:HD p=(s:Int)
   ·rw[if_pos c,List.countP_cons_of_pos (by simpa using c)];omega
   ·rw[if_neg c,List.countP_cons_of_neg (by simpa using c)];omega
  ·by_cases c:p.len≠0/\(iT p.dist).1=(s:Int)
   ·rw[if_pos c,List.countP_cons_of_pos (by simpa using c)];omega
   ·rw[if_neg c,List.countP_cons_of_neg (by simpa using c)];omega
theorem Ia (ps:List Pz):Ln 286 (fun s=>(fx false (lB ps) s:Int))=(nF ps).map I:=by
 unfold Ln nF
 rw[List.map_map]
 refine List.map_congr_left fun s _=>?_
 show I (fx false (ps.flatMap lQ++[⟨false,256,0,0⟩]) s:Int)=I ((EK ps s:Int)+if s=256 then 1 else 0)
 rw[lx,(se ps s).1]
 congr 1
 by_cases c:s=256
 ·subst c;rfl
 ·rw[if_neg c,if_neg (fun h=>c (by have:=h.2;simp only at this;omega))];rfl
theorem Ib (ps:List Pz):Ln 30 (fun s=>(fx true (lB ps) s:Int))=(nG ps).map I:=by
 unfold Ln nG
 rw[List.map_map]
 refine List.map_congr_left fun s _=>?_
 show I (fx true (ps.flatMap lQ++[⟨false,256,0,0⟩]) s:Int)=I (EL ps s:Int)
 rw[lx,(se ps s).2]
 rfl
theorem nO (ps:List Pz):(nF ps).length=286:=by simp[nF]
theorem nP (ps:List Pz):(nG ps).length=30:=by simp[nG]
def Ic (g0 g1:Nat)(d:List Em):HP:=all [Sl 1 3 (some ⟨g0,0,none⟩) 286 286 (Ln 286 fun s=>(fx false d s:Int)),Sl 1 3 (some ⟨g1,0,none⟩) 30 30 (Ln 30 fun s=>(fx true d s:Int)),pu (d.length<=4194304)]
theorem SF {W:World}{g0 g1:Nat}{d:List Em}{e:Em}(he:A9 e)(hd:d.length+1<=4194304):
  Cn p_ 229 [jw (if e.w then⟨some ⟨g1,0,none⟩,30,30,none,0,0⟩else⟨some ⟨g0,0,none⟩,286,286,none,0,0⟩),.int .i64 e.s,.int .i64 e.n,.int .i64 e.x] W [Ic g0 g1 d] (fun _:Unit=> .tuple #[]) (fun _=>[Ic g0 g1 (d++[e])]):=by
 obtain⟨w,s,n,x⟩:=e
 obtain⟨h0,h1,h2,_⟩:=he
 (try dsimp only at h0 h1 h2)
 obtain⟨N,rfl⟩:=Int.eq_ofNat_of_zero_le h0
 have key:∀(v:Bool) (m:Nat),N<m->w=v->(Ln m fun s=>(fx v d s:Int)).set N (I ((fx v d N:Int)+1))=Ln m fun s=>(fx v (d++[⟨w,(N:Int),n,x⟩]) s:Int):=fun v m hN hv=>by
  rw[oh]
  refine d4 fun j hj=>?_
  rw[lx]
  by_cases c:j=N
  ·subst c;rw[if_pos rfl,if_pos ⟨hv,rfl⟩];rfl
  ·rw[if_neg c,if_neg (fun h=>c (by have:=h.2;simp only at this;omega))];rfl
 have keep:∀(v:Bool) (m:Nat),w≠v->(Ln m fun s=>(fx v d s:Int))=Ln m fun s=>(fx v (d++[⟨w,(N:Int),n,x⟩]) s:Int):=fun v m hv=>by
  refine d4 fun j hj=>?_
  rw[lx,if_neg (fun h=>hv h.1)];rfl
 unfold jw
 cases w with
 |false=>
  have hs:=h1 rfl
  have hc:=A_ false d N
  simp only[Bool.false_eq_true,if_false]
  (refine Shp.cn (Sg.g_ Tryz.call229 Tryz.func229) fun F=>?_;simp only[ca_,na_])
  refine bV fun b4=>?_
  refine ap (.there .here) ?_
  refine aq ?_
  refine o_ aj (bJ ?_)
  refine o_ (bj N rfl (by omega)) ?_
  have hld:(Ln 286 fun s=>(fx false d s:Int))[0+N]? =some (I (fx false d N:Int)):=by rw[Nat.zero_add];exact kC (by omega)
  refine bt (cI hld) ?_
  refine bG ?_
  refine o_ (bj N rfl (by omega)) ?_
  refine fZ (by repeat constructor) (by rw[Nat.zero_add,iJ];omega) ?_
  rw[Nat.zero_add]
  refine bq () ?_
  refine .all ?_
  refine aq ?_
  rw[<- key false 286 (by omega) rfl,<- keep true 30 (by decide)]
  refine .pick (by repeat constructor) (.pick (by repeat constructor) (.pu (by rw[List.length_append];exact hd) ?_))
  exact aw
 |true=>
  have hs:=h2 rfl
  have hc:=A_ true d N
  simp only[if_true]
  (refine Shp.cn (Sg.g_ Tryz.call229 Tryz.func229) fun F=>?_;simp only[ca_,na_])
  refine bV fun b4=>?_
  refine ap (.there .here) ?_
  refine aq ?_
  refine o_ aj (bJ ?_)
  refine o_ (bj N rfl (by omega)) ?_
  have hld:(Ln 30 fun s=>(fx true d s:Int))[0+N]? =some (I (fx true d N:Int)):=by rw[Nat.zero_add];exact kC (by omega)
  refine bt (cI hld) ?_
  refine bG ?_
  refine o_ (bj N rfl (by omega)) ?_
  refine fZ (by repeat constructor) (by rw[Nat.zero_add,iJ];omega) ?_
  rw[Nat.zero_add]
  refine bq () ?_
  refine .all ?_
  refine aq ?_
  rw[<- key true 30 (by omega) rfl,<- keep false 286 (by decide)]
  refine .pick (by repeat constructor) (.pick (by repeat constructor) (.pu (by rw[List.length_append];exact hd) ?_))
  exact aw
abbrev Qs:=(Option Addr × Nat) × (Option Addr × Nat)
def sv (l:List Int)(q:Qs):SetV:=⟨q.1.1,l.length,q.1.2,q.2.1,(gZ l).length,q.2.2⟩
def eH (l:List Int)(q:Qs):HP:=all [Sl 1 3 q.1.1 q.1.2 l.length (l.map I),Sl 1 3 q.2.1 q.2.2 (gZ l).length ((gZ l).map I)]
theorem E6 (ps:List Pz):(lB ps).length<=2 * ps.length+1:=by
 unfold lB
 rw[List.length_append]
 have:∀l:List Pz,(l.flatMap lQ).length<=2 * l.length:=by
  intro l
  induction l with
  |nil=>simp
  |cons p l ih=>
   rw[List.flatMap_cons,List.length_append,List.length_cons]
   have:(lQ p).length<=2:=by unfold lQ;split <;> simp
   omega
 have:=this ps
 simp only[List.length_singleton]
 omega
theorem vB (f:List Int)(lim:Int):(dC f lim).length<=320:=by
 by_cases hE:ka f lim=0
 ·have h:=PM.gC hE
  have h1:=h.1
  have h2:=h.2.1
  omega
 ·unfold dC
  rw[if_pos hE]
  simp
theorem SG {W:World}{AL:HP}{pa ba:Option Addr}{pc bn bc:Nat}{level:Int}{ps:List Pz}(hA:RdB W AL pa (ps.length * 3) (ps.flatMap mi))(hl:ps.length<=1048576)(hg:∀p∈ps,t7 p):
  Cn p_ 202 [.agg #[.slice pa ps.length pc,.slice ba bn bc,.int .i64 level]] W [AL] (fun q:Qs × Qs=> .tuple #[jw (sv (oF ps) q.1),jw (sv (oG ps) q.2)]) (fun q=>[eH (oF ps) q.1,eH (oG ps) q.2,AL]):=by
 obtain⟨VA,hVA⟩:∃V,V=oF ps:=⟨_,rfl⟩
 obtain⟨VB,hVB⟩:∃V,V=oG ps:=⟨_,rfl⟩
 have la:VA.length<=320:=by rw[hVA];exact vB _ _
 have lb:VB.length<=320:=by rw[hVB];exact vB _ _
 rw[<- hVA,<- hVB]
 (refine Shp.cn (Sg.g_ Tryz.call202 Tryz.func202 (an:={drs:=[(1,(.alt ((.op 0 0 (.alt (.ofL [(1,0),(2,3),(3,0),(4,0)]) (.ofL [(3,0),(1,0),(2,1),(4,0)])))) ((.alt ((.op 1 0 (.alt (.ofL [(0,0),(2,3),(3,0),(4,0)]) (.ofL [(3,0),(0,0),(2,1),(4,0)])))) ((.op 3 0 (.alt (.ofL [(0,0),(1,0),(2,1),(4,0)]) (.ofL [(1,0),(0,0),(2,1),(4,0)]))))))))],rcuts:=[(2,[4])]}) (os:=[(1,[(3,[2])])])) fun F=>?_;simp only[ca_,na_])
 refine bV fun b1=>?_
 refine bp fun b2=>?_
 refine bp fun b3=>?_
 refine dD (fun z=>(ex fun q:Nat × Nat × Nat=>all [pu (z= .pointer (some ⟨q.1,0,none⟩)),pt q.1 (.cells #[.slice (some ⟨q.2.1,0,none⟩) 286 286,.slice (some ⟨q.2.2,0,none⟩) 30 30] 299),Sl 1 3 (some ⟨q.2.1,0,none⟩) 286 286 (Ln 286 fun _=>0),Sl 1 3 (some ⟨q.2.2,0,none⟩) 30 30 (Ln 30 fun _=>0)])::
  pt b1 (.cells #[.slice pa ps.length pc,.slice ba bn bc,.int .i64 level] 162)::pt b2 (.cells #[.slice none 0 0,.slice none 0 0] 258)::pt b3 (.cells #[.slice none 0 0,.slice none 0 0] 258)::AL::F) ?_ ?_
 rotate_left
 ·refine bA (gY ?_ (gY ?_ ?_))
  ·refine ep 286 286 (by rfl) (by rfl) (by omega) (by omega) (by unfold maxLen;omega) fun g0=>?_
   refine gY ?_ ?_
   ·refine ep 30 30 (by rfl) (by rfl) (by omega) (by omega) (by unfold maxLen;omega) fun g1=>?_
    refine bh b_ .nil ?_;refine bp fun g=>?_;refine cf ?_;refine fO ?_
    rename Nat=>g4
    refine aD (.ex (g4,g0,g1) (.all ?_))
    refine aq ?_
    rw[dH,dH]
    refine .pu rfl ?_
    exact aw
   ·refine bp fun g4=>?_
    refine ep 30 30 (by rfl) (by rfl) (by omega) (by omega) (by unfold maxLen;omega) fun g1=>?_
    refine t_ b_ ?_;refine fO ?_
    refine aD (.ex (g4,g0,g1) (.all ?_))
    refine aq ?_
    rw[dH,dH]
    refine .pu rfl ?_
    exact aw
  ·refine ep 30 30 (by rfl) (by rfl) (by omega) (by omega) (by unfold maxLen;omega) fun g1=>?_
   refine gY ?_ ?_
   ·refine ep 286 286 (by rfl) (by rfl) (by omega) (by omega) (by unfold maxLen;omega) fun g0=>?_
    refine bh b_ .nil ?_;refine bp fun g=>?_;refine cf ?_;refine fO ?_
    rename Nat=>g4
    refine aD (.ex (g4,g0,g1) (.all ?_))
    refine aq ?_
    rw[dH,dH]
    refine .pu rfl ?_
    exact aw
   ·refine bp fun g4=>?_
    refine ep 286 286 (by rfl) (by rfl) (by omega) (by omega) (by unfold maxLen;omega) fun g0=>?_
    refine t_ b_ ?_;refine fO ?_
    refine aD (.ex (g4,g0,g1) (.all ?_))
    refine aq ?_
    rw[dH,dH]
    refine .pu rfl ?_
    exact aw
  ·refine bp fun g4=>?_
   refine gY ?_ ?_
   ·refine ep 286 286 (by rfl) (by rfl) (by omega) (by omega) (by unfold maxLen;omega) fun g0=>?_
    refine ep 30 30 (by rfl) (by rfl) (by omega) (by omega) (by unfold maxLen;omega) fun g1=>?_
    refine t_ b_ ?_;refine fO ?_
    refine aD (.ex (g4,g0,g1) (.all ?_))
    refine aq ?_
    rw[dH,dH]
    refine .pu rfl ?_
    exact aw
   ·refine ep 30 30 (by rfl) (by rfl) (by omega) (by omega) (by unfold maxLen;omega) fun g1=>?_
    refine ep 286 286 (by rfl) (by rfl) (by omega) (by omega) (by unfold maxLen;omega) fun g0=>?_
    refine t_ b_ ?_;refine fO ?_
    refine aD (.ex (g4,g0,g1) (.all ?_))
    refine aq ?_
    rw[dH,dH]
    refine .pu rfl ?_
    exact aw
 intro ds z
 refine aH .here fun q=>ap .here ?_
 obtain⟨g4,g0,g1⟩:=q
 refine aq ?_
 refine aG .here fun hz=>?_
 subst hz
 refine lG ?_
 refine o_ (dm 0 rfl (by omega)) ?_
 refine bJ ?_;refine o_ b_ ?_
 refine o_ (dm 1 rfl (by omega)) ?_
 refine bJ ?_;refine o_ b_ ?_
 have hsym:=sd (W:=W) (f:=229) (cap:=[]) (J:=Ic g0 g1) (va:=⟨some ⟨g0,0,none⟩,286,286,none,0,0⟩) (vb:=⟨some ⟨g1,0,none⟩,30,30,none,0,0⟩) (pc:=pc) (ba:=ba) (bn:=bn) (bc:=bc) (level:=level) hA hl hg
  (fun d e r h=>SF (oM hg e (by rw[h];simp)) (by have:=E6 ps;rw[h]at this;simp at this;omega))
 refine bF (M:=Ic g0 g1 []::AL::pt g4 (.cells #[.slice (some ⟨g0,0,none⟩) 286 286,.slice (some ⟨g1,0,none⟩) 30 30] 299)::pt b2 (.cells #[.slice none 0 0,.slice none 0 0] 258)::pt b3 (.cells #[.slice none 0 0,.slice none 0 0] 258)::F) ?_ ?_
 ·refine .all ?_
  refine aq ?_
  have z1:(Ln 286 fun s=>(fx false [] s:Int))=Ln 286 fun _=>0:=rfl
  have z2:(Ln 30 fun s=>(fx true [] s:Int))=Ln 30 fun _=>0:=rfl
  rw[z1,z2]
  refine .pick (by repeat constructor) (.pick (by repeat constructor) (.pu (by simp) ?_))
  exact aw
 refine aB hsym (.cons (by repeat constructor) (.cons (by repeat constructor) .nil)) fun _=>?_
 refine aq ?_
 refine ap (.there .here) ?_
 refine aq ?_
 rw[Ia,Ib]
 refine aG (by repeat constructor) fun _=>?_
 have h0:RdB W (Sl 1 3 (some ⟨g0,0,none⟩) 286 286 ((nF ps).map I)) (some ⟨g0,0,none⟩) (nF ps).length ((nF ps).map I):=by
  rw[nO]
  exact cq (by rw[List.length_map,nO]) (fun _=>⟨g0,rfl⟩)
 have h1:RdB W (Sl 1 3 (some ⟨g1,0,none⟩) 30 30 ((nG ps).map I)) (some ⟨g1,0,none⟩) (nG ps).length ((nG ps).map I):=by
  rw[nP]
  exact cq (by rw[List.length_map,nP]) (fun _=>⟨g1,rfl⟩)
 have hla:=vr (W:=W) (cap:=286) (lim:=15) h0 (by rw[nO];omega)
 have hlb:=vr (W:=W) (cap:=30) (lim:=15) h1 (by rw[nP];omega)
 rw[nO,show dC (nF ps) 15=VA from hVA.symm]at hla
 rw[nP,show dC (nG ps) 15=VB from hVB.symm]at hlb
 refine o_ (dm 0 rfl (by omega)) ?_
 refine bJ ?_
 refine c_ hla fun _=>?_
 rename_i qa
 refine fP ?_;refine fP ?_
 refine o_ (dm 1 rfl (by omega)) ?_
 refine bJ ?_
 refine c_ hlb fun _=>?_
 rename_i qb
 refine fP ?_;refine fP ?_
 refine aF .here fun _ hnb hcb hfb=>?_
 refine aF (.there (.there .here)) fun _ hna hca hfa=>?_
 have ra:RdB W (Sl 1 3 qa.1 qa.2 VA.length (VA.map I)) qa.1 VA.length (VA.map I):=cq (by rw[List.length_map]) hfa
 have rb:RdB W (Sl 1 3 qb.1 qb.2 VB.length (VB.map I)) qb.1 VB.length (VB.map I):=cq (by rw[List.length_map]) hfb
 refine aB (sb (cap:=qa.2) ra (by omega)) (.cons (.there (.there .here)) .nil) fun ca=>?_
 refine aq ?_
 refine aB (sb (cap:=qb.2) rb (by omega)) (.cons (.there (.there .here)) .nil) fun cb=>?_
 refine aq ?_
 unfold jw
 refine fO ?_;refine fO ?_;(((refine' aT (cG ?hn) ?hi ?_);(case hi=>exact aw);(case hn=>rfl)));(((refine' aT (cG ?hn) ?hi ?_);(case hi=>exact aw);(case hn=>rfl)))
 refine bq (((qa,ca),(qb,cb))) ?_
 unfold eH
 refine .all (.pick (by repeat constructor) (.pick (by repeat constructor) (.all (.pick (by repeat constructor) (.pick (by repeat constructor) ?_)))))
 exact aw
theorem Id {L:List Bool}{e k:Nat}(hk:k<=32)(he:e<2^k)(h:L.length+k<=8388608):q9 L (e:Int) (k:Int)=0:=by
 unfold q9
 rw[if_neg,if_neg (by omega)]
 unfold nj
 rw[Int.toNat_natCast]
 have h3:((e:Nat):Int)<((2^k:Nat):Int):=Int.ofNat_lt.2 he
 push_cast at h3
 omega
theorem qk {L:List Bool}{e k:Nat}(hk:k<=32)(he:e<2^k)(h:L.length+k<=8388608):q_ L (e:Int) (k:Int)=L++aX e k:=by
 unfold q_
 rw[if_pos (Id hk he h),Int.toNat_natCast,Int.toNat_natCast]
theorem Ba {l:List Int}{s:Int}{L:List Bool}(h:L.length+(tV l s).length<=8388608):M9 (gZ l) l s L=L++tV l s:=by
 unfold M9 tV at *
 cases hs:sym (gZ l) l s with
 |none=>simp
 |some p=>
  rw[hs]at h
  simp only at h ⊢
  have hb:=Av hs
  rw[aS]at h
  exact qk (by omega) (I8 _ _) h
def t8 (la lb:List Int)(e:Em):List Bool:=tV (if e.w then lb else la) e.s++aX e.x.toNat e.n.toNat
theorem bits0 (n:Nat):aX n 0=[]:=rfl
theorem E7 (la lb:List Int)(p:Pz):(lQ p).flatMap (t8 la lb)=Cg la lb p:=by
 unfold lQ Cg
 split
 ·simp[t8,bits0]
 ·simp[t8,bits0]
theorem oN (la lb:List Int)(ps:List Pz):(lB ps).flatMap (t8 la lb)=xe la lb ps:=by
 unfold lB xe
 rw[List.flatMap_append,List.flatMap_assoc]
 congr 1
 ·exact y_ fun p _=>E7 la lb p
 ·simp[t8,bits0]
theorem xF {la lb:List Int}{ps:List Pz}{d r:List Em}{e:Em}(h:lB ps=d++e::r):(d.flatMap (t8 la lb)).length+(t8 la lb e).length<=(xe la lb ps).length:=by
 rw[<- oN,h,List.flatMap_append,List.flatMap_cons]
 simp only[List.length_append]
 omega
theorem Px {W:World}{w:Nat}:Cn p_ 201 [.pointer (some ⟨w,0,none⟩)] W [] (fun g:Nat=> .func (.func 227) #[] [.pointer (some ⟨g,0,none⟩)].toArray) (fun g=>[pt g (.cells #[.pointer (some ⟨w,0,none⟩)] 156)]):=by
 (refine Shp.cn (Sg.g_ Tryz.call201 Tryz.func201) fun F=>?_;simp only[ca_,na_])
 refine fb fun c=>?_
 refine o_ gI (bq c ?_)
 exact .refl
def vC (la lb:List Int)(qa qb:Qs)(w g:Nat)(L:List Bool)(d:List Em):HP:=all [iu w (L++d.flatMap (t8 la lb)),eH la qa,eH lb qb,pt g (.cells #[.pointer (some ⟨w,0,none⟩)] 156)]
theorem Cz (la lb:List Int)(L:List Bool)(d:List Em)(e:Em):L++(d++[e]).flatMap (t8 la lb)=(L++d.flatMap (t8 la lb)++tV (if e.w then lb else la) e.s)++aX e.x.toNat e.n.toNat:=by
 rw[List.flatMap_append]
 simp[t8]
theorem Cn.frame {P:Program}{W:World}{α:Type}{f:FuncId}{args:List Value}{A A' R:List HP}{r:α->Value}{B B':α->List HP}(h:Cn P f args W A r B)(i:∀F,aZ W (A'++F) (fun w=>sat W (A++(R++F)) w))(o:∀x F,aZ W (B x++(R++F)) (fun w=>sat W (B' x++F) w)):Cn P f args W A' r B':=
 ⟨h.call,fun F w hw=>(h.run (R++F) w (i F w hw)).mono fun e w' ⟨x,he,hs⟩=>⟨x,he,o x F w' hs⟩⟩
theorem Jr {W:World}{l:List Int}{q:Qs}{w g k x:Nat}{s:Int}{M:List Bool}(hk:k<=13)(hx:x<2^k)(hd:M.length+(tV l s).length+k<=8388608):
  Cn p_ 227 ([jw (sv l q),.int .i64 s,.int .i64 (k:Int),.int .i64 (x:Int)]++[.pointer (some ⟨g,0,none⟩)]) W [iu w M,eH l q,pt g (.cells #[.pointer (some ⟨w,0,none⟩)] 156)] (fun _:Unit=> .tuple #[]) (fun _=>[iu w ((M++tV l s)++aX x k),eH l q,pt g (.cells #[.pointer (some ⟨w,0,none⟩)] 156)]):=by
 unfold jw sv eH
 (refine Shp.cn (Sg.g_ Tryz.call227 Tryz.func227) fun F=>?_;simp only[ca_,na_])
 refine bV fun b4=>?_
 refine ap (.there (.there .here)) ?_
 refine aq ?_
 refine aF .here fun _ f1 f2 f3=>?_
 refine aF (.there .here) fun _ g1 g2 g3=>?_
 have r1:RdB W (Sl 1 3 q.1.1 q.1.2 l.length (l.map I)) q.1.1 l.length (l.map I):=cq (by rw[List.length_map]) f3
 have r2:RdB W (Sl 1 3 q.2.1 q.2.2 (gZ l).length ((gZ l).map I)) q.2.1 (gZ l).length ((gZ l).map I):=cq (by rw[List.length_map]) g3
 refine bJ ?_;refine o_ aj (bJ ?_);refine o_ aj (bJ ?_)
 refine aB (Eg (L:=M) (s:=s) r2 r1) (.cons (by repeat constructor) (.cons (by repeat constructor) (.cons (by repeat constructor) .nil))) fun _=>?_
 refine aq ?_
 rw[Ba (by omega)]
 refine bJ ?_
 refine aB (put (l:=M++tV l s) (n:=(x:Int)) (k:=(k:Int))) (.cons .here .nil) fun _=>?_
 refine aq ?_
 rw[qk (by omega) hx (by rw[List.length_append];omega)]
 refine bq () ?_
 refine .pick (by repeat constructor) (.all (.pick (by repeat constructor) (.pick (by repeat constructor) (.pick (by repeat constructor) ?_))))
 exact aw
theorem Js {W:World}{la lb:List Int}{qa qb:Qs}{w g:Nat}{L:List Bool}{d:List Em}{e:Em}(he:A9 e)(hd:L.length+(d.flatMap (t8 la lb)).length+(t8 la lb e).length<=8388608):
  Cn p_ 227 ([jw (if e.w then sv lb qb else sv la qa),.int .i64 e.s,.int .i64 e.n,.int .i64 e.x]++[.pointer (some ⟨g,0,none⟩)]) W [vC la lb qa qb w g L d] (fun _:Unit=> .tuple #[]) (fun _=>[vC la lb qa qb w g L (d++[e])]):=by
 have hsn:=Cz la lb L d e
 unfold vC
 rw[hsn]
 obtain⟨h0,h1,h2,k,x,hn,hxx,hk,hx⟩:=he
 have hel:(t8 la lb e).length=(tV (if e.w then lb else la) e.s).length+k:=by
  unfold t8
  rw[List.length_append,aS,hn,Int.toNat_natCast]
 rw[hel]at hd
 rw[hn,hxx,Int.toNat_natCast,Int.toNat_natCast]
 have hML:(L++d.flatMap (t8 la lb)).length=L.length+(d.flatMap (t8 la lb)).length:=List.length_append
 generalize L++d.flatMap (t8 la lb)=M at hML ⊢
 cases hb:e.w with
 |false=>
  rw[hb]at hd
  simp only[Bool.false_eq_true,if_false]at hd ⊢
  refine Cn.frame (R:=[eH lb qb]) (Jr (M:=M) (l:=la) (q:=qa) (w:=w) (s:=e.s) hk hx (by omega)) (fun F=>?_) (fun _ F=>?_)
  ·refine ap .here (aD ?_)
   refine aq ?_
   exact aw
  ·refine aD (.all ?_)
   refine aq ?_
   exact aw
 |true=>
  rw[hb]at hd
  simp only[if_true]at hd ⊢
  refine Cn.frame (R:=[eH la qa]) (Jr (M:=M) (l:=lb) (q:=qb) (w:=w) (s:=e.s) hk hx (by omega)) (fun F=>?_) (fun _ F=>?_)
  ·refine ap .here (aD ?_)
   refine aq ?_
   exact aw
  ·refine aD (.all ?_)
   refine aq ?_
   exact aw
theorem E8 {W:World}{a:Option Addr}{cap least:Nat}{l:List Int}{A:HP}(hr:RdB W A a l.length (l.map I))(hl:l.length<=1099511627776)(hm:least<=1099511627776):
  Cn p_ 231 [.slice a l.length cap,.int .i64 (least:Int)] W [A] (fun _:Unit=> .int .i64 (upto l least:Int)) (fun _=>[A]):=by
 (refine Shp.cn (Sg.g_ Tryz.call231 Tryz.func231 (an:={loops:=[(2,[5])]})) fun F=>?_;simp only[ca_,na_])
 refine o_ aC (a_ (fun m y=>pu (y= .int .i64 (m:Int)/\m<=l.length/\AP l least m=upto l least)::A::F) l.length ?_ ?_)
 ·exact .pu ⟨rfl,Nat.le_refl _,rfl⟩ .refl
 intro m ds y
 refine aG .here fun hk=>?_
 obtain⟨rfl,hml,hup⟩:=hk
 by_cases h1:(least:Int)<(m:Int)
 ·obtain⟨m,rfl⟩:∃k,m=k+1:=⟨m-1,by omega⟩
  refine o_ aV ?_
  rw[dT_ h1]
  obtain⟨g,o,rfl,_⟩:=hr.at_ (by omega)
  refine ae (ae (ae (dX ?_)));refine ae (o_ (bj m (by omega) (by omega)) ?_)
  refine ae (bt (bP hr (v:=I l[m]) (dK (by omega))) ?_)
  refine ae ?_
  unfold I
  refine o_ aP ?_
  rw[AP]at hup
  by_cases h2:l[m]=0
  ·rw[dT_ h2]
   refine o_ ah (ab (dX ?_))
   rw[if_pos ⟨by omega,by rw[List.getElem?_eq_getElem (by omega),h2]⟩]at hup
   refine aK m (by omega) (.pu ⟨by rw[show((m+1:Nat):Int)-1=m by omega],by omega,hup⟩ ?_)
   exact aw
  ·rw[dF_ h2]
   refine o_ ah (aa ?_)
   rw[if_neg (fun h=>h2 (by have:=h.2;rw[List.getElem?_eq_getElem (by omega)]at this;exact Option.some.inj this))]at hup
   rw[<- hup]
   refine bq () ?_
   exact aw
 ·refine o_ aV ?_
  rw[dF_ h1]
  refine af (af (af (af (af (af (o_ ag (aa ?_)))))))
  have:AP l least m=m:=by
   cases m with
   |zero=>rfl
   |succ m=>rw[AP,if_neg (by omega)]
  rw[<- hup,this]
  refine bq () ?_
  exact aw
theorem Py {W:World}{a:Option Addr}{n c:Nat}:Cn p_ 232 [.slice a n c] W [] (fun g:Nat=> .func (.func 244) #[] [.pointer (some ⟨g,0,none⟩)].toArray) (fun g=>[pt g (.cells #[.slice a n c] 197)]):=by
 (refine Shp.cn (Sg.g_ Tryz.call232 Tryz.func232) fun F=>?_;simp only[ca_,na_])
 refine fb fun c=>?_
 refine o_ gI (bq c ?_)
 exact .refl
def Jt (t:Td):Value:= .agg #[.int .i64 t.sym,.int .i64 (t.bits:Int),.int .i64 (t.extra:Int)]
def mr (row:List Int):List (List Value):=(dN row).map fun t=>[Jt t]
def yf (row:List Int):Nat->Nat
 |0=>0
 |k+1=>if yf row k<row.length then yf row k+(kb row (yf row k)).2 else yf row k
theorem sf {row:List Int}{v:Int}{i:Nat}:∀(f g n:Nat),row.length<=f+i+n->row.length<=g+i+n->ek row v i f n=ek row v i g n
 |0,0,n,_,_=>rfl
 |0,g+1,n,h,_=>by rw[ek,ek,List.getElem?_eq_none (by omega),if_neg (by simp)]
 |f+1,0,n,_,h=>by rw[ek,ek,List.getElem?_eq_none (by omega),if_neg (by simp)]
 |f+1,g+1,n,h1,h2=>by rw[ek,ek,sf f g (n+1) (by omega) (by omega)]
theorem xG {row:List Int}{v:Int}{i:Nat}:∀(f n:Nat),i+n<=row.length->i+ek row v i f n<=row.length
 |0,n,h=>h
 |f+1,n,h=>by
  rw[ek]
  split
  ·rename_i c
   have:=(List.getElem?_eq_some_iff.1 c).1
   exact xG f (n+1) (by omega)
  ·exact h
theorem sg {row:List Int}{i:Nat}(hi:i<row.length):1<=(kb row i).2/\i+(kb row i).2<=row.length:=by
 have h1:=xG (row:=row) (v:=row.getD i 0) (i:=i) row.length 1 (by omega)
 have h2:1<=ek row (row.getD i 0) i row.length 1:=by
  have key:∀f n,n<=ek row (row.getD i 0) i f n:=by
   intro f
   induction f with
   |zero=>intro n;exact Nat.le_refl _
   |succ f ih=>
    intro n
    rw[ek]
    split
    ·have:=ih (n+1);omega
    ·omega
  exact key _ _
 unfold kb
 simp only
 generalize ek row (row.getD i 0) i row.length 1=m at *
 split
 ·simp only;omega
 ·split
  ·simp only;omega
  ·split
   ·simp only;omega
   ·simp only;omega
theorem si {row:List Int}:∀(f g i:Nat),row.length<f+i->row.length<g+i->fI row f i=fI row g i
 |0,0,i,_,_=>rfl
 |0,g+1,i,h,_=>by rw[fI,fI,if_neg (by omega)]
 |f+1,0,i,_,h=>by rw[fI,fI,if_neg (by omega)]
 |f+1,g+1,i,h1,h2=>by
  rw[fI,fI]
  by_cases c:i<row.length
  ·rw[if_pos c,if_pos c,si f g _ (by have:=(sg c).1;omega) (by have:=(sg c).1;omega)]
  ·rw[if_neg c,if_neg c]
theorem oO (row:List Int):∀k,k<=(dN row).length->yf row k<=row.length/\(dN row).drop k=fI row (row.length+1) (yf row k)
 |0,_=>⟨Nat.zero_le _,rfl⟩
 |k+1,h=>by
  obtain⟨h1,h2⟩:=oO row k (by omega)
  have hlt:yf row k<row.length:=by
   rcases Nat.lt_or_ge (yf row k) row.length with c|c
   ·exact c
   ·have:=congrArg List.length h2
    rw[fI,if_neg (by omega),List.length_drop]at this
    simp at this
    omega
  have hn:=sg hlt
  rw[yf,if_pos hlt]
  refine⟨hn.2,?_⟩
  rw[<- List.tail_drop,h2,fI,if_pos hlt]
  exact si _ _ _ (by omega) (by omega)
theorem E9 {row:List Int}{k:Nat}(h:k<=(dN row).length):(yf row k<row.length↔k<(dN row).length)/\(k<(dN row).length->(dN row)[k]? =some (kb row (yf row k)).1):=by
 obtain⟨h1,h2⟩:=oO row k h
 have hl:=congrArg List.length h2
 rw[List.length_drop,fI]at hl
 by_cases c:yf row k<row.length
 ·rw[if_pos c,List.length_cons]at hl
  refine⟨⟨fun _=>by omega,fun _=>c⟩,fun d=>?_⟩
  have:(dN row)[k]? =((dN row).drop k)[0]? :=by rw[List.getElem?_drop];rfl
  rw[this,h2,fI,if_pos c];rfl
 ·rw[if_neg c]at hl
  simp at hl
  exact⟨⟨fun d=>absurd d c,fun d=>by omega⟩,fun d=>by omega⟩
theorem Ju {W:World} {c1 l:Nat} {a:Option Addr} {n c:Nat} {row:List Int} {A:HP} {G:Nat->HP} {Gx T T':HP} (hA:RdB W A a row.length (row.map I)) (hl:row.length<=1099511627776)
  (hy:kl p_ l (mr row) (fun k=>all [T,all [pt c1 (.cells #[.slice a row.length c] 197),A,G k]]) (all [T',Gx]) W):
  Cn p_ 244 [yv l,.pointer (some ⟨c1,0,none⟩)] W [all [T,all [pt c1 (.cells #[.slice a row.length c] 197),A,G 0]]] (fun _:Bool=> .tuple #[])
   (fun r=>[if r then all [T,all [pt c1 (.cells #[.slice a row.length c] 197),A,G (mr row).length]]else all [T',Gx]]):=by
 have hTl:(mr row).length=(dN row).length:=by simp[mr]
 rw[hTl]
 (refine Shp.cn (Sg.g_ Tryz.call244 Tryz.func244 (an:={cuts:=[(15,[5])],loops:=[(1,[3]),(3,[5])]})) fun F=>?_;simp only[ca_,na_])
 refine ap .here ?_
 refine aq ?_
 refine ap (.there .here) ?_
 refine aq ?_
 refine a_ (fun m y=>(ex fun k:Nat=>all [pu (m+k=(dN row).length/\y= .int .i64 (yf row k:Int)),T,G k])::pt c1 (.cells #[.slice a row.length c] 197)::A::F) (dN row).length ?_ ?_
 ·refine .ex 0 (.all (.pu ⟨by omega,rfl⟩ ?_))
  refine aq ?_
  exact aw
 intro m ds y
 refine aH .here fun k=>ap .here ?_
 refine aq ?_
 refine aG .here fun hk=>?_
 obtain⟨hmk,rfl⟩:=hk
 obtain⟨g1,g2⟩:=E9 (row:=row) (k:=k) (by omega)
 obtain⟨d1,d2⟩:=oO row k (by omega)
 obtain⟨i,hi⟩:∃i,i=yf row k:=⟨_,rfl⟩
 have hnx:yf row (k+1)=if i<row.length then i+(kb row i).2 else i:=by rw[yf,<- hi]
 rw[<- hi]at g1 g2 d1 ⊢
 refine bJ ?_;refine o_ aC ?_
 by_cases h1:(i:Int)<(row.length:Int)
 rotate_left
 ·refine o_ az ?_
  rw[dF_ h1]
  refine aa ?_
  have:k=(dN row).length:=by
   rcases Nat.lt_or_ge k (dN row).length with c|c
   ·exact absurd (g1.2 c) (by omega)
   ·omega
  subst this
  refine bq true ?_
  refine .all ?_
  refine aq ?_
  refine .pick (by repeat constructor) (.all ?_)
  refine aq ?_
  exact aw
 have hil:i<row.length:=by omega
 have hkl:=g1.1 hil
 refine o_ az ?_
 rw[dT_ h1]
 refine ab (bJ ?_)
 obtain⟨g,o,rfl,_⟩:=hA.at_ (by omega)
 refine o_ (bj i rfl hil) ?_
 refine bt (bP hA (v:=I row[i]) (dK hil)) ?_
 obtain⟨v,hv⟩:∃v,v=row[i]:=⟨_,rfl⟩
 have hvi:row[i]? =some v:=by rw[hv];exact List.getElem?_eq_getElem hil
 have hgd:row.getD i 0=v:=by rw[List.getD_eq_getElem?_getD,hvi];rfl
 rw[<- hv]
 unfold I
 obtain⟨N,hN⟩:∃N,N=ek row v i row.length 1:=⟨_,rfl⟩
 refine a_ (fun m2 y=>(ex fun n:Nat=>pu (m2+i+n=row.length/\y= .int .i64 (n:Int)/\1<=n/\ek row v i m2 n=N))::T::G k::pt c1 (.cells #[.slice (some ⟨g,o,none⟩) row.length c] 197)::A::F) (row.length-i-1) ?_ ?_
 ·exact .ex 1 (.pu ⟨by omega,rfl,by omega,by rw[hN];exact sf _ _ _ (by omega) (by omega)⟩ .refl)
 intro m2 ds y5
 refine aH .here fun n=>aG .here fun hn=>?_
 obtain⟨hmn,rfl,hn1,hs⟩:=hn
 have stop:m2=0\/¬row[i+n]? =some v->n=N:=fun h=>by
  rw[<- hs]
  rcases h with rfl|h
  ·rfl
  ·cases m2 with
   |zero=>rfl
   |succ m2=>rw[ek,if_neg h]
 refine bG ?_;refine bJ ?_;refine o_ aC ?_
 by_cases h2:(i:Int)+(n:Int)<(row.length:Int)
 ·refine o_ az ?_
  rw[dT_ h2]
  refine ae (bJ ?_);refine ae (ae (ae (bG ?_)));refine ae (o_ (bj (i+n) (by rfl) (by omega)) ?_)
  refine ae (bt (bP hA (v:=I row[i+n]) (dK (by omega))) ?_)
  refine ae (ae ?_)
  unfold I
  refine o_ aP ?_
  by_cases h3:row[i+n]=v
  ·rw[dT_ h3]
   refine o_ ah (ab (bG ?_))
   obtain⟨m2,rfl⟩:∃x,m2=x+1:=⟨m2-1,by omega⟩
   refine aK m2 (by omega) (.ex (n+1) (.pu ⟨by omega,rfl,by omega,?_⟩ aw))
   rw[<- hs,ek,if_pos (by rw[List.getElem?_eq_getElem (by omega),h3])]
  ·rw[dF_ h3]
   refine o_ ah (aa (o_ b_ ?_));refine bp fun g=>?_;refine fO ?_
   have hnN:=stop (by rw[List.getElem?_eq_getElem (by omega)];exact .inr (fun h=>h3 (Option.some.inj h)))
   clear stop hs
   subst hnN
   rename Nat=>gt
   have htd:kb row i=if v=0/\11<=n then(⟨18,7,min n 138-11⟩,min n 138)else if v=0/\3<=n then(⟨17,3,n-3⟩,n)else if(v≠0/\3<=n)/\(0<i/\row[i-1]? =some v)then(⟨16,2,min n 6-3⟩,min n 6)else(⟨v,0,0⟩,1):=by
    unfold kb
    simp only
    rw[hgd,<- hN]
   have htn:=sg hil
   obtain⟨tn,htn2⟩:∃tn,tn=kb row i:=⟨_,rfl⟩
   rw[<- htn2]at htd htn hnx g2
   refine dD (fun z=>pu (z= .int .i64 (tn.2:Int))::pt gt (.cells #[.int .i64 tn.1.sym,.int .i64 (tn.1.bits:Int),.int .i64 (tn.1.extra:Int)] 306)::T::G k::pt c1 (.cells #[.slice (some ⟨g,o,none⟩) row.length c] 197)::A::F) ?_ ?_
   rotate_left
   ·refine o_ aP ?_
    by_cases k0:v=0
    ·rw[dT_ k0]
     refine ae (ae (o_ cH ?_))
     by_cases k11:(11:Int)<=(n:Int)
     ·rw[dT_ k11]
      refine o_ ah (ab (o_ qx ?_))
      rw[if_pos ⟨k0,by omega⟩]at htd
      rw[show(if(138:Int)<(n:Int)then(138:Int)else(n:Int))=((min n 138:Nat):Int) by split <;> omega]
      refine dX ?_;refine o_ b_ ?_;refine fO ?_
      refine aD (.pu (by rw[htd]) (.pick (by rw[htd];simp only;rw[show((min n 138-11:Nat):Int)=((min n 138:Nat):Int)-11 by omega];(repeat constructor)) ?_))
      exact aw
     ·rw[dF_ k11]
      rw[if_neg (fun h=>k11 (by omega))]at htd
      refine o_ ah (aa (o_ aP ?_))
      rw[dT_ k0]
      refine ae (ae (o_ cH ?_))
      by_cases k3:(3:Int)<=(n:Int)
      ·rw[dT_ k3]
       rw[if_pos ⟨k0,by omega⟩]at htd
       refine o_ ah (ab (dX ?_));refine o_ b_ ?_;refine fO ?_
       refine aD (.pu (by rw[htd]) (.pick (by rw[htd];simp only;rw[show((n-3:Nat):Int)=(n:Int)-3 by omega];(repeat constructor)) ?_))
       exact aw
      ·rw[dF_ k3]
       rw[if_neg (fun h=>k3 (by omega)),if_neg (fun h=>h.1.1 k0)]at htd
       refine o_ ah (aa (o_ bK ?_))
       rw[dF_ (fun h=>h k0)]
       refine af (af (o_ ag (af (af (o_ ag (af (af (af (af (af (af (af (o_ ag (aa (aD (.pu (by rw[htd];rfl) (.pick (by rw[htd];simp only;(repeat constructor)) ?_)))))))))))))))))
       exact aw
    ·rw[dF_ k0]
     rw[if_neg (fun h=>k0 h.1),if_neg (fun h=>k0 h.1)]at htd
     refine af (af (o_ ag (aa (o_ aP ?_))))
     rw[dF_ k0]
     refine af (af (o_ ag (aa (o_ bK ?_))))
     rw[dT_ k0]
     refine ae (ae (o_ cH ?_))
     by_cases k3:(3:Int)<=(n:Int)
     ·rw[dT_ k3]
      refine o_ ah (ae (ae (o_ aV ?_)))
      by_cases ki:(0:Int)<(i:Int)
      ·rw[dT_ ki]
       refine o_ ah (ae (bJ ?_));refine ae (ae (dX ?_));refine ae (o_ (bj (i-1) (by omega) (by omega)) ?_)
       refine ae (bt (bP hA (v:=I row[i-1]) (dK (by omega))) ?_)
       refine ae (ae ?_)
       unfold I
       refine o_ aP ?_
       by_cases kv:row[i-1]=v
       ·rw[dT_ kv]
        rw[if_pos ⟨⟨k0,by omega⟩,by omega,by rw[List.getElem?_eq_getElem (by omega),kv]⟩]at htd
        refine o_ ah (ab (o_ qx ?_))
        rw[show(if(6:Int)<(n:Int)then(6:Int)else(n:Int))=((min n 6:Nat):Int) by split <;> omega]
        refine dX ?_;refine o_ b_ ?_;refine fO ?_
        refine aD (.pu (by rw[htd]) (.pick (by rw[htd];simp only;rw[show((min n 6-3:Nat):Int)=((min n 6:Nat):Int)-3 by omega];(repeat constructor)) ?_))
        exact aw
       ·rw[dF_ kv]
        rw[if_neg (fun h=>kv (by have:=h.2.2;rw[List.getElem?_eq_getElem (by omega)]at this;exact Option.some.inj this))]at htd
        refine o_ ah (aa (aD (.pu (by rw[htd];rfl) (.pick (by rw[htd];simp only;(repeat constructor)) ?_))))
        exact aw
      ·rw[dF_ ki]
       rw[if_neg (fun h=>ki (by omega))]at htd
       refine o_ ah (af (af (af (af (af (af (af (o_ ag (aa (aD (.pu (by rw[htd];rfl) (.pick (by rw[htd];simp only;(repeat constructor)) ?_))))))))))))
       exact aw
     ·rw[dF_ k3]
      rw[if_neg (fun h=>k3 (by omega))]at htd
      refine o_ ah (af (af (o_ ag (af (af (af (af (af (af (af (o_ ag (aa (aD (.pu (by rw[htd];rfl) (.pick (by rw[htd];simp only;(repeat constructor)) ?_)))))))))))))))
      exact aw
   ·intro ds z
    refine aG .here fun hz=>?_
    subst hz
    refine lG ?_
    refine bF (M:=all [T,all [pt c1 (.cells #[.slice (some ⟨g,o,none⟩) row.length c] 197),A,G k]]::F) ?_ ?_
    ·refine .all ?_
     refine aq ?_
     refine .pick (by repeat constructor) (.all ?_)
     refine aq ?_
     exact aw
    have hget:(mr row)[k]? =some [Jt tn.1]:=by
     unfold mr
     rw[List.getElem?_map,g2 hkl];rfl
    refine iZ hy k hget .here ?_ ?_
    ·(refine o_ dJ ?_);refine aa ?_;refine bG ?_
     refine ap .here ?_
     refine aq ?_
     refine ap (.there .here) ?_
     refine aq ?_
     rw[if_pos hil]at hnx
     refine aK (m-1) (by omega) (.ex (k+1) (.all (.pu ⟨by omega,by rw[hnx];norm_cast⟩ ?_)))
     refine aq ?_
     exact aw
    ·(refine o_ dh ?_);refine ab ?_
     refine bq false ?_
     exact aw
 ·refine o_ az ?_
  rw[dF_ h2]
  refine af (af (af (af (af (af (af (af (o_ ag (aa (o_ b_ ?_))))))))));refine bp fun g=>?_;refine fO ?_
  have hnN:=stop (by exact .inl (by omega))
  clear stop hs
  subst hnN
  rename Nat=>gt
  have htd:kb row i=if v=0/\11<=n then(⟨18,7,min n 138-11⟩,min n 138)else if v=0/\3<=n then(⟨17,3,n-3⟩,n)else if(v≠0/\3<=n)/\(0<i/\row[i-1]? =some v)then(⟨16,2,min n 6-3⟩,min n 6)else(⟨v,0,0⟩,1):=by
   unfold kb
   simp only
   rw[hgd,<- hN]
  have htn:=sg hil
  obtain⟨tn,htn2⟩:∃tn,tn=kb row i:=⟨_,rfl⟩
  rw[<- htn2]at htd htn hnx g2
  refine dD (fun z=>pu (z= .int .i64 (tn.2:Int))::pt gt (.cells #[.int .i64 tn.1.sym,.int .i64 (tn.1.bits:Int),.int .i64 (tn.1.extra:Int)] 306)::T::G k::pt c1 (.cells #[.slice (some ⟨g,o,none⟩) row.length c] 197)::A::F) ?_ ?_
  rotate_left
  ·refine o_ aP ?_
   by_cases k0:v=0
   ·rw[dT_ k0]
    refine ae (ae (o_ cH ?_))
    by_cases k11:(11:Int)<=(n:Int)
    ·rw[dT_ k11]
     refine o_ ah (ab (o_ qx ?_))
     rw[if_pos ⟨k0,by omega⟩]at htd
     rw[show(if(138:Int)<(n:Int)then(138:Int)else(n:Int))=((min n 138:Nat):Int) by split <;> omega]
     refine dX ?_;refine o_ b_ ?_;refine fO ?_
     refine aD (.pu (by rw[htd]) (.pick (by rw[htd];simp only;rw[show((min n 138-11:Nat):Int)=((min n 138:Nat):Int)-11 by omega];(repeat constructor)) ?_))
     exact aw
    ·rw[dF_ k11]
     rw[if_neg (fun h=>k11 (by omega))]at htd
     refine o_ ah (aa (o_ aP ?_))
     rw[dT_ k0]
     refine ae (ae (o_ cH ?_))
     by_cases k3:(3:Int)<=(n:Int)
     ·rw[dT_ k3]
      rw[if_pos ⟨k0,by omega⟩]at htd
      refine o_ ah (ab (dX ?_));refine o_ b_ ?_;refine fO ?_
      refine aD (.pu (by rw[htd]) (.pick (by rw[htd];simp only;rw[show((n-3:Nat):Int)=(n:Int)-3 by omega];(repeat constructor)) ?_))
      exact aw
     ·rw[dF_ k3]
      rw[if_neg (fun h=>k3 (by omega)),if_neg (fun h=>h.1.1 k0)]at htd
      refine o_ ah (aa (o_ bK ?_))
      rw[dF_ (fun h=>h k0)]
      refine af (af (o_ ag (af (af (o_ ag (af (af (af (af (af (af (af (o_ ag (aa (aD (.pu (by rw[htd];rfl) (.pick (by rw[htd];simp only;(repeat constructor)) ?_)))))))))))))))))
      exact aw
   ·rw[dF_ k0]
    rw[if_neg (fun h=>k0 h.1),if_neg (fun h=>k0 h.1)]at htd
    refine af (af (o_ ag (aa (o_ aP ?_))))
    rw[dF_ k0]
    refine af (af (o_ ag (aa (o_ bK ?_))))
    rw[dT_ k0]
    refine ae (ae (o_ cH ?_))
    by_cases k3:(3:Int)<=(n:Int)
    ·rw[dT_ k3]
     refine o_ ah (ae (ae (o_ aV ?_)))
     by_cases ki:(0:Int)<(i:Int)
     ·rw[dT_ ki]
      refine o_ ah (ae (bJ ?_));refine ae (ae (dX ?_));refine ae (o_ (bj (i-1) (by omega) (by omega)) ?_)
      refine ae (bt (bP hA (v:=I row[i-1]) (dK (by omega))) ?_)
      refine ae (ae ?_)
      unfold I
      refine o_ aP ?_
      by_cases kv:row[i-1]=v
      ·rw[dT_ kv]
       rw[if_pos ⟨⟨k0,by omega⟩,by omega,by rw[List.getElem?_eq_getElem (by omega),kv]⟩]at htd
       refine o_ ah (ab (o_ qx ?_))
       rw[show(if(6:Int)<(n:Int)then(6:Int)else(n:Int))=((min n 6:Nat):Int) by split <;> omega]
       refine dX ?_;refine o_ b_ ?_;refine fO ?_
       refine aD (.pu (by rw[htd]) (.pick (by rw[htd];simp only;rw[show((min n 6-3:Nat):Int)=((min n 6:Nat):Int)-3 by omega];(repeat constructor)) ?_))
       exact aw
      ·rw[dF_ kv]
       rw[if_neg (fun h=>kv (by have:=h.2.2;rw[List.getElem?_eq_getElem (by omega)]at this;exact Option.some.inj this))]at htd
       refine o_ ah (aa (aD (.pu (by rw[htd];rfl) (.pick (by rw[htd];simp only;(repeat constructor)) ?_))))
       exact aw
     ·rw[dF_ ki]
      rw[if_neg (fun h=>ki (by omega))]at htd
      refine o_ ah (af (af (af (af (af (af (af (o_ ag (aa (aD (.pu (by rw[htd];rfl) (.pick (by rw[htd];simp only;(repeat constructor)) ?_))))))))))))
      exact aw
    ·rw[dF_ k3]
     rw[if_neg (fun h=>k3 (by omega))]at htd
     refine o_ ah (af (af (o_ ag (af (af (af (af (af (af (af (o_ ag (aa (aD (.pu (by rw[htd];rfl) (.pick (by rw[htd];simp only;(repeat constructor)) ?_)))))))))))))))
     exact aw
  ·intro ds z
   refine aG .here fun hz=>?_
   subst hz
   refine lG ?_
   refine bF (M:=all [T,all [pt c1 (.cells #[.slice (some ⟨g,o,none⟩) row.length c] 197),A,G k]]::F) ?_ ?_
   ·refine .all ?_
    refine aq ?_
    refine .pick (by repeat constructor) (.all ?_)
    refine aq ?_
    exact aw
   have hget:(mr row)[k]? =some [Jt tn.1]:=by
    unfold mr
    rw[List.getElem?_map,g2 hkl];rfl
   refine iZ hy k hget .here ?_ ?_
   ·(refine o_ dJ ?_);refine aa ?_;refine bG ?_
    refine ap .here ?_
    refine aq ?_
    refine ap (.there .here) ?_
    refine aq ?_
    rw[if_pos hil]at hnx
    refine aK (m-1) (by omega) (.ex (k+1) (.all (.pu ⟨by omega,by rw[hnx];norm_cast⟩ ?_)))
    refine aq ?_
    exact aw
   ·(refine o_ dh ?_);refine ab ?_
    refine bq false ?_
    exact aw
theorem ud {p q:Nat->Bool}{N:Nat}(h:∀j,j≠N->p j=q j):∀n,(List.range n).countP q+(if N<n then(p N).toNat else 0)=(List.range n).countP p+(if N<n then(q N).toNat else 0)
 |0=>by simp
 |n+1=>by
  have ih:=ud h n
  rw[List.range_succ,List.countP_append,List.countP_append]
  have e1:∀r:Nat->Bool,[n].countP r=(r n).toNat:=fun r=>by
   cases hr:r n with
   |true=>rw[List.countP_cons_of_pos hr];rfl
   |false=>rw[List.countP_cons_of_neg (by simp[hr])];rfl
  rw[e1,e1]
  by_cases c:n=N
  ·subst c
   rw[if_neg (by omega),if_neg (by omega)]at ih
   rw[if_pos (by omega),if_pos (by omega)]
   omega
  ·rw[h n c]
   by_cases d:N<n
   ·rw[if_pos d,if_pos d]at ih
    rw[if_pos (by omega),if_pos (by omega)]
    omega
   ·rw[if_neg d,if_neg d]at ih
    rw[if_neg (by omega),if_neg (by omega)]
    omega
def CA (T:List Td):Nat:=(fg T).countP fun x=>decide (0<x)
theorem oP (T:List Td)(t:Td)(s:Nat):fQ (T++[t]) s=fQ T s+if t.sym=(s:Int)then 1 else 0:=by
 unfold fQ
 rw[List.countP_append]
 by_cases c:t.sym=(s:Int)
 ·rw[if_pos c,List.countP_cons_of_pos (by simpa using c)];rfl
 ·rw[if_neg c,List.countP_cons_of_neg (by simpa using c)];rfl
theorem E_ {T:List Td}{t:Td}{N:Nat}(ht:t.sym=(N:Int))(hN:N<19):CA (T++[t])=CA T+if fQ T N+1=1 then 1 else 0:=by
 have e:∀T:List Td,CA T=(List.range 19).countP fun s=>decide (0<(fQ T s:Int)):=fun T=>by
  unfold CA fg
  rw[List.countP_map];rfl
 have:=ud (p:=fun s=>decide (0<(fQ T s:Int))) (q:=fun s=>decide (0<(fQ (T++[t]) s:Int))) (N:=N) (fun j hj=>by
  rw[oP,if_neg (fun h=>hj (by omega))];rfl) 19
 rw[if_pos hN,if_pos hN,<- e,<- e]at this
 rw[oP,ht,if_pos rfl]at this
 by_cases c:fQ T N+1=1
 ·rw[if_pos c]
  rw[dF_ (by omega),dT_ (by omega)]at this
  exact this
 ·rw[if_neg c]
  rw[dT_ (by omega),dT_ (by omega)]at this
  simp only[Bool.toNat_true]at this
  omega
theorem Bb (T:List Td)(s:Nat):fQ T s<=T.length:=List.countP_le_length
theorem Fa (T:List Td):CA T<=19:=by
 unfold CA
 refine Nat.le_trans List.countP_le_length ?_
 simp[fg]
theorem Ie (T:List Td):(fg T).map I=Ln 19 fun s=>(fQ T s:Int):=by
 unfold Ln fg
 rw[List.map_map];rfl
theorem Ig:∀c:Fin 19,∃k,gO[c.1]? =some k/\k<19:=by decide
theorem je {L:List Bool}{n k:Int}{e j:Nat}(hn:n=(e:Int))(hk:k=(j:Int))(h1:j<=32)(h2:e<2^j)(h:L.length+j<=8388608):q_ L n k=L++aX e j:=by
 rw[hn,hk]
 exact qk h1 h2 h
def zj (l:List Int)(t:Td):List Bool:=tV l t.sym++aX t.extra t.bits
theorem oQ {α:Type}{f:α->List Bool}{l:List α}{k:Nat}(h:k<l.length):(l.take (k+1)).flatMap f=(l.take k).flatMap f++f l[k]:=by
 rw[List.take_succ_eq_append_getElem h,List.flatMap_append];simp
theorem Bc {α:Type}{f:α->List Bool}{l:List α}{k:Nat}(h:k<l.length):((l.take k).flatMap f).length+(f l[k]).length<=(l.flatMap f).length:=by
 have e:l.flatMap f=(l.take (k+1)).flatMap f++(l.drop (k+1)).flatMap f:=by rw[<- List.flatMap_append,List.take_append_drop]
 rw[e,List.length_append,oQ h,List.length_append]
 omega
theorem head {W:World}{w:Nat}{la lb:List Int}{qa qb:Qs}{L:List Bool}(va:∀x∈la,0<=x/\x<=15)(vb:∀x∈lb,0<=x/\x<=15)(h1:la.length=286)(h2:lb.length=30)(hL:L.length+(Ci la lb).length<=8388608):
  Cn p_ 203 [.pointer (some ⟨w,0,none⟩),jw (sv la qa),jw (sv lb qb)] W [iu w L,eH la qa,eH lb qb] (fun _:Unit=> .tuple #[]) (fun _=>[iu w (L++Ci la lb),eH la qa,eH lb qb]):=by
 obtain⟨T,hT⟩:∃T,T=dN (gR la lb):=⟨_,rfl⟩
 obtain⟨u1,u2,u3⟩:=vt la 257 (by omega)
 obtain⟨w1,w2,w3⟩:=vt lb 1 (by omega)
 have hrow:(gR la lb).length=upto la 257+upto lb 1:=by
  unfold gR;rw[List.length_append,List.length_take,List.length_take];omega
 have hrv:=AR va vb
 have hTl:T.length<=1000:=by
  have:=lr (gR la lb) ((gR la lb).length+1) 0
  rw[hT];unfold dN;omega
 have hTs:∀t∈T,0<=t.sym/\t.sym<=18/\t.extra<2^t.bits/\t.bits<=7:=fun t ht=>oI hrv _ _ t (by rw[hT]at ht;exact ht)
 have hTv:mr (gR la lb)=T.map fun t=>[Jt t]:=by unfold mr;rw[hT]
 obtain⟨D,hD⟩:∃D,D=lN la lb:=⟨_,rfl⟩
 have hDe:dC (kc T) 7=D:=by rw[hD,hT];rfl
 have hDE:ka (kc T) 7=0:=by rw[hT];exact Le (by omega)
 have hD19:D.length=19:=by rw[<- hDe,(PM.gC hDE).1];unfold kc;rw[rT];simp[fg]
 have hDv:∀x∈D,0<=x/\x<=7:=fun x hx=>(PM.gC hDE).2.2.2.2.1 x (by rw[hDe];exact hx)
 have hlim:=vB (kc T) 7
 obtain⟨O,hO⟩:∃O,O=lO D:=⟨_,rfl⟩
 have hO19:O.length=19:=by rw[hO];simp[lO,gO]
 have hOv:∀x∈O,0<=x/\x<=7:=fun x hx=>by
  rw[hO]at hx
  obtain⟨k,_,rfl⟩:=List.mem_map.1 hx
  rw[List.getD_eq_getElem?_getD]
  cases hk:D[k]? with
  |none=>exact⟨by simp,by simp⟩
  |some y=>exact hDv y (List.mem_of_getElem? hk)
 obtain⟨q1,q2,q3⟩:=vt O 4 (by omega)
 obtain⟨c,hc⟩:∃c,c=upto O 4:=⟨_,rfl⟩
 rw[<- hc]at q1 q2 q3
 have hX:Ci la lb=aX (upto la 257-257) 5++(aX (upto lb 1-1) 5++(aX (c-4) 4++((O.take c).flatMap (fun n=>aX n.toNat 3)++T.flatMap (zj D)))):=by
  unfold Ci
  simp only
  rw[<- hD,<- hO,<- hc,<- hT]
  simp only[List.append_assoc]
  rfl
 rw[hX]at hL ⊢
 simp only[List.length_append,aS]at hL
 obtain⟨M0,hM0⟩:∃M0,M0=L++(aX (upto la 257-257) 5++(aX (upto lb 1-1) 5++aX (c-4) 4)):=⟨_,rfl⟩
 have hM0l:M0.length=L.length+14:=by rw[hM0];simp only[List.length_append,aS]
 have hfin:L++(aX (upto la 257-257) 5++(aX (upto lb 1-1) 5++(aX (c-4) 4++((O.take c).flatMap (fun n=>aX n.toNat 3)++T.flatMap (zj D)))))=M0++(O.take c).flatMap (fun n=>aX n.toNat 3)++T.flatMap (zj D):=by
  rw[hM0];simp only[List.append_assoc]
 rw[hfin]
 have hrowe:gR la lb=la.take (upto la 257)++lb.take (upto lb 1):=rfl
 obtain⟨R,hR⟩:∃R,R=gR la lb:=⟨_,rfl⟩
 rw[<- hR]at hrow hTv hrowe
 obtain⟨ua,hua⟩:∃ua,ua=upto la 257:=⟨_,rfl⟩
 obtain⟨ub_,hub⟩:∃ub_,ub_=upto lb 1:=⟨_,rfl⟩
 unfold jw sv
 (refine S.qJ.cn fun F=>?_;unfold S.mT;simp only[ca_,na_])
 refine fb fun b3=>?_
 refine bV fun b4=>?_
 refine bV fun b5=>?_
 refine ap (M:=[Sl 1 3 qa.1.1 qa.1.2 la.length (la.map I),Sl 1 3 qa.2.1 qa.2.2 (gZ la).length ((gZ la).map I)]) (.there (.there (.there (.there .here)))) ?_
 refine aq ?_
 refine ap (M:=[Sl 1 3 qb.1.1 qb.1.2 lb.length (lb.map I),Sl 1 3 qb.2.1 qb.2.2 (gZ lb).length ((gZ lb).map I)]) (.there (.there (.there (.there (.there (.there .here)))))) ?_
 refine aq ?_
 refine aF (p:=(by(repeat constructor):Pick _ (Sl 1 3 qa.1.1 qa.1.2 la.length (la.map I)) _)) fun _ fa2 fa3 fa4=>?_
 refine aF (p:=(by(repeat constructor):Pick _ (Sl 1 3 qb.1.1 qb.1.2 lb.length (lb.map I)) _)) fun _ fb2 fb3 fb4=>?_
 obtain⟨⟨qaa,qac⟩,qcc⟩:=qa
 obtain⟨⟨qba,qbc⟩,qdc⟩:=qb
 (try dsimp only at *)
 obtain⟨ga,rfl⟩:=fa4 (by omega)
 obtain⟨gb,rfl⟩:=fb4 (by omega)
 have ra:RdB W (Sl 1 3 (some ⟨ga,0,none⟩) qac la.length (la.map I)) (some ⟨ga,0,none⟩) la.length (la.map I):=cq (by rw[List.length_map]) (fun _=>⟨ga,rfl⟩)
 have rb:RdB W (Sl 1 3 (some ⟨gb,0,none⟩) qbc lb.length (lb.map I)) (some ⟨gb,0,none⟩) lb.length (lb.map I):=cq (by rw[List.length_map]) (fun _=>⟨gb,rfl⟩)
 refine bA (t_ aj (ew ?_));refine bh aj .nil ?_;(((refine' bh (bC ?hc) ?hi ?_);(case hi=>exact .pick (by repeat constructor) .nil);(case hc=>repeat constructor)))
 refine c_ (E8 (cap:=qac) (least:=257) ra (by omega) (by omega)) fun _=>?_
 refine cf ?_;refine cf ?_
 refine c_ (E8 (cap:=qbc) (least:=1) rb (by omega) (by omega)) fun _=>?_
 rw[<- hua,<- hub]
 rw[<- hua]at u1 u2 u3 hrow hrowe
 rw[<- hub]at w1 w2 w3 hrow hrowe
 refine bA (t_ aj (ew ?_))
 refine t_ (uz ua rfl (by omega)) ?_
 refine bh aj .nil ?_;(((refine' bh (bC ?hc) ?hi ?_);(case hi=>exact .pick (by repeat constructor) .nil);(case hc=>repeat constructor)))
 refine bh (uz ub_ rfl (by omega)) .nil ?_
 refine cU (s:=1) (e:=3) ?_
 have ta:(la.take ua).length=ua:=by rw[List.length_take];omega
 have tb:(lb.take ub_).length=ub_:=by rw[List.length_take];omega
 have ra2:RdB W (Sl 1 3 (some ⟨ga,0,none⟩) qac la.length (la.map I)) (some ⟨ga,0,none⟩) ua ((la.take ua).map I):=by rw[List.map_take];exact C7 ra u1
 have rb2:RdB W (Sl 1 3 (some ⟨gb,0,none⟩) qbc lb.length (lb.map I)) (some ⟨gb,0,none⟩) ub_ ((lb.take ub_).map I):=by rw[List.map_take];exact C7 rb w1
 refine bO (m:=ua) (news:=(la.take ua).map I) .here (dF (A:=Sl 1 3 (some ⟨ga,0,none⟩) qac la.length (la.map I)) (e':=3) (by kernel_rfl) (by repeat constructor) ra2 (fun c=>by cases c) mO) (by omega) (by omega) fun a1 c1=>?_
 refine cf ?_;refine cf ?_;refine cf ?_
 refine bO (m:=ub_) (news:=(lb.take ub_).map I) .here (dF (A:=Sl 1 3 (some ⟨gb,0,none⟩) qbc lb.length (lb.map I)) (e':=3) (by kernel_rfl) (by repeat constructor) rb2 (fun c=>by cases c) mO) (by omega) (by omega) fun a2 c2=>?_
 rw[show []++(la.take ua).map I++(lb.take ub_).map I=R.map I by rw[hrowe,List.map_append,List.nil_append],show 0+ua+ub_=R.length by omega]
 refine aF .here fun _ _ _ fr4=>?_
 have rR:RdB W (Sl 1 3 a2 c2 R.length (R.map I)) a2 R.length (R.map I):=cq (by rw[List.length_map]) fr4
 refine ep 19 19 (by rfl) (by rfl) (by omega) (by omega) (by unfold maxLen;omega) fun gc=>?_
 refine dx fun g=>?_;refine eE ?_;refine dx fun g=>?_;refine eE ?_
 rename Nat=>b10
 obtain⟨b9,hb9⟩:∃b9,b9=g:=⟨_,rfl⟩
 rw[<- hb9]
 clear hb9 g
 obtain⟨SA,hSA⟩:∃SA,SA=eH la ((some ⟨ga,0,none⟩,qac),qcc):=⟨_,rfl⟩
 obtain⟨SB,hSB⟩:∃SB,SB=eH lb ((some ⟨gb,0,none⟩,qbc),qdc):=⟨_,rfl⟩
 rw[<- hSA,<- hSB]
 obtain⟨SR,hSR⟩:∃SR,SR=Sl 1 3 a2 c2 R.length (R.map I):=⟨_,rfl⟩
 rw[<- hSR]at rR ⊢
 refine bF (M:=pt b10 (.cells #[.int .i64 0] 3)::pt b9 (.cells #[.slice (some ⟨gc,0,none⟩) 19 19] 197)::Sl 1 3 (some ⟨gc,0,none⟩) 19 19 (List.replicate 19 (.int .i64 0))::SR::pt b3 (.cells #[.pointer (some ⟨w,0,none⟩)] 156)::iu w L::SA::SB::[all F]) ?_ ?_
 ·rw[hSA,hSB]
  unfold eH
  refine .pick (by repeat constructor) (.pick (by repeat constructor) (.pick (by repeat constructor) (.pick (by repeat constructor) (.pick (by repeat constructor) (.pick (by repeat constructor) (.all ?_))))))
  refine aq ?_
  refine .pick (by repeat constructor) (.pick (by repeat constructor) (.all ?_))
  refine aq ?_
  refine .pick (by repeat constructor) (.pick (by repeat constructor) (.all ?_))
  rw[List.append_nil]
  exact aw
 refine c_ (Py (a:=a2) (n:=R.length) (c:=c2)) fun _=>?_
 rename_i r1
 have hTlen:(mr R).length=T.length:=by rw[hTv];simp
 refine Bw (f:=244) (cap:=[.pointer (some ⟨r1,0,none⟩)]) (mr R)
  (fun k=>all [pt r1 (.cells #[.slice a2 R.length c2] 197),SR,all [pu (k<=T.length),pt b10 (.cells #[.int .i64 (CA (T.take k):Int)] 3),pt b9 (.cells #[.slice (some ⟨gc,0,none⟩) 19 19] 197),Sl 1 3 (some ⟨gc,0,none⟩) 19 19 (Ln 19 fun s=>(fQ (T.take k) s:Int)),all [pt b3 (.cells #[.pointer (some ⟨w,0,none⟩)] 156),iu w L,SA,SB,all F]]]) (pu False) rfl ?_ ?_ ?_ ?_ ?_ ?_
 ·intro x hx
  rw[hTv]at hx
  obtain⟨k,_,rfl⟩:=List.mem_map.1 hx
  rfl
 ·refine .all ?_
  refine aq ?_
  refine .pick (by repeat constructor) (.pick (by repeat constructor) (.all ?_))
  refine aq ?_
  rw[dH]
  refine .pu (by omega) (.pick (by repeat constructor) (.pick (by repeat constructor) (.pick (by repeat constructor) (.all ?_))))
  refine aq ?_
  exact aw
 ·intro l T1 T2 hy
  exact Ju (n:=0) (G:=fun k=>all [pu (k<=T.length),pt b10 (.cells #[.int .i64 (CA (T.take k):Int)] 3),pt b9 (.cells #[.slice (some ⟨gc,0,none⟩) 19 19] 197),Sl 1 3 (some ⟨gc,0,none⟩) 19 19 (Ln 19 fun s=>(fQ (T.take k) s:Int)),all [pt b3 (.cells #[.pointer (some ⟨w,0,none⟩)] 156),iu w L,SA,SB,all F]]) rR (by omega) hy
 ·intro k hk F2 T0 T1 B N J hB hN hJ
  rw[hTlen]at hk
  have e0:∀h,(mr R)[k]'h=[Jt T[k]]:=fun h=>by simp[hTv]
  rw[e0]
  simp only[jh,List.headD_cons,List.tail_cons]
  have hts:=hTs _ (List.getElem_mem hk)
  have htk:T.take (k+1)=T.take k++[T[k]]:=List.take_succ_eq_append_getElem hk
  obtain⟨t,ht⟩:∃t,t=T[k]:=⟨_,rfl⟩
  rw[<- ht]at hts htk ⊢
  obtain⟨n,hn⟩:=Int.eq_ofNat_of_zero_le hts.1
  have hn19:n<19:=by omega
  have hknS:=E_ (T:=T.take k) hn hn19
  rw[<- htk]at hknS
  have hcs:∀s,fQ (T.take (k+1)) s=fQ (T.take k) s+if t.sym=(s:Int)then 1 else 0:=fun s=>by rw[htk];exact oP _ _ _
  have hc1:=Bb (T.take k) n
  have hc2:=Fa (T.take k)
  have hc3:(T.take k).length<=1000:=by rw[List.length_take];omega
  refine ap (.there .here) ?_
  refine aq ?_
  refine ap (.there (.there .here)) ?_
  refine aq ?_
  refine aG .here fun hkn=>?_
  unfold Jt
  rw[hn]
  refine bp fun g=>?_;refine fO ?_
  refine hB _ _ _ (by repeat constructor) ?_
  refine bJ ?_;refine o_ aj (bJ ?_)
  refine o_ (bj n (by rfl) hn19) ?_
  have hld:(Ln 19 fun s=>(fQ (T.take k) s:Int))[0+n]? =some (I (fQ (T.take k) n:Int)):=by rw[Nat.zero_add];exact kC hn19
  refine bt (cI hld) ?_
  refine bG ?_
  refine o_ (bj n (by rfl) hn19) ?_
  refine fZ (by repeat constructor) (by rw[Nat.zero_add,iJ];omega) ?_
  rw[Nat.zero_add]
  have hset:(Ln 19 fun s=>(fQ (T.take k) s:Int)).set n (.int .i64 ((fQ (T.take k) n:Int)+1))=Ln 19 fun s=>(fQ (T.take (k+1)) s:Int):=by
   have:=oh (n:=19) (j:=n) (f:=fun s=>(fQ (T.take k) s:Int)) (v:=(fQ (T.take k) n:Int)+1)
   unfold I at this
   rw[this]
   refine d4 fun j hj=>?_
   rw[hcs,hn]
   by_cases cj:j=n
   ·subst cj;rw[if_pos rfl,if_pos rfl];rfl
   ·rw[if_neg cj,if_neg (by omega)];rfl
  rw[hset]
  refine bJ ?_;refine o_ aj (bJ ?_)
  refine o_ (bj n (by rfl) hn19) ?_
  have hld2:(Ln 19 fun s=>(fQ (T.take (k+1)) s:Int))[0+n]? =some (I (fQ (T.take (k+1)) n:Int)):=by rw[Nat.zero_add];exact kC hn19
  refine bt (cI hld2) ?_
  have hc4:fQ (T.take (k+1)) n=fQ (T.take k) n+1:=by rw[hcs,hn,if_pos rfl]
  unfold I
  refine o_ aP ?_
  by_cases h1c:(fQ (T.take (k+1)) n:Int)=1
  ·rw[dT_ h1c]
   rw[if_pos (by omega)]at hknS
   refine ab (bJ ?_);refine bG ?_;refine eE ?_
   refine hN _ ?_
   refine .pick (by repeat constructor) (.all ?_)
   refine aq ?_
   refine .pick (by repeat constructor) (.pick (by repeat constructor) (.all ?_))
   refine aq ?_
   rw[hknS,show((CA (T.take k)+1:Nat):Int)=(CA (T.take k):Int)+1 by rfl]
   refine .pu (by omega) ?_
   exact aw
  ·rw[dF_ h1c]
   rw[if_neg (by omega)]at hknS
   refine aa (hN _ ?_)
   refine .pick (by repeat constructor) (.all ?_)
   refine aq ?_
   refine .pick (by repeat constructor) (.pick (by repeat constructor) (.all ?_))
   refine aq ?_
   rw[hknS,Nat.add_zero]
   refine .pu (by omega) ?_
   exact aw
 rotate_left
 ·intro d1
  exact aG (.there .here) fun h=>h.elim
 intro d1
 rw[hTlen,List.take_length,<- Ie]
 refine ap (.there .here) ?_
 refine aq ?_
 refine ap (.there (.there .here)) ?_
 refine aq ?_
 refine aG .here fun _=>?_
 have hf19:(fg T).length=19:=by simp[fg]
 have hfb:∀(j:Nat) (h:j<(fg T).length),0<=(fg T)[j]/\(fg T)[j]<=1000:=fun j h=>by
  have:=Bb T j
  simp only[fg,List.getElem_map,List.getElem_range]
  omega
 have hkT:=Fa T
 refine cP (Sl 1 3 (some ⟨gc,0,none⟩) 19 19 ((kc T).map I)::pt d1 (.deferred (some []))::pt b9 (.cells #[.slice (some ⟨gc,0,none⟩) 19 19] 197)::all [pt b3 (.cells #[.pointer (some ⟨w,0,none⟩)] 156),iu w L,SA,SB,all F]::pt r1 (.cells #[.slice a2 R.length c2] 197)::SR::[]) ?_ ?_
 rotate_left
 ·refine bJ ?_
  refine o_ aP ?_
  by_cases k1:(CA T:Int)=1
  rotate_left
  ·rw[dF_ k1]
   refine aa ?_
   have:kc T=fg T:=by
    unfold kc y8
    rw[if_neg (fun h=>k1 (by rw[show CA T=(fg T).countP fun x=>decide (0<x)from rfl,h];rfl))]
   rw[this]
   refine aD ?_
   exact aw
  rw[dT_ k1]
  refine ab ?_
  have hoK:kc T=if 0<(fg T).getD 0 0 then(fg T).set 1 ((fg T).getD 1 0+1)else(fg T).set 0 ((fg T).getD 0 0+1):=by
   unfold kc y8
   have hk1:CA T=1:=by omega
   rw[if_pos (show((fg T).countP fun x=>decide (0<x))=1 from hk1)]
  have hgD:∀(j:Nat) (h:j<(fg T).length),(fg T).getD j 0=(fg T)[j]:=fun j h=>by rw[List.getD_eq_getElem?_getD,List.getElem?_eq_getElem h];rfl
  rw[hgD 0 (by omega),hgD 1 (by omega)]at hoK
  obtain⟨z0,hz0⟩:∃z0:Int,z0=(fg T)[0]'(by omega):=⟨_,rfl⟩
  obtain⟨z1,hz1⟩:∃z1:Int,z1=(fg T)[1]'(by omega):=⟨_,rfl⟩
  have hb0:=hfb 0 (by omega)
  have hb1:=hfb 1 (by omega)
  have hld0:((fg T).map I)[0+0]? =some (.int .i64 z0):=by rw[hz0];exact dK (by omega)
  have hld1:((fg T).map I)[0+1]? =some (.int .i64 z1):=by rw[hz1,Nat.zero_add];exact dK (by omega)
  rw[<- hz0,<- hz1]at hoK
  rw[<- hz0]at hb0
  rw[<- hz1]at hb1
  refine dD (fun z=>pu (z= .int .i64 (if 0<z0 then 1 else 0))::Sl 1 3 (some ⟨gc,0,none⟩) 19 19 ((fg T).map I)::pt d1 (.deferred (some []))::pt b9 (.cells #[.slice (some ⟨gc,0,none⟩) 19 19] 197)::all [pt b3 (.cells #[.pointer (some ⟨w,0,none⟩)] 156),iu w L,SA,SB,all F]::pt r1 (.cells #[.slice a2 R.length c2] 197)::SR::[]) ?_ ?_
  rotate_left
  ·refine bJ ?_
   refine o_ (bj 0 (by rfl) (by omega)) ?_
   refine bt (cI hld0) ?_
   refine o_ aV ?_
   by_cases k2:0<z0
   ·rw[dT_ k2]
    refine ab (aD (.pu (by rw[if_pos k2]) ?_))
    exact aw
   ·rw[dF_ k2]
    refine aa (aD (.pu (by rw[if_neg k2]) ?_))
    exact aw
  intro ds z
  refine aG .here fun hz=>?_
  subst hz
  by_cases k2:0<z0
  ·rw[if_pos k2]at hoK ⊢
   refine bJ ?_
   refine o_ (bj 1 (by rfl) (by omega)) ?_
   refine bt (cI hld1) ?_
   refine bG ?_
   refine o_ (bj 1 (by rfl) (by omega)) ?_
   refine fZ (by repeat constructor) (by rw[List.length_map];omega) ?_
   rw[hoK,List.map_set]
   refine aD ?_
   exact aw
  ·rw[if_neg k2]at hoK ⊢
   refine bJ ?_
   refine o_ (bj 0 (by rfl) (by omega)) ?_
   refine bt (cI hld0) ?_
   refine bG ?_
   refine o_ (bj 0 (by rfl) (by omega)) ?_
   refine fZ (by repeat constructor) (by rw[List.length_map];omega) ?_
   rw[hoK,List.map_set]
   refine aD ?_
   exact aw
 intro ds
 have hfT19:(kc T).length=19:=by unfold kc;rw[rT];exact hf19
 have hrf:RdB W (Sl 1 3 (some ⟨gc,0,none⟩) 19 19 ((kc T).map I)) (some ⟨gc,0,none⟩) (kc T).length ((kc T).map I):=by
  rw[hfT19]
  exact cq (by rw[List.length_map,hfT19]) (fun _=>⟨gc,rfl⟩)
 have hln:=vr (W:=W) (cap:=19) (lim:=7) hrf (by omega)
 rw[hfT19,hDe,hDE]at hln
 refine bJ ?_
 refine c_ hln fun _=>?_
 rename_i qD
 refine fP ?_;refine fP ?_
 refine aF .here fun _ hnd hcd hfd=>?_
 obtain⟨qDa,qDc⟩:=qD
 (try dsimp only at *)
 obtain⟨gd,rfl⟩:=hfd (by omega)
 have rD:RdB W (Sl 1 3 (some ⟨gd,0,none⟩) qDc D.length (D.map I)) (some ⟨gd,0,none⟩) D.length (D.map I):=cq (by rw[List.length_map]) (fun _=>⟨gd,rfl⟩)
 refine c_ (sb (cap:=qDc) rD (by omega)) fun _=>?_
 rename_i qS
 unfold jw
 (try dsimp only)
 refine bp fun g=>?_;refine fO ?_;refine o_ b_ ?_
 rename Nat=>b15
 refine aF (.there .here) fun _ _ _ hfc=>?_
 have rC:RdB W (Sl 1 3 qS.1 qS.2 (gZ D).length ((gZ D).map I)) qS.1 (gZ D).length ((gZ D).map I):=cq (by rw[List.length_map]) hfc
 refine ap (.there (.there (.there (.there (.there (.there .here)))))) ?_
 refine aq ?_
 refine bI (fun m y z=>(ex fun st:(Option Addr × Nat) × Nat=>all [pu (m+st.2=19/\st.2<=19/\y= .slice st.1.1 st.2 st.1.2/\z= .int .i64 (st.2:Int)),Sl 1 3 st.1.1 st.1.2 st.2 ((O.take st.2).map I)])::pt b15 (.cells #[.slice (some ⟨gd,0,none⟩) D.length qDc,.slice qS.1 (gZ D).length qS.2] 258)::Sl 1 3 qS.1 qS.2 (gZ D).length ((gZ D).map I)::Sl 1 3 (some ⟨gd,0,none⟩) qDc D.length (D.map I)::pt d1 (.deferred (some []))::pt b3 (.cells #[.pointer (some ⟨w,0,none⟩)] 156)::iu w (L)::SA::SB::pt r1 (.cells #[.slice a2 R.length c2] 197)::SR::[all F]) 19 ?_ ?_
 ·refine .ex ((none,0),0) (.all ?_)
  refine aq ?_
  refine .pu ⟨rfl,by omega,rfl,rfl⟩ ?_
  refine bR ?_
  exact aw
 intro m ds y z
 refine aH .here fun st=>ap .here ?_
 obtain⟨⟨ta_,tc⟩,i⟩:=st
 refine aq ?_
 refine aG .here fun hi=>?_
 (try dsimp only at hi)
 obtain⟨hmi,hi19,rfl,rfl⟩:=hi
 (try dsimp only)
 refine o_ az ?_
 by_cases hlt:(i:Int)<19
 ·rw[dT_ hlt]
  refine ab ?_
  obtain⟨k,hk,hk19⟩:=Ig ⟨i,by omega⟩
  (try dsimp only at hk)
  have hkv:(#[(.int .i64 16),(.int .i64 17),(.int .i64 18),(.int .i64 0),(.int .i64 8),(.int .i64 7),(.int .i64 9),(.int .i64 6),(.int .i64 10),(.int .i64 5),(.int .i64 11),(.int .i64 4),(.int .i64 12),(.int .i64 3),(.int .i64 13),(.int .i64 2),(.int .i64 14),(.int .i64 1),(.int .i64 15)]:Array Value)[i]? =some (.int .i64 (k:Int)):=by
   have:i=0\/i=1\/i=2\/i=3\/i=4\/i=5\/i=6\/i=7\/i=8\/i=9\/i=10\/i=11\/i=12\/i=13\/i=14\/i=15\/i=16\/i=17\/i=18:=by omega
   rcases this with rfl|rfl|rfl|rfl|rfl|rfl|rfl|rfl|rfl|rfl|rfl|rfl|rfl|rfl|rfl|rfl|rfl|rfl|rfl <;> (have hk':=Option.some.inj hk;subst hk';rfl)
  refine o_ (lH i rfl (by omega) hkv) ?_
  refine o_ (bj k (by rfl) (by omega)) ?_
  have hOi:O[i]'(by omega)=D[k]'(by omega):=by
   have h1:O[i]? =some (D.getD k 0):=by rw[hO];unfold lO;rw[List.getElem?_map,hk];rfl
   rw[List.getElem?_eq_getElem (by omega),List.getD_eq_getElem?_getD,List.getElem?_eq_getElem (by omega)]at h1
   exact Option.some.inj h1
  have hld:(D.map I)[0+k]? =some (.int .i64 (O[i]'(by omega))):=by rw[Nat.zero_add,hOi];exact dK (by omega)
  refine bt (cI hld) ?_
  refine eI fun gb=>?_
  refine bO (m:=1) (news:=[I (O[i]'(by omega))]) (by repeat constructor) (cA (s:=1) (e':=3) (by kernel_rfl) .here (by rfl) (by intro u hu;simp at hu;rw[hu];rfl)) (by omega) (by omega) fun a' c'=>?_
  have htk:(O.take i).map I++[I (O[i]'(by omega))]=(O.take (i+1)).map I:=by rw[List.take_succ_eq_append_getElem (by omega),List.map_append];rfl
  rw[htk]
  refine bG ?_
  refine bo (m-1) (by omega) (.ex ((a',c'),i+1) (.all ?_))
  refine aq ?_
  refine .pu ⟨by omega,by omega,rfl,by norm_cast⟩ ?_
  exact aw
 have hi19':i=19:=by omega
 subst hi19'
 rw[dF_ hlt]
 refine aa ?_
 rw[show(O.take 19).map I=O.map I by rw[List.take_of_length_le (by omega)],show(19:Nat)=O.length from hO19.symm]
 refine aF .here fun _ ho2 ho3 ho4=>?_
 obtain⟨go,rfl⟩:=ho4 (by omega)
 have rO:RdB W (Sl 1 3 (some ⟨go,0,none⟩) tc O.length (O.map I)) (some ⟨go,0,none⟩) O.length (O.map I):=cq (by rw[List.length_map]) (fun _=>⟨go,rfl⟩)
 have hup:=E8 (W:=W) (cap:=tc) (least:=4) rO (by omega) (by omega)
 rw[<- hc]at hup
 refine c_ hup fun _=>?_
 refine bJ ?_;refine dX ?_
 refine c_ (put (l:=L) (n:=(ua:Int)-257) (k:=5)) fun _=>?_
 rw[je (e:=ua-257) (k:=5) (j:=5) (by omega) rfl (by omega) (by omega) (by omega)]
 refine bJ ?_;refine dX ?_
 refine c_ (put (l:=L++aX (ua-257) 5) (n:=(ub_:Int)-1) (k:=5)) fun _=>?_
 rw[je (e:=ub_-1) (k:=5) (j:=5) (by omega) rfl (by omega) (by omega) (by rw[List.length_append,aS];omega)]
 refine bJ ?_;refine dX ?_
 refine c_ (put (l:=L++aX (ua-257) 5++aX (ub_-1) 5) (n:=(c:Int)-4) (k:=4)) fun _=>?_
 rw[je (e:=c-4) (k:=4) (j:=4) (by omega) rfl (by omega) (by omega) (by simp only[List.length_append,aS];omega)]
 rw[show L++aX (ua-257) 5++aX (ub_-1) 5++aX (c-4) 4=M0 by rw[hM0,hua,hub];simp only[List.append_assoc]]
 refine o_ (uz c rfl (by omega)) ?_
 refine o_ aC ?_
 have hcl:(O.take c).length=c:=by rw[List.length_take];omega
 refine a_ (fun m y=>(ex fun i:Nat=>all [pu (m+i=c/\y= .int .i64 (i:Int)),iu w (M0++((O.take c).take i).flatMap (fun n=>aX n.toNat 3))])::Sl 1 3 (some ⟨go,0,none⟩) tc O.length (O.map I)::pt b15 (.cells #[.slice (some ⟨gd,0,none⟩) D.length qDc,.slice qS.1 (gZ D).length qS.2] 258)::Sl 1 3 qS.1 qS.2 (gZ D).length ((gZ D).map I)::Sl 1 3 (some ⟨gd,0,none⟩) qDc D.length (D.map I)::pt d1 (.deferred (some []))::pt b3 (.cells #[.pointer (some ⟨w,0,none⟩)] 156)::SA::SB::pt r1 (.cells #[.slice a2 R.length c2] 197)::SR::[all F]) c ?_ ?_
 ·refine .ex 0 (.all ?_)
  refine aq ?_
  refine .pu ⟨by omega,rfl⟩ ?_
  rw[List.take_zero,List.flatMap_nil,List.append_nil]
  exact aw
 intro m ds y
 refine aH .here fun i=>ap .here ?_
 refine aq ?_
 refine aG .here fun hi=>?_
 obtain⟨hmi,rfl⟩:=hi
 refine o_ az ?_
 by_cases hlt:(i:Int)<(c:Int)
 ·rw[dT_ hlt]
  refine ab (o_ (bj i (by rfl) (by omega)) ?_)
  have hld:(O.map I)[0+i]? =some (.int .i64 (O[i]'(by omega))):=by rw[Nat.zero_add];exact dK (by omega)
  refine bt (cI hld) ?_
  refine bJ ?_
  have hv:=hOv _ (List.getElem_mem (show i<O.length by omega))
  have hfl:=oQ (f:=fun n:Int=>aX n.toNat 3) (l:=O.take c) (k:=i) (by omega)
  have hfe:=Bc (f:=fun n:Int=>aX n.toNat 3) (l:=O.take c) (k:=i) (by omega)
  have hel:(O.take c)[i]'(by omega)=O[i]'(by omega):=List.getElem_take
  rw[hel]at hfl hfe
  obtain⟨v,hvv⟩:∃v,v=O[i]'(by omega):=⟨_,rfl⟩
  rw[<- hvv]at hv hfl hfe ⊢
  (try dsimp only at hfe)
  rw[aS]at hfe
  refine c_ (put (l:=M0++((O.take c).take i).flatMap (fun n=>aX n.toNat 3)) (n:=v) (k:=3)) fun _=>?_
  rw[je (e:=v.toNat) (k:=3) (j:=3) (by omega) rfl (by omega) (by omega) (by rw[List.length_append];omega)]
  refine bG ?_
  refine aK (m-1) (by omega) (.ex (i+1) (.all ?_))
  refine aq ?_
  rw[hfl,<- List.append_assoc]
  refine .pu ⟨by omega,by norm_cast⟩ ?_
  exact aw
 have hic:i=c:=by omega
 subst hic
 rw[dF_ hlt,List.take_of_length_le (show(O.take i).length<=i by omega)]
 obtain⟨M1,hM1⟩:∃M1,M1=M0++(O.take i).flatMap (fun n=>aX n.toNat 3):=⟨_,rfl⟩
 rw[<- hM1]
 have hM1l:M1.length+(T.flatMap (zj D)).length<=8388608:=by rw[hM1,List.length_append];omega
 refine aa (c_ (Py (a:=a2) (n:=R.length) (c:=c2)) fun _=>?_)
 rename_i r2
 refine Bw (f:=244) (cap:=[.pointer (some ⟨r2,0,none⟩)]) (mr R)
  (fun k=>all [pt r2 (.cells #[.slice a2 R.length c2] 197),SR,all [pu (k<=T.length),iu w (M1++(T.take k).flatMap (zj D)),pt b15 (.cells #[.slice (some ⟨gd,0,none⟩) D.length qDc,.slice qS.1 (gZ D).length qS.2] 258),Sl 1 3 qS.1 qS.2 (gZ D).length ((gZ D).map I),Sl 1 3 (some ⟨gd,0,none⟩) qDc D.length (D.map I),pt d1 (.deferred (some [])),pt b3 (.cells #[.pointer (some ⟨w,0,none⟩)] 156),SA,SB,all F]]) (pu False) rfl ?_ ?_ ?_ ?_ ?_ ?_
 ·intro x hx
  rw[hTv]at hx
  obtain⟨k,_,rfl⟩:=List.mem_map.1 hx
  rfl
 ·refine .all ?_
  refine aq ?_
  refine .pick (by repeat constructor) (.pick (by repeat constructor) (.all ?_))
  refine aq ?_
  rw[List.take_zero,List.flatMap_nil,List.append_nil]
  refine .pu (by omega) ?_
  exact aw
 ·intro l T1 T2 hy
  exact Ju (n:=0) (G:=fun k=>all [pu (k<=T.length),iu w (M1++(T.take k).flatMap (zj D)),pt b15 (.cells #[.slice (some ⟨gd,0,none⟩) D.length qDc,.slice qS.1 (gZ D).length qS.2] 258),Sl 1 3 qS.1 qS.2 (gZ D).length ((gZ D).map I),Sl 1 3 (some ⟨gd,0,none⟩) qDc D.length (D.map I),pt d1 (.deferred (some [])),pt b3 (.cells #[.pointer (some ⟨w,0,none⟩)] 156),SA,SB,all F]) rR (by omega) hy
 ·intro k hk F2 T0 T1 B N J hB hN hJ
  rw[hTlen]at hk
  have e0:∀h,(mr R)[k]'h=[Jt T[k]]:=fun h=>by simp[hTv]
  rw[e0]
  simp only[jh,List.headD_cons,List.tail_cons]
  have hts:=hTs _ (List.getElem_mem hk)
  have hfl:=oQ (f:=zj D) (l:=T) hk
  have hfe:=Bc (f:=zj D) (l:=T) hk
  obtain⟨t,ht⟩:∃t,t=T[k]:=⟨_,rfl⟩
  rw[<- ht]at hts hfl hfe ⊢
  unfold zj at hfe
  rw[List.length_append,aS]at hfe
  change ((T.take k).flatMap (zj D)).length+((tV D t.sym).length+t.bits)<=(T.flatMap (zj D)).length at hfe
  refine ap (.there .here) ?_
  refine aq ?_
  refine ap (.there (.there .here)) ?_
  refine aq ?_
  refine aG .here fun hkn=>?_
  unfold Jt
  refine bp fun g=>?_;refine fO ?_
  refine hB _ _ _ (by repeat constructor) ?_
  refine bJ ?_;refine o_ aj (bJ ?_);refine o_ aj (bJ ?_);refine o_ aj (bJ ?_)
  obtain⟨Mk,hMk⟩:∃Mk,Mk=M1++(T.take k).flatMap (zj D):=⟨_,rfl⟩
  have hMkl:Mk.length=M1.length+((T.take k).flatMap (zj D)).length:=by rw[hMk,List.length_append]
  rw[<- hMk]
  refine aB (Eg (L:=Mk) (s:=t.sym) rC rD) (.cons (by repeat constructor) (.cons (by repeat constructor) (.cons (by repeat constructor) .nil))) fun _=>?_
  refine aq ?_
  rw[Ba (by omega)]
  refine bJ ?_;refine o_ aj (bJ ?_);refine o_ aj (bJ ?_)
  refine c_ (put (l:=Mk++tV D t.sym) (n:=(t.extra:Int)) (k:=(t.bits:Int))) fun _=>?_
  rw[qk (by omega) hts.2.2.1 (by rw[List.length_append];omega)]
  refine hN _ ?_
  refine .pick (by repeat constructor) (.all ?_)
  refine aq ?_
  refine .pick (by repeat constructor) (.pick (by repeat constructor) (.all ?_))
  refine aq ?_
  rw[hfl,<- List.append_assoc,<- hMk]
  unfold zj
  rw[<- List.append_assoc]
  refine .pu (by omega) ?_
  exact aw
 rotate_left
 ·intro d2
  exact aG (.there .here) fun h=>h.elim
 intro d2
 rw[hTlen,List.take_length]
 refine ap (.there .here) ?_
 refine aq ?_
 refine ap (.there (.there .here)) ?_
 refine aq ?_
 refine aG .here fun _=>?_
 refine uw (by repeat constructor) ?_
 refine uw (by repeat constructor) ?_
 refine km (M:=[iu w (M1++T.flatMap (zj D)),SA,SB]) (F:=F) ?_ ?_
 ·refine .pick (by repeat constructor) ?_
  exact aw
 refine aq ?_
 refine bq () ?_
 exact .refl
theorem xH {W:World}{a:Option Addr}{n:Nat}{cs:List Value}{A:HP}(h:RdB W A a n cs)(c:a=none):n=0:=by
 rcases Nat.eq_zero_or_pos n with z|z
 ·exact z
 ·obtain⟨_,_,e,_⟩:=h.at_ z
  rw[c]at e;cases e
structure goodB (x:fX):Prop where
 g:∀p∈x.1,t7 p
 pn:x.1.length<=30000
 bn:x.2.length<=30258
theorem okBk.good {b:List UInt8}{fr:Nat}{x:fX}(h:okBk b fr x):goodB x:=⟨xl h.gps,h.pn,h.bn⟩
variable {W:World} {AL AB:HP} {x:fX} {v:Bv} {level:Int}
theorem Ih {w:Nat}{M:List Bool}(hx:BkOk W AL AB (x,v))(hb:x.2.length<=65535)(hM:M.length+100+8 * x.2.length<=8388608):
  Cn p_ 151 [ye level (x,v),.pointer (some ⟨w,0,none⟩)] W [iu w M,AB] (fun _:Unit=> .tuple #[]) (fun _=>[iu w (y9 M x),AB]):=by
 have hl:=fd M
 have hp:(pk (ee M++aX x.2.length 16++aX (65535-x.2.length) 16)).length<=(M.length+7) / 8+4:=by
  rw[gp];simp only[List.length_append,aS];omega
 have h8:(ee M++aX x.2.length 16++aX (65535-x.2.length) 16).length%8=0:=by
  simp only[List.length_append,aS];omega
 have hr:yQ (ee M++aX x.2.length 16++aX (65535-x.2.length) 16) x.2=y9 M x:=by
  unfold yQ yP
  rw[if_neg (show ¬1048576<_ by omega),if_pos rfl]
  unfold y9
  congr 1
  unfold ee at h8 ⊢
  rw[h8]
  simp
 obtain⟨⟨la,lc⟩,⟨ba,bc⟩⟩:=v
 unfold ye
 (try dsimp only)
 (refine Shp.cn (Sg.g_ Tryz.call151 Tryz.func151) fun F=>?_;simp only[ca_,na_])
 refine bV fun b2=>?_
 refine c_ (Pg (l:=M)) fun _=>?_
 refine o_ aj (bJ ?_);refine o_ aC (c_ (put (l:=ee M) (n:=(x.2.length:Int)) (k:=16)) fun _=>?_)
 rw[je (e:=x.2.length) (k:=16) (j:=16) rfl rfl (by omega) (by omega) (by omega)]
 refine o_ aj (bJ ?_);refine o_ aC (dX ?_)
 refine c_ (put (l:=ee M++aX x.2.length 16) (n:=65535-(x.2.length:Int)) (k:=16)) fun _=>?_
 rw[je (e:=65535-x.2.length) (k:=16) (j:=16) (by omega) rfl (by omega) (by omega) (by rw[List.length_append,aS];omega)]
 refine o_ aj (bJ ?_)
 refine aB (Ts (l:=ee M++aX x.2.length 16++aX (65535-x.2.length) 16) (cap:=bc) hx.rb (xH hx.rb) (by omega)) (.cons (by repeat constructor) (.cons (by repeat constructor) .nil)) fun _=>?_
 refine aq ?_
 rw[hr]
 refine bq () ?_
 exact aw
theorem Lt {w:Nat}{M:List Bool}(hx:BkOk W AL AB (x,v))(hg:goodB x)(hM:M.length+(pQ x).length<=8388608):
  Cn p_ 152 [ye level (x,v),.pointer (some ⟨w,0,none⟩)] W [iu w M,AL] (fun _:Unit=> .tuple #[]) (fun _=>[iu w (M++pQ x),AL]):=by
 obtain⟨⟨la,lc⟩,⟨ba,bc⟩⟩:=v
 have hpn:=hg.pn
 unfold pQ at hM ⊢
 obtain⟨A5,hA5⟩:∃A5,A5=eX:=⟨_,rfl⟩
 obtain⟨B5,hB5⟩:∃B5,B5=fw:=⟨_,rfl⟩
 have l1:A5.length<=1000:=by rw[hA5,lg];omega
 have l2:B5.length<=1000:=by rw[hB5,lh];omega
 unfold ye
 (try dsimp only)
 (refine Shp.cn (Sg.g_ Tryz.call152 Tryz.func152 (an:={drs:=[(2,.ofL [(0,3),(1,1),(3,2),(5,2),(2,0),(4,0),(6,0),(7,0)])]}) (os:=[(2,[(2,[0]),(4,[0]),(6,[0])])])) fun F=>?_;simp only[ca_,na_])
 rw[<- hA5,<- hB5]at hM ⊢
 refine bV fun b2=>?_
 have hF:=Ee (W:=W)
 rw[<- hA5,<- hB5]at hF
 refine c_ hF fun _=>?_
 rename_i q
 obtain⟨⟨a1,c1⟩,⟨a2,c2⟩⟩:=q
 (try dsimp only)
 refine fP ?_;refine fP ?_;refine bA ?_;(((refine' bh (cg ?hn) ?hi ?_);(case hi=>exact .pick (by repeat constructor) .nil);(case hn=>rfl)))
 refine aF .here fun _ _ _ h1=>?_
 refine aF (.there .here) fun _ _ _ h2=>?_
 have r1:RdB W (Sl 1 3 a1 c1 A5.length (A5.map I)) a1 A5.length (A5.map I):=cq (by rw[List.length_map]) h1
 have r2:RdB W (Sl 1 3 a2 c2 B5.length (B5.map I)) a2 B5.length (B5.map I):=cq (by rw[List.length_map]) h2
 refine aB (sb (cap:=c1) r1 (by omega)) (.cons (by repeat constructor) .nil) fun q1=>?_
 refine aq ?_
 refine cf ?_
 refine aB (sb (cap:=c2) r2 (by omega)) (.cons (by repeat constructor) .nil) fun q2=>?_
 refine aq ?_
 refine cf ?_
 refine c_ (Px (w:=w)) fun _=>?_
 rename_i g
 refine cf ?_
 refine bF (M:=vC A5 B5 ((a1,c1),q1) ((a2,c2),q2) w g M []::AL::pt b2 (.cells #[.slice la x.1.length lc,.slice ba x.2.length bc,.int .i64 level] 162)::F) ?_ ?_
 ·unfold vC eH
  refine .all ?_
  refine aq ?_
  rw[List.flatMap_nil,List.append_nil]
  refine .pick (by repeat constructor) (.all ?_)
  refine aq ?_
  refine .pick (by repeat constructor) (.pick (by repeat constructor) (.all ?_))
  refine aq ?_
  exact aw
 refine aB (sd (f:=227) (cap:=[.pointer (some ⟨g,0,none⟩)]) (J:=vC A5 B5 ((a1,c1),q1) ((a2,c2),q2) w g M) (va:=sv A5 ((a1,c1),q1)) (vb:=sv B5 ((a2,c2),q2)) (ps:=x.1) hx.rl (by omega) hg.g
  (fun d e r h=>Js (oM hg.g e (by rw[h];simp)) (by have:=xF (la:=A5) (lb:=B5) h;omega))) (.cons (by repeat constructor) (.cons (by repeat constructor) .nil)) fun _=>?_
 refine aq ?_
 refine ap (M:=[iu w (M++(lB x.1).flatMap (t8 A5 B5)),eH A5 ((a1,c1),q1),eH B5 ((a2,c2),q2),pt g (.cells #[.pointer (some ⟨w,0,none⟩)] 156)]) (.there .here) ?_
 refine aq ?_
 rw[oN]
 refine bq () ?_
 exact aw
theorem Fb {w:Nat}{M:List Bool}(hx:BkOk W AL AB (x,v))(hg:goodB x)(hM:M.length+(xf x).length<=8388608):
  Cn p_ 153 [ye level (x,v),.pointer (some ⟨w,0,none⟩)] W [iu w M,AL] (fun _:Unit=> .tuple #[]) (fun _=>[iu w (M++xf x),AL]):=by
 obtain⟨⟨la,lc⟩,⟨ba,bc⟩⟩:=v
 have hpn:=hg.pn
 obtain⟨l1,l2⟩:=AT (ps:=x.1) (by omega)
 have v1:=nH (nF x.1) 15
 have v2:=nH (nG x.1) 15
 change ∀z∈oF x.1,0<=z/\z<=15 at v1
 change ∀z∈oG x.1,0<=z/\z<=15 at v2
 have hdx:xf x=Ci (oF x.1) (oG x.1)++xe (oF x.1) (oG x.1) x.1:=rfl
 rw[hdx,List.length_append]at hM
 rw[hdx,<- List.append_assoc]
 unfold ye
 (try dsimp only)
 (refine Shp.cn (Sg.g_ Tryz.call153 Tryz.func153 (an:={drs:=[(3,.ofL [(0,3),(1,3),(2,3),(3,1),(4,0),(5,0)])]}) (os:=[(3,[(4,[2,1,0])])])) fun F=>?_;simp only[ca_,na_])
 have hO:=SG (W:=W) (pc:=lc) (ba:=ba) (bn:=x.2.length) (bc:=bc) (level:=level) (ps:=x.1) hx.rl (by omega) hg.g
 (try dsimp only at hO)
 clear hdx
 generalize oF x.1=A5 at *
 generalize oG x.1=B5 at *
 refine bV fun b2=>?_
 refine lG ?_
 refine c_ hO fun _=>?_
 rename_i q
 obtain⟨qa,qb⟩:=q
 (try dsimp only)
 refine o_ (bk (v:=jw (sv A5 qa)) rfl) ?_
 refine o_ (bk (v:=jw (sv B5 qb)) rfl) ?_
 unfold jw
 (try dsimp only)
 refine bp fun g=>?_;refine bp fun g=>?_;refine fO ?_;refine fO ?_;refine lG ?_;refine lG ?_
 refine aB (head (w:=w) (L:=M) (qa:=qa) (qb:=qb) v1 v2 l1 l2 (by omega)) (.cons (by repeat constructor) (.cons (by repeat constructor) (.cons (by repeat constructor) .nil))) fun _=>?_
 refine aq ?_
 refine bA ?_;(((refine' bh (cg ?hn) ?hi ?_);(case hi=>exact .pick (by repeat constructor) .nil);(case hn=>rfl)));(((refine' bh (cg ?hn) ?hi ?_);(case hi=>exact .pick (by repeat constructor) .nil);(case hn=>rfl)));(((refine' bh (cg ?hn) ?hi ?_);(case hi=>exact .pick (by repeat constructor) .nil);(case hn=>rfl)))
 refine c_ (Px (w:=w)) fun _=>?_
 rename_i g2
 refine cf ?_;refine cf ?_;refine cf ?_
 refine bF (M:=vC A5 B5 qa qb w g2 (M++Ci A5 B5) []::AL::F) ?_ ?_
 ·unfold vC
  refine .all ?_
  refine aq ?_
  rw[List.flatMap_nil,List.append_nil]
  exact aw
 refine aB (sd (f:=227) (cap:=[.pointer (some ⟨g2,0,none⟩)]) (J:=vC A5 B5 qa qb w g2 (M++Ci A5 B5)) (va:=sv A5 qa) (vb:=sv B5 qb) (ps:=x.1) hx.rl (by omega) hg.g
  (fun d e r h=>Js (oM hg.g e (by rw[h];simp)) (by have:=xF (la:=A5) (lb:=B5) h;rw[List.length_append];omega))) (.cons (by repeat constructor) (.cons (by repeat constructor) .nil)) fun _=>?_
 refine aq ?_
 refine ap (M:=[iu w ((M++Ci A5 B5)++(lB x.1).flatMap (t8 A5 B5)),eH A5 qa,eH B5 qb,pt g2 (.cells #[.pointer (some ⟨w,0,none⟩)] 156)]) (.there .here) ?_
 refine aq ?_
 rw[oN]
 refine bq () ?_
 exact aw
end IF
namespace IF
open Go Go.Proofs Go.RowKit Sh Sl T HM HF B M
variable {W:World} {AL AB:HP} {x:fX} {v:Bv} {level:Int}
def lC (k:Nat):FuncId:=if k=0 then 151 else if k=1 then 152 else 153
theorem PA {k w:Nat}{M:List Bool}(hx:BkOk W AL AB (x,v))(hg:goodB x)(hM:M.length<=6500000):
  Cn p_ (lC k) [ye level (x,v),.pointer (some ⟨w,0,none⟩)] W [iu w M,AL,AB] (fun _:Unit=> .tuple #[]) (fun _=>[iu w (xg k M x),AL,AB]):=by
 have hpn:=hg.pn
 have hbn:=hg.bn
 unfold lC xg
 by_cases h0:k=0
 ·rw[if_pos h0,if_pos h0]
  exact Cn.frame (R:=[AL]) (Ih (level:=level) (w:=w) (M:=M) hx (by omega) (by omega)) (fun F=>aD aw) (fun _ F=>aD aw)
 ·rw[if_neg h0,if_neg h0]
  by_cases h1:k=1
  ·rw[if_pos h1,if_pos h1]
   have:=AS (x:=x) hg.g hpn
   exact Cn.frame (R:=[AB]) (Lt (level:=level) (w:=w) (M:=M) hx hg (by omega)) (fun F=>aD aw) (fun _ F=>aD aw)
  ·rw[if_neg h1,if_neg h1]
   have:=AU (x:=x) hg.g hpn
   exact Cn.frame (R:=[AB]) (Fb (level:=level) (w:=w) (M:=M) hx hg (by omega)) (fun F=>aD aw) (fun _ F=>aD aw)
def kT (k n:Nat)(x:fX):Nat:=if k=0 then oH n x else if k=1 then 3+(pQ x).length else 3+(xf x).length
theorem Fc (k n:Nat)(x:fX):(xg k (aX 0 (n%8)++aX 0 3) x).length=n%8+kT k n x:=by
 unfold xg kT
 split
 ·rw[xo]
  simp only[List.length_append,aS]
  unfold oH
  omega
 ·split
  ·simp only[List.length_append,aS];omega
  ·simp only[List.length_append,aS];omega
theorem Bd (k n:Nat)(hg:goodB x):kT k n x<=1500100:=by
 have h1:=AS (x:=x) hg.g hg.pn
 have h2:=AU (x:=x) hg.g hg.pn
 have h3:=hg.bn
 unfold kT
 split
 ·unfold oH;omega
 ·split <;> omega
theorem PB {k n:Nat}(hx:BkOk W AL AB (x,v))(hg:goodB x)(hn:n<=1099511627776):
  Cn p_ 154 [ye level (x,v),fn (lC k),.int .i64 (n:Int)] W [AL,AB] (fun _:Unit=> .int .i64 (kT k n x:Int)) (fun _=>[AL,AB]):=by
 have cL:=Fc k n x
 have hle:=Bd k n hg
 have hw:=fun w=>PA (k:=k) (w:=w) (level:=level) (M:=aX 0 (n%8)++aX 0 3) hx hg (by simp only[List.length_append,aS];omega)
 obtain⟨⟨la,lc⟩,⟨ba,bc⟩⟩:=v
 unfold ye at hw ⊢
 (try dsimp only at hw)
 (try dsimp only)
 (refine Shp.cn (Sg.g_ Tryz.call154 Tryz.func154) fun F=>?_;simp only[ca_,na_])
 refine bV fun b3=>?_
 refine c_ tJ fun _=>?_
 rename_i w
 (((refine o_ (mH ?h1 ?h2) ?_);(case h1=>omega);(case h2=>omega)))
 have hmod:(n:Int)%8=((n%8:Nat):Int):=by omega
 refine c_ (put (l:=[]) (n:=0) (k:=(n:Int)%8)) fun _=>?_
 rw[je (n:=0) (e:=0) (k:=(n:Int)%8) (j:=n%8) rfl hmod (by omega) (Nat.two_pow_pos _) (by simp only[List.length_nil];omega),List.nil_append]
 refine c_ (put (l:=aX 0 (n%8)) (n:=0) (k:=3)) fun _=>?_
 rw[je (n:=0) (e:=0) (k:=3) (j:=3) rfl rfl (by omega) (by omega) (by rw[aS];omega)]
 refine lG ?_
 refine aB (hw w) (.cons (by repeat constructor) (.cons (by repeat constructor) (.cons (by repeat constructor) .nil))) fun _=>?_
 refine aq ?_
 refine c_ (Go.Proofs.YtndojgomlkpeaaaGreatDoor.B.bits (l:=xg k (aX 0 (n%8)++aX 0 3) x)) fun _=>?_
 rw[cL]
 (((refine o_ (mH ?h1 ?h2) ?_);(case h1=>omega);(case h2=>omega)));refine dX ?_
 rw[show((n%8+kT k n x:Nat):Int)-(n:Int)%8=(kT k n x:Int) by omega]
 refine bq () ?_
 exact aw
theorem SH {w last:Nat}{L:List Bool}(hx:BkOk W AL AB (x,v))(hg:goodB x)(hl:last<=1)(hL:L.length<=6000000):
  Cn p_ 112 [ye level (x,v),.pointer (some ⟨w,0,none⟩),.int .i64 (last:Int)] W [iu w L,AL,AB] (fun _:Unit=> .tuple #[]) (fun _=>[iu w (lA level L last x),AL,AB]):=by
 have hs:=fun k=>PB (k:=k) (n:=L.length) (level:=level) hx hg (by omega)
 have hsl:=fun k=>Bd (x:=x) k L.length hg
 have hb2:=EO L.length level x
 have hpX:lA level L last x=xg (nA L.length level x) (L++aX last 1++aX (nA L.length level x) 2) x:=rfl
 have hw:=PA (k:=nA L.length level x) (w:=w) (level:=level) (M:=L++aX last 1++aX (nA L.length level x) 2) hx hg (by simp only[List.length_append,aS];omega)
 rw[hpX]
 have hbd:nA L.length level x=if ¬0<level then 0 else if kT 2 L.length x<(if kT 1 L.length x<kT 0 L.length x then kT 1 L.length x else kT 0 L.length x)then 2 else if kT 1 L.length x<kT 0 L.length x then 1 else 0:=rfl
 obtain⟨bst_,hbst⟩:∃bst_,bst_=nA L.length level x:=⟨_,rfl⟩
 rw[<- hbst]at hb2 hw hbd ⊢
 obtain⟨⟨la,lc⟩,⟨ba,bc⟩⟩:=v
 unfold ye at hs hw ⊢
 (try dsimp only at hs hw)
 (try dsimp only)
 (refine Shp.cn (Sg.g_ Tryz.call112 Tryz.func112 (an:={cuts:=[(12,[7])],loops:=[(6,[7,8,24])],drs:=[(4,.ofL [(0,3),(1,3),(2,3),(3,1),(4,0),(5,0),(6,1)]),(8,.ofL [(0,3),(1,2),(2,1),(3,0),(4,0),(5,1)]),(14,.ofL [(0,1),(1,1),(2,1),(3,1),(4,1),(5,0)])]}) (os:=[(4,[(4,[2,1,0])]),(8,[(3,[0])])])) fun F=>?_;simp only[ca_,na_])
 refine bV fun b3=>?_
 refine o_ b_ ?_;refine bp fun g=>?_;refine fO ?_
 rename Nat=>bw
 obtain⟨s0,hs0⟩:∃s0,s0=kT 0 L.length x:=⟨_,rfl⟩
 obtain⟨s1,hs1⟩:∃s1,s1=kT 1 L.length x:=⟨_,rfl⟩
 obtain⟨s2,hs2⟩:∃s2,s2=kT 2 L.length x:=⟨_,rfl⟩
 have hle0:=hsl 0
 have hle1:=hsl 1
 have hle2:=hsl 2
 have hz0:=hs 0
 have hz1:=hs 1
 have hz2:=hs 2
 rw[<- hs0]at hbd hle0 hz0
 rw[<- hs1]at hbd hle1 hz1
 rw[<- hs2]at hbd hle2 hz2
 refine bF (M:=pt bw (.cells #[fn (lC 0),fn (lC 1),fn (lC 2)] 212)::pt b3 (.cells #[.slice la x.1.length lc,.slice ba x.2.length bc,.int .i64 level] 162)::iu w L::AL::AB::F) .refl ?_
 refine dD (fun z=>pu (z= .int .i64 (bst_:Int))::pt bw (.cells #[fn (lC 0),fn (lC 1),fn (lC 2)] 212)::pt b3 (.cells #[.slice la x.1.length lc,.slice ba x.2.length bc,.int .i64 level] 162)::iu w L::AL::AB::F) ?_ ?_
 rotate_left
 ·(refine o_ aj ?_);refine bJ ?_
  refine o_ aV ?_
  by_cases hlv:0<level
  rotate_left
  ·rw[dF_ hlv]
   rw[if_pos hlv]at hbd
   refine aa (aD (.pu (by rw[hbd];rfl) ?_))
   exact aw
  rw[dT_ hlv]
  rw[if_neg (fun h=>h hlv)]at hbd
  refine ab (bA ?_);(((refine' bh (cg ?hn) ?hi ?_);(case hi=>exact .pick (by repeat constructor) .nil);(case hn=>rfl)))
  refine bh (dm 0 rfl (by omega)) .nil ?_
  (((refine' bh (bC ?hc) ?hi ?_);(case hi=>exact .pick (by repeat constructor) .nil);(case hc=>repeat constructor)))
  refine c_ (Go.Proofs.YtndojgomlkpeaaaGreatDoor.B.bits (l:=L)) fun _=>?_
  refine cf ?_;refine cf ?_;refine cf ?_
  refine aB hz0 (.cons (by repeat constructor) (.cons (by repeat constructor) .nil)) fun _=>?_
  refine aq ?_
  refine o_ (Di (l:=1) rfl (by omega)) ?_
  refine o_ aC (gD (fun m y z u=>pu (∃i:Nat,m+i=2/\u= .int .i64 (i:Int)/\((i=0/\y= .int .i64 0/\z= .int .i64 (s0:Int))\/(i=1/\y= .int .i64 (if s1<s0 then 1 else 0)/\z= .int .i64 ((if s1<s0 then s1 else s0:Nat):Int))\/(i=2/\y= .int .i64 (bst_:Int))))::pt bw (.cells #[fn (lC 0),fn (lC 1),fn (lC 2)] 212)::pt b3 (.cells #[.slice la x.1.length lc,.slice ba x.2.length bc,.int .i64 level] 162)::iu w L::AL::AB::F) 2 ?_ ?_)
  ·refine .pu ⟨0,rfl,rfl,.inl ⟨rfl,rfl,rfl⟩⟩ ?_
   exact aw
  intro m ds y z u
  refine aG .here fun hi=>?_
  obtain⟨i,hmi,rfl,hi⟩:=hi
  refine o_ az ?_
  rcases hi with ⟨rfl,rfl,rfl⟩|⟨rfl,rfl,rfl⟩|⟨rfl,rfl⟩
  ·rw[dT_ (by decide)]
   refine ab (o_ (bj 0 rfl (by omega)) ?_)
   refine bJ ?_;refine bA ?_;(((refine' bh (cg ?hn) ?hi ?_);(case hi=>exact .pick (by repeat constructor) .nil);(case hn=>rfl)))
   refine c_ (Go.Proofs.YtndojgomlkpeaaaGreatDoor.B.bits (l:=L)) fun _=>?_
   refine cf ?_
   refine aB hz1 (.cons (by repeat constructor) (.cons (by repeat constructor) .nil)) fun _=>?_
   refine aq ?_
   refine o_ az ?_
   by_cases hc:(s1:Int)<(s0:Int)
   ·rw[dT_ hc]
    refine ab (bG ?_);refine bG ?_
    refine cr (m-1) (by omega) (.pu ⟨1,by omega,rfl,.inr (.inl ⟨rfl,?_,?_⟩)⟩ ?_)
    ·rw[if_pos (by omega)];rfl
    ·rw[if_pos (by omega)]
    exact aw
   ·rw[dF_ hc]
    refine aa (bG ?_)
    refine cr (m-1) (by omega) (.pu ⟨1,by omega,rfl,.inr (.inl ⟨rfl,?_,?_⟩)⟩ ?_)
    ·rw[if_neg (by omega)]
    ·rw[if_neg (by omega)]
    exact aw
  ·rw[dT_ (by decide)]
   refine ab (o_ (bj 1 rfl (by omega)) ?_)
   refine bJ ?_;refine bA ?_;(((refine' bh (cg ?hn) ?hi ?_);(case hi=>exact .pick (by repeat constructor) .nil);(case hn=>rfl)))
   refine c_ (Go.Proofs.YtndojgomlkpeaaaGreatDoor.B.bits (l:=L)) fun _=>?_
   refine cf ?_
   refine aB hz2 (.cons (by repeat constructor) (.cons (by repeat constructor) .nil)) fun _=>?_
   refine aq ?_
   refine o_ az ?_
   by_cases hc:(s2:Int)<((if s1<s0 then s1 else s0:Nat):Int)
   ·rw[dT_ hc]
    rw[if_pos (by exact_mod_cast hc)]at hbd
    refine ab (bG ?_);refine bG ?_
    refine cr (m-1) (by omega) (.pu ⟨2,by omega,rfl,.inr (.inr ⟨rfl,?_⟩)⟩ ?_)
    ·rw[hbd];rfl
    exact aw
   ·rw[dF_ hc]
    rw[if_neg (fun h=>hc (by exact_mod_cast h))]at hbd
    refine aa (bG ?_)
    refine cr (m-1) (by omega) (.pu ⟨2,by omega,rfl,.inr (.inr ⟨rfl,?_⟩)⟩ ?_)
    ·rw[hbd];split <;> rfl
    exact aw
  ·rw[dF_ (by decide)]
   refine aa (aD (.pu rfl ?_))
   exact aw
 intro ds z
 refine aG .here fun hz=>?_
 subst hz
 refine c_ (put (l:=L) (n:=(last:Int)) (k:=1)) fun _=>?_
 rw[je (n:=(last:Int)) (e:=last) (k:=1) (j:=1) rfl rfl (by omega) (by omega) (by omega)]
 refine c_ (put (l:=L++aX last 1) (n:=(bst_:Int)) (k:=2)) fun _=>?_
 rw[je (n:=(bst_:Int)) (e:=bst_) (k:=2) (j:=2) rfl rfl (by omega) (by omega) (by rw[List.length_append,aS];omega)]
 refine bA (t_ (dm bst_ rfl (by omega)) ?_)
 have hld:bg p_ W [pt bw (.cells #[fn (lC 0),fn (lC 1),fn (lC 2)] 212)] (aI 210 (.pointer (some ⟨bw,0+bst_ * 1,none⟩))) (fn (lC bst_)):=by
  rcases(show bst_=0\/bst_=1\/bst_=2 by omega)with rfl|rfl|rfl <;> exact e_ rfl
 refine eJ hld ?_
 (((refine' aT (cg ?hn) ?hi ?_);(case hi=>exact .pick (by repeat constructor) .nil);(case hn=>rfl)))
 refine aB hw (.cons (by repeat constructor) (.cons (by repeat constructor) (.cons (by repeat constructor) .nil))) fun _=>?_
 refine bq () ?_
 exact aw
end IF
namespace IF
open Go Go.Proofs Go.RowKit Sh Sl T HM HF B M
theorem Fe {level:Int}:∀ {X:List (fX × Bv)} {i j:Nat} (h:i<X.length),j<3->(X.flatMap (A8 level))[i * 3+j]? =(A8 level X[i])[j]?
 |y::X,0,j,h,hj=>by
  rw[List.flatMap_cons,List.getElem?_append_left (by rw[vA];omega)]
  simp
 |y::X,i+1,j,h,hj=>by
  rw[List.flatMap_cons,List.getElem?_append_right (by rw[vA];omega),vA,show(i+1) * 3+j-3=i * 3+j by omega]
  exact Fe (by simpa using h) hj
theorem Ii (level:Int)(X:List (fX × Bv)):(X.flatMap (A8 level)).length=X.length * 3:=by
 induction X with
 |nil=>rfl
 |cons y X ih=>rw[List.flatMap_cons,List.length_append,ih,vA,List.length_cons];omega
theorem CB (level:Int)(L:List Bool):jt level L []=L:=rfl
theorem zk (level:Int)(L:List Bool)(x:fX)(xs:List fX):jt level L (x::xs)=jt level (lA level L 0 x) xs:=by unfold jt;rw[List.foldl_cons]
theorem zl (level:Int)(L:List Bool)(xs:List fX)(x:fX):jt level L (xs++[x])=lA level (jt level L xs) 0 x:=by
 unfold jt;rw[List.foldl_append,List.foldl_cons,List.foldl_nil]
theorem sj (level:Int):∀(xs:List fX) (L:List Bool) (x:fX),kN level L (xs++[x])=lA level (jt level L xs) 1 x
 |[],L,x=>by rw[List.nil_append,kN,CB]
 |y::r,L,x=>by
  have ih:=sj level r (lA level L 0 y) x
  rw[zk,<- ih]
  cases r with
  |nil=>simp only[ca_,na_,kN]
  |cons z r=>rw[List.cons_append,List.cons_append,kN]
theorem sk:∀(xs ys:List fX),eO (xs++ys)=eO xs+eO ys
 |[],ys=>by simp[eO]
 |x::xs,ys=>by rw[List.cons_append,eO,eO,sk xs ys];omega
theorem CC {b:List UInt8}{level:Int}(hlv:0<=level)(hb:b.length<=524288)(i:Nat):(jt level [] ((eY b level).take i)).length<=6000000:=by
 obtain⟨hG,hn⟩:=zb b hlv
 have h1:=tY level ((eY b level).take i) []
 have h2:=rW hG
 have h3:=sk ((eY b level).take i) ((eY b level).drop i)
 rw[List.take_append_drop]at h3
 rw[List.length_take]at h1
 simp only[List.length_nil]at h1
 omega
theorem PC {W:World}{n:Int}:Cn p_ 109 [.int .i64 n] W [] (fun _:Unit=> .bool (decide (n<0\/9<n))) (fun _=>[]):=by
 (refine Shp.cn (Sg.g_ Tryz.call109 Tryz.func109) fun F=>?_;simp only[ca_,na_])
 refine o_ az ?_
 by_cases h:n<0
 ·rw[dT_ h,dT_ (Or.inl h)]
  refine ao (ao (o_ ah (bq () ?_)))
  exact .refl
 ·rw[dF_ h]
  refine ae (ae (o_ aV (o_ ag ?_)))
  rw[show decide (n<0\/9<n)=decide (9<n)from decide_eq_decide.2 ⟨fun x=>x.resolve_left h,.inr⟩]
  refine bq () ?_
  exact .refl
def CL (level:Int)(xs:List fX)(i:Nat):List Bool:=if i<xs.length then jt level [] (xs.take i)else kN level [] xs
theorem Ij {level:Int}{xs:List fX}{i:Nat}(h:i<xs.length):CL level xs (i+1)=lA level (CL level xs i) (if i+1=xs.length then 1 else 0) xs[i]:=by
 unfold CL
 rw[if_pos h]
 by_cases c:i+1=xs.length
 ·rw[if_neg (by omega),if_pos c]
  have e:xs=xs.take i++[xs[i]]:=by rw[<- List.take_succ_eq_append_getElem h,List.take_of_length_le (by omega)]
  conv=>lhs;rw[e]
  exact sj _ _ _ _
 ·rw[if_pos (by omega),if_neg c,List.take_succ_eq_append_getElem h,zl]
theorem Ik {W:World}{a:Option Addr}{c:Nat}{level:Int}{b:List UInt8}{A:HP}(hA:RdB W A a b.length (b.map Sl.B))(hc:b.length<=c):
  Cn p_ 79 [.slice a b.length c,.int .i64 level] W [A] (fun q:Option Addr × Nat=> .tuple #[.slice q.1 (ke b level).length q.2,.int .i64 (kO b level)]) (fun q=>[Sl 1 5 q.1 q.2 (ke b level).length ((ke b level).map Sl.B),A]):=by
 have bad:∀(e:Int) (L:List HP),kO b level=e->e≠0->aZ W (A::L) (fun w=>∃q:Option Addr × Nat,(.tuple #[.slice none 0 0,.int .i64 e]:Value)= .tuple #[.slice q.1 (ke b level).length q.2,.int .i64 (kO b level)]/\sat W ([Sl 1 5 q.1 q.2 (ke b level).length ((ke b level).map Sl.B),A]++L) w):=by
  intro e L h h0
  have hv:ke b level=[]:=by unfold ke;rw[if_neg (by rw[h];exact h0)]
  rw[h,hv]
  refine aR (none,0) rfl ?_
  exact bR .refl
 (refine Shp.cn (Sg.g_ Tryz.call79 Tryz.func79 (an:={cuts:=[(13,[10])],loops:=[(8,[24])]})) fun F=>?_;simp only[ca_,na_])
 refine c_ (PC (n:=level)) fun _=>?_
 by_cases hw:level<0\/9<level
 ·rw[dT_ hw]
  exact ab (bad 1 F (by unfold kO;rw[if_pos hw]) (by decide))
 rw[dF_ hw]
 refine aa (o_ aC (o_ aV ?_))
 by_cases hs:(524288:Int)<(b.length:Int)
 ·rw[dT_ hs]
  exact ab (bad 6 F (by unfold kO;rw[if_neg hw,if_pos (by omega)]) (by decide))
 rw[dF_ hs]
 have hE:kO b level=0:=by unfold kO;rw[if_neg hw,if_neg (by omega)]
 have hlv:0<=level:=by omega
 have hbl:b.length<=524288:=by omega
 refine aa (c_ tJ fun _=>?_)
 rename_i w
 refine aB (H9 (c:=c) (level:=level) hA hc (by omega) (by omega)) (.cons (by repeat constructor) .nil) fun q=>?_
 obtain⟨⟨xa,xc⟩,⟨pa,pc⟩,X⟩:=q
 refine aq ?_
 refine aG .here fun hX=>?_
 (try dsimp only at hX)
 (try dsimp only)
 obtain⟨hXf,hXk⟩:=hX
 obtain⟨hG,hn⟩:=zb b hlv
 have hXl:X.length=(eY b level).length:=by rw[<- hXf,List.length_map]
 have hbnd:=CC (b:=b) (level:=level) hlv hbl
 have hXb:X.length<=1000:=by omega
 have hne:=HJ b level
 have hpos:0<X.length:=by rw[hXl];exact List.length_pos_iff.2 hne
 have Ci:xi b level=CL level (eY b level) X.length:=by unfold CL xi;rw[if_neg (by omega)]
 have hdB:ke b level=pk (xi b level):=by unfold ke;rw[if_pos hE]
 refine dA .here hpos fun gx hgx=>?_
 subst hgx
 refine o_ aC ?_
 obtain⟨AL,hAL⟩:∃AL,AL=Sl 3 209 pa pc (iK b level).length ((iK b level).flatMap mi):=⟨_,rfl⟩
 rw[<- hAL]at hXk ⊢
 refine a_ (fun m y=>(ex fun i:Nat=>all [pu (m+i=X.length/\y= .int .i64 (i:Int)),iu w (CL level (eY b level) i)])::Sl 3 162 (some ⟨gx,0,none⟩) xc X.length (X.flatMap (A8 level))::AL::A::F) X.length ?_ ?_
 ·refine .ex 0 (.all ?_)
  refine aq ?_
  refine .pu ⟨by omega,rfl⟩ ?_
  rw[show CL level (eY b level) 0=[] by unfold CL;rw[if_pos (by omega)];rfl]
  exact aw
 intro m ds y
 refine aH .here fun i=>ap .here ?_
 refine aq ?_
 refine aG .here fun hi=>?_
 obtain⟨hmi,rfl⟩:=hi
 refine o_ az ?_
 by_cases hlt:(i:Int)<(X.length:Int)
 ·rw[dT_ hlt]
  have hi:i<X.length:=by omega
  have hib:i<(eY b level).length:=by omega
  have hk:=hXk _ (List.getElem_mem hi)
  have hx1:X[i].1=(eY b level)[i]:=by
   have:=List.getElem_map (f:=Prod.fst) (l:=X) (i:=i) (h:=by rw[List.length_map];exact hi)
   rw[<- this]
   congr 1
  obtain⟨fr,hok⟩:=xm hG _ (List.getElem_mem hib)
  have hst:=Ij (level:=level) hib
  have hLi:(CL level (eY b level) i).length<=6000000:=by unfold CL;rw[if_pos hib];exact hbnd i
  rw[<- hx1]at hok hst
  refine ab (o_ (cR i (by rfl) hi) ?_)
  have ld:bg p_ W [Sl 3 162 (some ⟨gx,0,none⟩) xc X.length (X.flatMap (A8 level))] (aI 162 (.pointer (some ⟨gx,0+i * 3,none⟩))) (ye level X[i]):=jE (vs:=A8 level X[i]) (nV (Ii _ _) (fun _=>⟨gx,rfl⟩)) rfl (fun j hj=>Fe hi hj)
  refine bt ld ?_
  obtain⟨⟨x,v⟩,hxv⟩:∃z,z=X[i]:=⟨_,rfl⟩
  rw[<- hxv]at hk hok hst ⊢
  (try dsimp only at hok hst)
  unfold ye
  refine bp fun g=>?_;refine fO ?_
  rename Nat=>b9
  refine dD (fun z=>pu (z= .int .i64 ((if i+1=X.length then 1 else 0:Nat):Int))::pt b9 (.cells #[.slice v.1.1 x.1.length v.1.2,.slice v.2.1 x.2.length v.2.2,.int .i64 level] 162)::iu w (CL level (eY b level) i)::Sl 3 162 (some ⟨gx,0,none⟩) xc X.length (X.flatMap (A8 level))::AL::A::F) ?_ ?_
  rotate_left
  ·(refine o_ aC ?_);refine dX ?_
   refine o_ aP ?_
   by_cases hz:(i:Int)=(X.length:Int)-1
   ·rw[dT_ hz]
    refine ab (aD (.pu (by rw[if_pos (by omega)];rfl) ?_))
    exact aw
   ·rw[dF_ hz]
    refine aa (aD (.pu (by rw[if_neg (by omega)];rfl) ?_))
    exact aw
  intro ds z
  refine aG .here fun hz=>?_
  subst hz
  refine lG ?_
  refine aB (SH (w:=w) (last:=if i+1=X.length then 1 else 0) (L:=CL level (eY b level) i) (level:=level) hk (okBk.good hok) (by split <;> omega) hLi) (.cons (by repeat constructor) (.cons (by repeat constructor) (.cons (by repeat constructor) .nil))) fun _=>?_
  refine aq ?_
  refine bG ?_
  refine aK (m-1) (by omega) (.ex (i+1) (.all ?_))
  refine aq ?_
  rw[hst,hXl]
  refine .pu ⟨by omega,by norm_cast⟩ ?_
  exact aw
 ·rw[dF_ hlt]
  have hie:i=X.length:=by omega
  subst hie
  rw[<- Ci]
  refine aa (c_ (Go.Proofs.YtndojgomlkpeaaaGreatDoor.B.bytes (l:=xi b level)) fun _=>?_)
  rename_i q
  rw[hdB,hE]
  refine bq q ?_
  exact aw
end IF
namespace GZ
open Go Go.Proofs Go.RowKit Sh Sl T IF
theorem PE {P:Program}{W:World}{q:IntKind}{a:Int}:bg P W [] (Bu .xor (.int q a)) (.int q (co .xor q (if q.signed then-1 else q.max) a)):=fun w _=>by
 simp[Bu,Op.unary,Op.intBits,co]
theorem Be {P:Program}{W:World}{a:Nat}(h:a<4294967296):bg P W [] (Bu .xor (.int .u32 (a:Int))) (.int .u32 (vU a:Int)):=by
 have:=PE (P:=P) (W:=W) (q:= .u32) (a:=(a:Int))
 unfold vU
 rw[show(if IntKind.u32.signed=true then(-1:Int)else IntKind.u32.max)=((4294967295:Nat):Int)from rfl,xt (by decide) h]at this
 exact this
def Un (n:Nat)(f:Nat->Nat):Array Value:=((List.range n).map fun j=>Value.int .u32 (f j:Int)).toArray
theorem fK (n:Nat)(f:Nat->Nat):(Un n f).size=n:=by simp[Un]
theorem vD {n j:Nat}{f:Nat->Nat}(h:j<n):(Un n f)[j]? =some (.int .u32 (f j:Int)):=by simp[Un,h]
theorem Ff {n:Nat}{f:Nat->Nat}{m:Array Value}(hm:m.size=n)(h:∀j,j<n->m[j]? =some (.int .u32 (f j:Int))):Un n f=m:=by
 apply Array.ext_getElem?
 intro j
 by_cases c:j<n
 ·rw[vD c,h j c]
 ·rw[Array.getElem?_eq_none (by rw[fK];omega),Array.getElem?_eq_none (by omega)]
theorem Lu {n j:Nat}{f:Nat->Nat}{v:Nat}:(Un n f).setIfInBounds j (.int .u32 (v:Int))=Un n fun i=>if i=j then v else f i:=by
 refine(Ff (by simp[fK]) fun i hi=>?_).symm
 rw[Array.getElem?_setIfInBounds]
 by_cases c:i=j
 ·subst c;rw[if_pos rfl,if_pos (by rw[fK];exact hi),if_pos rfl]
 ·rw[if_neg (fun h=>c h.symm),if_neg c,vD hi]
theorem sl {n:Nat}{f g:Nat->Nat}(h:∀j,j<n->f j=g j):Un n f=Un n g:=Ff (fK n g) fun j hj=>by rw[vD hj,h j hj]
theorem Fg {n:Nat}{f:Nat->Nat}:∀u∈(Un n f).toList,u.oneCell'=true:=fun u hu=>by
 simp only[Un,List.mem_map]at hu
 obtain⟨j,_,rfl⟩:=hu
 rfl
theorem uE:Tryz.zeroCells190=Un 256 fun _=>0:=by kernel_rfl
theorem PF {W:World}:Cn p_ 140 [] W [] (fun _:Unit=> .agg (Un 256 sw)) (fun _=>[]):=by
 (refine Shp.cn (Sg.g_ Tryz.call140 Tryz.func140 (an:={loops:=[(3,[4]),(7,[3,9])]})) fun F=>?_;simp only[ca_,na_])
 refine wh (fun w=>Tryz.zeroValue190 w) fun g0=>?_
 refine wh (fun w=>Tryz.zeroValue190 w) fun g1=>?_
 rw[bb,uE]
 refine a_ (fun m y=>(ex fun i:Nat=>all [pu (m+i=256/\y= .int .i64 (i:Int)),pt g1 (.cells (Un 256 fun j=>if j<i then sw j else 0) 190 (0,0))])::pt g0 (.cells (Un 256 fun _=>0) 190 (0,0))::F) 256 ?_ ?_
 ·refine .ex 0 (.all ?_)
  refine aq ?_
  rw[sl (f:=fun j=>if j<0 then sw j else 0) (g:=fun _=>0) (fun j _=>by simp)]
  refine .pu ⟨rfl,rfl⟩ ?_
  exact aw
 intro m ds y
 refine aH .here fun i=>ap .here ?_
 refine aq ?_
 refine aG .here fun hi=>?_
 obtain⟨hmi,rfl⟩:=hi
 refine o_ az ?_
 by_cases hlt:(i:Int)<256
 ·rw[dT_ hlt]
  refine ab (o_ (br (q:= .u32)) ?_)
  rw[lu (n:=i) (by omega)]
  refine bI (fun m2 y z=>pu (∃k:Nat,m2+k=8/\y= .int .u32 (ju k i:Int)/\z= .int .i64 (k:Int))::pt g1 (.cells (Un 256 fun j=>if j<i then sw j else 0) 190 (0,0))::pt g0 (.cells (Un 256 fun _=>0) 190 (0,0))::F) 8 ?_ ?_
  ·refine .pu ⟨0,rfl,rfl,rfl⟩ ?_
   exact aw
  intro m2 ds y z
  refine aG .here fun hk=>?_
  obtain⟨k,hmk,rfl,rfl⟩:=hk
  have hs:=qi k (c:=i) (by omega)
  have hsn:=oK k i
  refine o_ az ?_
  by_cases hlk:(k:Int)<8
  ·rw[dT_ hlk]
   refine ab (o_ fT ?_)
   rw[AV hs]
   refine o_ aP ?_
   by_cases hodd:((ju k i%2:Nat):Int)=1
   ·rw[dT_ hodd]
    refine ab (o_ (eQ (by decide)) ?_)
    rw[show(1:Int)=((1:Nat):Int)from rfl,lP (by omega)]
    refine o_ we ?_
    rw[show(3988292384:Int)=((3988292384:Nat):Int)from rfl,xt (by omega) (by decide)]
    refine bG ?_
    refine bo (m2-1) (by omega) (.pu ⟨k+1,by omega,?_,by rfl⟩ ?_)
    ·rw[hsn,CK,if_pos (by omega)];rfl
    exact aw
   ·rw[dF_ hodd]
    refine aa (o_ (eQ (by decide)) ?_)
    rw[show(1:Int)=((1:Nat):Int)from rfl,lP (by omega)]
    refine bG ?_
    refine bo (m2-1) (by omega) (.pu ⟨k+1,by omega,?_,by rfl⟩ ?_)
    ·rw[hsn,CK,if_neg (by omega)]
    exact aw
  have hk8:k=8:=by omega
  subst hk8
  rw[dF_ hlk]
  refine aa (o_ (dm i rfl (by omega)) ?_)
  refine l8 (.here) (by rw[fK];omega) ?_
  rw[Lu,Nat.zero_add,Nat.mul_one]
  refine bG ?_
  refine aK (m-1) (by omega) (.ex (i+1) (.all ?_))
  refine aq ?_
  rw[sl (f:=fun j=>if j<i+1 then sw j else 0) (g:=fun j=>if j=i then ju 8 i else if j<i then sw j else 0) (fun j _=>by
   by_cases c:j=i
   ·subst c;rw[if_pos (by omega),if_pos rfl];exact zd _
   ·rw[if_neg c]
    by_cases d:j<i
    ·rw[if_pos (by omega),if_pos d]
    ·rw[if_neg (by omega),if_neg d])]
  refine .pu ⟨by omega,by rfl⟩ ?_
  exact aw
 have hi256:i=256:=by omega
 subst hi256
 rw[dF_ hlt,sl (f:=fun j=>if j<256 then sw j else 0) (g:=sw) (fun j hj=>if_pos hj)]
 refine aa (bt (cg (fK _ _)) ?_)
 refine bS (.there .here) (fK _ _) (fK _ _) Fg ?_
 refine eJ (cG (fK _ _)) ?_
 refine bq () ?_
 exact aw
theorem Fh (l:List UInt8):∀u∈(l.map Sl.B).toArray.toList,u.oneCell'=true:=by
 rw[List.toList_toArray]
 exact dY
theorem add {W:World}{s:Nat}{a:Option Addr}{c:Nat}{b:List UInt8}{A:HP}(hs:s<4294967296)(hr:RdB W A a b.length (b.map Sl.B))(hb:b.length<=4611686018427387904):
  Cn p_ 104 [.int .u32 (s:Int),.slice a b.length c] W [A] (fun _:Unit=> .int .u32 (HL s b:Int)) (fun _=>[A]):=by
 (refine Shp.cn (Sg.g_ Tryz.call104 Tryz.func104 (an:={loops:=[(4,[6,14])]})) fun F=>?_;simp only[ca_,na_])
 refine c_ PF fun _=>?_
 refine wh (fun w=>Tryz.zeroValue190 w) fun g0=>?_
 rw[bb,uE]
 refine bS .here (fK _ _) (fK _ _) Fg ?_
 refine o_ (Be hs) ?_
 refine o_ aC (bI (fun m y z=>pu (∃i:Nat,m+i=b.length/\y= .int .u32 (iO (vU s) (b.take i):Int)/\z= .int .i64 (i:Int))::pt g0 (.cells (Un 256 sw) 190 (0,0))::A::F) b.length ?_ ?_)
 ·refine .pu ⟨0,by omega,rfl,rfl⟩ ?_
  exact aw
 intro m ds y z
 refine aG .here fun hk=>?_
 obtain⟨i,hmi,rfl,rfl⟩:=hk
 refine o_ az ?_
 by_cases hlt:(i:Int)<(b.length:Int)
 ·rw[dT_ hlt]
  have hi:i<b.length:=by omega
  obtain⟨g,o,rfl,_⟩:=hr.at_ (by omega)
  have hst:iO (vU s) (b.take (i+1))=sw ((iO (vU s) (b.take i)%256) ^^^ b[i].toNat) ^^^ (iO (vU s) (b.take i) / 256):=by
   rw[List.take_succ_eq_append_getElem hi,tZ]
  have hcl:=lw (b.take i) (oL hs)
  obtain⟨C,hC⟩:∃C,C=iO (vU s) (b.take i):=⟨_,rfl⟩
  rw[<- hC]at hst hcl ⊢
  have hx:=b[i].toNat_lt
  refine ab (o_ (bj i rfl hi) ?_)
  refine bt (bP hr (v:= .int .u8 (b[i].toNat:Int)) (wi hi)) ?_
  refine o_ (br (q:= .u8)) ?_
  rw[gG]
  refine o_ we ?_
  rw[SC (by omega) hx]
  have hxl:=vw (a:=C%256) (b:=b[i].toNat) (by omega) hx
  refine o_ (dm _ rfl hxl) ?_
  have hld:(Un 256 sw)[0+((C%256) ^^^ b[i].toNat) * 1]? =some (.int .u32 (sw ((C%256) ^^^ b[i].toNat):Int)):=by rw[Nat.zero_add,Nat.mul_one];exact vD hxl
  refine bt (e_ hld) ?_
  refine o_ (eQ (by decide)) ?_
  rw[show(8:Int)=((8:Nat):Int)from rfl,lP (by omega)]
  refine o_ we ?_
  rw[xt (EP hxl) (by omega),show C / 2^8=C / 256 from rfl,<- hst]
  refine bG ?_
  refine bo (m-1) (by omega) (.pu ⟨i+1,by omega,rfl,rfl⟩ ?_)
  exact aw
 have hie:i=b.length:=by omega
 subst hie
 have hcl:=lw b (oL hs)
 rw[dF_ hlt,List.take_length]
 refine aa (o_ (Be hcl) ?_)
 refine bq () ?_
 exact aw
theorem Lv {W:World}{a:Option Addr}{c:Nat}{b:List UInt8}{A:HP}(hr:RdB W A a b.length (b.map Sl.B))(hb:b.length<=4611686018427387904):
  Cn p_ 72 [.slice a b.length c] W [A] (fun _:Unit=> .int .u32 (pE b:Int)) (fun _=>[A]):=by
 (refine Shp.cn (Sg.g_ Tryz.call72 Tryz.func72) fun F=>?_;simp only[ca_,na_])
 refine c_ (add (s:=0) (by decide) hr hb) fun _=>?_
 refine bq () ?_
 exact .refl
theorem xI {W:World}{n:Nat}{a:Option Addr}{c:Nat}{b:List UInt8}(hn:n<4294967296)(hb:b.length<=70368744177664):
  Cn p_ 71 [.slice a b.length c,.int .u32 (n:Int)] W [Sl 1 5 a c b.length (b.map Sl.B)] (fun q:Option Addr × Nat=> .slice q.1 (b++du n).length q.2) (fun q=>[Sl 1 5 q.1 q.2 (b++du n).length ((b++du n).map Sl.B)]):=by
 (refine Shp.cn (Sg.g_ Tryz.call71 Tryz.func71) fun F=>?_;simp only[ca_,na_])
 refine o_ (br (q:= .u8)) ?_
 rw[gG]
 refine o_ (eQ (by decide)) ?_
 rw[show(8:Int)=((8:Nat):Int)from rfl,lP (by omega)]
 refine o_ (br (q:= .u8)) ?_
 rw[gG]
 refine o_ (eQ (by decide)) ?_
 rw[show(16:Int)=((16:Nat):Int)from rfl,lP (by omega)]
 refine o_ (br (q:= .u8)) ?_
 rw[gG]
 refine o_ (eQ (by decide)) ?_
 rw[show(24:Int)=((24:Nat):Int)from rfl,lP (by omega)]
 refine o_ (br (q:= .u8)) ?_
 rw[gG]
 have hf:(du n).map Sl.B=[.int .u8 ((n%256:Nat):Int),.int .u8 ((n / 2^8%256:Nat):Int),.int .u8 ((n / 2^16%256:Nat):Int),.int .u8 ((n / 2^24%256:Nat):Int)]:=by
  unfold du
  simp only[List.map_cons,List.map_nil]
  rw[Go.Proofs.YtndojgomlkpeaaaGreatDoor.M.eZ (by omega),Go.Proofs.YtndojgomlkpeaaaGreatDoor.M.eZ (by omega),Go.Proofs.YtndojgomlkpeaaaGreatDoor.M.eZ (by omega),Go.Proofs.YtndojgomlkpeaaaGreatDoor.M.eZ (by omega)]
 refine f_ (vs:=(du n).map Sl.B) rfl (by rw[hf];rfl) (by intro v hv;obtain⟨c,_,rfl⟩:=List.mem_map.1 hv;rfl) (by omega) fun gd=>?_
 refine bO (m:=4) (news:=(du n).map Sl.B) (.there .here) (cA (s:=1) (e':=5) (by kernel_rfl) .here (by rfl) (Fh (du n))) (by omega) (by omega) fun a2 c2=>?_
 rw[<- List.map_append,show b.length+4=(b++du n).length by rw[List.length_append,show(du n).length=4 from rfl]]
 refine bq ((a2,c2)) ?_
 exact aw
theorem PG {W : World} {n : Int} : Cn p_ 80 [.int .i64 n] W [] (fun q : Option Addr × Nat => .slice q.1 (F_ (n % 4294967296).toNat).length q.2) (fun q => [Sl 1 5 q.1 q.2 (F_ (n % 4294967296).toNat).length ((F_ (n % 4294967296).toNat).map Sl.B)]) := by
 obtain ⟨m, hm⟩ : ∃ m, m = (n % 4294967296).toNat := ⟨_, rfl⟩
 have hml : m < 4294967296 := by omega
 rw [<- hm]
 (refine Shp.cn (Sg.g_ Tryz.call80 Tryz.func80) fun F => ?_; simp only [ca_, na_])
 refine f_ (vs := ([31, 139, 8, 0] : List UInt8).map Sl.B) rfl rfl (by intro v hv; obtain ⟨c, _, rfl⟩ := List.mem_map.1 hv; rfl) (by omega) fun g1 => ?_
 refine am (br (q := .u32)) .nil ?_
 rw [rX, <- hm]
 refine tj (s := 1) (e := 5) (cs := ([31, 139, 8, 0] : List UInt8).map Sl.B) (n := 4) .here rfl (by decide) ?_
 (refine' aB (xI (a := some ⟨g1, 0, none⟩) (c := 4) (b := [31, 139, 8, 0]) hml (by decide)) ?hp fun _ => ?_; (case hp => (repeat (first | exact Picks.nil | (apply Picks.cons; (focus repeat constructor))))); (try simp only [ca_, na_, Bool.not_true, Bool.not_false]))
 rename_i q
 obtain ⟨qa, qc⟩ := q
 (try dsimp only)
 refine f_ (vs := ([0, 255] : List UInt8).map Sl.B) rfl rfl (by intro v hv; obtain ⟨c, _, rfl⟩ := List.mem_map.1 hv; rfl) (by omega) fun gd => ?_
 have h8 : (31 :: 139 :: 8 :: 0 :: du m).length = 8 := rfl
 refine bO (m := 2) (news := ([0, 255] : List UInt8).map Sl.B) (.there .here) (cA (s := 1) (e' := 5) (by kernel_rfl) .here (by rfl) (Fh [0, 255])) (by rw [h8]; omega) (by rw [h8]; omega) fun a2 c2 => ?_
 rw [<- List.map_append, show (31 :: 139 :: 8 :: 0 :: du m).length + 2 = (F_ m).length from rfl, show (31 :: 139 :: 8 :: 0 :: du m) ++ [0, 255] = F_ m from rfl]
 (first | refine aR ((a2, c2)) rfl ?_ | refine dR ((a2, c2)) ?_)
 (repeat (first | exact .refl | exact .nil | (apply Imp.pick; (focus ((repeat constructor); done))) | refine .drop ?_))
theorem Bf (m:Nat):(F_ m).length=10:=rfl
theorem SI {W:World}{a:Option Addr}{c:Nat}{b:List UInt8}{A:HP}{level mtime:Int}(hr:RdB W A a b.length (b.map Sl.B))(hc:b.length<=c)(hb:b.length<=4611686018427387904):
  Cn p_ 50 [.slice a b.length c,.int .i64 level,.int .i64 mtime] W [A] (fun q:Option Addr × Nat=> .tuple #[.slice q.1 (gS b level mtime).length q.2,.int .i64 (r5 b level mtime)]) (fun q=>[Sl 1 5 q.1 q.2 (gS b level mtime).length ((gS b level mtime).map Sl.B),A]):=by
 have bad:∀(e:Int) (L:List HP),r5 b level mtime=e->e≠0->aZ W (A::L) (fun w=>∃q:Option Addr × Nat,(.tuple #[.slice none 0 0,.int .i64 e]:Value)= .tuple #[.slice q.1 (gS b level mtime).length q.2,.int .i64 (r5 b level mtime)]/\sat W ([Sl 1 5 q.1 q.2 (gS b level mtime).length ((gS b level mtime).map Sl.B),A]++L) w):=by
  intro e L h h0
  have hv:gS b level mtime=[]:=by unfold gS;rw[if_neg (by rw[h];exact h0)]
  rw[h,hv]
  refine aR (none,0) rfl ?_
  exact bR .refl
 (refine Shp.cn (Sg.g_ Tryz.call50 Tryz.func50) fun F=>?_;simp only[ca_,na_])
 refine o_ az ?_
 by_cases h0:mtime<0
 ·rw[dT_ h0]
  exact ao (ao (o_ ah (ab (bad 1 F (by unfold r5;rw[if_pos (.inl h0)]) (by decide)))))
 rw[dF_ h0]
 refine ae (ae (o_ aV ?_))
 by_cases h1:4294967295<mtime
 ·rw[dT_ h1]
  exact o_ ag (ab (bad 1 F (by unfold r5;rw[if_pos (.inr h1)]) (by decide)))
 rw[dF_ h1]
 have hE:r5 b level mtime=kO b level:=by unfold r5;rw[if_neg (by omega)]
 refine o_ ag (aa (aB (Ik (c:=c) (level:=level) hr hc) (.cons (by repeat constructor) .nil) fun q=>?_))
 obtain⟨qa,qc⟩:=q
 refine aq ?_
 (try dsimp only)
 refine o_ (bk (v:= .slice qa (ke b level).length qc) rfl) ?_
 refine o_ (bk (v:= .int .i64 (kO b level)) rfl) ?_
 refine o_ bK ?_
 by_cases hd:kO b level=0
 rotate_left
 ·rw[dT_ hd]
  refine ab (bF (M:=A::F) aw ?_)
  exact bad _ F hE hd
 rw[dF_ (fun h=>h hd)]
 have hpb:gS b level mtime=F_ mtime.toNat++ke b level++rZ b:=by unfold gS;rw[if_pos (by rw[hE];exact hd)]
 have hbl:=(zc hd).2.2
 have hdl:=Cm hd
 refine aa (c_ (PG (n:=mtime)) fun _=>?_)
 rename_i q2
 obtain⟨ha,hc2⟩:=q2
 (try dsimp only)
 rw[show mtime%4294967296=mtime from Int.emod_eq_of_lt (by omega) (by omega)]
 have hhl:=Bf mtime.toNat
 obtain⟨D,hD⟩:∃D,D=ke b level:=⟨_,rfl⟩
 rw[<- hD]at hdl hpb ⊢
 obtain⟨H0,hH0⟩:∃H0,H0=F_ mtime.toNat:=⟨_,rfl⟩
 rw[<- hH0]at hhl hpb ⊢
 have hDl:D.length<=1048576:=by omega
 clear hdl
 refine aF (by(repeat constructor):Pick _ (Sl 1 5 qa qc D.length (D.map Sl.B)) _) fun _ g2 g3 g4=>?_
 have hrD:RdB W (Sl 1 5 qa qc D.length (D.map Sl.B)) qa D.length (D.map Sl.B):=cq (by rw[List.length_map]) g4
 refine bO (m:=D.length) (news:=D.map Sl.B) .here (dF (A:=Sl 1 5 qa qc D.length (D.map Sl.B)) (e':=5) (by kernel_rfl) (by repeat constructor) hrD (xH hrD) dY) (by omega) (by omega) fun a3 c3=>?_
 rw[<- List.map_append,<- List.length_append]
 refine aB (Lv (c:=c) hr hb) (.cons (by repeat constructor) .nil) fun _=>?_
 refine aq ?_
 refine c_ (xI (a:=a3) (c:=c3) (b:=H0++D) (rY b) (by rw[List.length_append];omega)) fun _=>?_
 rename_i q4
 obtain⟨a4,c4⟩:=q4
 (try dsimp only)
 refine o_ aC (o_ (br (q:= .u32)) ?_)
 rw[rX,show((b.length:Int)%4294967296).toNat=b.length%4294967296 by omega]
 refine c_ (xI (a:=a4) (c:=c4) (b:=H0++D++du (pE b)) (n:=b.length%4294967296) (by omega) (by rw[List.length_append,List.length_append];have:(du (pE b)).length=4:=rfl;omega)) fun _=>?_
 rename_i q5
 obtain⟨a5,c5⟩:=q5
 (try dsimp only)
 have hfin:H0++D++du (pE b)++du (b.length%4294967296)=gS b level mtime:=by rw[hpb];unfold rZ;simp only[List.append_assoc]
 rw[hfin,hE,hd]
 refine bq ((a5,c5)) ?_
 exact aw
end GZ
namespace FD
open Go Go.Proofs Go.RowKit Sh Sl T IF GZ
theorem uX {l:List Fd}{i:Nat}(h:i<l.length):(l.take (i+1)).map qj++l.drop (i+1)=((l.take i).map qj++l.drop i).set i (qj l[i]):=by
 have e:(l.take i).map qj++l.drop i=(l.take i).map qj++l[i]::l.drop (i+1):=by rw[List.drop_eq_getElem_cons h]
 have hl:((l.take i).map qj).length=i:=by rw[List.length_map,List.length_take];omega
 rw[e,List.set_append_right _ _ (by omega),hl,Nat.sub_self,List.take_succ_eq_append_getElem h,List.map_append]
 simp only[List.map_cons,List.map_nil,List.append_assoc,ca_,na_,List.set_cons_zero]
theorem Fi {l:List Fd}{i:Nat}{n v v':List UInt8}(h:l[i]? =some (n,v)):(l.set i (n,v')).flatMap dO=(l.flatMap dO).set (i * 2+1) (bm v'):=by
 induction l generalizing i with
 |nil=>cases h
 |cons x r ih=>
  cases i with
  |zero=>
   simp only[List.getElem?_cons_zero,Option.some.injEq]at h
   subst h
   rfl
  |succ i=>
   simp only[List.getElem?_cons_succ]at h
   have:=ih h
   rw[List.set_cons_succ,List.flatMap_cons,List.flatMap_cons,this]
   obtain⟨a,b⟩:=x
   rw[show(i+1) * 2+1=i * 2+1+1+1 by omega]
   rfl
theorem xJ {l:List Fd}{i:Nat}{x:Fd}(h:l[i]? =some x):l.set i x=l:=by
 induction l generalizing i with
 |nil=>rfl
 |cons y r ih=>
  cases i with
  |zero=>simp only[List.getElem?_cons_zero,Option.some.injEq]at h;subst h;rfl
  |succ i=>simp only[List.getElem?_cons_succ]at h;rw[List.set_cons_succ,ih h]
theorem Lw {l:List Fd}{i:Nat}(h:i<=l.length):((l.take i).map qj++l.drop i).length=l.length:=by
 rw[List.length_append,List.length_map,List.length_take,List.length_drop];omega
theorem PH {l:List Fd}{i:Nat}(h:i<l.length):((l.take i).map qj++l.drop i)[i]? =some l[i]:=by
 rw[List.getElem?_append_right (by rw[List.length_map,List.length_take];omega),List.length_map,List.length_take,show i-min i l.length=0 by omega,List.getElem?_drop,Nat.add_zero,List.getElem?_eq_getElem h]
theorem Il (v:List UInt8):(jF v).1.2.length<=v.length:=by
 unfold jF
 split
 ·have h1:(l9 v).length<=v.length:=by unfold l9;split <;> simp
  show(tr (l9 v)).length<=v.length
  unfold tr sub
  simp only[List.length_take,List.length_drop]
  omega
 ·simp
theorem PI {W : World} [hG : Gp W] {o : Nat} {st level : Int} {X : List Fd} {D : List UInt8} {a ad : Option Addr} {c cd : Nat} {AX AD : HP} (hA : k9 W AX a X) (hX : zF X ≤ 2097152) (hB : RdB W AD ad D.length (D.map Sl.B)) (hc : D.length ≤ cd) (hD : D.length ≤ 4611686018427387904) :
  Cn p_ 33 [.pointer (some ⟨o, 0, none⟩), .int .i64 level] W [pt o (.cells #[.int .i64 st, .slice a X.length c, .slice ad D.length cd] 25), AX, AD]
   (fun _ : (Option Addr × Nat) × (Option Addr × Nat) => .bool (decide (r5 D level 0 = 0)))
   (fun q => if r5 D level 0 = 0 then [pt o (.cells #[.int .i64 st, .slice q.1.1 (kg X (gS D level 0)).length q.1.2, .slice q.2.1 (gS D level 0).length q.2.2] 25), Sl 2 52 q.1.1 q.1.2 (kg X (gS D level 0)).length ((kg X (gS D level 0)).flatMap dO), Sl 1 5 q.2.1 q.2.2 (gS D level 0).length ((gS D level 0).map Sl.B)]
    else [pt o (.cells #[.int .i64 st, .slice a X.length c, .slice ad D.length cd] 25), AX, AD]) := by
 (refine Shp.cn (Sg.g_ Tryz.call33 Tryz.func33 (an := { loops := [(6, [31])] })) fun F => ?_; simp only [ca_, na_])
 refine am au .nil ?_; refine am aj .nil ?_; (((refine' am (bC ?hc) ?hi ?_); (case hi => exact .pick (by repeat constructor) .nil); (case hc => repeat constructor)))
 (refine' aB (SI (c := cd) (level := level) (mtime := 0) hB hc hD) ?hp fun _ => ?_; (case hp => (repeat (first | exact Picks.nil | (apply Picks.cons; (focus repeat constructor))))); (try simp only [ca_, na_, Bool.not_true, Bool.not_false]))
 rename_i q
 obtain ⟨ga, gc⟩ := q
 (try dsimp only)
 refine am (bk (v := .slice ga (gS D level 0).length gc) rfl) .nil ?_
 refine am (bk (v := .int .i64 (r5 D level 0)) rfl) .nil ?_
 refine am bK .nil ?_
 by_cases hE : r5 D level 0 = 0
 rotate_left
 ·rw [dT_ hE, dF_ hE]
  simp only [if_neg hE]
  refine ab ?_
  (first | refine aR (((none, 0), (none, 0))) rfl ?_ | refine dR (((none, 0), (none, 0))) ?_)
  (repeat (first | exact .refl | exact .nil | (apply Imp.pick; (focus ((repeat constructor); done))) | refine .drop ?_))
 have hgl : (gS D level 0).length ≤ 1048576 := by
  have h2 : gS D level 0 = F_ 0 ++ ke D level ++ rZ D := by unfold gS; rw [if_pos hE]; rfl
  have h1 : kO D level = 0 := by unfold r5 at hE; rwa [if_neg (by omega)] at hE
  obtain ⟨h0, _, h3⟩ := zc h1
  have h4 := xp (b := D) h0
  have h5 := xr h1
  rw [h2, List.length_append, List.length_append, Bf]
  have : (rZ D).length = 8 := rfl
  omega
 simp only [if_pos hE]
 rw [dT_ hE, dF_ (fun h => h hE)]
 obtain ⟨G, hG2⟩ : ∃ G, G = gS D level 0 := ⟨_, rfl⟩
 rw [← hG2] at hgl ⊢
 refine aa ?_; refine am au .nil ?_; refine am aj .nil ?_; (((refine' am (bC ?hc) ?hi ?_); (case hi => exact .pick (by repeat constructor) .nil); (case hc => repeat constructor)))
 refine f_ (vs := [bm vx, bm Ga]) rfl rfl (by intro v hv; simp at hv; rcases hv with rfl | rfl <;> rfl) (by decide) fun gn => ?_
 have hN : RdB W (pt gn (.cells #[bm vx, bm Ga] 9)) (some ⟨gn, 0, none⟩) [vx, Ga].length ([vx, Ga].map bm) := tm (cs := [bm vx, bm Ga]) rfl
 refine aB (GU (N := [vx, Ga]) (nc := 2) hA (BM (by omega)) hN (by decide) (by decide)) (.cons (by repeat constructor) (.cons (by repeat constructor) .nil)) fun r => ?_
 obtain ⟨wa, wc⟩ := r
 (try simp only [ca_, na_, -eq_self])
 (try dsimp only)
 have hwl := wD X [vx, Ga]
 have hzl := m6 X
 have hzw : ∀ f ∈ fm X [vx, Ga], f.1.length ≤ 2097152 ∧ f.2.length ≤ 2097152 := fun f hf => by
  have := DC (List.mem_filter.1 hf).1
  omega
 obtain ⟨Y, hY⟩ : ∃ Y, Y = fm X [vx, Ga] := ⟨_, rfl⟩
 have hpak : kg X G = Y.map qj ++ [(jA, ie), (vx, vP G.length)] := by rw [hY]; rfl
 rw [← hY] at hwl hzw ⊢
 rw [hpak]
 refine am aC .nil ?_
 refine aF (by (repeat constructor) : Pick _ (Sl 2 52 wa wc Y.length (Y.flatMap dO)) _) fun _ _ _ hs => ?_
 refine a_ (fun m y => (ex fun i : Nat => all [pu (m + i = Y.length ∧ y = .int .i64 (i : Int)), Sl 2 52 wa wc Y.length (((Y.take i).map qj ++ Y.drop i).flatMap dO)]) :: pt o (.cells #[.int .i64 st, .slice a X.length c, .slice ad D.length cd] 25) :: Sl 1 5 ga gc G.length (G.map Sl.B) :: F) Y.length ?_ ?_
 ·refine .ex 0 (.all ?_)
  (try simp only [ca_, na_, -eq_self])
  refine .pu ⟨rfl, rfl⟩ ?_
  rw [List.take_zero, List.map_nil, List.nil_append, List.drop_zero]
  (repeat (first | exact .refl | exact .nil | (apply Imp.pick; (focus ((repeat constructor); done))) | refine .drop ?_))
 intro m ds y
 refine aH .here fun i => ap .here ?_
 (try simp only [ca_, na_, -eq_self])
 refine aG .here fun hi => ?_
 obtain ⟨hmi, rfl⟩ := hi
 refine ay az .nil (fun h => ?_) (fun h => ?_)
 ·have hin : i < Y.length := by omega
  obtain ⟨wg, rfl⟩ := hs (by omega)
  have hat := PH hin
  have hln := Lw (Nat.le_of_lt hin)
  have hnx := uX hin
  have hvl := hzw _ (List.getElem_mem hin)
  obtain ⟨f, hf⟩ : ∃ f, f = Y[i] := ⟨_, rfl⟩
  rw [← hf] at hat hnx hvl
  obtain ⟨Z, hZ⟩ : ∃ Z, Z = (Y.take i).map qj ++ Y.drop i := ⟨_, rfl⟩
  rw [← hZ] at hat hnx hln ⊢
  obtain ⟨n, v⟩ := f
  obtain ⟨hnl, hvl⟩ := hvl
  (try dsimp only at hvl hnl)
  refine ab ?_
  refine am (cR i rfl hin) .nil ?_
  rw [← hln]
  have hiz : i < Z.length := by omega
  have hzi : Z[i] = (n, v) := by rw [List.getElem?_eq_getElem hiz] at hat; exact Option.some.inj hat
  have hld := qQ (W := W) (A := Sl 2 52 (some ⟨wg, 0, none⟩) wc Z.length (Z.flatMap dO)) (l := Z) (i := i) (g := wg) (o := 0) Kw hiz
  rw [hzi] at hld
  refine am hld (.pick (by repeat constructor) .nil) ?_
  unfold wC
  refine bp fun g => ?_; (((refine' bS ?hp ?hn ?hv ?h1 ?_); (case hp => (repeat constructor)); (case hn => rfl); (case hv => rfl); (case h1 => (intro u hu; simp at hu; rcases hu with rfl | rfl <;> rfl)))); refine am aj .nil ?_; (((refine' am (bC ?hc) ?hi ?_); (case hi => exact .pick (by repeat constructor) .nil); (case hc => repeat constructor)))
  refine aB (DE (l := v) (by omega)) .nil fun _ => ?_
  (try simp only [ca_, na_, -eq_self])
  refine am (bk (v := yK (jF v).1) rfl) .nil ?_
  refine am (bk (v := .int .i64 (if (jF v).2 then 0 else 42)) rfl) .nil ?_
  have htl := Il v
  obtain ⟨⟨⟨tw, tt⟩, tk⟩, ht⟩ : ∃ t, t = jF v := ⟨_, rfl⟩
  have hwk : qj (n, v) = if tk && dy n xu then (n, Bx (true, tt)) else (n, v) := by unfold qj; rw [← ht]
  rw [← ht] at htl ⊢
  (try dsimp only at htl)
  (try dsimp only)
  unfold yK
  refine bp fun g => ?_; (((refine' bS ?hp ?hn ?hv ?h1 ?_); (case hp => (repeat constructor)); (case hn => rfl); (case hv => rfl); (case h1 => (intro u hu; simp at hu; rcases hu with rfl | rfl <;> rfl))))
  refine am aP .nil ?_
  cases tk with
  | false =>
   rw [dF_ (by simp)]
   have hst : (Y.take (i + 1)).map qj ++ Y.drop (i + 1) = Z := by rw [hnx, hwk, Bool.false_and]; exact xJ hat
   refine af ?_; refine af ?_; refine af ?_; refine am ag .nil ?_; refine aa ?_; (refine am (bU (by omega) (by omega)) .nil ?_)
   (try refine am (bU (by omega) (by omega)) .nil ?_)
   refine aK (m - 1) (by omega) (.ex (i + 1) (.all ?_))
   (try simp only [ca_, na_, -eq_self])
   rw [hst]
   refine .pu ⟨by omega, by norm_cast⟩ ?_
   (repeat (first | exact .refl | exact .nil | (apply Imp.pick; (focus ((repeat constructor); done))) | refine .drop ?_))
  | true =>
   rw [dT_ (by simp)]
   refine ae ?_; refine am aj .nil ?_; refine ae ?_; (((refine' am (bC ?hc) ?hi ?_); (case hi => exact .pick (by repeat constructor) .nil); (case hc => repeat constructor))); refine ae ?_
   refine aB (equal (a := n) (b := xu) (by omega) (by decide)) .nil fun _ => ?_
   (try simp only [ca_, na_, -eq_self])
   cases he : dy n xu with
   | false =>
    have hst : (Y.take (i + 1)).map qj ++ Y.drop (i + 1) = Z := by rw [hnx, hwk, he, Bool.and_false]; exact xJ hat
    refine am ah .nil ?_; refine aa ?_; (refine am (bU (by omega) (by omega)) .nil ?_)
    (try refine am (bU (by omega) (by omega)) .nil ?_)
    refine aK (m - 1) (by omega) (.ex (i + 1) (.all ?_))
    (try simp only [ca_, na_, -eq_self])
    rw [hst]
    refine .pu ⟨by omega, by norm_cast⟩ ?_
    (repeat (first | exact .refl | exact .nil | (apply Imp.pick; (focus ((repeat constructor); done))) | refine .drop ?_))
   | true =>
    have hst : (Y.take (i + 1)).map qj ++ Y.drop (i + 1) = Z.set i (n, Bx (true, tt)) := by rw [hnx, hwk, he]; rfl
    have hfl := Fi (v' := Bx (true, tt)) hat
    have hfll : i * 2 + 1 < (Z.flatMap dO).length := by rw [dp (f := dO) (s := 2) (fun _ => rfl)]; omega
    refine am ah .nil ?_; refine ab ?_; refine am aj .nil ?_; (((refine' eR ?hp ?ho ?_); (case hp => (repeat constructor)); (case ho => repeat constructor))); (((refine' am (cg ?hn) ?hi ?_); (case hi => exact .pick (by repeat constructor) .nil); (case hn => rfl)))
    refine aB (GV (x := (true, tt)) (by (try dsimp only); omega)) .nil fun _ => ?_
    (try simp only [ca_, na_, -eq_self])
    refine am (cR i rfl (by omega)) .nil ?_
    refine am cT .nil ?_
    rw [Nat.zero_add]
    refine fZ (by repeat constructor) hfll ?_
    refine am (bU (by omega) (by omega)) .nil ?_
    refine aK (m - 1) (by omega) (.ex (i + 1) (.all ?_))
    (try simp only [ca_, na_, -eq_self])
    rw [hst, hfl]
    refine .pu ⟨by omega, by norm_cast⟩ ?_
    (repeat (first | exact .refl | exact .nil | (apply Imp.pick; (focus ((repeat constructor); done))) | refine .drop ?_))
 ·have : i = Y.length := by omega
  subst this
  rw [List.take_length, List.drop_length, List.append_nil]
  refine aa ?_
  refine am b_ .nil ?_; refine am aC .nil ?_
  (try refine am aC .nil ?_)
  (refine' aB (KE (i := (G.length : Int)) (by omega) (by omega)) ?hp fun _ => ?_; (case hp => (repeat (first | exact Picks.nil | (apply Picks.cons; (focus repeat constructor))))); (try simp only [ca_, na_, Bool.not_true, Bool.not_false]))
  rw [show Y.length = (Y.map qj).length by rw [List.length_map]]
  obtain ⟨V, hV⟩ : ∃ V, V = Y.map qj := ⟨_, rfl⟩
  have hVl : V.length = Y.length := by rw [hV, List.length_map]
  rw [← hV]
  refine am b_ .nil ?_
  refine eL (n := 2) (vs := [wC (jA, ie), wC (vx, vP G.length)]) rfl (by decide) rfl (by intro v hv; simp at hv; rcases hv with rfl | rfl <;> rfl) (by decide) fun gb => ?_
  refine bO (m := 2) (news := dO (jA, ie) ++ dO (vx, vP G.length)) (by (repeat constructor) : Pick _ (Sl 2 52 wa wc V.length (V.flatMap dO)) _) (cA (s := 2) (e' := 52) (by kernel_rfl) .here (by rfl) (by intro u hu; simp [wC, dO, Value.cells] at hu; rcases hu with rfl | rfl | rfl | rfl <;> rfl)) (by omega) (by omega) fun a' c' => ?_
  rw [show V.length + 2 = (V ++ [(jA, ie), (vx, vP G.length)]).length by simp, show V.flatMap dO ++ (dO (jA, ie) ++ dO (vx, vP G.length)) = (V ++ [(jA, ie), (vx, vP G.length)]).flatMap dO by simp]
  refine am au .nil ?_; refine am aj .nil ?_; (((refine' eR ?hp ?ho ?_); (case hp => (repeat constructor)); (case ho => repeat constructor))); refine am au .nil ?_; refine am aj .nil ?_; (((refine' eR ?hp ?ho ?_); (case hp => (repeat constructor)); (case ho => repeat constructor)))
  (first | refine aR (((a', c'), (ga, gc))) rfl ?_ | refine dR (((a', c'), (ga, gc))) ?_)
  (repeat (first | exact .refl | exact .nil | (apply Imp.pick; (focus ((repeat constructor); done))) | refine .drop ?_))
end FD
end Go.Proofs.YtndojgomlkpeaaaGreatDoor
