/- Plain: what the cache tells, what is put down. (9 texts made one; each says below what it is.) -/
import Derived.Test.YtdjkdjepjahjfaaGreatDoorK7
import Derived.KernelRfl
import Derived.Test.YtdjkdjepjahjfaaGreatDoorRows
import Derived.Deep.DeepHandedRow
import Derived.LaidMore
import Derived.Lay
import Derived.MakeChecks
set_option linter.unusedVariables false
set_option linter.unusedSimpArgs false
set_option linter.unusedSectionVars false
set_option maxRecDepth 9999
namespace Go.Proofs.YtdjkdjepjahjfaaGreatDoor.TP
open Go Go.Proofs Go.RowKit Sh Sl T FD
def tK (k:Nat):List UInt8:=[47,97,112,105,47]++ei (k:Int)
def VP (t:List UInt8):Bool:=match fJ (fq false) (zK t)with
 |some (p,[])=>p.done&&(!p.reply&&(decide (p.meth=db)&&(decide (p.targ=t)&&(decide (p.minor=1)&&decide (p.fs=fH)))))
 |_=>false
def Vd (t:List UInt8):Bool:=decide (t.head? =some 47)&&(t.all ur&&(decide (t.length<=6)&&(iK t.tail&&(!t.contains 37&&(iw eY t&&(pV t&&(jQ (re t) CT&&(mT t&&VP t))))))))
theorem C4:(eY::(List.range 4).map tK).all Vd=true:=by decide+kernel
structure TgOk (t:List UInt8):Prop where
 rq:Pv (zK t) t
 tg:Jm t
 tf:pV t=true
 wr:jQ (re t) CT=true
 es:mT t=true
 tl:t.length<=6
theorem C5 {t:List UInt8}(h:Vd t=true):TgOk t:=by
 simp only[Vd,Bool.and_eq_true,decide_eq_true_eq,Bool.not_eq_true']at h
 obtain⟨a,b,c,d,e,f,g,i,j,k⟩:=h
 have hr:∃r,t=47::r:=by
  cases t with
  |nil=>cases a
  |cons x r=>injection a with a;exact⟨r,by rw[a]⟩
 have tok:S4 t:=⟨hr,b,by omega⟩
 refine⟨⟨by simp[zK];omega,by simp[zK],tok,?_⟩,⟨tok,d,e,f⟩,g,i,j,c⟩
 unfold VP at k
 cases hf:fJ (fq false) (zK t)with
 |none=>rw[hf]at k;cases k
 |some q=>
  obtain⟨p,r⟩:=q
  rw[hf]at k
  cases r with
  |cons c r=>cases k
  |nil=>
   simp only[Bool.and_eq_true,decide_eq_true_eq,Bool.not_eq_true']at k
   exact⟨p,rfl,k.1,k.2.1,k.2.2.1,k.2.2.2.1,k.2.2.2.2.1,k.2.2.2.2.2⟩
theorem Wb {k:Nat}(h:k<4):TgOk (tK k):=C5 (by
 have:=C4
 simp only[List.all_cons,Bool.and_eq_true,List.all_eq_true]at this
 exact this.2 _ (List.mem_map.2 ⟨k,List.mem_range.2 h,rfl⟩))
theorem QO:TgOk eY:=C5 (by
 have:=C4
 simp only[List.all_cons,Bool.and_eq_true]at this
 exact this.1)
theorem wO {now:Int}{t wd:List UInt8}{X:List FD.Fd}{D:List UInt8}(h0:0<=now)(h1:now<=1000000000000)(hX:f2 X D.length=true)(ht:TgOk t)(hD:D.length<=1000)(hw:wd=FA\/wd=r_):AnsOk now [99] t X D wd:=by
 simp only[f2,Bool.and_eq_true,decide_eq_true_eq]at hX
 have d1:=eN (i:=now) (by omega) (by omega)
 have d2:=eN (i:=(D.length:Int)) (by omega) (by omega)
 have d3:(ei 200).length<=3:=by decide+kernel
 have hwl:wd.length<=4:=by rcases hw with rfl|rfl <;> decide
 have htl:=ht.tl
 refine⟨(tB hX.2.2.1).1,hX.2.1,by omega,⟨⟨h0,by show now<=_;omega⟩,⟨by show(0:Int)<=200;decide,by show(200:Int)<=_;decide⟩,⟨by show(0:Int)<=(D.length:Int);omega,by show(D.length:Int)<=_;omega⟩,⟨by show mT [99]=true;decide+kernel,by show 1<=8192;decide⟩,⟨by show mT db=true;decide+kernel,by show 3<=8192;decide⟩,⟨by show mT [97]=true;decide+kernel,by show 1<=8192;decide⟩,⟨ht.es,by show t.length<=8192;omega⟩,⟨by show mT wd=true;rcases hw with rfl|rfl <;> decide+kernel,by show wd.length<=8192;omega⟩⟩,?_⟩
 simp[mU,zm,iI,Mp,db]
 omega
def cC (a:Nat):Bool:=uL db 200 fH (sX a)&&((cq (sX a)).all (fun n=>decide (bH (eX fH (cq (sX a))) n=bH fH n))&&(!fh (cQ (sX a)) [wB]&&(!(fp (cQ (sX a)) gQ).2&&(decide (fp (cQ (sX a)) fL=((a:Int),true))&&(decide (bH (sX a) iq=[])&&(decide (bH (sX a) fu=[])&&(decide (cX (sX a) [fu]=sX a)&&(decide (bH (sX a) jK=[])&&(decide (bH (sX a) gG=[])&&Mr (sX a))))))))))
theorem QP:(List.range 10).all cC=true:=by decide+kernel
theorem QQ:fh (cQ fH) [wB]=false/\(lz fH).contains wB=false/\fp (cQ fH) rY=(0,false)/\fp (cQ fH) fL=(0,false)/\zF fH<=2000:=by decide+kernel
def Gd (a:Int)(D:List UInt8)(T0 now:Int):Prop:=0<=a/\a<10/\5<=D.length/\D.length<8/\0<=T0/\T0<=now/\now<=1000000000000
def nE (t:List UInt8)(a:Int)(D:List UInt8)(T0:Int):FD.En:=FD.lT (cO t) db fH (sX a) D 200 T0 T0
theorem vk {a:Int}(h0:0<=a)(h9:a<10):∃n:Nat,a=n/\n<10/\cC n=true:=by
 refine⟨a.toNat,by omega,by omega,?_⟩
 have:=QP
 simp only[List.all_eq_true,List.mem_range]at this
 exact this _ (by omega)
theorem C6 {n:Int}(h0:0<=n)(h1:n<=1000000000000):dx n=n:=by unfold dx;omega
theorem GW {n:Int}(h1: -9223372036854775808<=n)(h2:n<=9223372036854775807):wr n=n:=Sl.FP h1 h2
theorem kW {l:List FD.Fd}{n:List UInt8}(h:bH l n=[]):cL l n=([],false):=by unfold cL;rw[h]
theorem tC {t D:List UInt8}{a T0 now:Int}(h:Gd a D T0 now):mR (nE t a D T0).xf (nE t a D T0).asked (nE t a D T0).came now=now-T0:=by
 obtain⟨h0,h9,_,_,k0,k1,k2⟩:=h
 obtain⟨n,rfl,hn,hc⟩:=vk h0 h9
 simp only[cC,Bool.and_eq_true,decide_eq_true_eq,Bool.not_eq_true']at hc
 show mR (sX n) (dx T0) (dx T0) now=now-T0
 unfold mR q7
 rw[kW hc.2.2.2.2.2.1,kW hc.2.2.2.2.2.2.1,C6 k0 (by omega),C6 k0 (by omega),C6 (by omega) k2]
 rw[show(cS ([]:List UInt8))=(0,21) by decide+kernel]
 simp only[Bool.false_and,Bool.false_eq_true,if_false]
 rw[if_neg (by decide)]
 rw[GW (by omega) (by omega)]
 omega
theorem qN {t D:List UInt8}{a T0 now:Int}(h:Gd a D T0 now):iQ (nE t a D T0) fH now=decide (a<=now-T0):=by
 have hage:=tC (t:=t) h
 obtain⟨h0,h9,_,_,k0,k1,k2⟩:=h
 obtain⟨n,rfl,hn,hc⟩:=vk h0 h9
 simp only[cC,Bool.and_eq_true,decide_eq_true_eq,Bool.not_eq_true']at hc
 obtain⟨g1,g2,g3,g4,_⟩:=QQ
 have hlife:lx (nE t (n:Int) D T0).xf (nE t (n:Int) D T0).came=(n:Int):=by
  show lx (sX n) _=_
  unfold lx
  rw[hc.2.2.2.1,hc.2.2.2.2.1]
  simp
 unfold iQ
 rw[hage,hlife,g1,g2,g3,g4,show(nE t (n:Int) D T0).xf=sX n from rfl,hc.2.2.1]
 simp only[Bool.false_eq_true,if_false,Bool.false_and]
 rw[GW (by omega) (by omega),Int.add_zero]
 by_cases hh:(n:Int)<=now-T0
 ·rw[if_pos hh,dT_ hh]
 ·rw[if_neg hh,dF_ hh]
theorem yp {t D:List UInt8}{a T0 now:Int}(h:Gd a D T0 now):kE (nE t a D T0) fH=true:=by
 obtain⟨h0,h9,_⟩:=h
 obtain⟨n,rfl,hn,hc⟩:=vk h0 h9
 simp only[cC,Bool.and_eq_true,decide_eq_true_eq,Bool.not_eq_true']at hc
 exact hc.2.1
theorem wP {t D:List UInt8}{a T0 now g:Int}(h:Gd a D T0 now):FD.lU (nE t a D T0) g=hX a g:=by
 obtain⟨h0,h9,_⟩:=h
 obtain⟨n,rfl,hn,hc⟩:=vk h0 h9
 simp only[cC,Bool.and_eq_true,decide_eq_true_eq,Bool.not_eq_true']at hc
 show cX (sX n) [fu]++_=_
 rw[hc.2.2.2.2.2.2.2.1];rfl
def tD (t:List UInt8)(now:Int)(e:FD.En):Prop:=∃a D T0,Gd a D T0 now/\e=nE t a D T0/\a<=now-T0
structure La where
 d:List UInt8
 b:Int
 l:Int
def Ve (t:List UInt8)(now:Int)(e:FD.En)(x:La):Prop:=Gd x.l x.d x.b now/\e=nE t x.l x.d x.b
structure KInv (Z:Cs)(t:List UInt8)(now:Int)(x:La):Prop where
 en:∀g∈Z.of_ (cO t),tD t now (Z.E g)\/Ve t now (Z.E g) x
 pw:(Z.of_ (cO t)).Pairwise fun g _=>tD t now (Z.E g)
theorem Gd.up {a:Int}{D:List UInt8}{T0 now d:Int}(h:Gd a D T0 now)(hd:0<=d)(h1:now+d<=1000000000000):Gd a D T0 (now+d):=by
 obtain⟨a1,a2,a3,a4,a5,a6,a7⟩:=h
 exact⟨a1,a2,a3,a4,a5,by omega,h1⟩
theorem tD.up {t:List UInt8}{now d:Int}{e:FD.En}(h:tD t now e)(hd:0<=d)(h1:now+d<=1000000000000):tD t (now+d) e:=by
 obtain⟨a,D,T0,g,he,hl⟩:=h
 exact⟨a,D,T0,g.up hd h1,he,by omega⟩
theorem KInv.up {Z:Cs}{t:List UInt8}{now d:Int}{x:La}(h:KInv Z t now x)(hd:0<=d)(h1:now+d<=1000000000000):KInv Z t (now+d) x:=
 ⟨fun g hg=>(h.en g hg).imp (fun k=>k.up hd h1) fun k=>⟨k.1.up hd h1,k.2⟩,h.pw.imp fun k=>k.up hd h1⟩
theorem KInv.fit {Z:Cs}{t:List UInt8}{now:Int}{x:La}(h:KInv Z t now x){g:Nat}(hg:g∈Z.of_ (cO t)):kE (Z.E g) fH=true:=by
 rcases h.en g hg with ⟨a,D,T0,k,e,_⟩|⟨k,e⟩
 ·rw[e];exact yp k
 ·rw[e];exact yp k
theorem zN {Z:Cs}{key:List UInt8}{R:List FD.Fd}{g:Nat}{l:List Nat}(hl:Z.of_ key=l++[g])(hf:kE (Z.E g) R=true):fT Z key R=some g:=by
 unfold fT
 rw[hl,List.reverse_append]
 simp[hf]
structure LkR (Z:Cs)(t:List UInt8)(now:Int)(x:La)(O:LkO):Prop where
 of_:O.S.of_=Z.of_
 E:O.S.E=Z.E
 al:O.S.al=Z.al
 bo:O.S.bound=Z.bound
 hit:O.state=1->Gd x.l x.d x.b now/\now-x.b<x.l/\O.st=200/\O.xf=hX x.l (now-x.b)/\O.xb=x.d
 miss:O.state≠1->∀g∈Z.of_ (cO t),tD t now (Z.E g)
 two:O.state=2->∃a n,0<=a/\a<10/\0<=n/\n<=1000000000000/\O.xf=hX a n
theorem JA {Z:Cs}{t:List UInt8}{now:Int}{x:La}(h:KInv Z t now x):LkR Z t now x (dL Z (cO t) fH now):=by
 rcases List.eq_nil_or_concat (Z.of_ (cO t))with hn|⟨l,g,hl⟩
 ·have hf:fT Z (cO t) fH=none:=by unfold fT;rw[hn];rfl
  have hO:dL Z (cO t) fH now=⟨0,[],[],0,0,Z⟩:=by unfold dL;rw[hf]
  rw[hO]
  exact⟨rfl,rfl,rfl,rfl,fun c=>absurd c (by show ¬(0:Int)=1;decide),fun _ g hg=>(by rw[hn]at hg;cases hg),fun c=>absurd c (by show ¬(0:Int)=2;decide)⟩
 ·rw[List.concat_eq_append]at hl
  have hg:g∈Z.of_ (cO t):=by rw[hl];simp
  have hf:=zN hl (h.fit hg)
  have hO:dL Z (cO t) fH now=⟨(Z.E g).st,FD.lU (Z.E g) (mR (Z.E g).xf (Z.E g).asked (Z.E g).came now),(Z.E g).xb,mR (Z.E g).xf (Z.E g).asked (Z.E g).came now,if iQ (Z.E g) fH now then 2 else 1,e7 Z g⟩:=by unfold dL;rw[hf]
  have hpre:∀y∈l,tD t now (Z.E y):=fun y hy=>by
   have:=h.pw
   rw[hl,List.pairwise_append]at this
   exact this.2.2 y hy g (by simp)
  rw[hO]
  rcases h.en g hg with ⟨a,D,T0,k,e,hd⟩|⟨k,e⟩
  ·have hs:iQ (Z.E g) fH now=true:=by rw[e,qN k,dT_ hd]
   rw[if_pos hs]
   refine⟨rfl,rfl,rfl,rfl,fun c=>absurd c (by show ¬(2:Int)=1;decide),fun _ y hy=>?_,fun _=>⟨a,now-T0,k.1,k.2.1,by have:=k.2.2.2.2.2.1;omega,by have:=k.2.2.2.2.1;have:=k.2.2.2.2.2.2;omega,?_⟩⟩
   ·rw[hl]at hy
    rcases List.mem_append.1 hy with hy|hy
    ·exact hpre y hy
    ·rw[List.mem_singleton.1 hy];exact⟨a,D,T0,k,e,hd⟩
   ·show FD.lU (Z.E g) _=_
    rw[e,tC k,wP k]
  ·by_cases hd:x.l<=now-x.b
   ·have hs:iQ (Z.E g) fH now=true:=by rw[e,qN k,dT_ hd]
    rw[if_pos hs]
    refine⟨rfl,rfl,rfl,rfl,fun c=>absurd c (by show ¬(2:Int)=1;decide),fun _ y hy=>?_,fun _=>⟨x.l,now-x.b,k.1,k.2.1,by have:=k.2.2.2.2.2.1;omega,by have:=k.2.2.2.2.1;have:=k.2.2.2.2.2.2;omega,?_⟩⟩
    ·rw[hl]at hy
     rcases List.mem_append.1 hy with hy|hy
     ·exact hpre y hy
     ·rw[List.mem_singleton.1 hy];exact⟨x.l,x.d,x.b,k,e,hd⟩
    ·show FD.lU (Z.E g) _=_
     rw[e,tC k,wP k]
   ·have hs:iQ (Z.E g) fH now=false:=by rw[e,qN k,dF_ hd]
    rw[if_neg (by rw[hs];decide)]
    refine⟨rfl,rfl,rfl,rfl,fun _=>⟨k,by omega,?_,?_,?_⟩,fun c=>absurd rfl c,fun c=>absurd c (by show ¬(1:Int)=2;decide)⟩
    ·show(Z.E g).st=200
     rw[e];rfl
    ·show FD.lU (Z.E g) _=_
     rw[e,tC k,wP k]
    ·show(Z.E g).xb=x.d
     rw[e];rfl
theorem LkR.inv {Z:Cs}{t t':List UInt8}{now:Int}{x y:La}{O:LkO}(h:LkR Z t now x O)(k:KInv Z t' now y):KInv O.S t' now y:=⟨by rw[h.of_,h.E];exact k.en,by rw[h.of_,h.E];exact k.pw⟩
theorem FG {i j:Nat}(hi:i<4)(hj:j<4)(h:i≠j):cO (tK i)≠cO (tK j):=by
 have:(List.range 4).all (fun i=>(List.range 4).all fun j=>decide (i=j\/cO (tK i)≠cO (tK j)))=true:=by decide+kernel
 simp only[List.all_eq_true,List.mem_range,decide_eq_true_eq]at this
 exact(this i hi j hj).resolve_left h
theorem zO {T:Nat}{Z Z':Cs}{t:List UInt8}{now a:Int}{D:List UInt8}(hZ:CsOk T Z)(hr:Ct T Z (cO t) db fH (sX a) D 200 now now Z')(hd:∀g∈Z.of_ (cO t),tD t now (Z.E g))(hg:Gd a D now now):KInv Z' t now ⟨D,now,a⟩:=by
 obtain⟨_,hr⟩:=hr
 split at hr
 ·obtain⟨g,Y,hs,hgY,rfl⟩:=hr
  have hof:(eO Y g (FD.lT (cO t) db fH (sX a) D 200 now now)).of_ (cO t)=Y.of_ (cO t)++[g]:=if_pos rfl
  have hE:∀y,y≠g->(eO Y g (FD.lT (cO t) db fH (sX a) D 200 now now)).E y=Z.E y:=fun y hy=>by
   show(if y=g then _ else Y.E y)=_
   rw[if_neg hy,hs.E]
  have hEg:(eO Y g (FD.lT (cO t) db fH (sX a) D 200 now now)).E g=nE t a D now:=if_pos rfl
  have hold:∀y∈Y.of_ (cO t),tD t now ((eO Y g (FD.lT (cO t) db fH (sX a) D 200 now now)).E y):=fun y hy=>by
   have hyz:=(hs.of_ _).subset hy
   rw[hE y (by rintro rfl;exact hgY (hs.al▸hZ.oa _ (hZ.fo _ _ hyz).1))]
   exact hd y hyz
  refine⟨?_,?_⟩
  ·rw[hof]
   intro y hy
   rcases List.mem_append.1 hy with hy|hy
   ·exact .inl (hold y hy)
   ·rw[List.mem_singleton.1 hy];exact .inr ⟨hg,hEg⟩
  ·rw[hof,List.pairwise_append]
   exact⟨List.pairwise_of_forall_mem_list fun x hx _ _=>hold x hx,List.pairwise_singleton _ _,fun x hx _ _=>hold x hx⟩
 ·subst hr
  exact⟨fun g hgz=> .inl (hd g hgz),List.pairwise_of_forall_mem_list fun x hx _ _=>hd x hx⟩
theorem vm {T:Nat}{Z Z':Cs}{t t':List UInt8}{now a:Int}{D:List UInt8}{x:La}(hZ:CsOk T Z)(hr:Ct T Z (cO t) db fH (sX a) D 200 now now Z')(hne:cO t'≠cO t)(h:KInv Z t' now x):KInv Z' t' now x:=by
 obtain⟨_,hr⟩:=hr
 split at hr
 ·obtain⟨g,Y,hs,hgY,rfl⟩:=hr
  have hof:(eO Y g (FD.lT (cO t) db fH (sX a) D 200 now now)).of_ (cO t')=Y.of_ (cO t'):=if_neg hne
  have hE:∀y∈Y.of_ (cO t'),(eO Y g (FD.lT (cO t) db fH (sX a) D 200 now now)).E y=Z.E y:=fun y hy=>by
   have hyz:=(hs.of_ _).subset hy
   show(if y=g then _ else Y.E y)=_
   rw[if_neg (by rintro rfl;exact hgY (hs.al▸hZ.oa _ (hZ.fo _ _ hyz).1)),hs.E]
  refine⟨?_,?_⟩
  ·rw[hof]
   intro y hy
   rw[hE y hy]
   exact h.en y ((hs.of_ _).subset hy)
  ·rw[hof]
   refine(h.pw.sublist (hs.of_ _)).imp_of_mem fun {y z} hy _ k=>?_
   rw[hE y hy];exact k
 ·subst hr;exact h
theorem vn {T:Nat}{Z Z':Cs}{t:List UInt8}{now a:Int}{D:List UInt8}(hr:Ct T Z (cO t) db fH (sX a) D 200 now now Z'):Z'.bound=Z.bound:=by
 obtain⟨_,hr⟩:=hr
 split at hr
 ·obtain⟨g,Y,hs,hgY,rfl⟩:=hr;exact hs.bound
 ·subst hr;rfl
theorem qO {T:Nat}{Z:Cs}{key:List UInt8}{R:List FD.Fd}{now:Int}(hZ:CsOk T Z):CsOk T (dL Z key R now).S:=by
 unfold dL
 cases h:fT Z key R with
 |none=>exact hZ
 |some g=>exact uU hZ (hZ.fo key g (uV h).1).1
theorem zP {b now:Int}{t:List UInt8}{x:La}:KInv (jF b) t now x:=⟨fun g hg=>(by cases hg),List.Pairwise.nil⟩
theorem C7 {st:Nat}(h:st<5000):cS (ei (st:Int))=((st:Int),0)/\kG (ei (st:Int))=true:=by
 have:(List.range 5000).all (fun n=>decide (cS (ei (n:Int))=((n:Int),0))&&kG (ei (n:Int)))=true:=by decide+kernel
 simp only[List.all_eq_true,List.mem_range,Bool.and_eq_true,decide_eq_true_eq]at this
 exact this st h
theorem QR {a:Int}{n:Nat}(h0:0<=a)(h9:a<10)(k0:5<=n)(k1:n<8):∃i:Nat,a=i/\f1 i (n-5)=true:=by
 refine⟨a.toNat,by omega,?_⟩
 have:=Jx
 simp only[List.all_eq_true,List.mem_range]at this
 exact this _ (by omega) _ (by omega)
theorem vr {a:Int}{n:Nat}(h0:0<=a)(h9:a<10)(k0:5<=n)(k1:n<8):f2 (sX a) n=true:=by
 have:=Jy
 simp only[List.all_eq_true,List.mem_range]at this
 have:=this a.toNat (by omega) (n-5) (by omega)
 rwa [show((a.toNat:Nat):Int)=a by omega,show n-5+5=n by omega]at this
theorem GX {a g:Int}{n:Nat}(h0:0<=a)(h9:a<10)(g0:0<=g)(g9:g<10)(k0:5<=n)(k1:n<8):f2 (hX a g) n=true:=by
 have:=Jz
 simp only[List.all_eq_true,List.mem_range]at this
 have:=this a.toNat (by omega) g.toNat (by omega) (n-5) (by omega)
 rwa [show((a.toNat:Nat):Int)=a by omega,show((g.toNat:Nat):Int)=g by omega,show n-5+5=n by omega]at this
theorem vt {a:Int}{D:List UInt8}(h0:0<=a)(h9:a<10)(k0:5<=D.length)(k1:D.length<8):(∃P,RpOk (Jw a D) P (Dv a D.length) D)/\li (Dv a D.length)=sX a/\ToOk 4000 (Dv a D.length) D:=by
 obtain⟨i,rfl,h⟩:=QR h0 h9 k0 k1
 have h2:=vr h0 h9 k0 k1
 simp only[f1,Bool.and_eq_true,decide_eq_true_eq]at h
 rw[show D.length-5+5=D.length by omega]at h
 simp only[f2,Bool.and_eq_true,decide_eq_true_eq]at h2
 refine⟨C3 h.1 (by omega) (by omega),h.2.1,h.2.2.1,by have:=h.2.2.2.2;omega,(tB h.2.2.2.1).1,by have:=QQ.2.2.2.2;omega,?_,by omega⟩
 rw[h.2.1];have:=h2.2.2.2;omega
theorem GY {X:List FD.Fd}{D:List UInt8}(h:f2 X D.length=true)(h0:0<D.length)(h1:D.length<=1000):∃P,RpOk (iy X D) P (GV X D.length) D:=by
 simp only[f2,Bool.and_eq_true]at h
 have:=C3 (D:=D) h.1 h0 h1
 exact this
theorem QS {a n:Int}(h0:0<=a)(h9:a<10)(n0:0<=n)(n1:n<=1000000000000):oz (hX a n)/\cL (hX a n) jK=([],false)/\cL (hX a n) gG=([],false):=by
 obtain⟨i,rfl,hi,hc⟩:=vk h0 h9
 simp only[cC,Bool.and_eq_true,decide_eq_true_eq,Bool.not_eq_true']at hc
 obtain⟨_,_,_,_,_,_,_,_,c1,c2,c3⟩:=hc
 obtain⟨k1,k2⟩:=tB c3
 have d:=eN (i:=n) (by omega) (by omega)
 refine⟨⟨by simp[hX];omega,fun f hf=>?_⟩,kW ?_,kW ?_⟩
 ·rcases List.mem_append.1 hf with hf|hf
  ·exact k1.2 f hf
  ·rw[List.mem_singleton.1 hf]
   exact⟨by show fu.length<=_;decide,by show(ei n).length<=_;omega⟩
 ·show bH (sX i++[(fu,ei n)]) jK=[]
  rw[uA,c1,nM,if_neg (by show ¬gi fu jK=true;decide+kernel)];rfl
 ·show bH (sX i++[(fu,ei n)]) gG=[]
  rw[uA,c2,nM,if_neg (by show ¬gi fu gG=true;decide+kernel)];rfl
theorem C8 {st:Nat}(h:st<5000):CfOk (ei (st:Int)) (ei 3) (ei 0) st 3 0:=by
 have d:=eN (i:=(st:Int)) (by omega) (by omega)
 exact⟨(C7 h).1,by decide+kernel,by decide+kernel,by omega,by decide+kernel,by decide+kernel,(C7 h).2,by decide+kernel,by decide+kernel,by omega,by decide,by decide,by decide,by decide⟩
def eQ (i:Nat):List UInt8:=[98,111,100,121,32]++ei (i:Int)
theorem C9 {i:Nat}(h:i<60):5<=(eQ i).length/\(eQ i).length<8:=by
 have:(List.range 60).all (fun i=>decide (5<=(eQ i).length/\(eQ i).length<8))=true:=by decide+kernel
 simp only[List.all_eq_true,List.mem_range,decide_eq_true_eq]at this
 exact this i h
theorem vu {W:World}{L L':List HP}{S:WP}{r:AC}{b:List UInt8}(p:Pick L (GT r b) L')(h0:0<b.length)(h:RdB W (GT r b) r.1 b.length (b.map Sl.B)->b.length<=r.2->aR W L S):aR W L S:=by
 refine Sl.f6 p fun _ hc _ hs=>?_
 obtain⟨g,o,hg⟩:=hs h0
 refine h ?_ hc
 have:=Bd (W:=W) (e:=5) (g:=g) (o:=o) (cap:=r.2) (n:=b.length) (s:=1) (cs:=b.map Sl.B) (by simp)
 rw[Nat.mul_one,<- hg]at this
 exact this
theorem GZ {W:World}{L L':List HP}{S:WP}{r:AC}{b:List UInt8}(p:Pick L (mS r b) L')(h0:0<b.length)(h:RdB W (mS r b) r.1 b.length (b.map Sl.B)->b.length<=r.2->aR W L S):aR W L S:=vu p h0 h
theorem n_ {W:World}{L:List HP}{S:WP}{s:Nat}{e:TypeId}(h:aR W (jA s e none 0 0 []::L) S):aR W L S:=bu (Bc .refl) h
theorem G1 {W:World}{L:List HP}{S:WP}{x g:Nat}(h:aR W (tJ (none,0) 0 x g::L) S):aR W L S:=bu (M:=tJ (none,0) 0 x g::L) (.pu rfl .refl) h
theorem yq {W:World} [hG:Gl W] [hP:Gp W] {v w gn j k c ap lgx n ca T p st kk:Nat} {s:SvS} {cn:CnS} {id now us:Int} {nm t O_ pth:List UInt8} {f f0 bb r o pa:AC} {jb m:Value} {Z:Cs} {X Y:List FD.Fd} {D b:List UInt8} {P:Ps} {q:Ca} {fn:Fn} {qa qb:Array Value} {ba:Option Addr} {cap:Nat} {A:HP} {y:Snt} {si:Int} (hY:li X=Y) (hA:RdB W A ba b.length (b.map Sl.B)) (hcap:b.length<=cap) (hZ:CsOk T Z) (h:RpOk b P X D) (hT:ToOk T X D) (hok:AnsOk now nm t Y D r_)
  (hn:cn.nx= .func fn qa qb) (hrow:cn.row= .slice r.1 1 r.2) (hrd:cn.rd=true) (hbg:cn.bg=false) (ho_:cn.out= .slice o.1 O_.length o.2) (hOl:O_.length<=1000000000) (hn2:n<=200) (hsw:s.w=w) (hsg:s.g=gn) (hca:s.ca=pE ca) (hlg:s.lg=pC lgx) (hlk:s.lk= .slice y.l.1 1 y.l.2) (htl:t.length<=1000) (hus:0<=us) (hus1:us<=1000):
  Cn p_ 15 [pC v,.int .i64 0,.slice ba b.length cap] W [cG v s,tz y.l y.x,GR gn j si y,dJ y.H (fq true),A,ek gn st q pa m (us+1),pj pa p,mW p,dW j k id t f bb gn (iT t) [97] pth (cO t) cj (oC t f),lS f,fU ca Z,jf w now,eD k c nm jb,bQ c cn,d8 r [ap],mS o O_,dZ ap id t f0 (.pointer none),iz lgx n] (fun _:Tb T Z t Y D si now × (AC × AC)=> .int .i64 0)
   (fun z=>[cG v s,tJ y.l 1 y.x gn,ek gn st q pa m us,pj pa p,iu p 1,A,fU ca z.1.1,jf w now,eD k c nm jb,bQ c (cn.wrote (O_++iy Y D).length z.2),mS z.2.1 (O_++iy Y D),d8 z.2.2 [],iz lgx (n+1)]):=by
 subst hY
 exact Jv (kk:=kk) hA hcap hZ h hT hok hn hrow hrd hbg ho_ hOl hn2 hsw hsg hca hlg hlk htl hus hus1
def CnS.flu (s:CnS):CnS:={s with out:= .slice none 0 0}
theorem QT {W:World}{v k c n:Nat}{s:SvS}{a o:AC}{nm:List UInt8}{jb:Value}{q:CnS}{f:Fn}{x y:Array Value}(h:s.cl= .slice a.1 1 a.2)(hn:q.nx= .func f x y)(hr:q.rd=true)(ho:q.out= .slice o.1 n o.2):Cn p_ 17 [pC v,.int .i64 0] W [cG v s,r5 a k,eD k c nm jb,bQ c q] (fun _:Unit=> .tuple #[.slice o.1 n o.2,.bool false,.int .i64 0]) (fun _=>[cG v s,r5 a k,eD k c nm jb,bQ c q.flu]):=by
 rw[<- ho]
 exact E2 h hn hr
structure CnOk (cn:CnS)(c H:Nat)(r:AC)(now:Int)(nu:Nat):Prop where
 nx:cn.nx=Ie c
 hd:cn.hd=pC H
 rd:cn.rd=true
 bg:cn.bg=false
 ev:cn.ev= .slice none 0 0
 row:cn.row= .slice r.1 0 r.2
 out:cn.out= .slice none 0 0
 nu:cn.nu=(nu:Int)
 bo:cn.bo=65536
 ke:cn.ke=75
 ck:cn.ck<=now
 si0:0<=cn.si
 si1:cn.si<=now
 si2:now-cn.si<=3
theorem C_ {c H:Nat}{now:Int}(h:0<=now):CnOk (uv c H 65536 75 now) c H (none,0) now 0:=
 ⟨rfl,rfl,rfl,rfl,rfl,rfl,rfl,rfl,rfl,rfl,Int.le_refl _,h,Int.le_refl _,by show now-now<=3;omega⟩
theorem JB {W:World}[hG:Gl W][hP:Gp W]:Cn p_ 7 [] W [] (fun _:Unit=> .bool true) (fun _=>[]):=by
 (refine Shp.cn (Sg.g_ Tryz.call7 Tryz.func7 (an:={drs:=[(8,.ofL [(0,1),(1,1),(2,1),(3,1),(4,2),(5,2),(6,3),(7,3),(8,3),(9,0),(10,0),(11,0),(12,1),(13,1)])]}) (os:=[(8,[(9,[8,7,6])])])) fun F=>?_;simp only[ca_,na_])
 refine c_ (GU (a:=3) (b:=0) (c:=1000) (by decide) (by decide) (by decide) (by decide) (by decide) (by decide)) fun _=>?_
 refine' aj (C2 (now:=5) (C8 (st:=1000) (by decide)) (by decide) (by decide)) ?hp fun x=>?_
 case hp=>exact .nil
 obtain⟨w,v,g,q,pa,p,m,ca,lg⟩:=x
 refine aq ?_
 (try dsimp only)
 refine bI ?_;refine bI ?_;refine o_ cp ?_;refine af ?_
 refine' aj (vh (v:=v) (nm:=[99]) (now:=5) (by decide) (by decide)) ?hp fun x=>?_
 case hp=>(repeat(first|exact Picks.nil|(apply Picks.cons;(focus repeat constructor))))
 obtain⟨c,H,k,a⟩:=x
 refine aq ?_
 (try dsimp only)
 refine bI ?_;refine bI ?_
 refine c_ rg fun _=>?_
 refine' aj (QK (t:=eY) (by decide)) ?hp fun b=>?_
 case hp=>exact .nil
 refine aq ?_
 refine vu (by(repeat constructor):Pick _ (GT b (zK eY)) _) (by decide) fun hb hcap=>?_
 refine n_ (s:=1) (e:=97) (n_ (s:=1) (e:=279) (Cb ?_))
 have hcn:=C_ (c:=c) (H:=H) (now:=5) (by decide)
 refine' aj (CO (v:=v) (w:=w) (g:=g) (st:=1000) (k:=k) (c:=c) (H:=H) (q:=q) (pa:=pa) (a:=a) (js:=(none,0)) (r:=(none,0)) (m:=m) (s:=⟨w,g,.slice a.1 1 a.2,.slice none 0 0,0,pE ca,pC lg,.slice none 0 0⟩) (cn:=uv c H 65536 75 5) (us:=0) (now:=5) (nm:=[99]) (t:=eY) rfl rfl rfl hb QO.rq hcap hcn.nx hcn.hd hcn.rd hcn.ev hcn.row (by rw[hcn.nu];decide) (by rw[hcn.nu];decide) (by rw[hcn.bo];decide) (by rw[hcn.bo];decide) hcn.ck (by decide) (by decide) (by decide)) ?hp fun u=>?_
 case hp=>(repeat(first|exact Picks.nil|(apply Picks.cons;(focus repeat constructor))))
 obtain⟨⟨H2,R,f,y⟩,js,j⟩:=u
 refine aq ?_
 (try dsimp only)
 (try dsimp only)
 refine c_ rg fun _=>?_
 refine bS ?_;(((refine o_ (Sl.cE ?hcq) ?_);(case hcq=>(first|omega|(simp only[List.length_nil,List.length_cons];omega)))));refine ab (ab (ab (n_ (s:=1) (e:=5) (G1 (x:=0) (g:=g) ?_))))
 refine' aj (QA (v:=v) (w:=w) (gn:=g) (j:=j) (k:=k) (p:=p) (st:=1000) (kk:=0) (x:=0) (c:=c) (ap:=y.a) (lgx:=lg) (n:=0) (ca:=ca) (T:=4000) (s:=⟨w,g,.slice a.1 1 a.2,.slice none 0 0,0,pE ca,pC lg,.slice none 0 0⟩) (cn:=(uv c H 65536 75 5).inp c 5 eY (H2,R,f,y)) (id:=0) (now:=5) (us:=0) (tm:=3) (rt:=0) (nm:=[99]) (t:=eY) (O_:=[]) (f:=y.f) (f0:=f) (b:=y.g) (pa:=pa) (l:=(none,0)) (r:=y.r) (o:=(none,0)) (a:=a) (js:=js) (m:=m) (q:=q) (Z:=jF 1000) (O:=dL (jF 1000) (cO eY) fH 5) (hit:=false) rfl ((qA (by decide) (by decide)).up (by decide) (by decide)) rfl (fun h=>by cases h) (fun h=>absurd h (by decide)) (fun h=>by cases h) QO.tg rfl rfl rfl rfl rfl (by decide) (by decide) (by decide) rfl rfl rfl rfl rfl rfl rfl rfl (by decide) (by decide) (by decide) QO.tf QO.wr) ?hp fun z=>?_
 case hp=>(repeat(first|exact Picks.nil|(apply Picks.cons;(focus repeat constructor))))
 simp only[wM,ca_,na_,-eq_self]
 refine ab (o_ bA (o_ am (af ?_)))
 refine' aj (Cw (v:=v)) ?hp fun u=>?_
 case hp=>(repeat(first|exact Picks.nil|(apply Picks.cons;(focus repeat constructor))))
 (try dsimp only)
 refine aq ?_
 refine aV (t_ aK ?_);(((refine t_ (Sl.cE ?hcq) ?_);(case hcq=>(first|omega|(simp only[List.length_nil,List.length_cons];omega)))));refine ab (ab (jV ?_))
 unfold Mq
 refine be (by(repeat constructor):Pick _ (Sl 4 42 _ _ 1 _) _) (by decide) fun G hG=>?_
 obtain⟨⟨zz,z⟩,jq⟩:=z
 (try dsimp only at hG)
 rw[hG]
 (try dsimp only)
 refine ay (eA 0 rfl (by decide)) .nil ?_
 refine aq ?_
 refine jV (ay ae .nil ?_);refine jV ?_;(((refine' ay (bF ?hc) ?hi ?_);(case hi=>exact aA);(case hc=>rfl)));refine ab ?_
 refine' aj (C0 (W:=W) (a:=5) (D:=[104,101,108,108,111]) (by decide) (by decide) (by decide)) ?hp fun rb=>?_
 case hp=>exact .nil
 refine aq ?_
 (repeat((refine' cU (aI ?hcs) ?_);(case hcs=>(repeat(first|exact .refl|exact .nil|(apply Imp.pick;(focus ((repeat constructor);done)))|refine .drop ?_)))))
 obtain⟨⟨P,hP1⟩,hP2,hP3⟩:=vt (a:=5) (D:=[104,101,108,108,111]) (by decide) (by decide) (by decide) (by decide)
 refine vu (by(repeat constructor):Pick _ (GT rb _) _) (by decide) fun hrb hrc=>?_
 refine ab ?_
 refine' aj (yq (X:=Dv 5 5) (Y:=sX 5) (v:=v) (w:=w) (gn:=g) (j:=j) (k:=k) (c:=c) (ap:=y.a) (lgx:=lg) (n:=0) (ca:=ca) (T:=4000) (p:=p) (st:=1000) (kk:=0) (s:=⟨w,g,.slice a.1 1 a.2,.slice z.l.1 1 z.l.2,1,pE ca,pC lg,.slice none 0 0⟩) (cn:=(uv c H 65536 75 5).inp c 5 eY (H2,R,f,y)) (id:=0) (now:=5) (us:=0) (nm:=[99]) (t:=eY) (O_:=[]) (pth:=eY) (f:=y.f) (f0:=f) (bb:=y.g) (pa:=pa) (r:=y.r) (o:=(none,0)) (m:=m) (q:=q) (y:=z) (si:=5) (Z:=(dL (jF 1000) (cO eY) fH 5).S) hP2 hrb hrc (qO ((qA (b:=1000) (by decide) (by decide)).up (by decide) (by decide))) hP1 hP3 (wO (by decide) (by decide) (vr (by decide) (by decide) (by decide) (by decide)) QO (by decide) (.inr rfl)) rfl rfl rfl rfl rfl (by decide) (by decide) rfl rfl rfl rfl rfl (by decide) (by decide) (by decide)) ?hp fun zr=>?_
 case hp=>(repeat(first|exact Picks.nil|(apply Picks.cons;(focus repeat constructor))))
 refine aq ?_
 (try dsimp only)
 refine ab (c_ rg fun _=>?_)
 refine ab ?_;(((refine t_ (Sl.cE ?hcq) ?_);(case hcq=>(first|omega|(simp only[List.length_nil,List.length_cons];omega)))));refine t_ am (af ?_)
 refine' aj (QT (v:=v) (k:=k) (c:=c) (a:=a) (nm:=[99]) (o:=zr.2.1) (q:=((uv c H 65536 75 5).inp c 5 eY (H2,R,f,y)).wrote (iy (sX 5) [104,101,108,108,111]).length zr.2) ?h1 ?h2 ?h3 ?h4) ?hp fun _=>?_
 case hp=>(repeat(first|exact Picks.nil|(apply Picks.cons;(focus repeat constructor))))
 case h1=>rfl
 case h2=>rfl
 case h3=>rfl
 case h4=>rfl
 refine aq ?_
 (try dsimp only)
 refine bI ?_;refine bI ?_;refine bI ?_
 obtain⟨PA,hPA⟩:=GY (X:=sX 5) (D:=[104,101,108,108,111]) (vr (by decide) (by decide) (by decide) (by decide)) (by decide) (by decide)
 refine GZ (by(repeat constructor):Pick _ (mS zr.2.1 _) _) (by decide) fun hro hrc2=>?_
 refine' aj (QM hro hrc2 hPA) ?hp fun on=>?_
 case hp=>(repeat(first|exact Picks.nil|(apply Picks.cons;(focus repeat constructor))))
 obtain⟨x,d,tl⟩:=on
 refine aq ?_
 (try dsimp only)
 refine bI ?_;refine bI ?_;refine bI ?_;refine aS fun g=>?_
 refine mI (n:=3) (vs:=ir (GV (sX 5) 5) [104,101,108,108,111] x d) (cs':=ir (GV (sX 5) 5) [104,101,108,108,111] x d) (by repeat constructor) rfl (Nat.le_of_ble_eq_true rfl) (by simp[Value.oneCell',ir]) rfl ?_
 refine c_ rg fun _=>?_
 unfold ir
 (try dsimp only)
 (((refine o_ (Sl.cv ?hcq) ?_);(case hcq=>(first|omega|(simp only[List.length_nil,List.length_cons];omega)))));refine ab ?_;refine o_ av ?_;refine ab ?_;refine o_ ae ?_;refine ab ?_;refine aM ?_;refine ab ?_;(((refine o_ (Sl.cv ?hcq) ?_);(case hcq=>(first|omega|(simp only[List.length_nil,List.length_cons];omega)))));refine o_ av ?_;refine ab ?_;refine o_ ae ?_;refine ab ?_;refine aM ?_;refine ab ?_
 refine aB (sL (e:=5) (cap:=d.2) (l:=[104,101,108,108,111])) aA ?_
 refine ab ?_;(((refine' aB (Sl.kr ?hcq) .nil ?_);(case hcq=>(first|rfl|assumption))));refine o_ av (aO () ?_)
 exact aA
def md (n k:Int):Int:=(n.tmod k+k).tmod k
theorem FH {n k:Int}(h:0<k):0<=md n k/\md n k<k:=by
 have h1:=Int.lt_tmod_of_pos n h
 exact⟨Int.tmod_nonneg _ (by omega),Int.tmod_lt_of_pos _ h⟩
theorem wQ {α:Type}{f:Nat->α}{n i:Nat}{v:α}:((List.range n).map f).set i v=(List.range n).map fun j=>if j=i then v else f j:=by
 apply List.ext_getElem
 ·simp
 ·intro j h1 h2
  simp only[List.getElem_set,List.getElem_map,List.getElem_range]
  by_cases c:i=j
  ·subst c;simp
  ·rw[if_neg c,if_neg (fun h=>c h.symm)]
structure TZ where
 l:AC
 x:Nat
 kk:Nat
 cn:CnS
 H:Nat
 js:AC
 r:AC
 Z:Cs
 xs:Nat->La
 i:Nat
 now:Int
 rr:Value
structure TY where
 v:Nat
 w:Nat
 g:Nat
 k:Nat
 c:Nat
 q:Ca
 pa:AC
 p:Nat
 m:Value
 ca:Nat
 lg:Nat
 a:AC
 st:Nat
 g1:Nat
 g2:Nat
 g3:Nat
def t0:Int:=784111777
structure TsOk (f:TY)(z:TZ):Prop where
 i1:z.i<=60
 n0:t0<=z.now
 n1:z.now<=t0+3 * z.i
 kk:z.kk<=1
 kz:z.kk=0->∀j,(z.xs j).d=[]
 cn:CnOk z.cn.flu f.c z.H z.r z.now z.i
 zo:CsOk 4000 z.Z
 zb:z.Z.bound=(f.st:Int)
 ki:∀j,j<4->KInv z.Z (tK j) z.now (z.xs j)
 rr:z.cn.rr=z.rr
 b0:∀j,t0<=(z.xs j).b/\(z.xs j).b<=z.now
def Ms (f:TY)(xs:Nat->La):List HP:=[Sl 1 9 (some ⟨f.g1,0,none⟩) 4 4 ((List.range 4).map fun j=>az (xs j).d),Sl 1 3 (some ⟨f.g2,0,none⟩) 4 4 ((List.range 4).map fun j=> .int .i64 ((xs j).b-t0)),Sl 1 3 (some ⟨f.g3,0,none⟩) 4 4 ((List.range 4).map fun j=> .int .i64 (xs j).l)]
def JC (f:TY)(z:TZ):List HP:=[cG f.v ⟨f.w,f.g,.slice f.a.1 1 f.a.2,.slice z.l.1 z.kk z.l.2,z.kk,pE f.ca,pC f.lg,.slice none 0 0⟩,r5 f.a f.k,eD f.k f.c [99] (.slice z.js.1 0 z.js.2),Ft z.js [],bQ f.c z.cn,zj z.rr,dJ z.H (fq false),d8 z.r [],jf f.w z.now,ek f.g f.st f.q f.pa f.m 0,pj f.pa f.p,iu f.p z.kk,gH f.q 3 0,tJ z.l z.kk z.x f.g,fU f.ca z.Z,iz f.lg z.i]++Ms f z.xs
def Wc (j:Nat):La:=⟨[],t0,0⟩
def jL (f:TY)(i jj:Nat)(now:Int):List HP:=[ex fun y:TZ × AC × List FD.Fd=>all ([pu (y.1.i=i+1/\y.1.now=now/\y.1.kk=1/\y.1.cn.si=now/\y.1.cn.out= .slice y.2.1.1 (iy y.2.2 (y.1.xs jj).d).length y.2.1.2/\f2 y.2.2 (y.1.xs jj).d.length=true/\5<=(y.1.xs jj).d.length/\(y.1.xs jj).d.length<8/\TsOk f y.1),mS y.2.1 (iy y.2.2 (y.1.xs jj).d)]++JC f y.1)]
theorem Da {cn:CnS}{c H i n H2 R:Nat}{r f:AC}{now:Int}{t:List UInt8}{y:Rq}{z:AC × AC}(h:CnOk cn.flu c H r now i)(h0:0<=now):CnOk ((cn.inp c now t (H2,R,f,y)).wrote n z).flu c H2 z.2 now (i+1):=
 ⟨rfl,rfl,rfl,rfl,rfl,rfl,rfl,(by show cn.nu+1=((i+1:Nat):Int);rw[show cn.nu=(i:Int)from h.nu];rfl),h.bo,h.ke,Int.le_refl _,h0,Int.le_refl _,(by show now-now<=3;omega)⟩
theorem FI {W:World}{L:List HP}{body:(Value->WP)->WP}{rest:List Value->Value->WP}(φ:Value->Prop)(hb:aR W L (body fun x w=>φ x/\sat W L w))(hr:∀ds x,φ x->aR W L (rest ds x)):aR W L (sr body rest):=fun w hw=>⟨fun x w=>φ x/\sat W L w,fun ds x w' h=>hr ds x h.1 w' h.2,hb w hw⟩
theorem Db {W:World}{L:List HP}{φ:Prop}(h:φ):aR W L (fun w=>φ/\sat W L w):=fun w hw=>⟨h,hw⟩
def tL (xs:Nat->La)(jj:Nat)(y:La):Nat->La:=fun j=>if j=jj then y else xs j
theorem QU {xs:Nat->La}{jj n:Nat}{d:List UInt8}{b l:Int}:((List.range n).map fun j=>az (xs j).d).set jj (az d)=(List.range n).map fun j=>az (tL xs jj ⟨d,b,l⟩ j).d:=by
 rw[wQ];congr;funext j;unfold tL;by_cases h:j=jj <;> simp[h]
theorem QV {xs:Nat->La}{jj n:Nat}{d:List UInt8}{b l:Int}:((List.range n).map fun j=>Value.int .i64 ((xs j).b-t0)).set jj (.int .i64 (b-t0))=(List.range n).map fun j=>Value.int .i64 ((tL xs jj ⟨d,b,l⟩ j).b-t0):=by
 rw[wQ];congr;funext j;unfold tL;by_cases h:j=jj <;> simp[h]
theorem QW {xs:Nat->La}{jj n:Nat}{d:List UInt8}{b l:Int}:((List.range n).map fun j=>Value.int .i64 (xs j).l).set jj (.int .i64 l)=(List.range n).map fun j=>Value.int .i64 (tL xs jj ⟨d,b,l⟩ j).l:=by
 rw[wQ];congr;funext j;unfold tL;by_cases h:j=jj <;> simp[h]
theorem QX {Z Z2:Cs}{xs:Nat->La}{jj:Nat}{now ag:Int}{D:List UInt8}(hzo:CsOk 4000 Z)(hL:LkR Z (tK jj) now (xs jj) (dL Z (cO (tK jj)) fH now))(hs:(dL Z (cO (tK jj)) fH now).state≠1)(hZ2:Ct 4000 (dL Z (cO (tK jj)) fH now).S (cO (tK jj)) db fH (sX ag) D 200 now now Z2)(hki:∀j,j<4->KInv Z (tK j) now (xs j))(hj:jj<4)(hg:Gd ag D now now):∀j,j<4->KInv Z2 (tK j) now (tL xs jj ⟨D,now,ag⟩ j):=fun j h4=>by
 unfold tL
 by_cases h:j=jj
 ·rw[if_pos h,h]
  refine zO (qO hzo) hZ2 ?_ hg
  rw[hL.of_,hL.E]
  exact hL.miss hs
 ·rw[if_neg h]
  exact vm (qO hzo) hZ2 (FG h4 hj h) (hL.inv (hki j h4))
theorem FJ {cn:CnS}{c H n:Nat}{r:AC}{now d:Int}(h:CnOk cn.flu c H r now n)(h0:0<=d)(h3:d<=3)(hs:cn.si=now):CnOk ({cn.flu with ck:=now+d}:CnS).flu c H r (now+d) n:=
 have h1:0<=cn.si:=h.si0
 ⟨h.nx,h.hd,h.rd,h.bg,h.ev,h.row,rfl,h.nu,h.bo,h.ke,Int.le_refl _,h1,(by show cn.si<=now+d;omega),(by show now+d-cn.si<=3;omega)⟩
theorem G4 {f:TY}{l js r:AC}{x H i:Nat}{cn cn':CnS}{Z:Cs}{xs:Nat->La}{now d:Int}(h:TsOk f ⟨l,x,1,cn,H,js,r,Z,xs,i+1,now,cn.rr⟩)(hi:i<60)(hn:now<=t0+3 * (i:Int))(h0:0<=d)(h3:d<=3)(hr:cn'.rr=cn.rr)(hc:CnOk cn'.flu f.c H r (now+d) (i+1)):TsOk f ⟨l,x,1,cn',H,js,r,Z,xs,i+1,now+d,cn.rr⟩:=
 have hn0:t0<=now:=h.n0
 have ht:t0=784111777:=rfl
 ⟨hi,(by show t0<=now+d;omega),(by show now+d<=t0+3 * ((i+1:Nat):Int);omega),Nat.le_refl _,(fun h=>by cases h),hc,h.zo,h.zb,fun j hj=>(h.ki j hj).up h0 (by show now+d<=1000000000000;omega),hr,fun j=>⟨(h.b0 j).1,by have:=(h.b0 j).2;show(xs j).b<=now+d;exact Int.le_trans this (by show now<=now+d;omega)⟩⟩
theorem FK {W:World}{Q:Prop}{J:List HP}{R:List Value->WP}(hb:(∀ds,aR W J (R ds))->Q)(ht:∀ds,aR W J (R ds)):Q:=hb ht
theorem qP {α:Type}{f:Nat->α}{j n:Nat}(h:j<n):((List.range n).map f)[j]? =some (f j):=by simp[h]
theorem topStored {W:World}[hG:Gl W][hP:Gp W]{a0 a1 a2:Option Addr}{c0 c1 c2:Nat}{l0 l1 l2:List Int}{bb:Int}(h0:∀A,RdB W A a0 l0.length (l0.map I))(h1:∀A,RdB W A a1 l1.length (l1.map I))(h2:∀A,RdB W A a2 l2.length (l2.map I)):
  Cn p_ 3 [.slice a0 l0.length c0,.slice a1 l1.length c1,.slice a2 l2.length c2,.int .i64 bb] W [] (fun _:Unit=> .bool true) (fun _=>[]):=by
 have t1: -5000<bb.tmod 5000/\bb.tmod 5000<5000:=⟨Int.lt_tmod_of_pos bb (by decide),Int.tmod_lt_of_pos bb (by decide)⟩
 obtain⟨b1,b2⟩:=FH (n:=bb) (k:=5000) (by decide)
 obtain⟨st,hst⟩:∃n:Nat,md bb 5000=n:=⟨(md bb 5000).toNat,by omega⟩
 (refine Shp.cn (Sg.g_ Tryz.call3 Tryz.func3 (an:={cuts:=[(25,[20]),(30,[])],loops:=[(13,[16,17])],drs:=[(19,.ofL [(0,1),(1,1),(2,1),(3,1),(4,1),(5,1),(6,1),(7,1),(8,1),(9,1),(10,1),(11,1),(12,1),(13,1),(14,1),(15,1),(16,1),(17,1),(18,1),(19,1),(20,1),(21,1),(22,1),(23,1),(24,1),(25,1),(26,1),(27,1)]),(28,.ofL [(0,2),(1,2),(2,3),(3,3),(4,3),(5,1),(6,1),(7,1),(8,1),(9,1),(10,0),(11,0),(12,0),(13,1)]),(32,.ofL [(0,1),(1,1),(2,1),(3,1),(4,1),(5,1),(6,1),(7,1),(8,1),(9,1),(10,1),(11,1),(12,1),(13,1),(14,1),(15,1),(16,1),(17,1),(18,1),(19,1),(20,1),(21,1),(22,1),(23,1),(25,2),(24,0),(26,1),(27,1)])]}) (os:=[(28,[(10,[4,3,2])])])) fun F=>?_;simp only[ca_,na_])
 refine o_ (jX (by decide)) ?_
 refine bS ?_
 refine o_ (jX (by decide)) ?_
 rw[show(bb.tmod 5000+5000).tmod 5000=(st:Int)from hst]
 refine c_ (GU (a:=3) (b:=0) (c:=(st:Int)) (by decide) (by decide) (by decide) (by decide) (by omega) (by omega)) fun _=>?_
 refine' aj (C2 (now:=t0) (C8 (st:=st) (by omega)) (by decide) (by decide)) ?hp fun x=>?_
 case hp=>exact .nil
 obtain⟨w,v,gn,q,pa,p,m,ca,lg⟩:=x
 refine aq ?_
 (try dsimp only)
 refine bI ?_;refine bI ?_;refine o_ cp ?_;refine ab (c_ JB fun _=>?_)
 refine ab (o_ bA (o_ am (af ?_)))
 refine' aj (vh (v:=v) (nm:=[99]) (now:=t0) (by decide) (by decide)) ?hp fun x=>?_
 case hp=>(repeat(first|exact Picks.nil|(apply Picks.cons;(focus repeat constructor))))
 obtain⟨c,H,k,a⟩:=x
 refine aq ?_
 (try dsimp only)
 refine bI ?_;refine bI ?_
 refine c_ rg fun _=>?_
 (((refine o_ (Sl.cE ?hcq) ?_);(case hcq=>(first|omega|(simp only[List.length_nil,List.length_cons];omega)))));refine af ?_
 refine Sl.pO (z:=az []) 4 4 rfl rfl (Nat.le_refl _) (Nat.le_of_ble_eq_true rfl) (by decide) fun g1=>?_
 refine Sl.pO (z:=I 0) 4 4 rfl rfl (Nat.le_refl _) (Nat.le_of_ble_eq_true rfl) (by decide) fun g2=>?_
 refine Sl.pO (z:=I 0) 4 4 rfl rfl (Nat.le_refl _) (Nat.le_of_ble_eq_true rfl) (by decide) fun g3=>?_
 refine G1 (x:=0) (g:=gn) (n_ (s:=1) (e:=97) (n_ (s:=1) (e:=279) (Cb ?_)))
 obtain⟨f,hf⟩:∃f:TY,f=⟨v,w,gn,k,c,q,pa,p,m,ca,lg,a,st,g1,g2,g3⟩:=⟨_,rfl⟩
 refine cz (fun mm X Y=>[ex fun z:TZ=>all ([pu (mm+z.i=60/\X= .int .i64 (z.now-t0)/\Y= .int .i64 (z.i:Int)/\z.cn.out= .slice none 0 0/\TsOk f z)]++JC f z)]++F) 60 ?_ ?_
 ·refine .ex ⟨(none,0),0,0,uv c H 65536 75 t0,H,(none,0),(none,0),jF st,Wc,0,t0,.pointer none⟩ (.all (.pu ⟨rfl,rfl,rfl,rfl,?_⟩ ?_))
  ·subst hf
   exact⟨Nat.zero_le _,Int.le_refl _,(by show t0<=t0+3 * ((0:Nat):Int);decide),Nat.zero_le _,fun _ _=>rfl,C_ (now:=t0) (by decide),(qA (by omega) (by omega)).up (by decide) (by decide),rfl,fun j hj=>zP,rfl,fun j=>⟨Int.le_refl _,Int.le_refl _⟩⟩
  ·subst hf
   unfold JC Ms
   exact aA
 subst hf
 have rd0:=h0 (pu True)
 have rd1:=h1 (pu True)
 have rd2:=h2 (pu True)
 intro mm ds X Y
 refine bt .here fun z=>aE .here ?_
 unfold JC Ms
 refine aq ?_
 refine aX .here fun hz=>?_
 obtain⟨hm,rfl,rfl,hout,hz⟩:=hz
 obtain⟨l,x,kk,cn,H,js,r,Z,xs,i,now,rr⟩:=z
 obtain⟨hi1,hn0,hn1,hkk,hkz,hcn,hzo,hzb,hki,hrr,hb0⟩:=hz
 (try dsimp only at *)
 subst hrr
 have ht0:t0=784111777:=rfl
 rcases Nat.lt_or_ge i l0.length with hi|hi
 rotate_left
 ·(refine o_ aK ?_);(((refine o_ (Sl.bJ ?hcq) ?_);(case hcq=>(first|omega|(simp only[List.length_nil,List.length_cons];omega)))));refine ao ?_;refine ao ?_;refine o_ am ?_;refine af ?_
  refine aO () ?_
  exact aA
 rcases Nat.lt_or_ge i 60 with hi6|hi6
 rotate_left
 ·(refine o_ aK ?_);(((refine o_ (Sl.ce ?hcq) ?_);(case hcq=>(first|omega|(simp only[List.length_nil,List.length_cons];omega)))));refine ab ?_;refine ab ?_;(((refine o_ (Sl.bJ ?hcq) ?_);(case hcq=>(first|omega|(simp only[List.length_nil,List.length_cons];omega)))));refine o_ av ?_;refine af ?_
  refine aO () ?_
  exact aA
 refine o_ aK ?_;(((refine o_ (Sl.ce ?hcq) ?_);(case hcq=>(first|omega|(simp only[List.length_nil,List.length_cons];omega)))));refine ab (ab ?_);(((refine o_ (Sl.ce ?hcq) ?_);(case hcq=>(first|omega|(simp only[List.length_nil,List.length_cons];omega)))));refine o_ av (ai ?_)
 obtain⟨ga,oa,rfl,_⟩:=rd0.at_ (by omega)
 refine o_ (br i rfl hi) ?_
 refine aB (dI rd0 (xq hi)) (.pu trivial .nil) ?_
 obtain⟨q0,hq0⟩:∃q,q=l0[i]:=⟨_,rfl⟩
 have u1: -4<q0.tmod 4/\q0.tmod 4<4:=⟨Int.lt_tmod_of_pos q0 (by decide),Int.tmod_lt_of_pos q0 (by decide)⟩
 obtain⟨b3,b4⟩:=FH (n:=q0) (k:=4) (by decide)
 obtain⟨jj,hjj⟩:∃n:Nat,md q0 4=n:=⟨(md q0 4).toNat,by omega⟩
 rw[<- hq0]
 refine o_ (jX (by decide)) ?_
 refine bS ?_
 refine o_ (jX (by decide)) ?_
 rw[show(q0.tmod 4+4).tmod 4=(jj:Int)from hjj]
 have hj4:jj<4:=by omega
 have htg:=Wb hj4
 have htl:=htg.tl
 have dl:=eN (i:=(jj:Int)) (by omega) (by omega)
 refine c_ (eI (i:=(jj:Int)) (by omega) (by omega)) fun _=>?_
 refine o_ (bE (a:=[47,97,112,105,47]) (b:=ei (jj:Int)) (by simp;omega)) ?_
 rw[show [47,97,112,105,47]++ei (jj:Int)=tK jj from rfl]
 refine' aj (QK (t:=tK jj) (by omega)) ?hp fun b=>?_
 case hp=>exact .nil
 refine aq ?_
 refine vu (by(repeat constructor):Pick _ (GT b (zK (tK jj))) _) (by simp[zK]) fun hb hcap=>?_
 have hnu:cn.nu=(i:Int):=hcn.nu
 have hbo:cn.bo=65536:=hcn.bo
 have hck:cn.ck<=now:=hcn.ck
 refine' aj (CO (v:=v) (w:=w) (g:=gn) (st:=st) (k:=k) (c:=c) (H:=H) (q:=q) (pa:=pa) (a:=a) (js:=js) (r:=r) (m:=m) (s:=⟨w,gn,.slice a.1 1 a.2,.slice l.1 kk l.2,kk,pE ca,pC lg,.slice none 0 0⟩) (cn:=cn) (us:=0) (now:=now) (nm:=[99]) (t:=tK jj) rfl rfl rfl hb htg.rq hcap hcn.nx hcn.hd hcn.rd hcn.ev hcn.row (by omega) (by omega) (by omega) (by omega) hck (by omega) (by decide) (by decide)) ?hp fun u=>?_
 case hp=>(repeat(first|exact Picks.nil|(apply Picks.cons;(focus repeat constructor))))
 obtain⟨⟨H2,R,f,y⟩,js2,j⟩:=u
 refine aq ?_
 (try dsimp only)
 refine n_ (s:=1) (e:=5) ?_
 have hL:=JA (hki jj hj4)
 refine' FK (W:=W) (J:=jL ⟨v,w,gn,k,c,q,pa,p,m,ca,lg,a,st,g1,g2,g3⟩ i jj now++F) (fun tail=>?_) ?htail
 rotate_left 1
 obtain⟨hit,hhit⟩:∃b:Bool,b=decide ((dL Z (cO (tK jj)) fH now).state=1):=⟨_,rfl⟩
 have hb9:=C9 hi6
 refine' aj (QA (v:=v) (w:=w) (gn:=gn) (j:=j) (k:=k) (p:=p) (st:=st) (kk:=kk) (x:=x) (c:=c) (ap:=y.a) (lgx:=lg) (n:=i) (ca:=ca) (T:=4000) (s:=⟨w,gn,.slice a.1 1 a.2,.slice l.1 kk l.2,kk,pE ca,pC lg,.slice none 0 0⟩) (cn:=cn.inp c now (tK jj) (H2,R,f,y)) (id:=cn.nu) (now:=now) (us:=0) (tm:=3) (rt:=0) (nm:=[99]) (t:=tK jj) (O_:=[]) (f:=y.f) (f0:=f) (b:=y.g) (pa:=pa) (l:=l) (r:=y.r) (o:=(none,0)) (a:=a) (js:=js2) (m:=m) (q:=q) (Z:=Z) (O:=dL Z (cO (tK jj)) fH now) (hit:=hit) rfl hzo hhit ?h1 ?h2 ?h3 htg.tg rfl rfl rfl rfl hout (Nat.zero_le _) (by omega) hkk rfl rfl rfl rfl rfl rfl rfl rfl (by omega) (by decide) (by decide) htg.tf htg.wr) ?hp fun z=>?_
 case hp=>(repeat(first|exact Picks.nil|(apply Picks.cons;(focus repeat constructor))))
 case h1=>
  intro h
  obtain⟨⟨p1,p2,p3,p4,p5,p6,p7⟩,k2,k3,k4,k5⟩:=hL.hit (of_decide_eq_true (hhit▸h))
  refine⟨k3,?_⟩
  rw[k4,k5]
  exact wO (by omega) (by omega) (GX p1 p2 (by omega) (by omega) p3 p4) htg (by omega) (.inl rfl)
 case h2=>
  intro h
  obtain⟨a',n',k1,k2,k3,k4,k5⟩:=hL.two h
  rw[k5]
  exact QS k1 k2 k3 k4
 case h3=>
  intro h
  obtain⟨k1,_⟩:=hL.hit (of_decide_eq_true (hhit▸h))
  rcases Nat.eq_zero_or_pos kk with k0|k0
  ·have:=hkz k0 jj
   have k6:=k1.2.2.1
   rw[this]at k6
   cases k6
  ·omega
 cases hit with
 |true=>
  have hs:=of_decide_eq_true hhit.symm
  obtain⟨k1,k2,k3,k4,k5⟩:=hL.hit hs
  obtain⟨p1,p2,p3,p4,p5,p6,p7⟩:=k1
  have hk1:kk=1:=by
   rcases Nat.eq_zero_or_pos kk with k0|k0
   ·rw[hkz k0 jj]at p3;cases p3
   ·omega
  rw[hk1,k4,k5]
  simp only[CW,ca_,na_,-eq_self]
  refine' aj (Cw (v:=v)) ?hp fun u=>?_
  case hp=>(repeat(first|exact Picks.nil|(apply Picks.cons;(focus repeat constructor))))
  (try dsimp only)
  refine aq ?_
  refine aV (t_ aK ?_);(((refine t_ (Sl.bZ ?hcq) ?_);(case hcq=>(first|omega|(simp only[List.length_nil,List.length_cons];omega)))));refine ab (ab (t_ aK (ab ?_)));(((refine t_ (Sl.cv ?hcq) ?_);(case hcq=>(first|omega|(simp only[List.length_nil,List.length_cons];omega)))));refine ab (ab (ab (ab (t_ (br jj rfl hj4) ?_))))
  rw[Nat.zero_add]
  refine ab ?_
  refine' aP (bF (v:=az (xs jj).d) ?hcv) ?hiv ?_
  case hiv=>(repeat(first|exact .refl|exact .nil|(apply Imp.pick;(focus ((repeat constructor);done)))|refine .drop ?_))
  case hcv=>exact qP hj4
  refine ab (t_ (fK (l:=(xs jj).d) (m:=[]) (by rintro h;rw[h]at p3;cases p3)) ?_)
  refine ab (ab (ab (ab (ab ?_))))
  obtain⟨bj1,bj2⟩:=hb0 jj
  refine t_ (br jj rfl hj4) ?_
  rw[Nat.zero_add]
  refine ab ?_
  refine' aP (bF (v:= .int .i64 ((xs jj).b-t0)) ?hcv) ?hiv ?_
  case hiv=>(repeat(first|exact .refl|exact .nil|(apply Imp.pick;(focus ((repeat constructor);done)))|refine .drop ?_))
  case hcv=>exact qP hj4
  refine ab ?_;(refine t_ (gI (by omega) (by omega)) ?_);refine ab (ab (ab (t_ (br jj rfl hj4) ?_)))
  rw[Nat.zero_add]
  refine ab ?_
  refine' aP (bF (v:= .int .i64 (xs jj).l) ?hcv) ?hiv ?_
  case hiv=>(repeat(first|exact .refl|exact .nil|(apply Imp.pick;(focus ((repeat constructor);done)))|refine .drop ?_))
  case hcv=>exact qP hj4
  refine ab ?_;(((refine t_ (Sl.eW ?hcq) ?_);(case hcq=>(first|omega|(simp only[List.length_nil,List.length_cons];omega)))));refine ab (t_ am (ab (t_ av (t_ am (af (jn _ tail ?_))))))
  refine o_ aK ?_;(((refine o_ (Sl.bL ?hcq) ?_);(case hcq=>(first|omega|(simp only[List.length_nil,List.length_cons];omega)))));refine af ?_
  obtain⟨⟨⟨yo,yr⟩,ys⟩,yj⟩:=z
  refine n9 (.ex ((⟨l,x,1,(cn.inp c now (tK jj) (H2,R,f,y)).wrote (iy (hX (xs jj).l (now-(xs jj).b)) (xs jj).d).length (yo,yr),H2,yj,yr,(dL Z (cO (tK jj)) fH now).S,xs,i+1,now,pC R⟩:TZ),yo,hX (xs jj).l (now-(xs jj).b)) (.all (.pu ⟨rfl,rfl,rfl,rfl,rfl,GX p1 p2 (by omega) (by omega) p3 p4,p3,p4,?_⟩ ?_)))
  ·exact⟨hi6,hn0,(by show now<=t0+3 * ((i+1:Nat):Int);omega),Nat.le_refl _,(fun h=>by cases h),Da hcn (by omega),qO hzo,hL.bo.trans hzb,fun j hj=>hL.inv (hki j hj),rfl,hb0⟩
  ·unfold JC Ms
   exact aA
 |false=>
  simp only[wM,ca_,na_,-eq_self]
  have hs:(dL Z (cO (tK jj)) fH now).state≠1:=of_decide_eq_false hhit.symm
  obtain⟨⟨zz,z⟩,jq⟩:=z
  refine' aj (Cw (v:=v)) ?hp fun u=>?_
  case hp=>(repeat(first|exact Picks.nil|(apply Picks.cons;(focus repeat constructor))))
  (try dsimp only)
  refine aq ?_
  refine aV (t_ aK ?_);(((refine t_ (Sl.bZ ?hcq) ?_);(case hcq=>(first|omega|(simp only[List.length_nil,List.length_cons];omega)))));refine ab (ab (t_ aK (ab ?_)));(((refine t_ (Sl.bL ?hcq) ?_);(case hcq=>(first|omega|(simp only[List.length_nil,List.length_cons];omega)))));refine ab (ao (ao (ao (ao (ao (ao (cV (cV (cV (cV (cV (cV (cV (cV (cV (cV (cV (ao (ab (t_ am (t_ am (af (jn _ tail ?_)))))))))))))))))))))))
  refine o_ aK ?_;(((refine o_ (Sl.cv ?hcq) ?_);(case hcq=>(first|omega|(simp only[List.length_nil,List.length_cons];omega)))));refine ai (FI (fun x=>∃a:Int,x= .int .i64 a/\0<=a/\a<10) ?_ ?_)
  ·rcases Nat.lt_or_ge i l1.length with h1i|h1i
   ·(refine o_ aK ?_);(((refine o_ (Sl.ce ?hcq) ?_);(case hcq=>(first|omega|(simp only[List.length_nil,List.length_cons];omega)))));refine ai ?_
    obtain⟨ga1,oa1,rfl,_⟩:=rd1.at_ (by omega)
    refine o_ (br i rfl h1i) ?_
    refine aB (dI rd1 (xq h1i)) (.pu trivial .nil) ?_
    have u2: -10<l1[i].tmod 10/\l1[i].tmod 10<10:=⟨Int.lt_tmod_of_pos _ (by decide),Int.tmod_lt_of_pos _ (by decide)⟩
    refine o_ (jX (by decide)) ?_
    refine bS ?_
    refine o_ (jX (by decide)) ?_
    exact Db ⟨_,rfl,FH (by decide)⟩
   ·(refine o_ aK ?_);(((refine o_ (Sl.bJ ?hcq) ?_);(case hcq=>(first|omega|(simp only[List.length_nil,List.length_cons];omega)))));refine af ?_
    exact Db ⟨0,rfl,by decide,by decide⟩
  intro ds1 x1 hx1
  obtain⟨ag,rfl,ag0,ag9⟩:=hx1
  refine c_ (eI (i:=(i:Int)) (by omega) (by omega)) fun _=>?_
  have di:=eN (i:=(i:Int)) (by omega) (by omega)
  refine o_ (bE (a:=[98,111,100,121,32]) (b:=ei (i:Int)) (by simp;omega)) ?_
  rw[show [98,111,100,121,32]++ei (i:Int)=eQ i from rfl]
  refine o_ (br jj rfl hj4) ?_
  rw[Nat.zero_add]
  refine dN (by(repeat constructor):Pick _ (Sl 1 9 (some ⟨g1,0,none⟩) 4 4 _) _) (by simp;exact hj4) ?_
  refine o_ (br jj rfl hj4) ?_
  rw[Nat.zero_add]
  refine dN (by(repeat constructor):Pick _ (Sl 1 3 (some ⟨g2,0,none⟩) 4 4 _) _) (by simp;exact hj4) ?_
  refine o_ (br jj rfl hj4) ?_
  rw[Nat.zero_add]
  refine dN (by(repeat constructor):Pick _ (Sl 1 3 (some ⟨g3,0,none⟩) 4 4 _) _) (by simp;exact hj4) ?_
  rw[QU (b:=now) (l:=ag),QV (d:=eQ i) (l:=ag),QW (d:=eQ i) (b:=now)]
  unfold Mq
  refine be (by(repeat constructor):Pick _ (Sl 4 42 _ _ 1 _) _) (by decide) fun G hG=>?_
  rw[hG]
  (try dsimp only)
  refine aV (ay (eA 0 rfl (by decide)) .nil ?_)
  refine aq ?_
  refine ay ae .nil ?_;(((refine' ay (bF ?hc) ?hi ?_);(case hi=>exact aA);(case hc=>rfl)))
  refine t_ (br jj rfl hj4) ?_
  rw[Nat.zero_add]
  refine' aP (bF (v:=az (eQ i)) ?hcv) ?hiv ?_
  case hiv=>(repeat(first|exact .refl|exact .nil|(apply Imp.pick;(focus ((repeat constructor);done)))|refine .drop ?_))
  case hcv=>exact(qP hj4).trans (by simp[tL])
  refine' aj (C0 (W:=W) (a:=ag) (D:=eQ i) ag0 (by omega) (by omega)) ?hp fun rb=>?_
  case hp=>exact .nil
  refine aq ?_
  (repeat((refine' cU (aI ?hcs) ?_);(case hcs=>(repeat(first|exact .refl|exact .nil|(apply Imp.pick;(focus ((repeat constructor);done)))|refine .drop ?_)))))
  obtain⟨⟨P,hP1⟩,hP2,hP3⟩:=vt (a:=ag) (D:=eQ i) ag0 ag9 hb9.1 hb9.2
  refine vu (by(repeat constructor):Pick _ (GT rb _) _) (by simp[Jw,QL,nH]) fun hrb hrc=>?_
  refine' aj (yq (X:=Dv ag (eQ i).length) (Y:=sX ag) (v:=v) (w:=w) (gn:=gn) (j:=j) (k:=k) (c:=c) (ap:=y.a) (lgx:=lg) (n:=i) (ca:=ca) (T:=4000) (p:=p) (st:=st) (kk:=0) (s:=⟨w,gn,.slice a.1 1 a.2,.slice z.l.1 1 z.l.2,1,pE ca,pC lg,.slice none 0 0⟩) (cn:=cn.inp c now (tK jj) (H2,R,f,y)) (id:=cn.nu) (now:=now) (us:=0) (nm:=[99]) (t:=tK jj) (O_:=[]) (pth:=tK jj) (f:=y.f) (f0:=f) (bb:=y.g) (pa:=pa) (r:=y.r) (o:=(none,0)) (m:=m) (q:=q) (y:=z) (si:=now) (Z:=(dL Z (cO (tK jj)) fH now).S) hP2 hrb hrc (qO hzo) hP1 hP3 (wO (by omega) (by omega) (vr ag0 ag9 hb9.1 hb9.2) htg (by omega) (.inr rfl)) rfl rfl rfl rfl hout (Nat.zero_le _) (by omega) rfl rfl rfl rfl rfl (by omega) (by decide) (by decide)) ?hp fun zr=>?_
  case hp=>(repeat(first|exact Picks.nil|(apply Picks.cons;(focus repeat constructor))))
  refine aq ?_
  (try dsimp only)
  refine c_ rg fun _=>?_
  (((refine t_ (Sl.cE ?hcq) ?_);(case hcq=>(first|omega|(simp only[List.length_nil,List.length_cons];omega)))));refine af ?_
  obtain⟨⟨Z2,hZ2⟩,yo,yr⟩:=zr
  (try dsimp only)
  have hgd:Gd ag (eQ i) now now:=⟨ag0,ag9,hb9.1,hb9.2,by omega,Int.le_refl _,by omega⟩
  have hup:tL xs jj ⟨eQ i,now,ag⟩ jj=⟨eQ i,now,ag⟩:=if_pos rfl
  refine n9 (.ex ((⟨z.l,z.x,1,(cn.inp c now (tK jj) (H2,R,f,y)).wrote (iy (sX ag) (eQ i)).length (yo,yr),H2,jq,yr,Z2,tL xs jj ⟨eQ i,now,ag⟩,i+1,now,pC R⟩:TZ),yo,sX ag) (.all (.pu ⟨rfl,rfl,rfl,rfl,?_,?_,?_,?_,?_⟩ ?_)))
  ·show _=Value.slice yo.1 (iy (sX ag) (tL xs jj ⟨eQ i,now,ag⟩ jj).d).length yo.2
   rw[hup];rfl
  ·show f2 (sX ag) (tL xs jj ⟨eQ i,now,ag⟩ jj).d.length=true
   rw[hup];exact vr ag0 ag9 hb9.1 hb9.2
  ·show 5<=(tL xs jj ⟨eQ i,now,ag⟩ jj).d.length
   rw[hup];exact hb9.1
  ·show(tL xs jj ⟨eQ i,now,ag⟩ jj).d.length<8
   rw[hup];exact hb9.2
  ·exact⟨hi6,hn0,(by show now<=t0+3 * ((i+1:Nat):Int);omega),Nat.le_refl _,(fun h=>by cases h),Da hcn (by omega),hZ2.1,(vn hZ2).trans (hL.bo.trans hzb),QX hzo hL hs hZ2 hki hj4 hgd,rfl,fun j=>by
    show t0<=(tL xs jj ⟨eQ i,now,ag⟩ j).b/\(tL xs jj ⟨eQ i,now,ag⟩ j).b<=now
    unfold tL
    by_cases h:j=jj
    ·rw[if_pos h];exact⟨hn0,Int.le_refl _⟩
    ·rw[if_neg h];exact hb0 j⟩
  ·unfold JC Ms
   (try dsimp only)
   rw[hup]
   exact aA
 clear hki hb0 hkz hcn hout hzo hzb
 unfold jL JC Ms
 refine aq ?_
 intro ds2
 refine bt .here fun yy=>aE .here ?_
 refine aq ?_
 refine aX .here fun hz=>?_
 obtain⟨⟨l,x,kk,cn,H,js,r,Z,xs,i2,now2,rr⟩,o,X⟩:=yy
 (try dsimp only at *)
 obtain⟨rfl,rfl,rfl,hsi,hout,hf2,hd5,hd8,hz⟩:=hz
 obtain rfl:cn.rr=rr:=hz.rr
 have hcn:CnOk cn.flu c H r now2 (i+1):=hz.cn
 have hzo:CsOk 4000 Z:=hz.zo
 have hzb:Z.bound=(st:Int):=hz.zb
 refine' aj (QT (v:=v) (k:=k) (c:=c) (a:=a) (nm:=[99]) (o:=o) (q:=cn) ?h1 ?h2 ?h3 hout) ?hp fun _=>?_
 case hp=>(repeat(first|exact Picks.nil|(apply Picks.cons;(focus repeat constructor))))
 case h1=>rfl
 case h2=>exact hcn.nx
 case h3=>exact hcn.rd
 refine aq ?_
 refine bI ?_;refine bI ?_;refine bI ?_
 obtain⟨PA,hPA⟩:=GY (X:=X) (D:=(xs jj).d) hf2 (by omega) (by omega)
 refine GZ (by(repeat constructor):Pick _ (mS o _) _) (by simp[iy];omega) fun hro hrc2=>?_
 refine' aj (QM hro hrc2 hPA) ?hp fun on=>?_
 case hp=>(repeat(first|exact Picks.nil|(apply Picks.cons;(focus repeat constructor))))
 obtain⟨fx,fd,tl⟩:=on
 refine aq ?_
 (try dsimp only)
 refine bI ?_;refine bI ?_;refine bI ?_;refine aS fun g=>?_
 refine mI (n:=3) (vs:=ir (GV X (xs jj).d.length) (xs jj).d fx fd) (cs':=ir (GV X (xs jj).d.length) (xs jj).d fx fd) (by repeat constructor) rfl (Nat.le_of_ble_eq_true rfl) (by simp[Value.oneCell',ir]) rfl ?_
 unfold ir
 (try dsimp only)
 refine aV (t_ bA (ab (ab (t_ aK (ab ?_)))));(((refine t_ (Sl.cE ?hcq) ?_);(case hcq=>(first|omega|(simp only[List.length_nil,List.length_cons];omega)))));refine t_ am (ab (t_ ae (ab (cu ?_))));refine ab ?_;(((refine t_ (Sl.cE ?hcq) ?_);(case hcq=>(first|omega|(simp only[List.length_nil,List.length_cons];omega)))));refine t_ am (ab (t_ ae (ab (cu ?_))));refine ab (aP (sL (e:=5) (cap:=fd.2) (l:=(xs jj).d)) aA ?_)
 refine ab (ab (ab (t_ (br jj rfl hj4) ?_)))
 rw[Nat.zero_add]
 refine ab ?_
 refine' aP (bF (v:=az (xs jj).d) ?hcv) ?hiv ?_
 case hiv=>(repeat(first|exact .refl|exact .nil|(apply Imp.pick;(focus ((repeat constructor);done)))|refine .drop ?_))
 case hcv=>exact qP hj4
 refine ab ?_;(((refine' aP (Sl.pW ?hcq) .nil ?_);(case hcq=>(intro hh;exact hh (by first|rfl|assumption)))));refine t_ am (ab (ab (ab ?_)))
 have hle:=hzo.le
 refine' aj (E1 (v:=v) (ca:=ca) (Z:=Z) ?h1) ?hp fun _=>?_
 case hp=>(repeat(first|exact Picks.nil|(apply Picks.cons;(focus repeat constructor))))
 case h1=>rfl
 refine aq ?_
 refine ab ?_;(((refine t_ (Sl.bZ ?hcq) ?_);(case hcq=>(first|omega|(simp only[List.length_nil,List.length_cons];omega)))));refine t_ am (af (o_ aK ?_))
 rcases Nat.lt_or_ge i l2.length with h2i|h2i
 ·(((refine o_ (Sl.ce ?hcq) ?_);(case hcq=>(first|omega|(simp only[List.length_nil,List.length_cons];omega)))));refine ai ?_
  obtain⟨ga2,oa2,rfl,_⟩:=rd2.at_ (by omega)
  refine o_ (br i rfl h2i) ?_
  refine aB (dI rd2 (xq h2i)) (.pu trivial .nil) ?_
  obtain⟨q2,hq2⟩:∃q,q=l2[i]:=⟨_,rfl⟩
  have u2: -4<q2.tmod 4/\q2.tmod 4<4:=⟨Int.lt_tmod_of_pos _ (by decide),Int.tmod_lt_of_pos _ (by decide)⟩
  obtain⟨b5,b6⟩:=FH (n:=q2) (k:=4) (by decide)
  rw[<- hq2]
  refine o_ (jX (by decide)) ?_
  refine bS ?_
  refine o_ (jX (by decide)) ?_
  rw[show(q2.tmod 4+4).tmod 4=md q2 4 from rfl]
  refine bS ?_
  refine' aj (QI (v:=v) (w:=w) (x:=x) (k:=k) (c:=c) (gn:=gn) (s:=⟨w,gn,.slice a.1 1 a.2,.slice l.1 1 l.2,((1:Nat):Int),pE ca,pC lg,.slice none 0 0⟩) (l:=l) (a:=a) (cn:=cn.flu) (nm:=[99]) (now:=now2) (d:=md q2 4) (rr:=r) (r:=(⟨0,false,.pointer none,.pointer none,0,0,.pointer none⟩:Ln)) rfl rfl rfl rfl hcn.nx hcn.rd hcn.row (by omega) b5 ?h1 (by omega) ?h2 hcn.si0 ?h3 ?h4) ?hp fun _=>?_
  case hp=>(repeat(first|exact Picks.nil|(apply Picks.cons;(focus repeat constructor))))
  case h1=>have:=hcn.ck;omega
  case h2=>rw[hcn.ke];decide
  case h3=>have:=hcn.si1;omega
  case h4=>rw[hcn.ke];have:=hcn.si2;omega
  refine aq ?_
  refine bS ?_
  refine bX (m:=mm) (mm-1) (by omega) ?_
  refine .ex (⟨l,x,1,{cn.flu with ck:=now2+md q2 4},H,js,r,Z,xs,i+1,now2+md q2 4,cn.rr⟩:TZ) (.all (.pu ⟨by show mm-1+(i+1)=60;omega,congrArg (Value.int .i64) (by show now2-t0+md q2 4=now2+md q2 4-t0;omega),rfl,rfl,G4 hz hi6 hn1 b5 (by omega) rfl (FJ hcn b5 (by omega) hsi)⟩ ?_))
  exact aA
 ·(((refine o_ (Sl.bJ ?hcq) ?_);(case hcq=>(first|omega|(simp only[List.length_nil,List.length_cons];omega)))));refine af ?_;refine bS ?_
  refine bX (m:=mm) (mm-1) (by omega) ?_
  refine .ex (⟨l,x,1,cn.flu,H,js,r,Z,xs,i+1,now2+0,cn.rr⟩:TZ) (.all (.pu ⟨by show mm-1+(i+1)=60;omega,congrArg (Value.int .i64) (by show now2-t0=now2+0-t0;omega),rfl,rfl,G4 hz hi6 hn1 (Int.le_refl _) (by decide) rfl (by rw[Int.add_zero];exact hcn)⟩ ?_))
  rw[Int.add_zero]
  exact aA
end Go.Proofs.YtdjkdjepjahjfaaGreatDoor.TP
namespace Go.Proofs.YtdjkdjepjahjfaaGreatDoor.FD
open Go Go.Proofs Go.RowKit Go.ChangeShapes Sh Sl T
theorem lW {H : Type} {enc : TypeId × Value → H} {C : Checked} {os : Os} {f : FuncId} {fn : Func} {s : OpenSpec} {conds : List PathCond} {apart : Bool} {laid : List (String × DataW Unit)} (modest : Bool) (w0 : World) (args : Array Value) (hos : w0.os = os)
  (hsh : (w0.forCall (fun _ _ => 0) ⟨#[], args, []⟩).Shaped C.prog)
  (hok : Input.okWideB C.prog (w0.forCall (fun _ _ => 0) ⟨#[], args, []⟩) f ⟨#[], args, []⟩ = true)
  (hrow : s.preRow enc C.prog fn conds apart laid (w0.forCall (fun _ _ => 0) ⟨#[], args, []⟩).memory args) :
  ∃ (w : World) (tape : Tape) (i : Input), w.os = os ∧ (w.forCall tape i).Shaped C.prog ∧ i.vars = [] ∧ Input.okWide C.prog (w.forCall tape i) .any w.heap.size f i ∧
   s.preRow enc C.prog fn conds apart laid (w.forCall tape i).memory i.args ∧ ({ modest := modest } : Assume).holds C.prog (lone (Frame.enter C.prog f i.args .normal) [] (w.forCall tape i)) :=
 ⟨w0, fun _ _ => 0, ⟨#[], args, []⟩, hos, hsh, (Input.okWide_of_okWideB (base := 0) hok).1, (Input.okWide_of_okWideB hok).2, hrow, by
  simp only [Assume.holds]
  exact ⟨by simp, by simp, fun _ => Modest.zero, by simp, by simp⟩⟩
theorem tE {P:Program}{W:World}{n:String}{d:DataW Unit}:∀ {l:List (String × DataW Unit)} {ps:List MemPlace},DataW.LaidVars P W l ps->(n,d)∈l->
  ∃g t cs fuel p,P.globalNamed n=some g/\(P.globals[g]?).map (·.type)=some t/\W.var? P n=some cs/\DataW.trod (fun _=>()) P W 0 (fun _=>true) false fuel t cs.toList=some (d,p)
 |[],_,_,h=>by cases h
 |(n',d')::r,ps,h,hm=>by
  obtain⟨g,t,cs,fuel,p,q,h1,h2,h3,h4,h5,_⟩:=h
  rcases List.mem_cons.1 hm with e|hm
  ·obtain⟨rfl,rfl⟩:=Prod.mk.inj e
   exact⟨g,t,cs,fuel,p,h1,h2,h3,h4⟩
  ·exact tE h5 hm
theorem vv {α β:Type}{f:α->Option β}:∀ {l:List α} {ys:List β},l.mapM f=some ys->ys.length=l.length/\∀(i:Nat) (a:α),l[i]? =some a->∃y,ys[i]? =some y/\f a=some y
 |[],ys,h=>by
  simp at h
  subst h
  exact⟨rfl,fun i a hi=>by simp at hi⟩
 |a::l,ys,h=>by
  rw[List.mapM_cons]at h
  cases ha:f a with
  |none=>rw[ha]at h;cases h
  |some y=>
   cases hl:l.mapM f with
   |none=>rw[ha,hl]at h;cases h
   |some zs=>
    rw[ha,hl]at h
    have h:some (y::zs)=some ys:=h
    obtain rfl:=Option.some.inj h
    obtain⟨h1,h2⟩:=vv hl
    refine⟨by rw[List.length_cons,List.length_cons,h1],fun i b hi=>?_⟩
    cases i with
    |zero=>exact⟨y,rfl,by rw[<- ha];congr 1;simpa using hi.symm⟩
    |succ i=>exact h2 i b (by simpa using hi)
theorem Dc {P:Program}{H:Type}{enc:TypeId × Value->H}{W:World}{sp:Nat->Bool}{held:Bool}{t e:TypeId}{n fuel:Nat}{cs:List Value}{x:DataW H × List MemPlace}(ht:P.underlying t=some (.array n e))(hce:P.cellsOf e=1)(h:DataW.trod enc P W 0 sp held fuel t cs=some x):
  ∃(xs:List (DataW H × List MemPlace)) (m:Nat),x.1= .agg (xs.map (·.1))/\xs.length=n/\∀i,i<n->∃y,xs[i]? =some y/\DataW.trod enc P W 0 sp held m e ((cs.drop i).take 1)=some y:=by
 cases fuel with
 |zero=>simp[DataW.trod]at h
 |succ m=>
  unfold DataW.trod at h
  rw[ht]at h
  simp only[hce,Nat.mul_one]at h
  split at h
  ·cases hm:(List.range n).mapM fun i=>DataW.trod enc P W 0 sp held m e ((cs.drop i).take 1)with
   |none=>rw[hm]at h;cases h
   |some xs=>
    rw[hm]at h
    have h:=Option.some.inj h
    obtain⟨h1,h2⟩:=vv hm
    refine⟨xs,m,by rw[<- h],by rw[h1,List.length_range],fun i hi=>h2 i i (List.getElem?_range hi)⟩
  ·cases h
theorem QY {W:World}{l:List (String × DataW Unit)}(h:laidMet p_ l W)(hm:("internal/strconv.uint64pow10",Rows.laid_internal_strconv_uint64pow10)∈l):Gp W:=by
 obtain⟨ps,hv,_,_⟩:=h
 obtain⟨g,t,cs,fuel,p,h1,h2,h3,h4⟩:=tE hv hm
 obtain rfl:=Option.some.inj ((show p_.globalNamed "internal/strconv.uint64pow10" =some 0 by kernel_rfl).symm.trans h1)
 obtain rfl:=Option.some.inj ((show(p_.globals[0]?).map (·.type)=some 483 by kernel_rfl).symm.trans h2)
 obtain⟨xs,m,hx,hl,hf⟩:=Dc (n:=20) (e:=374) (by kernel_rfl) (by kernel_rfl) h4
 have key:∀j,j<20->cs[j]? =some (.int .u64 ((10^j:Nat):Int)):=by
  intro j hj
  obtain⟨y,hy,hyt⟩:=hf j hj
  have hlt:∃c,(cs.toList.drop j).take 1=[c]:=by
   cases hd:(cs.toList.drop j).take 1 with
   |nil=>rw[hd]at hyt;cases m <;> simp[DataW.trod]at hyt <;> (split at hyt <;> simp_all)
   |cons c r=>
    have:((cs.toList.drop j).take 1).length<=1:=by rw[List.length_take];omega
    rw[hd]at this
    simp at this
    subst this
    exact⟨c,rfl⟩
  obtain⟨c,hc⟩:=hlt
  rw[hc]at hyt
  obtain⟨n,h0,hx0,_⟩:=DataW.trod_int (by kernel_rfl:p_.underlying 374=some (.int .u64)) hyt
  have hcj:cs[j]? =some c:=by
   have:=congrArg (fun l=>l[0]?) hc
   simpa using this
  have hya:(xs.map (·.1))[j]? =some (.lit (.int .u64 n)):=by rw[List.getElem?_map,hy];simp only[Option.map_some];rw[(Prod.mk.inj hx0).1]
  have hlist:xs.map (·.1)=(List.range 20).map fun j=>(.lit (.int .u64 ((10^j:Nat):Int)):DataW Unit):=by
   have:(DataW.agg (xs.map (·.1)))= .agg ((List.range 20).map fun j=>(.lit (.int .u64 ((10^j:Nat):Int)):DataW Unit)):=by rw[<- hx];rfl
   injection this
  rw[hlist,List.getElem?_map,List.getElem?_range hj]at hya
  simp only[Option.map_some,Option.some.injEq,DataW.lit.injEq,Lit.int.injEq,true_and]at hya
  rw[hcj,hya]
  have:c= .int .u64 n:=by injection h0
  rw[this]
 have hc:=fun j=>World.var?_cell h1 h3 j
 refine⟨?_,fun j hj=>?_⟩
 ·have h0:=hc 0
  rw[key 0 (by decide)]at h0
  unfold World.cell? at h0
  rcases Nat.lt_or_ge 0 W.heap.size with c|c
  ·exact c
  ·rw[Array.getElem?_eq_none c]at h0;cases h0
 ·rw[hc j,key j hj]
theorem QZ {W:World}{l:List (String × DataW Unit)}(h:laidMet p_ l W)(hm:("strconv.ErrRange",Rows.laid_strconv_ErrRange)∈l):Gl W:=by
 obtain⟨ps,hv,_,_⟩:=h
 obtain⟨g,t,cs,fuel,p,h1,h2,h3,h4⟩:=tE hv hm
 obtain rfl:=Option.some.inj ((show p_.globalNamed "strconv.ErrRange" =some 5 by kernel_rfl).symm.trans h1)
 obtain rfl:=Option.some.inj ((show(p_.globals[5]?).map (·.type)=some 462 by kernel_rfl).symm.trans h2)
 obtain⟨f1,u,v,hcs,_,_⟩:=iface_of_trod Tryz.underlying462 h4
 have hc:=World.var?_cell h1 h3 0
 have hc0:cs[0]? =some (.iface u v):=by
  rw[<- Array.getElem?_toList,hcs];rfl
 rw[hc0]at hc
 refine⟨?_,u,v,hc⟩
 unfold World.cell? at hc
 rcases Nat.lt_or_ge 5 W.heap.size with c|c
 ·exact c
 ·rw[Array.getElem?_eq_none c]at hc;cases hc
end Go.Proofs.YtdjkdjepjahjfaaGreatDoor.FD
