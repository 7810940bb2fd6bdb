/- A symbol is put: the program's way and the document's. No conditions but those that each names. (20 texts made one; each says below what it is.) -/
import Derived.Test.YtndojgomlkpeaaaGreatDoorK4
import Derived.Lib.AppendZeros
set_option linter.unusedVariables false
set_option linter.unusedSimpArgs false
set_option linter.unusedSectionVars false
namespace Go.Proofs.YtndojgomlkpeaaaGreatDoor
namespace HF
open Go Go.Proofs Go.RowKit Sh Sl T HM B M
def sym (cs ls:List Int)(s:Int):Option (Int × Nat):=
 if s<0 then none else match cs[s.toNat]?,ls[s.toNat]? with
 |some c,some n=>if 1<=n/\n<=15/\0<=c/\c<2^n.toNat then some (c,n.toNat)else none
 |_,_=>none
def TZ (cs ls:List Int)(s:Int)(L:List Bool):Int:=match sym cs ls s with
 |some p=>w4 L (rv p.1 p.2) p.2
 |none=>1
def QR (cs ls:List Int)(s:Int)(L:List Bool):List Bool:=match sym cs ls s with
 |some p=>w5 L (rv p.1 p.2) p.2
 |none=>L
theorem EE {cs ls:List Int}{N:Nat}(h1:N<cs.length)(h2:N<ls.length):sym cs ls N=if 1<=ls[N]/\ls[N]<=15/\0<=cs[N]/\cs[N]<2^ls[N].toNat then some (cs[N],ls[N].toNat)else none:=by
 unfold sym
 rw[if_neg (by omega),Int.toNat_natCast,List.getElem?_eq_getElem h1,List.getElem?_eq_getElem h2]
theorem vI {cs ls:List Int}{s:Int}(h:s<0\/(cs.length:Int)<=s\/(ls.length:Int)<=s):sym cs ls s=none:=by
 unfold sym
 by_cases h0:s<0
 ·rw[if_pos h0]
 ·rw[if_neg h0]
  rcases h with h|h|h
  ·exact absurd h h0
  ·rw[List.getElem?_eq_none (by omega)]
  ·rw[List.getElem?_eq_none (l:=ls) (by omega)]
   cases cs[s.toNat]? <;> rfl
theorem LV {n:Nat}(h:n<=15):lim (n:Int)=n:=by unfold lim;rw[if_neg (by omega)];simp
section
variable {W:World} {A A2:HP} {a1 a2:Option Addr} {c1 c2:Nat} {cs ls:List Int} {s:Int}
theorem Ja {p:Nat}{L:List Bool}(h1:RdB W A a1 cs.length (cs.map I))(h2:RdB W A2 a2 ls.length (ls.map I)):
  Cn p_ 228 [.pointer (some ⟨p,0,none⟩),.slice a1 cs.length c1,.slice a2 ls.length c2,.int .i64 s] W [jn p L,A,A2] (fun _:Unit=> .int .i64 (TZ cs ls s L)) (fun _=>[jn p (QR cs ls s L),A,A2]):=by
 (refine S.Ek.cn fun F=>?_;unfold S.Cs;simp only[ca_,na_])
 have bad:sym cs ls s=none->be W (jn p L::A::A2::F) (fun w=>∃x:Unit,(Value.int .i64 1)= .int .i64 (TZ cs ls s L)/\sat W ([jn p (QR cs ls s L),A,A2]++F) w):=fun hn=>by
  refine bf () (by unfold TZ;rw[hn]) ?_
  unfold QR
  rw[hn]
  exact .refl
 refine aF aI .nil (fun h=>?_) (fun h=>?_)
 ·(refine aA ?_);refine aA ?_;refine aA ?_;refine aA ?_;refine aA ?_;refine aA ?_;refine aA ?_;refine o_ aq ?_;refine ab ?_
  exact bad (vI (.inl h))
 have h0:=h
 refine ag (ag (ag (o_ aN (ag (ag (o_ aN (ag (o_ vX (ag (aF dg .nil (fun h=>?_) (fun h=>?_)))))))))))
 ·(refine o_ ap ?_);refine ab ?_
  exact bad (vI (by split at h <;> omega))
 obtain⟨N,rfl⟩:=Int.eq_ofNat_of_zero_le (show 0<=s by omega)
 have hN1:N<cs.length:=by split at h <;> omega
 have hN2:N<ls.length:=by split at h <;> omega
 have hsym:=EE hN1 hN2
 obtain⟨g1,o1,rfl,_⟩:=h1.at_ (by omega)
 obtain⟨g2,o2,rfl,_⟩:=h2.at_ (by omega)
 obtain⟨c,hc⟩:∃c,c=cs[N]:=⟨_,rfl⟩
 obtain⟨n,hn⟩:∃n,n=ls[N]:=⟨_,rfl⟩
 have g1':=gB hN1
 have g2':=gB hN2
 rw[<- hc]at hsym g1'
 rw[<- hn]at hsym g2'
 refine o_ ap (aa (bM (t_ (bA N (by rfl) hN1) ?_)))
 refine jB (cX h1 g1') ?_
 refine t_ (bA N (by rfl) hN2) ?_
 refine jB (cX h2 g2') ?_
 refine aF aI .nil (fun h=>?_) (fun h=>?_)
 ·(refine aA ?_);refine aA ?_;refine o_ aq ?_;refine aA ?_;refine aA ?_;refine o_ aq ?_;refine aA ?_;refine aA ?_;refine aA ?_;refine aA ?_;refine aA ?_;refine o_ aq ?_;refine ab ?_
  exact bad (by rw[hsym,if_neg (by omega)])
 have i1:=h
 refine ag (ag (aF bq .nil (fun h=>?_) (fun h=>?_)))
 ·(refine o_ ap ?_);refine aA ?_;refine aA ?_;refine o_ aq ?_;refine aA ?_;refine aA ?_;refine aA ?_;refine aA ?_;refine aA ?_;refine o_ aq ?_;refine ab ?_
  exact bad (by rw[hsym,if_neg (by omega)])
 have i2:=h
 refine o_ ap (ag (ag (aF aI .nil (fun h=>?_) (fun h=>?_))))
 ·(refine o_ ap ?_);refine aA ?_;refine aA ?_;refine aA ?_;refine aA ?_;refine aA ?_;refine o_ aq ?_;refine ab ?_
  exact bad (by rw[hsym,if_neg (by omega)])
 have i3:=h
 obtain⟨m,rfl⟩:=Int.eq_ofNat_of_zero_le (show 0<=n by omega)
 rw[Int.toNat_natCast]at hsym
 refine o_ ap (ag (ag (ag (o_ bO ?_))))
 rw[iN (by omega) (by omega)]
 refine ag (o_ (me (by omega)) ?_)
 rw[FG (by omega) (by omega) (by omega),Int.one_mul]
 have e2:((2^m:Nat):Int)=(2:Int)^m:=Int.natCast_pow 2 m
 rw[e2]
 refine ag (aF dg .nil (fun h=>?_) (fun h=>?_))
 ·(refine o_ ap ?_);refine ab ?_
  exact bad (by rw[hsym,if_neg (fun c=>by have:=c.2.2.2;omega)])
 have hs:sym cs ls N=some (c,m):=by rw[hsym,if_pos ⟨by omega,by omega,by omega,by omega⟩]
 refine o_ ap (aa (c_ reverse fun _=>?_))
 rw[LV (show m<=15 by omega)]
 refine c_ put fun _=>?_
 refine bf () (by unfold TZ;rw[hs]) ?_
 unfold QR
 rw[hs]
 exact aC
end
end HF
namespace B
open Go Sl M
theorem nX:∀(l:List Bool) (i:Nat),(val l).testBit i=l.getD i false
 |[],i=>by simp[val]
 |b::l,0=>by
  rw[Nat.testBit_zero]
  cases b <;> simp[val] <;> omega
 |b::l,i+1=>by
  have:val (b::l) / 2=val l:=by cases b <;> simp[val] <;> omega
  rw[Nat.testBit_succ,this,nX l i];simp
theorem NF (L:List Bool):ub (pk L)=dv L:=by
 have hl:(ub (pk L)).length=(dv L).length:=by rw[bV,fd,dU]
 apply List.ext_getElem?
 intro i
 by_cases h:i / 8<(pk L).length
 ·rw[EA h]
  have h2:(pk L)[i / 8]=UInt8.ofNat (du L (i / 8)):=by simp[pk,HN]
  rw[h2,UInt8.toNat_ofNat',Nat.mod_eq_of_lt (tM _ _)]
  unfold du
  rw[nX]
  have h3:i<(dv L).length:=by rw[dU];rw[fd]at h;omega
  rw[List.getD_eq_getElem?_getD,List.getElem?_take,if_pos (by omega),List.getElem?_drop,show 8 * (i / 8)+i%8=i by omega]
  rw[dU]at h3
  unfold dv
  by_cases c:i<L.length
  ·rw[List.getElem?_append_left c,List.getElem?_eq_getElem c];rfl
  ·rw[List.getElem?_eq_none (by omega),List.getElem?_append_right (by omega),List.getElem?_replicate,if_pos (by omega)];rfl
 ·have h1:(ub (pk L)).length<=i:=by rw[bV];omega
  rw[List.getElem?_eq_none h1,List.getElem?_eq_none (by rw[<- hl];exact h1)]
end B
namespace HF
open Go Go.Proofs Go.RowKit Sh Sl HM B M
theorem EF:∀x:List Bool,aG (val x) x.length=x:=fun x=>by
 apply List.ext_getElem?
 intro j
 by_cases h:j<x.length
 ·rw[List.getElem?_eq_getElem h]
  unfold aG
  rw[List.getElem?_map,List.getElem?_range h,Option.map_some,nX,List.getD_eq_getElem?_getD,List.getElem?_eq_getElem h];rfl
 ·rw[List.getElem?_eq_none (by rw[au];omega),List.getElem?_eq_none (by omega)]
theorem Hd (c:Int)(n:Nat):aG (rv c n) n=(bl c n).reverse:=by
 have:=EF (bl c n).reverse
 rw[List.length_reverse,oK]at this
 exact this
theorem O8 {c n k:Nat}(h:k<n):(aG (rv (c:Int) n) n)[k]? =some (decide (c / 2^(n-1-k)%2=1)):=by
 rw[Hd,List.getElem?_reverse (by rw[oK];exact h),oK]
 unfold bl
 rw[List.getElem?_map,List.getElem?_range (by omega),Option.map_some]
 unfold G8
 congr 1
 refine decide_eq_decide.2 ?_
 have e:(2:Int)^(n-1-k)=((2^(n-1-k):Nat):Int):=(Int.natCast_pow 2 _).symm
 rw[e]
 constructor
 ·intro h;exact_mod_cast h
 ·intro h;exact_mod_cast h
theorem R9 {l:List Int}(hok:okL l){N n:Nat}(hN:N<l.length)(hln:l[N]=(n:Int))(h1:1<=n):fL l (n:Int) (bQ l N:Int) l.length=some N:=by
 cases h:fL l (n:Int) (bQ l N:Int) l.length with
 |none=>exact absurd ⟨by omega,by rw[List.getElem?_eq_getElem hN,hln],rfl⟩ (FH h N hN)
 |some j=>
  obtain⟨h1',h2,h3,h4⟩:=nV h
  rw[List.getElem?_eq_getElem h1']at h3
  by_cases c:j=N
  ·rw[c]
  ·have:=apart h1' hN c (Option.some.inj h3) hln h1 (Nat.le_refl n)
   rw[Nat.sub_self,Nat.pow_zero,Nat.div_one]at this
   exact absurd (by exact_mod_cast h4.symm) this
theorem He {l:List Int}(hok:okL l){N n a:Nat}(hN:N<l.length)(hln:l[N]=(n:Int))(h1:1<=a)(ha:a<n):fL l (a:Int) ((bQ l N / 2^(n-a):Nat):Int) l.length=none:=by
 cases h:fL l (a:Int) ((bQ l N / 2^(n-a):Nat):Int) l.length with
 |none=>rfl
 |some j=>
  obtain⟨h1',h2,h3,h4⟩:=nV h
  rw[List.getElem?_eq_getElem h1']at h3
  have h3:=Option.some.inj h3
  have:=apart h1' hN (fun c=>by subst c;omega) h3 hln h1 (by omega)
  exact absurd (by exact_mod_cast h4.symm) this
theorem UN (c d:Nat):2 * (c / 2^(d+1))+c / 2^d%2=c / 2^d:=by
 rw[Nat.pow_succ,<- Nat.div_div_eq_div_mul];omega
theorem CI {l:List Int} {b:List UInt8} {at_ N n:Nat} (hok:okL l) (hN:N<l.length) (hln:l[N]=(n:Int)) (h1:1<=n) (h15:n<=15)
  (hu:∀k,k<n->(ub b)[at_+k]? =some (decide (bQ l N / 2^(n-1-k)%2=1))):∀d k,k+(d+1)=n->CH l b (15-k) k (bQ l N / 2^(d+1)) (at_+k)=((N:Int),0,at_+n)
 |d,k,hk=>by
  have hb:=hu k (by omega)
  rw[show n-1-k=d by omega]at hb
  have hlt:at_+k<8 * b.length:=by
   rw[<- bV]
   rcases Nat.lt_or_ge (at_+k) (ub b).length with h|h
   ·exact h
   ·rw[List.getElem?_eq_none h]at hb;cases hb
  have hR:cD b (at_+k) 1=0:=by unfold cD;rw[if_neg (by omega),if_neg (by omega)]
  have hT:bK b (at_+k) 1=(decide (bQ l N / 2^d%2=1)).toNat:=by
   unfold bK
   rw[if_pos hR]
   have:=CB (L:=ub b) (at_:=at_+k) (k:=0) (b:=decide (bQ l N / 2^d%2=1)) hb
   rw[CC]at this
   simpa using this
  have hT2:bK b (at_+k) 1=bQ l N / 2^d%2:=by
   rw[hT]
   rcases Nat.mod_two_eq_zero_or_one (bQ l N / 2^d)with e|e <;> simp[e]
  have hA:aY b (at_+k) 1=at_+k+1:=by unfold aY;rw[if_pos hR];rfl
  rw[show 15-k=(14-k)+1 by omega,CH,if_pos hR,hT2,UN,hA]
  match d,hk with
  |0,hk=>
   have hf:=R9 hok hN hln h1
   rw[Nat.pow_zero,Nat.div_one,show k+1=n by omega,hf]
   simp only
   rw[show at_+k+1=at_+n by omega]
  |d+1,hk=>
   have hf:=He hok hN hln (a:=k+1) (by omega) (by omega)
   rw[show n-(k+1)=d+1 by omega]at hf
   rw[hf]
   simp only
   have ih:=CI hok hN hln h1 h15 hu d (k+1) (by omega)
   rw[show 14-k=15-(k+1) by omega,Nat.add_assoc]
   exact ih
def cw (l:List Int)(s:Int):List Bool:=match sym (dY l) l s with
 |some p=>aG (rv p.1 p.2) p.2
 |none=>[]
theorem xe {l:List Int}{b:List UInt8}{at_:Nat}{s:Int}{p:Int × Nat}{rest:List Bool}(hok:okL l)(hs:sym (dY l) l s=some p)(hu:(ub b).drop at_=cw l s++rest):fG l b at_=(s,0,at_+(cw l s).length):=by
 have h0:¬s<0:=fun c=>by rw[vI (.inl c)]at hs;cases hs
 obtain⟨N,rfl⟩:=Int.eq_ofNat_of_zero_le (show 0<=s by omega)
 have hN:N<l.length:=by
  rcases Nat.lt_or_ge N l.length with c|c
  ·exact c
  ·rw[vI (.inr (.inr (by omega)))]at hs;cases hs
 have hNc:N<(dY l).length:=by rw[gK];exact hN
 have hs2:=EE hNc hN
 rw[hs2]at hs
 by_cases hc:1<=l[N]/\l[N]<=15/\0<=(dY l)[N]/\(dY l)[N]<2^l[N].toNat
 ·rw[if_pos hc]at hs
  have hp:=Option.some.inj hs
  obtain⟨n,hn⟩:=Int.eq_ofNat_of_zero_le (show 0<=l[N] by omega)
  have hcode:(dY l)[N]=(bQ l N:Int):=by simp[dY]
  have hcw:cw l N=aG (rv (bQ l N:Int) n) n:=by
   unfold cw
   rw[hs2,if_pos hc,hcode,hn,Int.toNat_natCast]
  have hl:(cw l N).length=n:=by rw[hcw,au]
  have hpos:pos l:=⟨l[N],List.getElem_mem hN,by omega⟩
  have hlt:bQ l N<2^n:=by
   rw[jO hN hn (by omega)]
   exact hok.cur_lt' hN hn (by omega) (by omega)
  unfold fG
  rw[if_pos hpos,hl]
  have:=CI hok hN hn (by omega) (by omega) (b:=b) (at_:=at_) (fun k hk=>by
   have e:((ub b).drop at_)[k]? =some (decide (bQ l N / 2^(n-1-k)%2=1)):=by
    rw[hu,List.getElem?_append_left (by rw[hl];exact hk),hcw,O8 hk]
   rwa [List.getElem?_drop]at e) (n-1) 0 (by omega)
  rw[show n-1+1=n by omega,Nat.div_eq_of_lt hlt]at this
  exact this
 ·rw[if_neg hc]at hs;cases hs
end HF
namespace IF
open Go Go.Proofs Go.RowKit HM HF B M
structure Pc where
 len:Nat
 dist:Nat
 c:UInt8
def lit (p:Pc):Prop:=p.len=0/\p.dist=0
def R_ (n:Nat)(p:Pc):Prop:=lit p\/(3<=p.len/\p.len<=258/\1<=p.dist/\p.dist<=32768/\p.dist<=n/\p.c=0)
def jf (out:List UInt8)(p:Pc):List UInt8:=if p.len=0 then out++[p.c]else eM out p.dist p.len
theorem CJ (out:List UInt8)(p:Pc):(jf out p).length=out.length+max 1 p.len:=by
 unfold jf
 split
 ·rename_i h;rw[h];simp
 ·rw[lE];omega
def EG:List UInt8->List Pc->Prop
 |_,[]=>True
 |out,p::r=>R_ out.length p/\EG (jf out p) r
def mH (base:Int->Int × Int)(n:Int)(first:Int):Nat->Int × Int × Int
 |0=>(-1,0,0)
 |k+1=>if(base (first+k)).1<=n then(first+k,(base (first+k)).2,n-(base (first+k)).1)else mH base n first k
def jg (n:Int):Int × Int × Int:=if 258<n then(-1,0,0)else mH bL n 257 29
def iO (n:Int):Int × Int × Int:=if 32768<n then(-1,0,0)else mH bD n 0 30
theorem xf {base:Int->Int × Int}{n first:Int}:∀(k:Nat),(∃j:Nat,j<k/\(base (first+j)).1<=n)->∃j:Nat,j<k/\mH base n first k=(first+j,(base (first+j)).2,n-(base (first+j)).1)/\(base (first+j)).1<=n/\(j+1<k->n<(base (first+(j+1:Nat))).1)
 |0,h=>by obtain⟨j,hj,_⟩:=h;omega
 |k+1,h=>by
  unfold mH
  by_cases c:(base (first+k)).1<=n
  ·rw[if_pos c]
   exact⟨k,by omega,rfl,c,fun h=>by omega⟩
  ·rw[if_neg c]
   obtain⟨j,hj,hb⟩:=h
   have hjk:j<k:=by
    rcases Nat.lt_or_ge j k with d|d
    ·exact d
    ·exact absurd (by rw[show k=j by omega];exact hb) c
   obtain⟨i,h1,h2,h3,h4⟩:=xf k ⟨j,hjk,hb⟩
   refine⟨i,by omega,h2,h3,fun h=>?_⟩
   by_cases d:i+1<k
   ·exact h4 d
   ·rw[show i+1=k by omega];omega
theorem Jb:∀j:Fin 28,(bL (257+(j.1:Nat))).1+((2^(bL (257+(j.1:Nat))).2.toNat:Nat):Int) ≥ (bL (257+((j.1+1:Nat):Int))).1/\0<=(bL (257+(j.1:Nat))).2/\(bL (257+(j.1:Nat))).2<=5/\0<(bL (257+(j.1:Nat))).1:=by decide
theorem Jc:∀j:Fin 29,(bD (0+(j.1:Nat))).1+((2^(bD (0+(j.1:Nat))).2.toNat:Nat):Int) ≥ (bD (0+((j.1+1:Nat):Int))).1/\0<=(bD (0+(j.1:Nat))).2/\(bD (0+(j.1:Nat))).2<=13/\0<(bD (0+(j.1:Nat))).1:=by decide
theorem sg {n:Int}(h1:3<=n)(h2:n<=258):∃(s:Nat) (e k:Nat),jg n=((s:Int),(k:Int),(e:Int))/\257<=s/\s<=285/\(bL s).1+e=n/\(bL s).2=k/\e<2^k/\k<=5/\0<(bL s).1:=by
 unfold jg
 rw[if_neg (by omega)]
 obtain⟨j,hj,e1,e2,e3⟩:=xf (base:=bL) (n:=n) (first:=257) 29 ⟨0,by omega,by rw[show bL (257+((0:Nat):Int))=(3,0)from rfl];exact h1⟩
 rw[e1]
 have es:(257:Int)+(j:Int)=((257+j:Nat):Int):=by omega
 rcases Nat.lt_or_ge j 28 with c|c
 ·obtain⟨s1,s2,s3,s4⟩:=Jb ⟨j,c⟩
  have e4:=e3 (by omega)
  simp only at s1 s2 s3 s4
  obtain⟨k,hk⟩:=Int.eq_ofNat_of_zero_le s2
  obtain⟨e,he⟩:=Int.eq_ofNat_of_zero_le (show 0<=n-(bL (257+(j:Int))).1 by omega)
  rw[hk,Int.toNat_natCast]at s1
  refine⟨257+j,e,k,by rw[he,hk,es],by omega,by omega,by rw[<- es];omega,by rw[<- es,hk],?_,by omega,by rw[<- es];exact s4⟩
  have:(e:Int)<((2^k:Nat):Int):=by omega
  exact Int.ofNat_lt.1 this
 ·have hj8:j=28:=by omega
  subst hj8
  have hb:bL (257+((28:Nat):Int))=(258,0):=rfl
  rw[hb]at e2 ⊢
  refine⟨285,0,0,?_,by omega,by omega,?_,rfl,by decide,by omega,by decide⟩
  ·simp only at e2;rw[show n-258=0 by omega];rfl
  ·show(258:Int)+0=n
   simp only at e2;omega
theorem si {n:Int}(h1:1<=n)(h2:n<=32768):∃(s:Nat) (e k:Nat),iO n=((s:Int),(k:Int),(e:Int))/\s<=29/\(bD s).1+e=n/\(bD s).2=k/\e<2^k/\k<=13/\0<(bD s).1:=by
 unfold iO
 rw[if_neg (by omega)]
 obtain⟨j,hj,e1,e2,e3⟩:=xf (base:=bD) (n:=n) (first:=0) 30 ⟨0,by omega,by rw[show bD (0+((0:Nat):Int))=(1,0)from rfl];exact h1⟩
 rw[e1]
 have es:(0:Int)+(j:Int)=((j:Nat):Int):=by omega
 rcases Nat.lt_or_ge j 29 with c|c
 ·obtain⟨s1,s2,s3,s4⟩:=Jc ⟨j,c⟩
  have e4:=e3 (by omega)
  simp only at s1 s2 s3 s4
  obtain⟨k,hk⟩:=Int.eq_ofNat_of_zero_le s2
  obtain⟨e,he⟩:=Int.eq_ofNat_of_zero_le (show 0<=n-(bD (0+(j:Int))).1 by omega)
  rw[hk,Int.toNat_natCast]at s1
  refine⟨j,e,k,by rw[he,hk,es],by omega,by rw[<- es];omega,by rw[<- es,hk],?_,by omega,by rw[<- es];exact s4⟩
  have:(e:Int)<((2^k:Nat):Int):=by omega
  exact Int.ofNat_lt.1 this
 ·have hj8:j=29:=by omega
  subst hj8
  have hb:bD (0+((29:Nat):Int))=(24577,13):=rfl
  rw[hb]at e2 ⊢
  simp only at e2
  obtain⟨e,he⟩:=Int.eq_ofNat_of_zero_le (show 0<=n-24577 by omega)
  refine⟨29,e,13,by rw[he];rfl,by omega,?_,rfl,?_,by omega,by decide⟩
  ·show(24577:Int)+e=n
   omega
  ·have:(2:Nat)^13=8192:=rfl
   omega
def qp (la lb:List Int)(p:Pc):List Bool:=if p.len=0 then cw la p.c.toNat else
 (cw la (jg p.len).1++aG (jg p.len).2.2.toNat (jg p.len).2.1.toNat)++(cw lb (iO p.dist).1++aG (iO p.dist).2.2.toNat (iO p.dist).2.1.toNat)
def j7 (l:List Int)(s:Int):Prop:=∃p,sym (dY l) l s=some p
def tO (la lb:List Int)(p:Pc):Prop:=if p.len=0 then j7 la p.c.toNat else j7 la (jg p.len).1/\j7 lb (iO p.dist).1
theorem AY {cs ls:List Int}{s:Int}{p:Int × Nat}(h:sym cs ls s=some p):1<=p.2/\p.2<=15:=by
 unfold sym at h
 split at h
 ·cases h
 ·split at h
  ·rename_i c n _ _
   by_cases hc:1<=n/\n<=15/\0<=c/\c<2^n.toNat
   ·rw[if_pos hc]at h
    have hp:=Option.some.inj h
    rw[<- hp]
    simp only
    omega
   ·rw[if_neg hc]at h;cases h
  ·cases h
theorem AZ {l:List Int}{s:Int}(h:j7 l s):1<=(cw l s).length/\(cw l s).length<=15:=by
 obtain⟨p,hp⟩:=h
 unfold cw
 rw[hp]
 simp only[au]
 exact AY hp
theorem cR {L X Y:List Bool}{a:Nat}(h:L.drop a=X++Y):L.drop (a+X.length)=Y:=by
 rw[<- List.drop_drop,h,List.drop_left]
theorem cA {b:List UInt8}{at_:Nat}{X Y:List Bool}(hat:at_<=8 * b.length)(h:(ub b).drop at_=X++Y):at_+X.length<=8 * b.length:=by
 have hl:=congrArg List.length h
 rw[List.length_drop,bV,List.length_append]at hl
 omega
theorem dI {b:List UInt8}{at_ e k:Nat}{Y:List Bool}(hk:k<=32)(he:e<2^k)(hat:at_<=8 * b.length)(h:(ub b).drop at_=aG e k++Y):cD b at_ k=0/\bK b at_ k=e/\aY b at_ k=at_+k:=by
 have hl:=cA hat h
 rw[au]at hl
 have hr:cD b at_ k=0:=by
  unfold cD
  rw[if_neg (by omega),if_neg (by omega)]
 refine⟨hr,?_,?_⟩
 ·unfold bK
  rw[if_pos hr,Int.toNat_natCast]
  unfold KY
  rw[h,List.take_left' (au _ _),qn,Nat.mod_eq_of_lt he]
 ·unfold aY
  rw[if_pos hr,Int.toNat_natCast]
theorem Hf {la lb:List Int} {b out:List UInt8} {most:Int} {at_:Nat} {p:Pc} {Y:List Bool} (ha:okL la) (hb:okL lb) (hp:R_ out.length p) (hc:tO la lb p) (hm:((out.length+max 1 p.len:Nat):Int)<=most)
  (hat:at_<=8 * b.length) (h:(ub b).drop at_=qp la lb p++Y):iw la lb b most at_ out= .ok (false,at_+(qp la lb p).length,jf out p):=by
 unfold qp jf at *
 unfold tO at hc
 by_cases h0:p.len=0
 ·rw[if_pos h0]at h hc ⊢
  rw[if_pos h0]
  obtain⟨q,hq⟩:=hc
  have hx:=xe ha hq h
  have h256:p.c.toNat<256:=p.c.toNat_lt
  unfold iw
  simp only
  rw[hx]
  simp only
  rw[if_neg (fun c=>c rfl),if_neg (by omega),if_pos (by omega),if_neg (by omega)]
  congr 3
  simp
 ·rw[if_neg h0]at h hc ⊢
  rw[if_neg h0]
  rcases hp with hl|⟨c1,c2,c3,c4,c5,c6⟩
  ·exact absurd hl.1 h0
  obtain⟨s,e,k,hs,hs1,hs2,hbase,hbits,hlt,hk5,hb0⟩:=sg (n:=(p.len:Int)) (by omega) (by omega)
  obtain⟨t,e',k',ht,ht1,hbase',hbits',hlt',hk13,hb0'⟩:=si (n:=(p.dist:Int)) (by omega) (by omega)
  obtain⟨⟨q,hq⟩,⟨q',hq'⟩⟩:=hc
  rw[hs]at h hq ⊢
  rw[ht]at h hq' ⊢
  simp only[Int.toNat_natCast]at h hq hq' ⊢
  simp only[List.append_assoc]at h
  have hx:=xe ha hq h
  have hat1:=cA hat h
  have d1:=cR h
  obtain⟨r1,r2,r3⟩:=dI (by omega) hlt hat1 d1
  have hat2:=cA hat1 d1
  have d2:=cR d1
  rw[au]at d2 hat2
  have hy:=xe hb hq' d2
  have hat3:=cA hat2 d2
  have d3:=cR d2
  obtain⟨r4,r5,r6⟩:=dI (by omega) hlt' hat3 d3
  have hpos:(out.length:Int)+p.len<=most:=by
   have:max 1 p.len=p.len:=by omega
   rw[this]at hm
   push_cast at hm
   exact hm
  unfold iw
  simp only
  rw[hx]
  simp only
  rw[if_neg (fun c=>c rfl),if_neg (by omega),if_neg (by omega),if_neg (by omega),hbits,r1,if_neg (fun c=>c rfl),r3,hy]
  simp only
  rw[if_neg (fun c=>c rfl),if_neg (by omega),hbits',r4,if_neg (fun c=>c rfl),r5,r2,hbase',hbase,if_neg (by omega),if_neg (by omega),r6]
  congr 3
  simp only[List.length_append,au]
  omega
theorem CK {la lb:List Int}{b:List UInt8}{most:Int}(ha:okL la)(hb:okL lb)(h256:j7 la 256):∀(ps:List Pc) (f:Nat) {out:List UInt8} {at_:Nat} {Y:List Bool},EG out ps->(∀p∈ps,tO la lb p)->((ps.foldl jf out).length:Int)<=most->
  at_<=8 * b.length->(ub b).drop at_=ps.flatMap (qp la lb)++(cw la 256++Y)->ps.length<f->nW la lb b most f at_ out= .ok (at_+(ps.flatMap (qp la lb)).length+(cw la 256).length,ps.foldl jf out)
 |[],f,out,at_,Y,_,_,_,hat,h,hf=>by
  obtain⟨f,rfl⟩:∃f',f=f'+1:=⟨f-1,by omega⟩
  obtain⟨q,hq⟩:=h256
  rw[List.flatMap_nil,List.nil_append]at h
  have hx:=xe ha hq h
  have hr:iw la lb b most at_ out= .ok (true,at_+(cw la 256).length,out):=by
   unfold iw
   simp only
   rw[hx]
   simp only
   rw[if_neg (fun c=>c rfl),if_pos trivial]
  rw[nW,hr]
  simp
 |p::ps,f,out,at_,Y,hok,hhas,hm,hat,h,hf=>by
  obtain⟨f,rfl⟩:∃f',f=f'+1:=⟨f-1,by omega⟩
  have hmono:∀(qs:List Pc) (o:List UInt8),o.length<=(qs.foldl jf o).length:=by
   intro qs
   induction qs with
   |nil=>intro o;exact Nat.le_refl _
   |cons q qs ih=>
    intro o
    have:=ih (jf o q)
    rw[CJ]at this
    rw[List.foldl_cons]
    omega
  have hm1:=hmono ps (jf out p)
  rw[CJ]at hm1
  rw[List.foldl_cons]at hm ⊢
  rw[List.flatMap_cons,List.append_assoc]at h
  have hr:=Hf (most:=most) ha hb hok.1 (hhas p (by simp)) (by omega) hat h
  rw[nW,hr]
  simp only
  rw[CK ha hb h256 ps f hok.2 (fun q hq=>hhas q (by simp[hq])) hm (cA hat h) (cR h) (by simp at hf;omega)]
  rw[List.flatMap_cons,List.length_append]
  congr 2
  omega
theorem Jd {la lb:List Int}{p:Pc}(h:tO la lb p):1<=(qp la lb p).length:=by
 unfold tO at h
 unfold qp
 by_cases h0:p.len=0
 ·rw[if_pos h0]at h ⊢
  exact(AZ h).1
 ·rw[if_neg h0]at h ⊢
  have:=(AZ h.1).1
  simp only[List.length_append]
  omega
theorem CL {la lb:List Int}:∀ {ps:List Pc},(∀p∈ps,tO la lb p)->ps.length<=(ps.flatMap (qp la lb)).length
 |[],_=>Nat.le_refl _
 |p::ps,h=>by
  have:=CL (ps:=ps) fun q hq=>h q (by simp[hq])
  have:=Jd (h p (by simp))
  rw[List.flatMap_cons,List.length_append,List.length_cons]
  omega
theorem Je {la lb:List Int} {b:List UInt8} {most:Int} {ps:List Pc} {out:List UInt8} {at_:Nat} {Y:List Bool} (ha:okL la) (hb:okL lb) (h256:j7 la 256) (hok:EG out ps) (hhas:∀p∈ps,tO la lb p) (hm:((ps.foldl jf out).length:Int)<=most)
  (hat:at_<=8 * b.length) (h:(ub b).drop at_=ps.flatMap (qp la lb)++(cw la 256++Y)):mS la lb b most at_ out= .ok (at_+(ps.flatMap (qp la lb)).length+(cw la 256).length,ps.foldl jf out):=by
 unfold mS
 refine CK ha hb h256 ps _ hok hhas hm hat h ?_
 have h1:=CL hhas
 have h2:=cA hat h
 have h3:=cA h2 (cR h)
 have h4:=(AZ h256).1
 omega
end IF
namespace IF
open Go Go.Proofs Go.RowKit Sh Sl T HM HF B M
theorem NG {W:World} {f:FuncId} {base:Int->Int × Int} {n first:Int} {N:Nat} (hf:∀s:Int,first<=s->s<first+N->Cn p_ f [.int .i64 s] W [] (fun _:Unit=> .tuple #[.int .i64 (base s).1,.int .i64 (base s).2]) (fun _=>[]))
  (h1: -1000000<=first/\first<=1000000) (hN:0<N/\N<=1000) (hn: -9223372036854000000<=n/\n<=9223372036854000000) (hb:∀s:Int,first<=s->s<first+N->0<=(base s).1/\(base s).1<=100000):
  Cn p_ 237 [.int .i64 n,.int .i64 first,.int .i64 (first+N-1),fn f] W [] (fun _:Unit=> .tuple #[.int .i64 (mH base n first N).1,.int .i64 (mH base n first N).2.1,.int .i64 (mH base n first N).2.2]) (fun _=>[]):=by
 (refine S.GK.cn fun F=>?_;unfold S.Fo;simp only[ca_,na_])
 refine bj (fun m y=>(ex fun k:Nat=>pu (m=k/\k<=N/\y= .int .i64 (first+k-1)/\mH base n first N=mH base n first k))::F) N ?_ ?_
 ·exact .ex N (.pu ⟨rfl,Nat.le_refl _,rfl,rfl⟩ .refl)
 intro m ds y
 refine aX .here fun k=>aT .here fun hk=>?_
 obtain⟨rfl,hkN,rfl,hl⟩:=hk
 refine aF dg .nil (fun h=>?_) (fun h=>?_)
 ·obtain⟨j,rfl⟩:∃j,m=j+1:=⟨m-1,by omega⟩
  have hs:first+((j+1:Nat):Int)-1=first+(j:Int):=by push_cast;omega
  have hbb:=hb (first+j) (by omega) (by omega)
  rw[hs]
  refine ab (aH (hf (first+j) (by omega) (by omega)) .nil fun _=>?_)
  refine ay ?_
  refine o_ (bJ (vs:=[_,_]) .here) ?_
  refine o_ (bJ (vs:=[_,_]) (.there .here)) ?_
  refine aF dX .nil (fun h2=>?_) (fun h2=>?_)
  ·rw[hl,mH,if_pos h2]
   refine ab (fI ?_)
   refine bC () ?_
   exact .refl
  ·refine aa (fI ?_)
   refine aP j (by omega) (.ex j (.pu ⟨rfl,by omega,rfl,by rw[hl,mH,if_neg h2]⟩ ?_))
   exact .refl
 ·have hm0:m=0:=by omega
  subst hm0
  rw[hl]
  refine aa (bC () ?_)
  exact .refl
theorem UO:∀j:Fin 29,0<=(bL (257+(j.1:Nat))).1/\(bL (257+(j.1:Nat))).1<=100000:=by decide
theorem UP:∀j:Fin 30,0<=(bD (0+(j.1:Nat))).1/\(bD (0+(j.1:Nat))).1<=100000:=by decide
theorem Jf {W:World}{n:Int}(hn: -9223372036854000000<=n):Cn p_ 224 [.int .i64 n] W [] (fun _:Unit=> .tuple #[.int .i64 (jg n).1,.int .i64 (jg n).2.1,.int .i64 (jg n).2.2]) (fun _=>[]):=by
 unfold jg
 (refine S.Cr.cn fun F=>?_;unfold S.zl;simp only[ca_,na_])
 refine aF bq .nil (fun h=>?_) (fun h=>?_)
 ·rw[if_pos h]
  refine ab (bC () ?_)
  exact .refl
 ·rw[if_neg h]
  refine aa ?_
  refine aH (NG (base:=bL) (n:=n) (first:=257) (N:=29) (fun s h1 h2=>w_ (by omega)) (by omega) (by omega) (by omega) (fun s h1 h2=>by
   obtain⟨j,hj⟩:=Int.eq_ofNat_of_zero_le (show 0<=s-257 by omega)
   have:=UO ⟨j,by omega⟩
   simp only at this
   rw[show s=257+(j:Int) by omega]
   exact this)) .nil fun _=>?_
  refine ay ?_
  refine o_ (bJ (vs:=[_,_,_]) .here) ?_
  refine o_ (bJ (vs:=[_,_,_]) (.there .here)) ?_
  refine o_ (bJ (vs:=[_,_,_]) (.there (.there .here))) ?_
  refine bC () ?_
  exact .refl
theorem EH {W:World}{n:Int}(hn: -9223372036854000000<=n):Cn p_ 225 [.int .i64 n] W [] (fun _:Unit=> .tuple #[.int .i64 (iO n).1,.int .i64 (iO n).2.1,.int .i64 (iO n).2.2]) (fun _=>[]):=by
 unfold iO
 (refine S.yK.cn fun F=>?_;unfold S.uL;simp only[ca_,na_])
 refine aF bq .nil (fun h=>?_) (fun h=>?_)
 ·rw[if_pos h]
  refine ab (bC () ?_)
  exact .refl
 ·rw[if_neg h]
  refine aa ?_
  refine aH (NG (base:=bD) (n:=n) (first:=0) (N:=30) (fun s h1 h2=>sd) (by omega) (by omega) (by omega) (fun s h1 h2=>by
   obtain⟨j,hj⟩:=Int.eq_ofNat_of_zero_le (show 0<=s by omega)
   have:=UP ⟨j,by omega⟩
   simp only at this
   rw[show s=0+(j:Int) by omega]
   exact this)) .nil fun _=>?_
  refine ay ?_
  refine o_ (bJ (vs:=[_,_,_]) .here) ?_
  refine o_ (bJ (vs:=[_,_,_]) (.there .here)) ?_
  refine o_ (bJ (vs:=[_,_,_]) (.there (.there .here))) ?_
  refine bC () ?_
  exact .refl
structure Pz where
 len:Int
 dist:Int
 c:UInt8
def NH (p:Pz):Value:= .agg #[I p.len,I p.dist,Sl.B p.c]
def qq (p:Pz):List Value:=[I p.len,I p.dist,Sl.B p.c]
theorem Jg {l:List Pz}{i:Nat}(h:i<l.length):∀j,j<3->(l.flatMap qq)[i * 3+j]? =(qq l[i])[j]? :=fun j hj=>gA (f:=qq) (s:=3) (fun _=>rfl) l i j h hj
end IF
namespace IF
open Go Go.Proofs Go.RowKit HM HF B M
def Hg (b:List UInt8)(i j:Nat):Nat->Nat->Nat
 |0,n=>n
 |f+1,n=>if n<258/\j+n<b.length/\b[i+n]? =b[j+n]? then Hg b i j f (n+1)else n
def ec (b:List UInt8)(i j:Nat):Nat:=Hg b i j 259 0
theorem CM (b:List UInt8)(i j:Nat):∀f n,n+f=259->(∀k,k<n->j+k<b.length/\b[i+k]? =b[j+k]?)->n<=258->n<=Hg b i j f n/\Hg b i j f n<=258/\(∀k,k<Hg b i j f n->j+k<b.length/\b[i+k]? =b[j+k]?)
  /\¬(Hg b i j f n<258/\j+Hg b i j f n<b.length/\b[i+Hg b i j f n]? =b[j+Hg b i j f n]?)
 |0,n,h,_,h3=>by omega
 |f+1,n,h,h2,h3=>by
  unfold Hg
  by_cases c:n<258/\j+n<b.length/\b[i+n]? =b[j+n]?
  ·rw[if_pos c]
   obtain⟨e1,e2,e3,e4⟩:=CM b i j f (n+1) (by omega) (fun k hk=>by
    rcases Nat.lt_or_ge k n with d|d
    ·exact h2 k d
    ·rw[show k=n by omega];exact c.2) (by omega)
   exact⟨by omega,e2,e3,e4⟩
  ·rw[if_neg c]
   exact⟨Nat.le_refl _,h3,h2,c⟩
theorem l8 (b:List UInt8)(i j:Nat):ec b i j<=258/\(∀k,k<ec b i j->j+k<b.length/\b[i+k]? =b[j+k]?)/\¬(ec b i j<258/\j+ec b i j<b.length/\b[i+ec b i j]? =b[j+ec b i j]?):=by
 have:=CM b i j 259 0 rfl (fun k hk=>by omega) (by omega)
 exact⟨this.2.1,this.2.2.1,this.2.2.2⟩
def qA (b:List UInt8)(i:Nat):UInt8 × UInt8 × UInt8:=(b.getD i 0,b.getD (i+1) 0,b.getD (i+2) 0)
theorem A0 {b:List UInt8}{i:Nat}(h:i+3<=b.length):qA b i=(b[i],b[i+1],b[i+2]):=by
 unfold qA
 simp only[List.getD_eq_getElem?_getD]
 rw[List.getElem?_eq_getElem (by omega),List.getElem?_eq_getElem (by omega),List.getElem?_eq_getElem (by omega)];rfl
theorem Jh {b:List UInt8}{i j:Nat}(hij:i<j)(hj:j+3<=b.length):3<=ec b i j↔qA b i=qA b j:=by
 obtain⟨e1,e2,e3⟩:=l8 b i j
 rw[A0 (by omega),A0 hj]
 constructor
 ·intro h
  have a0:=(e2 0 (by omega)).2
  have a1:=(e2 1 (by omega)).2
  have a2:=(e2 2 (by omega)).2
  rw[List.getElem?_eq_getElem (by omega),List.getElem?_eq_getElem (by omega)]at a0 a1 a2
  have b0:=Option.some.inj a0
  have b1:=Option.some.inj a1
  have b2:=Option.some.inj a2
  simp only[Nat.add_zero]at b0
  rw[b0,b1,b2]
 ·intro h
  have h1:=congrArg Prod.fst h
  have h2:=congrArg (fun x=>x.2.1) h
  have h3:=congrArg (fun x=>x.2.2) h
  simp only at h1 h2 h3
  rcases Nat.lt_or_ge (ec b i j) 3 with c|c
  ·exfalso
   refine e3 ⟨by omega,by omega,?_⟩
   rw[List.getElem?_eq_getElem (by omega),List.getElem?_eq_getElem (by omega)]
   congr 1
   rcases(show ec b i j=0\/ec b i j=1\/ec b i j=2 by omega)with d|d|d <;> simp only[d,Nat.add_zero] <;> assumption
  ·exact c
theorem CN {b:List UInt8}{i j:Nat}(hj:b.length<j+3):ec b i j<3:=by
 obtain⟨e1,e2,e3⟩:=l8 b i j
 rcases Nat.lt_or_ge (ec b i j) 3 with c|c
 ·exact c
 ·have:=(e2 2 (by omega)).1;omega
def NJ (j i n:Nat)(p:Pz):Pz:=if p.len<(n:Int)then⟨n,(j:Int)-i,0⟩else p
def KZ (b:List UInt8)(j w:Nat):Nat->Nat->Pz->Pz
 |0,_,p=>p
 |i+1,d,p=>if w<j-i\/d=0 then p else if ec b i j<3 then KZ b j w i d p else KZ b j w i (d-1) (NJ j i (ec b i j) p)
def fJ (b:List UInt8)(w d j:Nat):Pz:=KZ b j w j d ⟨0,0,b.getD j 0⟩
def ym (w j:Nat):List Nat->Nat->List Nat
 |[],_=>[]
 |_::_,0=>[]
 |i::r,d+1=>if w<j-i then []else i::ym w j r d
def xg (b:List UInt8)(m:Nat)(k:UInt8 × UInt8 × UInt8):List Nat:=(List.range m).filter fun i=>decide (qA b i=k)
theorem nY (b:List UInt8)(m:Nat)(k:UInt8 × UInt8 × UInt8):xg b (m+1) k=if qA b m=k then xg b m k++[m]else xg b m k:=by
 unfold xg
 rw[List.range_succ,List.filter_append]
 by_cases c:qA b m=k
 ·rw[if_pos c];simp[c]
 ·rw[if_neg c];simp[c]
theorem A1 {b:List UInt8}{m:Nat}{k:UInt8 × UInt8 × UInt8}{i:Nat}(h:i∈xg b m k):i<m:=by
 unfold xg at h
 exact List.mem_range.1 (List.mem_filter.1 h).1
theorem FK (b:List UInt8)(m:Nat)(k:UInt8 × UInt8 × UInt8):(xg b m k).length<=m:=by
 unfold xg
 exact Nat.le_trans (List.length_filter_le _ _) (by simp)
theorem LW {w j:Nat}:∀ {l:List Nat} {d:Nat},(∀i∈l,w<j-i)->ym w j l d=[]
 |[],_,_=>by simp[ym]
 |i::r,0,_=>by simp[ym]
 |i::r,d+1,h=>by rw[ym,if_pos (h i (by simp))]
theorem Ji {w j:Nat}:∀ {l:List Nat},ym w j l 0=[]
 |[]=>by simp[ym]
 |i::r=>by simp[ym]
theorem A3 {b:List UInt8}{j w:Nat}(hj:j+3<=b.length):∀(m d:Nat) (p:Pz),m<=j->KZ b j w m d p=(ym w j (xg b m (qA b j)).reverse d).foldl (fun p i=>NJ j i (ec b i j) p) p
 |0,d,p,_=>by simp[KZ,xg,ym]
 |m+1,d,p,hm=>by
  rw[KZ,nY]
  by_cases c:w<j-m\/d=0
  ·rw[if_pos c]
   rcases c with c|c
   ·rw[LW]
    ·rfl
    ·intro i hi
     rw[List.mem_reverse]at hi
     split at hi
     ·rcases List.mem_append.1 hi with h|h
      ·have:=A1 h;omega
      ·rw[List.mem_singleton.1 h];exact c
     ·have:=A1 hi;omega
   ·rw[c,Ji];rfl
  ·rw[if_neg c]
   by_cases t:qA b m=qA b j
   ·have h3:=(Jh (i:=m) (by omega) hj).2 t
    rw[if_neg (by omega),if_pos t,List.reverse_append]
    obtain⟨d,rfl⟩:∃d',d=d'+1:=⟨d-1,by omega⟩
    simp only[List.reverse_cons,List.reverse_nil,List.nil_append,List.singleton_append]
    rw[ym,if_neg (fun h=>c (.inl h)),List.foldl_cons,Nat.add_sub_cancel]
    exact A3 hj m d _ (by omega)
   ·have h3:¬3<=ec b m j:=fun h=>t ((Jh (i:=m) (by omega) hj).1 h)
    rw[if_pos (by omega),if_neg t]
    exact A3 hj m d p (by omega)
theorem zr {b:List UInt8}{j w:Nat}(hj:b.length<j+3):∀(m d:Nat) (p:Pz),KZ b j w m d p=p
 |0,d,p=>rfl
 |m+1,d,p=>by
  rw[KZ,if_pos (CN hj)]
  split
  ·rfl
  ·exact zr hj m d p
def gP (b:List UInt8)(j:Nat)(p:Pz):Prop:=(p.len=0/\p.dist=0/\p.c=b.getD j 0)\/∃n d:Nat,p.len=n/\p.dist=d/\p.c=0/\3<=n/\n<=258/\1<=d/\d<=32768/\d<=j/\∀k,k<n->j+k<b.length/\b[j-d+k]? =b[j+k]?
theorem O9 {b:List UInt8}{j i w:Nat}{p:Pz}(hw:w<=32768)(hi:i<j)(hiw:¬w<j-i)(h3:¬ec b i j<3)(h:gP b j p):gP b j (NJ j i (ec b i j) p):=by
 unfold NJ
 by_cases c:p.len<(ec b i j:Int)
 ·rw[if_pos c]
  obtain⟨e1,e2,e3⟩:=l8 b i j
  refine .inr ⟨ec b i j,j-i,rfl,by simp only;omega,rfl,by omega,e1,by omega,by omega,by omega,fun k hk=>?_⟩
  rw[show j-(j-i)=i by omega]
  exact e2 k hk
 ·rw[if_neg c];exact h
theorem EI {b:List UInt8}{j w:Nat}(hw:w<=32768):∀(m d:Nat) (p:Pz),m<=j->gP b j p->gP b j (KZ b j w m d p)
 |0,d,p,_,h=>h
 |m+1,d,p,hm,h=>by
  rw[KZ]
  split
  ·exact h
  ·rename_i c
   split
   ·exact EI hw m d p (by omega) h
   ·rename_i c3
    exact EI hw m _ _ (by omega) (O9 hw (by omega) (fun x=>c (.inl x)) c3 h)
theorem xi {b:List UInt8}{j w d:Nat}(hw:w<=32768):gP b j (fJ b w d j):=EI hw j d _ (Nat.le_refl _) (.inl ⟨rfl,rfl,rfl⟩)
def gT (p:Pz):Nat:=max 1 p.len.toNat
theorem sj (p:Pz):1<=gT p:=by unfold gT;omega
theorem tP {b:List UInt8}{j:Nat}{p:Pz}(h:gP b j p)(hj:j<b.length):j+gT p<=b.length/\gT p<=258/\(gT p:Int)=(if p.len<1 then 1 else p.len):=by
 unfold gT
 rcases h with ⟨h1,_⟩|⟨n,d,h1,_,_,h3,h4,_,_,_,h5⟩
 ·rw[h1];simp;omega
 ·rw[h1,Int.toNat_natCast]
  have:=(h5 (n-1) (by omega)).1
  refine⟨by omega,by omega,?_⟩
  split <;> omega
def LX (b:List UInt8)(w d:Nat):Nat->Nat->List Pz
 |0,_=>[]
 |f+1,j=>if j<b.length then fJ b w d j::LX b w d f (j+gT (fJ b w d j))else []
def oM (b:List UInt8)(w d:Nat):List Pz:=LX b w d (b.length+1) 0
theorem LY {b:List UInt8}{w d:Nat}{f j:Nat}(h:b.length<=j):LX b w d f j=[]:=by
 cases f with
 |zero=>rfl
 |succ f=>rw[LX,if_neg (by omega)]
end IF
namespace IF
open Go Go.Proofs Go.RowKit Sh Sl T HM HF B M
def gL:List Int->Int
 |[]=>0
 |x::l=>(if 0<x then 1 else 0)+gL l
def jh:List Int->Int
 |[]=>0
 |x::l=>(if 0<x then x else 0)+jh l
theorem kB:∀l m:List Int,gL (l++m)=gL l+gL m
 |[],m=>by simp[gL]
 |x::l,m=>by simp only[List.cons_append,gL,kB l m];omega
theorem kC:∀l m:List Int,jh (l++m)=jh l+jh m
 |[],m=>by simp[jh]
 |x::l,m=>by simp only[List.cons_append,jh,kC l m];omega
theorem Jj:∀l:List Int,0<=gL l/\gL l<=l.length
 |[]=>by simp[gL]
 |x::l=>by
  have:=Jj l
  simp only[gL,List.length_cons]
  split <;> omega
theorem Jk {B:Int}:∀l:List Int,(∀x∈l,x<=B)->0<=B->0<=jh l/\jh l<=B * l.length
 |[],_,_=>by simp[jh]
 |x::l,h,hB=>by
  have:=Jk l (fun y hy=>h y (.tail _ hy)) hB
  have hx:=h x (.head _)
  simp only[jh,List.length_cons]
  have e:B * ((l.length+1:Nat):Int)=B * l.length+B:=by rw[Int.natCast_add,Int.mul_add];simp
  rw[e]
  generalize B * (l.length:Int)=E at this ⊢
  split <;> omega
def cS (l:List Int):Bool:=decide (gL l=0)||(decide (gL l=1)&&decide (jh l=1))||kz l
theorem Jl {W:World}{a:Option Addr}{cap:Nat}{l:List Int}{A:HP}(hr:RdB W A a l.length (l.map I))(hl:l.length<=1048576)(hb:∀x∈l,x<=1048576):
  Cn p_ 181 [.slice a l.length cap] W [A] (fun _:Unit=> .bool (cS l)) (fun _=>[A]):=by
 (refine S.tD.cn fun F=>?_;unfold S.nG;simp only[ca_,na_])
 refine o_ aN (oD (fun m x y z=>[ex fun i:Nat=>pu (m+i=l.length/\x= .int .i64 (gL (l.take i))/\y= .int .i64 (jh (l.take i))/\z= .int .i64 (i:Int)),A]++F) l.length ?_ ?_)
 ·refine .ex 0 ?_
  exact .pu ⟨by omega,rfl,rfl,rfl⟩ .refl
 intro m ds x y z
 refine ay ?_
 refine aX Pick.here fun i=>aT Pick.here fun hi=>?_
 obtain⟨hmi,rfl,rfl,rfl⟩:=hi
 have c1:=Jj (l.take i)
 have c2:=Jk (B:=1048576) (l.take i) (fun x hx=>hb x (List.mem_of_mem_take hx)) (by omega)
 rw[List.length_take]at c1 c2
 refine aF aI .nil (fun h=>?_) (fun h=>?_)
 ·have hil:i<l.length:=by omega
  obtain⟨g,o,rfl,_⟩:=hr.at_ (by omega)
  have hx:=hb l[i] (List.getElem_mem hil)
  have t1:l.take (i+1)=l.take i++[l[i]]:=by rw[List.take_add_one,List.getElem?_eq_getElem hil];rfl
  refine ab (o_ (bA i (by rfl) hil) ?_)
  refine cm (cX hr (v:=I l[i]) (gB hil)) ?_
  unfold I
  refine aF bq .nil (fun h=>?_) (fun h=>?_)
  ·have s1:gL (l.take (i+1))=gL (l.take i)+1:=by rw[t1,kB];simp only[gL];rw[if_pos (by omega)];omega
   have s2:jh (l.take (i+1))=jh (l.take i)+l[i]:=by rw[t1,kC];simp only[jh];rw[if_pos (by omega)];omega
   refine ab (bW ?_);refine bW ?_;refine bW ?_
   refine dD (m-1) (by omega) (.ex (i+1) (.pu ⟨by omega,by rw[s1],by rw[s2],rfl⟩ ?_))
   exact .refl
  ·have s1:gL (l.take (i+1))=gL (l.take i):=by rw[t1,kB];simp only[gL];rw[if_neg (by omega)];omega
   have s2:jh (l.take (i+1))=jh (l.take i):=by rw[t1,kC];simp only[jh];rw[if_neg (by omega)];omega
   refine aa (bW ?_)
   refine dD (m-1) (by omega) (.ex (i+1) (.pu ⟨by omega,by rw[s1],by rw[s2],rfl⟩ ?_))
   exact .refl
 ·have:i=l.length:=by omega
  subst this
  rw[List.take_length]
  refine aa ?_
  have fin:∀v:Bool,v=cS l->be W (A::F) (fun w=>∃x:Unit,(.bool v:Value)= .bool (cS l)/\sat W ([A]++F) w):=by
   intro v hv
   rw[hv]
   refine bf () rfl ?_
   exact .refl
  refine aF bF .nil (fun h=>?_) (fun h=>?_)
  ·(refine aA ?_);refine aA ?_;refine aA ?_;refine fD ?_;refine fD ?_;refine aA ?_;refine o_ aq ?_;refine aA ?_;refine aA ?_;refine o_ aq ?_
   exact fin true (by simp[cS,h])
  ·have h0:=h
   refine ag (ag (aF bF .nil (fun h=>?_) (fun h=>?_)))
   ·have h1:=h
    refine ag (ag (ag (aF bF .nil (fun h=>?_) (fun h=>?_))))
    ·(refine ag ?_);refine o_ aq ?_;refine o_ ap ?_;refine aA ?_;refine aA ?_;refine o_ aq ?_
     exact fin true (by simp[cS,h1,h])
    ·(refine ag ?_);refine o_ aq ?_;refine o_ ap ?_;refine ag ?_;refine ag ?_
     refine c_ (O4 hr (by omega)) fun _=>?_
     exact o_ ap (fin _ (by simp[cS,h0,h]))
   ·(refine ag ?_);refine ah ?_;refine ah ?_;refine ag ?_;refine o_ ap ?_;refine o_ ap ?_;refine ag ?_;refine ag ?_
    refine c_ (O4 hr (by omega)) fun _=>?_
    exact o_ ap (fin _ (by simp[cS,h0,h]))
theorem A4:okL lz:=by
 have:decide (okL lz)=true:=by decide+kernel
 exact of_decide_eq_true this
theorem A6:okL lC:=by
 have:decide (okL lC)=true:=by decide+kernel
 exact of_decide_eq_true this
theorem Sa {W:World}{p at_:Nat}{b out:List UInt8}{most:Int}(h1:0<=most/\most<=1048576)(h2:(out.length:Int)<=most):
  CnP p_ 135 [.pointer (some ⟨p,0,none⟩)] W [o7 p b at_ out most] (fun _:Ok (mS lz lC b most at_ out)=> .tuple #[]) (fun x=>[o7 p b x.1.1 x.1.2 most]) (fun y:Er (mS lz lC b most at_ out)=>pn y.1) (fun _=>[]):=by
 (refine S.lU.cnP fun F=>?_;unfold S.iJ;simp only[ca_,na_,-eq_self])
 refine c_ I9 fun _=>?_
 rename_i q
 obtain⟨⟨la,lc⟩,⟨da,dc⟩⟩:=q
 (try dsimp only)
 refine aJ (.here) fun f1 f2 f3 f4=>?_
 refine aJ (.there .here) fun g1 g2 g3 g4=>?_
 refine o_ (bS (v:= .slice la lz.length lc) rfl) ?_
 refine o_ (bS (v:= .slice da lC.length dc) rfl) ?_
 (refine' bg (sb (dh (by rw[List.length_map]) f4) (by rw[se];omega)) ?hp (fun _=>?_) (fun _=>?_);(case hp=>(repeat(first|exact Picks.nil|(apply Picks.cons;(focus repeat constructor)))));(all_goals (try simp only[ca_,na_,Bool.not_true,Bool.not_false,-eq_self])))
 rotate_left
 ·rename_i y
  exact absurd A4 y.2
 rename_i x1
 (refine' bg (sb (dh (by rw[List.length_map]) g4) (by rw[sf];omega)) ?hp (fun _=>?_) (fun _=>?_);(case hp=>(repeat(first|exact Picks.nil|(apply Picks.cons;(focus repeat constructor)))));(all_goals (try simp only[ca_,na_,Bool.not_true,Bool.not_false,-eq_self])))
 rotate_left
 ·rename_i y
  exact absurd A6 y.2
 rename_i x2
 (refine' bg (FJ (by rw[se];omega) (by rw[sf];omega) h1 h2) ?hp (fun _=>?_) (fun _=>?_);(case hp=>(repeat(first|exact Picks.nil|(apply Picks.cons;(focus repeat constructor)))));(all_goals (try simp only[ca_,na_,Bool.not_true,Bool.not_false,-eq_self])))
 ·rename_i x
  refine bC x ?_
  exact aC
 ·rename_i y
  refine cI y rfl ?_
  exact aC
theorem xj {W:World}{L L':List HP}{S:WP}{p at_:Nat}{b out:List UInt8}{most:Int}(q:Pick L (o7 p b at_ out most) L')(h:at_<=8 * b.length->be W L S):be W L S:=fun w hw=>by
 have e:be W L (fun _=>at_<=8 * b.length):=aX q fun r=>aB .here (AW (.there .here) fun hat=>fun _ _=>hat)
 exact h (e w hw) w hw
def o8 (l:List Int)(b:List UInt8)(at_:Nat)(acc:List Int):Except Int (Int × Int × Nat):=
 let x:=fG l b at_
 if x.2.1≠0 then .error x.2.1 else
 if x.1=16 then(if cD b x.2.2 2≠0 then .error (cD b x.2.2 2)else if ¬0<acc.length then .error 30 else .ok (acc.getD (acc.length-1) 0,3+(bK b x.2.2 2:Int),aY b x.2.2 2))else
 if x.1=17 then(if cD b x.2.2 3≠0 then .error (cD b x.2.2 3)else .ok (0,3+(bK b x.2.2 3:Int),aY b x.2.2 3))else
 if x.1=18 then(if cD b x.2.2 7≠0 then .error (cD b x.2.2 7)else .ok (0,11+(bK b x.2.2 7:Int),aY b x.2.2 7))else
 .ok (x.1,1,x.2.2)
def yL (l:List Int)(b:List UInt8)(n:Nat):Nat->Nat->List Int->Except Int (Nat × List Int)
 |0,_,_=> .error 20
 |f+1,at_,acc=>if acc.length<n then(match o8 l b at_ acc with
  | .error e=> .error e
  | .ok (v,t,a)=>if ¬t<=(n:Int)-acc.length then .error 30 else yL l b n f a (acc++List.replicate t.toNat v))else .ok (at_,acc)
theorem FL {l:List Int}{b:List UInt8}{at_:Nat}{acc:List Int}{v t:Int}{a:Nat}{B:Int}(h:o8 l b at_ acc= .ok (v,t,a))(h0:∀x∈acc,0<=x/\x<=B)(hl:(l.length:Int)<=B):0<=v/\v<=B/\1<=t/\at_<a:=by
 have ho:∀ {v' t':Int} {a':Nat},(Except.ok (v',t',a'):Except Int (Int × Int × Nat))= .ok (v,t,a)->v'=v/\t'=t/\a'=a:=fun e=>by
  have:=Prod.mk.inj (Except.ok.inj e)
  have h2:=Prod.mk.inj this.2
  exact⟨this.1,h2.1,h2.2⟩
 unfold o8 at h
 simp only at h
 obtain⟨c0,h⟩:=bh h
 have hlt:=(qo l b at_).2 (Decidable.not_not.1 c0)
 have hv:=vH l b at_
 by_cases c1:(fG l b at_).1=16
 ·rw[if_pos c1]at h
  obtain⟨_,h⟩:=bh h
  obtain⟨c2,h⟩:=bh h
  obtain⟨rfl,rfl,rfl⟩:=ho h
  have c3:acc.length-1<acc.length:=by omega
  have hm:=h0 _ (List.getElem_mem c3)
  have hle:=dw b (fG l b at_).2.2 2
  rw[List.getD_eq_getElem?_getD,List.getElem?_eq_getElem c3]
  exact⟨hm.1,hm.2,by omega,by omega⟩
 rw[if_neg c1]at h
 by_cases c2:(fG l b at_).1=17
 ·rw[if_pos c2]at h
  obtain⟨_,h⟩:=bh h
  obtain⟨rfl,rfl,rfl⟩:=ho h
  have hle:=dw b (fG l b at_).2.2 3
  exact⟨by omega,by omega,by omega,by omega⟩
 rw[if_neg c2]at h
 by_cases c3:(fG l b at_).1=18
 ·rw[if_pos c3]at h
  obtain⟨_,h⟩:=bh h
  obtain⟨rfl,rfl,rfl⟩:=ho h
  have hle:=dw b (fG l b at_).2.2 7
  exact⟨by omega,by omega,by omega,by omega⟩
 rw[if_neg c3]at h
 obtain⟨rfl,rfl,rfl⟩:=ho h
 exact⟨by omega,by omega,by omega,by omega⟩
theorem FM {acc:List Int}{v:Int}{k:Nat}{B:Int}(h0:∀x∈acc,0<=x/\x<=B)(hv:0<=v/\v<=B):∀x∈acc++List.replicate k v,0<=x/\x<=B:=by
 intro x hx
 rcases List.mem_append.1 hx with h|h
 ·exact h0 x h
 ·rw[(List.mem_replicate.1 h).2];exact hv
theorem FN {l:List Int}{b:List UInt8}{n:Nat}{B:Int}(hl:(l.length:Int)<=B):∀(f:Nat) {at_:Nat} {acc:List Int} {a:Nat} {r:List Int},yL l b n f at_ acc= .ok (a,r)->acc.length<=n->(∀x∈acc,0<=x/\x<=B)->r.length=n/\(∀x∈r,0<=x/\x<=B)
 |0,_,_,_,_,h,_,_=>by cases h
 |f+1,at_,acc,a,r,h,h1,h0=>by
  rw[yL]at h
  by_cases c:acc.length<n
  ·rw[if_pos c]at h
   cases hr:o8 l b at_ acc with
   |error e=>rw[hr]at h;cases h
   |ok q=>
    obtain⟨v,t,a1⟩:=q
    rw[hr]at h
    simp only at h
    obtain⟨c1,h⟩:=bh h
    have ho:=FL hr h0 hl
    refine FN hl f h ?_ (FM h0 ⟨ho.1,ho.2.1⟩)
    rw[List.length_append,List.length_replicate];omega
  ·rw[if_neg c]at h
   have:=Prod.mk.inj (Except.ok.inj h)
   rw[<- this.2]
   exact⟨by omega,h0⟩
def O_ (l:List Int)(b:List UInt8)(n at_:Nat):Except Int (Nat × List Int):=yL l b n (8 * b.length+1-at_) at_ []
theorem row {W:World}{p pd at_ n:Nat}{l:List Int}{b out:List UInt8}{most:Int}(hl:l.length<=320)(hn:n<=1048576)(ho:out.length<=1048576):
  CnP p_ 180 [.pointer (some ⟨p,0,none⟩),.pointer (some ⟨pd,0,none⟩),.int .i64 (n:Int)] W [o7 p b at_ out most,eL pd l]
   (fun x:Ok (O_ l b n at_) × Option Addr × Nat=> .slice x.2.1 n x.2.2) (fun x=>[o7 p b x.1.1.1 out most,Sl 1 3 x.2.1 x.2.2 n (x.1.1.2.map I)]) (fun y:Er (O_ l b n at_)=>pn y.1) (fun _=>[]):=by
 (refine S.nF.cnP fun F=>?_;unfold S.jJ;simp only[ca_,na_,-eq_self])
 obtain⟨R,hR⟩:∃R,R=O_ l b n at_:=⟨_,rfl⟩
 rw[<- hR]
 refine d_ (s:=1) (e:=3) ?_
 refine xj (.there .here) fun hat0=>?_
 refine bj (fun m y=>[ex fun at1:Nat=>ex fun acc:List Int=>ex fun q:Option Addr × Nat=>all [pu (8 * b.length+1<=m+at1/\at1<=8 * b.length/\R=yL l b n m at1 acc/\acc.length<=n/\(∀x∈acc,0<=x/\x<=320)/\y= .slice q.1 acc.length q.2),Sl 1 3 q.1 q.2 acc.length (acc.map I),o7 p b at1 out most,eL pd l]]++F) (8 * b.length+1-at_) ?_ ?_
 ·refine .ex at_ (.ex [] (.ex (none,0) (.all ?_)))
  refine ay ?_
  refine .pu ⟨by omega,hat0,hR,by simp,by simp,rfl⟩ ?_
  exact .pick (by repeat constructor) (.pick (by repeat constructor) (.pick (by repeat constructor) .refl))
 clear hR hat0
 intro m ds y
 refine ay ?_
 refine aX Pick.here fun at1=>aX Pick.here fun acc=>aX Pick.here fun q=>aB Pick.here ?_
 obtain⟨qa,qc⟩:=q
 refine ay ?_
 refine aT Pick.here fun hi=>?_
 obtain⟨hm,hat,hR,h2,h3,rfl⟩:=hi
 obtain⟨m,rfl⟩:∃m',m=m'+1:=⟨m-1,by omega⟩
 rw[yL]at hR
 refine aJ .here fun f1 f2 f3 f4=>?_
 refine o_ aN (aF aI .nil (fun h=>?_) (fun h=>?_))
 rotate_left
 ·rw[if_neg (by omega)]at hR
  have:acc.length=n:=by omega
  subst this
  refine aa (bf ((⟨_,hR⟩:Ok R),(qa,qc)) rfl ?_)
  exact aC
 rw[if_pos (by omega)]at hR
 refine ab ?_
 have hM:o8 l b at1 acc=o8 l b at1 acc:=rfl
 conv at hM=>rhs;unfold o8
 simp only at hM
 refine aX (.there .here) fun q=>aB Pick.here ?_
 obtain⟨r,sa,sc⟩:=q
 refine ay ?_
 refine o_ aW (o_ aw (ck ?_))
 (refine' bg (I8) ?hp (fun _=>?_) (fun _=>?_);(case hp=>(repeat(first|exact Picks.nil|(apply Picks.cons;(focus repeat constructor)))));(all_goals (try simp only[ca_,na_,Bool.not_true,Bool.not_false,-eq_self])))
 rotate_left
 ·rename_i y
  rw[if_pos y.2]at hM
  rw[hM]at hR
  refine cI ⟨_,hR⟩ rfl ?_
  exact aC
 rename_i x1
 rw[if_neg (fun c=>c x1.2)]at hM
 have hv:=vH l b at1
 have hlt:=(qo l b at1).2 x1.2
 obtain⟨x,hx⟩:∃x,x=(fG l b at1).1:=⟨_,rfl⟩
 obtain⟨a2,ha2⟩:∃a2,a2=(fG l b at1).2.2:=⟨_,rfl⟩
 rw[<- hx]at hv
 rw[<- ha2]at hlt
 rw[<- hx,<- ha2]at hM ⊢
 refine cr (M:=Sl 1 3 qa qc acc.length (acc.map I)::o7 p b a2 out most::eL pd l::F) (.pick (by repeat constructor) (.ex (r,(sa,sc)) (.all (.pick (by repeat constructor) (.pick (by repeat constructor) (.pick (by repeat constructor) aC)))))) ?_
 refine lO (fun z8 z9=>[ex fun v:Int=>ex fun t:Int=>ex fun a3:Nat=>all [pu (o8 l b at1 acc= .ok (v,t,a3)/\z8= .int .i64 v/\z9= .int .i64 t/\t<=1099511627776),Sl 1 3 qa qc acc.length (acc.map I),o7 p b a3 out most,eL pd l]]++F) ?_ ?_
 rotate_left
 ·(refine aF bF .nil (fun h=>?_) (fun h=>?_))
  ·rw[if_pos h]at hM
   refine ab ?_
   (refine' bg (mG) ?hp (fun _=>?_) (fun _=>?_);(case hp=>(repeat(first|exact Picks.nil|(apply Picks.cons;(focus repeat constructor)))));(all_goals (try simp only[ca_,na_,Bool.not_true,Bool.not_false,-eq_self])))
   rotate_left
   ·rename_i y
    rw[if_pos y.2]at hM
    rw[hM]at hR
    refine cI ⟨_,hR⟩ rfl ?_
    exact aC
   rename_i x4
   rw[if_neg (fun c=>c x4.2)]at hM
   have ht1:=xb b a2 2
   refine bW ?_;refine o_ aN (o_ bq ?_)
   (refine' bg (iv) ?hp (fun _=>?_) (fun _=>?_);(case hp=>(repeat(first|exact Picks.nil|(apply Picks.cons;(focus repeat constructor)))));(all_goals (try simp only[ca_,na_,Bool.not_true,Bool.not_false,-eq_self])))
   rotate_left
   ·rename_i y
    rw[if_pos (by have:=of_decide_eq_false y.2;omega)]at hM
    rw[hM]at hR
    refine cI ⟨_,hR⟩ rfl ?_
    exact aC
   rename_i x5
   have h0:=of_decide_eq_true x5.2
   rw[if_neg (by omega)]at hM
   obtain⟨gq,rfl⟩:=f4 (by omega)
   have hj:acc.length-1<acc.length:=by omega
   refine o_ aN (fI ?_)
   refine o_ (bA (acc.length-1) (by omega) hj) ?_
   refine cm (dP (v:=I acc[acc.length-1]) (by rw[Nat.zero_add];exact gB hj)) ?_
   rw[List.getD_eq_getElem?_getD,List.getElem?_eq_getElem hj]at hM
   refine a_ (.ex (acc[acc.length-1]) (.ex (3+(bK b a2 2:Int)) (.ex (aY b a2 2) (.all ?_))))
   refine ay ?_
   refine .pu ⟨hM,rfl,rfl,by omega⟩ ?_
   exact .pick (by repeat constructor) (.pick (by repeat constructor) (.pick (by repeat constructor) .refl))
  rw[if_neg h]at hM
  refine aa (aF bF .nil (fun h=>?_) (fun h=>?_))
  ·rw[if_pos h]at hM
   refine ab ?_
   (refine' bg (mG) ?hp (fun _=>?_) (fun _=>?_);(case hp=>(repeat(first|exact Picks.nil|(apply Picks.cons;(focus repeat constructor)))));(all_goals (try simp only[ca_,na_,Bool.not_true,Bool.not_false,-eq_self])))
   rotate_left
   ·rename_i y
    rw[if_pos y.2]at hM
    rw[hM]at hR
    refine cI ⟨_,hR⟩ rfl ?_
    exact aC
   rename_i x4
   rw[if_neg (fun c=>c x4.2)]at hM
   have ht1:=xb b a2 3
   refine bW ?_
   refine a_ (.ex 0 (.ex (3+(bK b a2 3:Int)) (.ex (aY b a2 3) (.all ?_))))
   refine ay ?_
   refine .pu ⟨hM,rfl,rfl,by omega⟩ ?_
   exact .pick (by repeat constructor) (.pick (by repeat constructor) (.pick (by repeat constructor) .refl))
  rw[if_neg h]at hM
  refine aa (aF bF .nil (fun h=>?_) (fun h=>?_))
  ·rw[if_pos h]at hM
   refine ab ?_
   (refine' bg (mG) ?hp (fun _=>?_) (fun _=>?_);(case hp=>(repeat(first|exact Picks.nil|(apply Picks.cons;(focus repeat constructor)))));(all_goals (try simp only[ca_,na_,Bool.not_true,Bool.not_false,-eq_self])))
   rotate_left
   ·rename_i y
    rw[if_pos y.2]at hM
    rw[hM]at hR
    refine cI ⟨_,hR⟩ rfl ?_
    exact aC
   rename_i x4
   rw[if_neg (fun c=>c x4.2)]at hM
   have ht1:=xb b a2 7
   refine bW ?_
   refine a_ (.ex 0 (.ex (11+(bK b a2 7:Int)) (.ex (aY b a2 7) (.all ?_))))
   refine ay ?_
   refine .pu ⟨hM,rfl,rfl,by omega⟩ ?_
   exact .pick (by repeat constructor) (.pick (by repeat constructor) (.pick (by repeat constructor) .refl))
  rw[if_neg h]at hM
  refine aa (a_ (.ex x (.ex 1 (.ex a2 (.all ?_)))))
  refine ay ?_
  refine .pu ⟨hM,rfl,rfl,by omega⟩ ?_
  exact .pick (by repeat constructor) (.pick (by repeat constructor) (.pick (by repeat constructor) .refl))
 clear hM hx ha2 hlt hv x1
 intro ds2 z8 z9
 refine ay ?_
 refine aX Pick.here fun v=>aX Pick.here fun t=>aX Pick.here fun a3=>aB Pick.here ?_
 refine ay ?_
 refine aT Pick.here fun hi=>?_
 obtain⟨hM,rfl,rfl,ht⟩:=hi
 obtain⟨v0,v1,t1,hlt⟩:=FL (B:=320) hM h3 (by omega)
 rw[hM]at hR
 simp only at hR
 refine o_ aN (fI ?_)
 refine o_ dX ?_
 (refine' bg (iv) ?hp (fun _=>?_) (fun _=>?_);(case hp=>(repeat(first|exact Picks.nil|(apply Picks.cons;(focus repeat constructor)))));(all_goals (try simp only[ca_,na_,Bool.not_true,Bool.not_false,-eq_self])))
 rotate_left
 ·rename_i y
  rw[if_pos (of_decide_eq_false y.2)]at hR
  refine cI ⟨_,hR⟩ rfl ?_
  exact aC
 rename_i x5
 have h0:=of_decide_eq_true x5.2
 rw[if_neg (fun c=>c h0)]at hR
 obtain⟨k,rfl⟩:=Int.eq_ofNat_of_zero_le (show 0<=t by omega)
 rw[Int.toNat_natCast]at hR
 refine xj (.there .here) fun hat3=>?_
 refine cg (fun m2 x y=>[ex fun i:Nat=>ex fun q:Option Addr × Nat=>all [pu (m2+i=k/\y= .int .i64 (i:Int)/\x= .slice q.1 (acc.length+i) q.2),Sl 1 3 q.1 q.2 (acc.length+i) ((acc++List.replicate i v).map I),o7 p b a3 out most,eL pd l]]++F) k ?_ ?_
 ·refine .ex 0 (.ex (qa,qc) (.all ?_))
  refine ay ?_
  refine .pu ⟨by omega,rfl,rfl⟩ ?_
  rw[List.replicate_zero,List.append_nil]
  exact .pick (by repeat constructor) (.pick (by repeat constructor) (.pick (by repeat constructor) .refl))
 intro m2 ds3 x y
 refine ay ?_
 refine aX Pick.here fun i=>aX Pick.here fun q=>aB Pick.here ?_
 obtain⟨qa2,qc2⟩:=q
 refine ay ?_
 refine aT Pick.here fun hi=>?_
 obtain⟨hmi,rfl,rfl⟩:=hi
 (try dsimp only)
 refine aF aI .nil (fun h=>?_) (fun h=>?_)
 ·refine ab (kF fun g=>?_)
  refine co (m:=1) (news:=[I v]) (by repeat constructor) (dq (e':=3) (by kernel_rfl) .here (by rfl) (Ce (l:=[v]))) (by omega) (by omega) fun a' c'=>?_
  refine bW ?_
  refine bH (m2-1) (by omega) (.ex (i+1) (.ex (a',c') (.all ?_)))
  refine ay ?_
  refine .pu ⟨by omega,congrArg (Value.int .i64) (by omega),by rw[Nat.add_assoc]⟩ ?_
  rw[List.replicate_succ',<- List.append_assoc,List.map_append (l₁:=acc++List.replicate i v),<- Nat.add_assoc]
  exact .pick (by repeat constructor) (.pick (by repeat constructor) (.pick (by repeat constructor) aC))
 ·have:i=k:=by omega
  subst this
  refine aa (aP m (by omega) (.ex a3 (.ex (acc++List.replicate i v) (.ex (qa2,qc2) (.all ?_)))))
  refine ay ?_
  have hle:(acc++List.replicate i v).length=acc.length+i:=by rw[List.length_append,List.length_replicate]
  rw[hle]
  refine .pu ⟨by omega,hat3,hR,by omega,FM h3 ⟨v0,v1⟩,rfl⟩ ?_
  exact .pick (by repeat constructor) (.pick (by repeat constructor) (.pick (by repeat constructor) .refl))
end IF
namespace Sl
open Go Go.Proofs Go.RowKit Sh
theorem Pa {P:Program}{W:World}{t e:TypeId}{s len:Nat}{g:Nat}{q:IntKind}{j:Int}(h:Nat)[ht:ArrT P t len e s](hj:j=(h:Int))(hl:h<=len)(h0:0<len):bb P W [] (eo t (.pointer (some ⟨g,0,none⟩)) none (some (.int q j)) none) (.slice (some ⟨g,0,none⟩) h len):=fun w _=>by
 have hne:len≠0:=by omega
 simp[eo,Instr.sliceAt,Instr.sliceBounds,ht.ut,ht.size,fb h hj hl,Instr.sureAddr,hne,Addr.add]
end Sl
namespace IF
open Go Go.Proofs Go.RowKit Sh Sl T HM HF B M
def j8:List Nat:=[16,17,18,0,8,7,9,6,10,5,11,4,12,3,13,2,14,1,15]
def FO (b:List UInt8):List Nat->Nat->List Int->Except Int (Nat × List Int)
 |[],at_,l=> .ok (at_,l)
 |k::ks,at_,l=>if cD b at_ 3≠0 then .error (cD b at_ 3)else FO b ks (aY b at_ 3) (l.set k (bK b at_ 3:Int))
def CO (b:List UInt8)(most:Int)(h n:Nat)(l:List Int)(at_:Nat)(out:List UInt8):Except Int (Nat × List UInt8):=
 match O_ l b n at_ with
 | .error e=> .error e
 | .ok (a5,r)=>
  if ¬(0<r.getD 256 0/\cS (r.take h)=true/\cS (r.drop h)=true)then .error 30 else
  if ¬okL (r.take h)then .error 30 else
  if ¬okL (r.drop h)then .error 30 else mS (r.take h) (r.drop h) b most a5 out
def tQ (b:List UInt8)(most:Int)(at_:Nat)(out:List UInt8):Except Int (Nat × List UInt8):=
 if cD b at_ 5≠0 then .error (cD b at_ 5)else
 if cD b (aY b at_ 5) 5≠0 then .error (cD b (aY b at_ 5) 5)else
 if cD b (aY b (aY b at_ 5) 5) 4≠0 then .error (cD b (aY b (aY b at_ 5) 5) 4)else
 if ¬(bK b at_ 5<=29/\bK b (aY b at_ 5) 5<=29)then .error 31 else
 match FO b (j8.take (bK b (aY b (aY b at_ 5) 5) 4+4)) (aY b (aY b (aY b at_ 5) 5) 4) (List.replicate 19 0)with
 | .error e=> .error e
 | .ok (a4,l)=>if ¬kz l=true then .error 30 else CO b most (bK b at_ 5+257) (bK b at_ 5+257+bK b (aY b at_ 5) 5+1) l a4 out
theorem sk {b:List UInt8}{at_:Nat}{k:Nat}:bK b at_ k<2^k:=by
 unfold bK
 split
 ·have:=wZ (ub b) at_ ((k:Int)).toNat
  rwa [Int.toNat_natCast]at this
 ·exact Nat.pow_pos (by omega)
theorem LZ {W:World}{p at_:Nat}{b out:List UInt8}{most:Int}(h1:0<=most/\most<=1048576)(h2:(out.length:Int)<=most):
  CnP p_ 136 [.pointer (some ⟨p,0,none⟩)] W [o7 p b at_ out most] (fun _:Ok (tQ b most at_ out)=> .tuple #[]) (fun x=>[o7 p b x.1.1 x.1.2 most]) (fun y:Er (tQ b most at_ out)=>pn y.1) (fun _=>[]):=by
 (refine S.kI.cnP fun F=>?_;unfold S.gD;simp only[ca_,na_,-eq_self])
 obtain⟨R,hR⟩:∃R,R=tQ b most at_ out:=⟨_,rfl⟩
 rw[<- hR]
 unfold tQ at hR
 (refine' bg (mG) ?hp (fun _=>?_) (fun _=>?_);(case hp=>(repeat(first|exact Picks.nil|(apply Picks.cons;(focus repeat constructor)))));(all_goals (try simp only[ca_,na_,Bool.not_true,Bool.not_false,-eq_self])))
 rotate_left
 ·rename_i y
  rw[if_pos y.2]at hR
  refine cI ⟨_,hR⟩ rfl ?_
  exact aC
 rename_i x1
 rw[if_neg (fun c=>c x1.2)]at hR
 have hh:=sk (b:=b) (at_:=at_) (k:=5)
 obtain⟨nh,hhE⟩:∃h,h=bK b at_ 5:=⟨_,rfl⟩
 obtain⟨a1,ha1⟩:∃a,a=aY b at_ 5:=⟨_,rfl⟩
 rw[<- hhE,<- ha1]at hR
 rw[show(bK b at_ 5)=nh from hhE.symm,<- ha1]
 rw[show bK b at_ ((5:Nat):Int)=nh from hhE.symm]at hh
 (refine' bg (mG) ?hp (fun _=>?_) (fun _=>?_);(case hp=>(repeat(first|exact Picks.nil|(apply Picks.cons;(focus repeat constructor)))));(all_goals (try simp only[ca_,na_,Bool.not_true,Bool.not_false,-eq_self])))
 rotate_left
 ·rename_i y
  rw[if_pos y.2]at hR
  refine cI ⟨_,hR⟩ rfl ?_
  exact aC
 rename_i x2
 rw[if_neg (fun c=>c x2.2)]at hR
 have hd:=sk (b:=b) (at_:=a1) (k:=5)
 obtain⟨nd,hdE⟩:∃h,h=bK b a1 5:=⟨_,rfl⟩
 obtain⟨a2,ha2⟩:∃a,a=aY b a1 5:=⟨_,rfl⟩
 rw[<- hdE,<- ha2]at hR
 rw[show(bK b a1 5)=nd from hdE.symm,<- ha2]
 rw[show bK b a1 ((5:Nat):Int)=nd from hdE.symm]at hd
 (refine' bg (mG) ?hp (fun _=>?_) (fun _=>?_);(case hp=>(repeat(first|exact Picks.nil|(apply Picks.cons;(focus repeat constructor)))));(all_goals (try simp only[ca_,na_,Bool.not_true,Bool.not_false,-eq_self])))
 rotate_left
 ·rename_i y
  rw[if_pos y.2]at hR
  refine cI ⟨_,hR⟩ rfl ?_
  exact aC
 rename_i x3
 rw[if_neg (fun c=>c x3.2)]at hR
 have hc:=sk (b:=b) (at_:=a2) (k:=4)
 obtain⟨c,hcE⟩:∃h,h=bK b a2 4:=⟨_,rfl⟩
 obtain⟨a3,ha3⟩:∃a,a=aY b a2 4:=⟨_,rfl⟩
 rw[<- hcE,<- ha3]at hR
 rw[show(bK b a2 4)=c from hcE.symm,<- ha3]
 rw[show bK b a2 ((4:Nat):Int)=c from hcE.symm]at hc
 have hop:(out.length:Int)<=1048576:=by omega
 refine o_ dX ?_
 by_cases hq:nh<=29/\nd<=29
 rotate_left
 ·rw[if_pos hq]at hR
  by_cases hq1:nh<=29
  ·rw[dT_ (by omega)]
   refine ag (ag (o_ dX ?_))
   rw[dF_ (by omega)]
   refine o_ aq ?_
   (refine' bg (iv) ?hp (fun _=>?_) (fun _=>?_);(case hp=>(repeat(first|exact Picks.nil|(apply Picks.cons;(focus repeat constructor)))));(all_goals (try simp only[ca_,na_,Bool.not_true,Bool.not_false,-eq_self])))
   ·rename_i x
    exact absurd x.2 (by decide)
   ·refine cI ⟨_,hR⟩ rfl ?_
    exact aC
  ·rw[dF_ (by omega)]
   refine ah (ah (o_ ap ?_))
   (refine' bg (iv) ?hp (fun _=>?_) (fun _=>?_);(case hp=>(repeat(first|exact Picks.nil|(apply Picks.cons;(focus repeat constructor)))));(all_goals (try simp only[ca_,na_,Bool.not_true,Bool.not_false,-eq_self])))
   ·rename_i x
    exact absurd x.2 (by decide)
   ·refine cI ⟨_,hR⟩ rfl ?_
    exact aC
 rw[if_neg (fun c=>c hq)]at hR
 obtain⟨hq1,hq2⟩:=hq
 rw[dT_ (by omega)]
 refine ag (ag (o_ dX ?_))
 rw[dT_ (by omega)]
 refine o_ aq ?_
 (refine' bg (iv) ?hp (fun _=>?_) (fun _=>?_);(case hp=>(repeat(first|exact Picks.nil|(apply Picks.cons;(focus repeat constructor)))));(all_goals (try simp only[ca_,na_,Bool.not_true,Bool.not_false,-eq_self])))
 rotate_left
 ·rename_i y
  exact absurd y.2 (by decide)
 refine gz 19 19 (by rfl) (by rfl) (by omega) (by omega) (by decide) fun gl=>?_
 refine o_ cu ?_;refine bm fun g=>?_;refine gS ?_;refine bW ?_
 refine o_ (Pa (c+4) (by omega) (by omega) (by omega)) ?_
 obtain⟨K,hK⟩:∃K,K=c+4:=⟨_,rfl⟩
 rw[<- hK]at hR ⊢
 have hK19:K<=19:=by omega
 obtain⟨M,hM⟩:∃M,M=FO b (j8.take K) a3 (List.replicate 19 0):=⟨_,rfl⟩
 rw[<- hM]at hR
 refine o_ aN (bj (fun m y=>[ex fun i:Nat=>ex fun at1:Nat=>ex fun l:List Int=>all [pu (m+i=K/\y= .int .i64 (i:Int)/\M=FO b ((j8.take K).drop i) at1 l/\l.length=19),pt g (.cells #[(.int .i64 16),(.int .i64 17),(.int .i64 18),(.int .i64 0),(.int .i64 8),(.int .i64 7),(.int .i64 9),(.int .i64 6),(.int .i64 10),(.int .i64 5),(.int .i64 11),(.int .i64 4),(.int .i64 12),(.int .i64 3),(.int .i64 13),(.int .i64 2),(.int .i64 14),(.int .i64 1),(.int .i64 15)] 236 (0,0)),Sl 1 3 (some ⟨gl,0,none⟩) 19 19 (l.map I),o7 p b at1 out most]]++F) K ?_ ?_)
 ·refine .ex 0 (.ex a3 (.ex (List.replicate 19 0) (.all ?_)))
  refine ay ?_
  refine .pu ⟨by omega,rfl,hM,by simp⟩ ?_
  rw[List.map_replicate]
  exact .pick (by repeat constructor) (.pick (by repeat constructor) (.pick (by repeat constructor) .refl))
 clear hM
 intro m ds y
 refine ay ?_
 refine aX Pick.here fun i=>aX Pick.here fun at1=>aX Pick.here fun l=>aB Pick.here ?_
 refine ay ?_
 refine aT Pick.here fun hi=>?_
 obtain⟨hmi,rfl,hM,hl19⟩:=hi
 refine aF aI .nil (fun h=>?_) (fun h=>?_)
 ·have hiK:i<K:=by omega
  have hog:(j8.take K).drop i=j8.getD i 0::(j8.take K).drop (i+1):=by
   have hlen:i<(j8.take K).length:=by rw[List.length_take,show j8.length=19 from rfl];omega
   rw[List.drop_eq_getElem_cons hlen,List.getElem_take,List.getD_eq_getElem?_getD,List.getElem?_eq_getElem]
   rfl
  rw[hog,FO]at hM
  obtain⟨o,ho⟩:∃o,o=j8.getD i 0:=⟨_,rfl⟩
  rw[<- ho]at hM
  have hov:(#[(.int .i64 16),(.int .i64 17),(.int .i64 18),(.int .i64 0),(.int .i64 8),(.int .i64 7),(.int .i64 9),(.int .i64 6),(.int .i64 10),(.int .i64 5),(.int .i64 11),(.int .i64 4),(.int .i64 12),(.int .i64 3),(.int .i64 13),(.int .i64 2),(.int .i64 14),(.int .i64 1),(.int .i64 15)]:Array Value)[0+i]? =some (.int .i64 (o:Int))/\o<19:=by
   rw[ho]
   have:i=0\/i=1\/i=2\/i=3\/i=4\/i=5\/i=6\/i=7\/i=8\/i=9\/i=10\/i=11\/i=12\/i=13\/i=14\/i=15\/i=16\/i=17\/i=18:=by omega
   rcases this with rfl|rfl|rfl|rfl|rfl|rfl|rfl|rfl|rfl|rfl|rfl|rfl|rfl|rfl|rfl|rfl|rfl|rfl|rfl <;> exact⟨rfl,by decide⟩
  refine ab (o_ (bA i (by rfl) hiK) ?_)
  refine cm (iA hov.1) ?_
  (refine' bg (mG) ?hp (fun _=>?_) (fun _=>?_);(case hp=>(repeat(first|exact Picks.nil|(apply Picks.cons;(focus repeat constructor)))));(all_goals (try simp only[ca_,na_,Bool.not_true,Bool.not_false,-eq_self])))
  rotate_left
  ·rename_i y
   rw[if_pos y.2]at hM
   rw[hM]at hR
   refine cI ⟨_,hR⟩ rfl ?_
   exact aC
  rename_i x4
  rw[if_neg (fun c=>c x4.2)]at hM
  refine o_ (bA o (by rfl) (by omega)) ?_
  rw[Nat.zero_add]
  refine jz (by repeat constructor) (by rw[List.length_map];omega) ?_
  refine bW ?_
  refine aP (m-1) (by omega) (.ex (i+1) (.ex (aY b at1 3) (.ex (l.set o (bK b at1 3:Int)) (.all ?_))))
  refine ay ?_
  refine .pu ⟨by omega,rfl,hM,by rw[List.length_set];omega⟩ ?_
  rw[List.map_set]
  exact .pick (by repeat constructor) (.pick (by repeat constructor) (.pick (by repeat constructor) .refl))
 have hiK:i=K:=by omega
 subst hiK
 rw[List.drop_eq_nil_of_le (by rw[List.length_take];omega),FO]at hM
 rw[hM]at hR
 simp only at hR
 refine aa ?_
 have hsl:RdB W (Sl 1 3 (some ⟨gl,0,none⟩) 19 19 (l.map I)) (some ⟨gl,0,none⟩) l.length (l.map I):=by
  rw[hl19];exact dh (by rw[List.length_map,hl19]) (fun _=>⟨gl,rfl⟩)
 rw[show(Value.slice (some ⟨gl,0,none⟩) 19 19)= .slice (some ⟨gl,0,none⟩) l.length 19 by rw[hl19]]
 refine c_ (O4 hsl (by omega)) fun _=>?_
 (refine' bg (iv) ?hp (fun _=>?_) (fun _=>?_);(case hp=>(repeat(first|exact Picks.nil|(apply Picks.cons;(focus repeat constructor)))));(all_goals (try simp only[ca_,na_,Bool.not_true,Bool.not_false,-eq_self])))
 rotate_left
 ·rename_i y
  rw[if_pos (by rw[y.2];decide)]at hR
  refine cI ⟨_,hR⟩ rfl ?_
  exact aC
 rename_i x5
 rw[if_neg (fun c=>c x5.2)]at hR
 (refine' bg (sb hsl (by omega)) ?hp (fun _=>?_) (fun _=>?_);(case hp=>(repeat(first|exact Picks.nil|(apply Picks.cons;(focus repeat constructor)))));(all_goals (try simp only[ca_,na_,Bool.not_true,Bool.not_false,-eq_self])))
 rotate_left
 ·rename_i y
  have hf:=x5.2
  unfold kz at hf
  exact absurd (of_decide_eq_true (Bool.and_eq_true _ _▸hf).1) y.2
 rename_i x6
 refine bW ?_;refine bW ?_;refine bW ?_
 rw[show(nh:Int)+257+nd+1=((nh+257+nd+1:Nat):Int) by omega]
 unfold CO at hR
 (refine' bg (row (l:=l) (out:=out) (by omega) (by omega) (by omega)) ?hp (fun _=>?_) (fun _=>?_);(case hp=>(repeat(first|exact Picks.nil|(apply Picks.cons;(focus repeat constructor)))));(all_goals (try simp only[ca_,na_,Bool.not_true,Bool.not_false,-eq_self])))
 rotate_left
 ·rename_i y
  rw[y.2]at hR
  refine cI ⟨_,hR⟩ rfl ?_
  exact aC
 rename_i q
 obtain⟨⟨⟨a5,r⟩,hrow⟩,ra,rc⟩:=q
 rw[hrow]at hR
 simp only at hR
 (try dsimp only)
 obtain⟨hrl,hrb⟩:=FN (B:=320) (by omega) _ hrow (by simp) (by simp)
 obtain⟨n,hn⟩:∃n,n=nh+257+nd+1:=⟨_,rfl⟩
 obtain⟨k,hk⟩:∃n,n=nh+257:=⟨_,rfl⟩
 rw[<- hk]at hR
 rw[<- hn]at hrl ⊢
 refine aJ (.there .here) fun f1 f2 f3 f4=>?_
 obtain⟨gr,rfl⟩:=f4 (by omega)
 have f4:0<n->∃g',some (⟨gr,0,none⟩:Addr)=some ⟨g',0,none⟩:=fun _=>⟨gr,rfl⟩
 have hrd:=dh (W:=W) (e:=3) (cap:=rc) (cs:=r.map I) (n:=n) (by rw[List.length_map,hrl]) f4
 have hA0:Option.map (fun x:Addr=>x.add (0 * 1)) (some ⟨gr,0,none⟩)=some ⟨gr,0,none⟩:=by simp[db]
 have hAk:Option.map (fun x:Addr=>x.add (k * 1)) (some ⟨gr,0,none⟩)=some ⟨gr,k,none⟩:=by simp[db]
 have hla:(r.take k).length=k:=by rw[List.length_take];omega
 have hlb:(r.drop k).length=n-k:=by rw[List.length_drop,hrl]
 have hRa:=hrd.cut (l:=0) (h:=k) (cap:=rc) (by omega) (by omega) f2
 rw[if_neg (by omega),hA0,List.drop_zero,<- List.map_take,Nat.sub_zero]at hRa
 have hRb:=hrd.cut (l:=k) (h:=n) (cap:=rc) (by omega) (by omega) f2
 rw[if_neg (by omega),hAk,List.take_of_length_le (by rw[List.length_drop,List.length_map];omega),<- List.map_drop]at hRb
 have hba:∀x∈r.take k,x<=1048576:=fun x hx=>by have:=(hrb x (List.mem_of_mem_take hx)).2;omega
 have hbb:∀x∈r.drop k,x<=1048576:=fun x hx=>by have:=(hrb x (List.mem_of_mem_drop hx)).2;omega
 refine bM ?_;(refine t_ (ct (by omega) (by omega)) ?_)
 rw[show(nh:Int)+257=(k:Int) by omega]
 refine t_ (B3 k (by rfl) (by omega)) ?_
 rw[if_neg (by omega),hA0]
 (refine t_ (ct (by omega) (by omega)) ?_)
 rw[show(nh:Int)+257=(k:Int) by omega]
 refine t_ (y_ k (by rfl) (by omega)) ?_
 rw[if_neg (by omega),hAk]
 have h256:256<r.length:=by omega
 refine o_ (bA 256 (by rfl) (by omega)) ?_
 refine cm (dP (v:=I r[256]) (by rw[Nat.zero_add];exact gB h256)) ?_
 refine o_ bq ?_
 have hg:r.getD 256 0=r[256]:=by rw[List.getD_eq_getElem?_getD,List.getElem?_eq_getElem h256];rfl
 rw[hg]at hR
 rw[<- hlb]at hRb
 have hlbn:=hlb
 rw[<- hlb]
 obtain⟨la,hlaE⟩:∃la,la=r.take k:=⟨_,rfl⟩
 obtain⟨lb,hlbE⟩:∃lb,lb=r.drop k:=⟨_,rfl⟩
 rw[<- hlaE]at hR hRa hba hla
 rw[<- hlbE]at hR hRb hbb hlbn ⊢
 rw[<- hla]at hRa hRb ⊢
 have fin0:∀(L:List HP) (kk:Value->WP),Imp W L F->¬((0:Int)<r[256]/\cS la=true/\cS lb=true)->be W L (opN p_ (aj (fn 172) [.bool false,.int .i64 30]) (fun ch w=>∃y:Er R,ch=pn y.1/\sat W F w) kk):=by
  intro L kk hi hn
  rw[if_pos hn]at hR
  refine cr hi ?_
  refine bg (A:=[]) (F:=F) iv .nil (fun x=>?_) (fun y=>?_)
  ·exact absurd x.2 (by decide)
  ·refine cI ⟨_,hR⟩ rfl ?_
   exact .refl
 by_cases hc1:0<r[256]
 rotate_left
 ·rw[dF_ (by omega)]
  exact ah (ah (o_ ap (ah (ah (o_ ap (fin0 _ _ aC (fun c=>hc1 c.1)))))))
 rw[dT_ (by omega)]
 refine ag (ag (c_ (Jl hRa (by omega) hba) fun _=>?_))
 by_cases hc2:cS la=true
 rotate_left
 ·rw[show cS la=false by simpa using hc2]
  exact o_ aq (ah (ah (o_ ap (fin0 _ _ aC (fun c=>hc2 c.2.1)))))
 rw[hc2]
 refine o_ aq (ag (ag (c_ (Jl hRb (by omega) hbb) fun _=>?_)))
 by_cases hc3:cS lb=true
 rotate_left
 ·rw[show cS lb=false by simpa using hc3]
  exact o_ aq (fin0 _ _ aC (fun c=>hc3 c.2.2))
 rw[hc3]
 refine o_ aq ?_
 (refine' bg (iv) ?hp (fun _=>?_) (fun _=>?_);(case hp=>(repeat(first|exact Picks.nil|(apply Picks.cons;(focus repeat constructor)))));(all_goals (try simp only[ca_,na_,Bool.not_true,Bool.not_false,-eq_self])))
 rotate_left
 ·rename_i y
  exact absurd y.2 (by decide)
 rw[if_neg (fun c=>c ⟨hc1,hc2,hc3⟩)]at hR
 (refine' bg (sb hRa (by omega)) ?hp (fun _=>?_) (fun _=>?_);(case hp=>(repeat(first|exact Picks.nil|(apply Picks.cons;(focus repeat constructor)))));(all_goals (try simp only[ca_,na_,Bool.not_true,Bool.not_false,-eq_self])))
 rotate_left
 ·rename_i y
  rw[if_pos y.2]at hR
  refine cI ⟨_,hR⟩ rfl ?_
  exact aC
 rename_i x8
 rw[if_neg (fun c=>c x8.2)]at hR
 (refine' bg (sb hRb (by omega)) ?hp (fun _=>?_) (fun _=>?_);(case hp=>(repeat(first|exact Picks.nil|(apply Picks.cons;(focus repeat constructor)))));(all_goals (try simp only[ca_,na_,Bool.not_true,Bool.not_false,-eq_self])))
 rotate_left
 ·rename_i y
  rw[if_pos y.2]at hR
  refine cI ⟨_,hR⟩ rfl ?_
  exact aC
 rename_i x9
 rw[if_neg (fun c=>c x9.2)]at hR
 rw[hR]
 (refine' bg (FJ (by have:=x8.2.len;omega) (by have:=x9.2.len;omega) h1 h2) ?hp (fun _=>?_) (fun _=>?_);(case hp=>(repeat(first|exact Picks.nil|(apply Picks.cons;(focus repeat constructor)))));(all_goals (try simp only[ca_,na_,Bool.not_true,Bool.not_false,-eq_self])))
 ·rename_i x
  refine bC x ?_
  exact aC
 ·rename_i y
  refine cI y rfl ?_
  exact aC
end IF
namespace IF
open Go Go.Proofs Go.RowKit Sh Sl T HM HF B M
def mI (k:Nat)(b:List UInt8)(most:Int)(at_:Nat)(out:List UInt8):Except Int (Nat × List UInt8):=
 if k=0 then fe b most at_ out else if k=1 then mS lz lC b most at_ out else if k=2 then tQ b most at_ out else .error 31
theorem Sb {W:World}{p at_:Nat}{b out:List UInt8}{most:Int}:CnP p_ 137 [.pointer (some ⟨p,0,none⟩)] W [o7 p b at_ out most] (fun _:Ok (mI 3 b most at_ out)=> .tuple #[]) (fun x=>[o7 p b x.1.1 x.1.2 most]) (fun y:Er (mI 3 b most at_ out)=>pn y.1) (fun _=>[]):=by
 (refine S.mN.cnP fun F=>?_;unfold S.iZ;simp only[ca_,na_,-eq_self])
 refine o_ uu (qK ?_)
 refine cI ⟨31,rfl⟩ rfl ?_
 exact aC
def iP (b:List UInt8)(most:Int):Nat->Nat->List UInt8->List (Int × Int)->Except Int (Nat × List UInt8 × List (Int × Int))
 |0,_,_,_=> .error 20
 |f+1,at_,out,l=>
  if cD b at_ 1≠0 then .error (cD b at_ 1)else
  if cD b (aY b at_ 1) 2≠0 then .error (cD b (aY b at_ 1) 2)else
  match mI (bK b (aY b at_ 1) 2) b most (aY b (aY b at_ 1) 2) out with
  | .error e=> .error e
  | .ok (a,o)=>if bK b at_ 1=0 then iP b most f a o (l++[((bK b (aY b at_ 1) 2:Int),(o.length:Int)-(out.length:Int))])else .ok (a,o,l++[((bK b (aY b at_ 1) 2:Int),(o.length:Int)-(out.length:Int))])
def CP (b:List UInt8)(most:Int):Except Int (Nat × List UInt8 × List (Int × Int)):=
 if most<0\/1048576<most then .error 1 else if 1048576<b.length then .error 6 else iP b most (8 * b.length+1) 0 [] []
def aO (b:List UInt8)(most:Int):List UInt8:=match CP b most with
 | .ok x=>x.2.1
 | .error _=>[]
def aL (b:List UInt8)(most:Int):List (Int × Int):=match CP b most with
 | .ok x=>x.2.2
 | .error _=>[]
def aU (b:List UInt8)(most:Int):Int:=match CP b most with
 | .ok x=>(b.length:Int)-(8 * (b.length:Int)-x.1) / 8
 | .error _=>0
def aE (b:List UInt8)(most:Int):Int:=match CP b most with
 | .ok _=>0
 | .error e=>e
def NK (x:Int × Int):List Value:=[I x.1,I x.2]
theorem EJ {b:List UInt8}{most:Int}{at_:Nat}{out:List UInt8}{a:Nat}{o:List UInt8}(h:fe b most at_ out= .ok (a,o))(h0:(out.length:Int)<=most):(o.length:Int)<=most:=by
 unfold fe at h
 obtain⟨_,h⟩:=bh h
 obtain⟨_,h⟩:=bh h
 obtain⟨_,h⟩:=bh h
 obtain⟨c,h⟩:=bh h
 obtain⟨_,h⟩:=bh h
 have:=(Prod.mk.inj (Except.ok.inj h)).2
 rw[<- this,List.length_append]
 have hle:(vG b (aY b (aY b ((at_+7) / 8 * 8) 16) 16) (bK b ((at_+7) / 8 * 8) 16:Int)).length<=bK b ((at_+7) / 8 * 8) 16:=by unfold vG;split;(rw[List.length_take];omega);simp
 omega
theorem L0 {b:List UInt8}{most:Int}{at_:Nat}{out:List UInt8}{a:Nat}{o:List UInt8}(h:tQ b most at_ out= .ok (a,o))(h0:(out.length:Int)<=most):(o.length:Int)<=most:=by
 unfold tQ at h
 obtain⟨_,h⟩:=bh h
 obtain⟨_,h⟩:=bh h
 obtain⟨_,h⟩:=bh h
 obtain⟨_,h⟩:=bh h
 split at h
 ·cases h
 ·obtain⟨_,h⟩:=bh h
  unfold CO at h
  split at h
  ·cases h
  ·obtain⟨_,h⟩:=bh h
   obtain⟨_,h⟩:=bh h
   obtain⟨_,h⟩:=bh h
   exact xd _ h h0
theorem Jm {k:Nat}{b:List UInt8}{most:Int}{at_:Nat}{out:List UInt8}{a:Nat}{o:List UInt8}(h:mI k b most at_ out= .ok (a,o))(h0:(out.length:Int)<=most):(o.length:Int)<=most:=by
 unfold mI at h
 split at h
 ·exact EJ h h0
 split at h
 ·exact xd _ h h0
 split at h
 ·exact L0 h h0
 ·cases h
theorem L3 (b:List UInt8)(at_:Nat)(k:Int):at_<=vm b at_ k:=by unfold vm;split <;> omega
theorem EK {b:List UInt8}{most:Int}{at_:Nat}{out:List UInt8}{a:Nat}{o:List UInt8}(h:fe b most at_ out= .ok (a,o)):at_<=a:=by
 unfold fe at h
 obtain⟨_,h⟩:=bh h
 obtain⟨_,h⟩:=bh h
 obtain⟨_,h⟩:=bh h
 obtain⟨c,h⟩:=bh h
 obtain⟨_,h⟩:=bh h
 have:=(Prod.mk.inj (Except.ok.inj h)).1
 have l1:=dw b ((at_+7) / 8 * 8) 16
 have l2:=dw b (aY b ((at_+7) / 8 * 8) 16) 16
 have l3:=L3 b (aY b (aY b ((at_+7) / 8 * 8) 16) 16) (bK b ((at_+7) / 8 * 8) 16:Int)
 omega
theorem zt {la lb:List Int}{b:List UInt8}{most:Int}{at_:Nat}{out:List UInt8}{t:Bool}{a:Nat}{o:List UInt8}(h:iw la lb b most at_ out= .ok (t,a,o)):at_<=a:=by
 have ho:∀ {t':Bool} {a':Nat} {o':List UInt8},(Except.ok (t',a',o'):Except Int (Bool × Nat × List UInt8))= .ok (t,a,o)->a'=a:=fun e=>(Prod.mk.inj (Prod.mk.inj (Except.ok.inj e)).2).1
 have n1:=(qo la b at_).1
 unfold iw at h
 simp only at h
 obtain⟨_,h⟩:=bh h
 by_cases c1:(fG la b at_).1=256
 ·rw[if_pos c1]at h
  rw[<- ho h];exact n1
 rw[if_neg c1]at h
 by_cases c2:(fG la b at_).1<256
 ·rw[if_pos c2]at h
  obtain⟨c3,h⟩:=bh h
  rw[<- ho h];exact n1
 rw[if_neg c2]at h
 obtain⟨_,h⟩:=bh h
 obtain⟨_,h⟩:=bh h
 obtain⟨_,h⟩:=bh h
 obtain⟨_,h⟩:=bh h
 obtain⟨_,h⟩:=bh h
 obtain⟨_,h⟩:=bh h
 obtain⟨c3,h⟩:=bh h
 rw[<- ho h]
 have l1:=dw b (fG la b at_).2.2 (bL (fG la b at_).1).2
 have l2:=(qo lb b (aY b (fG la b at_).2.2 (bL (fG la b at_).1).2)).1
 have l3:=dw b (fG lb b (aY b (fG la b at_).2.2 (bL (fG la b at_).1).2)).2.2 (bD (fG lb b (aY b (fG la b at_).2.2 (bL (fG la b at_).1).2)).1).2
 exact Nat.le_trans n1 (Nat.le_trans l1 (Nat.le_trans l2 l3))
theorem xk {la lb:List Int}{b:List UInt8}{most:Int}:∀(f:Nat) {at_:Nat} {out:List UInt8} {a:Nat} {o:List UInt8},nW la lb b most f at_ out= .ok (a,o)->at_<=a
 |0,_,_,_,_,h=>by cases h
 |f+1,at_,out,a,o,h=>by
  rw[nW]at h
  split at h
  ·cases h
  ·rename_i hr
   cases h
   exact zt hr
  ·rename_i hr
   exact Nat.le_trans (zt hr) (xk f h)
theorem Jn (b:List UInt8):∀(ks:List Nat) {at_ a:Nat} {l r:List Int},FO b ks at_ l= .ok (a,r)->at_<=a
 |[],at_,a,l,r,h=>by
  have:=Prod.mk.inj (Except.ok.inj h)
  omega
 |k::ks,at_,a,l,r,h=>by
  rw[FO]at h
  exact Nat.le_trans (dw b at_ 3) (Jn b ks (bh h).2)
theorem L4 {l:List Int}{b:List UInt8}{at_:Nat}{acc:List Int}{v t:Int}{a:Nat}(h:o8 l b at_ acc= .ok (v,t,a)):at_<=a:=by
 have ho:∀ {v' t':Int} {a':Nat},(Except.ok (v',t',a'):Except Int (Int × Int × Nat))= .ok (v,t,a)->a'=a:=fun e=>(Prod.mk.inj (Prod.mk.inj (Except.ok.inj e)).2).2
 have n1:=(qo l b at_).1
 unfold o8 at h
 simp only at h
 obtain⟨c0,h⟩:=bh h
 by_cases c1:(fG l b at_).1=16
 ·rw[if_pos c1]at h
  obtain⟨_,h⟩:=bh h
  obtain⟨c2,h⟩:=bh h
  have hle:=dw b (fG l b at_).2.2 2
  rw[<- ho h];omega
 rw[if_neg c1]at h
 by_cases c2:(fG l b at_).1=17
 ·rw[if_pos c2]at h
  obtain⟨_,h⟩:=bh h
  have hle:=dw b (fG l b at_).2.2 3
  rw[<- ho h];omega
 rw[if_neg c2]at h
 by_cases c3:(fG l b at_).1=18
 ·rw[if_pos c3]at h
  obtain⟨_,h⟩:=bh h
  have hle:=dw b (fG l b at_).2.2 7
  rw[<- ho h];omega
 rw[if_neg c3]at h
 rw[<- ho h];omega
theorem FP {l:List Int}{b:List UInt8}{n:Nat}:∀(f:Nat) {at_:Nat} {acc:List Int} {a:Nat} {r:List Int},yL l b n f at_ acc= .ok (a,r)->at_<=a
 |0,_,_,_,_,h=>by cases h
 |f+1,at_,acc,a,r,h=>by
  rw[yL]at h
  by_cases c:acc.length<n
  ·rw[if_pos c]at h
   cases hr:o8 l b at_ acc with
   |error e=>rw[hr]at h;cases h
   |ok q=>
    obtain⟨v,t,a1⟩:=q
    rw[hr]at h
    simp only at h
    obtain⟨c1,h⟩:=bh h
    exact Nat.le_trans (L4 hr) (FP f h)
  ·rw[if_neg c]at h
   have:=Prod.mk.inj (Except.ok.inj h)
   omega
theorem L5 {b:List UInt8}{most:Int}{at_:Nat}{out:List UInt8}{a:Nat}{o:List UInt8}(h:tQ b most at_ out= .ok (a,o)):at_<=a:=by
 have l1:=dw b at_ 5
 have l2:=dw b (aY b at_ 5) 5
 have l3:=dw b (aY b (aY b at_ 5) 5) 4
 unfold tQ at h
 obtain⟨_,h⟩:=bh h
 obtain⟨_,h⟩:=bh h
 obtain⟨_,h⟩:=bh h
 obtain⟨_,h⟩:=bh h
 split at h
 ·cases h
 ·rename_i hc
  have l4:=Jn b _ hc
  obtain⟨_,h⟩:=bh h
  unfold CO at h
  split at h
  ·cases h
  ·rename_i hr
   have l5:=FP _ hr
   obtain⟨_,h⟩:=bh h
   obtain⟨_,h⟩:=bh h
   obtain⟨_,h⟩:=bh h
   have l6:=xk _ h
   omega
theorem Jo {k:Nat}{b:List UInt8}{most:Int}{at_:Nat}{out:List UInt8}{a:Nat}{o:List UInt8}(h:mI k b most at_ out= .ok (a,o)):at_<=a:=by
 unfold mI at h
 split at h
 ·exact EK h
 split at h
 ·exact xk _ h
 split at h
 ·exact L5 h
 ·cases h
def kf (k:Nat):FuncId:=if k=0 then 134 else if k=1 then 135 else if k=2 then 136 else 137
theorem kind {W:World}{p at_ k:Nat}{b out:List UInt8}{most:Int}(hk:k<4)(h1:0<=most/\most<=1048576)(h2:(out.length:Int)<=most):
  CnP p_ (kf k) [.pointer (some ⟨p,0,none⟩)] W [o7 p b at_ out most] (fun _:Ok (mI k b most at_ out)=> .tuple #[]) (fun x=>[o7 p b x.1.1 x.1.2 most]) (fun y:Er (mI k b most at_ out)=>pn y.1) (fun _=>[]):=by
 have:k=0\/k=1\/k=2\/k=3:=by omega
 rcases this with rfl|rfl|rfl|rfl
 ·exact O7 (by omega) (by omega)
 ·exact Sa h1 h2
 ·exact LZ h1 h2
 ·exact Sb
theorem Sc {W:World} {F:List HP} {g4 g5 g6 g7:Nat} {v4 v5 v6 v7:Value} {e:Int} {K:Value->WP} {Kq:PK}
  (h:be W (pt g4 (.cells #[.slice none 0 0] 23)::pt g5 (.cells #[.slice none 0 0] 146)::pt g6 (.cells #[.int .i64 0] 3)::pt g7 (.cells #[.int .i64 e] 27)::F) (K (.tuple #[.slice none 0 0,.slice none 0 0,.int .i64 0,.int .i64 e]))):
  be W (pt g4 (.cells #[v4] 23)::pt g5 (.cells #[v5] 146)::pt g6 (.cells #[v6] 3)::pt g7 (.cells #[v7] 27)::F)
   (gf p_ {target:= .fn (.func 132) ([.pointer (some ⟨g4,0,none⟩),.pointer (some ⟨g5,0,none⟩),.pointer (some ⟨g6,0,none⟩),.pointer (some ⟨g7,0,none⟩)]:List Value).toArray,args:=([]:List Value).toArray} (S.aR (.pointer (some ⟨g4,0,none⟩)) (.pointer (some ⟨g5,0,none⟩)) (.pointer (some ⟨g6,0,none⟩)) (.pointer (some ⟨g7,0,none⟩)) K) Kq (pn e)):=by
 unfold gf
 refine Fe (f:=132) (A:=[.pointer (some ⟨g4,0,none⟩),.pointer (some ⟨g5,0,none⟩),.pointer (some ⟨g6,0,none⟩),.pointer (some ⟨g7,0,none⟩)]) (shape:=fun rv=>S.eE (.pointer (some ⟨g4,0,none⟩)) (.pointer (some ⟨g5,0,none⟩)) (.pointer (some ⟨g6,0,none⟩)) (.pointer (some ⟨g7,0,none⟩)) rv) (fun c=>by cases c) ⟨_,_,rfl⟩ (j_ (cs:=[.pointer (some ⟨g4,0,none⟩),.pointer (some ⟨g5,0,none⟩),.pointer (some ⟨g6,0,none⟩),.pointer (some ⟨g7,0,none⟩)]) (bs:=[]) Tryz.call132) (fun h=>S.mr h) ?_
 unfold S.eE pn
 rw[Fg,H5]
 refine o_ (AH (by kernel_rfl)) ?_
 refine ab (bM (aZ (RM (k:= .i64) (by kernel_rfl)) .nil ?_))
 refine fX ?_;refine cq ?_;refine fX ?_;refine cq ?_;refine fX ?_;refine cq ?_;refine fX ?_
 unfold S.aR
 (((refine' aQ (cJ ?hc) ?hi ?_);(case hi=>exact aC);(case hc=>repeat constructor)));(((refine' aQ (cJ ?hc) ?hi ?_);(case hi=>exact aC);(case hc=>repeat constructor)));(((refine' aQ (cJ ?hc) ?hi ?_);(case hi=>exact aC);(case hc=>repeat constructor)));(((refine' aQ (cJ ?hc) ?hi ?_);(case hi=>exact aC);(case hc=>repeat constructor)))
 exact cr aC h
theorem Pb {W:World}{p r at_:Nat}{b:List UInt8}{v:Value}{most k:Int}:CnP p_ 138 [.pointer (some ⟨p,0,none⟩),.int .i64 k] W [pt p (.cells #[.pointer (some ⟨r,0,none⟩),v,.int .i64 most] 184),vl r b at_]
  (fun _:If (cD b at_ k=0)=> .int .i64 (bK b at_ k:Int)) (fun _=>[pt p (.cells #[.pointer (some ⟨r,0,none⟩),v,.int .i64 most] 184),vl r b (aY b at_ k)]) (fun _:If (cD b at_ k≠0)=>pn (cD b at_ k)) (fun _=>[]):=by
 (refine S.ik.cnP fun F=>?_;unfold S.fu;simp only[ca_,na_,-eq_self])
 refine o_ aW (o_ aw (ck ?_))
 refine c_ B.take fun _=>?_
 refine iC ?_;refine iC ?_
 (refine' bg (Hc) ?hp (fun _=>?_) (fun _=>?_);(case hp=>(repeat(first|exact Picks.nil|(apply Picks.cons;(focus repeat constructor)))));(all_goals (try simp only[ca_,na_,Bool.not_true,Bool.not_false,-eq_self])))
 ·rename_i x
  refine bC (AV (x.2)) ?_
  exact aC
 ·rename_i y
  refine cI (AV (y.2)) rfl ?_
  exact aC
theorem I7 (b:List UInt8)(at_:Nat):bK b at_ 1=0\/bK b at_ 1=1:=by
 have:=sk (b:=b) (at_:=at_) (k:=1)
 have e:bK b at_ ((1:Nat):Int)=bK b at_ 1:=rfl
 rw[e]at this
 omega
theorem Pd {k:Nat}(hk:k<4):(#[fn 134,fn 135,fn 136,fn 137]:Array Value)[k]? =some (fn (kf k)):=by
 have:k=0\/k=1\/k=2\/k=3:=by omega
 rcases this with rfl|rfl|rfl|rfl <;> rfl
theorem L6 (l:List (Int × Int))(x:Int × Int):(l++[x]).flatMap NK=l.flatMap NK++[I x.1,I x.2]:=by simp[NK]
theorem Ou {W:World}{a:Option Addr}{cap:Nat}{b:List UInt8}{A:HP}{most:Int}(hr:RdB W A a b.length (b.map B))(ha:a=none->b.length=0)(hb:b.length<=140737488355328):
  Cn p_ 103 [.slice a b.length cap,.int .i64 most] W [A]
   (fun q:(Option Addr × Nat) × (Option Addr × Nat)=> .tuple #[.slice q.1.1 (aO b most).length q.1.2,.slice q.2.1 (aL b most).length q.2.2,.int .i64 (aU b most),.int .i64 (aE b most)])
   (fun q=>[Sl 1 5 q.1.1 q.1.2 (aO b most).length ((aO b most).map B),Sl 2 188 q.2.1 q.2.2 (aL b most).length ((aL b most).flatMap NK),A]):=by
 (refine S.yI.cn fun F=>?_;unfold S.uJ;simp only[ca_,na_])
 refine dQ fun g4=>?_
 refine dQ fun g5=>?_
 refine dQ fun g6=>?_
 refine dQ fun g7=>?_
 obtain⟨T,hT⟩:∃T,T=CP b most:=⟨_,rfl⟩
 have bad:∀e:Int,T= .error e->aO b most=[]/\aL b most=[]/\aU b most=0/\aE b most=e:=by
  intro e he
  rw[hT]at he
  simp[aO,aL,aU,aE,he]
 have good:∀(a1:Nat) (o1:List UInt8) (l1:List (Int × Int)),T= .ok (a1,o1,l1)->aO b most=o1/\aL b most=l1/\aU b most=(b.length:Int)-(8 * (b.length:Int)-a1) / 8/\aE b most=0:=by
  intro a1 o1 l1 he
  rw[hT]at he
  simp[aO,aL,aU,aE,he]
 have fin:∀(e:Int) (L:List HP),T= .error e->Imp W L (A::F)->be W L (fun w=>∃q:(Option Addr × Nat) × (Option Addr × Nat),(.tuple #[.slice none 0 0,.slice none 0 0,.int .i64 0,.int .i64 e]:Value)= .tuple #[.slice q.1.1 (aO b most).length q.1.2,.slice q.2.1 (aL b most).length q.2.2,.int .i64 (aU b most),.int .i64 (aE b most)]/\sat W ([Sl 1 5 q.1.1 q.1.2 (aO b most).length ((aO b most).map B),Sl 2 188 q.2.1 q.2.2 (aL b most).length ((aL b most).flatMap NK),A]++F) w):=by
  intro e L he hi
  obtain⟨h1,h2,h3,h4⟩:=bad e he
  rw[h1,h2,h3,h4]
  refine cr hi ?_
  refine d_ (s:=1) (e:=5) ?_
  refine d_ (s:=2) (e:=188) ?_
  refine bf ((none,0),(none,0)) rfl ?_
  exact aC
 unfold CP at hT
 refine eR (fun z=>[pu (z= .bool (decide (most<0\/1048576<most))),pt g4 (.cells #[.slice none 0 0] 23),pt g5 (.cells #[.slice none 0 0] 146),pt g6 (.cells #[.int .i64 0] 3),pt g7 (.cells #[.int .i64 0] 27),A]++F) ?_ ?_
 rotate_left
 ·(refine aF aI .nil (fun h=>?_) (fun h=>?_))
  ·refine ab (a_ (.pu (by rw[dT_ (.inl h)]) ?_))
   exact aC
  ·refine aa (aF bq .nil (fun h=>?_) (fun h=>?_))
   ·refine a_ (.pu (by rw[dT_ (.inr h)]) ?_)
    exact aC
   ·refine a_ (.pu (by rw[dF_ (by omega)]) ?_)
    exact aC
 intro ds z
 refine ay ?_
 refine aT Pick.here fun hz=>?_
 subst hz
 by_cases hm:most<0\/1048576<most
 ·rw[if_pos hm]at hT
  rw[dT_ hm]
  refine ab (fX ?_);refine fX ?_;refine fX ?_;refine fX ?_;(((refine' aQ (cJ ?hc) ?hi ?_);(case hi=>exact aC);(case hc=>repeat constructor)));(((refine' aQ (cJ ?hc) ?hi ?_);(case hi=>exact aC);(case hc=>repeat constructor)));(((refine' aQ (cJ ?hc) ?hi ?_);(case hi=>exact aC);(case hc=>repeat constructor)));(((refine' aQ (cJ ?hc) ?hi ?_);(case hi=>exact aC);(case hc=>repeat constructor)))
  exact fin 1 _ hT aC
 rw[if_neg hm]at hT
 rw[dF_ hm]
 refine aa (o_ aN (aF bq .nil (fun h=>?_) (fun h=>?_)))
 ·rw[if_pos (by omega)]at hT
  refine ab (fX ?_);refine fX ?_;refine fX ?_;refine fX ?_;(((refine' aQ (cJ ?hc) ?hi ?_);(case hi=>exact aC);(case hc=>repeat constructor)));(((refine' aQ (cJ ?hc) ?hi ?_);(case hi=>exact aC);(case hc=>repeat constructor)));(((refine' aQ (cJ ?hc) ?hi ?_);(case hi=>exact aC);(case hc=>repeat constructor)));(((refine' aQ (cJ ?hc) ?hi ?_);(case hi=>exact aC);(case hc=>repeat constructor)))
  exact fin 6 _ hT aC
 rw[if_neg (by omega)]at hT
 refine aa (o_ iB (H3 ?_))
 simp only[List.nil_append,Array.append_empty,List.append_toArray]
 refine c_ (G_ hr ha hb) fun _=>?_
 rename_i pr
 refine o_ cu ?_
 refine cv fun gs=>?_
 refine o_ cu ?_
 refine bm fun gk=>?_
 refine' bY ?hp ?hn ?hv ?h1 ?_
 case hp=>(repeat constructor)
 case hn=>rfl
 case hv=>rfl
 case h1=>simp[fn,Value.oneCell']
 have bad2:∀(e:Int) (L:List HP) (q:Option Addr × Nat) (n:Nat),T= .error e->Imp W L ([pt g4 (.cells #[.slice none 0 0] 23),pt g5 (.cells #[.slice q.1 n q.2] 146),pt g6 (.cells #[.int .i64 0] 3),pt g7 (.cells #[.int .i64 0] 27),A]++F)->be W L (gf p_ {target:= .fn (.func 132) ([.pointer (some ⟨g4,0,none⟩),.pointer (some ⟨g5,0,none⟩),.pointer (some ⟨g6,0,none⟩),.pointer (some ⟨g7,0,none⟩)]:List Value).toArray,args:=([]:List Value).toArray} (S.aR (.pointer (some ⟨g4,0,none⟩)) (.pointer (some ⟨g5,0,none⟩)) (.pointer (some ⟨g6,0,none⟩)) (.pointer (some ⟨g7,0,none⟩)) (fun v w=>∃q:(Option Addr × Nat) × (Option Addr × Nat),v= .tuple #[.slice q.1.1 (aO b most).length q.1.2,.slice q.2.1 (aL b most).length q.2.2,.int .i64 (aU b most),.int .i64 (aE b most)]/\sat W ([Sl 1 5 q.1.1 q.1.2 (aO b most).length ((aO b most).map B),Sl 2 188 q.2.1 q.2.2 (aL b most).length ((aL b most).flatMap NK),A]++F) w)) jY (pn e)):=by
  intro e L q n he hi
  refine cr hi ?_
  refine ay ?_
  refine Sc ?_
  exact fin e _ he aC
 refine d_ (s:=2) (e:=188) ?_
 refine d_ (s:=1) (e:=5) ?_
 refine cr (M:=o7 gs b 0 [] most::Sl 2 188 none 0 0 []::pt gk (.cells #[fn 134,fn 135,fn 136,fn 137] 186)::pt g4 (.cells #[.slice none 0 0] 23)::pt g5 (.cells #[.slice none 0 0] 146)::pt g6 (.cells #[.int .i64 0] 3)::pt g7 (.cells #[.int .i64 0] 27)::A::F) (.ex (pr,(none,0)) (.all (.pick (by repeat constructor) (.pick (by repeat constructor) (.pick (by repeat constructor) aC))))) ?_
 have hm0:0<=most/\most<=1048576:=by omega
 refine bj (fun m y=>[ex fun at1:Nat=>ex fun out:List UInt8=>ex fun l:List (Int × Int)=>ex fun q:Option Addr × Nat=>all [pu (((y= .int .i64 0/\8 * b.length+1<=m+at1/\T=iP b most m at1 out l)\/(y= .int .i64 1/\T= .ok (at1,out,l)))/\(out.length:Int)<=most/\l.length<=at1),o7 gs b at1 out most,Sl 2 188 q.1 q.2 l.length (l.flatMap NK),pt gk (.cells #[fn 134,fn 135,fn 136,fn 137] 186),pt g4 (.cells #[.slice none 0 0] 23),pt g5 (.cells #[.slice q.1 l.length q.2] 146),pt g6 (.cells #[.int .i64 0] 3),pt g7 (.cells #[.int .i64 0] 27),A]]++F) (8 * b.length+1) ?_ ?_
 ·refine .ex 0 (.ex [] (.ex [] (.ex (none,0) (.all ?_))))
  refine ay ?_
  refine .pu ⟨.inl ⟨rfl,by omega,hT⟩,by simpa using hm0.1,by simp⟩ ?_
  exact aC
 clear hT
 intro m ds y
 refine ay ?_
 refine aX Pick.here fun at1=>aX Pick.here fun out=>aX Pick.here fun l=>aX Pick.here fun q=>aB Pick.here ?_
 obtain⟨qa,qc⟩:=q
 refine ay ?_
 refine aT Pick.here fun hi=>?_
 obtain⟨hi,ho,hll⟩:=hi
 refine xj .here fun hat=>?_
 rcases hi with ⟨rfl,hm,hT⟩|⟨rfl,hT⟩
 ·refine o_ bF ?_
  rw[dT_ rfl]
  refine ab ?_
  obtain⟨m,rfl⟩:∃m',m=m'+1:=⟨m-1,by omega⟩
  rw[iP]at hT
  (refine' bg (mG) ?hp (fun _=>?_) (fun _=>?_);(case hp=>(repeat(first|exact Picks.nil|(apply Picks.cons;(focus repeat constructor)))));(all_goals (try simp only[ca_,na_,Bool.not_true,Bool.not_false,-eq_self])))
  rotate_left
  ·rename_i y
   rw[if_pos y.2]at hT
   exact bad2 _ _ (qa,qc) l.length hT aC
  rename_i x1
  rw[if_neg (fun c=>c x1.2)]at hT
  have ha1:aY b at1 1=at1+1:=by unfold aY;rw[if_pos x1.2];rfl
  have hl1:=I7 b at1
  obtain⟨last,hlast⟩:∃l,l=bK b at1 1:=⟨_,rfl⟩
  rw[<- hlast]at hl1
  rw[<- hlast,ha1]at hT ⊢
  refine bM (aX Pick.here fun q=>aB Pick.here ?_)
  obtain⟨r,sa,sc⟩:=q
  refine ay ?_
  refine aZ aW .nil ?_;refine aZ aw .nil ?_;(((refine' aZ (br ?hc) ?hi ?_);(case hi=>exact .pick (by repeat constructor) .nil);(case hc=>repeat constructor)));refine aZ aN .nil ?_
  (refine' bg (Pb) ?hp (fun _=>?_) (fun _=>?_);(case hp=>(repeat(first|exact Picks.nil|(apply Picks.cons;(focus repeat constructor)))));(all_goals (try simp only[ca_,na_,Bool.not_true,Bool.not_false,-eq_self])))
  rotate_left
  ·rename_i y
   rw[if_pos y.2]at hT
   exact bad2 _ _ (qa,qc) l.length hT aC
  rename_i x2
  rw[if_neg (fun c=>c x2.2)]at hT
  have hk4:=sk (b:=b) (at_:=at1+1) (k:=2)
  have hkE:bK b (at1+1) ((2:Nat):Int)=bK b (at1+1) 2:=rfl
  rw[hkE]at hk4
  have hlt2:=dw b (at1+1) 2
  obtain⟨kk,hkk⟩:∃k,k=bK b (at1+1) 2:=⟨_,rfl⟩
  obtain⟨a2,ha2⟩:∃a,a=aY b (at1+1) 2:=⟨_,rfl⟩
  rw[<- hkk]at hk4
  rw[<- ha2]at hlt2
  rw[<- hkk,<- ha2]at hT ⊢
  have hk4:kk<4:=hk4
  refine cq ?_;refine cq ?_;refine cq ?_;refine cq ?_
  refine o_ (dL kk (by rfl) hk4) ?_
  refine cm (iA (v:=fn (kf kk)) (by rw[Nat.zero_add,Nat.mul_one];exact Pd hk4)) ?_
  refine cr (M:=o7 gs b a2 out most::Sl 2 188 qa qc l.length (l.flatMap NK)::pt gk (.cells #[fn 134,fn 135,fn 136,fn 137] 186)::pt g4 (.cells #[.slice none 0 0] 23)::pt g5 (.cells #[.slice qa l.length qc] 146)::pt g6 (.cells #[.int .i64 0] 3)::pt g7 (.cells #[.int .i64 0] 27)::A::F) (.ex (r,(sa,sc)) (.all (.pick (by repeat constructor) (.pick (by repeat constructor) (.pick (by repeat constructor) aC))))) ?_
  (refine' bg (kind hk4 hm0 ho) ?hp (fun _=>?_) (fun _=>?_);(case hp=>(repeat(first|exact Picks.nil|(apply Picks.cons;(focus repeat constructor)))));(all_goals (try simp only[ca_,na_,Bool.not_true,Bool.not_false,-eq_self])))
  rotate_left
  ·rename_i y
   have hy:=y.2
   rw[hy]at hT
   exact bad2 _ _ (qa,qc) l.length hT aC
  rename_i x3
  obtain⟨⟨a3,o3⟩,hx3⟩:=x3
  rw[hx3]at hT
  simp only at hT
  have ho3:=Jm hx3 ho
  have ha3:=Jo hx3
  (try dsimp only)
  refine bM (aX Pick.here fun q=>aB Pick.here ?_)
  obtain⟨r3,sa3,sc3⟩:=q
  refine ay ?_
  (((refine' aZ (br ?hc) ?hi ?_);(case hi=>exact .pick (by repeat constructor) .nil);(case hc=>repeat constructor)));refine t_ aW ?_;refine t_ aw ?_;refine kS ?_;refine t_ aN ?_;(refine t_ (ep (by omega) (by omega)) ?_);refine t_ cu ?_
  refine fp (n:=1) (vs:=[.agg #[.int .i64 (kk:Int),.int .i64 ((o3.length:Int)-(out.length:Int))]]) rfl (by omega) rfl (by intro v hv;rw[List.mem_singleton.1 hv];rfl) (by omega) fun gb=>?_
  refine cq ?_
  refine co (m:=1) (news:=[I (kk:Int),I ((o3.length:Int)-(out.length:Int))]) (by repeat constructor) (dq (e':=188) (by kernel_rfl) .here (by rfl) (by simp[Value.cells,I,Value.oneCell'])) (by omega) (by omega) fun a' c'=>?_
  refine fX ?_
  have hT':(last=0/\T=iP b most m a3 o3 (l++[((kk:Int),(o3.length:Int)-(out.length:Int))]))\/(last=1/\T= .ok (a3,o3,l++[((kk:Int),(o3.length:Int)-(out.length:Int))])):=by
   rcases hl1 with h|h
   ·exact .inl ⟨h,by rw[hT,if_pos h]⟩
   ·exact .inr ⟨h,by rw[hT,if_neg (by omega)]⟩
  refine aP m (by omega) (.ex a3 (.ex o3 (.ex (l++[((kk:Int),(o3.length:Int)-(out.length:Int))]) (.ex (a',c') (.all ?_)))))
  refine ay ?_
  refine .pu ⟨?_,ho3,by rw[List.length_append,List.length_singleton];omega⟩ ?_
  ·rcases hT' with ⟨h,e⟩|⟨h,e⟩
   ·subst h;exact .inl ⟨rfl,by omega,e⟩
   ·subst h;exact .inr ⟨rfl,e⟩
  refine .ex (r3,(sa3,sc3)) (.all ?_)
  refine ay ?_
  rw[List.length_append,L6,List.length_singleton]
  exact .pick (by repeat constructor) (.pick (by repeat constructor) (.pick (by repeat constructor) (.pick (by repeat constructor) (.pick (by repeat constructor) (.pick (by repeat constructor) (.pick (by repeat constructor) (.pick (by repeat constructor) (.pick (by repeat constructor) (.pick (by repeat constructor) aC)))))))))
 ·refine o_ bF ?_
  rw[dF_ (by omega)]
  refine aa (bM (aX Pick.here fun q=>aB Pick.here ?_))
  obtain⟨r,sa,sc⟩:=q
  refine ay ?_
  refine aZ aW .nil ?_;refine aZ aw .nil ?_;(((refine' aZ (br ?hc) ?hi ?_);(case hi=>exact .pick (by repeat constructor) .nil);(case hc=>repeat constructor)));(((refine' aZ (br ?hc) ?hi ?_);(case hi=>exact .pick (by repeat constructor) .nil);(case hc=>repeat constructor)));refine aZ aN .nil ?_;refine t_ aW (t_ aw (kS ?_))
  refine c_ left fun _=>?_
  refine cq ?_;refine cq ?_;refine cq ?_;refine cq ?_;refine cq ?_;(((refine aZ (uo ?h1 ?h2 ?h3) .nil ?_);(case h1=>omega);(case h2=>omega);(case h3=>omega)));(refine aZ (ep (by omega) (by omega)) .nil ?_);refine fX ?_;refine cq ?_;refine cq ?_;refine cq ?_;refine cq ?_;refine fX ?_;refine cq ?_;refine cq ?_;refine cq ?_;refine fX ?_;refine fX ?_
  obtain⟨g1,g2,g3,g4'⟩:=good _ _ _ hT
  rw[g1,g2,g3,g4']
  refine Fe (f:=132) (A:=[.pointer (some ⟨g4,0,none⟩),.pointer (some ⟨g5,0,none⟩),.pointer (some ⟨g6,0,none⟩),.pointer (some ⟨g7,0,none⟩)]) (shape:=fun rv=>S.eE (.pointer (some ⟨g4,0,none⟩)) (.pointer (some ⟨g5,0,none⟩)) (.pointer (some ⟨g6,0,none⟩)) (.pointer (some ⟨g7,0,none⟩)) rv) (fun c=>by cases c) ⟨_,_,rfl⟩ (j_ (cs:=[.pointer (some ⟨g4,0,none⟩),.pointer (some ⟨g5,0,none⟩),.pointer (some ⟨g6,0,none⟩),.pointer (some ⟨g7,0,none⟩)]) (bs:=[]) Tryz.call132) (fun h=>S.mr h) ?_
  unfold S.eE
  rw[Ff,H4]
  refine o_ (vz (by kernel_rfl)) ?_
  refine aa ?_
  unfold S.aR
  (((refine' aQ (cJ ?hc) ?hi ?_);(case hi=>exact aC);(case hc=>repeat constructor)));(((refine' aQ (cJ ?hc) ?hi ?_);(case hi=>exact aC);(case hc=>repeat constructor)));(((refine' aQ (cJ ?hc) ?hi ?_);(case hi=>exact aC);(case hc=>repeat constructor)));(((refine' aQ (cJ ?hc) ?hi ?_);(case hi=>exact aC);(case hc=>repeat constructor)))
  refine bf ((sa,sc),(qa,qc)) rfl ?_
  refine ay ?_
  exact .pick (by repeat constructor) (.pick (by repeat constructor) (.pick (by repeat constructor) aC))
theorem L7 {W:World}{a:Option Addr}{cap:Nat}{b:List UInt8}{A:HP}{most:Int}(hr:RdB W A a b.length (b.map B))(ha:a=none->b.length=0)(hb:b.length<=140737488355328):
  Cn p_ 67 [.slice a b.length cap,.int .i64 most] W [A] (fun q:Option Addr × Nat=> .tuple #[.slice q.1 (aO b most).length q.2,.int .i64 (aU b most),.int .i64 (aE b most)]) (fun q=>[Sl 1 5 q.1 q.2 (aO b most).length ((aO b most).map B),A]):=by
 (refine S.rh.cn fun F=>?_;unfold S.mn;simp only[ca_,na_])
 refine c_ (Ou hr ha hb) fun _=>?_
 rename_i q
 obtain⟨⟨oa,oc⟩,⟨la,lc⟩⟩:=q
 (try dsimp only)
 refine o_ (bS (v:= .slice oa (aO b most).length oc) rfl) ?_
 refine o_ (bS (v:= .slice la (aL b most).length lc) rfl) ?_
 refine o_ (bS (v:= .int .i64 (aU b most)) rfl) ?_
 refine o_ (bS (v:= .int .i64 (aE b most)) rfl) ?_
 refine bC ((oa,oc)) ?_
 exact aC
end IF
set_option maxRecDepth 4000
namespace IF
open Go Go.Proofs Go.RowKit Sh Sl T HM HF B M
def xl (p:Pz):Pc:=⟨p.len.toNat,p.dist.toNat,p.c⟩
theorem A7 {l:List Int}{N:Nat}(hok:okL l)(hN:N<l.length)(h1:1<=l[N]):j7 l N:=by
 have hNc:N<(dY l).length:=by rw[gK];exact hN
 have hin:=hok.ins l[N] (List.getElem_mem hN)
 obtain⟨n,hn⟩:=Int.eq_ofNat_of_zero_le (show 0<=l[N] by omega)
 have hcode:(dY l)[N]=(bQ l N:Int):=by simp[dY]
 have hlt:bQ l N<2^n:=by
  rw[jO hN hn (by omega)]
  exact hok.cur_lt' hN hn (by omega) (by omega)
 refine⟨((dY l)[N],l[N].toNat),?_⟩
 rw[EE hNc hN,if_pos ⟨h1,hin.2,by rw[hcode];omega,by
  rw[hcode,hn,Int.toNat_natCast]
  exact_mod_cast hlt⟩]
theorem A8 {s:Nat}(h:s<288):j7 lz s:=by
 have hl:s<lz.length:=by rw[se];exact h
 refine A7 A4 hl ?_
 have:∀x∈lz,1<=x:=by
  intro x hx
  unfold lz at hx
  simp only[List.mem_append,List.mem_replicate]at hx
  omega
 exact this _ (List.getElem_mem hl)
theorem L8 {s:Nat}(h:s<32):j7 lC s:=by
 have hl:s<lC.length:=by rw[sf];exact h
 refine A7 A6 hl ?_
 have:∀x∈lC,1<=x:=by
  intro x hx
  unfold lC at hx
  rw[List.mem_replicate]at hx
  omega
 exact this _ (List.getElem_mem hl)
theorem L9 {p:Pz}(h:(p.len=0/\p.dist=0)\/(3<=p.len/\p.len<=258/\1<=p.dist/\p.dist<=32768)):tO lz lC (xl p):=by
 unfold tO
 by_cases c:(xl p).len=0
 ·rw[if_pos c]
  have:=p.c.toNat_lt
  exact A8 (s:=(xl p).c.toNat) (by show p.c.toNat<288;omega)
 ·rw[if_neg c]
  have hc:¬p.len.toNat=0:=c
  rcases h with h|h
  ·omega
  ·have e1:(((xl p).len:Nat):Int)=p.len:=by show((p.len.toNat:Nat):Int)=_;omega
   have e2:(((xl p).dist:Nat):Int)=p.dist:=by show((p.dist.toNat:Nat):Int)=_;omega
   rw[e1,e2]
   obtain⟨s,e,k,hs,h1,h2,_⟩:=sg (n:=p.len) (by omega) (by omega)
   obtain⟨t,e',k',ht,h3,_⟩:=si (n:=p.dist) (by omega) (by omega)
   rw[hs,ht]
   exact⟨A8 (by omega),L8 (by omega)⟩
end IF
namespace IF
open Go Go.Proofs Go.RowKit HM HF B M
theorem zu {b:List UInt8}{j d:Nat}(h1:1<=d)(hd:d<=j):∀n,(∀k,k<n->j+k<b.length/\b[j-d+k]? =b[j+k]?)->j<=b.length->eM (b.take j) d n=b.take (j+n)
 |0,_,_=>rfl
 |n+1,h,hj=>by
  have ih:=zu h1 hd n (fun k hk=>h k (by omega)) hj
  obtain⟨e1,e2⟩:=h n (by omega)
  rw[eM,ih,<- Nat.add_assoc,List.take_succ_eq_append_getElem e1]
  congr 2
  rw[List.length_take,Nat.min_eq_left (by omega),List.getD_eq_getElem?_getD,List.getElem?_take,if_pos (by omega),show j+n-d=j-d+n by omega,e2,List.getElem?_eq_getElem e1];rfl
theorem Pe {b:List UInt8}{j:Nat}{p:Pz}(hj:j<b.length)(h:gP b j p):R_ (b.take j).length (xl p)/\jf (b.take j) (xl p)=b.take (j+gT p):=by
 have hl:(b.take j).length=j:=by rw[List.length_take];omega
 rw[hl]
 rcases h with ⟨h1,h2,h3⟩|⟨n,d,h1,h2,h3,h4,h5,h6,h7,h8,h9⟩
 ·refine⟨.inl ⟨by simp[xl,h1],by simp[xl,h2]⟩,?_⟩
  unfold jf gT
  simp only[xl,h1,Int.toNat_zero]
  rw[if_pos trivial,h3,List.getD_eq_getElem?_getD,List.getElem?_eq_getElem hj]
  exact(List.take_succ_eq_append_getElem hj).symm
 ·refine⟨.inr ?_,?_⟩
  ·simp only[xl,h1,h2,Int.toNat_natCast]
   exact⟨h4,h5,h6,h7,h8,h3⟩
  ·unfold jf gT
   simp only[xl,h1,h2,Int.toNat_natCast]
   rw[if_neg (by omega),show max 1 n=n by omega]
   exact zu h6 h8 n h9 (by omega)
def CQ (b:List UInt8):Nat->List Pz->Prop
 |_,[]=>True
 |j,p::r=>j<b.length/\gP b j p/\CQ b (j+gT p) r
def dZ:Nat->List Pz->Nat
 |j,[]=>j
 |j,p::r=>dZ (j+gT p) r
theorem nZ:∀(l m:List Pz) (j:Nat),dZ j (l++m)=dZ (dZ j l) m
 |[],m,j=>rfl
 |p::l,m,j=>nZ l m _
theorem qr {b:List UInt8}:∀ {l m:List Pz} {j:Nat},CQ b j (l++m)↔CQ b j l/\CQ b (dZ j l) m
 |[],m,j=>by simp[CQ,dZ]
 |p::l,m,j=>by
  rw[List.cons_append]
  simp only[CQ,dZ]
  rw[qr (l:=l)]
  exact⟨fun⟨a,c,d,e⟩=>⟨⟨a,c,d⟩,e⟩,fun⟨⟨a,c,d⟩,e⟩=>⟨a,c,d,e⟩⟩
theorem A9 {b:List UInt8}:∀ {l:List Pz} {j:Nat},CQ b j l->j<=b.length->dZ j l<=b.length
 |[],j,_,h=>h
 |p::l,j,h,hj=>A9 (l:=l) h.2.2 (tP h.2.1 h.1).1
theorem sl:∀(l:List Pz) (j:Nat),j+l.length<=dZ j l
 |[],j=>by simp[dZ]
 |p::l,j=>by
  have:=sl l (j+gT p)
  have:=sj p
  simp only[dZ,List.length_cons];omega
theorem FQ {b:List UInt8}:∀ {l:List Pz} {j:Nat},CQ b j l->j<=b.length->EG (b.take j) (l.map xl)/\(l.map xl).foldl jf (b.take j)=b.take (dZ j l)
 |[],j,_,_=>⟨trivial,rfl⟩
 |p::l,j,h,hj=>by
  obtain⟨e1,e2⟩:=Pe h.1 h.2.1
  have ih:=FQ h.2.2 (tP h.2.1 h.1).1
  rw[List.map_cons,List.foldl_cons,e2]
  exact⟨⟨e1,by rw[e2];exact ih.1⟩,ih.2⟩
theorem FR {b:List UInt8}{w d:Nat}(hw:w<=32768):∀(f j:Nat),b.length+1<=f+j->j<=b.length->CQ b j (LX b w d f j)/\dZ j (LX b w d f j)=b.length
 |0,j,h1,h2=>by omega
 |f+1,j,h1,h2=>by
  rw[LX]
  by_cases c:j<b.length
  ·rw[if_pos c]
   have hg:gP b j (fJ b w d j):=xi hw
   have he:=tP hg c
   have:=sj (fJ b w d j)
   obtain⟨e1,e2⟩:=FR (b:=b) (w:=w) (d:=d) hw f (j+gT (fJ b w d j)) (by omega) he.1
   exact⟨⟨c,hg,e1⟩,e2⟩
  ·rw[if_neg c]
   exact⟨trivial,by simp[dZ];omega⟩
def tR (b:List UInt8):List Pz:=b.map fun c=>⟨0,0,c⟩
def jQ (b:List UInt8)(level:Int):List Pz:=if 0<level then oM b 32768 (2 * 2^level.toNat)else tR b
theorem CR {b:List UInt8}:∀(r:List UInt8) (j:Nat),b.drop j=r->CQ b j (tR r)/\dZ j (tR r)=j+r.length
 |[],j,h=>⟨trivial,rfl⟩
 |c::r,j,h=>by
  have hj:j<b.length:=by
   rcases Nat.lt_or_ge j b.length with d|d
   ·exact d
   ·rw[List.drop_of_length_le d]at h;cases h
  rw[List.drop_eq_getElem_cons hj]at h
  obtain⟨h1,h2⟩:=List.cons.inj h
  obtain⟨e1,e2⟩:=CR (b:=b) r (j+1) h2
  refine⟨⟨hj,.inl ⟨rfl,rfl,?_⟩,e1⟩,?_⟩
  ·rw[List.getD_eq_getElem?_getD,List.getElem?_eq_getElem hj];exact h1.symm
  ·show dZ (j+1) (tR r)=_
   rw[e2,List.length_cons];omega
theorem xm (b:List UInt8)(level:Int):CQ b 0 (jQ b level)/\dZ 0 (jQ b level)=b.length:=by
 unfold jQ
 split
 ·exact FR (Nat.le_refl _) _ _ (by omega) (by omega)
 ·have:=CR (b:=b) b 0 (by simp)
  rw[Nat.zero_add]at this
  exact this
theorem Jp (b:List UInt8)(level:Int):(jQ b level).length<=b.length:=by
 have h:=xm b level
 have:=sl (jQ b level) 0
 omega
end IF
namespace HF
open Go Go.Proofs Go.RowKit Sh Sl T HM
section rules
variable {P:Program} {W:World} {L L':List HP} {Kp:PK} {k:Value->WP} {A:HP}
theorem NL {t e ty:TypeId}{s b:Nat}{a:Option Addr}{n cap:Nat}[ht:SlT P t e s b]:bb P W [] (vV #[t] ty [.slice a n cap]) (.int .i64 (cap:Int)):=fun w _=>by
 simp[vV,Builtin.cap_,run_underlying ht.ut,goInt]
theorem L_ {t:TypeId}{n m g o j:Nat}{cs vs:List Value}[ht:AggT P t n](H:RdB W A (some ⟨g,o,none⟩) m cs)(hn:vs.length=n)(hc:∀i,i<n->cs[j+i]? =vs[i]?):bb P W [A] (af t (.pointer (some ⟨g,o+j,none⟩))) (.agg vs.toArray):=fun w hw=>by
 have h:(loadCells ⟨g,o+j,none⟩ n).run P w= .ok vs.toArray w:=by
  subst hn
  refine run_loadCells_list (P:=P) w ⟨g,o+j,none⟩ vs (fun i v hv=>?_)
  have hi:i<vs.length:=by
   rcases Nat.lt_or_ge i vs.length with c|c
   ·exact c
   ·rw[List.getElem?_eq_none c]at hv;cases hv
  have hcv:=hc i hi
  rw[hv]at hcv
  have hl:=H.len
  have hlt:j+i<cs.length:=by
   rcases Nat.lt_or_ge (j+i) cs.length with c|c
   ·exact c
   ·rw[List.getElem?_eq_none c]at hcv;cases hcv
  obtain⟨g',o',e,hcell⟩:=H.at_ (by omega)
  injection e with e;injection e with e1 e2;subst e1;subst e2
  rw[db,Nat.add_assoc]
  exact hcell w [] hw (j+i) v hcv
 simp[af,Instr.loadAt,Instr.sureAddr,loadVar,ht.agg,ht.size,h]
theorem Ma {cs rest vs:List Value}{o n j:Nat}(hn:vs.length=n)(ho:o+n<=cs.length):(cs.take o++vs++cs.drop (o+n)++rest)[j]? =if o<=j/\j<o+n then vs[j-o]? else(cs++rest)[j]? :=by
 simp only[List.getElem?_append,List.length_append,List.length_take,List.length_drop,hn,Nat.min_eq_left (show o<=cs.length by omega),List.getElem?_take,List.getElem?_drop]
 repeat' split
 all_goals first|rfl|omega|(congr 1;omega)
theorem A_ {t e:TypeId} {s n g o cap m:Nat} {cs:List Value} {vs:Array Value} [ht:AggT P t n] (p:Pick L (Sl s e (some ⟨g,0,none⟩) cap m cs) L') (hv:vs.size=n) (ho:o+n<=cs.length) (h1:∀u∈vs.toList,u.oneCell'=true)
  (h:be W (Sl s e (some ⟨g,0,none⟩) cap m (cs.take o++vs.toList++cs.drop (o+n))::L') (k undef)):be W L (opN P (ak t (.pointer (some ⟨g,o,none⟩)) (.agg vs)) Kp k):=fun w hw=>by
 obtain⟨rest,r1,r2,r3,r4,hp⟩:=kE (hw.pick p)
 have hst:=run_storeCells_cells (P:=P) g o vs.toList 0 w (fun j hj=>by
  rw[hp.cell,Array.getElem?_eq_getElem (by simp at hj ⊢;omega)];rfl) (fun j _=>hp.free) h1
 obtain⟨cs',c1,c2,c3⟩:=jA g (o+0) vs.toList w _ _ hp
 refine⟨?_⟩
 have hvl:vs.toList.length=n:=by simp[hv]
 have:(ak t (.pointer (some ⟨g,o,none⟩)) (.agg vs)).run P w= .ok .skip (w.setCells g (o+0) vs.toList):=by
  simp[ak,Instr.storeAt,Instr.sureAddr,storeVar,ht.size,Value.cells,hv,hst]
 rw[this]
 refine h _ (oE r1 (by simp[hv];omega) r3 r4 ?_)
 have he:cs'=(cs.take o++vs.toList++cs.drop (o+n)++rest).toArray:=by
  apply Array.ext_getElem?
  intro j
  rw[c3]
  simp only[Nat.add_zero,List.size_toArray,List.length_append,List.getElem?_toArray,hvl]
  rw[Ma hvl ho]
  by_cases hj:o<=j/\j<o+n
  ·rw[if_pos hj,if_pos ⟨hj.1,hj.2,by omega⟩]
  ·rw[if_neg hj,if_neg (fun c=>hj ⟨c.1,c.2.1⟩)]
 rwa [he]at c1
theorem Pf {t tn ty e:TypeId} {s b n:Nat} [ht:SlT P t e s b] (htn:P.underlying tn=some (.int .i64)) (h0:0<n) (hs:0<s) (h1:n * b<=140737488355328) (h2:n<=4611686018427387904)
  (h:∀g cap,n<=cap->be W (Sl s e (some ⟨g,0,none⟩) cap 0 []::L) (k (.slice (some ⟨g,0,none⟩) n cap))):be W L (opN P (cP #[t,tn] ty [.slice none 0 0,.int .i64 (n:Int)]) Kp k):=fun w hw=>by
 obtain⟨i,z,hi,hz,hs',hb,hzs⟩:=ht.info
 subst hs';subst hb
 refine⟨?_⟩
 have hr:=Lib.run_append_nil_zeros (P:=P) w t tn ty e i z .i64 .i64 ht.ut htn hi hz n h0 hs (by omega) (by omega)
 have:(cP #[t,tn] ty [.slice none 0 0,.int .i64 (n:Int)]).run P w= .ok (.value (.slice (some ⟨w.heap.size,0,none⟩) n (grownCap w n 0 e))) (w.drew.alloc (.cells (Builtin.zeroCells z.cells n++Builtin.zeroCells z.cells (grownCap w n 0 e-n)) e)):=by simp[cP,hr]
 rw[this]
 have hge:=grownCap_ge w n 0 e
 have hle:=grownCap_le_maxLen w n 0 e (by unfold maxLen;omega)
 refine h _ _ hge _ ?_
 have ha:=(hw.drew).alloc (.cells (Builtin.zeroCells z.cells n++Builtin.zeroCells z.cells (grownCap w n 0 e-n)) e)
 have he:(Builtin.zeroCells z.cells n++Builtin.zeroCells z.cells (grownCap w n 0 e-n))=([]++(Builtin.zeroCells z.cells n++Builtin.zeroCells z.cells (grownCap w n 0 e-n)).toList).toArray:=by simp
 rw[he]at ha ⊢
 refine oE (g:=w.heap.size) ?_ (by simp) (by omega) hle ha
 simp only[Array.toList_append,List.length_append,Array.length_toList,size_zeroCells,hzs,Nat.sub_zero]
 rw[<- Nat.add_mul];congr 1;omega
end rules
structure It where
 n:Int
 g:Nat
 c:Nat
 w:List Int
def ic (x:It):List Value:=[I x.n,.slice (some ⟨x.g,0,none⟩) x.w.length x.c]
theorem tS (x:It):(ic x).length=2:=rfl
def er (x:It):Int × List Int:=(x.n,x.w)
def av (x:It):Value:= .agg #[I x.n,.slice (some ⟨x.g,0,none⟩) x.w.length x.c]
theorem n5 (x:It):∀u∈ic x,u.oneCell'=true:=by
 intro u hu;simp[ic]at hu;rcases hu with rfl|rfl <;> rfl
theorem Mc (xs:List It):∀u∈xs.flatMap ic,u.oneCell'=true:=by
 intro u hu
 obtain⟨x,_,hx⟩:=List.mem_flatMap.1 hu
 exact n5 x u hx
theorem gM (xs:List It):(xs.flatMap ic).length=xs.length * 2:=dM tS xs
theorem Ba (xs:List It)(j:Nat)(y:It)(h:j<xs.length):(xs.flatMap ic).take (j * 2)++ic y++(xs.flatMap ic).drop (j * 2+2)=(xs.set j y).flatMap ic:=by
 induction xs generalizing j with
 |nil=>simp at h
 |cons x xs ih=>
  cases j with
  |zero=>simp[ic]
  |succ j=>
   have:=ih j (by simpa using h)
   rw[List.set_cons_succ,List.flatMap_cons,List.flatMap_cons,<- this,show(j+1) * 2=j * 2+1+1 by omega,show j * 2+1+1+2=(j * 2+2)+1+1 by omega]
   simp[ic]
theorem Pg {W:World}{a b:Int}:Cn p_ 241 [.int .i64 a,.int .i64 b] W [] (fun _:Unit=> .int .i64 (if a<b then-1 else if b<a then 1 else 0)) (fun _=>[]):=by
 have nan:∀x:Int,Cn p_ 252 [.int .i64 x] W [] (fun _:Unit=> .bool false) (fun _=>[]):=fun x=>by
  (refine S.vj.cn fun F=>?_;unfold S.pD;simp only[ca_,na_])
  refine o_ eS ?_
  rw[dF_ (by simp)]
  refine bC () ?_
  exact .refl
 (refine S.rM.cn fun F=>?_;unfold S.mE;simp only[ca_,na_])
 refine c_ (nan a) fun _=>?_
 refine c_ (nan b) fun _=>?_
 refine aa (aa (aF aI .nil (fun h=>?_) (fun h=>?_)))
 ·rw[if_pos h]
  refine ab (bC () ?_)
  exact .refl
 rw[if_neg h]
 refine aa (aF bq .nil (fun h=>?_) (fun h=>?_))
 ·rw[if_pos h]
  refine ab (bC () ?_)
  exact .refl
 ·rw[if_neg h]
  refine aa (bC () ?_)
  exact .refl
theorem CS {W:World}{x y:It}:Cn p_ 240 [av x,av y] W [] (fun _:Unit=> .int .i64 (if x.n<y.n then-1 else if y.n<x.n then 1 else 0)) (fun _=>[]):=by
 (refine S.tG.cn fun F=>?_;unfold S.nK;simp only[ca_,na_])
 unfold av I
 refine cv fun g=>?_;refine cv fun g=>?_;refine o_ aw (ck ?_);refine o_ aw (ck ?_)
 refine c_ Pg fun _=>?_
 refine bC () ?_
 exact aC
end HF
namespace HF
open Go Go.Proofs Go.RowKit Sh Sl T HM
theorem qt {P:Program}{W:World}{s:Nat}{e:TypeId}{a:Option Addr}{cap n:Nat}{cs:List Value}(hl:cs.length=n * s)(ha:0<n->∃g,a=some ⟨g,0,none⟩):RdB W (Sl s e a cap n cs) a (n * s) cs:=⟨hl,fun hn=>by
 have hn0:0<n:=Nat.pos_of_mul_pos_right hn
 obtain⟨g,rfl⟩:=ha hn0
 refine⟨g,0,rfl,fun w L hw j v hv=>?_⟩
 obtain⟨rest,r1,r2,r3,r4,hp⟩:=kE hw
 rw[Nat.zero_add,hp.cell]
 have hj:j<cs.length:=by
  rcases Nat.lt_or_ge j cs.length with c|c
  ·exact c
  ·rw[List.getElem?_eq_none c]at hv;cases hv
 simpa [List.getElem?_append_left hj]using hv⟩
theorem Bb {W:World}{A:HP}{g o j:Nat}{ys:List It}(H:RdB W A (some ⟨g,o,none⟩) (ys.length * 2) (ys.flatMap ic))(hj:j<ys.length):bb p_ W [A] (af 319 (.pointer (some ⟨g,o+j * 2,none⟩))) (av ys[j]):=
 L_ (vs:=ic ys[j]) H (by rfl) fun i hi=>gA tS ys j i hj hi
section spec
variable {α:Type} (key:α->Int)
def ey (acc:List α)(x:α):Nat->List α
 |0=>x::acc
 |j+1=>match acc[j]? with
  |some y=>if key x<key y then ey acc x j else acc.take (j+1)++x::acc.drop (j+1)
  |none=>acc++[x]
def mT (acc:List α)(x:α):List α:=ey key acc x acc.length
def bt (xs:List α):List α:=xs.foldl (mT key) []
theorem sm (acc:List α)(x:α):∀j,(ey key acc x j).length=acc.length+1
 |0=>by simp[ey]
 |j+1=>by
  unfold ey
  split
  ·split
   ·exact sm acc x j
   ·simp;omega
  ·simp
theorem ix (xs:List α)(x:α):bt key (xs++[x])=mT key (bt key xs) x:=by simp[bt]
theorem cT (xs:List α):(bt key xs).length=xs.length:=by
 have:∀n,∀xs:List α,xs.length=n->(bt key xs).length=n:=by
  intro n
  induction n with
  |zero=>intro xs h;rw[List.eq_nil_of_length_eq_zero h];rfl
  |succ n ih=>
   intro xs h
   have e:=List.take_append_drop n xs
   obtain⟨x,hx⟩:∃x,xs.drop n=[x]:=List.length_eq_one_iff.1 (by simp;omega)
   rw[hx]at e
   rw[<- e,ix,mT,sm,ih _ (by simp;omega)]
 exact this _ xs rfl
theorem zv {β:Type}(k2:β->Int)(f:α->β)(hk:∀x,k2 (f x)=key x)(acc:List α)(x:α):∀j,(ey key acc x j).map f=ey k2 (acc.map f) (f x) j
 |0=>by simp[ey]
 |j+1=>by
  unfold ey
  rw[List.getElem?_map]
  cases h:acc[j]? with
  |none=>simp
  |some y=>
   simp only[Option.map_some,hk]
   split
   ·exact zv k2 f hk acc x j
   ·simp[List.map_take,List.map_drop]
theorem Hh {β:Type}(k2:β->Int)(f:α->β)(hk:∀x,k2 (f x)=key x)(xs:List α):(bt key xs).map f=bt k2 (xs.map f):=by
 have:∀(xs acc:List α),(xs.foldl (mT key) acc).map f=(xs.map f).foldl (mT k2) (acc.map f):=by
  intro xs
  induction xs with
  |nil=>intro acc;rfl
  |cons x xs ih=>
   intro acc
   rw[List.foldl_cons,ih,List.map_cons,List.foldl_cons]
   congr 1
   unfold mT
   rw[zv key k2 f hk,List.length_map]
 exact this xs []
theorem zw (acc:List α)(x y:α):∀j,y∈ey key acc x j->y=x\/y∈acc
 |0,h=>by simpa [ey]using h
 |j+1,h=>by
  unfold ey at h
  split at h
  ·split at h
   ·exact zw acc x y j h
   ·rcases List.mem_append.1 h with c|c
    ·exact .inr (List.mem_of_mem_take c)
    ·rcases List.mem_cons.1 c with c|c
     ·exact .inl c
     ·exact .inr (List.mem_of_mem_drop c)
  ·rcases List.mem_append.1 h with c|c
   ·exact .inr c
   ·exact .inl (by simpa using c)
theorem tT (xs:List α)(y:α)(h:y∈bt key xs):y∈xs:=by
 have:∀(xs acc:List α),y∈xs.foldl (mT key) acc->y∈xs\/y∈acc:=by
  intro xs
  induction xs with
  |nil=>intro acc h;exact .inr h
  |cons x xs ih=>
   intro acc h
   rw[List.foldl_cons]at h
   rcases ih _ h with c|c
   ·exact .inl (List.mem_cons_of_mem _ c)
   ·rcases zw key acc x y _ c with d|d
    ·exact .inl (by rw[d];exact List.mem_cons_self)
    ·exact .inr d
 rcases this xs [] h with c|c
 ·exact c
 ·cases c
end spec
theorem Jq {α:Type}(p q:List α)(y x:α):((p++y::x::q).set (p.length+1) y).set p.length x=p++x::y::q:=by
 rw[List.set_append_right _ _ (by omega),List.set_append_right _ _ (by omega),show p.length+1-p.length=1 by omega,Nat.sub_self];rfl
theorem Hi {W:World}{a:Option Addr}{cap c:Nat}{xs:List It}(hx:xs.length<=1099511627776):
  Cn p_ 256 [.slice a xs.length c,.int .i64 0,.int .i64 (xs.length:Int),fn 240] W [Sl 2 319 a cap xs.length (xs.flatMap ic)] (fun _:Unit=> .tuple #[]) (fun _=>[Sl 2 319 a cap xs.length ((bt It.n xs).flatMap ic)]):=by
 (refine S.cK.cn fun F=>?_;unfold S.bU;simp only[ca_,na_])
 refine bW ?_
 refine aJ .here fun f1 f2 f3 f4=>?_
 refine bj (fun m y=>[ex fun i:Nat=>all [pu (m+i=xs.length+1/\1<=i/\y= .int .i64 (i:Int)),Sl 2 319 a cap xs.length ((bt It.n (xs.take i)++xs.drop i).flatMap ic)]]++F) xs.length ?_ ?_
 ·refine Imp.ex 1 (.all ?_)
  refine ay ?_
  refine .pu ⟨by omega,by omega,by rfl⟩ ?_
  have e:bt It.n (xs.take 1)++xs.drop 1=xs:=by
   cases xs with
   |nil=>rfl
   |cons x xs=>rfl
  rw[e]
  exact aC
 intro m ds y
 refine ay ?_
 refine aX Pick.here fun i=>aB Pick.here ?_
 refine ay ?_
 refine aT Pick.here fun hi=>?_
 obtain⟨hmi,hi1,rfl⟩:=hi
 refine aF aI .nil (fun h=>?_) (fun h=>?_)
 ·have hil:i<xs.length:=by omega
  obtain⟨g,rfl⟩:=f4 (by omega)
  obtain⟨acc,hacc⟩:∃acc,acc=bt It.n (xs.take i):=⟨_,rfl⟩
  have hal:acc.length=i:=by rw[hacc,cT,List.length_take];omega
  have hdrop:xs.drop i=xs[i]::xs.drop (i+1):=List.drop_eq_getElem_cons hil
  have hnext:bt It.n (xs.take (i+1))=mT It.n acc xs[i]:=by rw[List.take_succ_eq_append_getElem hil,ix,hacc]
  rw[<- hacc,hdrop]
  refine ab (bj (fun m y=>[ex fun j:Nat=>all [pu (m=j/\j<=i/\y= .int .i64 (j:Int)/\mT It.n acc xs[i]=ey It.n acc xs[i] j),Sl 2 319 (some ⟨g,0,none⟩) cap xs.length ((acc.take j++xs[i]::(acc.drop j++xs.drop (i+1))).flatMap ic)]]++F) i ?_ ?_)
  ·refine Imp.ex i (.all ?_)
   refine ay ?_
   refine .pu ⟨rfl,by omega,rfl,by unfold mT;rw[hal]⟩ ?_
   rw[List.take_of_length_le (by omega),List.drop_eq_nil_of_le (show acc.length<=i by omega),List.nil_append]
   exact aC
  intro m2 ds y
  refine ay ?_
  refine aX Pick.here fun j=>aB Pick.here ?_
  refine ay ?_
  refine aT Pick.here fun hj=>?_
  obtain⟨rfl,hji,rfl,hins⟩:=hj
  have done:mT It.n acc xs[i]=acc.take m2++xs[i]::acc.drop m2->be W (Sl 2 319 (some ⟨g,0,none⟩) cap xs.length ((acc.take m2++xs[i]::(acc.drop m2++xs.drop (i+1))).flatMap ic)::F) (bI (fun m y w=>sat W ([ex fun i:Nat=>all [pu (m+i=xs.length+1/\1<=i/\y= .int .i64 (i:Int)),Sl 2 319 (some ⟨g,0,none⟩) cap xs.length ((bt It.n (xs.take i)++xs.drop i).flatMap ic)]]++F) w) m (.int .i64 ((i:Int)+1))):=by
   intro he
   refine aP (m-1) (by omega) (.ex (i+1) (.all ?_))
   refine ay ?_
   refine .pu ⟨by omega,by omega,by norm_cast⟩ ?_
   rw[hnext,he,List.append_assoc,List.cons_append]
   exact aC
  refine bM (vY bq .nil (fun h=>?_) (fun h=>?_))
  ·obtain⟨j,rfl⟩:∃j,m2=j+1:=⟨m2-1,by omega⟩
   have hja:j<acc.length:=by omega
   obtain⟨p,hp⟩:∃p,p=acc.take j:=⟨_,rfl⟩
   obtain⟨q,hq⟩:∃q,q=acc.drop (j+1)++xs.drop (i+1):=⟨_,rfl⟩
   have hpl:p.length=j:=by rw[hp,List.length_take];omega
   have htk:acc.take (j+1)=p++[acc[j]]:=by rw[hp,List.take_succ_eq_append_getElem hja]
   have hys:acc.take (j+1)++xs[i]::(acc.drop (j+1)++xs.drop (i+1))=p++acc[j]::xs[i]::q:=by rw[htk,hq];simp
   rw[hys]at done
   rw[hys]
   have hyl:(p++acc[j]::xs[i]::q).length=xs.length:=by
    rw[<- hys];simp;omega
   have hrd:RdB W (Sl 2 319 (some ⟨g,0,none⟩) cap xs.length ((p++acc[j]::xs[i]::q).flatMap ic)) (some ⟨g,0,none⟩) ((p++acc[j]::xs[i]::q).length * 2) ((p++acc[j]::xs[i]::q).flatMap ic):=by
    rw[hyl];exact qt (P:=p_) (by rw[gM,hyl]) (fun _=>⟨g,rfl⟩)
   have g1:(p++acc[j]::xs[i]::q)[j+1]'(by omega)=xs[i]:=by
    rw[List.getElem_append_right (by omega)];simp[hpl]
   have g0:(p++acc[j]::xs[i]::q)[j]'(by omega)=acc[j]:=by
    rw[List.getElem_append_right (by omega)];simp[hpl]
   have ld1:=Bb hrd (j:=j+1) (by omega)
   have ld0:=Bb hrd (j:=j) (by omega)
   rw[g1]at ld1
   rw[g0]at ld0
   refine ag (ag (ag (ag (t_ (dx (j+1) (by rfl) (by omega)) ?_))))
   refine ag (aQ ld1 (.pick .here .nil) ?_)
   refine ag (ag (ag ?_));(refine t_ (ep (by omega) (by omega)) ?_);refine ag (t_ (dx j (by omega) (by omega)) ?_)
   refine ag (aQ ld0 (.pick .here .nil) ?_)
   refine ag (c_ CS fun _=>?_)
   refine ag (vY aI .nil (fun h2=>?_) (fun h2=>?_))
   ·have hlt:xs[i].n<acc[j].n:=by
     by_cases c:xs[i].n<acc[j].n
     ·exact c
     ·rw[if_neg c]at h2;split at h2 <;> omega
    refine t_ aq (ab (bM ?_));(refine aZ (ep (by omega) (by omega)) .nil ?_);(refine t_ (ep (by omega) (by omega)) ?_)
    refine t_ (dx j (by omega) (by omega)) ?_
    refine aQ ld0 (.pick .here .nil) ?_
    refine t_ (dx (j+1) (by rfl) (by omega)) ?_
    refine aQ ld1 (.pick .here .nil) ?_
    refine t_ (dx (j+1) (by rfl) (by omega)) ?_
    rw[Nat.zero_add]
    refine A_ .here (by rfl) (by rw[gM];omega) (n5 acc[j]) ?_
    rw[show((p++acc[j]::xs[i]::q).flatMap ic).take ((j+1) * 2)++(#[I acc[j].n,Value.slice (some ⟨acc[j].g,0,none⟩) acc[j].w.length acc[j].c]:Array Value).toList++((p++acc[j]::xs[i]::q).flatMap ic).drop ((j+1) * 2+2)=((p++acc[j]::xs[i]::q).set (j+1) acc[j]).flatMap ic from Ba _ (j+1) acc[j] (by omega)]
    refine cq ?_
    refine t_ (dx j (by omega) (by omega)) ?_
    rw[Nat.zero_add]
    refine A_ .here (by rfl) (by rw[gM,List.length_set];omega) (n5 xs[i]) ?_
    rw[show(((p++acc[j]::xs[i]::q).set (j+1) acc[j]).flatMap ic).take (j * 2)++(#[I xs[i].n,Value.slice (some ⟨xs[i].g,0,none⟩) xs[i].w.length xs[i].c]:Array Value).toList++(((p++acc[j]::xs[i]::q).set (j+1) acc[j]).flatMap ic).drop (j * 2+2)=(((p++acc[j]::xs[i]::q).set (j+1) acc[j]).set j xs[i]).flatMap ic from Ba _ j xs[i] (by rw[List.length_set];omega)]
    have hsw:=Jq p q acc[j] xs[i]
    rw[hpl]at hsw
    rw[hsw]
    refine fI ?_
    refine aP j (by omega) (.ex j (.all ?_))
    refine ay ?_
    refine .pu ⟨rfl,by omega,by congr 1;omega,?_⟩ ?_
    ·rw[hins]
     conv=>lhs;unfold ey
     rw[List.getElem?_eq_getElem hja]
     simp only
     rw[if_pos hlt]
    ·rw[show acc.take j++xs[i]::(acc.drop j++xs.drop (i+1))=p++xs[i]::acc[j]::q by rw[hp,hq,List.drop_eq_getElem_cons hja];rfl]
     exact aC
   ·have hge:¬xs[i].n<acc[j].n:=fun c=>h2 (by rw[if_pos c];omega)
    refine t_ aq (aa (bW ?_))
    refine done ?_
    rw[hins]
    conv=>lhs;unfold ey
    rw[List.getElem?_eq_getElem hja]
    simp only
    rw[if_neg hge]
  ·have:m2=0:=by omega
   subst this
   refine ah (ah (ah (ah (ah (ah (ah (ah (ah (ah (ah (ah (t_ ap (aa (bW ?_))))))))))))))
   exact done (by rw[hins];rfl)
 ·refine aa ?_
  rw[List.take_of_length_le (by omega),List.drop_eq_nil_of_le (by omega),List.append_nil]
  refine bC () ?_
  exact aC
theorem Ph {W:World}{a:Option Addr}{cap c:Nat}{xs:List It}(hx:xs.length<20):
  Cn p_ 239 [.slice a xs.length c,fn 240] W [Sl 2 319 a cap xs.length (xs.flatMap ic)] (fun _:Unit=> .tuple #[]) (fun _=>[Sl 2 319 a cap xs.length ((bt It.n xs).flatMap ic)]):=by
 have inner:Cn p_ 251 [.slice a xs.length c,.int .i64 (xs.length:Int),fn 240] W [Sl 2 319 a cap xs.length (xs.flatMap ic)] (fun _:Unit=> .tuple #[]) (fun _=>[Sl 2 319 a cap xs.length ((bt It.n xs).flatMap ic)]):=by
  (refine S.dl.cn fun F=>?_;unfold S.cy;simp only[ca_,na_])
  refine cg (fun m x y=>[pu (x= .int .i64 0/\y= .int .i64 20),Sl 2 319 a cap xs.length (xs.flatMap ic)]++F) 1 ?_ ?_
  ·refine ay ?_
   exact .pu ⟨rfl,rfl⟩ .refl
  intro m ds x y
  refine ay ?_
  refine aT Pick.here fun hxy=>?_
  obtain⟨rfl,rfl⟩:=hxy
  refine o_ dX ?_
  rw[dF_ (by omega)]
  refine aa (c_ (Hi (by omega)) fun _=>?_)
  refine bj (fun m y=>[pu (y= .int .i64 20),Sl 2 319 a cap xs.length ((bt It.n xs).flatMap ic)]++F) 1 ?_ ?_
  ·refine ay ?_
   exact .pu rfl .refl
  intro m ds y
  refine ay ?_
  refine aT Pick.here fun hy=>?_
  subst hy
  refine o_ aI ?_
  rw[dF_ (by omega)]
  refine aa (bC () ?_)
  exact aC
 (refine S.bZ.cn fun F=>?_;unfold S.bE;simp only[ca_,na_])
 refine o_ aN (c_ inner fun _=>?_)
 refine bC () ?_
 exact aC
end HF
namespace HF
open Go Go.Proofs Go.RowKit Sh Sl T HM
section rules
variable {P:Program} {W:World} {L L' L'':List HP} {Kp:PK} {k:Value->WP} {A:HP}
theorem Md {a:Option Addr}{n:Nat}{cs:List Value}(h:RdB W A a n cs)(c:a=none):n=0:=by
 rcases Nat.eq_zero_or_pos n with z|z
 ·exact z
 ·obtain⟨_,_,e,_⟩:=h.at_ z
  rw[c]at e;cases e
theorem Me {t e:TypeId} {s b:Nat} {q r:IntKind} {c:Int} (m:Nat) [ht:SlT P t e s b] (hcm:c=(m:Int)) (h2:b * m<=281474976710656) (h3:m<=maxLen)
  (h:∀g,be W (Sl s e (some ⟨g,0,none⟩) m 0 []::L) (k (.slice (some ⟨g,0,none⟩) 0 m))):be W L (opN P (fC t (.int q 0) (.int r c)) Kp k):=fun w hw=>by
 refine⟨?_⟩
 obtain⟨i,z,hi,hz,hs,hb,hzs⟩:=ht.info
 subst hcm
 have hbm:(i.bytes:Int) * (m:Int)<=281474976710656:=by
  rw[hb]
  obtain⟨X,hX⟩:∃X,X=b * m:=⟨_,rfl⟩
  have h4:(X:Int)<=281474976710656:=by omega
  rw[hX,Int.natCast_mul]at h4
  exact h4
 have hr:=run_make (P:=P) (w:=w) t e i z ht.ut hi hz q r 0 m (by omega) (by omega) hbm (by unfold maxLen at h3;omega)
 simp only[Int.toNat_natCast,hs]at hr
 have:(fC t (.int q 0) (.int r m)).run P w= .ok (.value (.slice (some ⟨w.heap.size,0,none⟩) 0 m)) (w.alloc (.cells (madeCells z.cells (m * s)) e)):=by
  simp[fC,hr]
 rw[this]
 refine h _ _ ?_
 have ha:=hw.alloc (.cells (madeCells z.cells (m * s)) e)
 have he:madeCells z.cells (m * s)=([]++(madeCells z.cells (m * s)).toList).toArray:=by simp
 rw[he]at ha ⊢
 exact oE (by simp[madeCells]) (by simp) (by omega) h3 ha
end rules
def gN (xs:List It):HP:=fun _ h=>∀x∈xs,∃rest:List Value,h x.g=some (.cells (x.w.map I++rest).toArray 3 (0,0))
theorem FS {W:World}{xs:List It}{x:It}(hx:x∈xs):RdB W (gN xs) (some ⟨x.g,0,none⟩) x.w.length (x.w.map I):=⟨by simp,fun hn=>⟨x.g,0,rfl,fun w L hw j v hv=>by
 obtain⟨f,⟨h1,h2,ha,hl,d,s1,s2⟩,b⟩:=hw.heap
 obtain⟨rest,hr⟩:=ha x hx
 have hg:=(b x.g _ (s1 x.g _ hr)).2
 rw[Nat.zero_add]
 have hj:j<(x.w.map I).length:=by
  rcases Nat.lt_or_ge j (x.w.map I).length with c|c
  ·exact c
  ·rw[List.getElem?_eq_none c]at hv;cases hv
 have hv2:(x.w.map I++rest)[j]? =some v:=by rw[List.getElem?_append_left hj];exact hv
 simp[World.cell?,hg,hv2]⟩⟩
theorem Sd {W:World}{L L' L'':List HP}{S:WP}{g cap n:Nat}{xs:List It}{x:It}(hx:x.g=g)(p:Pick L (Sl 1 3 (some ⟨g,0,none⟩) cap n (x.w.map I)) L')(p':Pick L' (gN xs) L'')(h:be W (gN (x::xs)::L'') S):be W L S:=fun w hw=>by
 have h1:=hw.pick p
 refine h w (sat.map (L:=Sl 1 3 (some ⟨g,0,none⟩) cap n (x.w.map I)::L') (fun f hf=>?_) h1)
 have h2:=um (fR (fun _=>p'.all) hf)
 obtain⟨f1,f2,⟨u1,u2,ha,hb,hd,t1,t2⟩,r⟩:=h2
 refine⟨f1,f2,fun y hy=>?_,r⟩
 rcases List.mem_cons.1 hy with rfl|hy
 ·obtain⟨q1,q2,q3,q4⟩:=ha
  rcases q4 with ⟨c,_⟩|⟨g',rest,c,e1,e2⟩
  ·cases c
  ·injection c with c;injection c with c;subst c
   exact⟨rest,by rw[hx];exact t1 _ _ e2⟩
 ·obtain⟨rest,hr⟩:=hb y hy
  exact⟨rest,t2 _ _ hr⟩
theorem Mf {W:World}{L M:List HP}(h:Imp W L M):Imp W L (gN []::M):= .conv (B:=pu True) (fun f _ x hx=>by cases hx) (.pu trivial h)
theorem grow {W:World}{n:Nat}(h0:0<n)(hn:n<=1099511627776):
  Cn p_ 253 [.slice none 0 0,.int .i64 (n:Int)] W [] (fun q:Nat × Nat=> .slice (some ⟨q.1,0,none⟩) 0 q.2) (fun q=>[Sl 1 3 (some ⟨q.1,0,none⟩) q.2 0 []]):=by
 (refine S.mR.cn fun F=>?_;unfold S.i9;simp only[ca_,na_])
 refine jx F ?_ ?_
 ·intro ds
  refine o_ NL ?_
  refine o_ aN (fI ?_);refine fI ?_
  refine o_ bq ?_
  rw[dT_ (by omega)]
  refine ab (o_ NL ?_)
  refine o_ (B3 0 (by rfl) (by omega)) ?_
  rw[if_pos rfl,show(n:Int)-(((0:Nat):Int)-((0:Nat):Int))=(n:Int) by omega]
  refine Pf (by kernel_rfl) h0 (by omega) (by omega) (by omega) fun g cap hc=>?_
  refine o_ aN (o_ (B3 0 (by rfl) (by omega)) ?_)
  rw[if_neg (by omega),show(Option.map (fun x:Addr=>x.add (0 * 1)) (some ⟨g,0,none⟩))=some ⟨g,0,none⟩ by simp[db]]
  refine bf (g,cap) rfl ?_
  exact aC
 ·(refine aF aI .nil (fun h=>?_) (fun h=>?_))
  ·omega
  refine aa (a_ ?_)
  exact aC
def sz (m n:Nat):Nat->Nat
 |0=>0
 |1=>m
 |_=>m+n
def ac (x y:List Int):Nat->List Int
 |0=>[]
 |1=>x
 |_=>x++y
theorem Pi {W:World}{A:HP}{g c1 c2:Nat}{a1 a2:Option Addr}{x y:List Int}{T:TypeId}(h1:RdB W A a1 x.length (x.map I))(h2:RdB W A a2 y.length (y.map I))(hx:0<x.length)(b1:x.length<=1073741824)(b2:y.length<=1073741824):
  Cn p_ 242 [.slice (some ⟨g,0,none⟩) 2 2] W [pt g (.cells #[.slice a1 x.length c1,.slice a2 y.length c2] T (0,0)),A] (fun q:Nat × Nat=> .slice (some ⟨q.1,0,none⟩) (x.length+y.length) q.2) (fun q=>[Sl 1 3 (some ⟨q.1,0,none⟩) q.2 (x.length+y.length) ((x++y).map I),A]):=by
 (refine S.ly.cn fun F=>?_;unfold S.ip;simp only[ca_,na_])
 refine o_ aN (cg (fun m u v=>[pu (∃i:Nat,m+i=2/\v= .int .i64 (i:Int)/\u= .int .i64 (sz x.length y.length i:Int)),pt g (.cells #[.slice a1 x.length c1,.slice a2 y.length c2] T (0,0)),A]++F) 2 ?_ ?_)
 ·refine ay ?_
  exact .pu ⟨0,by omega,rfl,rfl⟩ .refl
 intro m ds u v
 refine ay ?_
 refine aT Pick.here fun hi=>?_
 obtain⟨i,hmi,rfl,rfl⟩:=hi
 have hszi:sz x.length y.length i<=2147483648:=by unfold sz;split <;> omega
 refine aF aI .nil (fun h=>?_) (fun h=>?_)
 ·have hi2:i=0\/i=1:=by omega
  obtain⟨ai,ni,ci,hcell,hni,hsz⟩:∃(ai:Option Addr) (ni ci:Nat),(#[.slice a1 x.length c1,.slice a2 y.length c2]:Array Value)[0+i]? =some (.slice ai ni ci)/\ni<=1073741824/\sz x.length y.length i+ni=sz x.length y.length (i+1):=by
   rcases hi2 with rfl|rfl
   ·exact⟨a1,x.length,c1,rfl,b1,by simp[sz]⟩
   ·exact⟨a2,y.length,c2,rfl,b2,by simp[sz]⟩
  refine ab (o_ (bA i (by rfl) (by omega)) ?_)
  refine am (iA hcell) (.pick .here .nil) ?_
  refine o_ aN (bW ?_)
  refine aF aI .nil (fun h=>?_) (fun h=>?_)
  ·omega
  refine aa (bW ?_)
  refine bH (m-1) (by omega) ?_
  refine ay ?_
  exact .pu ⟨i+1,by omega,by norm_cast,by rw[<- hsz];norm_cast⟩ .refl
 ·have hi2:i=2:=by omega
  subst hi2
  refine aa (c_ (grow (n:=x.length+y.length) (by omega) (by omega)) fun _=>?_)
  rename_i q
  obtain⟨qg,qc⟩:=q
  refine o_ aN (cg (fun m u v=>[ex fun q:Option Addr × Nat=>all [pu (∃i:Nat,m+i=2/\v= .int .i64 (i:Int)/\u= .slice q.1 (sz x.length y.length i) q.2),ex fun i:Nat=>all [pu (m+i=2),Sl 1 3 q.1 q.2 (sz x.length y.length i) ((ac x y i).map I)]],pt g (.cells #[.slice a1 x.length c1,.slice a2 y.length c2] T (0,0)),A]++F) 2 ?_ ?_)
  ·refine .ex (some ⟨qg,0,none⟩,qc) (.all ?_)
   refine ay ?_
   refine .pu ⟨0,by omega,rfl,rfl⟩ (.ex 0 (.all ?_))
   refine ay ?_
   exact .pu (by omega) (.pick .here .refl)
  intro m ds u v
  refine ay ?_
  refine aX Pick.here fun q=>aB Pick.here ?_
  obtain⟨ua,uc⟩:=q
  refine ay ?_
  refine aT Pick.here fun hi=>?_
  obtain⟨i,hmi,rfl,rfl⟩:=hi
  refine aX Pick.here fun i'=>aB Pick.here ?_
  refine ay ?_
  refine aT Pick.here fun hi'=>?_
  obtain rfl:i'=i:=by omega
  have hszi:sz x.length y.length i'<=2147483648:=by unfold sz;split <;> omega
  (try dsimp only)
  refine aF aI .nil (fun h=>?_) (fun h=>?_)
  ·have hi2:i'=0\/i'=1:=by omega
   obtain⟨ai,ni,ci,z,hcell,hni,hsz,hrd,hac⟩:∃(ai:Option Addr) (ni ci:Nat) (z:List Int),(#[.slice a1 x.length c1,.slice a2 y.length c2]:Array Value)[0+i']? =some (.slice ai ni ci)/\ni<=1073741824/\sz x.length y.length i'+ni=sz x.length y.length (i'+1)/\RdB W A ai ni (z.map I)/\ac x y i'++z=ac x y (i'+1):=by
    rcases hi2 with rfl|rfl
    ·exact⟨a1,x.length,c1,x,rfl,b1,by simp[sz],h1,rfl⟩
    ·exact⟨a2,y.length,c2,y,rfl,b2,by simp[sz],h2,rfl⟩
   refine ab (o_ (bA i' (by rfl) (by omega)) ?_)
   refine am (iA hcell) (.pick (.there .here) .nil) ?_
   refine co (m:=ni) .here (fM (e':=3) (by kernel_rfl) (.there (.there .here)) hrd (Md hrd) Ce) (by omega) (by omega) fun a' c'=>?_
   rw[hsz,<- List.map_append,hac]
   refine bW ?_
   refine bH (m-1) (by omega) (.ex (a',c') (.all ?_))
   refine ay ?_
   refine .pu ⟨i'+1,by omega,by norm_cast,rfl⟩ (.ex (i'+1) (.all ?_))
   refine ay ?_
   exact .pu (by omega) (.pick .here .refl)
  ·have hi2:i'=2:=by omega
   subst hi2
   refine aa (fE .here (by show 0<x.length+y.length;omega) fun gg hgg=>?_)
   subst hgg
   refine bf (gg,uc) rfl ?_
   exact .pick .here (.drop .refl)
section spec
variable {α:Type} (key:α->Int)
def dO:List α->List α->List α
 |[],bs=>bs
 |a::us,bs=>bs.takeWhile (fun b=>decide (key b<key a))++a::dO us (bs.dropWhile fun b=>decide (key b<key a))
theorem dS (us:List α):dO key us []=us:=by
 induction us with
 |nil=>rfl
 |cons a us ih=>simp[dO,ih]
theorem d6 {a b:α}{us bs:List α}(h:key b<key a):dO key (a::us) (b::bs)=b::dO key (a::us) bs:=by simp[dO,h]
theorem eG {a b:α}{us bs:List α}(h:¬key b<key a):dO key (a::us) (b::bs)=a::dO key us (b::bs):=by simp[dO,h]
theorem Se {a:α}{us:List α}:dO key (a::us) []=a::dO key us []:=by simp[dO]
theorem FT {β:Type}(k2:β->Int)(f:α->β)(hk:∀x,k2 (f x)=key x):∀us bs:List α,(dO key us bs).map f=dO k2 (us.map f) (bs.map f)
 |[],bs=>rfl
 |a::us,bs=>by
  have h1:(bs.takeWhile fun b=>decide (key b<key a)).map f=(bs.map f).takeWhile fun b=>decide (k2 b<k2 (f a)):=by
   rw[List.takeWhile_map];congr 2;funext b;simp[hk]
  have h2:(bs.dropWhile fun b=>decide (key b<key a)).map f=(bs.map f).dropWhile fun b=>decide (k2 b<k2 (f a)):=by
   rw[List.dropWhile_map];congr 2;funext b;simp[hk]
  simp only[dO,List.map_append,List.map_cons,h1,FT k2 f hk us,h2]
theorem Bc {y:α}:∀us bs:List α,y∈dO key us bs->y∈us\/y∈bs
 |[],bs,h=> .inr h
 |a::us,bs,h=>by
  simp only[dO,List.mem_append,List.mem_cons]at h
  rcases h with c|c|c
  ·exact .inr ((List.takeWhile_sublist _).mem c)
  ·exact .inl (by rw[c];exact List.mem_cons_self)
  ·rcases Bc us _ c with d|d
   ·exact .inl (List.mem_cons_of_mem _ d)
   ·exact .inr ((List.dropWhile_sublist _).mem d)
end spec
def yM (W:World)(A:HP)(a:Option Addr)(xs:List It):Prop:=RdB W A a (xs.length * 2) (xs.flatMap ic)
theorem yM.tail {W:World}{A:HP}{a:Option Addr}{x:It}{xs:List It}{c:Nat}(h:yM W A a (x::xs))(hc:xs.length+1<=c):yM W A (if c=1 then a else a.map (·.add (1 * 2))) xs:=by
 refine⟨gM xs,fun hn=>?_⟩
 obtain⟨g,o,rfl,hcell⟩:=h.at_ (by rw[List.length_cons];omega)
 rw[if_neg (by omega)]
 refine⟨g,o+2,by simp[db],fun w L hw j v hv=>?_⟩
 rw[Nat.add_assoc]
 refine hcell w L hw (2+j) v ?_
 rw[List.flatMap_cons,List.getElem?_append_right (by rw[tS];omega),tS,show 2+j-2=j by omega];exact hv
theorem Mg {P:Program}{W:World}{L L':List HP}{A:HP}{s:Nat}{tx e':TypeId}{a:Option Addr}{n cap:Nat}{cs:List Value}(hk:P.underlying tx=some (.slice e'))(hs:0<s)(p:Pick L A L')(H:RdB W A a (n * s) cs)(h1:∀u∈cs,u.oneCell'=true):
  ∀w,sat W L w->Src P s tx (.slice a n cap) n cs w:=fun w hw=>by
 have hl:=H.len
 rcases Nat.eq_zero_or_pos n with h0|hn
 ·subst h0
  have hcs:cs=[]:=List.eq_nil_of_length_eq_zero (by simpa using hl)
  subst hcs
  cases a with
  |none=>exact Src.ofNil w hk cap
  |some ad=>exact Src.ofSlice w hk ad 0 cap [] (by simp) (fun j u hu=>by simp at hu) (by simp)
 ·obtain⟨g,o,rfl,hc⟩:=H.at_ (Nat.mul_pos hn hs)
  exact Src.ofSlice w hk _ _ _ _ (by omega) (fun j u hu=>by rw[db];exact hc w L' (hw.pick p) j u hu) h1
theorem FU {W:World}{A:HP}{g o:Nat}{y:It}{ys:List It}(H:yM W A (some ⟨g,o,none⟩) (y::ys)):bb p_ W [A] (af 319 (.pointer (some ⟨g,o+0 * 2,none⟩))) (av y):=Bb H (j:=0) (by simp)
theorem Jr {W:World}{A:HP}{g o:Nat}{y:It}{ys:List It}(H:yM W A (some ⟨g,o,none⟩) (y::ys)):bb p_ W [A] (af 3 (.pointer (some ⟨g,o+0 * 2+0,none⟩))) (.int .i64 y.n):=by
 have:=cX (P:=p_) (t:=3) (j:=0) H (v:=I y.n) rfl
 exact this
theorem Pj {W:World}{A B:HP}{xs ys:List It}{va vb:Option Addr}{ca cb:Nat}(ha:yM W A va xs)(hb:yM W B vb ys)(hca:xs.length<=ca)(hcb:ys.length<=cb)(n1:xs.length<=1073741824)(n2:ys.length<=1073741824):
    Cn p_ 243 [.slice va xs.length ca,.slice vb ys.length cb] W [A,B] (fun q:Option Addr × Nat=> .slice q.1 (xs.length+ys.length) q.2) (fun q=>[Sl 2 319 q.1 q.2 (xs.length+ys.length) ((dO It.n xs ys).flatMap ic),A,B]):=by
  (refine S.tH.cn fun F=>?_;unfold S.nL;simp only[ca_,na_])
  refine o_ aN (o_ aN (bW ?_))
  refine Me (xs.length+ys.length) (by norm_cast) (by omega) (by unfold maxLen;omega) fun g0=>?_
  refine oD (fun m x y z=>[ex fun q:Option Addr × Nat=>ex fun out:List It=>all [pu (∃(us vs:List It) (a1 a2:Option Addr) (c1 c2:Nat),m=us.length+vs.length/\x= .slice a1 us.length c1/\y= .slice a2 vs.length c2/\z= .slice q.1 out.length q.2/\yM W A a1 us/\yM W B a2 vs/\us.length<=c1/\vs.length<=c2/\out++dO It.n us vs=dO It.n xs ys/\out.length+us.length+vs.length=xs.length+ys.length),Sl 2 319 q.1 q.2 out.length (out.flatMap ic)],A,B]++F) (xs.length+ys.length) ?_ ?_
  · refine .ex (some ⟨g0,0,none⟩,xs.length+ys.length) (.ex [] (.all ?_))
    refine ay ?_
    exact .pu ⟨xs,ys,va,vb,ca,cb,rfl,rfl,rfl,rfl,ha,hb,hca,hcb,rfl,by simp⟩ (.pick .here .refl)
  intro m ds x y z
  refine ay ?_
  refine aX Pick.here fun q=>aX Pick.here fun out=>aB Pick.here ?_
  obtain⟨qa,qc⟩:=q
  refine ay ?_
  refine aT Pick.here fun hi=>?_
  obtain⟨us,vs,a1,a2,c1,c2,rfl,rfl,rfl,rfl,hu,hv,hc1,hc2,hout,hlen⟩:=hi
  (try dsimp only)
  cases us with
  |nil=>
    refine o_ aN (o_ bF ?_)
    rw[dT_ (by rfl)]
    refine ab (co (m:=vs.length) .here (Mg (e':=319) (by kernel_rfl) (by omega) (.there (.there .here)) hv (Mc vs)) (by omega) (by omega) fun a' c'=>?_)
    rw[<- List.flatMap_append,show out++vs=dO It.n xs ys from hout]
    simp only[List.length_nil,Nat.add_zero]at hlen
    rw[hlen]
    refine bf (a',c') rfl ?_
    exact aC
  |cons u us=>
    rw[List.length_cons]at hlen hc1
    refine o_ aN (o_ bF ?_)
    rw[dF_ (by rw[List.length_cons];omega)]
    refine aa (bM (t_ aN ?_))
    obtain⟨gu,ou,rfl,_⟩:=hu.at_ (by rw[List.length_cons];omega)
    have ldu:=FU hu
    have ldn:=Jr hu
    have tu:=hu.tail hc1
    have goA:(∀v vs',vs=v::vs'->¬v.n<u.n)->be W (Sl 2 319 qa qc out.length (out.flatMap ic)::A::B::F) (stS p_ (bR 317 (.slice (some ⟨gu,ou,none⟩) (u::us).length c1) (.int .i64 0)) fun x14=>
       stS p_ (af 319 x14) fun x15=>
       stD p_ (eo 317 (.slice (some ⟨gu,ou,none⟩) (u::us).length c1) (some (.int .i64 1)) none none) fun D7 x19=>
       opN p_ (aS 317 1 [(0,x15)]) jY fun x16=>
       (fun w=>D7 w/\(opN p_ (cP #[317,317] 317 [.slice qa out.length qc,x16]) jY fun x17=>
         (fun w=>D7 w/\(gY (fun m x y z w=>sat W ([ex fun q:Option Addr × Nat=>ex fun out:List It=>all [pu (∃(us vs:List It) (a1 a2:Option Addr) (c1 c2:Nat),m=us.length+vs.length/\x= .slice a1 us.length c1/\y= .slice a2 vs.length c2/\z= .slice q.1 out.length q.2/\yM W A a1 us/\yM W B a2 vs/\us.length<=c1/\vs.length<=c2/\out++dO It.n us vs=dO It.n xs ys/\out.length+us.length+vs.length=xs.length+ys.length),Sl 2 319 q.1 q.2 out.length (out.flatMap ic)],A,B]++F) w) ((u::us).length+vs.length) x19 (.slice a2 vs.length c2) x17) w)) w)):=by
      intro hge
      refine t_ (dx 0 (by rfl) (by rw[List.length_cons];omega)) ?_
      refine aQ ldu (.pick (.there .here) .nil) ?_
      refine aZ (y_ 1 (by rfl) (by rw[List.length_cons];omega)) .nil ?_
      refine fp (s:=2) (vs:=[av u]) rfl (by omega) rfl (by intro v hv;simp at hv;subst hv;rfl) (by omega) fun g=>?_
      refine cq ?_
      refine co (m:=1) (news:=ic u) (.there .here) (dq (s:=2) (e':=319) (by kernel_rfl) .here (by rfl) (n5 u)) (by omega) (by omega) fun a' c'=>?_
      refine cq ?_
      refine dD (us.length+vs.length) (by rw[List.length_cons];omega) (.ex (a',c') (.ex (out++[u]) (.all ?_)))
      refine ay ?_
      refine .pu ⟨us,vs,_,a2,_,c2,rfl,by rw[List.length_cons,Nat.add_sub_cancel],rfl,by rw[List.length_append];rfl,tu,hv,by omega,hc2,?_,by simp;omega⟩ ?_
      · rw[<- hout,List.append_assoc]
        congr 1
        cases vs with
        |nil=>rw[Se];rfl
        |cons v vs'=>rw[eG It.n (hge v vs' rfl)];rfl
      · rw[List.flatMap_append,List.length_append,List.length_singleton,List.flatMap_singleton]
        exact aC
    refine t_ bq ?_
    cases vs with
    |nil=>
      rw[dF_ (by simp)]
      exact ah (ah (ah (ah (ah (ah (ah (ah (ah (t_ ap (aa (bM (goA (fun v vs' c=>by cases c)))))))))))))
    |cons v vs=>
      rw[List.length_cons]at hlen hc2
      obtain⟨gv,ov,rfl,_⟩:=hv.at_ (by rw[List.length_cons];omega)
      have ldv:=FU hv
      have ldvn:=Jr hv
      have tv:=hv.tail hc2
      rw[dT_ (by rw[List.length_cons];omega)]
      refine ag (ag (t_ (dx 0 (by rfl) (by rw[List.length_cons];omega)) ?_))
      refine ag (t_ Ah (ag (aQ ldvn (.pick (.there (.there .here)) .nil) ?_)))
      refine ag (ag (t_ (dx 0 (by rfl) (by rw[List.length_cons];omega)) ?_))
      refine ag (t_ Ah (ag (aQ ldn (.pick (.there .here) .nil) ?_)))
      refine ag (vY aI .nil (fun h=>?_) (fun h=>?_))
      · (refine t_ aq ?_);refine ab ?_;refine bM ?_
        refine t_ (dx 0 (by rfl) (by rw[List.length_cons];omega)) ?_
        refine aQ ldv (.pick (.there (.there .here)) .nil) ?_
        refine aZ (y_ 1 (by rfl) (by rw[List.length_cons];omega)) .nil ?_
        refine fp (s:=2) (vs:=[av v]) rfl (by omega) rfl (by intro v hv;simp at hv;subst hv;rfl) (by omega) fun g=>?_
        refine cq ?_
        refine co (m:=1) (news:=ic v) (.there .here) (dq (s:=2) (e':=319) (by kernel_rfl) .here (by rfl) (n5 v)) (by omega) (by omega) fun a' c'=>?_
        refine cq ?_
        refine dD ((u::us).length+vs.length) (by rw[List.length_cons];simp) (.ex (a',c') (.ex (out++[v]) (.all ?_)))
        refine ay ?_
        refine .pu ⟨u::us,vs,_,_,c1,_,rfl,rfl,by rw[List.length_cons,Nat.add_sub_cancel],by rw[List.length_append];rfl,hu,tv,by rw[List.length_cons];omega,by omega,?_,by simp;omega⟩ ?_
        · rw[<- hout,List.append_assoc,d6 It.n h];rfl
        · rw[List.flatMap_append,List.length_append,List.length_singleton,List.flatMap_singleton]
          exact aC
      · (refine t_ aq ?_);refine aa ?_;refine bM ?_
        exact goA (fun v' vs' c=>by injection c with c1 c2;subst c1;exact h)
end HF
namespace HF
open Go Go.Proofs Go.RowKit Sh Sl T HM
abbrev E:=Int × List Int
def cU:List E->List E
 |a::b::r=>(a.1+b.1,a.2++b.2)::cU r
 |_=>[]
def dR (cs:List E):Nat->List E
 |0=>cs
 |k+1=>dO Prod.fst cs (cU (dR cs k))
theorem NM {W:World}{A:HP}{g o j:Nat}{ys:List It}(H:yM W A (some ⟨g,o,none⟩) ys)(hj:j<ys.length):bb p_ W [A] (af 3 (.pointer (some ⟨g,o+j * 2+0,none⟩))) (.int .i64 ys[j].n):=by
 rw[Nat.add_assoc]
 exact cX (P:=p_) (t:=3) (j:=j * 2+0) H (v:=I ys[j].n) (by rw[gA tS ys j 0 hj (by omega)];rfl)
theorem FV {W:World}{A:HP}{g o j:Nat}{ys:List It}(H:yM W A (some ⟨g,o,none⟩) ys)(hj:j<ys.length):bb p_ W [A] (af 197 (.pointer (some ⟨g,o+j * 2+1,none⟩))) (.slice (some ⟨ys[j].g,0,none⟩) ys[j].w.length ys[j].c):=by
 rw[Nat.add_assoc]
 exact cX (P:=p_) (t:=197) (j:=j * 2+1) H (v:= .slice (some ⟨ys[j].g,0,none⟩) ys[j].w.length ys[j].c) (by rw[gA tS ys j 1 hj (by omega)];rfl)
theorem EL {rw_:List E}{i:Nat}(h:i+1<rw_.length):cU (rw_.drop i)=(rw_[i].1+rw_[i+1].1,rw_[i].2++rw_[i+1].2)::cU (rw_.drop (i+2)):=by
 rw[List.drop_eq_getElem_cons (show i<rw_.length by omega),List.drop_eq_getElem_cons h,cU]
theorem Hj {rw_:List E}{i:Nat}(h:¬i+1<rw_.length):cU (rw_.drop i)=[]:=by
 have hl:(rw_.drop i).length<=1:=by rw[List.length_drop];omega
 match hd:rw_.drop i with
 |[]=>rfl
 |[x]=>rfl
 |x::y::r=>rw[hd]at hl;simp at hl
theorem zx {W : World} {A : HP} {F : List HP} {ra : Option Addr} {rc : Nat} {rs ar : List It} {K : Value → WP} (hA : yM W A ra rs) (hm : ∀ y ∈ rs, y ∈ ar) (hl : rs.length ≤ 1073741824)
    (hb : ∀ y ∈ rs, 0 ≤ y.n ∧ y.n ≤ 1152921504606846976 ∧ 0 < y.w.length ∧ y.w.length ≤ 1073741824)
    (hK : ∀ (q : Option Addr × Nat) (ps ar' : List It), ps.map er = cU (rs.map er) → (∀ y ∈ ps, y ∈ ar') → (∀ y ∈ ar, y ∈ ar') → be W (Sl 2 319 q.1 q.2 ps.length (ps.flatMap ic) :: gN ar' :: A :: F) (K (.slice q.1 ps.length q.2))) :
    be W (A :: gN ar :: F) (dF (fun I3 m3 _ y12 y13 =>
          opN p_ (ae .add 3 y13 (.int .i64 1)) jY fun x80 =>
          opN p_ (aV #[317] 3 [.slice ra rs.length rc]) jY fun x82 =>
          opN p_ (ae .lss 3 x80 x82) jY fun x83 =>
          condS x83
          (e8 (stD p_ (bR 317 (.slice ra rs.length rc) y13) fun D3 x89 =>
            stD p_ (bB 319 x89 0) fun D4 x90 =>
            stD p_ (af 3 x90) fun D5 x91 =>
            stD p_ (ae .add 3 y13 (.int .i64 1)) fun D8 x94 =>
            stD p_ (bR 317 (.slice ra rs.length rc) x94) fun D9 x95 =>
            stD p_ (bB 319 x95 0) fun D10 x96 =>
            stD p_ (af 3 x96) fun D11 x97 =>
            stD p_ (ae .add 3 x91 x97) fun D12 x98 =>
            stS p_ (bR 317 (.slice ra rs.length rc) y13) fun x101 =>
            stS p_ (bB 319 x101 1) fun x102 =>
            stS p_ (af 197 x102) fun x103 =>
            stS p_ (ae .add 3 y13 (.int .i64 1)) fun x106 =>
            stS p_ (bR 317 (.slice ra rs.length rc) x106) fun x107 =>
            stS p_ (bB 319 x107 1) fun x108 =>
            stS p_ (af 197 x108) fun x109 =>
            opN p_ (aS 331 2 [(0, x103), (1, x109)]) jY fun x110 =>
            (fun w => D12 w ∧ (fun w => D11 w ∧ (fun w => D10 w ∧ (fun w => D9 w ∧ (fun w => D8 w ∧ (fun w => D5 w ∧ (fun w => D4 w ∧ (fun w => D3 w ∧ (opN p_ (aj (fn 242) [x110]) jY fun x111 =>
                     (fun w => D12 w ∧ (fun w => D11 w ∧ (fun w => D10 w ∧ (fun w => D9 w ∧ (fun w => D8 w ∧ (fun w => D5 w ∧ (fun w => D4 w ∧ (fun w => D3 w ∧ (stS p_ (az 319 [(0, x98), (1, x111)]) fun x112 =>
                      opN p_ (aS 317 1 [(0, x112)]) jY fun x113 =>
                      opN p_ (cP #[317, 317] 317 [y12, x113]) jY fun x114 =>
                      opN p_ (ae .add 3 y13 (.int .i64 2)) jY fun x85 =>
                      cH I3 m3 x114 x85) w) w) w) w) w) w) w) w)) w) w) w) w) w) w) w) w)))
          (K y12)) (.slice none 0 0) (.int .i64 0)) := by
  refine cg (fun m x y => [ex fun q : Option Addr × Nat => ex fun ps : List It => ex fun ar' : List It => all [pu (∃ i : Nat, m + i = rs.length ∧ y = .int .i64 (i : Int) ∧ x = .slice q.1 ps.length q.2 ∧ ps.map er ++ cU ((rs.map er).drop i) = cU (rs.map er) ∧ (∀ y ∈ ps, y ∈ ar') ∧ (∀ y ∈ ar, y ∈ ar') ∧ ps.length ≤ i), Sl 2 319 q.1 q.2 ps.length (ps.flatMap ic), gN ar', A]] ++ F) rs.length ?_ ?_
  · refine .ex (none, 0) (.ex [] (.ex ar (.all ?_)))
    refine ay ?_
    refine .pu ⟨0, by omega, rfl, rfl, rfl, (fun y hy => (by cases hy)), (fun y hy => hy), Nat.le_refl _⟩ (cQ ?_)
    exact aC
  intro m ds x y
  refine ay ?_
  refine aX Pick.here fun q => aX Pick.here fun ps => aX Pick.here fun ar' => aB Pick.here ?_
  obtain ⟨qa, qc⟩ := q
  refine ay ?_
  refine aT Pick.here fun hi => ?_
  obtain ⟨i, hmi, rfl, rfl, hps, hpa, haa, hpl⟩ := hi
  (try dsimp only)
  refine bW ?_; refine o_ aN (aF aI .nil (fun h => ?_) (fun h => ?_))
  · have h1 : i + 1 < rs.length := by omega
    have h0 : i < rs.length := by omega
    obtain ⟨g, o, rfl, _⟩ := hA.at_ (by omega)
    obtain ⟨u, hu⟩ : ∃ u, u = rs[i] := ⟨_, rfl⟩
    obtain ⟨v, hv⟩ : ∃ v, v = rs[i + 1] := ⟨_, rfl⟩
    have n0 := NM hA h0
    have n1 := NM hA h1
    have w0 := FV hA h0
    have w1 := FV hA h1
    rw [← hu] at n0 w0
    rw [← hv] at n1 w1
    have hum : u ∈ rs := by rw [hu]; exact List.getElem_mem h0
    have hvm : v ∈ rs := by rw [hv]; exact List.getElem_mem h1
    have bu := hb u hum
    have bv := hb v hvm
    have ru := FS (W := W) (haa u (hm u hum))
    have rv := FS (W := W) (haa v (hm v hvm))
    refine ab (bM (aZ (dx i (by rfl) h0) .nil ?_))
    refine aZ Ah .nil ?_
    refine aZ n0 (.pick (by repeat constructor) .nil) ?_
    (refine aZ (ct (by omega) (by omega)) .nil ?_)
    refine aZ (dx (i + 1) (by rfl) h1) .nil ?_
    refine aZ Ah .nil ?_
    refine aZ n1 (.pick (by repeat constructor) .nil) ?_
    (refine aZ (ct (by omega) (by omega)) .nil ?_)
    refine t_ (dx i (by rfl) h0) ?_
    refine t_ Ah (jB w0 ?_)
    (refine t_ (ct (by omega) (by omega)) ?_)
    refine t_ (dx (i + 1) (by rfl) h1) ?_
    refine t_ Ah (jB w1 ?_)
    refine pS (vs := [.slice (some ⟨u.g, 0, none⟩) u.w.length u.c, .slice (some ⟨v.g, 0, none⟩) v.w.length v.c]) rfl rfl (by intro z hz; simp at hz; rcases hz with rfl | rfl <;> rfl) (by omega) fun g2 => ?_
    refine cq ?_; refine cq ?_; refine cq ?_; refine cq ?_; refine cq ?_; refine cq ?_; refine cq ?_; refine cq ?_
    refine c_ (Pi ru rv bu.2.2.1 bu.2.2.2 bv.2.2.2) fun _ => ?_
    rename_i q2
    obtain ⟨g3, c3⟩ := q2
    (try dsimp only)
    rw [← List.length_append]
    refine Sd (x := ⟨u.n + v.n, g3, c3, u.w ++ v.w⟩) rfl .here .here ?_
    refine cq ?_; refine cq ?_; refine cq ?_; refine cq ?_; refine cq ?_; refine cq ?_; refine cq ?_; refine cq ?_; refine t_ cu ?_
    refine fp (s := 2) (vs := [av ⟨u.n + v.n, g3, c3, u.w ++ v.w⟩]) rfl (by omega) rfl (by intro z hz; simp at hz; subst hz; rfl) (by omega) fun g4 => ?_
    refine co (m := 1) (news := ic ⟨u.n + v.n, g3, c3, u.w ++ v.w⟩) (by repeat constructor) (dq (s := 2) (e' := 319) (by kernel_rfl) .here (by rfl) (n5 _)) (by omega) (by omega) fun a' c' => ?_
    refine bW ?_
    refine bH (m - 2) (by omega) (.ex (a', c') (.ex (ps ++ [⟨u.n + v.n, g3, c3, u.w ++ v.w⟩]) (.ex (⟨u.n + v.n, g3, c3, u.w ++ v.w⟩ :: ar') (.all ?_))))
    refine ay ?_
    refine .pu ⟨i + 2, by omega, by norm_cast, by rw [List.length_append]; rfl, ?_, ?_, fun y hy => List.mem_cons_of_mem _ (haa y hy), by simp; omega⟩ ?_
    · rw [← hps, EL (i := i) (by simpa using h1), List.map_append, List.append_assoc]
      simp [er, hu, hv]
    · intro y hy
      rcases List.mem_append.1 hy with c | c
      · exact List.mem_cons_of_mem _ (hpa y c)
      · rw [List.mem_singleton.1 c]; exact List.mem_cons_self
    · rw [List.flatMap_append, List.length_append, List.length_singleton, List.flatMap_singleton]
      exact aC
  · refine aa ?_
    rw [Hj (by simp; omega), List.append_nil] at hps
    exact hK (qa, qc) ps ar' hps hpa haa
theorem CT {W : World} {A : HP} {F : List HP} {ra : Option Addr} {rc go len k : Nat} {rs ar : List It} {K : WP} (hA : yM W A ra rs) (hm : ∀ y ∈ rs, y ∈ ar) (hl : 2 * k - 2 ≤ rs.length) (hk : 1 ≤ k ∧ k ≤ 1048576) (hlen : len ≤ 1048576)
    (hb : ∀ y ∈ rs, y.w.length ≤ 1073741824 ∧ ∀ s ∈ y.w, 0 ≤ s ∧ s < len)
    (hK : be W (Sl 1 3 (some ⟨go, 0, none⟩) len len (Ln len fun s => (dp (((rs.map er).take (2 * k - 2)).flatMap fun e => e.2) s : Int)) :: F) K) :
    be W (Sl 1 3 (some ⟨go, 0, none⟩) len len (Ln len fun _ => 0) :: A :: gN ar :: F) (bX (fun I4 m4 _ y14 =>
          opN p_ (ae .mul 3 (.int .i64 2) (.int .i64 (k : Int))) jY fun x121 =>
          opN p_ (ae .sub 3 x121 (.int .i64 2)) jY fun x122 =>
          opN p_ (ae .lss 3 y14 x122) jY fun x123 =>
          condS x123
          (opN p_ (bR 317 (.slice ra rs.length rc) y14) jY fun x128 =>
           opN p_ (bB 319 x128 1) jY fun x129 =>
           opN p_ (af 197 x129) jY fun x130 =>
           opN p_ (aV #[197] 3 [x130]) jY fun x131 =>
           bX (fun I5 m5 _ y132 =>
            opN p_ (ae .lss 3 y132 x131) jY fun x133 =>
            condS x133
            (opN p_ (bR 197 x130 y132) jY fun x134 =>
             opN p_ (af 3 x134) jY fun x135 =>
             opN p_ (bR 197 (.slice (some ⟨go, 0, none⟩) len len) x135) jY fun x138 =>
             opN p_ (af 3 x138) jY fun x139 =>
             opN p_ (ae .add 3 x139 (.int .i64 1)) jY fun x140 =>
             opN p_ (bR 197 (.slice (some ⟨go, 0, none⟩) len len) x135) jY fun x141 =>
             opN p_ (ak 3 x141 x140) jY fun _ =>
             opN p_ (ae .add 3 y132 (.int .i64 1)) jY fun x142 =>
             bI I5 m5 x142)
            (opN p_ (ae .add 3 y14 (.int .i64 1)) jY fun x125 =>
             bI I4 m4 x125)) (.int .i64 0))
          K) (.int .i64 0)) := by
  obtain ⟨P, hP⟩ : ∃ P : Nat → List Int, P = fun i => ((rs.map er).take i).flatMap fun e => e.2 := ⟨_, rfl⟩
  have hPb : ∀ i, i ≤ 2097152 → (P i).length ≤ 1073741824 * i := by
    intro i hi
    rw [hP]
    clear hi
    induction i with
    | zero => simp
    | succ i ih =>
      by_cases c : i < rs.length
      · simp only [] at ih ⊢
        rw [List.take_succ_eq_append_getElem (by simpa using c), List.flatMap_append, List.length_append]
        have := (hb rs[i] (List.getElem_mem c)).1
        simp only [List.flatMap_singleton, List.getElem_map, er]
        omega
      · simp only [] at ih ⊢
        rw [List.take_of_length_le (by simp; omega)]
        rw [List.take_of_length_le (by simp; omega)] at ih
        omega
  refine bj (fun m y => [ex fun i : Nat => all [pu (m + i = 2 * k - 2 ∧ y = .int .i64 (i : Int)), Sl 1 3 (some ⟨go, 0, none⟩) len len (Ln len fun s => (dp (P i) s : Int)), A, gN ar]] ++ F) (2 * k - 2) ?_ ?_
  · refine .ex 0 (.all ?_)
    refine ay ?_
    refine .pu ⟨by omega, rfl⟩ ?_
    rw [show P 0 = [] by rw [hP]; rfl]
    exact .pick .here aC
  intro m ds y
  refine ay ?_
  refine aX Pick.here fun i => aB Pick.here ?_
  refine ay ?_
  refine aT Pick.here fun hi => ?_
  obtain ⟨hmi, rfl⟩ := hi
  (refine o_ (gZ (by omega) (by omega)) ?_); refine fI ?_
  refine aF aI .nil (fun h => ?_) (fun h => ?_)
  · have hik : i < rs.length := by omega
    obtain ⟨g, o, rfl, _⟩ := hA.at_ (by omega)
    have hmem : rs[i] ∈ rs := List.getElem_mem hik
    have w0 := FV hA hik
    have r0 := FS (W := W) (hm _ hmem)
    have b0 := hb _ hmem
    have hP1 : P (i + 1) = P i ++ rs[i].w := by
      rw [hP]; simp only []
      rw [List.take_succ_eq_append_getElem (by simpa using hik), List.flatMap_append]; simp [er]
    obtain ⟨u, hu⟩ : ∃ u, u = rs[i] := ⟨_, rfl⟩
    rw [← hu] at w0 r0 b0 hP1
    refine ab (o_ (dx i (by rfl) hik) ?_)
    refine o_ Ah (cm w0 ?_)
    refine o_ aN (bj (fun m y => [ex fun j : Nat => all [pu (m + j = u.w.length ∧ y = .int .i64 (j : Int)), Sl 1 3 (some ⟨go, 0, none⟩) len len (Ln len fun s => (dp (P i ++ u.w.take j) s : Int)), A, gN ar]] ++ F) u.w.length ?_ ?_)
    · refine .ex 0 (.all ?_)
      refine ay ?_
      refine .pu ⟨by omega, rfl⟩ ?_
      rw [List.take_zero, List.append_nil]
      exact aC
    intro m2 ds y
    refine ay ?_
    refine aX Pick.here fun j => aB Pick.here ?_
    refine ay ?_
    refine aT Pick.here fun hj => ?_
    obtain ⟨hmj, rfl⟩ := hj
    refine aF aI .nil (fun h => ?_) (fun h => ?_)
    · have hjl : j < u.w.length := by omega
      obtain ⟨s0, s1⟩ := b0.2 u.w[j] (List.getElem_mem hjl)
      obtain ⟨s, hs⟩ := Int.eq_ofNat_of_zero_le s0
      have hsl : s < len := by omega
      have hc1 := AS s (P i ++ u.w.take j)
      have hc2 := hPb i (by omega)
      rw [List.length_append, List.length_take] at hc1
      refine ab (o_ (bA j (by rfl) hjl) ?_)
      refine cm (cX r0 (gB hjl)) ?_
      refine o_ (bA s hs hsl) ?_
      refine am (dP (v := I (dp (P i ++ u.w.take j) s)) (by rw [Nat.zero_add]; exact nU hsl)) (.pick .here .nil) ?_
      have hi2 : 1073741824 * i ≤ 1073741824 * 2097152 := Nat.mul_le_mul_left _ (by omega)
      refine bW ?_
      refine o_ (bA s hs hsl) ?_
      refine jz .here (by rw [kM]; omega) ?_
      rw [show (Ln len fun s => (dp (P i ++ u.w.take j) s : Int)).set (0 + s) (.int .i64 ((dp (P i ++ u.w.take j) s : Int) + 1)) = Ln len (fun s => (dp (P i ++ u.w.take (j + 1)) s : Int)) from by
        rw [Nat.zero_add]
        refine w8.trans (jP fun z hz => ?_)
        rw [List.take_succ_eq_append_getElem hjl, ← List.append_assoc, eY (l := P i ++ u.w.take j)]
        by_cases e : z = s
        · subst e; rw [if_pos rfl]; simp [dp, hs]
        · have hne : ¬ (u.w[j] = (z : Int)) := by omega
          rw [if_neg e]; simp [dp, hne]]
      refine bW ?_
      refine aP (m2 - 1) (by omega) (.ex (j + 1) (.all ?_))
      refine ay ?_
      exact .pu ⟨by omega, by norm_cast⟩ .refl
    · have : j = u.w.length := by omega
      subst this
      refine aa (bW ?_)
      rw [List.take_length, ← hP1]
      refine aP (m - 1) (by omega) (.ex (i + 1) (.all ?_))
      refine ay ?_
      exact .pu ⟨by omega, by norm_cast⟩ .refl
  · have hie : i = 2 * k - 2 := by omega
    subst hie
    refine aa (cr (.pick .here (.drop (.drop .refl))) ?_)
    rw [hP]
    exact hK
def ce:Int->List Int->List E
 |_,[]=>[]
 |s,x::l=>if 0<x then(x,[s])::ce (s+1) l else ce (s+1) l
theorem uR (x:Int):∀(s:Int) (l:List Int),ce s (l++[x])=ce s l++if 0<x then [(x,[s+l.length])]else []
 |s,[]=>by simp[ce]
 |s,y::l=>by
  have ih:=uR x (s+1) l
  have e:s+1+(l.length:Int)=s+((l.length+1:Nat):Int):=by push_cast;omega
  rw[e]at ih
  simp only[List.cons_append,ce,ih,List.length_cons]
  split <;> simp
theorem sn {α:Type}(key:α->Int):∀us bs:List α,(dO key us bs).length=us.length+bs.length
 |[],bs=>by simp[dO]
 |a::us,bs=>by
  have ih:=sn key us (bs.dropWhile fun b=>decide (key b<key a))
  have h:bs.length=(bs.takeWhile fun b=>decide (key b<key a)).length+(bs.dropWhile fun b=>decide (key b<key a)).length:=by
   rw[<- List.length_append,List.takeWhile_append_dropWhile]
  simp only[dO,List.length_append,List.length_cons,ih]
  omega
def fx (cs:List E)(L:Nat)(s:Nat):Int:=(dp (((dR cs (L-1)).take (2 * cs.length-2)).flatMap fun e=>e.2) s:Int)
end HF
set_option maxRecDepth 4000
namespace PM
open Go Go.Proofs HM HF
def W (xs:List E)(n:Nat):Int:=((xs.take n).map Prod.fst).sum
def Up (xs:List E):Prop:=xs.Pairwise fun a b=>a.1<=b.1
theorem jR (xs:List E):W xs 0=0:=by simp[W]
theorem eH (a:E)(xs:List E)(n:Nat):W (a::xs) (n+1)=a.1+W xs n:=by simp[W]
theorem Js (n:Nat):W [] n=0:=by simp[W]
theorem xo {c:Int}:∀ {xs:List E} {n:Nat},(∀x∈xs,c<=x.1)->n<xs.length->W xs n+c<=W xs (n+1)
 |[],_,_,h=>by simp at h
 |x::xs,0,hc,_=>by
  rw[eH,jR,jR]
  have:=hc x (by simp)
  omega
 |x::xs,n+1,hc,h=>by
  rw[eH,eH]
  have:=xo (c:=c) (xs:=xs) (n:=n) (fun y hy=>hc y (by simp[hy])) (by simpa using h)
  omega
theorem Jt {xs:List E}(h0:∀x∈xs,0<=x.1):∀ {n m:Nat},n<=m->W xs n<=W xs m:=by
 intro n m h
 induction m with
 |zero=>rw[Nat.le_zero.1 h];exact Int.le_refl _
 |succ m ih=>
  rcases Nat.lt_or_ge n (m+1)with c|c
  ·have:=ih (by omega)
   rcases Nat.lt_or_ge m xs.length with d|d
   ·have:=xo (c:=0) (n:=m) h0 d
    omega
   ·have e:W xs (m+1)=W xs m:=by unfold W;rw[List.take_of_length_le (by omega),List.take_of_length_le d]
    omega
  ·rw[show n=m+1 by omega];exact Int.le_refl _
theorem NN {A cs:List E}(h:A.Sublist cs)(hs:Up cs):W cs A.length<=(A.map Prod.fst).sum:=by
 induction h with
 |slnil=>simp[W]
 | @cons A cs a h ih=>
  obtain⟨h1,h2⟩:=List.pairwise_cons.1 hs
  have:=ih h2
  cases A with
  |nil=>simp[W]
  |cons b A=>
   rw[List.length_cons,eH]
   have hl:=h.length_le
   have:=xo (c:=a.1) (xs:=cs) (n:=A.length) h1 (by rw[List.length_cons]at hl;omega)
   rw[List.length_cons]at *
   omega
 | @cons_cons A cs a h ih=>
  obtain⟨h1,h2⟩:=List.pairwise_cons.1 hs
  have:=ih h2
  rw[List.length_cons,eH,List.map_cons,List.sum_cons]
  omega
theorem Sf:∀(n:Nat) (us bs:List E) (p q:Nat),us.length+bs.length=n->Up us->Up bs->p<=us.length->q<=bs.length->W (dO Prod.fst us bs) (p+q)<=W us p+W bs q:=by
 intro n
 induction n with
 |zero=>
  intro us bs p q h _ _ _ _
  have h1:us=[]:=List.eq_nil_of_length_eq_zero (by omega)
  have h2:bs=[]:=List.eq_nil_of_length_eq_zero (by omega)
  subst h1;subst h2
  simp[dO,Js]
 |succ n ih=>
  intro us bs p q h hu hb hp hq
  cases us with
  |nil=>
   have hp0:p=0:=by simpa using hp
   subst hp0
   simp[dO,jR]
  |cons a us=>
   cases bs with
   |nil=>
    have hq0:q=0:=by simpa using hq
    subst hq0
    simp[dS,jR]
   |cons b bs=>
    obtain⟨hu1,hu2⟩:=List.pairwise_cons.1 hu
    obtain⟨hb1,hb2⟩:=List.pairwise_cons.1 hb
    simp only[List.length_cons]at h hp hq
    by_cases hab:b.1<a.1
    ·rw[d6 Prod.fst hab]
     cases q with
     |succ q=>
      rw[show p+(q+1)=(p+q)+1 by omega,eH,eH]
      have:=ih (a::us) bs p q (by simp;omega) hu hb2 (by simpa using hp) (by omega)
      omega
     |zero=>
      cases p with
      |zero=>simp[jR]
      |succ p=>
       rw[show p+1+0=p+1 by omega,eH]
       have:=ih (a::us) bs p 0 (by simp;omega) hu hb2 (by simp;omega) (by omega)
       rw[jR]at this ⊢
       have h2:=xo (c:=a.1) (xs:=a::us) (n:=p) (by
        intro x hx
        rcases List.mem_cons.1 hx with rfl|hx
        ·exact Int.le_refl _
        ·exact hu1 x hx) (by simp;omega)
       rw[Nat.add_zero]at this
       omega
    ·rw[eG Prod.fst hab]
     cases p with
     |succ p=>
      rw[show p+1+q=(p+q)+1 by omega,eH,eH]
      have:=ih us (b::bs) p q (by simp;omega) hu2 hb (by omega) (by simpa using hq)
      omega
     |zero=>
      cases q with
      |zero=>simp[jR]
      |succ q=>
       rw[show 0+(q+1)=q+1 by omega,eH]
       have:=ih us (b::bs) 0 q (by simp;omega) hu2 hb (by omega) (by simp;omega)
       rw[jR]at this ⊢
       have h2:=xo (c:=a.1) (xs:=b::bs) (n:=q) (by
        intro x hx
        rcases List.mem_cons.1 hx with rfl|hx
        ·omega
        ·have:=hb1 x hx;omega) (by simp;omega)
       rw[Nat.zero_add]at this
       omega
theorem so {y:E}:∀us bs:List E,y∈dO Prod.fst us bs->y∈us\/y∈bs
 |[],bs,h=> .inr h
 |a::us,bs,h=>by
  simp only[dO,List.mem_append,List.mem_cons]at h
  rcases h with c|c|c
  ·exact .inr ((List.takeWhile_sublist _).mem c)
  ·exact .inl (by rw[c];exact List.mem_cons_self)
  ·rcases so us _ c with d|d
   ·exact .inl (List.mem_cons_of_mem _ d)
   ·exact .inr ((List.dropWhile_sublist _).mem d)
theorem Pk:∀(n:Nat) (us bs:List E),us.length+bs.length=n->Up us->Up bs->Up (dO Prod.fst us bs):=by
 intro n
 induction n with
 |zero=>
  intro us bs h _ _
  have h1:us=[]:=List.eq_nil_of_length_eq_zero (by omega)
  have h2:bs=[]:=List.eq_nil_of_length_eq_zero (by omega)
  subst h1;subst h2
  simp[dO,Up]
 |succ n ih=>
  intro us bs h hu hb
  cases us with
  |nil=>simpa [dO]using hb
  |cons a us=>
   cases bs with
   |nil=>simpa [dS]using hu
   |cons b bs=>
    obtain⟨hu1,hu2⟩:=List.pairwise_cons.1 hu
    obtain⟨hb1,hb2⟩:=List.pairwise_cons.1 hb
    simp only[List.length_cons]at h
    by_cases hab:b.1<a.1
    ·rw[d6 Prod.fst hab]
     refine List.pairwise_cons.2 ⟨fun x hx=>?_,ih (a::us) bs (by simp;omega) hu hb2⟩
     rcases so _ _ hx with c|c
     ·rcases List.mem_cons.1 c with rfl|c
      ·omega
      ·have:=hu1 x c;omega
     ·exact hb1 x c
    ·rw[eG Prod.fst hab]
     refine List.pairwise_cons.2 ⟨fun x hx=>?_,ih us (b::bs) (by simp;omega) hu2 hb⟩
     rcases so _ _ hx with c|c
     ·exact hu1 x c
     ·rcases List.mem_cons.1 c with rfl|c
      ·omega
      ·have:=hb1 x c;omega
theorem oN:∀xs:List E,(cU xs).length=xs.length / 2
 |[]=>rfl
 |[_]=>by simp[cU]
 |a::b::r=>by
  have:=oN r
  simp only[cU,List.length_cons,this]
  omega
theorem Bd:∀(xs:List E) (q:Nat),2 * q<=xs.length->W (cU xs) q=W xs (2 * q)
 |_,0,_=>by simp[jR]
 |[],q+1,h=>by simp at h
 |[_],q+1,h=>by simp at h;omega
 |a::b::r,q+1,h=>by
  have:=Bd r q (by simp at h;omega)
  rw[show 2 * (q+1)=2 * q+1+1 by omega,eH,eH,cU,eH,this]
  omega
theorem xp {c:Int}:∀ {xs:List E},(∀x∈xs,c<=x.1)->∀y∈cU xs,c+c<=y.1
 |[],_,y,hy=>by simp[cU]at hy
 |[_],_,y,hy=>by simp[cU]at hy
 |a::b::r,h,y,hy=>by
  have h1:=h a (by simp)
  have h2:=h b (by simp)
  rcases List.mem_cons.1 hy with rfl|hy
  ·show c+c<=a.1+b.1
   omega
  ·exact xp (fun x hx=>h x (by simp[hx])) y hy
theorem xr:∀ {xs:List E},Up xs->Up (cU xs)
 |[],_=>by simp[cU,Up]
 |[_],_=>by simp[cU,Up]
 |a::b::r,h=>by
  obtain⟨h1,h2⟩:=List.pairwise_cons.1 h
  obtain⟨h3,h4⟩:=List.pairwise_cons.1 h2
  refine List.pairwise_cons.2 ⟨fun y hy=>?_,xr h4⟩
  have hab:=h1 b (by simp)
  have:=xp (c:=b.1) h3 y hy
  show a.1+b.1<=y.1
  omega
theorem FX {cs:List E}(h:Up cs):∀j,Up (dR cs j)
 |0=>h
 |j+1=>Pk _ _ _ rfl h (xr (FX h j))
theorem sq {cs:List E}(h:∀x∈cs,0<x.1):∀j,∀x∈dR cs j,0<x.1
 |0,x,hx=>h x hx
 |j+1,x,hx=>by
  rcases so _ _ hx with c|c
  ·exact h x c
  ·have:=xp (c:=1) (fun y hy=>by have:=sq h j y hy;omega) x c
   omega
theorem xt (cs:List E)(j:Nat):(dR cs (j+1)).length=cs.length+(dR cs j).length / 2:=by
 rw[dR,sn,oN]
theorem zy (cs:List E):∀j,(dR cs j).length<=2 * cs.length
 |0=>by simp[dR];omega
 |j+1=>by rw[xt];have:=zy cs j;omega
theorem sr {cs:List E}(hk:1<=cs.length):∀j,(dR cs j).length+1<=2 * cs.length/\(2 * cs.length-(dR cs j).length-1) * 2^j<=cs.length-1
 |0=>by simp[dR];omega
 |j+1=>by
  obtain⟨h1,h2⟩:=sr hk j
  rw[xt]
  generalize (dR cs j).length=r at h1 h2 ⊢
  refine⟨by omega,?_⟩
  have:(2 * cs.length-(cs.length+r / 2)-1) * 2<=2 * cs.length-r-1:=by omega
  calc (2 * cs.length-(cs.length+r / 2)-1) * 2^(j+1)=((2 * cs.length-(cs.length+r / 2)-1) * 2) * 2^j:=by rw[Nat.pow_succ,Nat.mul_comm (2^j) 2,Nat.mul_assoc]
   _<=(2 * cs.length-r-1) * 2^j:=Nat.mul_le_mul_right _ this
   _<=_:=h2
theorem uS {cs:List E}{j:Nat}(hk:1<=cs.length)(h:cs.length<=2^(j+1)):2 * cs.length-2<=(dR cs j).length:=by
 obtain⟨h1,h2⟩:=sr hk j
 rw[Nat.pow_succ]at h
 have:(2 * cs.length-(dR cs j).length-1)<2:=by
  refine Nat.lt_of_mul_lt_mul_right (a:=2^j) ?_
  omega
 omega

def T (L:Nat)(t:List Nat)(j:Nat):List Int:=t.map fun x=>((x+j+1-L:Nat):Int)
def EM:List E->List Int->Int
 |a::us,x::xs=>a.1 * x+EM us xs
 |_,_=>0
def ge (d:Nat):List E->List Nat->List E
 |a::us,x::xs=>if d<=x then a::ge d us xs else ge d us xs
 |_,_=>[]
theorem xu (d:Nat):∀us xs,(ge d us xs).Sublist us
 |a::us,x::xs=>by
  unfold ge
  split
  ·exact(xu d us xs).cons_cons a
  ·exact(xu d us xs).cons a
 |[],_=>by cases ‹List Nat› <;> simp[ge]
 |_::_,[]=>by simp[ge]
theorem CU (L j:Nat)(hj:j+1<L):∀(us:List E) (t:List Nat),EM us (T L t (j+1))=EM us (T L t j)+((ge (L-(j+1)) us t).map Prod.fst).sum
 |a::us,x::xs=>by
  have ih:=CU L j hj us xs
  simp only[T,List.map_cons,EM,ge]at ih ⊢
  rw[ih]
  split
  ·rename_i h
   rw[List.map_cons,List.sum_cons,show(x+(j+1)+1-L:Nat)=(x+j+1-L)+1 by omega]
   push_cast
   rw[Int.mul_add,Int.mul_one]
   omega
  ·rename_i h
   rw[show(x+(j+1)+1-L:Nat)=(x+j+1-L) by omega]
   omega
 |[],t=>by cases t <;> simp[T,EM,ge]
 |a::us,[]=>by simp[T,EM,ge]
theorem CV (L:Nat)(hL:1<=L):∀(us:List E) (t:List Nat),(∀x∈t,x<=L)->EM us (T L t 0)=((ge L us t).map Prod.fst).sum
 |a::us,x::xs,h=>by
  have ih:=CV L hL us xs fun y hy=>h y (by simp[hy])
  have hx:=h x (by simp)
  simp only[T,List.map_cons,EM,ge]at ih ⊢
  rw[ih]
  split
  ·rename_i h
   rw[List.map_cons,List.sum_cons,show(x+0+1-L:Nat)=1 by omega]
   simp
  ·rename_i h
   rw[show(x+0+1-L:Nat)=0 by omega]
   simp
 |[],t,_=>by cases t <;> simp[T,EM,ge]
 |a::us,[],_=>by simp[T,EM,ge]
def DL (L:Nat)(cs:List E)(t:List Nat):Nat->Nat
 |0=>(ge L cs t).length
 |j+1=>(ge (L-(j+1)) cs t).length+DL L cs t j / 2
theorem rP {L:Nat}{cs:List E}{t:List Nat}(hL:1<=L)(hu:Up cs)(hp:∀x∈cs,0<x.1)(ht:∀x∈t,x<=L):∀j,j<L->DL L cs t j<=(dR cs j).length/\W (dR cs j) (DL L cs t j)<=EM cs (T L t j)
 |0,_=>by
  rw[CV L hL cs t ht]
  exact⟨(xu L cs t).length_le,NN (xu L cs t) hu⟩
 |j+1,hj=>by
  obtain⟨h1,h2⟩:=rP hL hu hp ht j (by omega)
  have hs:=xu (L-(j+1)) cs t
  have hw:=NN hs hu
  have hl:=hs.length_le
  refine⟨by rw[xt,DL];omega,?_⟩
  rw[CU L j hj,DL]
  have hm:=Sf _ cs (cU (dR cs j)) (ge (L-(j+1)) cs t).length (DL L cs t j / 2) rfl hu (xr (FX hu j)) hl (by rw[oN];omega)
  rw[Bd _ _ (by omega)]at hm
  have hmo:=Jt (xs:=dR cs j) (fun x hx=>Int.le_of_lt (sq hp j x hx)) (show 2 * (DL L cs t j / 2)<=DL L cs t j by omega)
  show W (dO Prod.fst cs (cU (dR cs j))) _<=_
  omega
def cz (L:Nat)(j x:Nat):Nat:=if L-j<=x then 2^(j+1)-2^(L-x)else 0
def CZ (L j:Nat):List Nat->Nat
 |[]=>0
 |x::t=>cz L j x+CZ L j t
theorem Mh {L j x:Nat}(hj:j+1<L)(hx:x<=L):cz L (j+1) x=cz L j x+if L-(j+1)<=x then 2^(j+1)else 0:=by
 unfold cz
 have hp:2^(j+1+1)=2^(j+1)+2^(j+1):=by rw[Nat.pow_succ];omega
 by_cases h1:L-j<=x
 ·have:2^(L-x)<=2^j:=Nat.pow_le_pow_right (by omega) (by omega)
  have h2:2^(j+1)=2^j+2^j:=by rw[Nat.pow_succ];omega
  rw[if_pos (by omega),if_pos h1,if_pos (by omega),hp]
  generalize 2^(j+1)=A at h2 ⊢
  generalize 2^(L-x)=B at this ⊢
  omega
 ·rw[if_neg h1]
  by_cases h2:L-(j+1)<=x
  ·rw[if_pos h2,if_pos h2,show L-x=j+1 by omega,hp,Nat.zero_add,Nat.add_sub_cancel]
  ·rw[if_neg h2,if_neg h2]
theorem FY {L j:Nat}(hj:j+1<L):∀(cs:List E) (t:List Nat),cs.length=t.length->(∀x∈t,x<=L)->CZ L (j+1) t=CZ L j t+(ge (L-(j+1)) cs t).length * 2^(j+1)
 |[],[],_,_=>by simp[CZ,ge]
 |a::us,x::t,h,ht=>by
  have ih:=FY hj us t (by simpa using h) fun y hy=>ht y (by simp[hy])
  simp only[CZ,ge]
  rw[ih,Mh hj (ht x (by simp))]
  split
  ·rw[List.length_cons,Nat.add_mul];omega
  ·omega
 |[],_::_,h,_=>by simp at h
 |_::_,[],h,_=>by simp at h
theorem FZ {L:Nat}(hL:1<=L):∀(cs:List E) (t:List Nat),cs.length=t.length->(∀x∈t,x<=L)->CZ L 0 t=(ge L cs t).length
 |[],[],_,_=>by simp[CZ,ge]
 |a::us,x::t,h,ht=>by
  have ih:=FZ hL us t (by simpa using h) fun y hy=>ht y (by simp[hy])
  have hx:=ht x (by simp)
  simp only[CZ,ge,cz]
  rw[ih]
  by_cases c:L<=x
  ·rw[if_pos (by omega),if_pos c,List.length_cons,show L-x=0 by omega];omega
  ·rw[if_neg (by omega),if_neg c];omega
 |[],_::_,h,_=>by simp at h
 |_::_,[],h,_=>by simp at h
theorem Ju {L:Nat}{cs:List E}{t:List Nat}(hL:1<=L)(hl:cs.length=t.length)(ht:∀x∈t,x<=L):∀j,j<L->CZ L j t<(DL L cs t j+1) * 2^j
 |0,_=>by rw[FZ hL cs t hl ht,DL];omega
 |j+1,hj=>by
  have ih:=Ju hL hl ht j (by omega)
  rw[FY hj cs t hl ht,DL]
  have h2:(DL L cs t j+1) * 2^j<=(DL L cs t j / 2+1) * 2^(j+1):=by
   rw[Nat.pow_succ,Nat.mul_comm (2^j) 2,<- Nat.mul_assoc]
   exact Nat.mul_le_mul_right _ (by omega)
  rw[show(ge (L-(j+1)) cs t).length+DL L cs t j / 2+1=(ge (L-(j+1)) cs t).length+(DL L cs t j / 2+1) by omega,Nat.add_mul (ge (L-(j+1)) cs t).length]
  omega
def DM (L:Nat):List Nat->Nat
 |[]=>0
 |x::t=>2^(L-x)+DM L t
theorem Jv {L:Nat}(hL:1<=L):∀(t:List Nat),(∀x∈t,1<=x/\x<=L)->CZ L (L-1) t+DM L t=t.length * 2^L
 |[],_=>by simp[CZ,DM]
 |x::t,h=>by
  have ih:=Jv hL t fun y hy=>h y (by simp[hy])
  have hx:=h x (by simp)
  simp only[CZ,DM,cz,List.length_cons]
  rw[if_pos (by omega),show L-1+1=L by omega,Nat.add_mul,<- ih]
  have:2^(L-x)<=2^L:=Nat.pow_le_pow_right (by omega) (by omega)
  omega
theorem Sg {L:Nat}(hL:1<=L)(t:List Nat):T L t (L-1)=t.map fun x:Nat=>(x:Int):=by
 unfold T
 apply List.map_congr_left
 intro x _
 rw[show x+(L-1)+1-L=x by omega]
theorem gW {L:Nat}{cs:List E}{t:List Nat}(hL:1<=L)(hu:Up cs)(hp:∀x∈cs,0<x.1)(hl:cs.length=t.length)(ht:∀x∈t,1<=x/\x<=L)(hk:DM L t<=2^L):
  W (dR cs (L-1)) (2 * cs.length-2)<=EM cs (t.map fun x:Nat=>(x:Int)):=by
 obtain⟨h1,h2⟩:=rP (t:=t) hL hu hp (fun x hx=>(ht x hx).2) (L-1) (by omega)
 rw[Sg hL]at h2
 have h3:=Ju hL hl (fun x hx=>(ht x hx).2) (L-1) (by omega)
 have h4:=Jv hL t ht
 have hpw:2^L=2 * 2^(L-1):=by
  conv=>lhs;rw[show L=L-1+1 by omega,Nat.pow_succ]
  omega
 have hm:2 * cs.length-2<DL L cs t (L-1)+1:=by
  refine Nat.lt_of_mul_lt_mul_right (a:=2^(L-1)) ?_
  refine Nat.lt_of_le_of_lt ?_ h3
  have:(2 * cs.length-2) * 2^(L-1)=(t.length-1) * 2^L:=by
   rw[hpw,<- Nat.mul_assoc,hl]
   congr 1
   omega
  rw[this,Nat.sub_mul,Nat.one_mul]
  omega
 exact Int.le_trans (Jt (fun x hx=>Int.le_of_lt (sq hp _ x hx)) (by omega)) h2

def sy (xs:List E):List Int:=xs.flatMap fun e=>e.2
theorem Jw:∀(m:Nat) (us bs:List E) (n:Nat),us.length+bs.length=m->Up us->n<=m->∃p q,p+q=n/\p<=us.length/\q<=bs.length/\W (dO Prod.fst us bs) n=W us p+W bs q/\
  (∀s,dp (sy ((dO Prod.fst us bs).take n)) s=dp (sy (us.take p)) s+dp (sy (bs.take q)) s)/\(∀a∈us.drop p,∀b∈bs.take q,b.1<a.1)/\(∀a∈us.take p,a∈(dO Prod.fst us bs).take n):=by
 intro m
 induction m with
 |zero=>
  intro us bs n h _ hn
  have h1:us=[]:=List.eq_nil_of_length_eq_zero (by omega)
  have h2:bs=[]:=List.eq_nil_of_length_eq_zero (by omega)
  subst h1;subst h2
  exact⟨0,0,by omega,by simp,by simp,by simp[dO,Js],by simp[dO,sy,dp],by simp,by simp⟩
 |succ m ih=>
  intro us bs n h hu hn
  cases n with
  |zero=>exact⟨0,0,by omega,by omega,by omega,by simp[jR],by simp[sy,dp],by simp,by simp⟩
  |succ n=>
   cases us with
   |nil=>exact⟨0,n+1,by omega,by simp,by simp at h;omega,by simp[dO,Js],by simp[dO,sy,dp],by simp,by simp⟩
   |cons a us=>
    obtain⟨hu1,hu2⟩:=List.pairwise_cons.1 hu
    cases bs with
    |nil=>exact⟨n+1,0,by omega,by simp at h ⊢;omega,by simp,by simp[dS,jR],by simp[dS,sy,dp],by simp,by simp[dS]⟩
    |cons b bs=>
     simp only[List.length_cons]at h
     by_cases hab:b.1<a.1
     ·obtain⟨p,q,h1,h2,h3,h4,h5,h6,h7⟩:=ih (a::us) bs n (by simp;omega) hu (by omega)
      rw[d6 Prod.fst hab]
      refine⟨p,q+1,by omega,h2,by simp;omega,by rw[eH,eH,h4];omega,fun s=>?_,fun x hx y hy=>?_,fun x hx=>List.mem_cons_of_mem _ (h7 x hx)⟩
      ·have:=h5 s
       simp only[List.take_succ_cons,sy,List.flatMap_cons,eY]at this ⊢
       omega
      ·rcases List.mem_cons.1 (by simpa using hy)with rfl|hy
       ·have hx':=List.mem_of_mem_drop hx
        rcases List.mem_cons.1 hx' with rfl|hx'
        ·exact hab
        ·have:=hu1 x hx';omega
       ·exact h6 x hx y hy
     ·obtain⟨p,q,h1,h2,h3,h4,h5,h6,h7⟩:=ih us (b::bs) n (by simp;omega) hu2 (by omega)
      rw[eG Prod.fst hab]
      refine⟨p+1,q,by omega,by simp;omega,h3,by rw[eH,eH,h4];omega,fun s=>?_,fun x hx y hy=>h6 x (by simpa using hx) y hy,fun x hx=>?_⟩
      ·have:=h5 s
       simp only[List.take_succ_cons,sy,List.flatMap_cons,eY]at this ⊢
       omega
      ·rcases List.mem_cons.1 (by simpa using hx)with rfl|hx
       ·exact List.mem_cons_self
       ·exact List.mem_cons_of_mem _ (h7 x hx)
theorem CW:∀(xs:List E) (q:Nat),2 * q<=xs.length->sy ((cU xs).take q)=sy (xs.take (2 * q))
 |_,0,_=>by simp[sy,dp]
 |[],q+1,h=>by simp at h
 |[_],q+1,h=>by simp at h;omega
 |a::b::r,q+1,h=>by
  have:=CW r q (by simp at h;omega)
  rw[show 2 * (q+1)=2 * q+1+1 by omega]
  simp only[cU,List.take_succ_cons,sy,List.flatMap_cons]at this ⊢
  rw[this,List.append_assoc]
theorem CX:∀(xs:List E) (q:Nat),2 * q<=xs.length->(∀x∈xs,0<x.1)->∀x∈xs.take (2 * q),∃y∈(cU xs).take q,x.1<y.1
 |_,0,_,_,x,hx=>by simp at hx
 |[],q+1,h,_,_,_=>by simp at h
 |[_],q+1,h,_,_,_=>by simp at h;omega
 |a::b::r,q+1,h,hp,x,hx=>by
  rw[show 2 * (q+1)=2 * q+1+1 by omega]at hx
  simp only[List.take_succ_cons,List.mem_cons]at hx
  have ha:=hp a (by simp)
  have hb:=hp b (by simp)
  rcases hx with rfl|rfl|hx
  ·exact⟨_,List.mem_cons_self,by show x.1<x.1+b.1;omega⟩
  ·exact⟨_,List.mem_cons_self,by show x.1<a.1+x.1;omega⟩
  ·obtain⟨y,hy,h2⟩:=CX r q (by simp at h;omega) (fun z hz=>hp z (by simp[hz])) x hx
   exact⟨y,by simp[cU,hy],h2⟩
def Pl:List Nat->Prop
 |p::q::r=>q<=p/\Pl (q::r)
 |_=>True
def K:List Nat->Nat
 |[]=>0
 |p::ps=>p * 2^ps.length+K ps
def zz (ps:List Nat)(r:Nat):Nat:=(ps.filter fun p=>decide (r<p)).length
theorem Si {cs:List E}(hu:Up cs)(hp:∀x∈cs,0<x.1):∀(j n:Nat),n<=(dR cs j).length->∃ps:List Nat,ps.length=j+1/\Pl ps/\(∀p∈ps,p<=cs.length)/\K ps=n * 2^j/\
  W (dR cs j) n=(ps.map fun p=>W cs p).sum/\(∀s,dp (sy ((dR cs j).take n)) s=(ps.map fun p=>dp (sy (cs.take p)) s).sum)/\(∀p,ps.head? =some p->∀x∈cs.take p,x∈(dR cs j).take n)
 |0,n,h=>⟨[n],rfl,trivial,by intro p hp;rw[List.mem_singleton.1 hp];exact h,by simp[K],by simp[dR],by simp[dR],by
   intro p hp x hx
   cases hp
   exact hx⟩
 |j+1,n,h=>by
  obtain⟨p,q,h1,h2,h3,h4,h5,h6,h7⟩:=Jw _ cs (cU (dR cs j)) n rfl hu (by rw[<- sn Prod.fst];exact h)
  have hq:2 * q<=(dR cs j).length:=by rw[oN]at h3;omega
  obtain⟨ps,g1,g2,g3,g4,g5,g6,g7⟩:=Si hu hp j (2 * q) hq
  cases ps with
  |nil=>simp at g1
  |cons p' ps=>
   have hpp:p'<=p:=by
    rcases Nat.lt_or_ge p p' with c|c
    ·exfalso
     have hl:p<cs.length:=by have:=g3 p' (by simp);omega
     have m1:cs[p]∈cs.take p':=List.mem_take_iff_getElem.2 ⟨p,by omega,rfl⟩
     obtain⟨y,hy,hlt⟩:=CX (dR cs j) q hq (sq hp j) _ (g7 p' rfl _ m1)
     have m2:cs[p]∈cs.drop p:=by rw[List.drop_eq_getElem_cons hl];exact List.mem_cons_self
     have:=h6 _ m2 _ hy
     omega
    ·exact c
   refine⟨p::p'::ps,by simpa using g1,⟨hpp,g2⟩,?_,?_,?_,fun s=>?_,?_⟩
   ·intro x hx
    rcases List.mem_cons.1 hx with rfl|hx
    ·exact h2
    ·exact g3 x hx
   ·rw[K,g4,g1,<- h1,Nat.pow_succ,Nat.add_mul,Nat.mul_comm 2 q,Nat.mul_assoc q,Nat.mul_comm 2]
   ·show W (dO Prod.fst cs (cU (dR cs j))) n=_
    rw[h4,Bd _ _ hq,g5];simp only[List.map_cons,List.sum_cons]
   ·show dp (sy ((dO Prod.fst cs (cU (dR cs j))).take n)) s=_
    rw[h5,CW _ _ hq,g6];simp only[List.map_cons,List.sum_cons]
   ·intro x hx
    cases hx
    exact h7

def CY (ps:List Nat):Nat->Nat
 |0=>0
 |k+1=>CY ps k+2^(ps.length-zz ps k)
theorem Sj (ps:List Nat)(r:Nat):zz ps r<=ps.length:=List.length_filter_le _ _
theorem Jx {p:Nat}{ps:List Nat}(h:Pl (p::ps)):Pl ps:=by
 cases ps with
 |nil=>trivial
 |cons q r=>exact h.2
theorem EN {p:Nat}:∀ {ps:List Nat},Pl (p::ps)->∀q∈ps,q<=p
 |[],_,q,hq=>by cases hq
 |x::r,h,q,hq=>by
  rcases List.mem_cons.1 hq with rfl|hq
  ·exact h.1
  ·have:=EN h.2 q hq
   have:=h.1
   omega
theorem F0 {ps:List Nat}{r:Nat}(h:∀q∈ps,q<=r):zz ps r=0:=by
 unfold zz
 rw[List.length_eq_zero_iff,List.filter_eq_nil_iff]
 intro q hq c
 have:=h q hq
 have:=of_decide_eq_true c
 omega
theorem C0 {p:Nat}{ps:List Nat}(h:Pl (p::ps)):∀k,CY (p::ps) k=CY ps k+(k-p) * 2^ps.length
 |0=>by simp[CY]
 |k+1=>by
  rw[CY,CY,C0 h k]
  have hl:=Sj ps k
  by_cases hk:k<p
  ·have e:zz (p::ps) k=zz ps k+1:=by unfold zz;rw[List.filter_cons,if_pos (by simpa using hk)];rfl
   rw[e,List.length_cons,show ps.length+1-(zz ps k+1)=ps.length-zz ps k by omega,show k-p=0 by omega,show k+1-p=0 by omega]
   omega
  ·have e0:zz ps k=0:=F0 fun q hq=>by have:=EN h q hq;omega
   have e:zz (p::ps) k=0:=F0 fun q hq=>by
    rcases List.mem_cons.1 hq with rfl|hq
    ·omega
    ·have:=EN h q hq;omega
   rw[e,e0,List.length_cons,Nat.sub_zero,Nat.sub_zero,show k+1-p=(k-p)+1 by omega,Nat.pow_succ,Nat.add_mul]
   omega
theorem NO:∀ {ps:List Nat} {k:Nat},Pl ps->(∀p∈ps,p<=k)->CY ps k+K ps=k * 2^ps.length
 |[],k,_,_=>by
  have:∀k,CY [] k=k:=by
   intro k
   induction k with
   |zero=>rfl
   |succ k ih=>rw[CY,ih];simp
  rw[this];simp[K]
 |p::ps,k,hd,h=>by
  have ih:=NO (k:=k) (Jx hd) fun q hq=>h q (by simp[hq])
  have hpk:=h p (by simp)
  rw[C0 hd,K,List.length_cons,Nat.pow_succ]
  have:(k-p) * 2^ps.length+p * 2^ps.length=k * 2^ps.length:=by rw[<- Nat.add_mul];congr 1;omega
  rw[Nat.mul_comm (2^ps.length) 2,Nat.mul_left_comm]
  omega
theorem Be {ps:List Nat}:∀ {k r:Nat},r<k->2^(ps.length-zz ps r)+(k-1)<=CY ps k
 |0,r,h=>by omega
 |k+1,r,h=>by
  rw[CY]
  by_cases c:r=k
  ·subst c
   have:∀k,k<=CY ps k:=by
    intro k
    induction k with
    |zero=>omega
    |succ k ih=>
     rw[CY]
     have:=Nat.two_pow_pos (ps.length-zz ps k)
     omega
   have:=this r
   omega
  ·have:=Be (ps:=ps) (show r<k by omega)
   have:=Nat.two_pow_pos (ps.length-zz ps k)
   omega

theorem xw {α:Type}(key:α->Int)(acc:List α)(x:α):∀j,(ey key acc x j).Perm (x::acc)
 |0=> .refl _
 |j+1=>by
  unfold ey
  split
  ·split
   ·exact xw key acc x j
   ·have:=List.perm_middle (a:=x) (l₁:=acc.take (j+1)) (l₂:=acc.drop (j+1))
    rwa [List.take_append_drop]at this
  ·have:=List.perm_middle (a:=x) (l₁:=acc) (l₂:=[])
   rwa [List.append_nil]at this
theorem qu {α:Type}(key:α->Int)(xs:List α):(bt key xs).Perm xs:=by
 have:∀(xs acc:List α),(xs.foldl (mT key) acc).Perm (acc++xs):=by
  intro xs
  induction xs with
  |nil=>intro acc;simp
  |cons x xs ih=>
   intro acc
   rw[List.foldl_cons]
   refine(ih _).trans ?_
   have h1:=(xw key acc x acc.length).append_right xs
   exact h1.trans (List.perm_middle (a:=x) (l₁:=acc) (l₂:=xs)).symm
 exact this xs []
theorem C1 (acc:List E)(x:E)(hu:Up acc):∀j,j<=acc.length->(∀y∈acc.drop j,x.1<y.1)->Up (ey Prod.fst acc x j)
 |0,_,h=>List.pairwise_cons.2 ⟨fun y hy=>Int.le_of_lt (h y (by simpa using hy)),hu⟩
 |j+1,hj,h=>by
  unfold ey
  rw[List.getElem?_eq_getElem (by omega)]
  simp only
  split
  ·rename_i hlt
   refine C1 acc x hu j (by omega) fun y hy=>?_
   rw[List.drop_eq_getElem_cons (by omega)]at hy
   rcases List.mem_cons.1 hy with rfl|hy
   ·exact hlt
   ·exact h y hy
  ·rename_i hge
   have e:acc=acc.take (j+1)++acc.drop (j+1):=(List.take_append_drop _ _).symm
   unfold Up at hu ⊢
   rw[e,List.pairwise_append]at hu
   obtain⟨h1,h2,h3⟩:=hu
   refine List.pairwise_append.2 ⟨h1,List.pairwise_cons.2 ⟨fun y hy=>Int.le_of_lt (h y hy),h2⟩,fun a ha b hb=>?_⟩
   rcases List.mem_cons.1 hb with rfl|hb
   ·rw[List.take_succ_eq_append_getElem (by omega)]at ha h1
    have hx:acc[j].1<=b.1:=by omega
    rcases List.mem_append.1 ha with ha|ha
    ·have:=(List.pairwise_append.1 h1).2.2 a ha acc[j] (by simp)
     omega
    ·rw[List.mem_singleton.1 ha];exact hx
   ·exact h3 a ha b hb
theorem Jy (xs:List E):Up (bt Prod.fst xs):=by
 have:∀(xs acc:List E),Up acc->Up (xs.foldl (mT Prod.fst) acc):=by
  intro xs
  induction xs with
  |nil=>intro acc h;exact h
  |cons x xs ih=>
   intro acc h
   rw[List.foldl_cons]
   exact ih _ (C1 acc x h _ (Nat.le_refl _) (by simp))
 exact this xs [] (by simp[Up])
def ez (f:E->Int):List E->Int
 |[]=>0
 |e::r=>f e+ez f r
theorem iy (f:E->Int){a b:List E}(h:a.Perm b):ez f a=ez f b:=by
 induction h with
 |nil=>rfl
 |cons x _ ih=>simp[ez,ih]
 |swap x y l=>simp[ez];omega
 |trans _ _ h1 h2=>rw[h1,h2]
theorem C2 (f g:E->Int):∀l,ez (fun e=>f e+g e) l=ez f l+ez g l
 |[]=>rfl
 |e::r=>by simp[ez,C2 f g r];omega
def Bf (g:Int->Int->Int):Int->List Int->Int
 |_,[]=>0
 |s,x::l=>(if 0<x then g x s else 0)+Bf g (s+1) l
def one (e:E):Int:=e.2.headD 0
theorem ek (g:Int->Int->Int):∀(s:Int) (l:List Int),ez (fun e=>g e.1 (one e)) (ce s l)=Bf g s l
 |_,[]=>rfl
 |s,x::l=>by
  unfold ce Bf
  split
  ·rw[ez,ek g (s+1) l];rfl
  ·rw[ek g (s+1) l];omega
theorem lF {e:E}:∀ {s:Int} {l:List Int},e∈ce s l->0<e.1/\e.2=[one e]/\s<=one e/\one e<s+l.length
 |_,[],h=>by simp[ce]at h
 |s,x::l,h=>by
  unfold ce at h
  have ih:e∈ce (s+1) l->_:=fun h=>lF (s:=s+1) (l:=l) h
  split at h
  ·rename_i hx
   rcases List.mem_cons.1 h with rfl|h
   ·refine⟨hx,rfl,?_,?_⟩ <;> simp[one] <;> omega
   ·obtain⟨h1,h2,h3,h4⟩:=ih h
    exact⟨h1,h2,by omega,by simp;omega⟩
  ·obtain⟨h1,h2,h3,h4⟩:=ih h
   exact⟨h1,h2,by omega,by simp;omega⟩
theorem n6:∀(s:Int) (l:List Int),((ce s l).map one).Nodup
 |_,[]=>by simp[ce]
 |s,x::l=>by
  unfold ce
  split
  ·rw[List.map_cons,List.nodup_cons]
   refine⟨fun h=>?_,n6 (s+1) l⟩
   obtain⟨e,he,h⟩:=List.mem_map.1 h
   have:=(lF he).2.2.1
   have:one (x,[s])=s:=rfl
   omega
  ·exact n6 (s+1) l
theorem Mi {xs:List E}(h:∀e∈xs,e.2=[one e]):sy xs=xs.map one:=by
 induction xs with
 |nil=>rfl
 |cons e r ih=>
  have:=ih fun y hy=>h y (by simp[hy])
  unfold sy at this ⊢
  rw[List.flatMap_cons,this,h e (by simp)];rfl
theorem gO {j:Nat}:∀ {l:List Int},(j:Int)∉l->dp l j=0
 |[],_=>rfl
 |x::l,h=>by
  rw[dp,gO (l:=l) fun c=>h (by simp[c]),if_neg fun c=>h (by simp[c])]
theorem tU {l:List Int}(hn:l.Nodup){r:Nat}(hr:r<l.length){j:Nat}(hj:l[r]=(j:Int))(p:Nat):dp (l.take p) j=if r<p then 1 else 0:=by
 induction l generalizing r p with
 |nil=>simp at hr
 |cons x l ih=>
  obtain⟨h1,h2⟩:=List.nodup_cons.1 hn
  cases p with
  |zero=>simp[dp]
  |succ p=>
   rw[List.take_succ_cons,dp]
   cases r with
   |zero=>
    have hx:x=(j:Int):=hj
    rw[if_pos hx,if_pos (by omega),gO]
    intro c
    exact h1 (by rw[hx];exact List.mem_of_mem_take c)
   |succ r=>
    have hr':r<l.length:=by simpa using hr
    have hj':l[r]=(j:Int):=by simpa using hj
    rw[ih h2 hr' hj' p,if_neg (show ¬x=(j:Int)from fun c=>h1 (by rw[c,<- hj'];exact List.getElem_mem _))]
    by_cases c:r<p
    ·rw[if_pos c,if_pos (by omega)]
    ·rw[if_neg c,if_neg (by omega)]
theorem C3 (f:E->Int):∀a b,ez f (a++b)=ez f a+ez f b
 |[],b=>by simp[ez]
 |e::r,b=>by simp[ez,C3 f r b];omega
theorem l9 {f g:E->Int}:∀ {l:List E},(∀e∈l,f e=g e)->ez f l=ez g l
 |[],_=>rfl
 |e::r,h=>by rw[ez,ez,h e (by simp),l9 fun x hx=>h x (by simp[hx])]
theorem tV:∀l,ez (fun _=>0) l=0
 |[]=>rfl
 |e::r=>by rw[ez,tV r];rfl
theorem C4:∀l:List E,ez (fun e=>e.1) l=(l.map Prod.fst).sum
 |[]=>rfl
 |e::r=>by rw[ez,C4 r];rfl
theorem C5 (f:Nat->E->Int):∀(ps:List Nat) (l:List E),ez (fun e=>(ps.map fun p=>f p e).sum) l=(ps.map fun p=>ez (f p) l).sum
 |[],l=>by simp[tV]
 |p::ps,l=>by
  have:=C5 f ps l
  simp only[List.map_cons,List.sum_cons]
  rw[C2,this]
theorem C6:∀l:List Nat,((l.sum:Nat):Int)=(l.map fun x:Nat=>(x:Int)).sum
 |[]=>rfl
 |x::l=>by simp[C6 l]
theorem Jz (r:Nat):∀ps:List Nat,(ps.map fun p=>if r<p then 1 else 0).sum=zz ps r
 |[]=>rfl
 |p::ps=>by
  have:=Jz r ps
  unfold zz at this ⊢
  rw[List.map_cons,List.sum_cons,this,List.filter_cons]
  by_cases c:r<p
  ·rw[if_pos c,if_pos (by simpa using c),List.length_cons];omega
  ·rw[if_neg c,if_neg (by simpa using c)];omega
theorem C7 (L:Nat)(x:Nat):∀t:List Nat,DM L (t++[x])=DM L t+2^(L-x)
 |[]=>by simp[DM]
 |y::t=>by simp[DM,C7 L x t];omega
theorem F1 {ps:List Nat}:∀(k:Nat) (t:List Nat),t.length=k->(∀r (h:r<t.length),t[r]=zz ps r)->DM ps.length t=CY ps k
 |0,t,h,_=>by rw[List.eq_nil_of_length_eq_zero h];rfl
 |k+1,t,h,ht=>by
  have hk:k<t.length:=by omega
  have e:t=t.take k++[t[k]]:=by
   rw[<- List.take_succ_eq_append_getElem hk,List.take_of_length_le (by omega)]
  rw[e,C7,CY,ht k hk,F1 k (t.take k) (by simp;omega) fun r hr=>by
   rw[List.getElem_take]
   exact ht r _]
theorem xx {L:Nat}(hL:L<=15)(f:E->Nat):∀cs:List E,(∀e∈cs,f e<=L)->ez (fun e=>2^(15-f e)) cs=((DM L (cs.map f) * 2^(15-L):Nat):Int)
 |[],_=>by simp[ez,DM]
 |e::r,h=>by
  have ih:=xx hL f r fun x hx=>h x (by simp[hx])
  have:=h e (by simp)
  rw[ez,ih,List.map_cons,DM,Nat.add_mul,<- Nat.pow_add,show L-f e+(15-L)=15-f e by omega]
  push_cast
  rfl
def ss:List Int->List Int->Int
 |c::cs,x::xs=>c * x+ss cs xs
 |_,_=>0
def Hk:List Int->Int
 |[]=>0
 |x::xs=>(if 0<x then 2^(15-x.toNat)else 0)+Hk xs
theorem xy (T:Int->Int):∀(s:Int) (l t:List Int),l.length=t.length->(∀x∈l,0<=x)->(∀(i:Nat) (h:i<t.length),t[i]=T (s+i))->ss l t=Bf (fun x j=>x * T j) s l
 |_,[],[],_,_,_=>rfl
 |s,x::l,y::t,h,h0,hT=>by
  have ih:=xy T (s+1) l t (by simpa using h) (fun z hz=>h0 z (by simp[hz])) fun i hi=>by
   have:=hT (i+1) (by simp;omega)
   simp only[List.getElem_cons_succ]at this
   rw[this];congr 1;omega
  have hy:=hT 0 (by simp)
  simp only[List.getElem_cons_zero]at hy
  rw[ss,Bf,ih,hy]
  have:=h0 x (by simp)
  by_cases c:0<x
  ·rw[if_pos c];simp
  ·rw[if_neg c,show x=0 by omega];simp
 |_,[],_::_,h,_,_=>by simp at h
 |_,_::_,[],h,_,_=>by simp at h
theorem NP (T:Int->Int):∀(s:Int) (l t:List Int),l.length=t.length->(∀(i:Nat) (h:i<t.length) (h':i<l.length),0<l[i]->0<t[i])->(∀(i:Nat) (h:i<t.length),t[i]=T (s+i))->Bf (fun _ j=>2^(15-(T j).toNat)) s l<=Hk t
 |_,[],[],_,_,_=>Int.le_refl _
 |s,x::l,y::t,h,h0,hT=>by
  have ih:=NP T (s+1) l t (by simpa using h) (fun i hi hi' hp=>h0 (i+1) (by simp;omega) (by simp;omega) hp) fun i hi=>by
   have:=hT (i+1) (by simp;omega)
   simp only[List.getElem_cons_succ]at this
   rw[this];congr 1;omega
  have hy:=hT 0 (by simp)
  simp only[List.getElem_cons_zero]at hy
  have hxy:=h0 0 (by simp) (by simp)
  simp only[List.getElem_cons_zero]at hxy
  rw[Bf,Hk,hy]
  have e:s+((0:Nat):Int)=s:=by simp
  rw[e]at hy ⊢
  by_cases c:0<x
  ·rw[if_pos c,if_pos (by rw[<- hy];exact hxy c)];omega
  ·rw[if_neg c]
   have hpos:(0:Int)<2^(15-(T s).toNat):=Int.pow_pos (by omega)
   split <;> omega
 |_,[],_::_,h,_,_=>by simp at h
 |_,_::_,[],h,_,_=>by simp at h
theorem JA (T:Int->Int):∀(s:Int) (l t:List Int),l.length=t.length->(∀(i:Nat) (h:i<t.length) (h':i<l.length),0<l[i]↔0<t[i])->(∀(i:Nat) (h:i<t.length),t[i]=T (s+i))->Bf (fun _ j=>2^(15-(T j).toNat)) s l=Hk t
 |_,[],[],_,_,_=>rfl
 |s,x::l,y::t,h,h0,hT=>by
  have ih:=JA T (s+1) l t (by simpa using h) (fun i hi hi'=>h0 (i+1) (by simp;omega) (by simp;omega)) fun i hi=>by
   have:=hT (i+1) (by simp;omega)
   simp only[List.getElem_cons_succ]at this
   rw[this];congr 1;omega
  have hy:=hT 0 (by simp)
  simp only[List.getElem_cons_zero]at hy
  have hxy:=h0 0 (by simp) (by simp)
  simp only[List.getElem_cons_zero]at hxy
  rw[Bf,Hk,ih]
  have e:s+((0:Nat):Int)=s:=by simp
  rw[e]at hy
  by_cases c:0<x
  ·rw[if_pos c,if_pos (hxy.1 c),hy]
  ·rw[if_neg c,if_neg fun d=>c (hxy.2 d)]
 |_,[],_::_,h,_,_=>by simp at h
 |_,_::_,[],h,_,_=>by simp at h
theorem tW:∀ {l:List Int} {s:Int} {i:Nat} (h:i<l.length),0<l[i]->(l[i],[s+i])∈ce s l
 |x::l,s,0,h,hp=>by
  simp only[List.getElem_cons_zero]at hp ⊢
  unfold ce
  rw[if_pos hp]
  simp
 |x::l,s,i+1,h,hp=>by
  simp only[List.getElem_cons_succ]at hp ⊢
  have ih:=tW (l:=l) (s:=s+1) (i:=i) (by simpa using h) hp
  have e:s+((i+1:Nat):Int)=s+1+i:=by push_cast;omega
  rw[e]
  unfold ce
  split
  ·exact List.mem_cons_of_mem _ ih
  ·exact ih
theorem Hl {freq:List Int}{L:Nat}{cs:List E}(h1:1<=L)(h15:L<=15)(hf:∀x∈freq,0<=x)(hcs:cs=bt Prod.fst (ce 0 freq))(hk:2<=cs.length)(hkL:cs.length<=2^L):
  (∀s,0<=fx cs L s/\fx cs L s<=L)/\(∀(i:Nat) (h:i<freq.length),0<freq[i]↔0<fx cs L i)/\Hk ((List.range freq.length).map (fx cs L))=2^15/\
  ∀t:List Int,t.length=freq.length->(∀x∈t,0<=x/\x<=L)->(∀(i:Nat) (h:i<freq.length) (h':i<t.length),0<freq[i]->0<t[i])->Hk t<=2^15->ss freq ((List.range freq.length).map (fx cs L))<=ss freq t:=by
 have hu:Up cs:=by rw[hcs];exact Jy _
 have hperm:cs.Perm (ce 0 freq):=by rw[hcs];exact qu _ _
 have hmem:∀e∈cs,0<e.1/\e.2=[one e]/\0<=one e/\one e<freq.length:=fun e he=>by
  have:=lF (hperm.mem_iff.1 he)
  exact⟨this.1,this.2.1,this.2.2.1,by omega⟩
 have hnd:(cs.map one).Nodup:=(hperm.map one).nodup_iff.2 (n6 0 freq)
 have hsub:∀p,sy (cs.take p)=(cs.map one).take p:=fun p=>by
  rw[Mi fun e he=>(hmem e (List.mem_of_mem_take he)).2.1,List.map_take]
 have hen:=uS (cs:=cs) (j:=L-1) (by omega) (by rw[show L-1+1=L by omega];exact hkL)
 obtain⟨ps,p1,p2,p3,p4,p5,p6,_⟩:=Si hu (fun x hx=>(hmem x hx).1) (L-1) (2 * cs.length-2) hen
 have pl:ps.length=L:=by omega
 have hpw:2^L=2 * 2^(L-1):=by
  conv=>lhs;rw[show L=L-1+1 by omega,Nat.pow_succ]
  omega
 have hkr:=NO p2 p3
 have hK:K ps=(cs.length-1) * 2^L:=by
  rw[p4,hpw,<- Nat.mul_assoc];congr 1;omega
 have hkr2:CY ps cs.length=2^L:=by
  rw[hK,pl,Nat.sub_mul,Nat.one_mul]at hkr
  have:1 * 2^L<=cs.length * 2^L:=Nat.mul_le_mul_right _ (by omega)
  omega
 -- a coin's length
 have hh:∀s,fx cs L s=(((ps.map fun p=>dp (sy (cs.take p)) s).sum:Nat):Int):=fun s=>by
  unfold fx
  rw[show(((dR cs (L-1)).take (2 * cs.length-2)).flatMap fun e=>e.2)=sy ((dR cs (L-1)).take (2 * cs.length-2))from rfl,p6]
 have hof:∀r (hr:r<cs.length),fx cs L (one cs[r]).toNat=zz ps r:=fun r hr=>by
  rw[hh,<- Jz]
  congr 2
  apply List.map_congr_left
  intro p _
  have hz:=(hmem cs[r] (List.getElem_mem hr)).2.2.1
  rw[hsub,tU hnd (r:=r) (by simpa using hr) (by rw[List.getElem_map];omega)]
 have hle:∀s,0<=fx cs L s/\fx cs L s<=L:=fun s=>by
  rw[hh,<- pl]
  refine⟨by omega,?_⟩
  have hone:∀p∈ps,dp (sy (cs.take p)) s<=1:=fun p _=>by
   rw[hsub]
   by_cases c:(s:Int)∈cs.map one
   ·obtain⟨r,hr,he⟩:=List.getElem_of_mem c
    rw[tU hnd hr he]
    split <;> omega
   ·rw[gO fun d=>c (List.mem_of_mem_take d)];omega
  have:∀l:List Nat,(∀p∈l,dp (sy (cs.take p)) s<=1)->(l.map fun p=>dp (sy (cs.take p)) s).sum<=l.length:=by
   intro l
   induction l with
   |nil=>intro _;simp
   |cons x l ih=>
    intro h
    have a:=ih fun p hp=>h p (by simp[hp])
    have b:=h x (by simp)
    simp only[List.map_cons,List.sum_cons,List.length_cons]
    omega
  have:=this ps hone
  omega
 have hiff:∀(i:Nat) (h:i<freq.length),0<freq[i]↔0<fx cs L i:=fun i hi=>by
  constructor
  ·intro hp
   have hm:=hperm.mem_iff.2 (tW (l:=freq) (s:=0) hi hp)
   obtain⟨r,hr,he⟩:=List.getElem_of_mem hm
   have h2:=hof r hr
   rw[he]at h2
   have e:(one (freq[i],[0+(i:Int)])).toNat=i:=by simp[one]
   rw[e]at h2
   rw[h2]
   have h3:=Be (ps:=ps) hr
   rw[hkr2,pl]at h3
   rcases Nat.eq_zero_or_pos (zz ps r)with c|c
   ·rw[c,Nat.sub_zero]at h3;omega
   ·omega
  ·intro hp
   rcases Int.lt_or_le 0 freq[i]with c|c
   ·exact c
   ·exfalso
    have hno:((i:Nat):Int)∉cs.map one:=fun d=>by
     obtain⟨e,he,h2⟩:=List.mem_map.1 d
     have hz:=hperm.mem_iff.1 he
     have:∀(l:List Int) (s:Int),e∈ce s l->∃(k:Nat) (hk:k<l.length),one e=s+k/\0<l[k]:=by
      intro l
      induction l with
      |nil=>intro s h;simp[ce]at h
      |cons x l ih=>
       intro s h
       unfold ce at h
       have tl:e∈ce (s+1) l->∃(k:Nat) (hk:k<(x::l).length),one e=s+k/\0<(x::l)[k]:=fun h=>by
        obtain⟨k,hk,e1,e2⟩:=ih (s+1) h
        exact⟨k+1,by simp;omega,by rw[e1];push_cast;omega,by simpa using e2⟩
       split at h
       ·rename_i hx
        rcases List.mem_cons.1 h with rfl|h
        ·exact⟨0,by simp,by simp[one],by simpa using hx⟩
        ·exact tl h
       ·exact tl h
     obtain⟨k,hk,e1,e2⟩:=this freq 0 hz
     have:k=i:=by omega
     subst this
     omega
    rw[hh]at hp
    have:∀l:List Nat,(l.map fun p=>dp (sy (cs.take p)) i).sum=0:=by
     intro l
     induction l with
     |nil=>rfl
     |cons x l ih=>
      rw[List.map_cons,List.sum_cons,ih,hsub,gO fun d=>hno (List.mem_of_mem_take d)]
    rw[this]at hp
    omega
 have hlen:((List.range freq.length).map (fx cs L)).length=freq.length:=by simp
 have hget:∀(i:Nat) (h:i<((List.range freq.length).map (fx cs L)).length),((List.range freq.length).map (fx cs L))[i]=(fun j:Int=>fx cs L j.toNat) (0+(i:Int)):=fun i h=>by simp
 refine⟨hle,hiff,?_,fun t ht h0 hpos hkt=>?_⟩
 ·rw[<- JA (fun j:Int=>fx cs L j.toNat) 0 freq _ hlen.symm (fun i h h'=>by
   rw[hget];simpa using hiff i h') hget,<- ek (fun _ j=>2^(15-(fx cs L j.toNat).toNat)) 0 freq,<- iy _ hperm]
  rw[xx (L:=L) h15 (fun e=>(fx cs L (one e).toNat).toNat) cs fun e he=>by have:=hle (one e).toNat;omega]
  have hm:DM ps.length (cs.map fun e=>(fx cs L (one e).toNat).toNat)=CY ps cs.length:=F1 cs.length _ (by simp) fun r hr=>by
   rw[List.getElem_map,hof r (by simpa using hr)];simp
  rw[pl]at hm
  rw[hm,hkr2,<- Nat.pow_add,show L+(15-L)=15 by omega]
  rfl
 ·have c1:ss freq ((List.range freq.length).map (fx cs L))=W (dR cs (L-1)) (2 * cs.length-2):=by
   rw[xy (fun j:Int=>fx cs L j.toNat) 0 freq _ hlen.symm hf hget,<- ek (fun x j=>x * fx cs L j.toNat) 0 freq,<- iy _ hperm,p5]
   have:∀e∈cs,e.1 * fx cs L (one e).toNat=(ps.map fun p=>e.1 * (dp (sy (cs.take p)) (one e).toNat:Int)).sum:=fun e _=>by
    rw[hh,C6,List.map_map]
    have:∀l:List Nat,e.1 * (l.map ((fun x:Nat=>(x:Int)) ∘ fun p=>dp (sy (cs.take p)) (one e).toNat)).sum=(l.map fun p=>e.1 * (dp (sy (cs.take p)) (one e).toNat:Int)).sum:=by
     intro l
     induction l with
     |nil=>simp
     |cons x l ih=>simp only[List.map_cons,List.sum_cons,Int.mul_add,ih,Function.comp]
    exact this ps
   rw[l9 this,C5 (fun p e=>e.1 * (dp (sy (cs.take p)) (one e).toNat:Int))]
   congr 1
   apply List.map_congr_left
   intro p _
   have hat:∀r (hr:r<cs.length),dp (sy (cs.take p)) (one cs[r]).toNat=if r<p then 1 else 0:=fun r hr=>by
    have hz:=(hmem cs[r] (List.getElem_mem hr)).2.2.1
    rw[hsub,tU hnd (r:=r) (by simpa using hr) (by rw[List.getElem_map];omega)]
   conv=>lhs;rw[<- List.take_append_drop p cs]
   rw[C3,List.take_append_drop]
   rw[l9 (l:=cs.take p) (g:=fun e=>e.1) fun e he=>by
    obtain⟨r,hr,rfl⟩:=List.getElem_of_mem he
    rw[List.length_take]at hr
    rw[List.getElem_take,hat r (by omega),if_pos (by omega)];simp]
   rw[l9 (l:=cs.drop p) (g:=fun _=>0) fun e he=>by
    obtain⟨r,hr,rfl⟩:=List.getElem_of_mem he
    rw[List.length_drop]at hr
    rw[List.getElem_drop,hat (p+r) (by omega),if_neg (by omega)];simp]
   rw[tV,C4,Int.add_zero]
   rfl
  have tget:∀(i:Nat) (h:i<t.length),t[i]=(fun j:Int=>t.getD j.toNat 0) (0+(i:Int)):=fun i h=>by simp[h]
  have tb:∀e∈cs,1<=(t.getD (one e).toNat 0).toNat/\(t.getD (one e).toNat 0).toNat<=L/\0<t.getD (one e).toNat 0:=fun e he=>by
   obtain⟨m1,m2,m3,m4⟩:=hmem e he
   have hi:(one e).toNat<freq.length:=by omega
   obtain⟨r,hr,hre⟩:=List.getElem_of_mem he
   have hp:0<freq[(one e).toNat]:=by
    refine(hiff _ hi).2 ?_
    have h2:=hof r hr
    rw[hre]at h2
    rw[h2]
    have h3:=Be (ps:=ps) hr
    rw[hkr2,pl]at h3
    rcases Nat.eq_zero_or_pos (zz ps r)with c|c
    ·rw[c,Nat.sub_zero]at h3;omega
    ·omega
   have h1:=hpos _ hi (by omega) hp
   have h2:=h0 _ (List.getElem_mem (show(one e).toNat<t.length by omega))
   have e1:t.getD (one e).toNat 0=t[(one e).toNat]'(by omega):=by rw[List.getD_eq_getElem?_getD,List.getElem?_eq_getElem (by omega)];rfl
   rw[e1]
   omega
  have c2:ss freq t=EM cs ((cs.map fun e=>(t.getD (one e).toNat 0).toNat).map fun x:Nat=>(x:Int)):=by
   rw[xy (fun j:Int=>t.getD j.toNat 0) 0 freq t ht.symm hf tget,<- ek (fun x j=>x * t.getD j.toNat 0) 0 freq,<- iy _ hperm]
   have:∀l:List E,(∀e∈l,0<t.getD (one e).toNat 0)->ez (fun e=>e.1 * t.getD (one e).toNat 0) l=EM l ((l.map fun e=>(t.getD (one e).toNat 0).toNat).map fun x:Nat=>(x:Int)):=by
    intro l
    induction l with
    |nil=>intro _;rfl
    |cons x l ih=>
     intro h
     have hx:=h x (by simp)
     rw[ez,ih fun e he=>h e (by simp[he])]
     simp only[List.map_cons,EM]
     rw[show(((t.getD (one x).toNat 0).toNat:Nat):Int)=t.getD (one x).toNat 0 by omega]
   exact this cs fun e he=>(tb e he).2.2
  rw[c1,c2]
  refine gW h1 hu (fun x hx=>(hmem x hx).1) (by simp) (fun x hx=>?_) ?_
  ·obtain⟨e,he,rfl⟩:=List.mem_map.1 hx
   exact⟨(tb e he).1,(tb e he).2.1⟩
  ·have k1:=xx (L:=L) h15 (fun e=>(t.getD (one e).toNat 0).toNat) cs fun e he=>(tb e he).2.1
   have k2:=NP (fun j:Int=>t.getD j.toNat 0) 0 freq t ht.symm (fun i h h' hp=>hpos i h' h hp) tget
   rw[<- ek (fun _ j=>2^(15-(t.getD j.toNat 0).toNat)) 0 freq,<- iy _ hperm,k1]at k2
   have k3:DM L (cs.map fun e=>(t.getD (one e).toNat 0).toNat) * 2^(15-L)<=2^15:=by
    have:(((DM L (cs.map fun e=>(t.getD (one e).toNat 0).toNat) * 2^(15-L):Nat)):Int)<=((2^15:Nat):Int):=Int.le_trans k2 (by simpa using hkt)
    exact Int.ofNat_le.1 this
   rw[show(15:Nat)=L+(15-L) by omega,Nat.pow_add]at k3
   rw[show L+(15-L)-L=15-L by omega]at k3
   exact Nat.le_of_mul_le_mul_right k3 (Nat.two_pow_pos _)
end PM
namespace HF
open Go Go.Proofs
section spec
variable {α:Type} (key:α->Int)
def F3 (xs:List α):Prop:=xs.Pairwise fun a b=>key a<=key b
theorem Hm:∀(n:Nat) (xs bs cs:List α),xs.length+bs.length+cs.length=n->dO key (dO key xs bs) cs=dO key xs (dO key bs cs):=by
 intro n
 induction n with
 |zero=>
  intro xs bs cs h
  have h1:xs=[]:=List.eq_nil_of_length_eq_zero (by omega)
  subst h1
  simp[dO]
 |succ n ih=>
  intro xs bs cs h
  cases xs with
  |nil=>simp[dO]
  |cons a xs=>
   cases bs with
   |nil=>rw[dS];simp[dO]
   |cons b bs=>
    cases cs with
    |nil=>rw[dS,dS]
    |cons c cs=>
     simp only[List.length_cons]at h
     by_cases h1:key b<key a
     ·by_cases h2:key c<key b
      ·rw[d6 key h1,d6 key h2,d6 key h2,d6 key (show key c<key a by omega),<- d6 key h1,ih _ _ _ (by simp;omega)]
      ·rw[d6 key h1,eG key h2,eG key h2,d6 key h1,ih _ _ _ (by simp;omega)]
     ·by_cases h2:key c<key a
      ·rw[eG key h1,d6 key h2,d6 key (show key c<key b by omega),d6 key h2,<- eG key h1,ih _ _ _ (by simp;omega)]
      ·rw[eG key h1,eG key h2,ih _ _ _ (by simp;omega)]
       by_cases h3:key c<key b
       ·rw[d6 key h3,eG key h2]
       ·rw[eG key h3,eG key h1]
theorem C8:∀us bs:List α,(dO key us bs).length=us.length+bs.length
 |[],bs=>by simp[dO]
 |a::us,bs=>by
  have ih:=C8 us (bs.dropWhile fun b=>decide (key b<key a))
  have h:bs.length=(bs.takeWhile fun b=>decide (key b<key a)).length+(bs.dropWhile fun b=>decide (key b<key a)).length:=by
   rw[<- List.length_append,List.takeWhile_append_dropWhile]
  simp only[dO,List.length_append,List.length_cons,ih]
  omega
theorem Pm:∀(n:Nat) (us bs:List α),us.length+bs.length=n->F3 key us->F3 key bs->F3 key (dO key us bs)/\∀y∈dO key us bs,y∈us\/y∈bs:=by
 intro n
 induction n with
 |zero=>
  intro us bs h _ _
  have h1:us=[]:=List.eq_nil_of_length_eq_zero (by omega)
  have h2:bs=[]:=List.eq_nil_of_length_eq_zero (by omega)
  subst h1;subst h2
  exact⟨List.Pairwise.nil,fun y hy=>by simp[dO]at hy⟩
 |succ n ih=>
  intro us bs h hu hb
  cases us with
  |nil=>exact⟨hb,fun y hy=> .inr hy⟩
  |cons a us=>
   cases bs with
   |nil=>rw[dS];exact⟨hu,fun y hy=> .inl hy⟩
   |cons b bs=>
    obtain⟨hu1,hu2⟩:=List.pairwise_cons.1 hu
    obtain⟨hb1,hb2⟩:=List.pairwise_cons.1 hb
    simp only[List.length_cons]at h
    by_cases hab:key b<key a
    ·obtain⟨i1,i2⟩:=ih (a::us) bs (by simp;omega) hu hb2
     rw[d6 key hab]
     refine⟨List.pairwise_cons.2 ⟨fun x hx=>?_,i1⟩,fun y hy=>?_⟩
     ·rcases i2 x hx with c|c
      ·rcases List.mem_cons.1 c with rfl|c
       ·omega
       ·have:=hu1 x c;omega
      ·exact hb1 x c
     ·rcases List.mem_cons.1 hy with rfl|hy
      ·exact .inr (by simp)
      ·rcases i2 y hy with c|c
       ·exact .inl c
       ·exact .inr (by simp[c])
    ·obtain⟨i1,i2⟩:=ih us (b::bs) (by simp;omega) hu2 hb
     rw[eG key hab]
     refine⟨List.pairwise_cons.2 ⟨fun x hx=>?_,i1⟩,fun y hy=>?_⟩
     ·rcases i2 x hx with c|c
      ·exact hu1 x c
      ·rcases List.mem_cons.1 c with rfl|c
       ·omega
       ·have:=hb1 x c;omega
     ·rcases List.mem_cons.1 hy with rfl|hy
      ·exact .inl (by simp)
      ·rcases i2 y hy with c|c
       ·exact .inl (by simp[c])
       ·exact .inr c
theorem xz {x:α}:∀(us vs:List α),(∀u∈us,key u<=key x)->dO key (us++vs) [x]=us++dO key vs [x]
 |[],vs,_=>rfl
 |a::us,vs,h=>by
  have:=h a (by simp)
  rw[List.cons_append,eG key (by omega),xz us vs fun u hu=>h u (by simp[hu])];rfl
theorem xA {x:α}:∀(vs:List α),(∀u∈vs,key x<key u)->dO key vs [x]=x::vs
 |[],_=>rfl
 |a::us,h=>by
  have:=h a (by simp)
  rw[d6 key this,dS]
theorem zA {acc:List α}{x:α}(hu:F3 key acc):∀j,j<=acc.length->(∀u∈acc.drop j,key x<key u)->ey key acc x j=dO key acc [x]
 |0,_,h=>by rw[ey,xA key acc (by simpa using h)]
 |j+1,hj,h=>by
  unfold ey
  rw[List.getElem?_eq_getElem (by omega)]
  simp only
  split
  ·rename_i hlt
   refine zA hu j (by omega) fun u hu=>?_
   rw[List.drop_eq_getElem_cons (by omega)]at hu
   rcases List.mem_cons.1 hu with rfl|hu
   ·exact hlt
   ·exact h u hu
  ·rename_i hge
   conv=>rhs;rw[<- List.take_append_drop (j+1) acc]
   rw[xz,xA key _ h]
   intro u hu'
   obtain⟨i,hi,rfl⟩:=List.getElem_of_mem hu'
   rw[List.length_take]at hi
   rw[List.getElem_take]
   rcases Nat.lt_or_ge i j with c|c
   ·have:=List.pairwise_iff_getElem.1 hu i j (by omega) (by omega) c
    omega
   ·have:i=j:=by omega
    subst this
    omega
theorem xB {acc:List α}{x:α}(hu:F3 key acc):mT key acc x=dO key acc [x]:=zA key hu _ (Nat.le_refl _) (by simp)
theorem jS:∀(n:Nat) (xs:List α),xs.length=n->F3 key (bt key xs)
 |0,xs,h=>by rw[List.eq_nil_of_length_eq_zero h];exact List.Pairwise.nil
 |n+1,xs,h=>by
  have e:xs=xs.take n++[xs[n]]:=by rw[<- List.take_succ_eq_append_getElem (by omega),List.take_of_length_le (by omega)]
  have ih:=jS n (xs.take n) (by simp;omega)
  rw[e,ix,xB key ih]
  exact(Pm key _ _ _ rfl ih (by simp[F3])).1
theorem tX (xs:List α):∀(n:Nat) (bs:List α),bs.length=n->dO key (bt key xs) (bt key bs)=bt key (xs++bs)
 |0,bs,h=>by rw[List.eq_nil_of_length_eq_zero h,show bt key ([]:List α)=[]from rfl,dS,List.append_nil]
 |n+1,bs,h=>by
  have e:bs=bs.take n++[bs[n]]:=by rw[<- List.take_succ_eq_append_getElem (by omega),List.take_of_length_le (by omega)]
  have ih:=tX xs n (bs.take n) (by simp;omega)
  have u1:=jS key _ xs rfl
  have u2:=jS key _ (bs.take n) rfl
  rw[e,ix,xB key u2,<- Hm key _ _ _ _ rfl,ih,<- List.append_assoc,ix,xB key (jS key _ _ rfl)]
theorem Bg:∀(n:Nat) (u1 u2 v1 v2:List α),u1.length+v1.length=n->(∀u∈u1,∀v∈v2,key u<=key v)->(∀v∈v1,∀u∈u2,key v<key u)->dO key (u1++u2) (v1++v2)=dO key u1 v1++dO key u2 v2:=by
 intro n
 induction n with
 |zero=>
  intro u1 u2 v1 v2 h _ _
  have h1:u1=[]:=List.eq_nil_of_length_eq_zero (by omega)
  have h2:v1=[]:=List.eq_nil_of_length_eq_zero (by omega)
  subst h1;subst h2
  rfl
 |succ n ih=>
  intro u1 u2 v1 v2 h h1 h2
  cases u1 with
  |nil=>
   cases v1 with
   |nil=>simp at h
   |cons v v1=>
    cases u2 with
    |nil=>rfl
    |cons u u2=>
     have hv:=h2 v (by simp) u (by simp)
     have:=ih [] (u::u2) v1 v2 (by simp at h ⊢;omega) (by simp) (fun x hx=>h2 x (by simp[hx]))
     rw[List.nil_append]at this
     rw[List.nil_append,List.cons_append,d6 key hv,this];rfl
  |cons u u1=>
   cases v1 with
   |nil=>
    cases v2 with
    |nil=>simp[dS]
    |cons v v2=>
     have hv:=h1 u (by simp) v (by simp)
     have:=ih u1 u2 [] (v::v2) (by simp at h ⊢;omega) (fun x hx=>h1 x (by simp[hx])) (by simp)
     rw[List.nil_append]at this
     rw[List.nil_append,List.cons_append,eG key (by omega),this,dS,dS];rfl
   |cons v v1=>
    simp only[List.length_cons]at h
    rw[List.cons_append,List.cons_append]
    by_cases c:key v<key u
    ·have:=ih (u::u1) u2 v1 v2 (by simp;omega) h1 (fun x hx=>h2 x (by simp[hx]))
     rw[List.cons_append]at this
     rw[d6 key c,d6 key c,this];rfl
    ·have:=ih u1 u2 (v::v1) v2 (by simp;omega) (fun x hx=>h1 x (by simp[hx])) h2
     rw[List.cons_append]at this
     rw[eG key c,eG key c,this];rfl
def Mj (s:Nat):Nat->List α->List α
 |0,_=>[]
 |f+1,xs=>bt key (xs.take s)++if xs.length<=s then []else Mj s f (xs.drop s)
theorem Hn {s f:Nat}{xs:List α}(h:xs.length<=s):Mj key s (f+1) xs=bt key xs:=by
 rw[Mj,if_pos h,List.append_nil,List.take_of_length_le h]
theorem C9 {s:Nat}(hs:0<s):∀(f g:Nat) (xs:List α),xs.length<=f->xs.length<=g->0<f->0<g->Mj key s f xs=Mj key s g xs
 |0,_,_,_,_,h,_=>by omega
 |_,0,_,_,_,_,h=>by omega
 |f+1,g+1,xs,h1,h2,_,_=>by
  rw[Mj,Mj]
  split
  ·rfl
  ·rename_i h
   congr 1
   exact C9 hs f g _ (by simp;omega) (by simp;omega) (by omega) (by omega)
def lG (s:Nat)(xs:List α):List α:=Mj key s (xs.length+1) xs
theorem df {s:Nat}{xs:List α}(h:xs.length<=s):lG key s xs=bt key xs:=Hn key h
theorem jo {s:Nat}{xs:List α}(hs:0<s)(h:s<xs.length):lG key s xs=bt key (xs.take s)++lG key s (xs.drop s):=by
 unfold lG
 rw[Mj,if_neg (by omega)]
 congr 1
 exact C9 key hs _ _ _ (by simp) (by simp) (by omega) (by omega)
theorem JB (s:Nat)(hs:0<s)(hl:∀xs:List α,(bt key xs).length=xs.length):∀(n:Nat) (xs:List α),xs.length<=n->(lG key s xs).length=xs.length:=by
 intro n
 induction n with
 |zero=>intro xs h;rw[df key (by omega),hl]
 |succ n ih=>
  intro xs h
  rcases Nat.lt_or_ge s xs.length with c|c
  ·rw[jo key hs c,List.length_append,hl,ih _ (by simp;omega)];simp;omega
  ·rw[df key c,hl]
end spec
end HF
end Go.Proofs.YtndojgomlkpeaaaGreatDoor
