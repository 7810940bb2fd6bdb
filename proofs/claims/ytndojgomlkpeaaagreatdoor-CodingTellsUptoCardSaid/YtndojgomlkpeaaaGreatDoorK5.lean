/- The first items of the last row of coins and pairs: lengths within the limit, that leave nothing, and no others cost less. Conditions: two coins at least, and no more than the limit has room for. (21 texts made one; each says below what it is.) -/
import Derived.Test.YtndojgomlkpeaaaGreatDoorK4
set_option linter.unusedVariables false
set_option linter.unusedSimpArgs false
set_option linter.unusedSectionVars false
namespace Go.Proofs.YtndojgomlkpeaaaGreatDoor
set_option maxRecDepth 9999
set_option maxRecDepth 4000
namespace PM
open Go Go.Proofs HM HF
def W (xs:List E)(n:Nat):Int:=((xs.take n).map Prod.fst).sum
def Up (xs:List E):Prop:=xs.Pairwise fun a b=>a.1<=b.1
theorem iL (xs:List E):W xs 0=0:=by simp[W]
theorem eg (a:E)(xs:List E)(n:Nat):W (a::xs) (n+1)=a.1+W xs n:=by simp[W]
theorem Ex (n:Nat):W [] n=0:=by simp[W]
theorem rB {c:Int}:∀ {xs:List E} {n:Nat},(∀x∈xs,c<=x.1)->n<xs.length->W xs n+c<=W xs (n+1)
 |[],_,_,h=>by simp at h
 |x::xs,0,hc,_=>by
  rw[eg,iL,iL]
  have:=hc x (by simp)
  omega
 |x::xs,n+1,hc,h=>by
  rw[eg,eg]
  have:=rB (c:=c) (xs:=xs) (n:=n) (fun y hy=>hc y (by simp[hy])) (by simpa using h)
  omega
theorem Ey {xs:List E}(h0:∀x∈xs,0<=x.1):∀ {n m:Nat},n<=m->W xs n<=W xs m:=by
 intro n m h
 induction m with
 |zero=>rw[Nat.le_zero.1 h];exact Int.le_refl _
 |succ m ih=>
  rcases Nat.lt_or_ge n (m+1)with c|c
  ·have:=ih (by omega)
   rcases Nat.lt_or_ge m xs.length with d|d
   ·have:=rB (c:=0) (n:=m) h0 d
    omega
   ·have e:W xs (m+1)=W xs m:=by unfold W;rw[List.take_of_length_le (by omega),List.take_of_length_le d]
    omega
  ·rw[show n=m+1 by omega];exact Int.le_refl _
theorem Ji {A cs:List E}(h:A.Sublist cs)(hs:Up cs):W cs A.length<=(A.map Prod.fst).sum:=by
 induction h with
 |slnil=>simp[W]
 | @cons A cs a h ih=>
  obtain⟨h1,h2⟩:=List.pairwise_cons.1 hs
  have:=ih h2
  cases A with
  |nil=>simp[W]
  |cons b A=>
   rw[List.length_cons,eg]
   have hl:=h.length_le
   have:=rB (c:=a.1) (xs:=cs) (n:=A.length) h1 (by rw[List.length_cons]at hl;omega)
   rw[List.length_cons]at *
   omega
 | @cons_cons A cs a h ih=>
  obtain⟨h1,h2⟩:=List.pairwise_cons.1 hs
  have:=ih h2
  rw[List.length_cons,eg,List.map_cons,List.sum_cons]
  omega
theorem Pq:∀(n:Nat) (us bs:List E) (p q:Nat),us.length+bs.length=n->Up us->Up bs->p<=us.length->q<=bs.length->W (dt Prod.fst us bs) (p+q)<=W us p+W bs q:=by
 intro n
 induction n with
 |zero=>
  intro us bs p q h _ _ _ _
  have h1:us=[]:=List.eq_nil_of_length_eq_zero (by omega)
  have h2:bs=[]:=List.eq_nil_of_length_eq_zero (by omega)
  subst h1;subst h2
  simp[dt,Ex]
 |succ n ih=>
  intro us bs p q h hu hb hp hq
  cases us with
  |nil=>
   have hp0:p=0:=by simpa using hp
   subst hp0
   simp[dt,iL]
  |cons a us=>
   cases bs with
   |nil=>
    have hq0:q=0:=by simpa using hq
    subst hq0
    simp[dB,iL]
   |cons b bs=>
    obtain⟨hu1,hu2⟩:=List.pairwise_cons.1 hu
    obtain⟨hb1,hb2⟩:=List.pairwise_cons.1 hb
    simp only[List.length_cons]at h hp hq
    by_cases hab:b.1<a.1
    ·rw[dM Prod.fst hab]
     cases q with
     |succ q=>
      rw[show p+(q+1)=(p+q)+1 by omega,eg,eg]
      have:=ih (a::us) bs p q (by simp;omega) hu hb2 (by simpa using hp) (by omega)
      omega
     |zero=>
      cases p with
      |zero=>simp[iL]
      |succ p=>
       rw[show p+1+0=p+1 by omega,eg]
       have:=ih (a::us) bs p 0 (by simp;omega) hu hb2 (by simp;omega) (by omega)
       rw[iL]at this ⊢
       have h2:=rB (c:=a.1) (xs:=a::us) (n:=p) (by
        intro x hx
        rcases List.mem_cons.1 hx with rfl|hx
        ·exact Int.le_refl _
        ·exact hu1 x hx) (by simp;omega)
       rw[Nat.add_zero]at this
       omega
    ·rw[ef Prod.fst hab]
     cases p with
     |succ p=>
      rw[show p+1+q=(p+q)+1 by omega,eg,eg]
      have:=ih us (b::bs) p q (by simp;omega) hu2 hb (by omega) (by simpa using hq)
      omega
     |zero=>
      cases q with
      |zero=>simp[iL]
      |succ q=>
       rw[show 0+(q+1)=q+1 by omega,eg]
       have:=ih us (b::bs) 0 q (by simp;omega) hu2 hb (by omega) (by simp;omega)
       rw[iL]at this ⊢
       have h2:=rB (c:=a.1) (xs:=b::bs) (n:=q) (by
        intro x hx
        rcases List.mem_cons.1 hx with rfl|hx
        ·omega
        ·have:=hb1 x hx;omega) (by simp;omega)
       rw[Nat.zero_add]at this
       omega
theorem nw {y:E}:∀us bs:List E,y∈dt Prod.fst us bs->y∈us\/y∈bs
 |[],bs,h=> .inr h
 |a::us,bs,h=>by
  simp only[dt,List.mem_append,List.mem_cons]at h
  rcases h with c|c|c
  ·exact .inr ((List.takeWhile_sublist _).mem c)
  ·exact .inl (by rw[c];exact List.mem_cons_self)
  ·rcases nw us _ c with d|d
   ·exact .inl (List.mem_cons_of_mem _ d)
   ·exact .inr ((List.dropWhile_sublist _).mem d)
theorem K7:∀(n:Nat) (us bs:List E),us.length+bs.length=n->Up us->Up bs->Up (dt Prod.fst us bs):=by
 intro n
 induction n with
 |zero=>
  intro us bs h _ _
  have h1:us=[]:=List.eq_nil_of_length_eq_zero (by omega)
  have h2:bs=[]:=List.eq_nil_of_length_eq_zero (by omega)
  subst h1;subst h2
  simp[dt,Up]
 |succ n ih=>
  intro us bs h hu hb
  cases us with
  |nil=>simpa [dt]using hb
  |cons a us=>
   cases bs with
   |nil=>simpa [dB]using hu
   |cons b bs=>
    obtain⟨hu1,hu2⟩:=List.pairwise_cons.1 hu
    obtain⟨hb1,hb2⟩:=List.pairwise_cons.1 hb
    simp only[List.length_cons]at h
    by_cases hab:b.1<a.1
    ·rw[dM Prod.fst hab]
     refine List.pairwise_cons.2 ⟨fun x hx=>?_,ih (a::us) bs (by simp;omega) hu hb2⟩
     rcases nw _ _ hx with c|c
     ·rcases List.mem_cons.1 c with rfl|c
      ·omega
      ·have:=hu1 x c;omega
     ·exact hb1 x c
    ·rw[ef Prod.fst hab]
     refine List.pairwise_cons.2 ⟨fun x hx=>?_,ih us (b::bs) (by simp;omega) hu2 hb⟩
     rcases nw _ _ hx with c|c
     ·exact hu1 x c
     ·rcases List.mem_cons.1 c with rfl|c
      ·omega
      ·have:=hb1 x c;omega
theorem lq:∀xs:List E,(cK xs).length=xs.length / 2
 |[]=>rfl
 |[_]=>by simp[cK]
 |a::b::r=>by
  have:=lq r
  simp only[cK,List.length_cons,this]
  omega
theorem vi:∀(xs:List E) (q:Nat),2 * q<=xs.length->W (cK xs) q=W xs (2 * q)
 |_,0,_=>by simp[iL]
 |[],q+1,h=>by simp at h
 |[_],q+1,h=>by simp at h;omega
 |a::b::r,q+1,h=>by
  have:=vi r q (by simp at h;omega)
  rw[show 2 * (q+1)=2 * q+1+1 by omega,eg,eg,cK,eg,this]
  omega
theorem rF {c:Int}:∀ {xs:List E},(∀x∈xs,c<=x.1)->∀y∈cK xs,c+c<=y.1
 |[],_,y,hy=>by simp[cK]at hy
 |[_],_,y,hy=>by simp[cK]at hy
 |a::b::r,h,y,hy=>by
  have h1:=h a (by simp)
  have h2:=h b (by simp)
  rcases List.mem_cons.1 hy with rfl|hy
  ·show c+c<=a.1+b.1
   omega
  ·exact rF (fun x hx=>h x (by simp[hx])) y hy
theorem rG:∀ {xs:List E},Up xs->Up (cK xs)
 |[],_=>by simp[cK,Up]
 |[_],_=>by simp[cK,Up]
 |a::b::r,h=>by
  obtain⟨h1,h2⟩:=List.pairwise_cons.1 h
  obtain⟨h3,h4⟩:=List.pairwise_cons.1 h2
  refine List.pairwise_cons.2 ⟨fun y hy=>?_,rG h4⟩
  have hab:=h1 b (by simp)
  have:=rF (c:=b.1) h3 y hy
  show a.1+b.1<=y.1
  omega
theorem AG {cs:List E}(h:Up cs):∀j,Up (dz cs j)
 |0=>h
 |j+1=>K7 _ _ _ rfl h (rG (AG h j))
theorem ny {cs:List E}(h:∀x∈cs,0<x.1):∀j,∀x∈dz cs j,0<x.1
 |0,x,hx=>h x hx
 |j+1,x,hx=>by
  rcases nw _ _ hx with c|c
  ·exact h x c
  ·have:=rF (c:=1) (fun y hy=>by have:=ny h j y hy;omega) x c
   omega
theorem rH (cs:List E)(j:Nat):(dz cs (j+1)).length=cs.length+(dz cs j).length / 2:=by
 rw[dz,nv,lq]
theorem tR (cs:List E):∀j,(dz cs j).length<=2 * cs.length
 |0=>by simp[dz];omega
 |j+1=>by rw[rH];have:=tR cs j;omega
theorem nz {cs:List E}(hk:1<=cs.length):∀j,(dz cs j).length+1<=2 * cs.length/\(2 * cs.length-(dz cs j).length-1) * 2^j<=cs.length-1
 |0=>by simp[dz];omega
 |j+1=>by
  obtain⟨h1,h2⟩:=nz hk j
  rw[rH]
  generalize (dz cs j).length=r at h1 h2 ⊢
  refine⟨by omega,?_⟩
  have:(2 * cs.length-(cs.length+r / 2)-1) * 2<=2 * cs.length-r-1:=by omega
  calc (2 * cs.length-(cs.length+r / 2)-1) * 2^(j+1)=((2 * cs.length-(cs.length+r / 2)-1) * 2) * 2^j:=by rw[Nat.pow_succ,Nat.mul_comm (2^j) 2,Nat.mul_assoc]
   _<=(2 * cs.length-r-1) * 2^j:=Nat.mul_le_mul_right _ this
   _<=_:=h2
theorem pD {cs:List E}{j:Nat}(hk:1<=cs.length)(h:cs.length<=2^(j+1)):2 * cs.length-2<=(dz cs j).length:=by
 obtain⟨h1,h2⟩:=nz hk j
 rw[Nat.pow_succ]at h
 have:(2 * cs.length-(dz cs j).length-1)<2:=by
  refine Nat.lt_of_mul_lt_mul_right (a:=2^j) ?_
  omega
 omega

def T (L:Nat)(t:List Nat)(j:Nat):List Int:=t.map fun x=>((x+j+1-L:Nat):Int)
def yZ:List E->List Int->Int
 |a::us,x::xs=>a.1 * x+yZ us xs
 |_,_=>0
def ge (d:Nat):List E->List Nat->List E
 |a::us,x::xs=>if d<=x then a::ge d us xs else ge d us xs
 |_,_=>[]
theorem rI (d:Nat):∀us xs,(ge d us xs).Sublist us
 |a::us,x::xs=>by
  unfold ge
  split
  ·exact(rI d us xs).cons_cons a
  ·exact(rI d us xs).cons a
 |[],_=>by cases ‹List Nat› <;> simp[ge]
 |_::_,[]=>by simp[ge]
theorem wT (L j:Nat)(hj:j+1<L):∀(us:List E) (t:List Nat),yZ us (T L t (j+1))=yZ us (T L t j)+((ge (L-(j+1)) us t).map Prod.fst).sum
 |a::us,x::xs=>by
  have ih:=wT L j hj us xs
  simp only[T,List.map_cons,yZ,ge]at ih ⊢
  rw[ih]
  split
  ·rename_i h
   rw[List.map_cons,List.sum_cons,show(x+(j+1)+1-L:Nat)=(x+j+1-L)+1 by omega]
   push_cast
   rw[Int.mul_add,Int.mul_one]
   omega
  ·rename_i h
   rw[show(x+(j+1)+1-L:Nat)=(x+j+1-L) by omega]
   omega
 |[],t=>by cases t <;> simp[T,yZ,ge]
 |a::us,[]=>by simp[T,yZ,ge]
theorem wU (L:Nat)(hL:1<=L):∀(us:List E) (t:List Nat),(∀x∈t,x<=L)->yZ us (T L t 0)=((ge L us t).map Prod.fst).sum
 |a::us,x::xs,h=>by
  have ih:=wU L hL us xs fun y hy=>h y (by simp[hy])
  have hx:=h x (by simp)
  simp only[T,List.map_cons,yZ,ge]at ih ⊢
  rw[ih]
  split
  ·rename_i h
   rw[List.map_cons,List.sum_cons,show(x+0+1-L:Nat)=1 by omega]
   simp
  ·rename_i h
   rw[show(x+0+1-L:Nat)=0 by omega]
   simp
 |[],t,_=>by cases t <;> simp[T,yZ,ge]
 |a::us,[],_=>by simp[T,yZ,ge]
def yb (L:Nat)(cs:List E)(t:List Nat):Nat->Nat
 |0=>(ge L cs t).length
 |j+1=>(ge (L-(j+1)) cs t).length+yb L cs t j / 2
theorem mU {L:Nat}{cs:List E}{t:List Nat}(hL:1<=L)(hu:Up cs)(hp:∀x∈cs,0<x.1)(ht:∀x∈t,x<=L):∀j,j<L->yb L cs t j<=(dz cs j).length/\W (dz cs j) (yb L cs t j)<=yZ cs (T L t j)
 |0,_=>by
  rw[wU L hL cs t ht]
  exact⟨(rI L cs t).length_le,Ji (rI L cs t) hu⟩
 |j+1,hj=>by
  obtain⟨h1,h2⟩:=mU hL hu hp ht j (by omega)
  have hs:=rI (L-(j+1)) cs t
  have hw:=Ji hs hu
  have hl:=hs.length_le
  refine⟨by rw[rH,yb];omega,?_⟩
  rw[wT L j hj,yb]
  have hm:=Pq _ cs (cK (dz cs j)) (ge (L-(j+1)) cs t).length (yb L cs t j / 2) rfl hu (rG (AG hu j)) hl (by rw[lq];omega)
  rw[vi _ _ (by omega)]at hm
  have hmo:=Ey (xs:=dz cs j) (fun x hx=>Int.le_of_lt (ny hp j x hx)) (show 2 * (yb L cs t j / 2)<=yb L cs t j by omega)
  show W (dt Prod.fst cs (cK (dz cs j))) _<=_
  omega
def cz (L:Nat)(j x:Nat):Nat:=if L-j<=x then 2^(j+1)-2^(L-x)else 0
def CZ (L j:Nat):List Nat->Nat
 |[]=>0
 |x::t=>cz L j x+CZ L j t
theorem Hv {L j x:Nat}(hj:j+1<L)(hx:x<=L):cz L (j+1) x=cz L j x+if L-(j+1)<=x then 2^(j+1)else 0:=by
 unfold cz
 have hp:2^(j+1+1)=2^(j+1)+2^(j+1):=by rw[Nat.pow_succ];omega
 by_cases h1:L-j<=x
 ·have:2^(L-x)<=2^j:=Nat.pow_le_pow_right (by omega) (by omega)
  have h2:2^(j+1)=2^j+2^j:=by rw[Nat.pow_succ];omega
  rw[if_pos (by omega),if_pos h1,if_pos (by omega),hp]
  generalize 2^(j+1)=A at h2 ⊢
  generalize 2^(L-x)=B at this ⊢
  omega
 ·rw[if_neg h1]
  by_cases h2:L-(j+1)<=x
  ·rw[if_pos h2,if_pos h2,show L-x=j+1 by omega,hp,Nat.zero_add,Nat.add_sub_cancel]
  ·rw[if_neg h2,if_neg h2]
theorem AH {L j:Nat}(hj:j+1<L):∀(cs:List E) (t:List Nat),cs.length=t.length->(∀x∈t,x<=L)->CZ L (j+1) t=CZ L j t+(ge (L-(j+1)) cs t).length * 2^(j+1)
 |[],[],_,_=>by simp[CZ,ge]
 |a::us,x::t,h,ht=>by
  have ih:=AH hj us t (by simpa using h) fun y hy=>ht y (by simp[hy])
  simp only[CZ,ge]
  rw[ih,Hv hj (ht x (by simp))]
  split
  ·rw[List.length_cons,Nat.add_mul];omega
  ·omega
 |[],_::_,h,_=>by simp at h
 |_::_,[],h,_=>by simp at h
theorem AI {L:Nat}(hL:1<=L):∀(cs:List E) (t:List Nat),cs.length=t.length->(∀x∈t,x<=L)->CZ L 0 t=(ge L cs t).length
 |[],[],_,_=>by simp[CZ,ge]
 |a::us,x::t,h,ht=>by
  have ih:=AI hL us t (by simpa using h) fun y hy=>ht y (by simp[hy])
  have hx:=ht x (by simp)
  simp only[CZ,ge,cz]
  rw[ih]
  by_cases c:L<=x
  ·rw[if_pos (by omega),if_pos c,List.length_cons,show L-x=0 by omega];omega
  ·rw[if_neg (by omega),if_neg c];omega
 |[],_::_,h,_=>by simp at h
 |_::_,[],h,_=>by simp at h
theorem Ez {L:Nat}{cs:List E}{t:List Nat}(hL:1<=L)(hl:cs.length=t.length)(ht:∀x∈t,x<=L):∀j,j<L->CZ L j t<(yb L cs t j+1) * 2^j
 |0,_=>by rw[AI hL cs t hl ht,yb];omega
 |j+1,hj=>by
  have ih:=Ez hL hl ht j (by omega)
  rw[AH hj cs t hl ht,yb]
  have h2:(yb L cs t j+1) * 2^j<=(yb L cs t j / 2+1) * 2^(j+1):=by
   rw[Nat.pow_succ,Nat.mul_comm (2^j) 2,<- Nat.mul_assoc]
   exact Nat.mul_le_mul_right _ (by omega)
  rw[show(ge (L-(j+1)) cs t).length+yb L cs t j / 2+1=(ge (L-(j+1)) cs t).length+(yb L cs t j / 2+1) by omega,Nat.add_mul (ge (L-(j+1)) cs t).length]
  omega
def yd (L:Nat):List Nat->Nat
 |[]=>0
 |x::t=>2^(L-x)+yd L t
theorem EA {L:Nat}(hL:1<=L):∀(t:List Nat),(∀x∈t,1<=x/\x<=L)->CZ L (L-1) t+yd L t=t.length * 2^L
 |[],_=>by simp[CZ,yd]
 |x::t,h=>by
  have ih:=EA hL t fun y hy=>h y (by simp[hy])
  have hx:=h x (by simp)
  simp only[CZ,yd,cz,List.length_cons]
  rw[if_pos (by omega),show L-1+1=L by omega,Nat.add_mul,<- ih]
  have:2^(L-x)<=2^L:=Nat.pow_le_pow_right (by omega) (by omega)
  omega
theorem Pr {L:Nat}(hL:1<=L)(t:List Nat):T L t (L-1)=t.map fun x:Nat=>(x:Int):=by
 unfold T
 apply List.map_congr_left
 intro x _
 rw[show x+(L-1)+1-L=x by omega]
theorem nA {L:Nat}{cs:List E}{t:List Nat}(hL:1<=L)(hu:Up cs)(hp:∀x∈cs,0<x.1)(hl:cs.length=t.length)(ht:∀x∈t,1<=x/\x<=L)(hk:yd L t<=2^L):
  W (dz cs (L-1)) (2 * cs.length-2)<=yZ cs (t.map fun x:Nat=>(x:Int)):=by
 obtain⟨h1,h2⟩:=mU (t:=t) hL hu hp (fun x hx=>(ht x hx).2) (L-1) (by omega)
 rw[Pr hL]at h2
 have h3:=Ez hL hl (fun x hx=>(ht x hx).2) (L-1) (by omega)
 have h4:=EA hL t ht
 have hpw:2^L=2 * 2^(L-1):=by
  conv=>lhs;rw[show L=L-1+1 by omega,Nat.pow_succ]
  omega
 have hm:2 * cs.length-2<yb L cs t (L-1)+1:=by
  refine Nat.lt_of_mul_lt_mul_right (a:=2^(L-1)) ?_
  refine Nat.lt_of_le_of_lt ?_ h3
  have:(2 * cs.length-2) * 2^(L-1)=(t.length-1) * 2^L:=by
   rw[hpw,<- Nat.mul_assoc,hl]
   congr 1
   omega
  rw[this,Nat.sub_mul,Nat.one_mul]
  omega
 exact Int.le_trans (Ey (fun x hx=>Int.le_of_lt (ny hp _ x hx)) (by omega)) h2

def sy (xs:List E):List Int:=xs.flatMap fun e=>e.2
theorem EB:∀(m:Nat) (us bs:List E) (n:Nat),us.length+bs.length=m->Up us->n<=m->∃p q,p+q=n/\p<=us.length/\q<=bs.length/\W (dt Prod.fst us bs) n=W us p+W bs q/\
  (∀s,cV (sy ((dt Prod.fst us bs).take n)) s=cV (sy (us.take p)) s+cV (sy (bs.take q)) s)/\(∀a∈us.drop p,∀b∈bs.take q,b.1<a.1)/\(∀a∈us.take p,a∈(dt Prod.fst us bs).take n):=by
 intro m
 induction m with
 |zero=>
  intro us bs n h _ hn
  have h1:us=[]:=List.eq_nil_of_length_eq_zero (by omega)
  have h2:bs=[]:=List.eq_nil_of_length_eq_zero (by omega)
  subst h1;subst h2
  exact⟨0,0,by omega,by simp,by simp,by simp[dt,Ex],by simp[dt,sy,cV],by simp,by simp⟩
 |succ m ih=>
  intro us bs n h hu hn
  cases n with
  |zero=>exact⟨0,0,by omega,by omega,by omega,by simp[iL],by simp[sy,cV],by simp,by simp⟩
  |succ n=>
   cases us with
   |nil=>exact⟨0,n+1,by omega,by simp,by simp at h;omega,by simp[dt,Ex],by simp[dt,sy,cV],by simp,by simp⟩
   |cons a us=>
    obtain⟨hu1,hu2⟩:=List.pairwise_cons.1 hu
    cases bs with
    |nil=>exact⟨n+1,0,by omega,by simp at h ⊢;omega,by simp,by simp[dB,iL],by simp[dB,sy,cV],by simp,by simp[dB]⟩
    |cons b bs=>
     simp only[List.length_cons]at h
     by_cases hab:b.1<a.1
     ·obtain⟨p,q,h1,h2,h3,h4,h5,h6,h7⟩:=ih (a::us) bs n (by simp;omega) hu (by omega)
      rw[dM Prod.fst hab]
      refine⟨p,q+1,by omega,h2,by simp;omega,by rw[eg,eg,h4];omega,fun s=>?_,fun x hx y hy=>?_,fun x hx=>List.mem_cons_of_mem _ (h7 x hx)⟩
      ·have:=h5 s
       simp only[List.take_succ_cons,sy,List.flatMap_cons,fe]at this ⊢
       omega
      ·rcases List.mem_cons.1 (by simpa using hy)with rfl|hy
       ·have hx':=List.mem_of_mem_drop hx
        rcases List.mem_cons.1 hx' with rfl|hx'
        ·exact hab
        ·have:=hu1 x hx';omega
       ·exact h6 x hx y hy
     ·obtain⟨p,q,h1,h2,h3,h4,h5,h6,h7⟩:=ih us (b::bs) n (by simp;omega) hu2 (by omega)
      rw[ef Prod.fst hab]
      refine⟨p+1,q,by omega,by simp;omega,h3,by rw[eg,eg,h4];omega,fun s=>?_,fun x hx y hy=>h6 x (by simpa using hx) y hy,fun x hx=>?_⟩
      ·have:=h5 s
       simp only[List.take_succ_cons,sy,List.flatMap_cons,fe]at this ⊢
       omega
      ·rcases List.mem_cons.1 (by simpa using hx)with rfl|hx
       ·exact List.mem_cons_self
       ·exact List.mem_cons_of_mem _ (h7 x hx)
theorem wV:∀(xs:List E) (q:Nat),2 * q<=xs.length->sy ((cK xs).take q)=sy (xs.take (2 * q))
 |_,0,_=>by simp[sy,cV]
 |[],q+1,h=>by simp at h
 |[_],q+1,h=>by simp at h;omega
 |a::b::r,q+1,h=>by
  have:=wV r q (by simp at h;omega)
  rw[show 2 * (q+1)=2 * q+1+1 by omega]
  simp only[cK,List.take_succ_cons,sy,List.flatMap_cons]at this ⊢
  rw[this,List.append_assoc]
theorem wW:∀(xs:List E) (q:Nat),2 * q<=xs.length->(∀x∈xs,0<x.1)->∀x∈xs.take (2 * q),∃y∈(cK xs).take q,x.1<y.1
 |_,0,_,_,x,hx=>by simp at hx
 |[],q+1,h,_,_,_=>by simp at h
 |[_],q+1,h,_,_,_=>by simp at h;omega
 |a::b::r,q+1,h,hp,x,hx=>by
  rw[show 2 * (q+1)=2 * q+1+1 by omega]at hx
  simp only[List.take_succ_cons,List.mem_cons]at hx
  have ha:=hp a (by simp)
  have hb:=hp b (by simp)
  rcases hx with rfl|rfl|hx
  ·exact⟨_,List.mem_cons_self,by show x.1<x.1+b.1;omega⟩
  ·exact⟨_,List.mem_cons_self,by show x.1<a.1+x.1;omega⟩
  ·obtain⟨y,hy,h2⟩:=wW r q (by simp at h;omega) (fun z hz=>hp z (by simp[hz])) x hx
   exact⟨y,by simp[cK,hy],h2⟩
def K8:List Nat->Prop
 |p::q::r=>q<=p/\K8 (q::r)
 |_=>True
def K:List Nat->Nat
 |[]=>0
 |p::ps=>p * 2^ps.length+K ps
def tS (ps:List Nat)(r:Nat):Nat:=(ps.filter fun p=>decide (r<p)).length
theorem Ps {cs:List E}(hu:Up cs)(hp:∀x∈cs,0<x.1):∀(j n:Nat),n<=(dz cs j).length->∃ps:List Nat,ps.length=j+1/\K8 ps/\(∀p∈ps,p<=cs.length)/\K ps=n * 2^j/\
  W (dz cs j) n=(ps.map fun p=>W cs p).sum/\(∀s,cV (sy ((dz cs j).take n)) s=(ps.map fun p=>cV (sy (cs.take p)) s).sum)/\(∀p,ps.head? =some p->∀x∈cs.take p,x∈(dz cs j).take n)
 |0,n,h=>⟨[n],rfl,trivial,by intro p hp;rw[List.mem_singleton.1 hp];exact h,by simp[K],by simp[dz],by simp[dz],by
   intro p hp x hx
   cases hp
   exact hx⟩
 |j+1,n,h=>by
  obtain⟨p,q,h1,h2,h3,h4,h5,h6,h7⟩:=EB _ cs (cK (dz cs j)) n rfl hu (by rw[<- nv Prod.fst];exact h)
  have hq:2 * q<=(dz cs j).length:=by rw[lq]at h3;omega
  obtain⟨ps,g1,g2,g3,g4,g5,g6,g7⟩:=Ps hu hp j (2 * q) hq
  cases ps with
  |nil=>simp at g1
  |cons p' ps=>
   have hpp:p'<=p:=by
    rcases Nat.lt_or_ge p p' with c|c
    ·exfalso
     have hl:p<cs.length:=by have:=g3 p' (by simp);omega
     have m1:cs[p]∈cs.take p':=List.mem_take_iff_getElem.2 ⟨p,by omega,rfl⟩
     obtain⟨y,hy,hlt⟩:=wW (dz cs j) q hq (ny hp j) _ (g7 p' rfl _ m1)
     have m2:cs[p]∈cs.drop p:=by rw[List.drop_eq_getElem_cons hl];exact List.mem_cons_self
     have:=h6 _ m2 _ hy
     omega
    ·exact c
   refine⟨p::p'::ps,by simpa using g1,⟨hpp,g2⟩,?_,?_,?_,fun s=>?_,?_⟩
   ·intro x hx
    rcases List.mem_cons.1 hx with rfl|hx
    ·exact h2
    ·exact g3 x hx
   ·rw[K,g4,g1,<- h1,Nat.pow_succ,Nat.add_mul,Nat.mul_comm 2 q,Nat.mul_assoc q,Nat.mul_comm 2]
   ·show W (dt Prod.fst cs (cK (dz cs j))) n=_
    rw[h4,vi _ _ hq,g5];simp only[List.map_cons,List.sum_cons]
   ·show cV (sy ((dt Prod.fst cs (cK (dz cs j))).take n)) s=_
    rw[h5,wV _ _ hq,g6];simp only[List.map_cons,List.sum_cons]
   ·intro x hx
    cases hx
    exact h7

def wX (ps:List Nat):Nat->Nat
 |0=>0
 |k+1=>wX ps k+2^(ps.length-tS ps k)
theorem Pt (ps:List Nat)(r:Nat):tS ps r<=ps.length:=List.length_filter_le _ _
theorem EC {p:Nat}{ps:List Nat}(h:K8 (p::ps)):K8 ps:=by
 cases ps with
 |nil=>trivial
 |cons q r=>exact h.2
theorem y6 {p:Nat}:∀ {ps:List Nat},K8 (p::ps)->∀q∈ps,q<=p
 |[],_,q,hq=>by cases hq
 |x::r,h,q,hq=>by
  rcases List.mem_cons.1 hq with rfl|hq
  ·exact h.1
  ·have:=y6 h.2 q hq
   have:=h.1
   omega
theorem AJ {ps:List Nat}{r:Nat}(h:∀q∈ps,q<=r):tS ps r=0:=by
 unfold tS
 rw[List.length_eq_zero_iff,List.filter_eq_nil_iff]
 intro q hq c
 have:=h q hq
 have:=of_decide_eq_true c
 omega
theorem wY {p:Nat}{ps:List Nat}(h:K8 (p::ps)):∀k,wX (p::ps) k=wX ps k+(k-p) * 2^ps.length
 |0=>by simp[wX]
 |k+1=>by
  rw[wX,wX,wY h k]
  have hl:=Pt ps k
  by_cases hk:k<p
  ·have e:tS (p::ps) k=tS ps k+1:=by unfold tS;rw[List.filter_cons,if_pos (by simpa using hk)];rfl
   rw[e,List.length_cons,show ps.length+1-(tS ps k+1)=ps.length-tS ps k by omega,show k-p=0 by omega,show k+1-p=0 by omega]
   omega
  ·have e0:tS ps k=0:=AJ fun q hq=>by have:=y6 h q hq;omega
   have e:tS (p::ps) k=0:=AJ fun q hq=>by
    rcases List.mem_cons.1 hq with rfl|hq
    ·omega
    ·have:=y6 h q hq;omega
   rw[e,e0,List.length_cons,Nat.sub_zero,Nat.sub_zero,show k+1-p=(k-p)+1 by omega,Nat.pow_succ,Nat.add_mul]
   omega
theorem Jj:∀ {ps:List Nat} {k:Nat},K8 ps->(∀p∈ps,p<=k)->wX ps k+K ps=k * 2^ps.length
 |[],k,_,_=>by
  have:∀k,wX [] k=k:=by
   intro k
   induction k with
   |zero=>rfl
   |succ k ih=>rw[wX,ih];simp
  rw[this];simp[K]
 |p::ps,k,hd,h=>by
  have ih:=Jj (k:=k) (EC hd) fun q hq=>h q (by simp[hq])
  have hpk:=h p (by simp)
  rw[wY hd,K,List.length_cons,Nat.pow_succ]
  have:(k-p) * 2^ps.length+p * 2^ps.length=k * 2^ps.length:=by rw[<- Nat.add_mul];congr 1;omega
  rw[Nat.mul_comm (2^ps.length) 2,Nat.mul_left_comm]
  omega
theorem vj {ps:List Nat}:∀ {k r:Nat},r<k->2^(ps.length-tS ps r)+(k-1)<=wX ps k
 |0,r,h=>by omega
 |k+1,r,h=>by
  rw[wX]
  by_cases c:r=k
  ·subst c
   have:∀k,k<=wX ps k:=by
    intro k
    induction k with
    |zero=>omega
    |succ k ih=>
     rw[wX]
     have:=Nat.two_pow_pos (ps.length-tS ps k)
     omega
   have:=this r
   omega
  ·have:=vj (ps:=ps) (show r<k by omega)
   have:=Nat.two_pow_pos (ps.length-tS ps k)
   omega

theorem rJ {α:Type}(key:α->Int)(acc:List α)(x:α):∀j,(d8 key acc x j).Perm (x::acc)
 |0=> .refl _
 |j+1=>by
  unfold d8
  split
  ·split
   ·exact rJ key acc x j
   ·have:=List.perm_middle (a:=x) (l₁:=acc.take (j+1)) (l₂:=acc.drop (j+1))
    rwa [List.take_append_drop]at this
  ·have:=List.perm_middle (a:=x) (l₁:=acc) (l₂:=[])
   rwa [List.append_nil]at this
theorem mn {α:Type}(key:α->Int)(xs:List α):(bH key xs).Perm xs:=by
 have:∀(xs acc:List α),(xs.foldl (j_ key) acc).Perm (acc++xs):=by
  intro xs
  induction xs with
  |nil=>intro acc;simp
  |cons x xs ih=>
   intro acc
   rw[List.foldl_cons]
   refine(ih _).trans ?_
   have h1:=(rJ key acc x acc.length).append_right xs
   exact h1.trans (List.perm_middle (a:=x) (l₁:=acc) (l₂:=xs)).symm
 exact this xs []
theorem wZ (acc:List E)(x:E)(hu:Up acc):∀j,j<=acc.length->(∀y∈acc.drop j,x.1<y.1)->Up (d8 Prod.fst acc x j)
 |0,_,h=>List.pairwise_cons.2 ⟨fun y hy=>Int.le_of_lt (h y (by simpa using hy)),hu⟩
 |j+1,hj,h=>by
  unfold d8
  rw[List.getElem?_eq_getElem (by omega)]
  simp only
  split
  ·rename_i hlt
   refine wZ acc x hu j (by omega) fun y hy=>?_
   rw[List.drop_eq_getElem_cons (by omega)]at hy
   rcases List.mem_cons.1 hy with rfl|hy
   ·exact hlt
   ·exact h y hy
  ·rename_i hge
   have e:acc=acc.take (j+1)++acc.drop (j+1):=(List.take_append_drop _ _).symm
   unfold Up at hu ⊢
   rw[e,List.pairwise_append]at hu
   obtain⟨h1,h2,h3⟩:=hu
   refine List.pairwise_append.2 ⟨h1,List.pairwise_cons.2 ⟨fun y hy=>Int.le_of_lt (h y hy),h2⟩,fun a ha b hb=>?_⟩
   rcases List.mem_cons.1 hb with rfl|hb
   ·rw[List.take_succ_eq_append_getElem (by omega)]at ha h1
    have hx:acc[j].1<=b.1:=by omega
    rcases List.mem_append.1 ha with ha|ha
    ·have:=(List.pairwise_append.1 h1).2.2 a ha acc[j] (by simp)
     omega
    ·rw[List.mem_singleton.1 ha];exact hx
   ·exact h3 a ha b hb
theorem ED (xs:List E):Up (bH Prod.fst xs):=by
 have:∀(xs acc:List E),Up acc->Up (xs.foldl (j_ Prod.fst) acc):=by
  intro xs
  induction xs with
  |nil=>intro acc h;exact h
  |cons x xs ih=>
   intro acc h
   rw[List.foldl_cons]
   exact ih _ (wZ acc x h _ (Nat.le_refl _) (by simp))
 exact this xs [] (by simp[Up])
def d9 (f:E->Int):List E->Int
 |[]=>0
 |e::r=>f e+d9 f r
theorem gB (f:E->Int){a b:List E}(h:a.Perm b):d9 f a=d9 f b:=by
 induction h with
 |nil=>rfl
 |cons x _ ih=>simp[d9,ih]
 |swap x y l=>simp[d9];omega
 |trans _ _ h1 h2=>rw[h1,h2]
theorem w4 (f g:E->Int):∀l,d9 (fun e=>f e+g e) l=d9 f l+d9 g l
 |[]=>rfl
 |e::r=>by simp[d9,w4 f g r];omega
def vk (g:Int->Int->Int):Int->List Int->Int
 |_,[]=>0
 |s,x::l=>(if 0<x then g x s else 0)+vk g (s+1) l
def one (e:E):Int:=e.2.headD 0
theorem dW (g:Int->Int->Int):∀(s:Int) (l:List Int),d9 (fun e=>g e.1 (one e)) (bW s l)=vk g s l
 |_,[]=>rfl
 |s,x::l=>by
  unfold bW vk
  split
  ·rw[d9,dW g (s+1) l];rfl
  ·rw[dW g (s+1) l];omega
theorem jq {e:E}:∀ {s:Int} {l:List Int},e∈bW s l->0<e.1/\e.2=[one e]/\s<=one e/\one e<s+l.length
 |_,[],h=>by simp[bW]at h
 |s,x::l,h=>by
  unfold bW at h
  have ih:e∈bW (s+1) l->_:=fun h=>jq (s:=s+1) (l:=l) h
  split at h
  ·rename_i hx
   rcases List.mem_cons.1 h with rfl|h
   ·refine⟨hx,rfl,?_,?_⟩ <;> simp[one] <;> omega
   ·obtain⟨h1,h2,h3,h4⟩:=ih h
    exact⟨h1,h2,by omega,by simp;omega⟩
  ·obtain⟨h1,h2,h3,h4⟩:=ih h
   exact⟨h1,h2,by omega,by simp;omega⟩
theorem kI:∀(s:Int) (l:List Int),((bW s l).map one).Nodup
 |_,[]=>by simp[bW]
 |s,x::l=>by
  unfold bW
  split
  ·rw[List.map_cons,List.nodup_cons]
   refine⟨fun h=>?_,kI (s+1) l⟩
   obtain⟨e,he,h⟩:=List.mem_map.1 h
   have:=(jq he).2.2.1
   have:one (x,[s])=s:=rfl
   omega
  ·exact kI (s+1) l
theorem Hw {xs:List E}(h:∀e∈xs,e.2=[one e]):sy xs=xs.map one:=by
 induction xs with
 |nil=>rfl
 |cons e r ih=>
  have:=ih fun y hy=>h y (by simp[hy])
  unfold sy at this ⊢
  rw[List.flatMap_cons,this,h e (by simp)];rfl
theorem qe {j:Nat}:∀ {l:List Int},(j:Int)∉l->cV l j=0
 |[],_=>rfl
 |x::l,h=>by
  rw[cV,qe (l:=l) fun c=>h (by simp[c]),if_neg fun c=>h (by simp[c])]
theorem oA {l:List Int}(hn:l.Nodup){r:Nat}(hr:r<l.length){j:Nat}(hj:l[r]=(j:Int))(p:Nat):cV (l.take p) j=if r<p then 1 else 0:=by
 induction l generalizing r p with
 |nil=>simp at hr
 |cons x l ih=>
  obtain⟨h1,h2⟩:=List.nodup_cons.1 hn
  cases p with
  |zero=>simp[cV]
  |succ p=>
   rw[List.take_succ_cons,cV]
   cases r with
   |zero=>
    have hx:x=(j:Int):=hj
    rw[if_pos hx,if_pos (by omega),qe]
    intro c
    exact h1 (by rw[hx];exact List.mem_of_mem_take c)
   |succ r=>
    have hr':r<l.length:=by simpa using hr
    have hj':l[r]=(j:Int):=by simpa using hj
    rw[ih h2 hr' hj' p,if_neg (show ¬x=(j:Int)from fun c=>h1 (by rw[c,<- hj'];exact List.getElem_mem _))]
    by_cases c:r<p
    ·rw[if_pos c,if_pos (by omega)]
    ·rw[if_neg c,if_neg (by omega)]
theorem w5 (f:E->Int):∀a b,d9 f (a++b)=d9 f a+d9 f b
 |[],b=>by simp[d9]
 |e::r,b=>by simp[d9,w5 f r b];omega
theorem jO {f g:E->Int}:∀ {l:List E},(∀e∈l,f e=g e)->d9 f l=d9 g l
 |[],_=>rfl
 |e::r,h=>by rw[d9,d9,h e (by simp),jO fun x hx=>h x (by simp[hx])]
theorem oB:∀l,d9 (fun _=>0) l=0
 |[]=>rfl
 |e::r=>by rw[d9,oB r];rfl
theorem w6:∀l:List E,d9 (fun e=>e.1) l=(l.map Prod.fst).sum
 |[]=>rfl
 |e::r=>by rw[d9,w6 r];rfl
theorem w7 (f:Nat->E->Int):∀(ps:List Nat) (l:List E),d9 (fun e=>(ps.map fun p=>f p e).sum) l=(ps.map fun p=>d9 (f p) l).sum
 |[],l=>by simp[oB]
 |p::ps,l=>by
  have:=w7 f ps l
  simp only[List.map_cons,List.sum_cons]
  rw[w4,this]
theorem w8:∀l:List Nat,((l.sum:Nat):Int)=(l.map fun x:Nat=>(x:Int)).sum
 |[]=>rfl
 |x::l=>by simp[w8 l]
theorem EE (r:Nat):∀ps:List Nat,(ps.map fun p=>if r<p then 1 else 0).sum=tS ps r
 |[]=>rfl
 |p::ps=>by
  have:=EE r ps
  unfold tS at this ⊢
  rw[List.map_cons,List.sum_cons,this,List.filter_cons]
  by_cases c:r<p
  ·rw[if_pos c,if_pos (by simpa using c),List.length_cons];omega
  ·rw[if_neg c,if_neg (by simpa using c)];omega
theorem w9 (L:Nat)(x:Nat):∀t:List Nat,yd L (t++[x])=yd L t+2^(L-x)
 |[]=>by simp[yd]
 |y::t=>by simp[yd,w9 L x t];omega
theorem AK {ps:List Nat}:∀(k:Nat) (t:List Nat),t.length=k->(∀r (h:r<t.length),t[r]=tS ps r)->yd ps.length t=wX ps k
 |0,t,h,_=>by rw[List.eq_nil_of_length_eq_zero h];rfl
 |k+1,t,h,ht=>by
  have hk:k<t.length:=by omega
  have e:t=t.take k++[t[k]]:=by
   rw[<- List.take_succ_eq_append_getElem hk,List.take_of_length_le (by omega)]
  rw[e,w9,wX,ht k hk,AK k (t.take k) (by simp;omega) fun r hr=>by
   rw[List.getElem_take]
   exact ht r _]
theorem rK {L:Nat}(hL:L<=15)(f:E->Nat):∀cs:List E,(∀e∈cs,f e<=L)->d9 (fun e=>2^(15-f e)) cs=((yd L (cs.map f) * 2^(15-L):Nat):Int)
 |[],_=>by simp[d9,yd]
 |e::r,h=>by
  have ih:=rK hL f r fun x hx=>h x (by simp[hx])
  have:=h e (by simp)
  rw[d9,ih,List.map_cons,yd,Nat.add_mul,<- Nat.pow_add,show L-f e+(15-L)=15-f e by omega]
  push_cast
  rfl
def nB:List Int->List Int->Int
 |c::cs,x::xs=>c * x+nB cs xs
 |_,_=>0
def Cc:List Int->Int
 |[]=>0
 |x::xs=>(if 0<x then 2^(15-x.toNat)else 0)+Cc xs
theorem rL (T:Int->Int):∀(s:Int) (l t:List Int),l.length=t.length->(∀x∈l,0<=x)->(∀(i:Nat) (h:i<t.length),t[i]=T (s+i))->nB l t=vk (fun x j=>x * T j) s l
 |_,[],[],_,_,_=>rfl
 |s,x::l,y::t,h,h0,hT=>by
  have ih:=rL T (s+1) l t (by simpa using h) (fun z hz=>h0 z (by simp[hz])) fun i hi=>by
   have:=hT (i+1) (by simp;omega)
   simp only[List.getElem_cons_succ]at this
   rw[this];congr 1;omega
  have hy:=hT 0 (by simp)
  simp only[List.getElem_cons_zero]at hy
  rw[nB,vk,ih,hy]
  have:=h0 x (by simp)
  by_cases c:0<x
  ·rw[if_pos c];simp
  ·rw[if_neg c,show x=0 by omega];simp
 |_,[],_::_,h,_,_=>by simp at h
 |_,_::_,[],h,_,_=>by simp at h
theorem Jk (T:Int->Int):∀(s:Int) (l t:List Int),l.length=t.length->(∀(i:Nat) (h:i<t.length) (h':i<l.length),0<l[i]->0<t[i])->(∀(i:Nat) (h:i<t.length),t[i]=T (s+i))->vk (fun _ j=>2^(15-(T j).toNat)) s l<=Cc t
 |_,[],[],_,_,_=>Int.le_refl _
 |s,x::l,y::t,h,h0,hT=>by
  have ih:=Jk T (s+1) l t (by simpa using h) (fun i hi hi' hp=>h0 (i+1) (by simp;omega) (by simp;omega) hp) fun i hi=>by
   have:=hT (i+1) (by simp;omega)
   simp only[List.getElem_cons_succ]at this
   rw[this];congr 1;omega
  have hy:=hT 0 (by simp)
  simp only[List.getElem_cons_zero]at hy
  have hxy:=h0 0 (by simp) (by simp)
  simp only[List.getElem_cons_zero]at hxy
  rw[vk,Cc,hy]
  have e:s+((0:Nat):Int)=s:=by simp
  rw[e]at hy ⊢
  by_cases c:0<x
  ·rw[if_pos c,if_pos (by rw[<- hy];exact hxy c)];omega
  ·rw[if_neg c]
   have hpos:(0:Int)<2^(15-(T s).toNat):=Int.pow_pos (by omega)
   split <;> omega
 |_,[],_::_,h,_,_=>by simp at h
 |_,_::_,[],h,_,_=>by simp at h
theorem EF (T:Int->Int):∀(s:Int) (l t:List Int),l.length=t.length->(∀(i:Nat) (h:i<t.length) (h':i<l.length),0<l[i]↔0<t[i])->(∀(i:Nat) (h:i<t.length),t[i]=T (s+i))->vk (fun _ j=>2^(15-(T j).toNat)) s l=Cc t
 |_,[],[],_,_,_=>rfl
 |s,x::l,y::t,h,h0,hT=>by
  have ih:=EF T (s+1) l t (by simpa using h) (fun i hi hi'=>h0 (i+1) (by simp;omega) (by simp;omega)) fun i hi=>by
   have:=hT (i+1) (by simp;omega)
   simp only[List.getElem_cons_succ]at this
   rw[this];congr 1;omega
  have hy:=hT 0 (by simp)
  simp only[List.getElem_cons_zero]at hy
  have hxy:=h0 0 (by simp) (by simp)
  simp only[List.getElem_cons_zero]at hxy
  rw[vk,Cc,ih]
  have e:s+((0:Nat):Int)=s:=by simp
  rw[e]at hy
  by_cases c:0<x
  ·rw[if_pos c,if_pos (hxy.1 c),hy]
  ·rw[if_neg c,if_neg fun d=>c (hxy.2 d)]
 |_,[],_::_,h,_,_=>by simp at h
 |_,_::_,[],h,_,_=>by simp at h
theorem oC:∀ {l:List Int} {s:Int} {i:Nat} (h:i<l.length),0<l[i]->(l[i],[s+i])∈bW s l
 |x::l,s,0,h,hp=>by
  simp only[List.getElem_cons_zero]at hp ⊢
  unfold bW
  rw[if_pos hp]
  simp
 |x::l,s,i+1,h,hp=>by
  simp only[List.getElem_cons_succ]at hp ⊢
  have ih:=oC (l:=l) (s:=s+1) (i:=i) (by simpa using h) hp
  have e:s+((i+1:Nat):Int)=s+1+i:=by push_cast;omega
  rw[e]
  unfold bW
  split
  ·exact List.mem_cons_of_mem _ ih
  ·exact ih
theorem Cd {freq:List Int}{L:Nat}{cs:List E}(h1:1<=L)(h15:L<=15)(hf:∀x∈freq,0<=x)(hcs:cs=bH Prod.fst (bW 0 freq))(hk:2<=cs.length)(hkL:cs.length<=2^L):
  (∀s,0<=eN cs L s/\eN cs L s<=L)/\(∀(i:Nat) (h:i<freq.length),0<freq[i]↔0<eN cs L i)/\Cc ((List.range freq.length).map (eN cs L))=2^15/\
  ∀t:List Int,t.length=freq.length->(∀x∈t,0<=x/\x<=L)->(∀(i:Nat) (h:i<freq.length) (h':i<t.length),0<freq[i]->0<t[i])->Cc t<=2^15->nB freq ((List.range freq.length).map (eN cs L))<=nB freq t:=by
 have hu:Up cs:=by rw[hcs];exact ED _
 have hperm:cs.Perm (bW 0 freq):=by rw[hcs];exact mn _ _
 have hmem:∀e∈cs,0<e.1/\e.2=[one e]/\0<=one e/\one e<freq.length:=fun e he=>by
  have:=jq (hperm.mem_iff.1 he)
  exact⟨this.1,this.2.1,this.2.2.1,by omega⟩
 have hnd:(cs.map one).Nodup:=(hperm.map one).nodup_iff.2 (kI 0 freq)
 have hsub:∀p,sy (cs.take p)=(cs.map one).take p:=fun p=>by
  rw[Hw fun e he=>(hmem e (List.mem_of_mem_take he)).2.1,List.map_take]
 have hen:=pD (cs:=cs) (j:=L-1) (by omega) (by rw[show L-1+1=L by omega];exact hkL)
 obtain⟨ps,p1,p2,p3,p4,p5,p6,_⟩:=Ps hu (fun x hx=>(hmem x hx).1) (L-1) (2 * cs.length-2) hen
 have pl:ps.length=L:=by omega
 have hpw:2^L=2 * 2^(L-1):=by
  conv=>lhs;rw[show L=L-1+1 by omega,Nat.pow_succ]
  omega
 have hkr:=Jj p2 p3
 have hK:K ps=(cs.length-1) * 2^L:=by
  rw[p4,hpw,<- Nat.mul_assoc];congr 1;omega
 have hkr2:wX ps cs.length=2^L:=by
  rw[hK,pl,Nat.sub_mul,Nat.one_mul]at hkr
  have:1 * 2^L<=cs.length * 2^L:=Nat.mul_le_mul_right _ (by omega)
  omega
 -- a coin's length
 have hh:∀s,eN cs L s=(((ps.map fun p=>cV (sy (cs.take p)) s).sum:Nat):Int):=fun s=>by
  unfold eN
  rw[show(((dz cs (L-1)).take (2 * cs.length-2)).flatMap fun e=>e.2)=sy ((dz cs (L-1)).take (2 * cs.length-2))from rfl,p6]
 have hof:∀r (hr:r<cs.length),eN cs L (one cs[r]).toNat=tS ps r:=fun r hr=>by
  rw[hh,<- EE]
  congr 2
  apply List.map_congr_left
  intro p _
  have hz:=(hmem cs[r] (List.getElem_mem hr)).2.2.1
  rw[hsub,oA hnd (r:=r) (by simpa using hr) (by rw[List.getElem_map];omega)]
 have hle:∀s,0<=eN cs L s/\eN cs L s<=L:=fun s=>by
  rw[hh,<- pl]
  refine⟨by omega,?_⟩
  have hone:∀p∈ps,cV (sy (cs.take p)) s<=1:=fun p _=>by
   rw[hsub]
   by_cases c:(s:Int)∈cs.map one
   ·obtain⟨r,hr,he⟩:=List.getElem_of_mem c
    rw[oA hnd hr he]
    split <;> omega
   ·rw[qe fun d=>c (List.mem_of_mem_take d)];omega
  have:∀l:List Nat,(∀p∈l,cV (sy (cs.take p)) s<=1)->(l.map fun p=>cV (sy (cs.take p)) s).sum<=l.length:=by
   intro l
   induction l with
   |nil=>intro _;simp
   |cons x l ih=>
    intro h
    have a:=ih fun p hp=>h p (by simp[hp])
    have b:=h x (by simp)
    simp only[List.map_cons,List.sum_cons,List.length_cons]
    omega
  have:=this ps hone
  omega
 have hiff:∀(i:Nat) (h:i<freq.length),0<freq[i]↔0<eN cs L i:=fun i hi=>by
  constructor
  ·intro hp
   have hm:=hperm.mem_iff.2 (oC (l:=freq) (s:=0) hi hp)
   obtain⟨r,hr,he⟩:=List.getElem_of_mem hm
   have h2:=hof r hr
   rw[he]at h2
   have e:(one (freq[i],[0+(i:Int)])).toNat=i:=by simp[one]
   rw[e]at h2
   rw[h2]
   have h3:=vj (ps:=ps) hr
   rw[hkr2,pl]at h3
   rcases Nat.eq_zero_or_pos (tS ps r)with c|c
   ·rw[c,Nat.sub_zero]at h3;omega
   ·omega
  ·intro hp
   rcases Int.lt_or_le 0 freq[i]with c|c
   ·exact c
   ·exfalso
    have hno:((i:Nat):Int)∉cs.map one:=fun d=>by
     obtain⟨e,he,h2⟩:=List.mem_map.1 d
     have hz:=hperm.mem_iff.1 he
     have:∀(l:List Int) (s:Int),e∈bW s l->∃(k:Nat) (hk:k<l.length),one e=s+k/\0<l[k]:=by
      intro l
      induction l with
      |nil=>intro s h;simp[bW]at h
      |cons x l ih=>
       intro s h
       unfold bW at h
       have tl:e∈bW (s+1) l->∃(k:Nat) (hk:k<(x::l).length),one e=s+k/\0<(x::l)[k]:=fun h=>by
        obtain⟨k,hk,e1,e2⟩:=ih (s+1) h
        exact⟨k+1,by simp;omega,by rw[e1];push_cast;omega,by simpa using e2⟩
       split at h
       ·rename_i hx
        rcases List.mem_cons.1 h with rfl|h
        ·exact⟨0,by simp,by simp[one],by simpa using hx⟩
        ·exact tl h
       ·exact tl h
     obtain⟨k,hk,e1,e2⟩:=this freq 0 hz
     have:k=i:=by omega
     subst this
     omega
    rw[hh]at hp
    have:∀l:List Nat,(l.map fun p=>cV (sy (cs.take p)) i).sum=0:=by
     intro l
     induction l with
     |nil=>rfl
     |cons x l ih=>
      rw[List.map_cons,List.sum_cons,ih,hsub,qe fun d=>hno (List.mem_of_mem_take d)]
    rw[this]at hp
    omega
 have cL:((List.range freq.length).map (eN cs L)).length=freq.length:=by simp
 have hget:∀(i:Nat) (h:i<((List.range freq.length).map (eN cs L)).length),((List.range freq.length).map (eN cs L))[i]=(fun j:Int=>eN cs L j.toNat) (0+(i:Int)):=fun i h=>by simp
 refine⟨hle,hiff,?_,fun t ht h0 hpos hkt=>?_⟩
 ·rw[<- EF (fun j:Int=>eN cs L j.toNat) 0 freq _ cL.symm (fun i h h'=>by
   rw[hget];simpa using hiff i h') hget,<- dW (fun _ j=>2^(15-(eN cs L j.toNat).toNat)) 0 freq,<- gB _ hperm]
  rw[rK (L:=L) h15 (fun e=>(eN cs L (one e).toNat).toNat) cs fun e he=>by have:=hle (one e).toNat;omega]
  have hm:yd ps.length (cs.map fun e=>(eN cs L (one e).toNat).toNat)=wX ps cs.length:=AK cs.length _ (by simp) fun r hr=>by
   rw[List.getElem_map,hof r (by simpa using hr)];simp
  rw[pl]at hm
  rw[hm,hkr2,<- Nat.pow_add,show L+(15-L)=15 by omega]
  rfl
 ·have c1:nB freq ((List.range freq.length).map (eN cs L))=W (dz cs (L-1)) (2 * cs.length-2):=by
   rw[rL (fun j:Int=>eN cs L j.toNat) 0 freq _ cL.symm hf hget,<- dW (fun x j=>x * eN cs L j.toNat) 0 freq,<- gB _ hperm,p5]
   have:∀e∈cs,e.1 * eN cs L (one e).toNat=(ps.map fun p=>e.1 * (cV (sy (cs.take p)) (one e).toNat:Int)).sum:=fun e _=>by
    rw[hh,w8,List.map_map]
    have:∀l:List Nat,e.1 * (l.map ((fun x:Nat=>(x:Int)) ∘ fun p=>cV (sy (cs.take p)) (one e).toNat)).sum=(l.map fun p=>e.1 * (cV (sy (cs.take p)) (one e).toNat:Int)).sum:=by
     intro l
     induction l with
     |nil=>simp
     |cons x l ih=>simp only[List.map_cons,List.sum_cons,Int.mul_add,ih,Function.comp]
    exact this ps
   rw[jO this,w7 (fun p e=>e.1 * (cV (sy (cs.take p)) (one e).toNat:Int))]
   congr 1
   apply List.map_congr_left
   intro p _
   have hat:∀r (hr:r<cs.length),cV (sy (cs.take p)) (one cs[r]).toNat=if r<p then 1 else 0:=fun r hr=>by
    have hz:=(hmem cs[r] (List.getElem_mem hr)).2.2.1
    rw[hsub,oA hnd (r:=r) (by simpa using hr) (by rw[List.getElem_map];omega)]
   conv=>lhs;rw[<- List.take_append_drop p cs]
   rw[w5,List.take_append_drop]
   rw[jO (l:=cs.take p) (g:=fun e=>e.1) fun e he=>by
    obtain⟨r,hr,rfl⟩:=List.getElem_of_mem he
    rw[List.length_take]at hr
    rw[List.getElem_take,hat r (by omega),if_pos (by omega)];simp]
   rw[jO (l:=cs.drop p) (g:=fun _=>0) fun e he=>by
    obtain⟨r,hr,rfl⟩:=List.getElem_of_mem he
    rw[List.length_drop]at hr
    rw[List.getElem_drop,hat (p+r) (by omega),if_neg (by omega)];simp]
   rw[oB,w6,Int.add_zero]
   rfl
  have tget:∀(i:Nat) (h:i<t.length),t[i]=(fun j:Int=>t.getD j.toNat 0) (0+(i:Int)):=fun i h=>by simp[h]
  have tb:∀e∈cs,1<=(t.getD (one e).toNat 0).toNat/\(t.getD (one e).toNat 0).toNat<=L/\0<t.getD (one e).toNat 0:=fun e he=>by
   obtain⟨m1,m2,m3,m4⟩:=hmem e he
   have hi:(one e).toNat<freq.length:=by omega
   obtain⟨r,hr,hre⟩:=List.getElem_of_mem he
   have hp:0<freq[(one e).toNat]:=by
    refine(hiff _ hi).2 ?_
    have h2:=hof r hr
    rw[hre]at h2
    rw[h2]
    have h3:=vj (ps:=ps) hr
    rw[hkr2,pl]at h3
    rcases Nat.eq_zero_or_pos (tS ps r)with c|c
    ·rw[c,Nat.sub_zero]at h3;omega
    ·omega
   have h1:=hpos _ hi (by omega) hp
   have h2:=h0 _ (List.getElem_mem (show(one e).toNat<t.length by omega))
   have e1:t.getD (one e).toNat 0=t[(one e).toNat]'(by omega):=by rw[List.getD_eq_getElem?_getD,List.getElem?_eq_getElem (by omega)];rfl
   rw[e1]
   omega
  have c2:nB freq t=yZ cs ((cs.map fun e=>(t.getD (one e).toNat 0).toNat).map fun x:Nat=>(x:Int)):=by
   rw[rL (fun j:Int=>t.getD j.toNat 0) 0 freq t ht.symm hf tget,<- dW (fun x j=>x * t.getD j.toNat 0) 0 freq,<- gB _ hperm]
   have:∀l:List E,(∀e∈l,0<t.getD (one e).toNat 0)->d9 (fun e=>e.1 * t.getD (one e).toNat 0) l=yZ l ((l.map fun e=>(t.getD (one e).toNat 0).toNat).map fun x:Nat=>(x:Int)):=by
    intro l
    induction l with
    |nil=>intro _;rfl
    |cons x l ih=>
     intro h
     have hx:=h x (by simp)
     rw[d9,ih fun e he=>h e (by simp[he])]
     simp only[List.map_cons,yZ]
     rw[show(((t.getD (one x).toNat 0).toNat:Nat):Int)=t.getD (one x).toNat 0 by omega]
   exact this cs fun e he=>(tb e he).2.2
  rw[c1,c2]
  refine nA h1 hu (fun x hx=>(hmem x hx).1) (by simp) (fun x hx=>?_) ?_
  ·obtain⟨e,he,rfl⟩:=List.mem_map.1 hx
   exact⟨(tb e he).1,(tb e he).2.1⟩
  ·have k1:=rK (L:=L) h15 (fun e=>(t.getD (one e).toNat 0).toNat) cs fun e he=>(tb e he).2.1
   have k2:=Jk (fun j:Int=>t.getD j.toNat 0) 0 freq t ht.symm (fun i h h' hp=>hpos i h' h hp) tget
   rw[<- dW (fun _ j=>2^(15-(t.getD j.toNat 0).toNat)) 0 freq,<- gB _ hperm,k1]at k2
   have k3:yd L (cs.map fun e=>(t.getD (one e).toNat 0).toNat) * 2^(15-L)<=2^15:=by
    have:(((yd L (cs.map fun e=>(t.getD (one e).toNat 0).toNat) * 2^(15-L):Nat)):Int)<=((2^15:Nat):Int):=Int.le_trans k2 (by simpa using hkt)
    exact Int.ofNat_le.1 this
   rw[show(15:Nat)=L+(15-L) by omega,Nat.pow_add]at k3
   rw[show L+(15-L)-L=15-L by omega]at k3
   exact Nat.le_of_mul_le_mul_right k3 (Nat.two_pow_pos _)
end PM
namespace HF
open Go Go.Proofs
section spec
variable {α:Type} (key:α->Int)
def AM (xs:List α):Prop:=xs.Pairwise fun a b=>key a<=key b
theorem Ce:∀(n:Nat) (xs bs cs:List α),xs.length+bs.length+cs.length=n->dt key (dt key xs bs) cs=dt key xs (dt key bs cs):=by
 intro n
 induction n with
 |zero=>
  intro xs bs cs h
  have h1:xs=[]:=List.eq_nil_of_length_eq_zero (by omega)
  subst h1
  simp[dt]
 |succ n ih=>
  intro xs bs cs h
  cases xs with
  |nil=>simp[dt]
  |cons a xs=>
   cases bs with
   |nil=>rw[dB];simp[dt]
   |cons b bs=>
    cases cs with
    |nil=>rw[dB,dB]
    |cons c cs=>
     simp only[List.length_cons]at h
     by_cases h1:key b<key a
     ·by_cases h2:key c<key b
      ·rw[dM key h1,dM key h2,dM key h2,dM key (show key c<key a by omega),<- dM key h1,ih _ _ _ (by simp;omega)]
      ·rw[dM key h1,ef key h2,ef key h2,dM key h1,ih _ _ _ (by simp;omega)]
     ·by_cases h2:key c<key a
      ·rw[ef key h1,dM key h2,dM key (show key c<key b by omega),dM key h2,<- ef key h1,ih _ _ _ (by simp;omega)]
      ·rw[ef key h1,ef key h2,ih _ _ _ (by simp;omega)]
       by_cases h3:key c<key b
       ·rw[dM key h3,ef key h2]
       ·rw[ef key h3,ef key h1]
theorem w_:∀us bs:List α,(dt key us bs).length=us.length+bs.length
 |[],bs=>by simp[dt]
 |a::us,bs=>by
  have ih:=w_ us (bs.dropWhile fun b=>decide (key b<key a))
  have h:bs.length=(bs.takeWhile fun b=>decide (key b<key a)).length+(bs.dropWhile fun b=>decide (key b<key a)).length:=by
   rw[<- List.length_append,List.takeWhile_append_dropWhile]
  simp only[dt,List.length_append,List.length_cons,ih]
  omega
theorem K9:∀(n:Nat) (us bs:List α),us.length+bs.length=n->AM key us->AM key bs->AM key (dt key us bs)/\∀y∈dt key us bs,y∈us\/y∈bs:=by
 intro n
 induction n with
 |zero=>
  intro us bs h _ _
  have h1:us=[]:=List.eq_nil_of_length_eq_zero (by omega)
  have h2:bs=[]:=List.eq_nil_of_length_eq_zero (by omega)
  subst h1;subst h2
  exact⟨List.Pairwise.nil,fun y hy=>by simp[dt]at hy⟩
 |succ n ih=>
  intro us bs h hu hb
  cases us with
  |nil=>exact⟨hb,fun y hy=> .inr hy⟩
  |cons a us=>
   cases bs with
   |nil=>rw[dB];exact⟨hu,fun y hy=> .inl hy⟩
   |cons b bs=>
    obtain⟨hu1,hu2⟩:=List.pairwise_cons.1 hu
    obtain⟨hb1,hb2⟩:=List.pairwise_cons.1 hb
    simp only[List.length_cons]at h
    by_cases hab:key b<key a
    ·obtain⟨i1,i2⟩:=ih (a::us) bs (by simp;omega) hu hb2
     rw[dM key hab]
     refine⟨List.pairwise_cons.2 ⟨fun x hx=>?_,i1⟩,fun y hy=>?_⟩
     ·rcases i2 x hx with c|c
      ·rcases List.mem_cons.1 c with rfl|c
       ·omega
       ·have:=hu1 x c;omega
      ·exact hb1 x c
     ·rcases List.mem_cons.1 hy with rfl|hy
      ·exact .inr (by simp)
      ·rcases i2 y hy with c|c
       ·exact .inl c
       ·exact .inr (by simp[c])
    ·obtain⟨i1,i2⟩:=ih us (b::bs) (by simp;omega) hu2 hb
     rw[ef key hab]
     refine⟨List.pairwise_cons.2 ⟨fun x hx=>?_,i1⟩,fun y hy=>?_⟩
     ·rcases i2 x hx with c|c
      ·exact hu1 x c
      ·rcases List.mem_cons.1 c with rfl|c
       ·omega
       ·have:=hb1 x c;omega
     ·rcases List.mem_cons.1 hy with rfl|hy
      ·exact .inl (by simp)
      ·rcases i2 y hy with c|c
       ·exact .inl (by simp[c])
       ·exact .inr c
theorem rM {x:α}:∀(us vs:List α),(∀u∈us,key u<=key x)->dt key (us++vs) [x]=us++dt key vs [x]
 |[],vs,_=>rfl
 |a::us,vs,h=>by
  have:=h a (by simp)
  rw[List.cons_append,ef key (by omega),rM us vs fun u hu=>h u (by simp[hu])];rfl
theorem rP {x:α}:∀(vs:List α),(∀u∈vs,key x<key u)->dt key vs [x]=x::vs
 |[],_=>rfl
 |a::us,h=>by
  have:=h a (by simp)
  rw[dM key this,dB]
theorem tT {acc:List α}{x:α}(hu:AM key acc):∀j,j<=acc.length->(∀u∈acc.drop j,key x<key u)->d8 key acc x j=dt key acc [x]
 |0,_,h=>by rw[d8,rP key acc (by simpa using h)]
 |j+1,hj,h=>by
  unfold d8
  rw[List.getElem?_eq_getElem (by omega)]
  simp only
  split
  ·rename_i hlt
   refine tT hu j (by omega) fun u hu=>?_
   rw[List.drop_eq_getElem_cons (by omega)]at hu
   rcases List.mem_cons.1 hu with rfl|hu
   ·exact hlt
   ·exact h u hu
  ·rename_i hge
   conv=>rhs;rw[<- List.take_append_drop (j+1) acc]
   rw[rM,rP key _ h]
   intro u hu'
   obtain⟨i,hi,rfl⟩:=List.getElem_of_mem hu'
   rw[List.length_take]at hi
   rw[List.getElem_take]
   rcases Nat.lt_or_ge i j with c|c
   ·have:=List.pairwise_iff_getElem.1 hu i j (by omega) (by omega) c
    omega
   ·have:i=j:=by omega
    subst this
    omega
theorem rQ {acc:List α}{x:α}(hu:AM key acc):j_ key acc x=dt key acc [x]:=tT key hu _ (Nat.le_refl _) (by simp)
theorem iM:∀(n:Nat) (xs:List α),xs.length=n->AM key (bH key xs)
 |0,xs,h=>by rw[List.eq_nil_of_length_eq_zero h];exact List.Pairwise.nil
 |n+1,xs,h=>by
  have e:xs=xs.take n++[xs[n]]:=by rw[<- List.take_succ_eq_append_getElem (by omega),List.take_of_length_le (by omega)]
  have ih:=iM n (xs.take n) (by simp;omega)
  rw[e,gA,rQ key ih]
  exact(K9 key _ _ _ rfl ih (by simp[AM])).1
theorem oD (xs:List α):∀(n:Nat) (bs:List α),bs.length=n->dt key (bH key xs) (bH key bs)=bH key (xs++bs)
 |0,bs,h=>by rw[List.eq_nil_of_length_eq_zero h,show bH key ([]:List α)=[]from rfl,dB,List.append_nil]
 |n+1,bs,h=>by
  have e:bs=bs.take n++[bs[n]]:=by rw[<- List.take_succ_eq_append_getElem (by omega),List.take_of_length_le (by omega)]
  have ih:=oD xs n (bs.take n) (by simp;omega)
  have u1:=iM key _ xs rfl
  have u2:=iM key _ (bs.take n) rfl
  rw[e,gA,rQ key u2,<- Ce key _ _ _ _ rfl,ih,<- List.append_assoc,gA,rQ key (iM key _ _ rfl)]
theorem vm:∀(n:Nat) (u1 u2 v1 v2:List α),u1.length+v1.length=n->(∀u∈u1,∀v∈v2,key u<=key v)->(∀v∈v1,∀u∈u2,key v<key u)->dt key (u1++u2) (v1++v2)=dt key u1 v1++dt key u2 v2:=by
 intro n
 induction n with
 |zero=>
  intro u1 u2 v1 v2 h _ _
  have h1:u1=[]:=List.eq_nil_of_length_eq_zero (by omega)
  have h2:v1=[]:=List.eq_nil_of_length_eq_zero (by omega)
  subst h1;subst h2
  rfl
 |succ n ih=>
  intro u1 u2 v1 v2 h h1 h2
  cases u1 with
  |nil=>
   cases v1 with
   |nil=>simp at h
   |cons v v1=>
    cases u2 with
    |nil=>rfl
    |cons u u2=>
     have hv:=h2 v (by simp) u (by simp)
     have:=ih [] (u::u2) v1 v2 (by simp at h ⊢;omega) (by simp) (fun x hx=>h2 x (by simp[hx]))
     rw[List.nil_append]at this
     rw[List.nil_append,List.cons_append,dM key hv,this];rfl
  |cons u u1=>
   cases v1 with
   |nil=>
    cases v2 with
    |nil=>simp[dB]
    |cons v v2=>
     have hv:=h1 u (by simp) v (by simp)
     have:=ih u1 u2 [] (v::v2) (by simp at h ⊢;omega) (fun x hx=>h1 x (by simp[hx])) (by simp)
     rw[List.nil_append]at this
     rw[List.nil_append,List.cons_append,ef key (by omega),this,dB,dB];rfl
   |cons v v1=>
    simp only[List.length_cons]at h
    rw[List.cons_append,List.cons_append]
    by_cases c:key v<key u
    ·have:=ih (u::u1) u2 v1 v2 (by simp;omega) h1 (fun x hx=>h2 x (by simp[hx]))
     rw[List.cons_append]at this
     rw[dM key c,dM key c,this];rfl
    ·have:=ih u1 u2 (v::v1) v2 (by simp;omega) (fun x hx=>h1 x (by simp[hx])) h2
     rw[List.cons_append]at this
     rw[ef key c,ef key c,this];rfl
def Hx (s:Nat):Nat->List α->List α
 |0,_=>[]
 |f+1,xs=>bH key (xs.take s)++if xs.length<=s then []else Hx s f (xs.drop s)
theorem Cf {s f:Nat}{xs:List α}(h:xs.length<=s):Hx key s (f+1) xs=bH key xs:=by
 rw[Hx,if_pos h,List.append_nil,List.take_of_length_le h]
theorem xb {s:Nat}(hs:0<s):∀(f g:Nat) (xs:List α),xs.length<=f->xs.length<=g->0<f->0<g->Hx key s f xs=Hx key s g xs
 |0,_,_,_,_,h,_=>by omega
 |_,0,_,_,_,_,h=>by omega
 |f+1,g+1,xs,h1,h2,_,_=>by
  rw[Hx,Hx]
  split
  ·rfl
  ·rename_i h
   congr 1
   exact xb hs f g _ (by simp;omega) (by simp;omega) (by omega) (by omega)
def jr (s:Nat)(xs:List α):List α:=Hx key s (xs.length+1) xs
theorem cQ {s:Nat}{xs:List α}(h:xs.length<=s):jr key s xs=bH key xs:=Cf key h
theorem iv {s:Nat}{xs:List α}(hs:0<s)(h:s<xs.length):jr key s xs=bH key (xs.take s)++jr key s (xs.drop s):=by
 unfold jr
 rw[Hx,if_neg (by omega)]
 congr 1
 exact xb key hs _ _ _ (by simp) (by simp) (by omega) (by omega)
theorem EG (s:Nat)(hs:0<s)(hl:∀xs:List α,(bH key xs).length=xs.length):∀(n:Nat) (xs:List α),xs.length<=n->(jr key s xs).length=xs.length:=by
 intro n
 induction n with
 |zero=>intro xs h;rw[cQ key (by omega),hl]
 |succ n ih=>
  intro xs h
  rcases Nat.lt_or_ge s xs.length with c|c
  ·rw[iv key hs c,List.length_append,hl,ih _ (by simp;omega)];simp;omega
  ·rw[cQ key c,hl]
end spec
end HF
namespace HF
open Go Go.Proofs Go.RowKit Sh Sl T
abbrev js (g cap n:Nat)(D:List It):HP:=Sl 2 319 (some ⟨g,0,none⟩) cap n (D.flatMap ic)
theorem lL {W:World}{g cap n j:Nat}{D:List It}(hn:D.length=n)(hj:j<D.length):bg p_ W [js g cap n D] (aI 319 (.pointer (some ⟨g,0+j * 2,none⟩))) (av D[j]):=
 vg (A:=js g cap n D) (by subst hn;exact mm (P:=p_) (by rw[fG]) (fun _=>⟨g,rfl⟩)) hj
theorem kJ {W:World}{L L':List HP}{Kp:PK}{k:Value->WP}{g cap n j:Nat}{D:List It}{x:It}(p:Pick L (js g cap n D) L')(hj:j<D.length)(h:aZ W (js g cap n (D.set j x)::L') (k undef)):
  aZ W L (opN p_ (aJ 319 (.pointer (some ⟨g,0+j * 2,none⟩)) (av x)) Kp k):=by
 rw[Nat.zero_add]
 refine ve p (by rfl) (by rw[fG];omega) (kH x) ?_
 rw[show(D.flatMap ic).take (j * 2)++(#[I x.n,Value.slice (some ⟨x.g,0,none⟩) x.w.length x.c]:Array Value).toList++(D.flatMap ic).drop (j * 2+2)=(D.set j x).flatMap ic from vf _ j x hj]
 exact h
theorem qh {α:Type}(p q:List α)(x y:α):(p++x::q).set p.length y=p++y::q:=by
 rw[List.set_append_right _ _ (Nat.le_refl _),Nat.sub_self];rfl
theorem AN {α:Type}(p q:List α)(x:α)(h:p.length<(p++x::q).length):(p++x::q)[p.length]=x:=by
 rw[List.getElem_append_right (Nat.le_refl _)];simp
theorem AO {α:Type}{p m q:List α}{x y:α}{i j:Nat}(hi:i=p.length)(hj:j=p.length+1+m.length)(h1:i<(p++x::(m++y::q)).length)(h2:j<(p++x::(m++y::q)).length):
  (p++x::(m++y::q))[i]=x/\(p++x::(m++y::q))[j]=y/\((p++x::(m++y::q)).set i y).set j x=p++y::(m++x::q)/\((p++x::(m++y::q)).set j x).set i y=p++y::(m++x::q):=by
 subst hi
 have e:∀z:α,p++z::(m++y::q)=(p++z::m)++y::q:=fun z=>by simp
 have e':∀z:α,p++z::(m++x::q)=(p++z::m)++x::q:=fun z=>by simp
 have l:∀z:α,(p++z::m).length=j:=fun z=>by rw[List.length_append,List.length_cons,hj];omega
 refine⟨AN p _ x h1,?_,?_,?_⟩
 ·have:=AN (p++x::m) q y (by rw[<- e,l x];exact h2)
  simp only[l x,<- e]at this
  exact this
 ·rw[qh,e,<- l y,qh,<- e']
 ·rw[e,<- l x,qh,<- e',qh]
theorem oE {W:World}{g cap n c:Nat}{P X M Y R:List It}{i j k:Int}(hn:(P++X++M++Y++R).length=n)(hm:n<=1073741824)(hXY:X.length=Y.length)(hi:i=(P.length:Int))(hj:j=(P.length+X.length+M.length:Nat))(hk:k=(X.length:Int)):
  Cn p_ 259 [.slice (some ⟨g,0,none⟩) n c,.int .i64 i,.int .i64 j,.int .i64 k,fn 240] W [js g cap n (P++X++M++Y++R)] (fun _:Unit=> .tuple #[]) (fun _=>[js g cap n (P++Y++M++X++R)]):=by
 subst hi;subst hj;subst hk
 (refine Shp.cn (Sg.g_ Tryz.call259 Tryz.func259 (an:={loops:=[(1,[10])],drs:=[(3,.ofL [(0,1),(1,1),(2,1),(3,1),(4,2),(5,2),(6,2),(7,3),(8,1),(9,1),(10,1),(11,1),(12,1),(13,1),(14,1),(15,1),(16,1),(17,1),(18,1),(19,1),(20,1),(21,0),(22,1),(23,0)])]}) (os:=[(3,[(21,[7])])])) fun F=>?_;simp only[ca_,na_])
 refine a_ (fun m y=>(ex fun t:Nat=>all [pu (m+t=X.length/\y= .int .i64 (t:Int)),js g cap n ((P++Y.take t)++X.drop t++M++(X.take t++Y.drop t)++R)])::F) X.length ?_ ?_
 ·refine .ex 0 (.all ?_)
  refine aq ?_
  refine .pu ⟨rfl,rfl⟩ ?_
  simp only[List.take_zero,List.drop_zero,List.append_nil,List.nil_append]
  exact .refl
 intro m ds y
 refine aH .here fun t=>ap .here ?_
 refine aq ?_
 refine aG .here fun ht=>?_
 obtain⟨hmt,rfl⟩:=ht
 simp only[List.length_append]at hn
 refine ay az .nil (fun h=>?_) (fun h=>?_)
 ·have htX:t<X.length:=by omega
  have htY:t<Y.length:=by omega
  have hD:(P++Y.take t)++X.drop t++M++(X.take t++Y.drop t)++R=(P++Y.take t)++X[t]::((X.drop (t+1)++M++X.take t)++Y[t]::(Y.drop (t+1)++R)):=by
   rw[List.drop_eq_getElem_cons htX,List.drop_eq_getElem_cons htY];simp only[List.append_assoc,ca_,na_]
  have hD2:(P++Y.take (t+1))++X.drop (t+1)++M++(X.take (t+1)++Y.drop (t+1))++R=(P++Y.take t)++Y[t]::((X.drop (t+1)++M++X.take t)++X[t]::(Y.drop (t+1)++R)):=by
   rw[List.take_succ_eq_append_getElem htX,List.take_succ_eq_append_getElem htY];simp only[List.append_assoc,ca_,na_]
  have hl1:(P++Y.take t).length=P.length+t:=by rw[List.length_append,List.length_take];omega
  have hl2:(X.drop (t+1)++M++X.take t).length=X.length+M.length-1:=by simp only[List.length_append,List.length_take,List.length_drop];omega
  rw[hD]
  have cL:((P++Y.take t)++X[t]::((X.drop (t+1)++M++X.take t)++Y[t]::(Y.drop (t+1)++R))).length=n:=by
   rw[<- hD];simp only[List.length_append,List.length_take,List.length_drop];omega
  obtain⟨s1,s2,s3,s4⟩:=AO (p:=P++Y.take t) (m:=X.drop (t+1)++M++X.take t) (q:=Y.drop (t+1)++R) (x:=X[t]) (y:=Y[t]) (i:=P.length+t) (j:=P.length+X.length+M.length+t) (by omega) (by rw[hl1,hl2];omega) (by omega) (by omega)
  obtain⟨D,hDe⟩:∃D,D=(P++Y.take t)++X[t]::((X.drop (t+1)++M++X.take t)++Y[t]::(Y.drop (t+1)++R)):=⟨_,rfl⟩
  simp only[<- hDe]at s1 s2 s3 s4 cL ⊢
  have ld1:=lL (W:=W) (g:=g) (cap:=cap) cL (j:=P.length+X.length+M.length+t) (by omega)
  have ld0:=lL (W:=W) (g:=g) (cap:=cap) cL (j:=P.length+t) (by omega)
  rw[s2]at ld1
  rw[s1]at ld0
  refine ab (bA (t_ (bU (by omega) (by omega)) ?_))
  refine bh (bU (by omega) (by omega)) .nil ?_
  refine t_ (bU (by omega) (by omega)) ?_
  refine t_ (cR (P.length+X.length+M.length+t) (by omega) (by omega)) ?_
  refine aT ld1 (.pick .here .nil) ?_
  refine t_ (bU (by omega) (by omega)) ?_
  refine t_ (cR (P.length+t) (by omega) (by omega)) ?_
  refine aT ld0 (.pick .here .nil) ?_
  refine t_ (cR (P.length+t) (by omega) (by omega)) ?_
  refine kJ .here (by omega) ?_
  refine bZ aw ?_
  refine t_ (cR (P.length+X.length+M.length+t) (by omega) (by omega)) ?_
  refine kJ .here (by rw[List.length_set];omega) ?_
  rw[s3]
  refine bG ?_
  refine aK (m-1) (by omega) (.ex (t+1) (.all ?_))
  refine aq ?_
  refine .pu ⟨by omega,by norm_cast⟩ ?_
  rw[hD2]
  exact .refl
 ·have hte:t=X.length:=by omega
  subst hte
  rw[List.drop_length,List.take_length,hXY,List.drop_length,List.take_length,List.append_nil,List.append_nil]
  refine aa (bq () ?_)
  exact .refl
theorem K_ {W:World}{g cap n c:Nat}{P U V R:List It}{i j k:Int}(hn:(P++U++V++R).length=n)(hm:n<=1073741824)(hU:0<U.length)(hV:0<V.length)(hi:i=(P.length:Int))(hj:j=(P.length+U.length:Nat))(hk:k=(P.length+U.length+V.length:Nat)):
  Cn p_ 258 [.slice (some ⟨g,0,none⟩) n c,.int .i64 i,.int .i64 j,.int .i64 k,fn 240] W [js g cap n (P++U++V++R)] (fun _:Unit=> .tuple #[]) (fun _=>[js g cap n (P++V++U++R)]):=by
 subst hi;subst hj;subst hk
 obtain⟨T,hT⟩:∃T,T=P++V++U++R:=⟨_,rfl⟩
 rw[<- hT]
 have hn2:P.length+U.length+V.length+R.length=n:=by rw[<- hn];simp only[List.length_append]
 obtain⟨md,hmd⟩:∃md,md=P.length+U.length:=⟨_,rfl⟩
 rw[<- hmd]
 (refine Shp.cn (Sg.g_ Tryz.call258 Tryz.func258 (an:={loops:=[(2,[10,11])]})) fun F=>?_;simp only[ca_,na_])
 refine dX ?_
 refine dX ?_
 refine bI (fun m x y=>(ex fun q:(List It × List It) × (List It × List It)=>all [pu (m=q.1.2.length+q.2.1.length/\x= .int .i64 (q.1.2.length:Int)/\y= .int .i64 (q.2.1.length:Int)/\(q.1.1++q.1.2++q.2.1++q.2.2).length=n/\0<q.1.2.length/\0<q.2.1.length/\q.1.1.length+q.1.2.length=md/\T=q.1.1++q.2.1++q.1.2++q.2.2),js g cap n (q.1.1++q.1.2++q.2.1++q.2.2)])::F) (U.length+V.length) ?_ ?_
 ·refine .ex ((P,U),(V,R)) (.all ?_)
  refine aq ?_
  refine .pu ⟨rfl,by congr 1;omega,by congr 1;omega,hn,hU,hV,hmd.symm,hT⟩ ?_
  exact .refl
 intro m ds x y
 refine aH .here fun q=>ap .here ?_
 obtain⟨⟨p,u⟩,⟨v,s⟩⟩:=q
 refine aq ?_
 refine aG .here fun hq=>?_
 (try dsimp only at hq)
 obtain⟨hmq,rfl,rfl,hnq,hu,hv,hpu,hTq⟩:=hq
 (try dsimp only)
 have hnq2:p.length+u.length+v.length+s.length=n:=by rw[<- hnq];simp only[List.length_append]
 refine ay bK .nil (fun h=>?_) (fun h=>?_)
 ·refine ab (ay aV .nil (fun h2=>?_) (fun h2=>?_))
  ·-- the first |v| of u against v
   have e:p++u++v++s=p++u.take v.length++u.drop v.length++v++s:=by
    rw[List.append_assoc p (u.take v.length),List.take_append_drop]
   have hl:(u.take v.length).length=v.length:=by rw[List.length_take];omega
   refine ab (dX ?_)
   rw[e]
   refine aB (oE (P:=p) (X:=u.take v.length) (M:=u.drop v.length) (Y:=v) (R:=s) (by rw[<- e];exact hnq) hm (by omega) (by omega) (by simp only[List.length_take,List.length_drop];omega) (by omega)) (.cons .here .nil) fun _=>?_
   refine aq ?_
   refine dX ?_
   refine bo (u.length-v.length+v.length) (by omega) (.ex ((p++v,u.drop v.length),(u.take v.length,s)) (.all ?_))
   refine aq ?_
   refine .pu ⟨by simp only[List.length_take,List.length_drop];omega,by simp only[List.length_drop];congr 1;omega,by rw[hl],by simp only[List.length_append,List.length_take,List.length_drop];omega,by simp only[List.length_drop];omega,by omega,by simp only[List.length_append,List.length_drop];omega,?_⟩ ?_
   ·(try dsimp only)
    rw[hTq]
    simp only[List.append_assoc]
    rw[<- List.append_assoc (u.take v.length),List.take_append_drop]
   ·(try dsimp only)
    exact .refl
  ·have e:p++u++v++s=p++u++v.take (v.length-u.length)++v.drop (v.length-u.length)++s:=by
    rw[List.append_assoc (p++u) (v.take _),List.take_append_drop]
   have hl:(v.drop (v.length-u.length)).length=u.length:=by rw[List.length_drop];omega
   refine aa (dX ?_)
   refine bG ?_
   refine dX ?_
   rw[e]
   refine aB (oE (P:=p) (X:=u) (M:=v.take (v.length-u.length)) (Y:=v.drop (v.length-u.length)) (R:=s) (by rw[<- e];exact hnq) hm (by omega) (by omega) (by simp only[List.length_take];omega) (by omega)) (.cons .here .nil) fun _=>?_
   refine aq ?_
   refine dX ?_
   refine bo (u.length+(v.length-u.length)) (by omega) (.ex ((p,v.drop (v.length-u.length)),(v.take (v.length-u.length),u++s)) (.all ?_))
   refine aq ?_
   refine .pu ⟨by simp only[List.length_take,List.length_drop];omega,by rw[hl],by simp only[List.length_take];congr 1;omega,by simp only[List.length_append,List.length_take,List.length_drop];omega,by omega,by simp only[List.length_take];omega,by omega,?_⟩ ?_
   ·(try dsimp only)
    rw[hTq]
    simp only[List.append_assoc]
    rw[<- List.append_assoc (v.take _),List.take_append_drop]
   ·(try dsimp only)
    rw[show p++v.drop (v.length-u.length)++v.take (v.length-u.length)++(u++s)=p++v.drop (v.length-u.length)++v.take (v.length-u.length)++u++s by simp]
    exact .refl
 ·have huv:u.length=v.length:=by omega
  refine aa (dX ?_)
  have e:p++u++v++s=p++u++[]++v++s:=by simp
  rw[e]
  refine aB (oE (P:=p) (X:=u) (M:=[]) (Y:=v) (R:=s) (by rw[<- e];exact hnq) hm huv (by omega) (by simp;omega) (by omega)) (.cons .here .nil) fun _=>?_
  refine aq ?_
  rw[List.append_nil,<- hTq]
  refine bq () ?_
  exact .refl
theorem nC (n:Nat):((n:Int).fdiv (2^(min ((1:Int)).toNat IntKind.u64.bits)))=((n / 2:Nat):Int):=by
 have:((2:Int)^(min ((1:Int)).toNat IntKind.u64.bits))=2:=by decide
 rw[this]
 rw[Int.fdiv_eq_ediv_of_nonneg _ (by omega)]
 omega
theorem vn {n:Nat}(h:n<9223372036854775808):IntKind.i64.wrap (n:Int)=n:=mx (by omega) (by omega)
theorem kK {a b:Int}:(if a<b then(-1:Int)else if b<a then 1 else 0)<0↔a<b:=by
 constructor
 ·intro h
  split at h
  ·assumption
  ·split at h <;> omega
 ·intro h
  rw[if_pos h];omega
theorem gU {α:Type}{P U V R:List α}{q:Nat}(h:q<U.length)(h2:P.length+q<(P++U++V++R).length):(P++U++V++R)[P.length+q]=U[q]:=by
 simp only[List.append_assoc]
 rw[List.getElem_append_right (by omega)]
 simp only[Nat.add_sub_cancel_left]
 rw[List.getElem_append_left h]
theorem gV {α:Type}{P U V R:List α}{q:Nat}(h:q<V.length)(h2:P.length+U.length+q<(P++U++V++R).length):(P++U++V++R)[P.length+U.length+q]=V[q]:=by
 have e:P++U++V++R=(P++U)++(V++R):=by simp
 simp only[e]
 rw[List.getElem_append_right (by rw[List.length_append];omega)]
 simp only[List.length_append,Nat.add_sub_cancel_left]
 rw[List.getElem_append_left h]
theorem jZ {U:List It}(h:AM It.n U){i j:Nat}(hij:i<=j)(hj:j<U.length):U[i].n<=U[j].n:=by
 rcases Nat.lt_or_ge i j with c|c
 ·exact List.pairwise_iff_getElem.1 h i j (by omega) hj c
 ·have:i=j:=by omega
  subst this;omega
theorem Hy {u:It}{V:List It}{s:Nat}(hs:s<=V.length)(h1:∀k (h:k<V.length),k<s->V[k].n<u.n)(h2:∀k (h:k<V.length),s<=k->¬V[k].n<u.n):dt It.n [u] V=V.take s++u::V.drop s:=by
 have e1:=vm It.n _ [] [u] (V.take s) (V.drop s) rfl (by simp) (fun v hv x hx=>by
  obtain⟨k,hk,rfl⟩:=List.getElem_of_mem hv
  rw[List.length_take]at hk
  rw[List.mem_singleton.1 hx,List.getElem_take]
  exact h1 k (by omega) (by omega))
 have e2:=vm It.n _ [u] [] [] (V.drop s) rfl (fun x hx v hv=>by
  obtain⟨k,hk,rfl⟩:=List.getElem_of_mem hv
  rw[List.length_drop]at hk
  rw[List.mem_singleton.1 hx,List.getElem_drop]
  have:=h2 (s+k) (by omega) (by omega)
  omega) (by simp)
 rw[List.nil_append,List.take_append_drop]at e1
 rw[List.append_nil,List.nil_append,dB]at e2
 rw[e1,e2]
 rfl
theorem EH {v:It}{U:List It}{s:Nat}(hs:s<=U.length)(h1:∀k (h:k<U.length),k<s->¬v.n<U[k].n)(h2:∀k (h:k<U.length),s<=k->v.n<U[k].n):dt It.n U [v]=U.take s++v::U.drop s:=by
 have:=rM It.n (x:=v) (U.take s) (U.drop s) fun x hx=>by
  obtain⟨k,hk,rfl⟩:=List.getElem_of_mem hx
  rw[List.length_take]at hk
  rw[List.getElem_take]
  have:=h1 k (by omega) (by omega)
  omega
 rw[List.take_append_drop]at this
 rw[this,rP It.n _ fun x hx=>by
  obtain⟨k,hk,rfl⟩:=List.getElem_of_mem hx
  rw[List.length_drop]at hk
  rw[List.getElem_drop]
  exact h2 (s+k) (by omega) (by omega)]
theorem xd {W:World}{g cap n c:Nat}(hm:n<=1073741824):∀(N:Nat) {P U V R:List It} {i j k:Int},U.length+V.length<=N->(P++U++V++R).length=n->0<U.length->0<V.length->AM It.n U->AM It.n V->i=(P.length:Int)->j=(P.length+U.length:Nat)->k=(P.length+U.length+V.length:Nat)->
  Cn p_ 257 [.slice (some ⟨g,0,none⟩) n c,.int .i64 i,.int .i64 j,.int .i64 k,fn 240] W [js g cap n (P++U++V++R)] (fun _:Unit=> .tuple #[]) (fun _=>[js g cap n (P++dt It.n U V++R)]):=by
 intro N
 induction N with
 |zero=>intro P U V R i j k h _ hU hV;omega
 |succ N ih=>
 intro P U V R i j k hN hn hU hV uU uV hi hj hk
 subst hi;subst hj;subst hk
 have hn2:P.length+U.length+V.length+R.length=n:=by rw[<- hn];simp only[List.length_append]
 have ldU:∀q (h:q<U.length),bg p_ W [js g cap n (P++U++V++R)] (aI 319 (.pointer (some ⟨g,0+(P.length+q) * 2,none⟩))) (av U[q]):=fun q h=>by
  have:=lL (W:=W) (g:=g) (cap:=cap) hn (j:=P.length+q) (by omega)
  rwa [gU h]at this
 have ldV:∀q (h:q<V.length),bg p_ W [js g cap n (P++U++V++R)] (aI 319 (.pointer (some ⟨g,0+(P.length+U.length+q) * 2,none⟩))) (av V[q]):=fun q h=>by
  have:=lL (W:=W) (g:=g) (cap:=cap) hn (j:=P.length+U.length+q) (by omega)
  rwa [gV h]at this
 (refine Shp.cn (Sg.g_ Tryz.call257 Tryz.func257 (an:={cuts:=[(32,[20,21]),(41,[]),(43,[])],loops:=[(3,[10,11]),(9,[13]),(15,[14,15]),(21,[17]),(33,[20,21])],drs:=[(5,.ofL [(0,1),(1,1),(2,1),(3,1),(4,1),(5,1),(6,1),(7,1),(8,1),(9,0),(10,1)]),(11,.ofL [(0,1),(1,1),(2,2),(3,2),(4,3),(5,1),(6,1),(7,1),(8,1),(9,1),(10,1),(11,1),(12,1),(13,1),(14,1),(15,0),(16,1),(17,0)]),(17,.ofL [(0,1),(1,1),(2,1),(3,1),(4,1),(5,1),(6,1),(7,1),(8,1),(9,0),(10,1),(11,1)]),(23,.ofL [(0,1),(1,1),(2,2),(3,2),(4,3),(5,1),(6,1),(7,1),(8,1),(9,1),(10,1),(11,1),(12,1),(13,1),(14,1),(15,0),(16,1),(17,0)]),(35,.ofL [(0,1),(1,1),(2,1),(3,1),(4,1),(5,1),(6,1),(7,1),(8,1),(9,1),(10,1),(11,0),(12,1),(13,1)])]}) (os:=[(11,[(15,[4])]),(23,[(15,[4])])])) fun F=>?_;simp only[ca_,na_])
 refine dX ?_
 refine o_ aP ?_
 by_cases hU1:U.length=1
 ·rw[dT_ (by omega)]
  refine ab ?_
  obtain⟨u,rfl⟩:=List.length_eq_one_iff.1 hU1
  refine bI (fun m x y=>(ex fun q:Nat × Nat=>pu (m+q.1=q.2/\x= .int .i64 (P.length+1+q.1:Nat)/\y= .int .i64 (P.length+1+q.2:Nat)/\q.2<=V.length/\(∀k (h:k<V.length),k<q.1->V[k].n<u.n)/\(∀k (h:k<V.length),q.2<=k->¬V[k].n<u.n)))::js g cap n (P++[u]++V++R)::F) V.length ?_ ?_
  ·refine .ex (0,V.length) (.pu ⟨rfl,rfl,rfl,Nat.le_refl _,fun k _ h=>absurd h (by omega),fun k h h2=>absurd h2 (by(try dsimp only);omega)⟩ ?_)
   exact .refl
  intro m ds x y
  refine aH .here fun q=>aG .here fun hq=>?_
  obtain⟨s,t⟩:=q
  (try dsimp only at hq)
  obtain⟨hmq,rfl,rfl,htV,hlo,hhi⟩:=hq
  refine ay az .nil (fun h=>?_) (fun h=>?_)
  ·refine ab (bG ?_)
   refine o_ br ?_
   rw[show(((P.length+1+s:Nat):Int)+((P.length+1+t:Nat):Int))=((P.length+1+s+(P.length+1+t):Nat):Int) by push_cast;rfl,d7 (by omega) (by omega)]
   refine o_ (eQ (by omega)) ?_
   rw[nC]
   refine o_ br ?_
   rw[vn (by omega)]
   obtain⟨d,hd⟩:∃d,d=(s+t) / 2:=⟨_,rfl⟩
   rw[show(P.length+1+s+(P.length+1+t)) / 2=P.length+[u].length+d by simp;omega]
   refine bA (t_ (cR (P.length+[u].length+d) rfl (by omega)) ?_)
   refine aT (ldV d (by omega)) (.pick .here .nil) ?_
   refine t_ (cR (P.length+0) rfl (by omega)) ?_
   refine aT (ldU 0 (by simp)) (.pick .here .nil) ?_
   refine aB wR .nil fun _=>?_
   refine aq ?_
   rw[show([u]:List It)[0]=u from rfl]
   refine qy az .nil (fun h2=>?_) (fun h2=>?_)
   ·have h3:=kK.1 h2
    refine ab (bG ?_)
    refine bo (t-(d+1)) (by omega) (.ex (d+1,t) (.pu ⟨by(try dsimp only);omega,by simp;omega,rfl,htV,fun k hk hk2=>?_,hhi⟩ ?_))
    ·have:=jZ uV (i:=k) (j:=d) (by(try dsimp only at hk2);omega) (by omega)
     omega
    ·exact .refl
   ·have h3:¬V[d].n<u.n:=fun c=>h2 (kK.2 c)
    refine aa (bo (d-s) (by omega) (.ex (s,d) (.pu ⟨by(try dsimp only);omega,rfl,by simp,by(try dsimp only);omega,hlo,fun k hk hk2=>?_⟩ ?_)))
    ·have:=jZ uV (i:=d) (j:=k) (by(try dsimp only at hk2);omega) hk
     omega
    ·exact .refl
  ·have hst:s=t:=by omega
   subst hst
   refine aa ?_
   rw[Hy htV hlo hhi]
   refine a_ (fun m y=>(ex fun t:Nat=>all [pu (m+t=s/\y= .int .i64 (P.length+t:Nat)),js g cap n ((P++V.take t)++u::(V.drop t++R))])::F) s ?_ ?_
   ·refine .ex 0 (.all ?_)
    refine aq ?_
    refine .pu ⟨by omega,rfl⟩ ?_
    rw[show(P++V.take 0)++u::(V.drop 0++R)=P++[u]++V++R by simp]
    exact .refl
   intro m2 ds2 y2
   refine aH .here fun t=>ap .here ?_
   refine aq ?_
   refine aG .here fun ht=>?_
   obtain⟨hmt,rfl⟩:=ht
   refine dX ?_
   refine ay az .nil (fun h3=>?_) (fun h3=>?_)
   ·have hts:t<s:=by omega
    have htV2:t<V.length:=by omega
    have hD:(P++V.take t)++u::(V.drop t++R)=(P++V.take t)++u::([]++V[t]::(V.drop (t+1)++R)):=by
     rw[List.drop_eq_getElem_cons htV2];rfl
    have hD2:(P++V.take (t+1))++u::(V.drop (t+1)++R)=(P++V.take t)++V[t]::([]++u::(V.drop (t+1)++R)):=by
     rw[List.take_succ_eq_append_getElem htV2];simp only[List.append_assoc,ca_,na_]
    have hl1:(P++V.take t).length=P.length+t:=by rw[List.length_append,List.length_take];omega
    rw[hD]
    have cL:((P++V.take t)++u::([]++V[t]::(V.drop (t+1)++R))).length=n:=by
     simp only[List.length_append,List.length_take,List.length_drop,List.length_cons,List.length_nil]at hn2 ⊢;omega
    obtain⟨s1,s2,s3,s4⟩:=AO (p:=P++V.take t) (m:=[]) (q:=V.drop (t+1)++R) (x:=u) (y:=V[t]) (i:=P.length+t) (j:=P.length+t+1) (by omega) (by rw[hl1];rfl) (by omega) (by omega)
    obtain⟨D,hDe⟩:∃D,D=(P++V.take t)++u::([]++V[t]::(V.drop (t+1)++R)):=⟨_,rfl⟩
    simp only[<- hDe]at s1 s2 s3 s4 cL ⊢
    have ld1:=lL (W:=W) (g:=g) (cap:=cap) cL (j:=P.length+t+1) (by omega)
    have ld0:=lL (W:=W) (g:=g) (cap:=cap) cL (j:=P.length+t) (by omega)
    rw[s2]at ld1
    rw[s1]at ld0
    refine ab (bA (bh (bU (by omega) (by omega)) .nil ?_))
    refine t_ (bU (by omega) (by omega)) ?_
    refine t_ (cR (P.length+t+1) (by omega) (by omega)) ?_
    refine aT ld1 (.pick .here .nil) ?_
    refine t_ (cR (P.length+t) (by omega) (by omega)) ?_
    refine aT ld0 (.pick .here .nil) ?_
    refine t_ (cR (P.length+t) (by omega) (by omega)) ?_
    refine kJ .here (by omega) ?_
    refine bZ aw ?_
    refine t_ (cR (P.length+t+1) (by omega) (by omega)) ?_
    refine kJ .here (by rw[List.length_set];omega) ?_
    rw[s3]
    refine bG ?_
    refine aK (m2-1) (by omega) (.ex (t+1) (.all ?_))
    refine aq ?_
    refine .pu ⟨by omega,by norm_cast⟩ ?_
    rw[hD2]
    exact .refl
   ·have hts:t=s:=by omega
    subst hts
    refine aa ?_
    rw[show P++(V.take t++u::V.drop t)++R=(P++V.take t)++u::(V.drop t++R) by simp]
    refine bq () ?_
    exact .refl
 rw[dF_ (by omega)]
 refine aa (dX ?_)
 refine o_ aP ?_
 by_cases hV1:V.length=1
 ·rw[dT_ (by omega)]
  refine ab ?_
  obtain⟨v,rfl⟩:=List.length_eq_one_iff.1 hV1
  refine bI (fun m x y=>(ex fun q:Nat × Nat=>pu (m+q.1=q.2/\x= .int .i64 (P.length+q.1:Nat)/\y= .int .i64 (P.length+q.2:Nat)/\q.2<=U.length/\(∀k (h:k<U.length),k<q.1->¬v.n<U[k].n)/\(∀k (h:k<U.length),q.2<=k->v.n<U[k].n)))::js g cap n (P++U++[v]++R)::F) U.length ?_ ?_
  ·refine .ex (0,U.length) (.pu ⟨rfl,rfl,rfl,Nat.le_refl _,fun k _ h=>absurd h (by omega),fun k h h2=>absurd h2 (by(try dsimp only);omega)⟩ ?_)
   exact .refl
  intro m ds x y
  refine aH .here fun q=>aG .here fun hq=>?_
  obtain⟨s,t⟩:=q
  (try dsimp only at hq)
  obtain⟨hmq,rfl,rfl,htU,hlo,hhi⟩:=hq
  refine ay az .nil (fun h=>?_) (fun h=>?_)
  ·refine ab (bG ?_)
   refine o_ br ?_
   rw[show(((P.length+s:Nat):Int)+((P.length+t:Nat):Int))=((P.length+s+(P.length+t):Nat):Int) by push_cast;rfl,d7 (by omega) (by omega)]
   refine o_ (eQ (by omega)) ?_
   rw[nC]
   refine o_ br ?_
   rw[vn (by omega)]
   obtain⟨d,hd⟩:∃d,d=(s+t) / 2:=⟨_,rfl⟩
   rw[show(P.length+s+(P.length+t)) / 2=P.length+d by omega]
   refine bA (t_ (cR (P.length+U.length+0) (by omega) (by omega)) ?_)
   refine aT (ldV 0 (by simp)) (.pick .here .nil) ?_
   refine t_ (cR (P.length+d) rfl (by omega)) ?_
   refine aT (ldU d (by omega)) (.pick .here .nil) ?_
   refine aB wR .nil fun _=>?_
   refine aq ?_
   rw[show([v]:List It)[0]=v from rfl]
   refine t_ az (t_ fU ?_)
   by_cases h3:v.n<U[d].n
   ·rw[dT_ (kK.2 h3)]
    refine aa (bo (d-s) (by omega) (.ex (s,d) (.pu ⟨by(try dsimp only);omega,rfl,rfl,by(try dsimp only);omega,hlo,fun k hk hk2=>?_⟩ ?_)))
    ·have:=jZ uU (i:=d) (j:=k) (by(try dsimp only at hk2);omega) hk
     omega
    ·exact .refl
   ·rw[dF_ (fun c=>h3 (kK.1 c))]
    refine ab (bG ?_)
    refine bo (t-(d+1)) (by omega) (.ex (d+1,t) (.pu ⟨by(try dsimp only);omega,by norm_cast,rfl,htU,fun k hk hk2=>?_,hhi⟩ ?_))
    ·have:=jZ uU (i:=k) (j:=d) (by(try dsimp only at hk2);omega) (by omega)
     omega
    ·exact .refl
  ·have hst:s=t:=by omega
   subst hst
   refine aa ?_
   rw[EH htU hlo hhi]
   refine a_ (fun m y=>(ex fun t:Nat=>all [pu (m+s=t/\t<=U.length/\y= .int .i64 (P.length+t:Nat)),js g cap n ((P++U.take t)++v::(U.drop t++R))])::F) (U.length-s) ?_ ?_
   ·refine .ex U.length (.all ?_)
    refine aq ?_
    refine .pu ⟨by omega,Nat.le_refl _,rfl⟩ ?_
    rw[show(P++U.take U.length)++v::(U.drop U.length++R)=P++U++[v]++R by simp]
    exact .refl
   intro m2 ds2 y2
   refine aH .here fun t=>ap .here ?_
   refine aq ?_
   refine aG .here fun ht=>?_
   obtain⟨hmt,htl,rfl⟩:=ht
   refine ay aV .nil (fun h3=>?_) (fun h3=>?_)
   ·obtain⟨r,rfl⟩:∃r,t=r+1:=⟨t-1,by omega⟩
    have hrU:r<U.length:=by omega
    have hD:(P++U.take (r+1))++v::(U.drop (r+1)++R)=(P++U.take r)++U[r]::([]++v::(U.drop (r+1)++R)):=by
     rw[List.take_succ_eq_append_getElem hrU];simp only[List.append_assoc,ca_,na_]
    have hD2:(P++U.take r)++v::(U.drop r++R)=(P++U.take r)++v::([]++U[r]::(U.drop (r+1)++R)):=by
     rw[List.drop_eq_getElem_cons hrU];rfl
    have hl1:(P++U.take r).length=P.length+r:=by rw[List.length_append,List.length_take];omega
    rw[hD]
    have cL:((P++U.take r)++U[r]::([]++v::(U.drop (r+1)++R))).length=n:=by
     simp only[List.length_append,List.length_take,List.length_drop,List.length_cons,List.length_nil]at hn2 ⊢;omega
    obtain⟨s1,s2,s3,s4⟩:=AO (p:=P++U.take r) (m:=[]) (q:=U.drop (r+1)++R) (x:=U[r]) (y:=v) (i:=P.length+r) (j:=P.length+r+1) (by omega) (by rw[hl1];rfl) (by omega) (by omega)
    obtain⟨D,hDe⟩:∃D,D=(P++U.take r)++U[r]::([]++v::(U.drop (r+1)++R)):=⟨_,rfl⟩
    simp only[<- hDe]at s1 s2 s3 s4 cL ⊢
    have ld1:=lL (W:=W) (g:=g) (cap:=cap) cL (j:=P.length+r+1) (by omega)
    have ld0:=lL (W:=W) (g:=g) (cap:=cap) cL (j:=P.length+r) (by omega)
    rw[s2]at ld1
    rw[s1]at ld0
    refine ab (bA (bh (dv (by omega) (by omega)) .nil ?_))
    refine t_ (dv (by omega) (by omega)) ?_
    refine t_ (cR (P.length+r) (by omega) (by omega)) ?_
    refine aT ld0 (.pick .here .nil) ?_
    refine t_ (cR (P.length+r+1) (by omega) (by omega)) ?_
    refine aT ld1 (.pick .here .nil) ?_
    refine t_ (cR (P.length+r+1) (by omega) (by omega)) ?_
    refine kJ .here (by omega) ?_
    refine bZ aw ?_
    refine t_ (cR (P.length+r) (by omega) (by omega)) ?_
    refine kJ .here (by rw[List.length_set];omega) ?_
    rw[s4]
    refine dX ?_
    refine aK (m2-1) (by omega) (.ex r (.all ?_))
    refine aq ?_
    refine .pu ⟨by omega,by omega,by congr 1;omega⟩ ?_
    rw[hD2]
    exact .refl
   ·have hts:t=s:=by omega
    subst hts
    refine aa ?_
    rw[show P++(U.take t++v::U.drop t)++R=(P++U.take t)++v::(U.drop t++R) by simp]
    refine bq () ?_
    exact .refl
 rw[dF_ (by omega)]
 refine aa ?_
 obtain⟨K,hK⟩:∃K,K=(U.length+V.length) / 2:=⟨_,rfl⟩
 refine bG ?_
 refine o_ br ?_
 rw[show((P.length:Int)+((P.length+U.length+V.length:Nat):Int))=((P.length+(P.length+U.length+V.length):Nat):Int) by push_cast;rfl,d7 (by omega) (by omega)]
 refine o_ (eQ (by omega)) ?_
 rw[nC]
 refine o_ br ?_
 rw[vn (by omega),show(P.length+(P.length+U.length+V.length)) / 2=P.length+K by omega]
 refine bG ?_
 refine ja (fun x y=>pu (x= .int .i64 (P.length+(K-V.length):Nat)/\y= .int .i64 (P.length+min K U.length:Nat))::js g cap n (P++U++V++R)::F) ?_ ?_
 rotate_left
 ·refine ay aV .nil (fun h=>?_) (fun h=>?_)
  ·refine ab (dX ?_)
   refine aD (.pu ⟨by congr 1;omega,by congr 1;omega⟩ ?_)
   exact .refl
  ·refine aa (aD (.pu ⟨by congr 1;omega,by congr 1;omega⟩ ?_))
   exact .refl
 intro ds z1 z2
 refine aG .here fun hz=>?_
 obtain⟨rfl,rfl⟩:=hz
 refine dX ?_
 refine bI (fun m x y=>(ex fun q:Nat × Nat=>pu (m+q.1=q.2/\x= .int .i64 (P.length+q.1:Nat)/\y= .int .i64 (P.length+q.2:Nat)/\K-V.length<=q.1/\q.2<=min K U.length/\(∀k (h:k<U.length) (h':K-1-k<V.length),K-V.length<=k->k<q.1->¬V[K-1-k].n<U[k].n)/\(∀k (h:k<U.length) (h':K-1-k<V.length),q.2<=k->k<min K U.length->V[K-1-k].n<U[k].n)))::js g cap n (P++U++V++R)::F) (min K U.length-(K-V.length)) ?_ ?_
 ·refine .ex (K-V.length,min K U.length) (.pu ⟨by(try dsimp only);omega,rfl,rfl,Nat.le_refl _,Nat.le_refl _,fun k _ _ h1 h2=>absurd h2 (by(try dsimp only);omega),fun k _ _ h1 h2=>absurd h2 (by(try dsimp only at h1);omega)⟩ ?_)
  exact .refl
 intro m ds2 x y
 refine aH .here fun q=>aG .here fun hq=>?_
 obtain⟨s,t⟩:=q
 (try dsimp only at hq)
 obtain⟨hmq,rfl,rfl,hs0,ht0,hlo,hhi⟩:=hq
 refine ay az .nil (fun h=>?_) (fun h=>?_)
 ·refine ab (bG ?_)
  refine o_ br ?_
  rw[show(((P.length+s:Nat):Int)+((P.length+t:Nat):Int))=((P.length+s+(P.length+t):Nat):Int) by push_cast;rfl,d7 (by omega) (by omega)]
  refine o_ (eQ (by omega)) ?_
  rw[nC]
  refine o_ br ?_
  rw[vn (by omega)]
  obtain⟨d,hd⟩:∃d,d=(s+t) / 2:=⟨_,rfl⟩
  rw[show(P.length+s+(P.length+t)) / 2=P.length+d by omega]
  have hdU:d<U.length:=by omega
  have hdV:K-1-d<V.length:=by omega
  refine bA (t_ (dv (by omega) (by omega)) ?_)
  refine t_ (cR (P.length+U.length+(K-1-d)) (by omega) (by omega)) ?_
  refine aT (ldV (K-1-d) hdV) (.pick .here .nil) ?_
  refine t_ (cR (P.length+d) rfl (by omega)) ?_
  refine aT (ldU d hdU) (.pick .here .nil) ?_
  refine aB wR .nil fun _=>?_
  refine aq ?_
  refine t_ az (t_ fU ?_)
  by_cases h3:V[K-1-d].n<U[d].n
  ·rw[dT_ (kK.2 h3)]
   refine aa (bo (d-s) (by omega) (.ex (s,d) (.pu ⟨by(try dsimp only);omega,rfl,rfl,hs0,by(try dsimp only);omega,hlo,fun k hk hk' hk2 hk3=>?_⟩ ?_)))
   ·(try dsimp only at hk2)
    have a1:=jZ uU (i:=d) (j:=k) (by omega) hk
    have a2:=jZ uV (i:=K-1-k) (j:=K-1-d) (by omega) hdV
    omega
   ·exact .refl
  ·rw[dF_ (fun c=>h3 (kK.1 c))]
   refine ab (bG ?_)
   refine bo (t-(d+1)) (by omega) (.ex (d+1,t) (.pu ⟨by(try dsimp only);omega,by norm_cast,rfl,by(try dsimp only);omega,ht0,fun k hk hk' hk2 hk3=>?_,hhi⟩ ?_))
   ·(try dsimp only at hk3)
    have a1:=jZ uU (i:=k) (j:=d) (by omega) hdU
    have a2:=jZ uV (i:=K-1-d) (j:=K-1-k) (by omega) hk'
    omega
   ·exact .refl
 ·have hst:s=t:=by omega
  subst hst
  refine aa ?_
  obtain⟨U1,hU1'⟩:∃U1,U1=U.take s:=⟨_,rfl⟩
  obtain⟨U2,hU2'⟩:∃U2,U2=U.drop s:=⟨_,rfl⟩
  obtain⟨V1,hV1'⟩:∃V1,V1=V.take (K-s):=⟨_,rfl⟩
  obtain⟨V2,hV2'⟩:∃V2,V2=V.drop (K-s):=⟨_,rfl⟩
  have eU:U1++U2=U:=by rw[hU1',hU2',List.take_append_drop]
  have eV:V1++V2=V:=by rw[hV1',hV2',List.take_append_drop]
  have lU1:U1.length=s:=by rw[hU1',List.length_take];omega
  have lU2:U2.length=U.length-s:=by rw[hU2',List.length_drop]
  have lV1:V1.length=K-s:=by rw[hV1',List.length_take];omega
  have lV2:V2.length=V.length-(K-s):=by rw[hV2',List.length_drop]
  have up1:AM It.n U1/\AM It.n U2:=by
   have:=uU
   rw[<- eU]at this
   exact⟨(List.pairwise_append.1 this).1,(List.pairwise_append.1 this).2.1⟩
  have up2:AM It.n V1/\AM It.n V2:=by
   have:=uV
   rw[<- eV]at this
   exact⟨(List.pairwise_append.1 this).1,(List.pairwise_append.1 this).2.1⟩
  have f1:∀u∈U1,∀v∈V2,u.n<=v.n:=fun u hu v hv=>by
   obtain⟨a,ha,rfl⟩:=List.getElem_of_mem hu
   obtain⟨b,hb,rfl⟩:=List.getElem_of_mem hv
   simp only[hU1',hV2',List.length_take,List.length_drop]at ha hb
   simp only[hU1',hV2',List.getElem_take,List.getElem_drop]
   have h4:=hlo (s-1) (by omega) (by omega) (by omega) (by omega)
   have a1:=jZ uU (i:=a) (j:=s-1) (by omega) (by omega)
   have a2:=jZ uV (i:=K-1-(s-1)) (j:=K-s+b) (by omega) (by omega)
   omega
  have f2:∀v∈V1,∀u∈U2,v.n<u.n:=fun v hv u hu=>by
   obtain⟨a,ha,rfl⟩:=List.getElem_of_mem hv
   obtain⟨b,hb,rfl⟩:=List.getElem_of_mem hu
   simp only[hV1',hU2',List.length_take,List.length_drop]at ha hb
   simp only[hV1',hU2',List.getElem_take,List.getElem_drop]
   have h4:=hhi s (by omega) (by omega) (Nat.le_refl _) (by omega)
   have a1:=jZ uV (i:=a) (j:=K-1-s) (by omega) (by omega)
   have a2:=jZ uU (i:=s) (j:=s+b) (by omega) (by omega)
   omega
  have hM:dt It.n U V=dt It.n U1 V1++dt It.n U2 V2:=by
   rw[<- eU,<- eV]
   exact vm It.n _ U1 U2 V1 V2 rfl f1 f2
  have lM:(dt It.n U1 V1).length=K:=by
   rw[w_,lU1,lV1];omega
  rw[hM]
  have eD:P++U++V++R=(P++U1)++U2++V1++(V2++R):=by
   rw[<- eU,<- eV];simp
  rw[eD]
  rw[eD]at hn
  refine dX ?_
  refine cP (js g cap n (P++U1++V1++(U2++V2++R))::F) ?_ ?_
  rotate_left
  ·have out:(U2.length=0\/V1.length=0)->aZ W (js g cap n ((P++U1)++U2++V1++(V2++R))::F) (fun w=>sat W (js g cap n (P++U1++V1++(U2++V2++R))::F) w):=by
    intro h
    have e:(P++U1)++U2++V1++(V2++R)=P++U1++V1++(U2++V2++R):=by
     rcases h with h|h
     ·rw[List.eq_nil_of_length_eq_zero h];simp
     ·rw[List.eq_nil_of_length_eq_zero h];simp
    rw[e]
    exact aD .refl
   refine ay az .nil (fun h1=>?_) (fun h1=>?_)
   ·refine ae (ae (ae (ay az .nil (fun h2=>?_) (fun h2=>?_))))
    ·refine o_ ah (ab (aB (K_ (P:=P++U1) (U:=U2) (V:=V1) (R:=V2++R) hn hm (by omega) (by omega) (by rw[List.length_append];omega) (by rw[List.length_append];omega) (by rw[List.length_append];omega)) (.cons .here .nil) fun _=>?_))
     refine aq ?_
     rw[show P++U1++V1++U2++(V2++R)=P++U1++V1++(U2++V2++R) by simp]
     exact aD .refl
    ·exact o_ ah (aa (out (.inr (by omega))))
   ·(refine af ?_);refine af ?_;refine af ?_;refine o_ ag ?_;refine aa ?_
    exact out (.inl (by omega))
  intro ds3
  have hn3:(P++U1++V1++(U2++V2++R)).length=n:=by rw[<- hn];simp only[List.length_append];omega
  refine cP (js g cap n (P++dt It.n U1 V1++(U2++V2++R))::F) ?_ ?_
  rotate_left
  ·have out:(U1.length=0\/V1.length=0)->aZ W (js g cap n (P++U1++V1++(U2++V2++R))::F) (fun w=>sat W (js g cap n (P++dt It.n U1 V1++(U2++V2++R))::F) w):=by
    intro h
    have e:P++U1++V1++(U2++V2++R)=P++dt It.n U1 V1++(U2++V2++R):=by
     rcases h with h|h
     ·rw[List.eq_nil_of_length_eq_zero h];simp[dt]
     ·rw[List.eq_nil_of_length_eq_zero h,dB];simp
    rw[e]
    exact aD .refl
   refine ay az .nil (fun h1=>?_) (fun h1=>?_)
   ·refine ae (ae (ae (ay az .nil (fun h2=>?_) (fun h2=>?_))))
    ·refine o_ ah (ab (aB (ih (P:=P) (U:=U1) (V:=V1) (R:=U2++V2++R) (by omega) hn3 (by omega) (by omega) up1.1 up2.1 rfl (by omega) (by omega)) (.cons .here .nil) fun _=>?_))
     refine aq ?_
     exact aD .refl
    ·exact o_ ah (aa (out (.inr (by omega))))
   ·(refine af ?_);refine af ?_;refine af ?_;refine o_ ag ?_;refine aa ?_
    exact out (.inl (by omega))
  intro ds4
  have e4:P++dt It.n U1 V1++(U2++V2++R)=(P++dt It.n U1 V1)++U2++V2++R:=by simp
  rw[e4]
  have hn4:((P++dt It.n U1 V1)++U2++V2++R).length=n:=by
   simp only[List.length_append]at hn3 ⊢
   omega
  have e5:P++(dt It.n U1 V1++dt It.n U2 V2)++R=(P++dt It.n U1 V1)++dt It.n U2 V2++R:=by simp
  rw[e5]
  have out:(U2.length=0\/V2.length=0)->(P++dt It.n U1 V1)++U2++V2++R=(P++dt It.n U1 V1)++dt It.n U2 V2++R:=by
   intro h
   rcases h with h|h
   ·rw[List.eq_nil_of_length_eq_zero h];simp[dt]
   ·rw[List.eq_nil_of_length_eq_zero h,dB];simp
  refine ay az .nil (fun h1=>?_) (fun h1=>?_)
  ·refine ae (ae (ae (ay az .nil (fun h2=>?_) (fun h2=>?_))))
   ·refine o_ ah (ab (aB (ih (P:=P++dt It.n U1 V1) (U:=U2) (V:=V2) (R:=R) (by omega) hn4 (by omega) (by omega) up1.2 up2.2 (by rw[List.length_append];omega) (by rw[List.length_append];omega) (by rw[List.length_append];omega)) (.cons .here .nil) fun _=>?_))
    refine aq ?_
    refine bq () ?_
    exact .refl
   ·refine o_ ah (aa ?_)
    rw[out (.inr (by omega))]
    refine bq () ?_
    exact .refl
  ·(refine af ?_);refine af ?_;refine af ?_;refine o_ ag ?_;refine aa ?_
   rw[out (.inl (by omega))]
   refine bq () ?_
   exact .refl
theorem rS {W:World}{g cap n c:Nat}{P X R:List It}{i j:Int}(hn:(P++X++R).length=n)(hm:n<=1073741824)(hi:i=(P.length:Int))(hj:j=(P.length+X.length:Nat)):
  Cn p_ 256 [.slice (some ⟨g,0,none⟩) n c,.int .i64 i,.int .i64 j,fn 240] W [js g cap n (P++X++R)] (fun _:Unit=> .tuple #[]) (fun _=>[js g cap n (P++bH It.n X++R)]):=by
 subst hi;subst hj
 have hn2:P.length+X.length+R.length=n:=by rw[<- hn];simp only[List.length_append]
 (refine Shp.cn (Sg.g_ Tryz.call256 Tryz.func256 (an:={loops:=[(1,[8]),(4,[9])],drs:=[(4,.ofL [(0,1),(1,1),(2,1),(3,1),(4,1),(5,1),(6,1),(7,1),(8,1),(9,1),(10,1),(11,1),(12,1),(13,1),(14,0),(15,1),(16,1)]),(6,.ofL [(0,1),(1,1),(2,2),(3,2),(4,3),(5,1),(6,1),(7,1),(8,1),(9,1),(10,1),(11,1),(12,1),(13,1),(14,1),(15,0),(16,1),(17,0)])]}) (os:=[(6,[(15,[4])])])) fun F=>?_;simp only[ca_,na_])
 refine bG ?_
 refine a_ (fun m y=>(ex fun t:Nat=>all [pu (m+t=X.length+1/\1<=t/\y= .int .i64 (P.length+t:Nat)),js g cap n (P++(bH It.n (X.take t)++X.drop t)++R)])::F) X.length ?_ ?_
 ·refine .ex 1 (.all ?_)
  refine aq ?_
  refine .pu ⟨by omega,Nat.le_refl _,by norm_cast⟩ ?_
  have e:bH It.n (X.take 1)++X.drop 1=X:=by
   cases X with
   |nil=>rfl
   |cons x X=>rfl
  rw[e]
  exact .refl
 intro m ds y
 refine aH .here fun t=>ap .here ?_
 refine aq ?_
 refine aG .here fun ht=>?_
 obtain⟨hmt,ht1,rfl⟩:=ht
 refine ay az .nil (fun h=>?_) (fun h=>?_)
 ·have htX:t<X.length:=by omega
  obtain⟨acc,hacc⟩:∃acc,acc=bH It.n (X.take t):=⟨_,rfl⟩
  have hal:acc.length=t:=by rw[hacc,cJ,List.length_take];omega
  have hnext:bH It.n (X.take (t+1))=j_ It.n acc X[t]:=by rw[List.take_succ_eq_append_getElem htX,gA,hacc]
  rw[<- hacc]
  refine ab (a_ (fun m y=>(ex fun q:Nat=>all [pu (m=q/\q<=t/\y= .int .i64 (P.length+q:Nat)/\j_ It.n acc X[t]=d8 It.n acc X[t] q),js g cap n ((P++acc.take q)++X[t]::(acc.drop q++X.drop (t+1)++R))])::F) t ?_ ?_)
  ·refine .ex t (.all ?_)
   refine aq ?_
   refine .pu ⟨rfl,Nat.le_refl _,rfl,by unfold j_;rw[hal]⟩ ?_
   have e:P++(acc++X.drop t)++R=(P++acc.take t)++X[t]::(acc.drop t++X.drop (t+1)++R):=by
    rw[List.take_of_length_le (by omega),List.drop_eq_nil_of_le (show acc.length<=t by omega),List.drop_eq_getElem_cons htX]
    simp only[List.append_assoc,ca_,na_]
   rw[e]
   exact .refl
  intro m2 ds2 y2
  refine aH .here fun q=>ap .here ?_
  refine aq ?_
  refine aG .here fun hq=>?_
  obtain⟨rfl,hqt,rfl,hins⟩:=hq
  have done:j_ It.n acc X[t]=acc.take m2++X[t]::acc.drop m2->aZ W (js g cap n ((P++acc.take m2)++X[t]::(acc.drop m2++X.drop (t+1)++R))::F) (iD (fun m y w=>sat W ((ex fun t:Nat=>all [pu (m+t=X.length+1/\1<=t/\y= .int .i64 (P.length+t:Nat)),js g cap n (P++(bH It.n (X.take t)++X.drop t)++R)])::F) w) m (.int .i64 (((P.length+t:Nat):Int)+1))):=by
   intro he
   refine aK (m-1) (by omega) (.ex (t+1) (.all ?_))
   refine aq ?_
   refine .pu ⟨by omega,by omega,by norm_cast⟩ ?_
   have e:(P++acc.take m2)++X[t]::(acc.drop m2++X.drop (t+1)++R)=P++(bH It.n (X.take (t+1))++X.drop (t+1))++R:=by
    rw[hnext,he]
    simp only[List.append_assoc,List.cons_append]
   rw[e]
   exact .refl
  refine bA (qy aV .nil (fun h=>?_) (fun h=>?_))
  ·obtain⟨r,rfl⟩:∃r,m2=r+1:=⟨m2-1,by omega⟩
   have hra:r<acc.length:=by omega
   have hD:(P++acc.take (r+1))++X[t]::(acc.drop (r+1)++X.drop (t+1)++R)=(P++acc.take r)++acc[r]::([]++X[t]::(acc.drop (r+1)++X.drop (t+1)++R)):=by
    rw[List.take_succ_eq_append_getElem hra];simp only[List.append_assoc,ca_,na_]
   have hD2:(P++acc.take r)++X[t]::(acc.drop r++X.drop (t+1)++R)=(P++acc.take r)++X[t]::([]++acc[r]::(acc.drop (r+1)++X.drop (t+1)++R)):=by
    rw[List.drop_eq_getElem_cons hra];simp only[ca_,na_]
   have hl1:(P++acc.take r).length=P.length+r:=by rw[List.length_append,List.length_take];omega
   rw[hD]at done ⊢
   have cL:((P++acc.take r)++acc[r]::([]++X[t]::(acc.drop (r+1)++X.drop (t+1)++R))).length=n:=by
    simp only[List.length_append,List.length_take,List.length_drop,List.length_cons,List.length_nil];omega
   obtain⟨s1,s2,s3,s4⟩:=AO (p:=P++acc.take r) (m:=[]) (q:=acc.drop (r+1)++X.drop (t+1)++R) (x:=acc[r]) (y:=X[t]) (i:=P.length+r) (j:=P.length+r+1) (by omega) (by rw[hl1];rfl) (by omega) (by omega)
   obtain⟨D,hDe⟩:∃D,D=(P++acc.take r)++acc[r]::([]++X[t]::(acc.drop (r+1)++X.drop (t+1)++R)):=⟨_,rfl⟩
   simp only[<- hDe]at s1 s2 s3 s4 cL done ⊢
   have ld1:=lL (W:=W) (g:=g) (cap:=cap) cL (j:=P.length+r+1) (by omega)
   have ld0:=lL (W:=W) (g:=g) (cap:=cap) cL (j:=P.length+r) (by omega)
   rw[s2]at ld1
   rw[s1]at ld0
   refine ae (ae (ae (ae (t_ (cR (P.length+r+1) (by omega) (by omega)) ?_))))
   refine ae (aT ld1 (.pick .here .nil) ?_)
   refine ae (ae (ae (t_ (dv (by omega) (by omega)) ?_)))
   refine ae (t_ (cR (P.length+r) (by omega) (by omega)) ?_)
   refine ae (aT ld0 (.pick .here .nil) ?_)
   refine ae (aB wR .nil fun _=>?_)
   refine aq ?_
   refine ae (t_ az (t_ ah ?_))
   by_cases h2:X[t].n<acc[r].n
   ·rw[dT_ (kK.2 h2)]
    refine ab (bA (bh (dv (by omega) (by omega)) .nil ?_))
    refine t_ (dv (by omega) (by omega)) ?_
    refine t_ (cR (P.length+r) (by omega) (by omega)) ?_
    refine aT ld0 (.pick .here .nil) ?_
    refine t_ (cR (P.length+r+1) (by omega) (by omega)) ?_
    refine aT ld1 (.pick .here .nil) ?_
    refine t_ (cR (P.length+r+1) (by omega) (by omega)) ?_
    refine kJ .here (by omega) ?_
    refine bZ aw ?_
    refine t_ (cR (P.length+r) (by omega) (by omega)) ?_
    refine kJ .here (by rw[List.length_set];omega) ?_
    rw[s4]
    refine dX ?_
    refine aK r (by omega) (.ex r (.all ?_))
    refine aq ?_
    refine .pu ⟨rfl,by omega,by congr 1;omega,?_⟩ ?_
    ·rw[hins]
     conv=>lhs;unfold d8
     rw[List.getElem?_eq_getElem hra]
     simp only
     rw[if_pos h2]
    ·rw[hD2]
     exact .refl
   ·rw[dF_ (fun c=>h2 (kK.1 c))]
    refine aa (bG ?_)
    refine done ?_
    rw[hins]
    conv=>lhs;unfold d8
    rw[List.getElem?_eq_getElem hra]
    simp only
    rw[if_neg h2]
  ·have:m2=0:=by omega
   subst this
   refine af (af (af (af (af (af (af (af (af (af (af (af (t_ ag (aa (bG ?_))))))))))))))
   exact done (by rw[hins];rfl)
 ·have hte:X.length<=t:=by omega
  rw[List.take_of_length_le hte,List.drop_eq_nil_of_le hte,List.append_nil]
  refine aa (bq () ?_)
  exact .refl
theorem La {W:World}{g cap n c:Nat}{X:List It}(hn:X.length=n)(hm:n<=268435456):
  Cn p_ 251 [.slice (some ⟨g,0,none⟩) n c,.int .i64 (n:Int),fn 240] W [js g cap n X] (fun _:Unit=> .tuple #[]) (fun _=>[js g cap n (bH It.n X)]):=by
 have cL:∀s,0<s->∀xs:List It,(jr It.n s xs).length=xs.length:=fun s hs xs=>EG It.n s hs (cJ It.n) _ xs (Nat.le_refl _)
 (refine Shp.cn (Sg.g_ Tryz.call251 Tryz.func251 (an:={loops:=[(2,[7,8]),(7,[6]),(9,[7,8])]})) fun F=>?_;simp only[ca_,na_])
 refine bI (fun m x y=>(ex fun q:List It × List It=>all [pu (m=q.2.length/\x= .int .i64 (q.1.length:Int)/\y= .int .i64 (q.1.length+20:Nat)/\q.1.length+q.2.length=n/\jr It.n 20 X=q.1++jr It.n 20 q.2),js g cap n (q.1++q.2)])::F) n ?_ ?_
 ·refine .ex ([],X) (.all ?_)
  refine aq ?_
  refine .pu ⟨hn.symm,rfl,rfl,by simp;omega,rfl⟩ ?_
  exact .refl
 intro m ds x y
 refine aH .here fun q=>ap .here ?_
 obtain⟨G,Y⟩:=q
 refine aq ?_
 refine aG .here fun hq=>?_
 (try dsimp only at hq)
 (try dsimp only)
 obtain⟨hmq,rfl,rfl,hGY,hS⟩:=hq
 refine ay cZ .nil (fun h=>?_) (fun h=>?_)
 ·have h20:20<=Y.length:=by omega
  refine ab ?_
  have e:G++Y=G++Y.take 20++Y.drop 20:=by rw[List.append_assoc,List.take_append_drop]
  rw[e]
  refine aB (rS (P:=G) (X:=Y.take 20) (R:=Y.drop 20) (by rw[<- e,List.length_append];omega) (by omega) rfl (by rw[List.length_take,Nat.min_eq_left h20])) (.cons .here .nil) fun _=>?_
  refine aq ?_
  refine bG ?_
  have hl:(bH It.n (Y.take 20)).length=20:=by rw[cJ,List.length_take];omega
  rcases Nat.lt_or_ge 20 Y.length with c|c
  ·refine bo (Y.length-20) (by omega) (.ex (G++bH It.n (Y.take 20),Y.drop 20) (.all ?_))
   refine aq ?_
   refine .pu ⟨by simp,by rw[List.length_append,hl],by(try dsimp only);rw[List.length_append,hl];norm_cast,by(try dsimp only);rw[List.length_append,hl,List.length_drop];omega,?_⟩ ?_
   ·rw[hS,iv It.n (by decide) c,List.append_assoc]
   ·exact .refl
  ·-- the last Jq is whole: nothing is left
   have hY:Y.take 20=Y:=List.take_of_length_le c
   have hY2:Y.drop 20=[]:=List.drop_eq_nil_of_le c
   refine bo 0 (by omega) (.ex (G++bH It.n (Y.take 20),[]) (.all ?_))
   refine aq ?_
   refine .pu ⟨rfl,by rw[List.length_append,hl],by(try dsimp only);rw[List.length_append,hl];norm_cast,by(try dsimp only);rw[List.length_append,hl];simp;omega,?_⟩ ?_
   ·rw[hS,cQ It.n c,hY,cQ It.n (show([]:List It).length<=20 by simp),show bH It.n ([]:List It)=[]from rfl,List.append_nil]
   ·rw[hY2]
    exact .refl
 refine aa ?_
 refine aB (rS (P:=G) (X:=Y) (R:=[]) (by rw[List.append_nil,List.length_append];omega) (by omega) rfl (by omega)) (.cons (by
  rw[show js g cap n (G++Y++[])=js g cap n (G++Y) by rw[List.append_nil]]
  exact .here) .nil) fun _=>?_
 refine aq ?_
 have hS2:G++bH It.n Y++[]=jr It.n 20 X:=by rw[hS,cQ It.n (by omega),List.append_nil]
 rw[hS2]
 refine a_ (fun m y=>(ex fun s:Nat=>all [pu (m+s=2 * n+20/\20<=s/\y= .int .i64 (s:Int)/\s<=2 * n+20),js g cap n (jr It.n s X)])::F) (2 * n) ?_ ?_
 ·refine .ex 20 (.all ?_)
  refine aq ?_
  refine .pu ⟨by omega,by omega,rfl,by omega⟩ ?_
  exact .refl
 intro m2 ds2 y
 refine aH .here fun s=>ap .here ?_
 refine aq ?_
 refine aG .here fun hs=>?_
 obtain⟨hms,hs20,rfl,hsl⟩:=hs
 refine ay az .nil (fun h2=>?_) (fun h2=>?_)
 ·have hsn:s<n:=by omega
  refine ab (o_ (eh (by omega) (by omega)) ?_)
  refine bI (fun m x y=>(ex fun q:List It × List It=>all [pu (m=q.2.length/\x= .int .i64 (q.1.length:Int)/\y= .int .i64 (q.1.length+2 * s:Nat)/\q.1.length+q.2.length=n/\jr It.n (2 * s) X=q.1++jr It.n (2 * s) q.2),js g cap n (q.1++jr It.n s q.2)])::F) n ?_ ?_
  ·refine .ex ([],X) (.all ?_)
   refine aq ?_
   refine .pu ⟨hn.symm,rfl,by simp,by simp;omega,rfl⟩ ?_
   exact .refl
  intro m3 ds3 x3 y3
  refine aH .here fun q=>ap .here ?_
  obtain⟨G,Y⟩:=q
  refine aq ?_
  refine aG .here fun hq=>?_
  (try dsimp only at hq)
  (try dsimp only)
  obtain⟨hmq,rfl,rfl,hGY,hS⟩:=hq
  have u1:=iM It.n _ (Y.take s) rfl
  refine ay cZ .nil (fun h3=>?_) (fun h3=>?_)
  ·have h2s:2 * s<=Y.length:=by omega
   refine ab (bG ?_)
   have l1:(bH It.n (Y.take s)).length=s:=by rw[cJ,List.length_take];omega
   have l2:(bH It.n ((Y.drop s).take s)).length=s:=by rw[cJ,List.length_take,List.length_drop];omega
   have u2:=iM It.n _ ((Y.drop s).take s) rfl
   have hM:dt It.n (bH It.n (Y.take s)) (bH It.n ((Y.drop s).take s))=bH It.n (Y.take (2 * s)):=by
    rw[oD It.n _ _ _ rfl]
    congr 1
    rw[show 2 * s=s+s by omega,List.take_add]
   obtain⟨Z,hZ⟩:∃Z,Z=(if 2 * s<Y.length then jr It.n s (Y.drop (2 * s))else []):=⟨_,rfl⟩
   have hsrt:jr It.n s Y=bH It.n (Y.take s)++bH It.n ((Y.drop s).take s)++Z:=by
    rw[iv It.n (by omega) (by omega),List.append_assoc]
    congr 1
    rw[hZ]
    split
    ·rename_i c
     rw[iv It.n (by omega) (by rw[List.length_drop];omega),List.drop_drop,show s+s=2 * s by omega]
    ·rename_i c
     rw[cQ It.n (by rw[List.length_drop];omega),List.append_nil,List.take_of_length_le (by rw[List.length_drop];omega)]
   have e:G++jr It.n s Y=G++bH It.n (Y.take s)++bH It.n ((Y.drop s).take s)++Z:=by rw[hsrt];simp only[List.append_assoc]
   have lall:(G++bH It.n (Y.take s)++bH It.n ((Y.drop s).take s)++Z).length=n:=by
    rw[<- e,List.length_append,cL s (by omega)];omega
   rw[e]
   refine aB (xd (by omega) _ (P:=G) (U:=bH It.n (Y.take s)) (V:=bH It.n ((Y.drop s).take s)) (R:=Z) (Nat.le_refl _) lall (by omega) (by omega) u1 u2 rfl (by rw[l1];omega) (by rw[l1,l2];omega)) (.cons .here .nil) fun _=>?_
   refine aq ?_
   rw[hM]
   have l3:(bH It.n (Y.take (2 * s))).length=2 * s:=by rw[cJ,List.length_take];omega
   refine o_ (eh (by omega) (by omega)) ?_
   refine bG ?_
   rcases Nat.lt_or_ge (2 * s) Y.length with c|c
   ·refine bo (Y.length-2 * s) (by omega) (.ex (G++bH It.n (Y.take (2 * s)),Y.drop (2 * s)) (.all ?_))
    refine aq ?_
    refine .pu ⟨by simp,by rw[List.length_append,l3],by(try dsimp only);rw[List.length_append,l3];congr 1 <;> omega,by(try dsimp only);rw[List.length_append,l3,List.length_drop];omega,?_⟩ ?_
    ·rw[hS,iv It.n (by omega) c,List.append_assoc]
    ·rw[hZ,if_pos c]
     exact .refl
   ·refine bo 0 (by omega) (.ex (G++bH It.n (Y.take (2 * s)),[]) (.all ?_))
    refine aq ?_
    have hz0:jr It.n s ([]:List It)=[]:=by rw[cQ It.n (by simp)];rfl
    have hz1:jr It.n (2 * s) ([]:List It)=[]:=by rw[cQ It.n (by simp)];rfl
    refine .pu ⟨rfl,by rw[List.length_append,l3],by(try dsimp only);rw[List.length_append,l3];congr 1 <;> omega,by(try dsimp only);rw[List.length_append,l3];simp;omega,?_⟩ ?_
    ·rw[hS,cQ It.n c,List.take_of_length_le c,hz1,List.append_nil]
    ·rw[hZ,if_neg (by omega)]
     (try dsimp only)
     rw[hz0]
     exact .refl
  ·refine aa (bG ?_)
   have fin:aZ W (js g cap n (G++bH It.n Y)::F) (opN p_ (aY .mul 3 (.int .i64 (s:Int)) (.int .i64 2)) gH fun x62=>iD (fun m y w=>sat W ((ex fun s:Nat=>all [pu (m+s=2 * n+20/\20<=s/\y= .int .i64 (s:Int)/\s<=2 * n+20),js g cap n (jr It.n s X)])::F) w) m2 x62):=by
    refine o_ (eh (by omega) (by omega)) ?_
    refine aK (m2-s) (by omega) (.ex (2 * s) (.all ?_))
    refine aq ?_
    refine .pu ⟨by omega,by omega,by congr 1;omega,by omega⟩ ?_
    rw[hS,cQ It.n (by omega)]
    exact .refl
   refine ay az .nil (fun h4=>?_) (fun h4=>?_)
   ·have hsY:s<Y.length:=by omega
    have l1:(bH It.n (Y.take s)).length=s:=by rw[cJ,List.length_take];omega
    have l2:(bH It.n (Y.drop s)).length=Y.length-s:=by rw[cJ,List.length_drop]
    have u2:=iM It.n _ (Y.drop s) rfl
    have hM:dt It.n (bH It.n (Y.take s)) (bH It.n (Y.drop s))=bH It.n Y:=by
     rw[oD It.n _ _ _ rfl,List.take_append_drop]
    have e:G++jr It.n s Y=G++bH It.n (Y.take s)++bH It.n (Y.drop s)++[]:=by
     rw[iv It.n (by omega) hsY,cQ It.n (by rw[List.length_drop];omega)]
     simp only[List.append_assoc,List.append_nil]
    have lall:(G++bH It.n (Y.take s)++bH It.n (Y.drop s)++[]).length=n:=by
     rw[<- e,List.length_append,cL s (by omega)];omega
    rw[e]
    refine ab (aB (xd (by omega) _ (P:=G) (U:=bH It.n (Y.take s)) (V:=bH It.n (Y.drop s)) (R:=[]) (Nat.le_refl _) lall (by omega) (by omega) u1 u2 rfl (by rw[l1];omega) (by rw[l1,l2];omega)) (.cons .here .nil) fun _=>?_)
    refine aq ?_
    rw[hM,List.append_nil]
    exact fin
   ·refine aa ?_
    rw[cQ It.n (show Y.length<=s by omega)]
    exact fin
 ·refine aa ?_
  rw[cQ It.n (by omega)]
  refine bq () ?_
  exact .refl
theorem Hz {W:World}{a:Option Addr}{cap c:Nat}{xs:List It}(hx:xs.length<=268435456):
  Cn p_ 239 [.slice a xs.length c,fn 240] W [Sl 2 319 a cap xs.length (xs.flatMap ic)] (fun _:Unit=> .tuple #[]) (fun _=>[Sl 2 319 a cap xs.length ((bH It.n xs).flatMap ic)]):=by
 rcases Nat.lt_or_ge xs.length 20 with h|h
 ·exact K4 h
 (refine Shp.cn (Sg.g_ Tryz.call239 Tryz.func239) fun F=>?_;simp only[ca_,na_])
 refine o_ aC (dA (a:=a) .here (by omega) fun g hg=>?_)
 subst hg
 refine aB (La (g:=g) (cap:=cap) (X:=xs) rfl hx) (.cons .here .nil) fun _=>?_
 refine aq ?_
 refine bq () ?_
 exact .refl
end HF
namespace HF
open Go Go.Proofs Go.RowKit Sh Sl T HM
theorem tU {p:E->Prop}{q:E->Prop}(hq:∀a b,p a->p b->q (a.1+b.1,a.2++b.2)):∀ {xs:List E},(∀x∈xs,p x)->∀y∈cK xs,q y
 |[],_,y,hy=>by simp[cK]at hy
 |[_],_,y,hy=>by simp[cK]at hy
 |a::b::r,h,y,hy=>by
  rcases List.mem_cons.1 hy with rfl|hy
  ·exact hq a b (h a (by simp)) (h b (by simp))
  ·exact tU hq (fun x hx=>h x (by simp[hx])) y hy
def y7 (n:Int)(j:Nat)(e:E):Prop:=0<e.1/\e.1<=1099511627776 * ((2^j:Nat):Int)/\0<e.2.length/\e.2.length<=2^j/\∀s∈e.2,0<=s/\s<n
theorem HA {n:Int}{j:Nat}{e:E}(h:y7 n 0 e):y7 n j e:=by
 obtain⟨h1,h2,h3,h4,h5⟩:=h
 have hp:1<=2^j:=Nat.two_pow_pos j
 simp only[Nat.pow_zero]at h2 h4
 refine⟨h1,?_,h3,by omega,h5⟩
 have:(1:Int)<=((2^j:Nat):Int):=by exact_mod_cast hp
 omega
theorem EI {n:Int}{cs:List E}(h:∀e∈cs,y7 n 0 e):∀j,∀e∈dz cs j,y7 n j e
 |0,e,he=>h e he
 |j+1,e,he=>by
  rcases vh Prod.fst _ _ he with c|c
  ·exact HA (h e c)
  ·refine tU (p:=y7 n j) (q:=y7 n (j+1)) (fun a b ha hb=>?_) (EI h j) e c
   obtain⟨a1,a2,a3,a4,a5⟩:=ha
   obtain⟨b1,b2,b3,b4,b5⟩:=hb
   have e2:2^(j+1)=2^j+2^j:=by rw[Nat.pow_succ];omega
   refine⟨by show 0<a.1+b.1;omega,?_,by simp;omega,by simp;omega,fun s hs=>?_⟩
   ·show a.1+b.1<=_
    rw[e2];push_cast;push_cast at a2 b2;omega
   ·rcases List.mem_append.1 hs with c|c
    ·exact a5 s c
    ·exact b5 s c
def vS (freq:List Int):List E:=bH Prod.fst (bW 0 freq)
def nD (x:Int):Prop:=x<0\/1099511627776<x
instance (x:Int):Decidable (nD x):=by unfold nD;infer_instance
def ka (freq:List Int)(lim:Int):Int:=if(320<freq.length\/lim<1\/15<lim)\/(∃x∈freq,nD x)\/2^lim.toNat<(vS freq).length then 1 else 0
def dC (freq:List Int)(lim:Int):List Int:=if ka freq lim≠0 then []else if(vS freq).length=1 then(List.range freq.length).map fun s=>(cV (((vS freq).map PM.one)) s:Int)else(List.range freq.length).map (eN (vS freq) lim.toNat)
theorem HB {freq:List Int}(hf:∀x∈freq,¬nD x):∀e∈vS freq,y7 freq.length 0 e:=fun e he=>by
 have he':=oz _ _ _ he
 have hz:=PM.jq he'
 have hx:∀(l:List Int) (s:Int),e∈bW s l->e.1∈l:=by
  intro l
  induction l with
  |nil=>intro s h;simp[bW]at h
  |cons x l ih=>
   intro s h
   unfold bW at h
   split at h
   ·rcases List.mem_cons.1 h with rfl|h
    ·simp
    ·exact List.mem_cons_of_mem _ (ih _ h)
   ·exact List.mem_cons_of_mem _ (ih _ h)
 have hb:=hf _ (hx _ _ he')
 unfold nD at hb
 refine⟨hz.1,by simp;omega,by rw[hz.2.1];simp,by rw[hz.2.1];simp,fun s hs=>?_⟩
 rw[hz.2.1]at hs
 rw[List.mem_singleton.1 hs]
 omega
theorem vr {W:World}{a:Option Addr}{cap:Nat}{freq:List Int}{A:HP}{lim:Int}(hr:RdB W A a freq.length (freq.map I))(hfl:freq.length<=1099511627776):
    Cn p_ 230 [.slice a freq.length cap,.int .i64 lim] W [A] (fun q:Option Addr × Nat=> .tuple #[.slice q.1 (dC freq lim).length q.2,.int .i64 (ka freq lim)]) (fun q=>[Sl 1 3 q.1 q.2 (dC freq lim).length ((dC freq lim).map I),A]):=by
  have bad:ka freq lim=1->∀L:List HP,aZ W (A::L) (fun w=>∃q:Option Addr × Nat,(.tuple #[.slice none 0 0,.int .i64 1]:Value)= .tuple #[.slice q.1 (dC freq lim).length q.2,.int .i64 (ka freq lim)]/\sat W ([Sl 1 3 q.1 q.2 (dC freq lim).length ((dC freq lim).map I),A]++L) w):=by
    intro h L
    have hv:dC freq lim=[]:=by unfold dC;rw[if_pos (by rw[h];decide)]
    rw[h,hv]
    refine aR (none,0) rfl ?_
    exact bR .refl
  (refine Shp.cn (Sg.g_ Tryz.call230 Tryz.func230 (an:={loops:=[(5,[6,30]),(22,[11,77]),(25,[12,13]),(31,[14]),(34,[132])],drs:=[(27,.ofL [(0,2),(1,2),(2,2),(3,3),(4,3),(5,3),(6,2),(7,2),(8,3),(9,3),(10,3),(11,3),(12,3),(13,1),(14,1),(15,1),(16,1),(17,1),(18,1),(19,1),(20,1),(21,1),(22,1),(23,1),(24,0),(25,0),(26,1),(27,0),(28,0),(29,1)])]}) (os:=[(27,[(24,[12,11,10,9,8,5,4,3]),(25,[12,11,10,9,8,5,4,3])])])) fun F=>?_;simp only[ca_,na_])
  refine o_ aC (o_ aV ?_)
  by_cases hl:320<freq.length
  · rw[dT_ (by omega)]
    exact ao (ao (o_ ah (ao (ao (o_ ah (ab (bF aw (bad (if_pos (.inl (.inl hl))) F))))))))
  rw[dF_ (by omega)]
  refine ae (ae (o_ az ?_))
  by_cases h1:lim<1
  · rw[dT_ (by omega)]
    exact o_ ag (ao (ao (o_ ah (ab (bF aw (bad (if_pos (.inl (.inr (.inl h1)))) F))))))
  rw[dF_ (by omega)]
  refine o_ ag (ae (ae (o_ aV ?_)))
  by_cases h15:15<lim
  · rw[dT_ (by omega)]
    exact o_ ag (ab (bF aw (bad (if_pos (.inl (.inr (.inr h15)))) F)))
  rw[dF_ (by omega)]
  obtain⟨L,rfl⟩:=Int.eq_ofNat_of_zero_le (show 0<=lim by omega)
  obtain⟨cs,hcs⟩:∃cs,cs=vS freq:=⟨_,rfl⟩
  refine o_ ag (aa (o_ aC (bI (fun m x y=>[ex fun q:Option Addr × Nat=>ex fun xs:List It=>all [pu (∃i:Nat,m+i=freq.length/\y= .int .i64 (i:Int)/\x= .slice q.1 xs.length q.2/\xs.map er=bW 0 (freq.take i)/\xs.length<=i/\∀x∈freq.take i,¬nD x),Sl 2 319 q.1 q.2 xs.length (xs.flatMap ic),fH xs,A]]++F) freq.length ?_ ?_)))
  · refine .ex (none,0) (.ex [] (.all ?_))
    refine aq ?_
    exact .pu ⟨0,by omega,rfl,rfl,rfl,Nat.le_refl _,fun x hx=>by simp at hx⟩ (bR (Ht .refl))
  intro m ds x y
  refine aq ?_
  refine aH Pick.here fun q=>aH Pick.here fun xs=>ap Pick.here ?_
  obtain⟨qa,qc⟩:=q
  refine aq ?_
  refine aG Pick.here fun hi=>?_
  obtain⟨i,hmi,rfl,rfl,hxs,hxl,hok⟩:=hi
  (try dsimp only)
  refine ay az .nil (fun h=>?_) (fun h=>?_)
  · have hil:i<freq.length:=by omega
    obtain⟨ga,oa,rfl,_⟩:=hr.at_ (by omega)
    have hbad:nD freq[i]->ka freq L=1:=fun h=>if_pos (.inr (.inl ⟨_,List.getElem_mem hil,h⟩))
    have hok2:¬nD freq[i]->∀x∈freq.take (i+1),¬nD x:=fun h x hx=>by
      rw[List.take_succ_eq_append_getElem hil]at hx
      rcases List.mem_append.1 hx with c|c
      · exact hok x c
      · rw[List.mem_singleton.1 c];exact h
    have hsn:bW 0 (freq.take (i+1))=bW 0 (freq.take i)++if 0<freq[i]then [(freq[i],[(i:Int)])]else []:=by
      rw[List.take_succ_eq_append_getElem hil,pC,List.length_take,Nat.min_eq_left (by omega),Int.zero_add]
    refine ab (o_ (bj i (by rfl) hil) ?_)
    refine bt (bP hr (dK hil)) ?_
    refine o_ az ?_
    by_cases hn1:freq[i]<0
    · rw[dT_ hn1]
      exact ao (ao (o_ ah (ab (bF aw (bad (hbad (.inl hn1)) F)))))
    rw[dF_ hn1]
    refine ae (ae (o_ aV ?_))
    by_cases hn2:1099511627776<freq[i]
    · rw[dT_ hn2]
      exact o_ ag (ab (bF aw (bad (hbad (.inr hn2)) F)))
    rw[dF_ hn2]
    have hfi:=hok2 (by unfold nD;omega)
    refine o_ ag (aa (ay aV .nil (fun h=>?_) (fun h=>?_)))
    · refine ab ?_
      refine eI fun g=>?_
      refine tj (s:=1) (n:=1) (cs:=[.int .i64 (i:Int)]) .here (by rfl) (by unfold maxLen;omega) ?_
      refine Po (x:=⟨freq[i],g,1,[(i:Int)]⟩) rfl .here (.there .here) ?_
      refine o_ b_ ?_
      refine eL (s:=2) (vs:=[av ⟨freq[i],g,1,[(i:Int)]⟩]) rfl (by omega) rfl (by intro z hz;simp at hz;subst hz;rfl) (by omega) fun g4=>?_
      refine bO (m:=1) (news:=ic ⟨freq[i],g,1,[(i:Int)]⟩) (by repeat constructor) (cA (s:=2) (e':=319) (by kernel_rfl) .here (by rfl) (kH _)) (by omega) (by omega) fun a' c'=>?_
      refine bG ?_
      refine bo (m-1) (by omega) (.ex (a',c') (.ex (xs++[⟨freq[i],g,1,[(i:Int)]⟩]) (.all ?_)))
      refine aq ?_
      refine .pu ⟨i+1,by omega,by norm_cast,by rw[List.length_append];rfl,by rw[hsn,if_pos h,List.map_append,hxs];rfl,by simp;omega,hfi⟩ ?_
      rw[List.flatMap_append,List.length_append,List.length_singleton,List.flatMap_singleton]
      refine .pick (by repeat constructor) (.convL (A:=fH (⟨freq[i],g,1,[(i:Int)]⟩::xs)) (B:=fH (xs++[⟨freq[i],g,1,[(i:Int)]⟩])) (by repeat constructor) (fun f hf y hy=>hf y (by simp at hy ⊢;rcases hy with c|c;exact .inr c;exact .inl c)) ?_)
      exact aw
    · refine aa ?_
      refine bG ?_
      refine bo (m-1) (by omega) (.ex (qa,qc) (.ex xs (.all ?_)))
      refine aq ?_
      refine .pu ⟨i+1,by omega,by norm_cast,rfl,by rw[hsn,if_neg h,List.append_nil,hxs],by omega,hfi⟩ ?_
      exact aw
  · have hie:i=freq.length:=by omega
    subst hie
    rw[List.take_length]at hxs hok
    have hcx:cs.length=xs.length:=by rw[hcs,vS,cJ,<- hxs,List.length_map]
    obtain⟨ci,hci⟩:∃ci,ci=bH It.n xs:=⟨_,rfl⟩
    have hcil:ci.length=xs.length:=by rw[hci,cJ]
    have hce:ci.map er=cs:=by rw[hci,B_ It.n Prod.fst er (fun _=>rfl),hxs,hcs];rfl
    have hcm:∀y∈ci,y∈xs:=fun y hy=>by rw[hci]at hy;exact oz It.n xs y hy
    refine aa (o_ aC (o_ br ?_))
    rw[d7 (by omega) (by omega)]
    refine o_ (fS (by omega)) ?_
    rw[pB (by omega) (by omega) (by omega)]
    refine o_ aV ?_
    by_cases hkL:2^L<cs.length
    · rw[dT_ (by
        obtain⟨Z,hZ⟩:∃Z:Nat,Z=2^L:=⟨_,rfl⟩
        rw[<- hZ]at hkL ⊢
        omega)]
      exact ab (bF aw (bad (if_pos (.inr (.inr (by rw[Int.toNat_natCast,<- hcs];exact hkL)))) F))
    rw[dF_ (by
      obtain⟨Z,hZ⟩:∃Z:Nat,Z=2^L:=⟨_,rfl⟩
      rw[<- hZ]at hkL ⊢
      omega)]
    have hE:ka freq L=0:=by
      unfold ka
      rw[if_neg]
      rintro((c|c|c)|⟨x,hx,c⟩|c)
      · omega
      · omega
      · omega
      · exact hok x hx c
      · rw[Int.toNat_natCast,<- hcs]at c;exact hkL c
    have hV:dC freq L=if cs.length=1 then(List.range freq.length).map fun s=>(cV (cs.map PM.one) s:Int)else(List.range freq.length).map (eN cs L):=by
      unfold dC
      rw[if_neg (fun c=>c hE),<- hcs,Int.toNat_natCast]
    have hVl:(dC freq L).length=freq.length:=by rw[hV];split <;> simp
    rw[hE,hVl]
    have hrb:=EI (n:=(freq.length:Int)) (cs:=cs) (by rw[hcs];exact HB hok)
    have hp15:∀j,j<=15->2^j<=32768:=fun j hj=>jW hj
    have hrows:∀j,j<L->(dz cs j).length<=1073741824/\∀e∈dz cs j,0<=e.1/\e.1<=1152921504606846976/\0<e.2.length/\e.2.length<=1073741824:=fun j hj=>by
      refine⟨by have:=PM.tR cs j;omega,fun e he=>?_⟩
      obtain⟨e1,e2,e3,e4,_⟩:=hrb j e he
      have hp:=hp15 j (by omega)
      have hp':((2^j:Nat):Int)<=((32768:Nat):Int):=Int.ofNat_le.2 hp
      omega
    refine aa (o_ aC (ep freq.length freq.length (by rfl) (by rfl) (by omega) (by omega) (by unfold maxLen;omega) fun go=>?_))
    rw[dH]
    refine o_ aP ?_
    by_cases hk1:cs.length=1
    · obtain⟨e,he⟩:=List.length_eq_one_iff.1 hk1
      obtain⟨x,hx⟩:∃x,xs=[x]:=List.length_eq_one_iff.1 (by omega)
      subst hx
      have hxe:er x=e:=by
        have:ci=[x]:=by rw[hci];rfl
        rw[this,he]at hce
        simpa using hce
      obtain⟨e1,e2,e3,e4,e5⟩:=hrb 0 e (by rw[dz,he];simp)
      have hone:x.w=[PM.one e]:=by
        have hm:=(PM.jq (oz _ _ _ (show e∈vS freq by rw[<- hcs,he];simp))).2.1
        rw[<- hm,<- hxe];rfl
      have hin:=e5 (PM.one e) (by rw[<- hxe];show PM.one (er x)∈x.w;rw[hxe,hone];simp)
      rw[dT_ (by omega)]
      refine ab (dA (a:=qa) (by repeat constructor) (by simp) fun gq hgq=>?_)
      subst hgq
      have rdc:sP W (Sl 2 319 (some ⟨gq,0,none⟩) qc [x].length ([x].flatMap ic)) (some ⟨gq,0,none⟩) [x]:=mm (P:=p_) (by rw[fG]) (fun _=>⟨gq,rfl⟩)
      have w0:=AF rdc (j:=0) (by simp)
      have r0:=AA (W:=W) (xs:=[x]) (x:=x) (by simp)
      rw[hone]at r0
      obtain⟨S,hS⟩:∃S:Nat,(S:Int)=PM.one e:=⟨(PM.one e).toNat,by omega⟩
      refine o_ (cR 0 (by rfl) (by simp)) ?_
      refine o_ cT (bt w0 ?_)
      rw[show([x]:List It)[0]=x from rfl,hone]
      refine o_ (bj 0 (by rfl) (by simp)) ?_
      refine bt (bP (j:=0) r0 (v:=I (PM.one e)) rfl) ?_
      refine o_ (bj S (by exact hS.symm) (by omega)) ?_
      rw[Nat.zero_add]
      refine fZ (g:=go) (cs:=Ln freq.length fun _=>0) (v:=I 1) (j:=S) (by repeat constructor) (by rw[iJ];omega) ?_
      rw[show(Ln freq.length fun _=>0).set S (I 1)=Ln freq.length fun i=>if i=S then 1 else 0 from oh]
      refine aR (some ⟨go,0,none⟩,freq.length) rfl ?_
      have hLn:(Ln freq.length fun i=>if i=S then 1 else 0)=(dC freq L).map I:=by
        rw[hV,if_pos hk1]
        refine re (by simp) fun j hj=>?_
        rw[List.map_map,List.getElem?_map,List.getElem?_range hj]
        simp only[Option.map_some,Function.comp]
        congr 2
        rw[he]
        simp only[List.map_cons,List.map_nil,cV,<- hS]
        by_cases c:j=S
        · subst c;simp
        · rw[if_neg c,if_neg (fun d=>c (by omega))];simp
      rw[hLn]
      exact aw
    rw[dF_ (by omega)]
    rw[if_neg hk1]at hV
    have hfinal:(dC freq L).map I=Ln freq.length (eN cs L):=by rw[hV,List.map_map];rfl
    rw[hfinal]
    refine aa (c_ (Hz (by omega)) fun _=>?_)
    rw[<- hci]
    refine dX ?_
    refine aF .here fun f1 f2 f3 f4=>?_
    have rdc:sP W (Sl 2 319 qa qc xs.length (ci.flatMap ic)) qa ci:=by
      unfold sP
      rw[hcil]
      exact mm (P:=p_) (by rw[fG,hcil]) f4
    refine bI (fun m x y=>[ex fun j:Nat=>ex fun q:Option Addr × Nat=>ex fun rs:List It=>ex fun ar:List It=>all [pu (m+j=L-1/\y= .int .i64 (j:Int)/\x= .slice q.1 rs.length q.2/\rs.map er=dz cs j/\(∀y∈rs,y∈ar)/\(∀y∈ci,y∈ar)/\(j=0->q=(qa,qc)/\rs=ci)),(if j=0 then pu True else Sl 2 319 q.1 q.2 rs.length (rs.flatMap ic)),fH ar,Sl 2 319 qa qc xs.length (ci.flatMap ic),Sl 1 3 (some ⟨go,0,none⟩) freq.length freq.length (Ln freq.length fun _=>0),A]]++F) (L-1) ?_ ?_
    · refine .ex 0 (.ex (qa,qc) (.ex ci (.ex xs (.all ?_))))
      refine aq ?_
      refine .pu ⟨by omega,rfl,by rw[hcil],hce,hcm,hcm,fun _=>⟨rfl,rfl⟩⟩ ?_
      rw[if_pos rfl]
      refine .pu trivial ?_
      exact .pick (by repeat constructor) (.pick (by repeat constructor) (.pick (by repeat constructor) (.pick (by repeat constructor) .refl)))
    intro m2 ds x y
    refine aq ?_
    refine aH Pick.here fun j=>aH Pick.here fun q=>aH Pick.here fun rs=>aH Pick.here fun ar=>ap Pick.here ?_
    obtain⟨ra,rc⟩:=q
    refine aq ?_
    refine aG Pick.here fun hj=>?_
    obtain⟨hmj,rfl,rfl,hrs,hra,hca,hj0⟩:=hj
    (try dsimp only)
    have hrl:rs.length=(dz cs j).length:=by rw[<- hrs,List.length_map]
    have hmem:∀y∈rs,er y∈dz cs j:=fun y hy=>by rw[<- hrs];exact List.mem_map.2 ⟨y,hy,rfl⟩
    have hbj:=hrows j (by omega)
    have hb1:∀y∈rs,0<=y.n/\y.n<=1152921504606846976/\0<y.w.length/\y.w.length<=1073741824:=fun y hy=>hbj.2 (er y) (hmem y hy)
    refine ay az .nil (fun h=>?_) (fun h=>?_)
    · have hjL:j<L-1:=by omega
      refine ab ?_
      have step:∀(q:Option Addr × Nat) (ps ar':List It),ps.map er=cK (rs.map er)->(∀y∈ps,y∈ar')->(∀y∈ar,y∈ar')->aZ W (Sl 2 319 q.1 q.2 ps.length (ps.flatMap ic)::fH ar'::Sl 2 319 qa qc xs.length (ci.flatMap ic)::Sl 1 3 (some ⟨go,0,none⟩) freq.length freq.length (Ln freq.length fun _=>0)::A::F) (opN p_ (bN (fn 243) [.slice qa xs.length qc,.slice q.1 ps.length q.2]) gH fun x117=>
           opN p_ (aY .add 3 (.int .i64 (j:Int)) (.int .i64 1)) gH fun x118=>
           qw (fun m x y w=>sat W ([ex fun j:Nat=>ex fun q:Option Addr × Nat=>ex fun rs:List It=>ex fun ar:List It=>all [pu (m+j=L-1/\y= .int .i64 (j:Int)/\x= .slice q.1 rs.length q.2/\rs.map er=dz cs j/\(∀y∈rs,y∈ar)/\(∀y∈ci,y∈ar)/\(j=0->q=(qa,qc)/\rs=ci)),(if j=0 then pu True else Sl 2 319 q.1 q.2 rs.length (rs.flatMap ic)),fH ar,Sl 2 319 qa qc xs.length (ci.flatMap ic),Sl 1 3 (some ⟨go,0,none⟩) freq.length freq.length (Ln freq.length fun _=>0),A]]++F) w) m2 x117 x118):=by
        intro q ps ar' hps hpa haa
        obtain⟨pa,pc⟩:=q
        (try dsimp only)
        have hpl:ps.length<=1073741824:=by
          have e1:ps.length=(cK (rs.map er)).length:=by rw[<- hps,List.length_map]
          have e2:∀n,∀l:List E,l.length<=n->(cK l).length<=l.length:=by
            intro n
            induction n with
            |zero=>
              intro l hl
              have hl0:l=[]:=List.eq_nil_of_length_eq_zero (by omega)
              subst hl0
              simp[cK]
            |succ n ih=>
              intro l hl
              match l,hl with
              |[],_=>simp[cK]
              |[x],_=>simp[cK]
              |x::y::r,hl=>have:=ih r (by simp at hl;omega);simp[cK];omega
          have:=e2 _ (rs.map er) (Nat.le_refl _)
          rw[List.length_map]at this
          omega
        refine aF .here fun g1 g2 g3 g4=>?_
        have rdp:sP W (Sl 2 319 pa pc ps.length (ps.flatMap ic)) pa ps:=mm (P:=p_) (by rw[fG]) g4
        rw[<- hcil]
        rw[<- hcil]at rdc f2
        refine c_ (K6 rdc rdp f2 g2 (by omega) hpl) fun _=>?_
        rename_i q3
        obtain⟨ma,mc⟩:=q3
        (try dsimp only)
        refine bG ?_
        refine bo (m2-1) (by omega) (.ex (j+1) (.ex (ma,mc) (.ex (dt It.n ci ps) (.ex ar' (.all ?_)))))
        refine aq ?_
        refine .pu ⟨by omega,by norm_cast,by rw[nv],?_,fun y hy=>?_,fun y hy=>haa y (hca y hy),fun c=>by omega⟩ ?_
        · rw[AC It.n Prod.fst er (fun _=>rfl),hce,hps,hrs];rfl
        · rcases vh It.n ci ps hy with c|c
          · exact haa y (hca y c)
          · exact hpa y c
        · rw[if_neg (by omega),nv]
          exact .pick (by repeat constructor) (.pick (by repeat constructor) (.pick (by repeat constructor) (.pick (by repeat constructor) (.pick (by repeat constructor) aw))))
      by_cases c0:j=0
      · rw[if_pos c0]
        obtain⟨e1,e2⟩:=hj0 c0
        injection e1 with e1 e3
        subst e1;subst e3
        refine bF (M:=Sl 2 319 ra rc xs.length (ci.flatMap ic)::fH ar::Sl 1 3 (some ⟨go,0,none⟩) freq.length freq.length (Ln freq.length fun _=>0)::A::F) aw ?_
        rw[e2]
        rw[e2]at step hra hb1
        refine tQ rdc hra (by omega) hb1 fun q ps ar' k1 k2 k3=>?_
        exact bF aw (step q ps ar' k1 k2 k3)
      · rw[if_neg c0]
        refine aF .here fun g1 g2 g3 g4=>?_
        have rdr:sP W (Sl 2 319 ra rc rs.length (rs.flatMap ic)) ra rs:=mm (P:=p_) (by rw[fG]) g4
        refine tQ rdr hra (by omega) hb1 fun q ps ar' k1 k2 k3=>?_
        exact bF aw (step q ps ar' k1 k2 k3)
    · have hjL:j=L-1:=by omega
      subst hjL
      refine aa ?_
      by_cases hk0:cs.length=0
      · have hh:(Ln freq.length fun _=>0)=Ln freq.length (eN cs L):=by
          refine d4 fun s _=>?_
          unfold eN
          rw[hk0];rfl
        rw[hh]
        refine a_ (fun m y=>[pu (y= .int .i64 0),Sl 1 3 (some ⟨go,0,none⟩) freq.length freq.length (Ln freq.length (eN cs L)),A]++F) 0 ?_ ?_
        · refine aq ?_
          refine .pu rfl ?_
          exact aw
        intro m ds y
        refine aq ?_
        refine aG Pick.here fun hy=>?_
        subst hy
        refine o_ (eh (by omega) (by omega)) ?_
        refine dX ?_
        refine o_ az ?_
        rw[dF_ (by omega)]
        refine aa (aR (some ⟨go,0,none⟩,freq.length) rfl ?_)
        exact aw
      have hlast:2 * cs.length-2<=(dz cs (L-1)).length/\∀e∈dz cs (L-1),∀s∈e.2,0<=s/\s<(freq.length:Int):=by
        refine⟨PM.pD (by omega) (by rw[show L-1+1=L by omega];omega),fun e he s hs=>(hrb (L-1) e he).2.2.2.2 s hs⟩
      have hb2:∀y∈rs,y.w.length<=1073741824/\∀s∈y.w,0<=s/\s<(freq.length:Int):=fun y hy=>⟨(hb1 y hy).2.2.2,hlast.2 (er y) (hmem y hy)⟩
      have fin:aZ W (Sl 1 3 (some ⟨go,0,none⟩) freq.length freq.length (Ln freq.length fun s=>(cV (((rs.map er).take (2 * xs.length-2)).flatMap fun e=>e.2) s:Int))::A::F) (fun w=>∃x:Option Addr × Nat,(.tuple #[.slice (some ⟨go,0,none⟩) freq.length freq.length,.int .i64 0]:Value)= .tuple #[.slice x.1 freq.length x.2,.int .i64 0]/\sat W ([Sl 1 3 x.1 x.2 freq.length (Ln freq.length (eN cs L)),A]++F) w):=by
        refine aR (some ⟨go,0,none⟩,freq.length) rfl ?_
        rw[hrs,<- hcx]
        exact .refl
      by_cases c0:L-1=0
      · rw[if_pos c0]
        obtain⟨e1,e2⟩:=hj0 c0
        injection e1 with e1 e3
        subst e1;subst e3
        refine bF (M:=Sl 1 3 (some ⟨go,0,none⟩) freq.length freq.length (Ln freq.length fun _=>0)::Sl 2 319 ra rc xs.length (ci.flatMap ic)::fH ar::A::F) aw ?_
        subst e2
        refine wS rdc hra (by omega) ⟨by omega,by omega⟩ (by omega) hb2 ?_
        exact fin
      · rw[if_neg c0]
        refine aF .here fun g1 g2 g3 g4=>?_
        have rdr:sP W (Sl 2 319 ra rc rs.length (rs.flatMap ic)) ra rs:=mm (P:=p_) (by rw[fG]) g4
        refine bF (M:=Sl 1 3 (some ⟨go,0,none⟩) freq.length freq.length (Ln freq.length fun _=>0)::Sl 2 319 ra rc rs.length (rs.flatMap ic)::fH ar::A::F) aw ?_
        refine wS rdr hra (by omega) ⟨by omega,by omega⟩ (by omega) hb2 ?_
        exact fin
end HF
set_option maxRecDepth 4000
namespace PM
open Go Go.Proofs HM HF
theorem mo {e:E}:∀(l:List Int) (s:Int),e∈bW s l->∃(k:Nat) (hk:k<l.length),one e=s+k/\0<l[k]/\e.1=l[k]:=by
 intro l
 induction l with
 |nil=>intro s h;simp[bW]at h
 |cons x l ih=>
  intro s h
  unfold bW at h
  have tl:e∈bW (s+1) l->∃(k:Nat) (hk:k<(x::l).length),one e=s+k/\0<(x::l)[k]/\e.1=(x::l)[k]:=fun h=>by
   obtain⟨k,hk,e1,e2,e3⟩:=ih (s+1) h
   exact⟨k+1,by simp;omega,by rw[e1];push_cast;omega,by simpa using e2,by simpa using e3⟩
  split at h
  ·rename_i hx
   rcases List.mem_cons.1 h with rfl|h
   ·exact⟨0,by simp,by simp[one],by simpa using hx,rfl⟩
   ·exact tl h
  ·exact tl h
theorem kL:∀(l:List Int) (s:Int),(bW s l).length=l.countP fun x=>decide (0<x)
 |[],_=>rfl
 |x::l,s=>by
  have ih:=kL l (s+1)
  unfold bW
  rw[List.countP_cons]
  by_cases h:0<x
  ·rw[if_pos h,List.length_cons,ih,if_pos (by simpa using h)]
  ·rw[if_neg h,ih,if_neg (by simpa using h)];rfl
theorem Jl:∀ {l:List Int},(∀x∈l,x<=15)->(wk l 15:Int)=Cc l
 |[],_=>rfl
 |x::l,h=>by
  have ih:=Jl (l:=l) fun y hy=>h y (by simp[hy])
  have hx:=h x (by simp)
  rw[wk,Cc]
  push_cast
  rw[ih]
  by_cases c:0<x
  ·rw[if_pos ⟨c,hx⟩,if_pos c];push_cast;rfl
  ·rw[if_neg (fun d=>c d.1),if_neg c];rfl
def HC (ff l:List Int)(lim:Int):Bool:=decide (ff.length=l.length)&&(ff.zip l).all fun p=>!((decide (p.2<0)||decide (lim<p.2))||(decide (p.1≠0)&&decide (p.2=0)))
theorem EJ {ff l:List Int}{lim:Int}(h:HC ff l lim=true):ff.length=l.length/\(∀x∈l,0<=x/\x<=lim)/\∀(i:Nat) (h:i<ff.length) (h':i<l.length),ff[i]≠0->l[i]≠0:=by
 unfold HC at h
 rw[Bool.and_eq_true,decide_eq_true_eq,List.all_eq_true]at h
 obtain⟨h1,h2⟩:=h
 have key:∀(i:Nat) (h:i<ff.length) (h':i<l.length),(0<=l[i]/\l[i]<=lim)/\(ff[i]≠0->l[i]≠0):=fun i hi hi'=>by
  have hm:(ff[i],l[i])∈ff.zip l:=by
   have:=List.getElem_mem (l:=ff.zip l) (n:=i) (by simp;omega)
   rwa [List.getElem_zip]at this
  have:=h2 _ hm
  simp at this
  omega
 refine⟨h1,fun x hx=>?_,fun i hi hi'=>(key i hi hi').2⟩
 obtain⟨i,hi,rfl⟩:=List.getElem_of_mem hx
 exact(key i (by omega) hi).1
theorem gC {freq:List Int}{lim:Int}(hE:ka freq lim=0):
  (dC freq lim).length=freq.length/\freq.length<=320/\(1<=lim/\lim<=15)/\(∀x∈freq,0<=x/\x<=1099511627776)/\(∀x∈dC freq lim,0<=x/\x<=lim)/\(∀(i:Nat) (h:i<freq.length) (h':i<(dC freq lim).length),0<freq[i]↔0<(dC freq lim)[i])/\
  Cc (dC freq lim)<=2^15/\(2<=(freq.countP fun x=>decide (0<x))->Cc (dC freq lim)=2^15)/\
  ∀t:List Int,HC freq t lim=true->Cc t<=2^15->nB freq (dC freq lim)<=nB freq t:=by
 have hno:¬((320<freq.length\/lim<1\/15<lim)\/(∃x∈freq,nD x)\/2^lim.toNat<(vS freq).length):=fun h=>by
  unfold ka at hE
  rw[if_pos h]at hE
  cases hE
 have h1:¬(320<freq.length\/lim<1\/15<lim):=fun c=>hno (.inl c)
 have h2:∀x∈freq,¬nD x:=fun x hx c=>hno (.inr (.inl ⟨x,hx,c⟩))
 have h3:(vS freq).length<=2^lim.toNat:=Nat.le_of_not_lt fun c=>hno (.inr (.inr c))
 have hf:∀x∈freq,0<=x/\x<=1099511627776:=fun x hx=>by
  have:=h2 x hx
  unfold nD at this
  omega
 obtain⟨L,rfl⟩:=Int.eq_ofNat_of_zero_le (show 0<=lim by omega)
 rw[Int.toNat_natCast]at h3
 have hperm:(vS freq).Perm (bW 0 freq):=mn _ _
 have hcl:(vS freq).length=freq.countP fun x=>decide (0<x):=by rw[hperm.length_eq,kL]
 have hV:dC freq (L:Int)=if(vS freq).length=1 then(List.range freq.length).map fun s=>(cV (((vS freq).map one)) s:Int)else(List.range freq.length).map (eN (vS freq) L):=by
  unfold dC
  rw[if_neg (fun c=>c hE),Int.toNat_natCast]
 have cL:(dC freq (L:Int)).length=freq.length:=by rw[hV];split <;> simp
 refine⟨cL,by omega,by omega,hf,?_⟩
 obtain⟨cs,hcs⟩:∃cs,cs=vS freq:=⟨_,rfl⟩
 rw[<- hcs]at hV hcl hperm h3
 rw[<- hcl]
 rcases Nat.lt_or_ge cs.length 2 with hk|hk
 ·-- none, or one
  have hget:∃T:Int->Int,(∀(i:Nat) (h:i<(dC freq (L:Int)).length),(dC freq (L:Int))[i]=T (0+(i:Int)))/\(∀e∈cs,T (one e)=1)/\∀i:Nat,T i≠0->T i=1/\∃e∈cs,one e=(i:Int):=by
   rcases Nat.lt_or_ge cs.length 1 with c|c
   ·have h0:cs=[]:=List.eq_nil_of_length_eq_zero (by omega)
    refine⟨fun _=>0,fun i h=>?_,by rw[h0];simp,fun i h=>absurd rfl h⟩
    have e:dC freq (L:Int)=(List.range freq.length).map (eN [] L):=by rw[hV,h0];rfl
    simp only[e,List.getElem_map,List.getElem_range]
    rfl
   ·obtain⟨e,he⟩:=List.length_eq_one_iff.1 (show cs.length=1 by omega)
    obtain⟨k,hk',e1,e2,e3⟩:=mo freq 0 (hperm.mem_iff.1 (show e∈cs by rw[he];simp))
    have e4:dC freq (L:Int)=(List.range freq.length).map fun s=>(cV (cs.map one) s:Int):=by rw[hV,if_pos (by rw[he];rfl)]
    refine⟨fun j=>if j=one e then 1 else 0,fun i h=>?_,fun x hx=>?_,fun i h=>?_⟩
    ·simp only[e4,List.getElem_map,List.getElem_range,he,List.map_cons,List.map_nil,cV]
     by_cases d:one e=(i:Int)
     ·rw[if_pos d,if_pos (by omega)];rfl
     ·rw[if_neg d,if_neg (by omega)];rfl
    ·rw[he]at hx
     rw[List.mem_singleton.1 hx]
     show(if one e=one e then(1:Int)else 0)=1
     rw[if_pos rfl]
    ·by_cases d:(i:Int)=one e
     ·exact⟨if_pos d,e,by rw[he];simp,d.symm⟩
     ·simp only[if_neg d]at h
      exact absurd rfl h
  obtain⟨T,hT,hT1,hT2⟩:=hget
  have hiff:∀(i:Nat) (h:i<freq.length) (h':i<(dC freq (L:Int)).length),0<freq[i]↔0<(dC freq (L:Int))[i]:=fun i hi hi'=>by
   rw[hT i hi',Int.zero_add]
   constructor
   ·intro hp
    have hm:=hperm.mem_iff.2 (oC (l:=freq) (s:=0) hi hp)
    have:=hT1 _ hm
    have e:one (freq[i],[0+(i:Int)])=(i:Int):=by simp[one]
    rw[e]at this
    omega
   ·intro hp
    obtain⟨_,e,he,h2⟩:=hT2 i (by omega)
    obtain⟨k,hk',e1,e2,e3⟩:=mo freq 0 (hperm.mem_iff.1 he)
    have:k=i:=by omega
    subst this
    exact e2
  have hb:∀x∈dC freq (L:Int),0<=x/\x<=(L:Int):=fun x hx=>by
   obtain⟨i,hi,rfl⟩:=List.getElem_of_mem hx
   rw[hT i hi,Int.zero_add]
   by_cases c:T i=0
   ·omega
   ·have:=(hT2 i c).1;omega
  have hkr:Cc (dC freq (L:Int))=d9 (fun e=>2^(15-(T (one e)).toNat)) cs:=by
   rw[<- EF T 0 freq _ cL.symm (fun i h h'=>hiff i h' h) hT,<- dW (fun _ j=>2^(15-(T j).toNat)) 0 freq,<- gB _ hperm]
  refine⟨hb,hiff,?_,fun h=>absurd h (by omega),fun t ht hkt=>?_⟩
  ·rw[hkr]
   match cs,hk,hT1 with
   |[],_,_=>show(0:Int)<=2^15;decide
   |[e],_,hT1=>
    rw[d9,d9,hT1 e (by simp)]
    decide
  ·obtain⟨t1,t2,t3⟩:=EJ ht
   rw[rL T 0 freq _ cL.symm (fun x hx=>(hf x hx).1) hT,rL (fun j:Int=>t.getD j.toNat 0) 0 freq t t1 (fun x hx=>(hf x hx).1) (fun i h=>by simp[h])]
   rw[<- dW (fun x j=>x * T j) 0 freq,<- dW (fun x j=>x * t.getD j.toNat 0) 0 freq,<- gB _ hperm,<- gB _ hperm]
   match cs,hk,hT1,hperm with
   |[],_,_,_=>exact Int.le_refl _
   |[e],_,hT1,hperm=>
    obtain⟨k,hk',e1,e2,e3⟩:=mo freq 0 (hperm.mem_iff.1 (show e∈[e] by simp))
    rw[d9,d9,d9,d9,hT1 e (by simp)]
    have hk2:(one e).toNat=k:=by omega
    rw[hk2]
    have hkt':k<t.length:=by omega
    have e4:t.getD k 0=t[k]:=by simp[hkt']
    rw[e4]
    have a:=t2 t[k] (List.getElem_mem _)
    have b:=t3 k hk' hkt' (by omega)
    have:e.1 * 1<=e.1 * t[k]:=Int.mul_le_mul_of_nonneg_left (by omega) (by omega)
    omega
 ·have hV2:dC freq (L:Int)=(List.range freq.length).map (eN cs L):=by rw[hV,if_neg (by omega)]
  obtain⟨b1,b2,b3,b4⟩:=Cd (freq:=freq) (L:=L) (cs:=cs) (by omega) (by omega) (fun x hx=>(hf x hx).1) hcs hk h3
  rw[hV2]
  refine⟨fun x hx=>?_,fun i hi hi'=>?_,by rw[b3];exact Int.le_refl _,fun _=>b3,fun t ht hkt=>?_⟩
  ·obtain⟨i,hi,rfl⟩:=List.mem_map.1 hx
   exact b1 i
  ·rw[List.getElem_map,List.getElem_range]
   exact b2 i hi
  ·obtain⟨t1,t2,t3⟩:=EJ ht
   refine b4 t t1.symm t2 (fun i hi hi' hp=>?_) hkt
   have a:=t2 t[i] (List.getElem_mem _)
   have b:=t3 i hi hi' (by omega)
   omega
end PM
namespace IF
open Go Go.Proofs Go.RowKit HM HF B M
def seg (b:List UInt8)(fr at_:Nat):List UInt8:=(b.drop fr).take (at_-fr)
def kM (level:Int)(k n:Nat):Prop:=(level=0/\n=30000)\/(0<level/\(k=8192\/30000<n))
instance (level:Int)(k n:Nat):Decidable (kM level k n):=by unfold kM;infer_instance
abbrev fX:=List Pz × List UInt8
def nE (b:List UInt8)(level:Int):List Pz->List Pz->Nat->Nat->List fX->List fX
 |[],L,fr,at_,out=>if L≠[]\/out=[]then out++[(L,seg b fr at_)]else out
 |p::r,L,fr,at_,out=>if kM level (L.length+1) (at_+gF p-fr)then nE b level r [] (at_+gF p) (at_+gF p) (out++[(L++[p],seg b fr (at_+gF p))])
  else nE b level r (L++[p]) fr (at_+gF p) out
def eY (b:List UInt8)(level:Int):List fX:=nE b level (iK b level) [] 0 0 []
def HD (p:Pz):Int:=if p.len=0 then(p.c.toNat:Int)else(jp p.len).1
def EK (ps:List Pz)(s:Nat):Nat:=ps.countP fun p=>decide (HD p=(s:Int))
def EL (ps:List Pz)(s:Nat):Nat:=ps.countP fun p=>decide (p.len≠0/\(iT p.dist).1=(s:Int))
def nF (ps:List Pz):List Int:=(List.range 286).map fun s=>(EK ps s:Int)+if s=256 then 1 else 0
def nG (ps:List Pz):List Int:=(List.range 30).map fun s=>(EL ps s:Int)
def oF (ps:List Pz):List Int:=dC (nF ps) 15
def oG (ps:List Pz):List Int:=dC (nG ps) 15
def tV (l:List Int)(s:Int):List Bool:=match sym (gZ l) l s with
 |some p=>aX (rv p.1 p.2) p.2
 |none=>[]
def Cg (la lb:List Int)(p:Pz):List Bool:=if p.len=0 then tV la p.c.toNat else
 (tV la (jp p.len).1++aX (jp p.len).2.2.toNat (jp p.len).2.1.toNat)++(tV lb (iT p.dist).1++aX (iT p.dist).2.2.toNat (iT p.dist).2.1.toNat)
def xe (la lb:List Int)(ps:List Pz):List Bool:=ps.flatMap (Cg la lb)++tV la 256
def AP (l:List Int)(least:Nat):Nat->Nat
 |0=>0
 |n+1=>if least<n+1/\l[n]? =some 0 then AP l least n else n+1
def upto (l:List Int)(least:Nat):Nat:=AP l least l.length
def ek (row:List Int)(v:Int)(i:Nat):Nat->Nat->Nat
 |0,n=>n
 |f+1,n=>if row[i+n]? =some v then ek row v i f (n+1)else n
structure Td where
 sym:Int
 bits:Nat
 extra:Nat
def kb (row:List Int)(i:Nat):Td × Nat:=
 let v:=row.getD i 0
 let n:=ek row v i row.length 1
 if v=0/\11<=n then(⟨18,7,min n 138-11⟩,min n 138)else
 if v=0/\3<=n then(⟨17,3,n-3⟩,n)else
 if(v≠0/\3<=n)/\(0<i/\row[i-1]? =some v)then(⟨16,2,min n 6-3⟩,min n 6)else(⟨v,0,0⟩,1)
def fI (row:List Int):Nat->Nat->List Td
 |0,_=>[]
 |f+1,i=>if i<row.length then(kb row i).1::fI row f (i+(kb row i).2)else []
def dN (row:List Int):List Td:=fI row (row.length+1) 0
def fQ (T:List Td)(s:Nat):Nat:=T.countP fun t=>decide (t.sym=(s:Int))
def fg (T:List Td):List Int:=(List.range 19).map fun s=>(fQ T s:Int)
def y8 (l:List Int):List Int:=if(l.countP fun x=>decide (0<x))=1 then(if 0<l.getD 0 0 then l.set 1 (l.getD 1 0+1)else l.set 0 (l.getD 0 0+1))else l
def kc (T:List Td):List Int:=y8 (fg T)
def gR (la lb:List Int):List Int:=la.take (upto la 257)++lb.take (upto lb 1)
def lN (la lb:List Int):List Int:=dC (kc (dN (gR la lb))) 7
def lO (l:List Int):List Int:=gO.map fun k=>l.getD k 0
def Ci (la lb:List Int):List Bool:=
 let o:=lO (lN la lb)
 aX (upto la 257-257) 5++aX (upto lb 1-1) 5++aX (upto o 4-4) 4++(o.take (upto o 4)).flatMap (fun n=>aX n.toNat 3)++(dN (gR la lb)).flatMap fun t=>tV (lN la lb) t.sym++aX t.extra t.bits
def pQ (x:fX):List Bool:=xe eX fw x.1
def xf (x:fX):List Bool:=Ci (oF x.1) (oG x.1)++xe (oF x.1) (oG x.1) x.1
def y9 (L:List Bool)(x:fX):List Bool:=ee L++aX x.2.length 16++aX (65535-x.2.length) 16++ub x.2
def oH (n:Nat)(x:fX):Nat:=8 * ((n%8+10) / 8)+32+8 * x.2.length-n%8
def nA (n:Nat)(level:Int)(x:fX):Nat:=
 if ¬0<level then 0 else
 if 3+(xf x).length<(if 3+(pQ x).length<oH n x then 3+(pQ x).length else oH n x)then 2 else if 3+(pQ x).length<oH n x then 1 else 0
def xg (k:Nat)(L:List Bool)(x:fX):List Bool:=if k=0 then y9 L x else if k=1 then L++pQ x else L++xf x
def lA (level:Int)(L:List Bool)(last:Nat)(x:fX):List Bool:=xg (nA L.length level x) (L++aX last 1++aX (nA L.length level x) 2) x
def kN (level:Int):List Bool->List fX->List Bool
 |L,[]=>L
 |L,[x]=>lA level L 1 x
 |L,x::y::r=>kN level (lA level L 0 x) (y::r)
def jt (level:Int)(L:List Bool)(xs:List fX):List Bool:=xs.foldl (fun L x=>lA level L 0 x) L
def kO (b:List UInt8)(level:Int):Int:=if level<0\/9<level then 1 else if 524288<b.length then 6 else 0
def xi (b:List UInt8)(level:Int):List Bool:=kN level [] (eY b level)
def ke (b:List UInt8)(level:Int):List UInt8:=if kO b level=0 then pk (xi b level)else []
theorem y_ {α β:Type}{f g:α->List β}{l:List α}(h:∀x∈l,f x=g x):l.flatMap f=l.flatMap g:=by
 induction l with
 |nil=>rfl
 |cons x l ih=>rw[List.flatMap_cons,List.flatMap_cons,h x (by simp),ih fun y hy=>h y (by simp[hy])]

theorem EM (l:List Int)(least:Nat):∀n,n<=l.length->AP l least n<=n/\(least<=n->least<=AP l least n)/\l.take n=l.take (AP l least n)++List.replicate (n-AP l least n) 0
 |0,_=>⟨Nat.le_refl _,id,by simp[AP]⟩
 |n+1,hn=>by
  obtain⟨h1,h2,h3⟩:=EM l least n (by omega)
  rw[AP]
  by_cases c:least<n+1/\l[n]? =some 0
  ·rw[if_pos c]
   refine⟨by omega,fun _=>h2 (by omega),?_⟩
   rw[List.take_add_one,c.2,h3,show n+1-AP l least n=(n-AP l least n)+1 by omega,List.replicate_succ',List.append_assoc]
   rfl
  ·rw[if_neg c]
   exact⟨Nat.le_refl _,id,by simp⟩
theorem vt (l:List Int)(least:Nat)(h:least<=l.length):upto l least<=l.length/\least<=upto l least/\l=l.take (upto l least)++List.replicate (l.length-upto l least) 0:=by
 obtain⟨h1,h2,h3⟩:=EM l least l.length (Nat.le_refl _)
 rw[List.take_length]at h3
 exact⟨h1,h2 h,h3⟩

theorem xj {row:List Int}{v:Int}{i:Nat}:∀(f n:Nat),(∀j,j<n->row[i+j]? =some v)->n<=ek row v i f n/\∀j,j<ek row v i f n->row[i+j]? =some v
 |0,n,h=>⟨Nat.le_refl _,h⟩
 |f+1,n,h=>by
  rw[ek]
  by_cases c:row[i+n]? =some v
  ·rw[if_pos c]
   obtain⟨h1,h2⟩:=xj (row:=row) (v:=v) (i:=i) f (n+1) (fun j hj=>by
    by_cases d:j=n
    ·subst d;exact c
    ·exact h j (by omega))
   exact⟨by omega,h2⟩
  ·rw[if_neg c]
   exact⟨Nat.le_refl _,h⟩
theorem tW {row:List Int}{v:Int}{i:Nat}:∀n,(∀j,j<n->row[i+j]? =some v)->row.take i++List.replicate n v=row.take (i+n)/\(0<n->i+n<=row.length)
 |0,_=>⟨by simp,fun h=>absurd h (by omega)⟩
 |n+1,h=>by
  have ih:=tW n fun j hj=>h j (by omega)
  have hn:=h n (by omega)
  refine⟨?_,fun _=>?_⟩
  ·rw[<- Nat.add_assoc,List.take_add_one,hn,List.replicate_succ',<- List.append_assoc,ih.1];rfl
  ·have:=(List.getElem?_eq_some_iff.1 hn).1
   omega
theorem HE {row : List Int} {i : Nat} (hi : i < row.length) (hv : ∀ x ∈ row, 0 ≤ x ∧ x ≤ 15) : let t := (kb row i).1; let n := (kb row i).2
    1 ≤ n ∧ i + n ≤ row.length ∧ 0 ≤ t.sym ∧ t.sym ≤ 18 ∧ t.extra < 2 ^ t.bits ∧ t.bits ≤ 7 ∧
    ((t.sym = 18 ∧ t.bits = 7 ∧ n = 11 + t.extra ∧ row.take i ++ List.replicate n 0 = row.take (i + n)) ∨ (t.sym = 17 ∧ t.bits = 3 ∧ n = 3 + t.extra ∧ row.take i ++ List.replicate n 0 = row.take (i + n)) ∨
     (t.sym = 16 ∧ t.bits = 2 ∧ n = 3 + t.extra ∧ 0 < i ∧ row.take i ++ List.replicate n (row.getD (i - 1) 0) = row.take (i + n)) ∨ (t.sym ≤ 15 ∧ t.bits = 0 ∧ t.extra = 0 ∧ n = 1 ∧ row.take i ++ List.replicate n t.sym = row.take (i + n))) := by
  have hg : row.getD i 0 = row[i] := by simp [hi]
  obtain ⟨v, hvd⟩ : ∃ v, v = row[i] := ⟨_, rfl⟩
  have hvi : row[i]? = some v := by rw [hvd]; exact List.getElem?_eq_getElem hi
  have hvb := hv row[i] (List.getElem_mem hi)
  rw [← hvd] at hvb hg
  obtain ⟨m, hm⟩ : ∃ m, m = ek row v i row.length 1 := ⟨_, rfl⟩
  obtain ⟨s1, s2⟩ := xj (row := row) (v := v) (i := i) row.length 1 (fun j hj => by
    have : j = 0 := by omega
    subst this
    exact hvi)
  rw [← hm] at s1 s2
  have sub : ∀ n, n ≤ m → row.take i ++ List.replicate n v = row.take (i + n) ∧ (0 < n → i + n ≤ row.length) := fun n hn => tW n fun j hj => s2 j (by omega)
  unfold kb
  simp only
  rw [hg, ← hm]
  by_cases c1 : v = 0 ∧ 11 ≤ m
  · rw [if_pos c1]
    have hs := sub (min m 138) (by omega)
    rw [c1.1] at hs
    refine ⟨by simp only; omega, hs.2 (by omega), by simp only; omega, by simp only; omega, ?_, by simp only; omega, .inl ⟨rfl, rfl, by simp only; omega, hs.1⟩⟩
    show min m 138 - 11 < 128
    omega
  rw [if_neg c1]
  by_cases c2 : v = 0 ∧ 3 ≤ m
  · rw [if_pos c2]
    have hs := sub m (by omega)
    rw [c2.1] at hs
    refine ⟨by simp only; omega, hs.2 (by omega), by simp only; omega, by simp only; omega, ?_, by simp only; omega, .inr (.inl ⟨rfl, rfl, by simp only; omega, hs.1⟩)⟩
    show m - 3 < 8
    omega
  rw [if_neg c2]
  by_cases c3 : (v ≠ 0 ∧ 3 ≤ m) ∧ (0 < i ∧ row[i - 1]? = some v)
  · rw [if_pos c3]
    have hs := sub (min m 6) (by omega)
    have hd : row.getD (i - 1) 0 = v := by rw [List.getD_eq_getElem?_getD, c3.2.2]; rfl
    refine ⟨by simp only; omega, hs.2 (by omega), by simp only; omega, by simp only; omega, ?_, by simp only; omega, .inr (.inr (.inl ⟨rfl, rfl, by simp only; omega, c3.2.1, by rw [hd]; exact hs.1⟩))⟩
    show min m 6 - 3 < 4
    omega
  rw [if_neg c3]
  have hs := sub 1 s1
  exact ⟨by simp only; omega, hs.2 (by omega), by simp only; omega, by simp only; omega, by simp, by simp only; omega, .inr (.inr (.inr ⟨by simp only; omega, rfl, rfl, rfl, hs.1⟩))⟩

end IF
namespace IF
open Go Go.Proofs Go.RowKit HM HF B M PM
theorem Cj (freq:List Int):(vS freq).length=freq.countP fun x=>decide (0<x):=by
 have hperm:(vS freq).Perm (bW 0 freq):=mn _ _
 rw[hperm.length_eq,kL]
theorem vu {freq:List Int}{lim:Int}(h1:freq.length<=320)(h2:1<=lim)(h3:lim<=15)(h4:∀x∈freq,0<=x/\x<=1099511627776)(h5:freq.length<=2^lim.toNat):ka freq lim=0:=by
 unfold ka
 rw[if_neg]
 rintro(h|⟨x,hx,hb⟩|h)
 ·omega
 ·have:=h4 x hx
  unfold nD at hb
  omega
 ·rw[Cj]at h
  have:=List.countP_le_length (p:=fun x=>decide ((0:Int)<x)) (l:=freq)
  omega
theorem HG {freq:List Int}{lim:Int}(hE:ka freq lim=0):okL (dC freq lim):=by
 obtain⟨f1,f2,f3,f4,f5,f6,f7,f8,f9⟩:=gC hE
 rw[nl]
 refine⟨by rw[f1];exact f2,fun x hx=>⟨(f5 x hx).1,by have:=(f5 x hx).2;omega⟩,?_⟩
 have:=Jl (l:=dC freq lim) (fun x hx=>by have:=(f5 x hx).2;omega)
 have e:(2:Int)^15=32768:=by decide
 rw[e]at f7
 omega

theorem Lb {ps:List Pz}(hl:ps.length<=1048576):ka (nF ps) 15=0:=by
 refine vu (by simp[nF]) (by omega) (by omega) (fun x hx=>?_) (by simp[nF])
 obtain⟨s,_,rfl⟩:=List.mem_map.1 hx
 have:EK ps s<=ps.length:=List.countP_le_length
 split <;> omega
theorem Lc {ps:List Pz}(hl:ps.length<=1048576):ka (nG ps) 15=0:=by
 refine vu (by simp[nG]) (by omega) (by omega) (fun x hx=>?_) (by simp[nG])
 obtain⟨s,_,rfl⟩:=List.mem_map.1 hx
 have:EL ps s<=ps.length:=List.countP_le_length
 omega

theorem rT (l:List Int):(y8 l).length=l.length:=by
 unfold y8
 split
 ·split <;> simp
 ·rfl
theorem EN {l:List Int}{k:Nat}{B:Int}(h:∀x∈l,0<=x/\x<=B)(hB:0<=B):∀x∈l.set k (l.getD k 0+1),0<=x/\x<=B+1:=by
 intro x hx
 rcases List.mem_or_eq_of_mem_set hx with hx|rfl
 ·have:=h x hx;omega
 ·have:0<=l.getD k 0/\l.getD k 0<=B:=by
   rw[List.getD_eq_getElem?_getD]
   cases hk:l[k]? with
   |none=>exact⟨by simp,by simpa using hB⟩
   |some y=>exact h y (List.mem_of_getElem? hk)
  omega
theorem Ld {l:List Int}{B:Int}(h:∀x∈l,0<=x/\x<=B)(hB:0<=B):∀x∈y8 l,0<=x/\x<=B+1:=by
 unfold y8
 split
 ·split
  ·exact EN h hB
  ·exact EN h hB
 ·intro x hx
  have:=h x hx
  omega
theorem lr (row:List Int):∀f i,(fI row f i).length<=f
 |0,_=>Nat.le_refl _
 |f+1,i=>by
  rw[fI]
  split
  ·have:=lr row f (i+(kb row i).2)
   rw[List.length_cons];omega
  ·simp
theorem oI {row:List Int}(hv:∀x∈row,0<=x/\x<=15):∀f i,∀t∈fI row f i,0<=t.sym/\t.sym<=18/\t.extra<2^t.bits/\t.bits<=7
 |0,_,t,ht=>by cases ht
 |f+1,i,t,ht=>by
  rw[fI]at ht
  split at ht
  ·rename_i hi
   rcases List.mem_cons.1 ht with rfl|ht
   ·obtain⟨e1,e2,e3,e4,e5,e6,e7⟩:=HE hi hv
    exact⟨e3,e4,e5,e6⟩
   ·exact oI hv f _ t ht
  ·cases ht
theorem Le {row:List Int}(hr:row.length<=1048576):ka (kc (dN row)) 7=0:=by
 have cL:(kc (dN row)).length=19:=by unfold kc;rw[rT];simp[fg]
 refine vu (by omega) (by omega) (by omega) (fun x hx=>?_) (by rw[cL];decide)
 have:=Ld (l:=fg (dN row)) (B:=1048577) (fun y hy=>by
  obtain⟨s,_,rfl⟩:=List.mem_map.1 hy
  have h1:fQ (dN row) s<=(dN row).length:=List.countP_le_length
  have h2:(dN row).length<=row.length+1:=lr row (row.length+1) 0
  omega) (by omega) x hx
 omega
end IF
namespace IF
open Go Go.Proofs Go.RowKit HM HF B M
theorem za {b:List UInt8}{i j:Nat}(h2:j<=b.length):(seg b i j).length=j-i:=by
 unfold seg
 rw[List.length_take,List.length_drop]
 omega
structure okBk (b:List UInt8)(fr:Nat)(x:fX):Prop where
 gps:x_ b fr x.1
 seg:x.2=seg b fr (eM fr x.1)
 le:eM fr x.1<=b.length
 pn:x.1.length<=30000
 bn:x.2.length<=30258
def xk (b:List UInt8):Nat->List fX->Nat->Prop
 |fr,[],to=>fr=to
 |fr,x::r,to=>okBk b fr x/\xk b (eM fr x.1) r to
theorem oJ {b:List UInt8}{x:fX}:∀ {out:List fX} {s fr:Nat},xk b s out fr->okBk b fr x->xk b s (out++[x]) (eM fr x.1)
 |[],s,fr,h,hx=>by
  have:s=fr:=h
  subst this
  exact⟨hx,rfl⟩
 |y::out,s,fr,h,hx=>⟨h.1,oJ h.2 hx⟩
theorem Ck (l:List Pz)(j:Nat):j<=eM j l:=by have:=nt l j;omega
theorem Lf (b:List UInt8){level:Int}(hlv:0<=level):∀(l L:List Pz) (fr at_:Nat) (out:List fX),xk b 0 out fr->x_ b fr L->eM fr L=at_->fr<=b.length->x_ b at_ l->(0<level->L.length<8192/\at_-fr<=30000)->(level=0->L.length=at_-fr/\at_-fr<30000)->(level=0->∀p∈l,gF p=1)->
  (out.length * 8192<=fr)->xk b 0 (nE b level l L fr at_ out) (eM at_ l)/\(nE b level l L fr at_ out).length<=eM at_ l / 8192+1:=by
 intro l
 induction l with
 |nil=>
  intro L fr at_ out hG hL hat hfr hl h1 h0 hp hn
  have hle:=vd hL hfr
  rw[hat]at hle
  have hge:=nt L fr
  rw[hat]at hge
  rw[nE]
  by_cases c:L≠[]\/out=[]
  ·rw[if_pos c]
   have:=oJ hG (x:=(L,seg b fr at_)) ⟨hL,by simp only;rw[hat],by simp only;rw[hat];exact hle,by
    simp only
    rcases Int.lt_or_le 0 level with d|d
    ·have:=(h1 d).1;omega
    ·have:=h0 (by omega);omega,by
    simp only
    rw[za hle]
    rcases Int.lt_or_le 0 level with d|d
    ·have:=(h1 d).2;omega
    ·have:=h0 (by omega);omega⟩
   simp only at this
   rw[hat]at this
   refine⟨this,?_⟩
   rw[List.length_append,List.length_singleton,eM]
   omega
  ·rw[if_neg c]
   have hLn:L=[]:=by
    by_cases d:L=[]
    ·exact d
    ·exact absurd (.inl d) c
   subst hLn
   have:fr=at_:=hat
   subst this
   exact⟨hG,by rw[eM];omega⟩
 |cons p r ih=>
  intro L fr at_ out hG hL hat hfr hl h1 h0 hp hn
  obtain⟨hlt,hgp,hr⟩:=hl
  have hge:=nt L fr
  rw[hat]at hge
  have hpe:=rr hgp hlt
  have hpos:=ns p
  have hLp:x_ b fr (L++[p]):=mj.2 ⟨hL,by rw[hat];exact⟨hlt,hgp,trivial⟩⟩
  have hLe:eM fr (L++[p])=at_+gF p:=by rw[kG,hat];rfl
  rw[nE]
  by_cases c:kM level (L.length+1) (at_+gF p-fr)
  ·rw[if_pos c]
   have hle:at_+gF p<=b.length:=hpe.1
   have hb:=oJ hG (x:=(L++[p],seg b fr (at_+gF p))) ⟨hLp,by simp only;rw[hLe],by simp only;rw[hLe];exact hle,by
    simp only
    rw[List.length_append,List.length_singleton]
    rcases Int.lt_or_le 0 level with d|d
    ·have:=(h1 d).1;omega
    ·have:=h0 (by omega);omega,by
    simp only
    rw[za hle]
    rcases Int.lt_or_le 0 level with d|d
    ·have:=(h1 d).2;omega
    ·have:=h0 (by omega);omega⟩
   simp only at hb
   rw[hLe]at hb
   have:=ih [] (at_+gF p) (at_+gF p) (out++[(L++[p],seg b fr (at_+gF p))]) hb trivial rfl hle hr (fun _=>⟨by simp,by omega⟩) (fun _=>⟨by simp,by omega⟩) (fun h q hq=>hp h q (by simp[hq])) (by
    rw[List.length_append,List.length_singleton]
    clear hb
    have hbig:fr+8192<=at_+gF p:=by
     unfold kM at c
     rcases c with c|c
     ·have:=c.2
      clear ih h1 h0 hp
      omega
     ·rcases c.2 with d|d
      ·clear ih h1 h0 hp
       omega
      ·clear ih h1 h0 hp
       omega
    clear ih h1 h0 hp c
    have e1:(out.length+1) * 8192=out.length * 8192+8192:=Nat.succ_mul _ _
    rw[e1]
    exact Nat.le_trans (Nat.add_le_add_right hn 8192) hbig)
   exact this
  ·rw[if_neg c]
   unfold kM at c
   refine ih (L++[p]) fr (at_+gF p) out hG hLp hLe hfr hr (fun d=>?_) (fun d=>?_) (fun h q hq=>hp h q (by simp[hq])) hn
   ·have:=h1 d
    rw[List.length_append,List.length_singleton]
    omega
   ·have:=h0 d
    have:=hp d p (by simp)
    rw[List.length_append,List.length_singleton]
    omega
theorem zb (b:List UInt8){level:Int}(hlv:0<=level):xk b 0 (eY b level) b.length/\(eY b level).length<=b.length / 8192+1:=by
 obtain⟨h1,h2⟩:=rA b level
 have:=Lf b hlv (iK b level) [] 0 0 [] rfl trivial rfl (by omega) h1 (fun _=>⟨by simp,by omega⟩) (fun _=>⟨by simp,by omega⟩) (fun h p hp=>by
  unfold iK at hp
  rw[if_neg (by omega)]at hp
  obtain⟨c,_,rfl⟩:=List.mem_map.1 hp
  rfl) (by simp)
 rw[h2]at this
 exact this

theorem xl {b:List UInt8}:∀ {l:List Pz} {j:Nat},x_ b j l->∀p∈l,(p.len=0/\p.dist=0)\/(3<=p.len/\p.len<=258/\1<=p.dist/\p.dist<=32768)
 |[],_,_,p,hp=>by cases hp
 |q::l,j,h,p,hp=>by
  rcases List.mem_cons.1 hp with rfl|hp
  ·rcases h.2.1 with ⟨h1,h2,_⟩|⟨n,d,h1,h2,_,h3,h4,h5,h6,_,_⟩
   ·exact .inl ⟨h1,h2⟩
   ·right;omega
  ·exact xl h.2.2 p hp
theorem xm {b:List UInt8}:∀ {xs:List fX} {s t:Nat},xk b s xs t->∀x∈xs,∃fr,okBk b fr x
 |[],_,_,_,x,hx=>by cases hx
 |y::xs,s,t,h,x,hx=>by
  rcases List.mem_cons.1 hx with rfl|hx
  ·exact⟨s,h.1⟩
  ·exact xm h.2 x hx

theorem rU (l:List Int)(s:Int):(tV l s).length<=15:=by
 unfold tV
 split
 ·rename_i p hp
  rw[aS]
  exact(Av hp).2
 ·simp
theorem HH (la lb:List Int){p:Pz}(h:(p.len=0/\p.dist=0)\/(3<=p.len/\p.len<=258/\1<=p.dist/\p.dist<=32768)):(Cg la lb p).length<=48:=by
 unfold Cg
 rcases h with ⟨h0,_⟩|⟨c1,c2,c3,c4⟩
 ·rw[if_pos h0]
  have:=rU la p.c.toNat
  omega
 ·rw[if_neg (by omega)]
  obtain⟨s,x,k,hs,h1,h2,h3,h4,h5,h6,h7⟩:=At c1 c2
  obtain⟨t,y,j,ht,g1,g2,g3,g4,g5,g6⟩:=Au c3 c4
  rw[hs,ht]
  simp only[List.length_append,aS,Int.toNat_natCast]
  have:=rU la s
  have:=rU lb t
  omega
theorem dp {α β:Type}{f:α->List β}{m:Nat}:∀ {l:List α},(∀x∈l,(f x).length<=m)->(l.flatMap f).length<=m * l.length
 |[],_=>by simp
 |x::l,h=>by
  have ih:=dp (f:=f) (m:=m) (l:=l) fun y hy=>h y (by simp[hy])
  have:=h x (by simp)
  rw[List.flatMap_cons,List.length_append,List.length_cons,Nat.mul_add]
  omega
theorem AQ (la lb:List Int){ps:List Pz}(h:∀p∈ps,(p.len=0/\p.dist=0)\/(3<=p.len/\p.len<=258/\1<=p.dist/\p.dist<=32768)):(xe la lb ps).length<=48 * ps.length+15:=by
 unfold xe
 rw[List.length_append]
 have:=dp (f:=Cg la lb) (m:=48) (l:=ps) fun p hp=>HH la lb (h p hp)
 have:=rU la 256
 omega
theorem nH (f:List Int)(lim:Int):∀x∈dC f lim,0<=x/\x<=15:=by
 intro x hx
 by_cases hE:ka f lim=0
 ·exact(HG hE).ins x hx
 ·unfold dC at hx
  rw[if_pos hE]at hx
  cases hx
theorem AR {la lb:List Int}(ha:∀x∈la,0<=x/\x<=15)(hb:∀x∈lb,0<=x/\x<=15):∀x∈gR la lb,0<=x/\x<=15:=fun x hx=>by
 unfold gR at hx
 rcases List.mem_append.1 hx with hx|hx
 ·exact ha x (List.mem_of_mem_take hx)
 ·exact hb x (List.mem_of_mem_take hx)
theorem Lg {la lb:List Int}(ha:∀x∈la,0<=x/\x<=15)(hb:∀x∈lb,0<=x/\x<=15)(h1:la.length<=320)(h2:lb.length<=320):(Ci la lb).length<=20000:=by
 have hv:=AR ha hb
 have hr:(gR la lb).length<=640:=by
  unfold gR
  rw[List.length_append,List.length_take,List.length_take];omega
 have ht:=lr (gR la lb) ((gR la lb).length+1) 0
 have f1:=dp (f:=fun t:Td=>tV (lN la lb) t.sym++aX t.extra t.bits) (m:=22) (l:=dN (gR la lb)) (fun t ht=>by
  rw[List.length_append,aS]
  have:=rU (lN la lb) t.sym
  have:=(oI hv _ _ t ht).2.2.2
  omega)
 have f2:=dp (f:=fun n:Int=>aX n.toNat 3) (m:=3) (l:=(lO (lN la lb)).take (upto (lO (lN la lb)) 4)) (fun n _=>by rw[aS];omega)
 have f3:((lO (lN la lb)).take (upto (lO (lN la lb)) 4)).length<=19:=by
  rw[List.length_take]
  have:(lO (lN la lb)).length=19:=by simp[lO,gO]
  omega
 unfold Ci
 simp only[List.length_append,aS]
 unfold dN at f1
 unfold dN
 omega
theorem AS {x:fX}(h:∀p∈x.1,(p.len=0/\p.dist=0)\/(3<=p.len/\p.len<=258/\1<=p.dist/\p.dist<=32768))(hl:x.1.length<=30000):(pQ x).length<=1500000:=by
 have:=AQ eX fw h
 unfold pQ
 omega
theorem AT {ps:List Pz}(hl:ps.length<=1048576):(oF ps).length=286/\(oG ps).length=30:=by
 constructor
 ·unfold oF;rw[(PM.gC (Lb hl)).1];simp[nF]
 ·unfold oG;rw[(PM.gC (Lc hl)).1];simp[nG]
theorem AU {x:fX}(h:∀p∈x.1,(p.len=0/\p.dist=0)\/(3<=p.len/\p.len<=258/\1<=p.dist/\p.dist<=32768))(hl:x.1.length<=30000):(xf x).length<=1500000:=by
 have h1:=AQ (oF x.1) (oG x.1) h
 obtain⟨l1,l2⟩:=AT (ps:=x.1) (by omega)
 have h2:=Lg (la:=oF x.1) (lb:=oG x.1) (nH _ _) (nH _ _) (by omega) (by omega)
 unfold xf
 rw[List.length_append]
 omega
theorem xo (L:List Bool)(x:fX):(y9 L x).length=8 * ((L.length+7) / 8)+32+8 * x.2.length:=by
 unfold y9
 simp only[List.length_append,aS,fd,fp]
theorem HI (L:List Bool)(x:fX)(y z:List Bool)(hy:y.length=1)(hz:z.length=2):(y9 (L++y++z) x).length=L.length+oH L.length x:=by
 rw[xo,List.length_append,List.length_append,hy,hz]
 unfold oH
 omega
theorem EO (n:Nat)(level:Int)(x:fX):nA n level x<=2:=by
 unfold nA
 split
 ·omega
 ·repeat' split
  all_goals omega
theorem rV (level:Int)(L:List Bool)(last:Nat)(x:fX):((lA level L last x).length+7) / 8<=(L.length+7) / 8+5+x.2.length/\(lA level L last x).length<=L.length+oH L.length x:=by
 have key:(lA level L last x).length<=L.length+oH L.length x:=by
  unfold lA
  obtain⟨k,hk⟩:∃k,k=nA L.length level x:=⟨_,rfl⟩
  rw[<- hk]
  unfold xg
  by_cases h0:k=0
  ·rw[if_pos h0,HI _ _ _ _ (aS _ _) (aS _ _)]
   omega
  ·rw[if_neg h0]
   unfold nA at hk
   split at hk
   ·exact absurd hk h0
   have hs:L.length+1+2=L.length+3:=rfl
   by_cases h1:k=1
   ·rw[if_pos h1]
    simp only[List.length_append,aS]
    by_cases c:3+(pQ x).length<oH L.length x
    ·omega
    ·rw[if_neg c,if_neg c]at hk
     split at hk <;> omega
   ·rw[if_neg h1]
    simp only[List.length_append,aS]
    by_cases c:3+(pQ x).length<oH L.length x
    ·rw[if_pos c,if_pos c]at hk
     split at hk <;> omega
    ·rw[if_neg c,if_neg c]at hk
     split at hk <;> omega
 refine⟨?_,key⟩
 unfold oH at key
 omega
def eO:List fX->Nat
 |[]=>0
 |x::r=>x.2.length+eO r
theorem rW {b:List UInt8}:∀ {xs:List fX} {s t:Nat},xk b s xs t->s+eO xs=t
 |[],s,t,h=>by have:s=t:=h;subst this;rfl
 |x::r,s,t,h=>by
  have ih:=rW h.2
  have h1:=h.1.seg
  have h2:=h.1.le
  have:=Ck x.1 s
  have h3:=congrArg List.length h1
  rw[za h2]at h3
  rw[eO]
  omega
theorem tX (level:Int):∀(xs:List fX) (L:List Bool),((kN level L xs).length+7) / 8<=(L.length+7) / 8+5 * xs.length+eO xs
 |[],L=>by simp[kN,eO]
 |[x],L=>by
  have:=(rV level L 1 x).1
  rw[kN]
  simp only[List.length_singleton,eO]
  omega
 |x::y::r,L=>by
  have h1:=(rV level L 0 x).1
  have h2:=tX level (y::r) (lA level L 0 x)
  rw[kN,eO,List.length_cons]
  omega
theorem tY (level:Int):∀(xs:List fX) (L:List Bool),((jt level L xs).length+7) / 8<=(L.length+7) / 8+5 * xs.length+eO xs
 |[],L=>by simp[jt,eO]
 |x::r,L=>by
  have h1:=(rV level L 0 x).1
  have h2:=tY level r (lA level L 0 x)
  unfold jt at h2 ⊢
  rw[List.foldl_cons,eO,List.length_cons]
  omega
theorem vv (b:List UInt8)(level:Int):∀(l L:List Pz) (fr at_:Nat) (out:List fX),nE b level l L fr at_ out≠[]
 |[],L,fr,at_,out=>by
  rw[nE]
  split
  ·simp
  ·rename_i c
   intro h
   exact c (.inr h)
 |p::r,L,fr,at_,out=>by
  rw[nE]
  split
  ·exact vv b level r _ _ _ _
  ·exact vv b level r _ _ _ _
theorem HJ (b:List UInt8)(level:Int):eY b level≠[]:=vv b level _ _ _ _ _
theorem zc {b:List UInt8}{level:Int}(h:kO b level=0):0<=level/\level<=9/\b.length<=524288:=by
 unfold kO at h
 by_cases h1:level<0\/9<level
 ·rw[if_pos h1]at h;exact absurd h (by decide)
 ·rw[if_neg h1]at h
  by_cases h2:524288<b.length
  ·rw[if_pos h2]at h;exact absurd h (by decide)
  ·exact⟨by omega,by omega,by omega⟩
theorem xp {b:List UInt8}{level:Int}(hlv:0<=level):((xi b level).length+7) / 8<=5 * (b.length / 8192+1)+b.length:=by
 obtain⟨hG,hn⟩:=zb b hlv
 have h1:=tX level (eY b level) []
 have h2:=rW hG
 unfold xi
 simp only[List.length_nil]at h1
 omega
theorem xr {b:List UInt8}{level:Int}(h:kO b level=0):(ke b level).length=((xi b level).length+7) / 8:=by
 unfold ke
 rw[if_pos h,gp]

theorem Cm {b:List UInt8}{level:Int}(h:kO b level=0):(ke b level).length<=b.length+5 * (b.length / 22000+1)+6+b.length / 1000:=by
 obtain⟨h1,h2,h3⟩:=zc h
 have hl:=xr h
 have hx:=xp (b:=b) h1
 omega

end IF
namespace GZ
open Go Go.Proofs Go.RowKit Sl IF

theorem lu {n:Nat}(h:n<4294967296):IntKind.u32.wrap (n:Int)=n:=by
 simp only[IntKind.wrap,IntKind.bits,IntKind.signed]
 simp;omega
theorem rX (n:Int):IntKind.u32.wrap n=((n%4294967296).toNat:Int):=by
 simp only[IntKind.wrap,IntKind.bits,IntKind.signed]
 simp;omega
theorem gG (n:Nat):IntKind.u8.wrap (n:Int)=((n%256:Nat):Int):=by
 simp only[IntKind.wrap,IntKind.bits,IntKind.signed]
 simp
theorem Lh {a:Nat}(h:a<4294967296):(BitVec.ofInt IntKind.u32.bits (a:Int)).toNat=a:=by
 rw[BitVec.ofInt_natCast,BitVec.toNat_ofNat];exact Nat.mod_eq_of_lt (by simp only[IntKind.bits];omega)
theorem Ti {a:Nat}(h:a<256):(BitVec.ofInt IntKind.u8.bits (a:Int)).toNat=a:=by
 rw[BitVec.ofInt_natCast,BitVec.toNat_ofNat];exact Nat.mod_eq_of_lt (by simp only[IntKind.bits];omega)
theorem iN {a b:Nat}(ha:a<4294967296)(hb:b<4294967296):a ^^^ b<4294967296:=Nat.xor_lt_two_pow (n:=32) ha hb
theorem vw {a b:Nat}(ha:a<256)(hb:b<256):a ^^^ b<256:=Nat.xor_lt_two_pow (n:=8) ha hb
theorem xt {a b:Nat}(ha:a<4294967296)(hb:b<4294967296):co .xor .u32 (a:Int) (b:Int)=((a ^^^ b:Nat):Int):=by
 unfold co
 simp only[BitVec.toNat_xor,Lh ha,Lh hb]
 exact lu (iN ha hb)
theorem SC {a b:Nat}(ha:a<256)(hb:b<256):co .xor .u8 (a:Int) (b:Int)=((a ^^^ b:Nat):Int):=by
 unfold co
 simp only[BitVec.toNat_xor,Ti ha,Ti hb]
 rw[gG,Nat.mod_eq_of_lt (vw ha hb)]
theorem AV {a:Nat}(ha:a<4294967296):co .and .u32 (a:Int) 1=((a%2:Nat):Int):=by
 unfold co
 have h2:(BitVec.ofInt IntKind.u32.bits 1).toNat=1:=by decide
 simp only[BitVec.toNat_and,Lh ha,h2,Nat.and_one_is_mod]
 exact lu (by omega)
theorem lP {n k:Nat}(hk:k<=32):((n:Int).fdiv (2^(min ((k:Int)).toNat IntKind.u32.bits)))=((n / 2^k:Nat):Int):=by
 have:min ((k:Int)).toNat IntKind.u32.bits=k:=by simp only[IntKind.bits,Int.toNat_natCast];omega
 rw[this,Int.fdiv_eq_ediv_of_nonneg _ (Int.le_of_lt (Int.pow_pos (by decide)))]
 norm_cast

def HK:Nat:=3988292384
def CK (c:Nat):Nat:=if c%2=1 then(c / 2) ^^^ HK else c / 2
def ju:Nat->Nat->Nat
 |0,c=>c
 |k+1,c=>ju k (CK c)
theorem Li {c:Nat}(h:c<4294967296):CK c<4294967296:=by
 unfold CK
 split
 ·exact iN (by omega) (by decide)
 ·omega
theorem qi:∀(k:Nat) {c:Nat},c<4294967296->ju k c<4294967296
 |0,c,h=>h
 |k+1,c,h=>qi k (Li h)
theorem oK:∀(k c:Nat),ju (k+1) c=CK (ju k c)
 |0,c=>rfl
 |k+1,c=>oK k (CK c)
@[irreducible] def sw (i:Nat):Nat:=ju 8 i
theorem zd (i:Nat):sw i=ju 8 i:=by unfold sw;rfl
def iO (c:Nat)(b:List UInt8):Nat:=b.foldl (fun c x=>sw ((c%256) ^^^ x.toNat) ^^^ (c / 256)) c
def vU (c:Nat):Nat:=Nat.xor 4294967295 c
def HL (s:Nat)(b:List UInt8):Nat:=vU (iO (vU s) b)
def pE (b:List UInt8):Nat:=HL 0 b
theorem oL {c:Nat}(h:c<4294967296):vU c<4294967296:=by unfold vU;exact iN (by decide) h
theorem EP {i:Nat}(h:i<256):sw i<4294967296:=by rw[zd];exact qi 8 (by omega)
theorem HN {c:Nat}{x:UInt8}(h:c<4294967296):sw ((c%256) ^^^ x.toNat) ^^^ (c / 256)<4294967296:=
 iN (EP (vw (by omega) x.toNat_lt)) (by omega)
theorem lw:∀(b:List UInt8) {c:Nat},c<4294967296->iO c b<4294967296
 |[],c,h=>h
 |x::b,c,h=>by
  have e:iO c (x::b)=iO (sw ((c%256) ^^^ x.toNat) ^^^ (c / 256)) b:=by unfold iO;rw[List.foldl_cons]
  rw[e]
  exact lw b (HN h)
theorem EQ (c:Nat)(a b:List UInt8):iO c (a++b)=iO (iO c a) b:=by unfold iO;rw[List.foldl_append]
theorem tZ (c:Nat)(a:List UInt8)(x:UInt8):iO c (a++[x])=sw ((iO c a%256) ^^^ x.toNat) ^^^ (iO c a / 256):=by rw[EQ];unfold iO;rw[List.foldl_cons,List.foldl_nil]
theorem HO {s:Nat}(h:s<4294967296)(b:List UInt8):HL s b<4294967296:=oL (lw b (oL h))
theorem rY (b:List UInt8):pE b<4294967296:=HO (by decide) b

def du (n:Nat):List UInt8:=[UInt8.ofNat (n%256),UInt8.ofNat (n / 256%256),UInt8.ofNat (n / 65536%256),UInt8.ofNat (n / 16777216%256)]
def F_ (m:Nat):List UInt8:=[31,139,8,0]++du m++[0,255]
def rZ (b:List UInt8):List UInt8:=du (pE b)++du (b.length%4294967296)
def r5 (b:List UInt8)(level mtime:Int):Int:=if mtime<0\/4294967295<mtime then 1 else kO b level
def gS (b:List UInt8)(level mtime:Int):List UInt8:=if r5 b level mtime=0 then F_ mtime.toNat++ke b level++rZ b else []
end GZ
namespace FD
open Go GZ
def iP:List UInt8:=[65,99,99,101,112,116,45,69,110,99,111,100,105,110,103]
def jA:List UInt8:=[67,111,110,116,101,110,116,45,69,110,99,111,100,105,110,103]
def Co:List UInt8:=[67,111,110,116,101,110,116,45,82,97,110,103,101]
def pF:List UInt8:=[67,111,110,116,101,110,116,45,84,121,112,101]
def vx:List UInt8:=[67,111,110,116,101,110,116,45,76,101,110,103,116,104]
def Ga:List UInt8:=[65,99,99,101,112,116,45,82,97,110,103,101,115]
def Lj:List UInt8:=[67,97,99,104,101,45,67,111,110,116,114,111,108]
def fJ:List UInt8:=[86,97,114,121]
def xu:List UInt8:=[69,84,97,103]
def ie:List UInt8:=[103,122,105,112]
def Lk:List UInt8:=[120,45,103,122,105,112]
def ze:List UInt8:=[105,100,101,110,116,105,116,121]
def kP:List UInt8:=[42]
def AW:List UInt8:=[116,101,120,116,47]
def ER:List UInt8:=[97,112,112,108,105,99,97,116,105,111,110,47,106,115,111,110]
def Pu:List UInt8:=[105,109,97,103,101,47,115,118,103,43,120,109,108]
def ES:List UInt8:=[110,111,45,116,114,97,110,115,102,111,114,109]
def nI (l:List Fd)(n:List UInt8):List UInt8:=mZ [44] (bz l n)
theorem kR {l:List Fd}(n:List UInt8)(hl:zF l<=1100000):(nI l n).length<=1500000/\(bz l n).length<=1048576:=by
 have h1:=m7 l n
 have h2:=jo l n
 have h3:=m6 l
 have h4:=BU [44] (bz l n)
 simp only[List.length_cons,List.length_nil]at h4
 unfold nI
 omega
abbrev Ch:=List UInt8 × Int
def xw (c:Ch):List UInt8:=if c.1=Lk then ie else c.1
def iQ (cs:List Ch)(n:List UInt8):Option Int:=(cs.find? fun c=>decide (xw c=n)).map (·.2)
def Gb (cs:List Ch)(n:List UInt8)(o:Int):Int:=match iQ cs n with
 |some q=>q
 |none=>match iQ cs kP with
  |some q=>q
  |none=>o
theorem xx (cs:List Ch)(c:Ch)(n:List UInt8):iQ (cs++[c]) n=match iQ cs n with
  |some q=>some q
  |none=>if xw c=n then some c.2 else none:=by
 unfold iQ
 rw[List.find?_append]
 cases cs.find? fun c=>decide (xw c=n)with
 |some x=>rfl
 |none=>
  by_cases h:xw c=n
  ·simp[h]
  ·simp[h]
def Ll (l:List Fd):List Ch:=(nR (fC (nI l iP))).1
def j6 (l:List Fd):Bool:=decide (0<(bz l iP).length)&&decide ((nR (fC (nI l iP))).2=0)&&(decide (0<Gb (Ll l) ie 0)&&decide (Gb (Ll l) ze 1<=Gb (Ll l) ie 0))
def pG (l:List Fd):List UInt8:=if j6 l then ie else ze
def xy (X:List Fd):List UInt8:=cC (bX (cu 59 (dq X pF).1))
def zf (k:List UInt8):Bool:=decide (k.take 5=AW)||decide (k=ER)||decide (k=Pu)
def Cp (X:List Fd):List Dir:=(nR (qF (nI X Lj))).1
def r6 (st:Int)(X:List Fd)(D:List UInt8):Bool:=decide (st=200)&&decide (32<=D.length)&&(!(dq X jA).2&&!(dq X Co).2)&&zf (xy X)&&!(Cp X).any fun d=>decide (d.name=ES)
def Cq (w:List UInt8):Bool:=decide (w=kP)||dy w iP
def sQ (X:List Fd):List (List UInt8):=(bz X fJ).flatMap (pM 44)
def HQ (X:List Fd):Bool:=(sQ X).any Cq
def cN (X:List Fd):List Fd:=if HQ X then X else X++[(fJ,iP)]
def qj (f:Fd):Fd:=if(jF f.2).2&&dy f.1 xu then(f.1,Bx (true,(jF f.2).1.2))else f
def kg (X:List Fd)(g:List UInt8):List Fd:=(fm X [vx,Ga]).map qj++[(jA,ie),(vx,vP g.length)]
structure Rp where
 X:List Fd
 D:List UInt8
def jv (l:List Fd)(level st:Int)(X:List Fd)(D:List UInt8):Rp:=
 if(decide (1<=level)&&decide (level<=9))&&r6 st X D then
  if j6 l then if r5 D level 0=0 then⟨kg (cN X) (gS D level 0),gS D level 0⟩else⟨cN X,D⟩
  else⟨cN X,D⟩
 else⟨X,D⟩
theorem HR {l:List Fd}{n m:List UInt8}(h:cC n=cC m):bz l n=bz l m:=by
 unfold bz
 congr 1
 apply List.filter_congr
 intro f _
 exact(Ab h).symm
theorem zg {l:List Fd}{n:List UInt8}:(dq l n).2=false↔bz l n=[]:=by
 unfold dq
 cases bz l n with
 |nil=>simp
 |cons v r=>simp
theorem vy {n:List UInt8}(hn:∀f:Fd,dy f.1 n=true->dy f.1 xu=false):∀l:List Fd,bz (l.map qj) n=bz l n
 |[]=>rfl
 |f::r=>by
  have h1:(qj f).1=f.1:=by unfold qj;split <;> rfl
  have ih:=vy hn r
  rw[List.map_cons,gj,gj,ih,h1]
  cases hc:dy f.1 n with
  |false=>rfl
  |true=>
   have h2:=hn f hc
   have:qj f=f:=by unfold qj;rw[h2,Bool.and_false];rfl
   rw[this]
theorem nJ {a b:List UInt8}:dy a b=true↔cC a=cC b:=by
 unfold dy
 rw[Bool.and_eq_true,decide_eq_true_eq,decide_eq_true_eq]
 refine⟨fun h=>h.2,fun h=>⟨?_,h⟩⟩
 have:=congrArg List.length h
 simpa [cC]using this
theorem AY {a n m:List UInt8}(h:cC n≠cC m)(ha:dy a n=true):dy a m=false:=by
 rw[Bool.eq_false_iff]
 intro hc
 exact h ((nJ.1 ha).symm.trans (nJ.1 hc))
theorem ET {l:List Fd}{N:List (List UInt8)}{n:List UInt8}(h:∀m∈N,cC n≠cC m):bz (fm l N) n=bz l n:=by
 unfold bz fm
 rw[List.filter_filter]
 congr 1
 apply List.filter_congr
 intro f _
 cases hc:dy f.1 n with
 |false=>rfl
 |true=>
  rw[Bool.true_and]
  unfold jV
  rw[Bool.not_eq_true',List.any_eq_false]
  intro m hm c
  exact h m hm ((nJ.1 hc).symm.trans (nJ.1 c))
theorem nK {n m v:List UInt8}:bz [(m,v)] n=if dy m n then [v]else []:=by rw[gj];rfl
theorem Cr {X:List Fd}{n:List UInt8}(h:cC fJ≠cC n):bz (cN X) n=bz X n:=by
 have h0:dy fJ n=false:=by rw[Bool.eq_false_iff];exact fun c=>h (nJ.1 c)
 unfold cN
 split
 ·rfl
 ·rw[m0,nK,h0]
  simp
theorem Lm {st:Int}{X:List Fd}{D:List UInt8}(h:r6 st X D=true):bz X jA=[]:=by
 unfold r6 at h
 simp only[Bool.and_eq_true,Bool.not_eq_true']at h
 exact zg.1 h.1.1.2.1
theorem EU {l X:List Fd}{level st:Int}{D:List UInt8}(hce:bz X jA=[]):(bz (jv l level st X D).X jA=[]/\(jv l level st X D).D=D)\/(bz (jv l level st X D).X jA=[ie]/\j6 l=true/\r5 D level 0=0/\(jv l level st X D).D=gS D level 0/\bz (jv l level st X D).X vx=[vP (gS D level 0).length]):=by
 have hv:bz (cN X) jA=[]:=by rw[Cr (by decide)];exact hce
 unfold jv
 split
 ·split
  ·rename_i c2
   split
   ·rename_i c3
    refine .inr ⟨?_,c2,c3,rfl,?_⟩
    ·unfold kg
     rw[m0,vy (fun f hf=>AY (by decide) hf),ET (by intro m hm;simp at hm;rcases hm with rfl|rfl <;> decide),hv,gj,nK,if_pos (by decide),if_neg (by decide)]
     rfl
    ·unfold kg
     rw[m0,vy (fun f hf=>AY (by decide) hf),BL (m:=vx) (by simp) rfl,gj,nK,if_neg (by decide),if_pos (by decide)]
     rfl
   ·exact .inl ⟨hv,rfl⟩
  ·exact .inl ⟨hv,rfl⟩
 ·exact .inl ⟨hce,rfl⟩
end FD
namespace Sl
open Go Go.RowKit Sh
theorem Jm {l m:List UInt8}:((⟨l.toArray⟩:ByteArray)==(⟨m.toArray⟩:ByteArray))=decide (l=m):=by
 rw[<- C3,beq_toListBytes]
theorem HS {P:Program}{kt:TypeId}(hk:P.underlying kt=some .string):KeyLaw P kt bm where
 check:=fun b k w=>MapKept.run_checkKey (n:=9999) (d:= .string) hk (by simp[MapKept.IsKey,bm]) b
 eq:=fun k k' w=>by
  unfold bm Op.equal Op.maxDepth
  have:=run_equalIn_string (P:=P) (w:=w) 9999 kt ⟨k.toArray⟩ ⟨k'.toArray⟩ hk
  rw[this,C3]
 now:=⟨.string,hk,fun k k'=> .inr (by unfold bm;simp only[Instr.sameNow];rw[Jm])⟩
 same:=fun k=>by unfold bm;simp only[Instr.sameBits];rw[Jm];simp
end Sl
namespace FD
open Go Go.Proofs Go.RowKit Sh Sl T
theorem call {W:World}{l:List Fd}{n:List UInt8}{a:Option Addr}{c:Nat}{A:HP}(hA:k9 W A a l)(hl:zF l<=1100000)(hn:n.length<=4194304):
  Cn p_ 34 [.slice a l.length c,bm n] W [A] (fun _:Unit=> .tuple #[bm (nI l n),.bool (decide (0<(bz l n).length))]) (fun _=>[A]):=by
 obtain⟨h1,h2⟩:=kR n hl
 (refine Shp.cn (Sg.g_ Tryz.call34 Tryz.func34) fun F=>?_;simp only[ca_,na_])
 refine aB (uK (n:=n) hA (BM (by omega)) hn) (.cons (by repeat constructor) .nil) fun r=>?_
 obtain⟨va,vc⟩:=r
 refine aq ?_
 (try dsimp only)
 unfold nI at *
 refine aB (join (sep:=[44]) (by decide) (by decide) (by omega) (by omega)) (.cons (by repeat constructor) .nil) fun _=>?_
 refine aq ?_
 refine o_ aC (o_ aV ?_)
 rw[show decide ((0:Int)<((bz l n).length:Int))=decide (0<(bz l n).length)from decide_eq_decide.2 (by omega)]
 refine bq () ?_
 exact aw
theorem HT {W:World}{l p:List UInt8}(hl:l.length<=4611686018427387904)(hp:p.length<=4611686018427387904):Cn p_ 60 [bm l,bm p] W [] (fun _:Unit=> .bool (decide (l.take p.length=p))) (fun _=>[]):=by
 (refine Shp.cn (Sg.g_ Tryz.call60 Tryz.func60) fun F=>?_;simp only[ca_,na_])
 refine o_ ce (o_ ce (ay cH .nil (fun h=>?_) (fun h=>?_)))
 ·have h2:p.length<=l.length:=Int.ofNat_le.1 h
  refine ae (ae (ae (o_ ce (ae (o_ (qC p.length rfl h2) ?_)))))
  refine ae (ae (o_ cS (o_ ah (bq () ?_))))
  exact aw
 ·have h2:l.length<p.length:=by simp at h;omega
  refine af (af (af (af (af (af (o_ ag ?_))))))
  rw[dF_ (fun e=>by have:=congrArg List.length e;rw[List.length_take]at this;omega)]
  refine bq () ?_
  exact aw
def io (cs:List Ch)(n:List UInt8):Option Value:=(iQ cs n).map fun q=> .int .i64 q
theorem EV:io []=fun _=>none:=rfl
theorem t6 {cs:List Ch}{n:List UInt8}:(io cs n).isSome=(iQ cs n).isSome:=by unfold io;cases iQ cs n <;> rfl
theorem EW {cs:List Ch}{c:Ch}(h:(io cs (xw c)).isSome=true):io (cs++[c])=io cs:=by
 rw[t6]at h
 funext n
 show(iQ (cs++[c]) n).map (fun q=>Value.int .i64 q)=(iQ cs n).map fun q=>Value.int .i64 q
 rw[xx]
 cases hw:iQ cs n with
 |some q=>rfl
 |none=>
  by_cases e:xw c=n
  ·subst e
   rw[hw]at h
   cases h
  ·simp[e]
theorem EX {cs:List Ch}{c:Ch}(h:(io cs (xw c)).isSome=false):io (cs++[c])=B6 (io cs) (xw c) (some (.int .i64 c.2)):=by
 rw[t6]at h
 funext n
 show(iQ (cs++[c]) n).map (fun q=>Value.int .i64 q)=if n=xw c then some (.int .i64 c.2)else(iQ cs n).map fun q=>Value.int .i64 q
 rw[xx]
 by_cases e:n=xw c
 ·subst e
  cases hw:iQ cs (xw c)with
  |some q=>rw[hw]at h;cases h
  |none=>simp
 ·rw[if_neg e]
  cases hw:iQ cs n with
  |some q=>rfl
  |none=>
   have e2:¬xw c=n:=fun d=>e d.symm
   simp[e2]
theorem AZ {W:World}{n:List UInt8}{o:Int}{cs:List Ch}{gw g:Nat}:
  Cn p_ 36 [bm n,.int .i64 o,.pointer (some ⟨gw,0,none⟩)] W [pt gw (.cells #[.map (some g)] 65),eG g bm (io cs)] (fun _:Unit=> .int .i64 (Gb cs n o)) (fun _=>[pt gw (.cells #[.map (some g)] 65),eG g bm (io cs)]):=by
 (refine Shp.cn (Sg.g_ Tryz.call36 Tryz.func36 (an:={loops:=[(2,[12])]})) fun F=>?_;simp only[ca_,na_])
 refine o_ b_ ?_
 refine a_ (fun m y=>pu (∃i:Nat,m+i=2/\y= .int .i64 (i:Int)/\(1<=i->iQ cs n=none)/\(2<=i->iQ cs kP=none))::pt gw (.cells #[.map (some g)] 65)::eG g bm (io cs)::F) 2 ?_ ?_
 ·refine .pu ⟨0,rfl,rfl,by omega,by omega⟩ ?_
  exact aw
 intro m ds y
 refine aG .here fun hi=>?_
 obtain⟨i,hmi,rfl,h1,h2⟩:=hi
 refine o_ az ?_
 have hi2:i=0\/i=1\/i=2:=by omega
 rcases hi2 with rfl|rfl|rfl
 ·rw[dT_ (by decide)]
  refine ab (o_ (lH (v:=bm n) 0 rfl (by decide) rfl) ?_)
  refine bJ ?_
  refine om (HS Tryz.underlying9) (by repeat constructor) ?_
  by_cases hs:∃q,iQ cs n=some q
  ·obtain⟨q,hw⟩:=hs
   rw[show io cs n=some (.int .i64 q) by unfold io;rw[hw];rfl]
   simp only[Option.isSome_some,Option.getD_some]
   refine o_ (bk (v:= .int .i64 q) rfl) ?_
   refine o_ (bk (v:= .bool true) rfl) ?_
   refine ab (aR () (by unfold Gb;rw[hw]) ?_)
   exact aw
  ·have hw:iQ cs n=none:=by
    cases h:iQ cs n with
    |none=>rfl
    |some q=>exact absurd ⟨q,h⟩ hs
   rw[show io cs n=none by unfold io;rw[hw];rfl]
   simp only[Option.isSome_none]
   refine o_ (bk (v:=_) rfl) ?_
   refine o_ (bk (v:= .bool false) rfl) ?_
   refine aa (bG ?_)
   refine aK (m-1) (by omega) (.pu ⟨1,by omega,rfl,fun _=>hw,by omega⟩ ?_)
   exact aw
 ·rw[dT_ (by decide)]
  refine ab (o_ (lH (v:=bm kP) 1 rfl (by decide) rfl) ?_)
  refine bJ ?_
  refine om (HS Tryz.underlying9) (by repeat constructor) ?_
  by_cases hs:∃q,iQ cs kP=some q
  ·obtain⟨q,hw⟩:=hs
   rw[show io cs kP=some (.int .i64 q) by unfold io;rw[hw];rfl]
   simp only[Option.isSome_some,Option.getD_some]
   refine o_ (bk (v:= .int .i64 q) rfl) ?_
   refine o_ (bk (v:= .bool true) rfl) ?_
   refine ab (aR () (by unfold Gb;rw[h1 (by omega),hw]) ?_)
   exact aw
  ·have hw:iQ cs kP=none:=by
    cases h:iQ cs kP with
    |none=>rfl
    |some q=>exact absurd ⟨q,h⟩ hs
   rw[show io cs kP=none by unfold io;rw[hw];rfl]
   simp only[Option.isSome_none]
   refine o_ (bk (v:=_) rfl) ?_
   refine o_ (bk (v:= .bool false) rfl) ?_
   refine aa (bG ?_)
   refine aK (m-1) (by omega) (.pu ⟨2,by omega,rfl,fun _=>h1 (by omega),fun _=>hw⟩ ?_)
   exact aw
 ·rw[dF_ (by decide)]
  refine aa (aR () (by unfold Gb;rw[h1 (by omega),h2 (by omega)]) ?_)
  exact aw
theorem HU {l:List Fd}(hl:zF l<=1100000):(Ll l).length<=1500001:=by
 have h1:=(kR iP hl).1
 have hn:=k7 (q:=false) (e:=false) (l:=nI l iP)
 unfold Ll fC fk
 split
 ·show(List.map _ _).length<=_
  rw[List.length_map];omega
 ·simp[nR]
theorem choose {W : World} [hG : Gl W] {l : List Fd} {a : Option Addr} {c : Nat} {A : HP} (hA : k9 W A a l) (hl : zF l <= 1100000) :
  Cn p_ 16 [.slice a l.length c] W [A] (fun _ : Unit => bm (pG l)) (fun _ => [A]) := by
 obtain ⟨h1, h2⟩ := kR iP hl
 have hnum := HU hl
 (refine Shp.cn (Sg.g_ Tryz.call16 Tryz.func16 (an := { cuts := [(12, [10])], loops := [(7, [34])] })) fun F => ?_; simp only [ca_, na_])
 refine aB (call (n := iP) hA hl (by decide)) (.cons (by repeat constructor) .nil) fun _ => ?_
 (try simp only [ca_, na_, -eq_self])
 refine am (bk rfl) .nil ?_
 refine am (bk rfl) .nil ?_
 refine aB (GY (l := nI l iP) (by omega)) .nil fun r => ?_
 obtain ⟨ra, rc⟩ := r
 (try simp only [ca_, na_, -eq_self])
 (try dsimp only)
 refine am (bk rfl) .nil ?_
 refine am (bk rfl) .nil ?_
 unfold pG j6
 rw [show (nR (fC (nI l iP))).1 = Ll l from rfl]
 cases hs : decide (0 < (bz l iP).length) with
 | false =>
  simp only [Bool.false_and, Bool.false_eq_true, if_false]
  refine am dh .nil ?_; refine ao ?_; refine ao ?_; refine am ah .nil ?_; refine ab ?_
  (first | refine aR (()) rfl ?_ | refine dR (()) ?_)
  (repeat (first | exact .refl | exact .nil | (apply Imp.pick; (focus ((repeat constructor); done))) | refine .drop ?_))
 | true =>
 refine am dJ .nil ?_; refine ae ?_; refine ae ?_
 refine am bK .nil ?_
 by_cases he : (nR (fC (nI l iP))).2 = 0
 rotate_left
 ·rw [dT_ he, dF_ he]
  simp only [Bool.and_false, Bool.false_and, Bool.false_eq_true, if_false]
  refine am ag .nil ?_; refine ab ?_
  (first | refine aR (()) rfl ?_ | refine dR (()) ?_)
  (repeat (first | exact .refl | exact .nil | (apply Imp.pick; (focus ((repeat constructor); done))) | refine .drop ?_))
 rw [dF_ (fun e => e he), dT_ he]
 simp only [Bool.true_and]
 obtain ⟨C, hC⟩ : ∃ C, C = Ll l := ⟨_, rfl⟩
 rw [<- hC] at hnum ⊢
 refine am ag .nil ?_; refine aa ?_
 refine Jb bm fun g => ?_
 rw [<- EV]
 refine dx fun g => ?_; (((refine' eR ?hp ?ho ?_); (case hp => (repeat constructor)); (case ho => repeat constructor))); refine am aC .nil ?_
 rename Nat => gw
 refine aF (by (repeat constructor) : Pick _ (Sl 2 67 ra rc C.length (C.flatMap dV)) _) fun _ _ _ hsl => ?_
 refine a_ (fun m y => ex (fun i : Nat => all [pu (m + i = C.length /\ y = .int .i64 (i : Int)), eG g bm (io (C.take i))]) :: Sl 2 67 ra rc C.length (C.flatMap dV) :: pt gw (.cells #[.map (some g)] 65) :: A :: F) C.length ?_ ?_
 ·refine .ex 0 (.all ?_)
  (try simp only [ca_, na_, -eq_self])
  refine .pu ⟨rfl, rfl⟩ ?_
  (repeat (first | exact .refl | exact .nil | (apply Imp.pick; (focus ((repeat constructor); done))) | refine .drop ?_))
 intro m ds y
 refine aH Pick.here fun i => ap Pick.here ?_
 (try simp only [ca_, na_, -eq_self])
 refine aG Pick.here fun hi => ?_
 obtain ⟨hmi, rfl⟩ := hi
 refine ay az .nil (fun h => ?_) (fun h => ?_)
 ·have hin : i < C.length := by omega
  obtain ⟨ga, rfl⟩ := hsl (by omega)
  have hta := List.take_succ_eq_append_getElem hin
  refine ab ?_
  refine am (cR i rfl hin) .nil ?_
  refine am (BP hin rfl) (.pick (by repeat constructor) .nil) ?_
  obtain ⟨x, hx⟩ : ∃ x, x = C[i] := ⟨_, rfl⟩
  rw [<- hx] at hta ⊢
  obtain ⟨xn, xq⟩ := x
  unfold jG
  (try dsimp only)
  refine bp fun g => ?_; (((refine' bS ?hp ?hn ?hv ?h1 ?_); (case hp => (repeat constructor)); (case hn => rfl); (case hv => rfl); (case h1 => (intro u hu; simp at hu; rcases hu with rfl | rfl <;> rfl)))); refine am aj .nil ?_; (((refine' am (bC ?hc) ?hi ?_); (case hi => exact .pick (by repeat constructor) .nil); (case hc => repeat constructor)))
  rename Nat => b9
  refine dD (fun z => pu (z = bm (xw (xn, xq))) :: eG g bm (io (C.take i)) :: Sl 2 67 (some ⟨ga, 0, none⟩) rc C.length (C.flatMap dV) :: pt gw (.cells #[.map (some g)] 65) :: pt b9 (.cells #[bm xn, .int .i64 xq] 67) :: A :: F) ?_ ?_
  rotate_left
  ·refine am (cS (m := Lk)) .nil ?_
   by_cases hg : xn = Lk
   ·rw [dT_ hg]
    refine ab ?_
    refine aD (.pu (by unfold xw; rw [if_pos hg]; rfl) ?_)
    (repeat (first | exact .refl | exact .nil | (apply Imp.pick; (focus ((repeat constructor); done))) | refine .drop ?_))
   ·rw [dF_ hg]
    refine aa ?_
    refine aD (.pu (by unfold xw; rw [if_neg hg]) ?_)
    (repeat (first | exact .refl | exact .nil | (apply Imp.pick; (focus ((repeat constructor); done))) | refine .drop ?_))
  intro ds2 z
  refine aG .here fun hz => ?_
  subst hz
  (((refine' am (bC ?hc) ?hi ?_); (case hi => exact .pick (by repeat constructor) .nil); (case hc => repeat constructor)))
  refine om (HS Tryz.underlying9) (by repeat constructor) ?_
  refine am (bk (v := _) rfl) .nil ?_
  refine am (bk (v := .bool (io (C.take i) (xw (xn, xq))).isSome) rfl) .nil ?_
  cases hw : (io (C.take i) (xw (xn, xq))).isSome with
  | true =>
   refine am dJ .nil ?_; refine aa ?_; (refine am (bU (by omega) (by omega)) .nil ?_)
   (try refine am (bU (by omega) (by omega)) .nil ?_)
   refine aK (m - 1) (by omega) (.ex (i + 1) (.all ?_))
   (try simp only [ca_, na_, -eq_self])
   rw [hta, EW hw]
   refine .pu ⟨by omega, by norm_cast⟩ ?_
   (repeat (first | exact .refl | exact .nil | (apply Imp.pick; (focus ((repeat constructor); done))) | refine .drop ?_))
  | false =>
   refine am dh .nil ?_; refine ab ?_; (((refine' am (bC ?hc) ?hi ?_); (case hi => exact .pick (by repeat constructor) .nil); (case hc => repeat constructor))); refine am aj .nil ?_; (((refine' am (bC ?hc) ?hi ?_); (case hi => exact .pick (by repeat constructor) .nil); (case hc => repeat constructor)))
   refine KP (HS Tryz.underlying9) (by repeat constructor) ?_
   rw [<- EX (c := (xn, xq)) hw, <- hta]
   refine am (bU (by omega) (by omega)) .nil ?_
   refine aK (m - 1) (by omega) (.ex (i + 1) (.all ?_))
   (try simp only [ca_, na_, -eq_self])
   refine .pu ⟨by omega, by norm_cast⟩ ?_
   (repeat (first | exact .refl | exact .nil | (apply Imp.pick; (focus ((repeat constructor); done))) | refine .drop ?_))
 ·have : i = C.length := by omega
  subst this
  rw [List.take_length]
  refine aa ?_
  refine am gI .nil ?_
  refine dS (cap := [.pointer (some ⟨gw, 0, none⟩)]) (AZ (n := ie) (o := 0) (cs := C)) (by (repeat (first | exact Picks.nil | (apply Picks.cons; (focus repeat constructor))))) fun _ => ?_
  (try simp only [ca_, na_, -eq_self])
  refine am aV .nil ?_
  by_cases q1 : 0 < Gb C ie 0
  rotate_left
  ·rw [dF_ q1]
   simp only [Bool.false_and, Bool.false_eq_true, if_false]
   refine af ?_; refine af ?_; refine af ?_; refine af ?_; refine am ag .nil ?_; refine aa ?_
   (first | refine aR (()) rfl ?_ | refine dR (()) ?_)
   (repeat (first | exact .refl | exact .nil | (apply Imp.pick; (focus ((repeat constructor); done))) | refine .drop ?_))
  rw [dT_ q1]
  simp only [Bool.true_and]
  refine ae ?_; refine ae ?_; refine ae ?_
  refine dS (cap := [.pointer (some ⟨gw, 0, none⟩)]) (AZ (n := ze) (o := 1) (cs := C)) (by (repeat (first | exact Picks.nil | (apply Picks.cons; (focus repeat constructor))))) fun _ => ?_
  (try simp only [ca_, na_, -eq_self])
  refine ae ?_
  refine am cH .nil ?_
  by_cases q2 : Gb C ze 1 <= Gb C ie 0
  ·rw [dT_ q2]
   simp only [if_true]
   refine am ah .nil ?_; refine ab ?_
   (first | refine aR (()) rfl ?_ | refine dR (()) ?_)
   (repeat (first | exact .refl | exact .nil | (apply Imp.pick; (focus ((repeat constructor); done))) | refine .drop ?_))
  ·rw [dF_ q2]
   simp only [Bool.false_eq_true, if_false]
   refine am ah .nil ?_; refine aa ?_
   (first | refine aR (()) rfl ?_ | refine dR (()) ?_)
   (repeat (first | exact .refl | exact .nil | (apply Imp.pick; (focus ((repeat constructor); done))) | refine .drop ?_))
theorem HV {W:World}{l p:List UInt8}(hl:l.length<=4611686018427387904)(hp:p.length<=4611686018427387904):Cn p_ 42 [bm l,bm p] W [] (fun _:Unit=> .bool (decide (l.take p.length=p))) (fun _=>[]):=by
 (refine Shp.cn (Sg.g_ Tryz.call42 Tryz.func42) fun F=>?_;simp only[ca_,na_])
 refine c_ (HT hl hp) fun _=>?_
 refine bq () ?_
 exact aw
theorem EY {X:List Fd}(hX:zF X<=1100000):(Cp X).length<=1500001:=by
 have h1:=(kR Lj hX).1
 have hn:=k7 (q:=true) (e:=true) (l:=nI X Lj)
 unfold Cp qF fk
 split
 ·show(List.map _ _).length<=_
  rw[List.length_map];omega
 ·simp[nR]
theorem Cs {X:List Fd}{n:List UInt8}(hX:zF X<=1100000):(dq X n).1.length<=1100000:=by
 unfold dq
 split
 ·simp
 ·rename_i v r hv
  obtain⟨f,hf,rfl⟩:=Dz (show v∈bz X n by rw[hv];exact List.mem_cons_self)
  have:=DC hf
  show f.2.length<=_
  omega
theorem A1 (c:UInt8):∀l:List UInt8,(cu c l).length<=l.length
 |[]=>Nat.le_refl _
 |x::r=>by
  have:=A1 c r
  unfold cu
  split
  ·simp
  ·simp only[List.length_cons];omega
theorem fit {W : World} {st : Int} {X : List Fd} {D : List UInt8} {ax ad : Option Addr} {cx cd : Nat} {A : HP} (hA : k9 W A ax X) (hX : zF X <= 1100000) (hD : D.length <= 4611686018427387904) :
  Cn p_ 18 [.agg #[.int .i64 st, .slice ax X.length cx, .slice ad D.length cd]] W [A] (fun _ : Unit => .bool (r6 st X D)) (fun _ => [A]) := by
 have hok := BM (l := X) (by omega)
 have hfl := Cs (n := pF) hX
 obtain ⟨ha1, ha2⟩ := kR Lj hX
 have hnum := EY hX
 (refine Shp.cn (Sg.g_ Tryz.call18 Tryz.func18 (an := { cuts := [(13, [52])], loops := [(4, [25]), (20, [72])] })) fun F => ?_; simp only [ca_, na_])
 refine bV fun b1 => ?_
 refine am aj .nil ?_; (((refine' am (bC ?hc) ?hi ?_); (case hi => exact .pick (by repeat constructor) .nil); (case hc => repeat constructor)))
 refine am bK .nil ?_
 by_cases h1 : st = 200
 rotate_left
 ·rw [dT_ h1]
  refine ao ?_; refine ao ?_; refine ao ?_; refine ao ?_; refine am ah .nil ?_; refine ab ?_
  refine aR () (by unfold r6; rw [dF_ h1]; rfl) ?_
  (repeat (first | exact .refl | exact .nil | (apply Imp.pick; (focus ((repeat constructor); done))) | refine .drop ?_))
 rw [dF_ (fun e => e h1)]
 refine ae ?_; refine am aj .nil ?_; refine ae ?_; (((refine' am (bC ?hc) ?hi ?_); (case hi => exact .pick (by repeat constructor) .nil); (case hc => repeat constructor))); refine ae ?_; refine am aC .nil ?_; refine ae ?_
 (try refine am aC .nil ?_)
 refine am az .nil ?_
 by_cases h2 : (D.length : Int) < 32
 ·rw [dT_ h2]
  refine am ag .nil ?_; refine ab ?_
  refine aR () (by unfold r6; rw [dT_ h1, dF_ (show ¬ 32 <= D.length by omega)]; rfl) ?_
  (repeat (first | exact .refl | exact .nil | (apply Imp.pick; (focus ((repeat constructor); done))) | refine .drop ?_))
 rw [dF_ h2]
 have hfit : r6 st X D = ((!(dq X jA).2 && !(dq X Co).2) && zf (xy X) && !(Cp X).any fun d => decide (d.name = ES)) := by
  unfold r6
  rw [dT_ h1, dT_ (show 32 <= D.length by omega)]
  simp only [Bool.and_self, Bool.true_and]
 rw [hfit]
 refine am ag .nil ?_; refine aa ?_; refine am b_ .nil ?_
 refine a_ (fun m y => pu (∃ i : Nat, m + i = 2 /\ y = .int .i64 (i : Int) /\ (1 <= i -> (dq X jA).2 = false) /\ (2 <= i -> (dq X Co).2 = false)) :: A :: pt b1 (.cells #[.int .i64 st, .slice ax X.length cx, .slice ad D.length cd] 25) :: F) 2 ?_ ?_
 ·refine .pu ⟨0, rfl, rfl, by omega, by omega⟩ ?_
  (repeat (first | exact .refl | exact .nil | (apply Imp.pick; (focus ((repeat constructor); done))) | refine .drop ?_))
 intro m ds y
 refine aG .here fun hi => ?_
 obtain ⟨i, hmi, rfl, k1, k2⟩ := hi
 refine am az .nil ?_
 have hi2 : i = 0 \/ i = 1 \/ i = 2 := by omega
 rcases hi2 with rfl | rfl | rfl
 ·rw [dT_ (by decide)]
  refine ab ?_
  refine am (lH (v := bm jA) 0 rfl (by decide) rfl) .nil ?_
  refine am aj .nil ?_; (((refine' am (bC ?hc) ?hi ?_); (case hi => exact .pick (by repeat constructor) .nil); (case hc => repeat constructor)))
  refine aB (first (n := jA) hA hok (by decide)) (.cons (by repeat constructor) .nil) fun _ => ?_
  (try simp only [ca_, na_, -eq_self])
  (((refine' am (bM ?hc) .nil ?_); (case hc => repeat constructor))); (((refine' am (bM ?hc) .nil ?_); (case hc => repeat constructor)))
  cases hw : (dq X jA).2 with
  | true =>
   refine ab ?_
   (first | refine aR (()) rfl ?_ | refine dR (()) ?_)
   (repeat (first | exact .refl | exact .nil | (apply Imp.pick; (focus ((repeat constructor); done))) | refine .drop ?_))
  | false =>
   refine aa ?_; (refine am (bU (by omega) (by omega)) .nil ?_)
   refine aK (m - 1) (by omega) (.pu ⟨1, by omega, rfl, fun _ => rfl, by omega⟩ ?_)
   (repeat (first | exact .refl | exact .nil | (apply Imp.pick; (focus ((repeat constructor); done))) | refine .drop ?_))
 ·rw [dT_ (by decide)]
  refine ab ?_
  refine am (lH (v := bm Co) 1 rfl (by decide) rfl) .nil ?_
  refine am aj .nil ?_; (((refine' am (bC ?hc) ?hi ?_); (case hi => exact .pick (by repeat constructor) .nil); (case hc => repeat constructor)))
  refine aB (first (n := Co) hA hok (by decide)) (.cons (by repeat constructor) .nil) fun _ => ?_
  (try simp only [ca_, na_, -eq_self])
  (((refine' am (bM ?hc) .nil ?_); (case hc => repeat constructor))); (((refine' am (bM ?hc) .nil ?_); (case hc => repeat constructor)))
  rw [k1 (by omega)]
  cases hw : (dq X Co).2 with
  | true =>
   refine ab ?_
   (first | refine aR (()) rfl ?_ | refine dR (()) ?_)
   (repeat (first | exact .refl | exact .nil | (apply Imp.pick; (focus ((repeat constructor); done))) | refine .drop ?_))
  | false =>
   refine aa ?_; (refine am (bU (by omega) (by omega)) .nil ?_)
   refine aK (m - 1) (by omega) (.pu ⟨2, by omega, rfl, fun _ => rfl, fun _ => rfl⟩ ?_)
   (repeat (first | exact .refl | exact .nil | (apply Imp.pick; (focus ((repeat constructor); done))) | refine .drop ?_))
 rw [dF_ (by decide)]
 rw [k1 (by omega), k2 (by omega)]
 simp only [Bool.not_false, Bool.and_self, Bool.true_and]
 refine aa ?_; refine am aj .nil ?_; (((refine' am (bC ?hc) ?hi ?_); (case hi => exact .pick (by repeat constructor) .nil); (case hc => repeat constructor)))
 refine aB (first (n := pF) hA hok (by decide)) (.cons (by repeat constructor) .nil) fun _ => ?_
 (try simp only [ca_, na_, -eq_self])
 (((refine' am (bM ?hc) .nil ?_); (case hc => repeat constructor))); (((refine' am (bM ?hc) .nil ?_); (case hc => repeat constructor)))
 have hcl := A1 59 (dq X pF).1
 have htl := kq (cu 59 (dq X pF).1)
 refine aB (GG (l := (dq X pF).1) (c := 59) (by omega)) .nil fun _ => ?_
 (try simp only [ca_, na_, -eq_self])
 (((refine' am (bM ?hc) .nil ?_); (case hc => repeat constructor))); (((refine' am (bM ?hc) .nil ?_); (case hc => repeat constructor))); (((refine' am (bM ?hc) .nil ?_); (case hc => repeat constructor)))
 refine aB (wz (l := cu 59 (dq X pF).1) (by omega)) .nil fun _ => ?_
 (try simp only [ca_, na_, -eq_self])
 refine aB (mU (l := bX (cu 59 (dq X pF).1)) (by omega)) .nil fun _ => ?_
 (try simp only [ca_, na_, -eq_self])
 rw [show cC (bX (cu 59 (dq X pF).1)) = xy X from rfl]
 have hkl : (xy X).length <= 1100000 := by
  show (cC (bX (cu 59 (dq X pF).1))).length <= _
  unfold cC
  rw [List.length_map]
  omega
 obtain ⟨kk, hkk⟩ : ∃ kk, kk = xy X := ⟨_, rfl⟩
 rw [<- hkk] at hkl ⊢
 refine dD (fun z => pu (z = .bool (zf kk)) :: A :: pt b1 (.cells #[.int .i64 st, .slice ax X.length cx, .slice ad D.length cd] 25) :: F) ?_ ?_
 rotate_left
 ·refine aB (HV (l := kk) (p := AW) (by omega) (by decide)) .nil fun _ => ?_
  (try simp only [ca_, na_, -eq_self])
  rw [show AW.length = 5 from rfl]
  by_cases p1 : kk.take 5 = AW
  ·rw [dT_ p1]
   refine ab ?_
   refine aD (.pu (by unfold zf; rw [dT_ p1]; rfl) ?_)
   (repeat (first | exact .refl | exact .nil | (apply Imp.pick; (focus ((repeat constructor); done))) | refine .drop ?_))
  rw [dF_ p1]
  refine aa ?_
  refine am (cS (m := ER)) .nil ?_
  by_cases p2 : kk = ER
  ·rw [dT_ p2]
   refine ab ?_
   refine aD (.pu (by unfold zf; rw [dT_ p2, Bool.or_true]; rfl) ?_)
   (repeat (first | exact .refl | exact .nil | (apply Imp.pick; (focus ((repeat constructor); done))) | refine .drop ?_))
  rw [dF_ p2]
  refine aa ?_
  refine am (cS (m := Pu)) .nil ?_
  refine aD (.pu (by unfold zf; rw [dF_ p1, dF_ p2]; rfl) ?_)
  (repeat (first | exact .refl | exact .nil | (apply Imp.pick; (focus ((repeat constructor); done))) | refine .drop ?_))
 intro ds2 z
 refine aG .here fun hz => ?_
 subst hz
 cases hkn : zf kk with
 | false =>
  simp only [Bool.false_and]
  refine aa ?_
  (first | refine aR (()) rfl ?_ | refine dR (()) ?_)
  (repeat (first | exact .refl | exact .nil | (apply Imp.pick; (focus ((repeat constructor); done))) | refine .drop ?_))
 | true =>
 simp only [Bool.true_and]
 refine ab ?_; refine am aj .nil ?_; (((refine' am (bC ?hc) ?hi ?_); (case hi => exact .pick (by repeat constructor) .nil); (case hc => repeat constructor)))
 refine aB (call (n := Lj) hA hX (by decide)) (.cons (by repeat constructor) .nil) fun _ => ?_
 (try simp only [ca_, na_, -eq_self])
 (((refine' am (bM ?hc) .nil ?_); (case hc => repeat constructor))); (((refine' am (bM ?hc) .nil ?_); (case hc => repeat constructor)))
 refine aB (yL (l := nI X Lj) (by omega)) .nil fun r => ?_
 obtain ⟨ra, rc⟩ := r
 (try simp only [ca_, na_, -eq_self])
 (try dsimp only)
 (((refine' am (bM ?hc) .nil ?_); (case hc => repeat constructor))); (((refine' am (bM ?hc) .nil ?_); (case hc => repeat constructor))); refine am aC .nil ?_
 rw [show (nR (qF (nI X Lj))).1 = Cp X from rfl]
 obtain ⟨C, hC⟩ : ∃ C, C = Cp X := ⟨_, rfl⟩
 rw [<- hC] at hnum ⊢
 (try refine am aC .nil ?_)
 refine aF (by (repeat constructor) : Pick _ (Sl 3 78 ra rc C.length (C.flatMap mX)) _) fun _ _ _ hsl => ?_
 refine a_ (fun m y => pu (∃ i : Nat, m + i = C.length /\ y = .int .i64 (i : Int) /\ (C.take i).any (fun d => decide (d.name = ES)) = false) :: Sl 3 78 ra rc C.length (C.flatMap mX) :: A :: F) C.length ?_ ?_
 ·refine .pu ⟨0, rfl, rfl, rfl⟩ ?_
  (repeat (first | exact .refl | exact .nil | (apply Imp.pick; (focus ((repeat constructor); done))) | refine .drop ?_))
 intro m2 ds3 y2
 refine aG .here fun hi => ?_
 obtain ⟨i, hmi2, rfl, hno⟩ := hi
 refine ay az .nil (fun h => ?_) (fun h => ?_)
 ·have hin : i < C.length := by omega
  obtain ⟨ga, rfl⟩ := hsl (by omega)
  have hta := List.take_succ_eq_append_getElem hin
  refine ab ?_
  refine am (cR i rfl hin) .nil ?_
  refine am (KA hin rfl) (.pick (by repeat constructor) .nil) ?_
  have hmem := List.getElem_mem hin
  obtain ⟨x, hx⟩ : ∃ x, x = C[i] := ⟨_, rfl⟩
  rw [<- hx] at hta hmem ⊢
  obtain ⟨xn, xv, xh⟩ := x
  unfold yJ
  refine bp fun g => ?_; (((refine' bS ?hp ?hn ?hv ?h1 ?_); (case hp => (repeat constructor)); (case hn => rfl); (case hv => rfl); (case h1 => (intro u hu; simp at hu; rcases hu with rfl | rfl | rfl <;> rfl)))); refine am aj .nil ?_; (((refine' am (bC ?hc) ?hi ?_); (case hi => exact .pick (by repeat constructor) .nil); (case hc => repeat constructor)))
  refine am (cS (m := ES)) .nil ?_
  by_cases hg : xn = ES
  ·rw [dT_ hg]
   refine ab ?_
   refine aR () (by rw [List.any_eq_true.2 ⟨_, hmem, dT_ hg⟩]; rfl) ?_
   (repeat (first | exact .refl | exact .nil | (apply Imp.pick; (focus ((repeat constructor); done))) | refine .drop ?_))
  ·rw [dF_ hg]
   refine aa ?_; (refine am (bU (by omega) (by omega)) .nil ?_)
   (try refine am (bU (by omega) (by omega)) .nil ?_)
   refine aK (m2 - 1) (by omega) (.pu ⟨i + 1, by omega, by norm_cast, by rw [hta, List.any_append, hno]; simp [hg]⟩ ?_)
   (repeat (first | exact .refl | exact .nil | (apply Imp.pick; (focus ((repeat constructor); done))) | refine .drop ?_))
 ·have : i = C.length := by omega
  subst this
  rw [List.take_length] at hno
  rw [hno]
  refine aa ?_
  (first | refine aR (()) rfl ?_ | refine dR (()) ?_)
  (repeat (first | exact .refl | exact .nil | (apply Imp.pick; (focus ((repeat constructor); done))) | refine .drop ?_))
theorem Lo {W:World}{X:List Fd}{a:Option Addr}{c:Nat}:Cn p_ 49 [.slice a X.length c] W [] (fun b:Nat=> .func (.func 78) #[] [.pointer (some ⟨b,0,none⟩)].toArray) (fun b=>[pt b (.cells #[.slice a X.length c] 22)]):=by
 (refine Shp.cn (Sg.g_ Tryz.call49 Tryz.func49) fun F=>?_;simp only[ca_,na_])
 refine fb fun b=>?_
 refine o_ gI (bq b ?_)
 exact .refl
def Ct (V:List (List UInt8))(i:Nat):Nat:=((V.take i).flatMap (pM 44)).length
theorem EZ {V:List (List UInt8)}{i:Nat}(h:i<V.length):Ct V (i+1)=Ct V i+(pM 44 V[i]).length:=by
 unfold Ct
 rw[List.take_succ_eq_append_getElem h,List.flatMap_append,List.length_append]
 simp
theorem HW (V:List (List UInt8)):Ct V V.length=(V.flatMap (pM 44)).length:=by unfold Ct;rw[List.take_length]
theorem HX {V:List (List UInt8)}{i j:Nat}(h:i<V.length)(hj:j<(pM 44 V[i]).length):(V.flatMap (pM 44))[Ct V i+j]? =some (pM 44 V[i])[j]:=by
 have e:V=V.take i++V[i]::V.drop (i+1):=by
  rw[<- List.drop_eq_getElem_cons h,List.take_append_drop]
 have e2:V.flatMap (pM 44)=(V.take i).flatMap (pM 44)++(pM 44 V[i]++(V.drop (i+1)).flatMap (pM 44)):=by
  conv=>lhs;rw[e]
  rw[List.flatMap_append,List.flatMap_cons]
 rw[e2,List.getElem?_append_right (by unfold Ct;omega),show Ct V i+j-((V.take i).flatMap (pM 44)).length=j by unfold Ct;omega,List.getElem?_append_left hj,List.getElem?_eq_getElem hj]
def vz (X:List Fd):List (List Value):=(sQ X).map fun w=>[bm w]
theorem r7 (X:List Fd):(vz X).length=(sQ X).length:=by unfold vz;rw[List.length_map]
theorem HY {W : World} {X : List Fd} {a : Option Addr} {c bl l : Nat} {A : HP} {G : Nat -> HP} {Gx T T' : HP} (hA : k9 W A a X) (hX : zF X <= 2097152)
  (hy : kl p_ l (vz X) (fun k => all [T, all [pt bl (.cells #[.slice a X.length c] 22), A, G k]]) (all [T', Gx]) W) :
  Cn p_ 78 [yv l, .pointer (some ⟨bl, 0, none⟩)] W [all [T, all [pt bl (.cells #[.slice a X.length c] 22), A, G 0]]] (fun _ : Bool => .tuple #[]) (fun b => [if b then all [T, all [pt bl (.cells #[.slice a X.length c] 22), A, G (sQ X).length]] else all [T', Gx]]) := by
 have hok := BM (l := X) (by omega)
 have hzl := m6 X
 have hvl := jo X fJ
 have hz2 := m7 X fJ
 (refine Shp.cn (Sg.g_ Tryz.call78 Tryz.func78 (an := { loops := [(1, [10]), (4, [17])] })) fun F => ?_; simp only [ca_, na_])
 refine ap .here ?_
 (try simp only [ca_, na_, -eq_self])
 refine ap (.there .here) ?_
 (try simp only [ca_, na_, -eq_self])
 (((refine' am (bC ?hc) ?hi ?_); (case hi => exact .pick (by repeat constructor) .nil); (case hc => repeat constructor)))
 refine aB (uK (n := fJ) hA hok (by decide)) (.cons (by repeat constructor) .nil) fun r => ?_
 obtain ⟨va, vc⟩ := r
 (try simp only [ca_, na_, -eq_self])
 (try dsimp only)
 unfold sQ at *
 obtain ⟨V, hV⟩ : ∃ V, V = bz X fJ := ⟨_, rfl⟩
 have hyV : ∀ k, (vz X)[k]? = ((V.flatMap (pM 44))[k]?).map fun w => [bm w] := fun k => by rw [hV]; unfold vz sQ; rw [List.getElem?_map]
 rw [<- hV] at hvl hz2 ⊢
 refine am aC .nil ?_
 refine aF (by (repeat constructor) : Pick _ (Sl 1 9 va vc V.length (V.map bm)) _) fun _ _ _ hs => ?_
 have hN : RdB W (Sl 1 9 va vc V.length (V.map bm)) va V.length (V.map bm) := cq (by rw [List.length_map]) hs
 refine a_ (fun m y => [ex fun i : Nat => all [pu (m + i = V.length /\ y = .int .i64 (i : Int)), all [T, all [pt bl (.cells #[.slice a X.length c] 22), A, G (Ct V i)]]], Sl 1 9 va vc V.length (V.map bm)] ++ F) V.length ?_ ?_
 ·refine .ex 0 (.all ?_)
  (try simp only [ca_, na_, -eq_self])
  refine .pu ⟨by omega, rfl⟩ (.all ?_)
  (try simp only [ca_, na_, -eq_self])
  refine .pick (by repeat constructor) (.all ?_)
  (try simp only [ca_, na_, -eq_self])
  (repeat (first | exact .refl | exact .nil | (apply Imp.pick; (focus ((repeat constructor); done))) | refine .drop ?_))
 intro m ds y
 (try simp only [ca_, na_, -eq_self])
 refine aH Pick.here fun i => ap Pick.here ?_
 (try simp only [ca_, na_, -eq_self])
 refine aG Pick.here fun hi => ?_
 obtain ⟨hmi, rfl⟩ := hi
 refine ay az .nil (fun h => ?_) (fun h => ?_)
 ·have hin : i < V.length := by omega
  have hzm := uM (List.getElem_mem hin)
  obtain ⟨ng, rfl⟩ := hs (by omega)
  refine ab ?_
  refine am (bj i rfl hin) .nil ?_
  refine am (qU hN hin) (.pick (by repeat constructor) .nil) ?_
  refine aB (split (l := V[i]) (c := 44) (by omega)) .nil fun r => ?_
  obtain ⟨wa, wc⟩ := r
  (try simp only [ca_, na_, -eq_self])
  (try dsimp only)
  have hPl := (p9 44 _ V[i] (Nat.le_refl _)).1
  obtain ⟨P, hP⟩ : ∃ P, P = pM 44 V[i] := ⟨_, rfl⟩
  have hosu := EZ hin
  have hget : ∀ j (hj : j < P.length), (vz X)[Ct V i + j]? = some [bm P[j]] := fun j hj => by
   subst hP
   rw [hyV, HX hin hj]
   rfl
  rw [<- hP] at hosu hPl ⊢
  refine am aC .nil ?_
  refine aF (by (repeat constructor) : Pick _ (Sl 1 9 wa wc P.length (P.map bm)) _) fun _ _ _ hs2 => ?_
  have hN2 : RdB W (Sl 1 9 wa wc P.length (P.map bm)) wa P.length (P.map bm) := cq (by rw [List.length_map]) hs2
  refine a_ (fun m y => [ex fun j : Nat => all [pu (m + j = P.length /\ y = .int .i64 (j : Int)), all [T, all [pt bl (.cells #[.slice a X.length c] 22), A, G (Ct V i + j)]]], Sl 1 9 wa wc P.length (P.map bm), Sl 1 9 (some ⟨ng, 0, none⟩) vc V.length (V.map bm)] ++ F) P.length ?_ ?_
  ·refine .ex 0 (.all ?_)
   (try simp only [ca_, na_, -eq_self])
   refine .pu ⟨by omega, rfl⟩ ?_
   (repeat (first | exact .refl | exact .nil | (apply Imp.pick; (focus ((repeat constructor); done))) | refine .drop ?_))
  intro m2 ds2 y2
  (try simp only [ca_, na_, -eq_self])
  refine aH Pick.here fun j => ap Pick.here ?_
  (try simp only [ca_, na_, -eq_self])
  refine aG Pick.here fun hi => ?_
  obtain ⟨hmj, rfl⟩ := hi
  refine ay az .nil (fun h2 => ?_) (fun h2 => ?_)
  ·have hjn : j < P.length := by omega
   obtain ⟨pg, rfl⟩ := hs2 (by omega)
   refine ab ?_
   refine am (bj j rfl hjn) .nil ?_
   refine am (qU hN2 hjn) (.pick (by repeat constructor) .nil) ?_
   refine iZ hy (Ct V i + j) (hget j hjn) .here ?_ ?_
   ·refine am dJ .nil ?_
    refine aa ?_; (refine am (bU (by omega) (by omega)) .nil ?_)
    (try refine am (bU (by omega) (by omega)) .nil ?_)
    refine aK (m2 - 1) (by omega) (.ex (j + 1) (.all ?_))
    (try simp only [ca_, na_, -eq_self])
    refine .pu ⟨by omega, by norm_cast⟩ ?_
    rw [Nat.add_assoc]
    (repeat (first | exact .refl | exact .nil | (apply Imp.pick; (focus ((repeat constructor); done))) | refine .drop ?_))
   ·refine am dh .nil ?_
    refine ab ?_
    (first | refine aR (false) rfl ?_ | refine dR (false) ?_)
    (repeat (first | exact .refl | exact .nil | (apply Imp.pick; (focus ((repeat constructor); done))) | refine .drop ?_))
  ·have : j = P.length := by omega
   subst this
   refine aa ?_
   refine am (bU (by omega) (by omega)) .nil ?_
   refine aK (m - 1) (by omega) (.ex (i + 1) (.all ?_))
   (try simp only [ca_, na_, -eq_self])
   rw [hosu]
   refine .pu ⟨by omega, by norm_cast⟩ ?_
   (repeat (first | exact .refl | exact .nil | (apply Imp.pick; (focus ((repeat constructor); done))) | refine .drop ?_))
 ·have : i = V.length := by omega
  subst this
  rw [HW]
  refine aa ?_
  (first | refine aR (true) rfl ?_ | refine dR (true) ?_)
  (repeat (first | exact .refl | exact .nil | (apply Imp.pick; (focus ((repeat constructor); done))) | refine .drop ?_))
theorem HZ {X:List Fd}(hX:zF X<=2097152):∀w∈sQ X,w.length<=2097152:=fun w hw=>by
 obtain⟨v,hv,h⟩:=List.mem_flatMap.1 hw
 have h1:=(p9 44 _ v (Nat.le_refl _)).2 w h
 have h2:=uM hv
 have h3:=m7 X fJ
 omega
theorem SD {W:World}{o:Nat}{st:Int}{X:List Fd}{a:Option Addr}{c:Nat}{bd:Value}[OC bd](hX:zF X<=1100000):
  Cn p_ 30 [.pointer (some ⟨o,0,none⟩)] W [pt o (.cells #[.int .i64 st,.slice a X.length c,bd] 25),Sl 2 52 a c X.length (X.flatMap dO)] (fun _:Option Addr × Nat=> .bool true)
   (fun q=>[pt o (.cells #[.int .i64 st,.slice q.1 (cN X).length q.2,bd] 25),Sl 2 52 q.1 q.2 (cN X).length ((cN X).flatMap dO)]):=by
 have hzl:=m6 X
 have hlw:=HZ (X:=X) (by omega)
 (refine S.sJ.cn fun F=>?_;unfold S.pj;simp only[ca_,na_])
 refine dx fun b2=>?_
 refine aF (by(repeat constructor):Pick _ (Sl 2 52 a c X.length (X.flatMap dO)) _) fun _ _ _ hs=>?_
 refine o_ au (o_ aj (bJ ?_))
 refine aB Lo .nil fun bl=>?_
 refine aq ?_
 refine Bw (f:=78) (cap:=[.pointer (some ⟨bl,0,none⟩)]) (vz X)
  (fun k=>all [pt bl (.cells #[.slice a X.length c] 22),Sl 2 52 a c X.length (X.flatMap dO),all [pu (((sQ X).take k).any Cq=false),pt b2 (.cells #[.bool false] 4),pt o (.cells #[.int .i64 st,.slice a X.length c,bd] 25),all F]])
  (all [pu (HQ X=true),Sl 2 52 a c X.length (X.flatMap dO),pt b2 (.cells #[.bool true] 4),pt o (.cells #[.int .i64 st,.slice a X.length c,bd] 25),all F]) rfl ?_ ?_ ?_ ?_ ?_ ?_
 ·intro x hx
  obtain⟨k,_,rfl⟩:=List.mem_map.1 hx
  rfl
 ·refine .all ?_
  refine aq ?_
  refine .pick (by repeat constructor) (.pick (by repeat constructor) (.all ?_))
  refine aq ?_
  refine .pu rfl ?_
  refine .pick (by repeat constructor) (.pick (by repeat constructor) (.all ?_))
  rw[List.append_nil]
  exact .refl
 ·intro l T T' hy
  rw[r7]
  exact HY (nf hs) (by omega) hy
 ·intro k hk F2 T0 T1 B N J hB hN hJ
  rw[r7]at hk
  obtain⟨w,hw⟩:∃w,w=(sQ X)[k]:=⟨_,rfl⟩
  have e0:∀h,(vz X)[k]'h=[bm w]:=fun h=>by rw[hw];simp[vz]
  have hmem:w∈sQ X:=by rw[hw];exact List.getElem_mem hk
  have hwl:=hlw w hmem
  have hta:=List.take_succ_eq_append_getElem hk
  rw[<- hw]at hta
  rw[e0]
  simp only[jh,List.headD_cons,List.tail_cons]
  refine ap (.there .here) ?_
  refine aq ?_
  refine ap (.there (.there .here)) ?_
  refine aq ?_
  refine aG .here fun hp=>?_
  refine hB _ _ _ (by repeat constructor) ?_
  have mh:Cq w=true->HQ X=true:=fun h=>List.any_eq_true.2 ⟨w,hmem,h⟩
  refine o_ (cS (m:=kP)) ?_
  by_cases h1:w=kP
  ·rw[dT_ h1]
   refine ao (ao (o_ ah (ab (eE ?_))))
   refine hJ _ ?_
   refine .pick (by repeat constructor) (.all ?_)
   refine aq ?_
   refine .pu (mh (by unfold Cq;rw[dT_ h1];rfl)) ?_
   exact aw
  rw[dF_ h1]
  refine ae (ae (aB (equal (a:=w) (b:=iP) (by omega) (by decide)) .nil fun _=>?_))
  refine aq ?_
  cases h2:dy w iP with
  |true=>
   refine o_ ag (ab (eE ?_))
   refine hJ _ ?_
   refine .pick (by repeat constructor) (.all ?_)
   refine aq ?_
   refine .pu (mh (by unfold Cq;rw[h2,Bool.or_true])) ?_
   exact aw
  |false=>
   refine o_ ag (aa (hN _ ?_))
   refine .pick (by repeat constructor) (.all ?_)
   refine aq ?_
   refine .pick (by repeat constructor) (.pick (by repeat constructor) (.all ?_))
   refine aq ?_
   refine .pu (by rw[hta,List.any_append,hp];simp[Cq,h1,h2]) ?_
   exact aw
 ·intro d
  refine ap (.there .here) ?_
  refine aq ?_
  refine ap (.there (.there .here)) ?_
  refine aq ?_
  refine aG .here fun hp=>?_
  rw[r7,List.take_length]at hp
  have hv:cN X=X++[(fJ,iP)]:=by
   unfold cN HQ
   rw[hp]
   rfl
  rw[hv]
  refine o_ au (o_ aj (bJ ?_));refine o_ b_ ?_
  refine eL (n:=1) (vs:=[wC (fJ,iP)]) rfl (by decide) rfl (by intro v hv;rw[List.mem_singleton.1 hv];rfl) (by decide) fun gb=>?_
  refine bO (m:=1) (news:=dO (fJ,iP)) (by repeat constructor) (cA (s:=2) (e':=52) (by kernel_rfl) .here (by rfl) (by intro u hu;simp[wC,Value.cells]at hu;rcases hu with rfl|rfl <;> rfl)) (by omega) (by omega) fun a' c'=>?_
  rw[show X.length+1=(X++[(fJ,iP)]).length by simp,show X.flatMap dO++dO (fJ,iP)=(X++[(fJ,iP)]).flatMap dO by simp]
  refine o_ au (o_ aj (eE ?_));refine eE ?_
  refine uw (by repeat constructor) ?_
  (((refine' aT (cB ?hc) ?hi ?_);(case hi=>exact aw);(case hc=>repeat constructor)))
  refine km (M:=[pt o (.cells #[.int .i64 st,.slice a' (X++[(fJ,iP)]).length c',bd] 25),Sl 2 52 a' c' (X++[(fJ,iP)]).length ((X++[(fJ,iP)]).flatMap dO)]) (F:=F) aw ?_
  refine aR (a',c') rfl ?_
  exact aw
 ·intro d
  refine ap (.there .here) ?_
  refine aq ?_
  refine aG .here fun hp=>?_
  have hv:cN X=X:=by unfold cN;rw[hp];rfl
  rw[hv]
  refine uw (by repeat constructor) ?_
  (((refine' aT (cB ?hc) ?hi ?_);(case hi=>exact aw);(case hc=>repeat constructor)))
  refine km (M:=[pt o (.cells #[.int .i64 st,.slice a X.length c,bd] 25),Sl 2 52 a c X.length (X.flatMap dO)]) (F:=F) aw ?_
  refine aR (a,c) rfl ?_
  exact aw
end FD
end Go.Proofs.YtndojgomlkpeaaaGreatDoor
