/- Items swapped; ranges of them swapped; two parts of a row turned. Rows of at most 2^30 items. (21 texts made one; each says below what it is.) -/
import Derived.Test.YtndojgomlkpeaaaGreatDoorK5
set_option linter.unusedVariables false
set_option linter.unusedSimpArgs false
set_option linter.unusedSectionVars false
namespace Go.Proofs.YtndojgomlkpeaaaGreatDoor
namespace HF
open Go Go.Proofs Go.RowKit Sh Sl T
abbrev lH (g cap n:Nat)(D:List It):HP:=Sl 2 319 (some ⟨g,0,none⟩) cap n (D.flatMap ic)
theorem pE {W:World}{g cap n j:Nat}{D:List It}(hn:D.length=n)(hj:j<D.length):bb p_ W [lH g cap n D] (af 319 (.pointer (some ⟨g,0+j * 2,none⟩))) (av D[j]):=
 Bb (A:=lH g cap n D) (by subst hn;exact qt (P:=p_) (by rw[gM]) (fun _=>⟨g,rfl⟩)) hj
theorem n7 {W:World}{L L':List HP}{Kp:PK}{k:Value->WP}{g cap n j:Nat}{D:List It}{x:It}(p:Pick L (lH g cap n D) L')(hj:j<D.length)(h:be W (lH g cap n (D.set j x)::L') (k undef)):
  be W L (opN p_ (ak 319 (.pointer (some ⟨g,0+j * 2,none⟩)) (av x)) Kp k):=by
 rw[Nat.zero_add]
 refine A_ p (by rfl) (by rw[gM];omega) (n5 x) ?_
 rw[show(D.flatMap ic).take (j * 2)++(#[I x.n,Value.slice (some ⟨x.g,0,none⟩) x.w.length x.c]:Array Value).toList++(D.flatMap ic).drop (j * 2+2)=(D.set j x).flatMap ic from Ba _ j x hj]
 exact h
theorem vJ {α:Type}(p q:List α)(x y:α):(p++x::q).set p.length y=p++y::q:=by
 rw[List.set_append_right _ _ (Nat.le_refl _),Nat.sub_self];rfl
theorem F4 {α:Type}(p q:List α)(x:α)(h:p.length<(p++x::q).length):(p++x::q)[p.length]=x:=by
 rw[List.getElem_append_right (Nat.le_refl _)];simp
theorem F5 {α:Type}{p m q:List α}{x y:α}{i j:Nat}(hi:i=p.length)(hj:j=p.length+1+m.length)(h1:i<(p++x::(m++y::q)).length)(h2:j<(p++x::(m++y::q)).length):
  (p++x::(m++y::q))[i]=x/\(p++x::(m++y::q))[j]=y/\((p++x::(m++y::q)).set i y).set j x=p++y::(m++x::q)/\((p++x::(m++y::q)).set j x).set i y=p++y::(m++x::q):=by
 subst hi
 have e:∀z:α,p++z::(m++y::q)=(p++z::m)++y::q:=fun z=>by simp
 have e':∀z:α,p++z::(m++x::q)=(p++z::m)++x::q:=fun z=>by simp
 have l:∀z:α,(p++z::m).length=j:=fun z=>by rw[List.length_append,List.length_cons,hj];omega
 refine⟨F4 p _ x h1,?_,?_,?_⟩
 ·have:=F4 (p++x::m) q y (by rw[<- e,l x];exact h2)
  simp only[l x,<- e]at this
  exact this
 ·rw[vJ,e,<- l y,vJ,<- e']
 ·rw[e,<- l x,vJ,<- e',vJ]
theorem tY {W:World}{g cap n c:Nat}{P X M Y R:List It}{i j k:Int}(hn:(P++X++M++Y++R).length=n)(hm:n<=1073741824)(hXY:X.length=Y.length)(hi:i=(P.length:Int))(hj:j=(P.length+X.length+M.length:Nat))(hk:k=(X.length:Int)):
  Cn p_ 259 [.slice (some ⟨g,0,none⟩) n c,.int .i64 i,.int .i64 j,.int .i64 k,fn 240] W [lH g cap n (P++X++M++Y++R)] (fun _:Unit=> .tuple #[]) (fun _=>[lH g cap n (P++Y++M++X++R)]):=by
 subst hi;subst hj;subst hk
 (refine S.eh.cn fun F=>?_;unfold S.de;simp only[ca_,na_])
 refine bj (fun m y=>(ex fun t:Nat=>all [pu (m+t=X.length/\y= .int .i64 (t:Int)),lH g cap n ((P++Y.take t)++X.drop t++M++(X.take t++Y.drop t)++R)])::F) X.length ?_ ?_
 ·refine .ex 0 (.all ?_)
  refine ay ?_
  refine .pu ⟨rfl,rfl⟩ ?_
  simp only[List.take_zero,List.drop_zero,List.append_nil,List.nil_append]
  exact .refl
 intro m ds y
 refine aX .here fun t=>aB .here ?_
 refine ay ?_
 refine aT .here fun ht=>?_
 obtain⟨hmt,rfl⟩:=ht
 simp only[List.length_append]at hn
 refine aF aI .nil (fun h=>?_) (fun h=>?_)
 ·have htX:t<X.length:=by omega
  have htY:t<Y.length:=by omega
  have hD:(P++Y.take t)++X.drop t++M++(X.take t++Y.drop t)++R=(P++Y.take t)++X[t]::((X.drop (t+1)++M++X.take t)++Y[t]::(Y.drop (t+1)++R)):=by
   rw[List.drop_eq_getElem_cons htX,List.drop_eq_getElem_cons htY];simp only[List.append_assoc,ca_,na_]
  have hD2:(P++Y.take (t+1))++X.drop (t+1)++M++(X.take (t+1)++Y.drop (t+1))++R=(P++Y.take t)++Y[t]::((X.drop (t+1)++M++X.take t)++X[t]::(Y.drop (t+1)++R)):=by
   rw[List.take_succ_eq_append_getElem htX,List.take_succ_eq_append_getElem htY];simp only[List.append_assoc,ca_,na_]
  have hl1:(P++Y.take t).length=P.length+t:=by rw[List.length_append,List.length_take];omega
  have hl2:(X.drop (t+1)++M++X.take t).length=X.length+M.length-1:=by simp only[List.length_append,List.length_take,List.length_drop];omega
  rw[hD]
  have hlen:((P++Y.take t)++X[t]::((X.drop (t+1)++M++X.take t)++Y[t]::(Y.drop (t+1)++R))).length=n:=by
   rw[<- hD];simp only[List.length_append,List.length_take,List.length_drop];omega
  obtain⟨s1,s2,s3,s4⟩:=F5 (p:=P++Y.take t) (m:=X.drop (t+1)++M++X.take t) (q:=Y.drop (t+1)++R) (x:=X[t]) (y:=Y[t]) (i:=P.length+t) (j:=P.length+X.length+M.length+t) (by omega) (by rw[hl1,hl2];omega) (by omega) (by omega)
  obtain⟨D,hDe⟩:∃D,D=(P++Y.take t)++X[t]::((X.drop (t+1)++M++X.take t)++Y[t]::(Y.drop (t+1)++R)):=⟨_,rfl⟩
  simp only[<- hDe]at s1 s2 s3 s4 hlen ⊢
  have ld1:=pE (W:=W) (g:=g) (cap:=cap) hlen (j:=P.length+X.length+M.length+t) (by omega)
  have ld0:=pE (W:=W) (g:=g) (cap:=cap) hlen (j:=P.length+t) (by omega)
  rw[s2]at ld1
  rw[s1]at ld0
  refine ab (bM (t_ (ct (by omega) (by omega)) ?_))
  refine aZ (ct (by omega) (by omega)) .nil ?_
  refine t_ (ct (by omega) (by omega)) ?_
  refine t_ (dx (P.length+X.length+M.length+t) (by omega) (by omega)) ?_
  refine aQ ld1 (.pick .here .nil) ?_
  refine t_ (ct (by omega) (by omega)) ?_
  refine t_ (dx (P.length+t) (by omega) (by omega)) ?_
  refine aQ ld0 (.pick .here .nil) ?_
  refine t_ (dx (P.length+t) (by omega) (by omega)) ?_
  refine n7 .here (by omega) ?_
  refine cB aC ?_
  refine t_ (dx (P.length+X.length+M.length+t) (by omega) (by omega)) ?_
  refine n7 .here (by rw[List.length_set];omega) ?_
  rw[s3]
  refine bW ?_
  refine aP (m-1) (by omega) (.ex (t+1) (.all ?_))
  refine ay ?_
  refine .pu ⟨by omega,by norm_cast⟩ ?_
  rw[hD2]
  exact .refl
 ·have hte:t=X.length:=by omega
  subst hte
  rw[List.drop_length,List.take_length,hXY,List.drop_length,List.take_length,List.append_nil,List.append_nil]
  refine aa (bC () ?_)
  exact .refl
theorem Pn {W:World}{g cap n c:Nat}{P U V R:List It}{i j k:Int}(hn:(P++U++V++R).length=n)(hm:n<=1073741824)(hU:0<U.length)(hV:0<V.length)(hi:i=(P.length:Int))(hj:j=(P.length+U.length:Nat))(hk:k=(P.length+U.length+V.length:Nat)):
  Cn p_ 258 [.slice (some ⟨g,0,none⟩) n c,.int .i64 i,.int .i64 j,.int .i64 k,fn 240] W [lH g cap n (P++U++V++R)] (fun _:Unit=> .tuple #[]) (fun _=>[lH g cap n (P++V++U++R)]):=by
 subst hi;subst hj;subst hk
 obtain⟨T,hT⟩:∃T,T=P++V++U++R:=⟨_,rfl⟩
 rw[<- hT]
 have hn2:P.length+U.length+V.length+R.length=n:=by rw[<- hn];simp only[List.length_append]
 obtain⟨md,hmd⟩:∃md,md=P.length+U.length:=⟨_,rfl⟩
 rw[<- hmd]
 (refine S.eQ.cn fun F=>?_;unfold S.dz;simp only[ca_,na_])
 refine fI ?_
 refine fI ?_
 refine cg (fun m x y=>(ex fun q:(List It × List It) × (List It × List It)=>all [pu (m=q.1.2.length+q.2.1.length/\x= .int .i64 (q.1.2.length:Int)/\y= .int .i64 (q.2.1.length:Int)/\(q.1.1++q.1.2++q.2.1++q.2.2).length=n/\0<q.1.2.length/\0<q.2.1.length/\q.1.1.length+q.1.2.length=md/\T=q.1.1++q.2.1++q.1.2++q.2.2),lH g cap n (q.1.1++q.1.2++q.2.1++q.2.2)])::F) (U.length+V.length) ?_ ?_
 ·refine .ex ((P,U),(V,R)) (.all ?_)
  refine ay ?_
  refine .pu ⟨rfl,by congr 1;omega,by congr 1;omega,hn,hU,hV,hmd.symm,hT⟩ ?_
  exact .refl
 intro m ds x y
 refine aX .here fun q=>aB .here ?_
 obtain⟨⟨p,u⟩,⟨v,s⟩⟩:=q
 refine ay ?_
 refine aT .here fun hq=>?_
 (try dsimp only at hq)
 obtain⟨hmq,rfl,rfl,hnq,hu,hv,hpu,hTq⟩:=hq
 (try dsimp only)
 have hnq2:p.length+u.length+v.length+s.length=n:=by rw[<- hnq];simp only[List.length_append]
 refine aF eS .nil (fun h=>?_) (fun h=>?_)
 ·refine ab (aF bq .nil (fun h2=>?_) (fun h2=>?_))
  ·-- the first |v| of u against v
   have e:p++u++v++s=p++u.take v.length++u.drop v.length++v++s:=by
    rw[List.append_assoc p (u.take v.length),List.take_append_drop]
   have hl:(u.take v.length).length=v.length:=by rw[List.length_take];omega
   refine ab (fI ?_)
   rw[e]
   refine aH (tY (P:=p) (X:=u.take v.length) (M:=u.drop v.length) (Y:=v) (R:=s) (by rw[<- e];exact hnq) hm (by omega) (by omega) (by simp only[List.length_take,List.length_drop];omega) (by omega)) (.cons .here .nil) fun _=>?_
   refine ay ?_
   refine fI ?_
   refine bH (u.length-v.length+v.length) (by omega) (.ex ((p++v,u.drop v.length),(u.take v.length,s)) (.all ?_))
   refine ay ?_
   refine .pu ⟨by simp only[List.length_take,List.length_drop];omega,by simp only[List.length_drop];congr 1;omega,by rw[hl],by simp only[List.length_append,List.length_take,List.length_drop];omega,by simp only[List.length_drop];omega,by omega,by simp only[List.length_append,List.length_drop];omega,?_⟩ ?_
   ·(try dsimp only)
    rw[hTq]
    simp only[List.append_assoc]
    rw[<- List.append_assoc (u.take v.length),List.take_append_drop]
   ·(try dsimp only)
    exact .refl
  ·have e:p++u++v++s=p++u++v.take (v.length-u.length)++v.drop (v.length-u.length)++s:=by
    rw[List.append_assoc (p++u) (v.take _),List.take_append_drop]
   have hl:(v.drop (v.length-u.length)).length=u.length:=by rw[List.length_drop];omega
   refine aa (fI ?_)
   refine bW ?_
   refine fI ?_
   rw[e]
   refine aH (tY (P:=p) (X:=u) (M:=v.take (v.length-u.length)) (Y:=v.drop (v.length-u.length)) (R:=s) (by rw[<- e];exact hnq) hm (by omega) (by omega) (by simp only[List.length_take];omega) (by omega)) (.cons .here .nil) fun _=>?_
   refine ay ?_
   refine fI ?_
   refine bH (u.length+(v.length-u.length)) (by omega) (.ex ((p,v.drop (v.length-u.length)),(v.take (v.length-u.length),u++s)) (.all ?_))
   refine ay ?_
   refine .pu ⟨by simp only[List.length_take,List.length_drop];omega,by rw[hl],by simp only[List.length_take];congr 1;omega,by simp only[List.length_append,List.length_take,List.length_drop];omega,by omega,by simp only[List.length_take];omega,by omega,?_⟩ ?_
   ·(try dsimp only)
    rw[hTq]
    simp only[List.append_assoc]
    rw[<- List.append_assoc (v.take _),List.take_append_drop]
   ·(try dsimp only)
    rw[show p++v.drop (v.length-u.length)++v.take (v.length-u.length)++(u++s)=p++v.drop (v.length-u.length)++v.take (v.length-u.length)++u++s by simp]
    exact .refl
 ·have huv:u.length=v.length:=by omega
  refine aa (fI ?_)
  have e:p++u++v++s=p++u++[]++v++s:=by simp
  rw[e]
  refine aH (tY (P:=p) (X:=u) (M:=[]) (Y:=v) (R:=s) (by rw[<- e];exact hnq) hm huv (by omega) (by simp;omega) (by omega)) (.cons .here .nil) fun _=>?_
  refine ay ?_
  rw[List.append_nil,<- hTq]
  refine bC () ?_
  exact .refl
theorem su (n:Nat):((n:Int).fdiv (2^(min ((1:Int)).toNat IntKind.u64.bits)))=((n / 2:Nat):Int):=by
 have:((2:Int)^(min ((1:Int)).toNat IntKind.u64.bits))=2:=by decide
 rw[this]
 rw[Int.fdiv_eq_ediv_of_nonneg _ (by omega)]
 omega
theorem Bh {n:Nat}(h:n<9223372036854775808):IntKind.i64.wrap (n:Int)=n:=yZ (by omega) (by omega)
theorem n8 {a b:Int}:(if a<b then(-1:Int)else if b<a then 1 else 0)<0↔a<b:=by
 constructor
 ·intro h
  split at h
  ·assumption
  ·split at h <;> omega
 ·intro h
  rw[if_pos h];omega
theorem gU {α:Type}{P U V R:List α}{q:Nat}(h:q<U.length)(h2:P.length+q<(P++U++V++R).length):(P++U++V++R)[P.length+q]=U[q]:=by
 simp only[List.append_assoc]
 rw[List.getElem_append_right (by omega)]
 simp only[Nat.add_sub_cancel_left]
 rw[List.getElem_append_left h]
theorem gV {α:Type}{P U V R:List α}{q:Nat}(h:q<V.length)(h2:P.length+U.length+q<(P++U++V++R).length):(P++U++V++R)[P.length+U.length+q]=V[q]:=by
 have e:P++U++V++R=(P++U)++(V++R):=by simp
 simp only[e]
 rw[List.getElem_append_right (by rw[List.length_append];omega)]
 simp only[List.length_append,Nat.add_sub_cancel_left]
 rw[List.getElem_append_left h]
theorem mJ {U:List It}(h:F3 It.n U){i j:Nat}(hij:i<=j)(hj:j<U.length):U[i].n<=U[j].n:=by
 rcases Nat.lt_or_ge i j with c|c
 ·exact List.pairwise_iff_getElem.1 h i j (by omega) hj c
 ·have:i=j:=by omega
  subst this;omega
theorem Ml {u:It}{V:List It}{s:Nat}(hs:s<=V.length)(h1:∀k (h:k<V.length),k<s->V[k].n<u.n)(h2:∀k (h:k<V.length),s<=k->¬V[k].n<u.n):dO It.n [u] V=V.take s++u::V.drop s:=by
 have e1:=Bg It.n _ [] [u] (V.take s) (V.drop s) rfl (by simp) (fun v hv x hx=>by
  obtain⟨k,hk,rfl⟩:=List.getElem_of_mem hv
  rw[List.length_take]at hk
  rw[List.mem_singleton.1 hx,List.getElem_take]
  exact h1 k (by omega) (by omega))
 have e2:=Bg It.n _ [u] [] [] (V.drop s) rfl (fun x hx v hv=>by
  obtain⟨k,hk,rfl⟩:=List.getElem_of_mem hv
  rw[List.length_drop]at hk
  rw[List.mem_singleton.1 hx,List.getElem_drop]
  have:=h2 (s+k) (by omega) (by omega)
  omega) (by simp)
 rw[List.nil_append,List.take_append_drop]at e1
 rw[List.append_nil,List.nil_append,dS]at e2
 rw[e1,e2]
 rfl
theorem JC {v:It}{U:List It}{s:Nat}(hs:s<=U.length)(h1:∀k (h:k<U.length),k<s->¬v.n<U[k].n)(h2:∀k (h:k<U.length),s<=k->v.n<U[k].n):dO It.n U [v]=U.take s++v::U.drop s:=by
 have:=xz It.n (x:=v) (U.take s) (U.drop s) fun x hx=>by
  obtain⟨k,hk,rfl⟩:=List.getElem_of_mem hx
  rw[List.length_take]at hk
  rw[List.getElem_take]
  have:=h1 k (by omega) (by omega)
  omega
 rw[List.take_append_drop]at this
 rw[this,xA It.n _ fun x hx=>by
  obtain⟨k,hk,rfl⟩:=List.getElem_of_mem hx
  rw[List.length_drop]at hk
  rw[List.getElem_drop]
  exact h2 (s+k) (by omega) (by omega)]
theorem C_ {W:World}{g cap n c:Nat}(hm:n<=1073741824):∀(N:Nat) {P U V R:List It} {i j k:Int},U.length+V.length<=N->(P++U++V++R).length=n->0<U.length->0<V.length->F3 It.n U->F3 It.n V->i=(P.length:Int)->j=(P.length+U.length:Nat)->k=(P.length+U.length+V.length:Nat)->
  Cn p_ 257 [.slice (some ⟨g,0,none⟩) n c,.int .i64 i,.int .i64 j,.int .i64 k,fn 240] W [lH g cap n (P++U++V++R)] (fun _:Unit=> .tuple #[]) (fun _=>[lH g cap n (P++dO It.n U V++R)]):=by
 intro N
 induction N with
 |zero=>intro P U V R i j k h _ hU hV;omega
 |succ N ih=>
 intro P U V R i j k hN hn hU hV uU uV hi hj hk
 subst hi;subst hj;subst hk
 have hn2:P.length+U.length+V.length+R.length=n:=by rw[<- hn];simp only[List.length_append]
 have ldU:∀q (h:q<U.length),bb p_ W [lH g cap n (P++U++V++R)] (af 319 (.pointer (some ⟨g,0+(P.length+q) * 2,none⟩))) (av U[q]):=fun q h=>by
  have:=pE (W:=W) (g:=g) (cap:=cap) hn (j:=P.length+q) (by omega)
  rwa [gU h]at this
 have ldV:∀q (h:q<V.length),bb p_ W [lH g cap n (P++U++V++R)] (af 319 (.pointer (some ⟨g,0+(P.length+U.length+q) * 2,none⟩))) (av V[q]):=fun q h=>by
  have:=pE (W:=W) (g:=g) (cap:=cap) hn (j:=P.length+U.length+q) (by omega)
  rwa [gV h]at this
 (refine S.ew.cn fun F=>?_;unfold S.dm;simp only[ca_,na_])
 refine fI ?_
 refine o_ bF ?_
 by_cases hU1:U.length=1
 ·rw[dT_ (by omega)]
  refine ab ?_
  obtain⟨u,rfl⟩:=List.length_eq_one_iff.1 hU1
  refine cg (fun m x y=>(ex fun q:Nat × Nat=>pu (m+q.1=q.2/\x= .int .i64 (P.length+1+q.1:Nat)/\y= .int .i64 (P.length+1+q.2:Nat)/\q.2<=V.length/\(∀k (h:k<V.length),k<q.1->V[k].n<u.n)/\(∀k (h:k<V.length),q.2<=k->¬V[k].n<u.n)))::lH g cap n (P++[u]++V++R)::F) V.length ?_ ?_
  ·refine .ex (0,V.length) (.pu ⟨rfl,rfl,rfl,Nat.le_refl _,fun k _ h=>absurd h (by omega),fun k h h2=>absurd h2 (by(try dsimp only);omega)⟩ ?_)
   exact .refl
  intro m ds x y
  refine aX .here fun q=>aT .here fun hq=>?_
  obtain⟨s,t⟩:=q
  (try dsimp only at hq)
  obtain⟨hmq,rfl,rfl,htV,hlo,hhi⟩:=hq
  refine aF aI .nil (fun h=>?_) (fun h=>?_)
  ·refine ab (bW ?_)
   refine o_ bO ?_
   rw[show(((P.length+1+s:Nat):Int)+((P.length+1+t:Nat):Int))=((P.length+1+s+(P.length+1+t):Nat):Int) by push_cast;rfl,iN (by omega) (by omega)]
   refine o_ (jy (by omega)) ?_
   rw[su]
   refine o_ bO ?_
   rw[Bh (by omega)]
   obtain⟨d,hd⟩:∃d,d=(s+t) / 2:=⟨_,rfl⟩
   rw[show(P.length+1+s+(P.length+1+t)) / 2=P.length+[u].length+d by simp;omega]
   refine bM (t_ (dx (P.length+[u].length+d) rfl (by omega)) ?_)
   refine aQ (ldV d (by omega)) (.pick .here .nil) ?_
   refine t_ (dx (P.length+0) rfl (by omega)) ?_
   refine aQ (ldU 0 (by simp)) (.pick .here .nil) ?_
   refine aH CS .nil fun _=>?_
   refine ay ?_
   rw[show([u]:List It)[0]=u from rfl]
   refine vY aI .nil (fun h2=>?_) (fun h2=>?_)
   ·have h3:=n8.1 h2
    refine ab (bW ?_)
    refine bH (t-(d+1)) (by omega) (.ex (d+1,t) (.pu ⟨by(try dsimp only);omega,by simp;omega,rfl,htV,fun k hk hk2=>?_,hhi⟩ ?_))
    ·have:=mJ uV (i:=k) (j:=d) (by(try dsimp only at hk2);omega) (by omega)
     omega
    ·exact .refl
   ·have h3:¬V[d].n<u.n:=fun c=>h2 (n8.2 c)
    refine aa (bH (d-s) (by omega) (.ex (s,d) (.pu ⟨by(try dsimp only);omega,rfl,by simp,by(try dsimp only);omega,hlo,fun k hk hk2=>?_⟩ ?_)))
    ·have:=mJ uV (i:=d) (j:=k) (by(try dsimp only at hk2);omega) hk
     omega
    ·exact .refl
  ·have hst:s=t:=by omega
   subst hst
   refine aa ?_
   rw[Ml htV hlo hhi]
   refine bj (fun m y=>(ex fun t:Nat=>all [pu (m+t=s/\y= .int .i64 (P.length+t:Nat)),lH g cap n ((P++V.take t)++u::(V.drop t++R))])::F) s ?_ ?_
   ·refine .ex 0 (.all ?_)
    refine ay ?_
    refine .pu ⟨by omega,rfl⟩ ?_
    rw[show(P++V.take 0)++u::(V.drop 0++R)=P++[u]++V++R by simp]
    exact .refl
   intro m2 ds2 y2
   refine aX .here fun t=>aB .here ?_
   refine ay ?_
   refine aT .here fun ht=>?_
   obtain⟨hmt,rfl⟩:=ht
   refine fI ?_
   refine aF aI .nil (fun h3=>?_) (fun h3=>?_)
   ·have hts:t<s:=by omega
    have htV2:t<V.length:=by omega
    have hD:(P++V.take t)++u::(V.drop t++R)=(P++V.take t)++u::([]++V[t]::(V.drop (t+1)++R)):=by
     rw[List.drop_eq_getElem_cons htV2];rfl
    have hD2:(P++V.take (t+1))++u::(V.drop (t+1)++R)=(P++V.take t)++V[t]::([]++u::(V.drop (t+1)++R)):=by
     rw[List.take_succ_eq_append_getElem htV2];simp only[List.append_assoc,ca_,na_]
    have hl1:(P++V.take t).length=P.length+t:=by rw[List.length_append,List.length_take];omega
    rw[hD]
    have hlen:((P++V.take t)++u::([]++V[t]::(V.drop (t+1)++R))).length=n:=by
     simp only[List.length_append,List.length_take,List.length_drop,List.length_cons,List.length_nil]at hn2 ⊢;omega
    obtain⟨s1,s2,s3,s4⟩:=F5 (p:=P++V.take t) (m:=[]) (q:=V.drop (t+1)++R) (x:=u) (y:=V[t]) (i:=P.length+t) (j:=P.length+t+1) (by omega) (by rw[hl1];rfl) (by omega) (by omega)
    obtain⟨D,hDe⟩:∃D,D=(P++V.take t)++u::([]++V[t]::(V.drop (t+1)++R)):=⟨_,rfl⟩
    simp only[<- hDe]at s1 s2 s3 s4 hlen ⊢
    have ld1:=pE (W:=W) (g:=g) (cap:=cap) hlen (j:=P.length+t+1) (by omega)
    have ld0:=pE (W:=W) (g:=g) (cap:=cap) hlen (j:=P.length+t) (by omega)
    rw[s2]at ld1
    rw[s1]at ld0
    refine ab (bM (aZ (ct (by omega) (by omega)) .nil ?_))
    refine t_ (ct (by omega) (by omega)) ?_
    refine t_ (dx (P.length+t+1) (by omega) (by omega)) ?_
    refine aQ ld1 (.pick .here .nil) ?_
    refine t_ (dx (P.length+t) (by omega) (by omega)) ?_
    refine aQ ld0 (.pick .here .nil) ?_
    refine t_ (dx (P.length+t) (by omega) (by omega)) ?_
    refine n7 .here (by omega) ?_
    refine cB aC ?_
    refine t_ (dx (P.length+t+1) (by omega) (by omega)) ?_
    refine n7 .here (by rw[List.length_set];omega) ?_
    rw[s3]
    refine bW ?_
    refine aP (m2-1) (by omega) (.ex (t+1) (.all ?_))
    refine ay ?_
    refine .pu ⟨by omega,by norm_cast⟩ ?_
    rw[hD2]
    exact .refl
   ·have hts:t=s:=by omega
    subst hts
    refine aa ?_
    rw[show P++(V.take t++u::V.drop t)++R=(P++V.take t)++u::(V.drop t++R) by simp]
    refine bC () ?_
    exact .refl
 rw[dF_ (by omega)]
 refine aa (fI ?_)
 refine o_ bF ?_
 by_cases hV1:V.length=1
 ·rw[dT_ (by omega)]
  refine ab ?_
  obtain⟨v,rfl⟩:=List.length_eq_one_iff.1 hV1
  refine cg (fun m x y=>(ex fun q:Nat × Nat=>pu (m+q.1=q.2/\x= .int .i64 (P.length+q.1:Nat)/\y= .int .i64 (P.length+q.2:Nat)/\q.2<=U.length/\(∀k (h:k<U.length),k<q.1->¬v.n<U[k].n)/\(∀k (h:k<U.length),q.2<=k->v.n<U[k].n)))::lH g cap n (P++U++[v]++R)::F) U.length ?_ ?_
  ·refine .ex (0,U.length) (.pu ⟨rfl,rfl,rfl,Nat.le_refl _,fun k _ h=>absurd h (by omega),fun k h h2=>absurd h2 (by(try dsimp only);omega)⟩ ?_)
   exact .refl
  intro m ds x y
  refine aX .here fun q=>aT .here fun hq=>?_
  obtain⟨s,t⟩:=q
  (try dsimp only at hq)
  obtain⟨hmq,rfl,rfl,htU,hlo,hhi⟩:=hq
  refine aF aI .nil (fun h=>?_) (fun h=>?_)
  ·refine ab (bW ?_)
   refine o_ bO ?_
   rw[show(((P.length+s:Nat):Int)+((P.length+t:Nat):Int))=((P.length+s+(P.length+t):Nat):Int) by push_cast;rfl,iN (by omega) (by omega)]
   refine o_ (jy (by omega)) ?_
   rw[su]
   refine o_ bO ?_
   rw[Bh (by omega)]
   obtain⟨d,hd⟩:∃d,d=(s+t) / 2:=⟨_,rfl⟩
   rw[show(P.length+s+(P.length+t)) / 2=P.length+d by omega]
   refine bM (t_ (dx (P.length+U.length+0) (by omega) (by omega)) ?_)
   refine aQ (ldV 0 (by simp)) (.pick .here .nil) ?_
   refine t_ (dx (P.length+d) rfl (by omega)) ?_
   refine aQ (ldU d (by omega)) (.pick .here .nil) ?_
   refine aH CS .nil fun _=>?_
   refine ay ?_
   rw[show([v]:List It)[0]=v from rfl]
   refine t_ aI (t_ g_ ?_)
   by_cases h3:v.n<U[d].n
   ·rw[dT_ (n8.2 h3)]
    refine aa (bH (d-s) (by omega) (.ex (s,d) (.pu ⟨by(try dsimp only);omega,rfl,rfl,by(try dsimp only);omega,hlo,fun k hk hk2=>?_⟩ ?_)))
    ·have:=mJ uU (i:=d) (j:=k) (by(try dsimp only at hk2);omega) hk
     omega
    ·exact .refl
   ·rw[dF_ (fun c=>h3 (n8.1 c))]
    refine ab (bW ?_)
    refine bH (t-(d+1)) (by omega) (.ex (d+1,t) (.pu ⟨by(try dsimp only);omega,by norm_cast,rfl,htU,fun k hk hk2=>?_,hhi⟩ ?_))
    ·have:=mJ uU (i:=k) (j:=d) (by(try dsimp only at hk2);omega) (by omega)
     omega
    ·exact .refl
  ·have hst:s=t:=by omega
   subst hst
   refine aa ?_
   rw[JC htU hlo hhi]
   refine bj (fun m y=>(ex fun t:Nat=>all [pu (m+s=t/\t<=U.length/\y= .int .i64 (P.length+t:Nat)),lH g cap n ((P++U.take t)++v::(U.drop t++R))])::F) (U.length-s) ?_ ?_
   ·refine .ex U.length (.all ?_)
    refine ay ?_
    refine .pu ⟨by omega,Nat.le_refl _,rfl⟩ ?_
    rw[show(P++U.take U.length)++v::(U.drop U.length++R)=P++U++[v]++R by simp]
    exact .refl
   intro m2 ds2 y2
   refine aX .here fun t=>aB .here ?_
   refine ay ?_
   refine aT .here fun ht=>?_
   obtain⟨hmt,htl,rfl⟩:=ht
   refine aF bq .nil (fun h3=>?_) (fun h3=>?_)
   ·obtain⟨r,rfl⟩:∃r,t=r+1:=⟨t-1,by omega⟩
    have hrU:r<U.length:=by omega
    have hD:(P++U.take (r+1))++v::(U.drop (r+1)++R)=(P++U.take r)++U[r]::([]++v::(U.drop (r+1)++R)):=by
     rw[List.take_succ_eq_append_getElem hrU];simp only[List.append_assoc,ca_,na_]
    have hD2:(P++U.take r)++v::(U.drop r++R)=(P++U.take r)++v::([]++U[r]::(U.drop (r+1)++R)):=by
     rw[List.drop_eq_getElem_cons hrU];rfl
    have hl1:(P++U.take r).length=P.length+r:=by rw[List.length_append,List.length_take];omega
    rw[hD]
    have hlen:((P++U.take r)++U[r]::([]++v::(U.drop (r+1)++R))).length=n:=by
     simp only[List.length_append,List.length_take,List.length_drop,List.length_cons,List.length_nil]at hn2 ⊢;omega
    obtain⟨s1,s2,s3,s4⟩:=F5 (p:=P++U.take r) (m:=[]) (q:=U.drop (r+1)++R) (x:=U[r]) (y:=v) (i:=P.length+r) (j:=P.length+r+1) (by omega) (by rw[hl1];rfl) (by omega) (by omega)
    obtain⟨D,hDe⟩:∃D,D=(P++U.take r)++U[r]::([]++v::(U.drop (r+1)++R)):=⟨_,rfl⟩
    simp only[<- hDe]at s1 s2 s3 s4 hlen ⊢
    have ld1:=pE (W:=W) (g:=g) (cap:=cap) hlen (j:=P.length+r+1) (by omega)
    have ld0:=pE (W:=W) (g:=g) (cap:=cap) hlen (j:=P.length+r) (by omega)
    rw[s2]at ld1
    rw[s1]at ld0
    refine ab (bM (aZ (ep (by omega) (by omega)) .nil ?_))
    refine t_ (ep (by omega) (by omega)) ?_
    refine t_ (dx (P.length+r) (by omega) (by omega)) ?_
    refine aQ ld0 (.pick .here .nil) ?_
    refine t_ (dx (P.length+r+1) (by omega) (by omega)) ?_
    refine aQ ld1 (.pick .here .nil) ?_
    refine t_ (dx (P.length+r+1) (by omega) (by omega)) ?_
    refine n7 .here (by omega) ?_
    refine cB aC ?_
    refine t_ (dx (P.length+r) (by omega) (by omega)) ?_
    refine n7 .here (by rw[List.length_set];omega) ?_
    rw[s4]
    refine fI ?_
    refine aP (m2-1) (by omega) (.ex r (.all ?_))
    refine ay ?_
    refine .pu ⟨by omega,by omega,by congr 1;omega⟩ ?_
    rw[hD2]
    exact .refl
   ·have hts:t=s:=by omega
    subst hts
    refine aa ?_
    rw[show P++(U.take t++v::U.drop t)++R=(P++U.take t)++v::(U.drop t++R) by simp]
    refine bC () ?_
    exact .refl
 rw[dF_ (by omega)]
 refine aa ?_
 obtain⟨K,hK⟩:∃K,K=(U.length+V.length) / 2:=⟨_,rfl⟩
 refine bW ?_
 refine o_ bO ?_
 rw[show((P.length:Int)+((P.length+U.length+V.length:Nat):Int))=((P.length+(P.length+U.length+V.length):Nat):Int) by push_cast;rfl,iN (by omega) (by omega)]
 refine o_ (jy (by omega)) ?_
 rw[su]
 refine o_ bO ?_
 rw[Bh (by omega),show(P.length+(P.length+U.length+V.length)) / 2=P.length+K by omega]
 refine bW ?_
 refine lO (fun x y=>pu (x= .int .i64 (P.length+(K-V.length):Nat)/\y= .int .i64 (P.length+min K U.length:Nat))::lH g cap n (P++U++V++R)::F) ?_ ?_
 rotate_left
 ·refine aF bq .nil (fun h=>?_) (fun h=>?_)
  ·refine ab (fI ?_)
   refine a_ (.pu ⟨by congr 1;omega,by congr 1;omega⟩ ?_)
   exact .refl
  ·refine aa (a_ (.pu ⟨by congr 1;omega,by congr 1;omega⟩ ?_))
   exact .refl
 intro ds z1 z2
 refine aT .here fun hz=>?_
 obtain⟨rfl,rfl⟩:=hz
 refine fI ?_
 refine cg (fun m x y=>(ex fun q:Nat × Nat=>pu (m+q.1=q.2/\x= .int .i64 (P.length+q.1:Nat)/\y= .int .i64 (P.length+q.2:Nat)/\K-V.length<=q.1/\q.2<=min K U.length/\(∀k (h:k<U.length) (h':K-1-k<V.length),K-V.length<=k->k<q.1->¬V[K-1-k].n<U[k].n)/\(∀k (h:k<U.length) (h':K-1-k<V.length),q.2<=k->k<min K U.length->V[K-1-k].n<U[k].n)))::lH g cap n (P++U++V++R)::F) (min K U.length-(K-V.length)) ?_ ?_
 ·refine .ex (K-V.length,min K U.length) (.pu ⟨by(try dsimp only);omega,rfl,rfl,Nat.le_refl _,Nat.le_refl _,fun k _ _ h1 h2=>absurd h2 (by(try dsimp only);omega),fun k _ _ h1 h2=>absurd h2 (by(try dsimp only at h1);omega)⟩ ?_)
  exact .refl
 intro m ds2 x y
 refine aX .here fun q=>aT .here fun hq=>?_
 obtain⟨s,t⟩:=q
 (try dsimp only at hq)
 obtain⟨hmq,rfl,rfl,hs0,ht0,hlo,hhi⟩:=hq
 refine aF aI .nil (fun h=>?_) (fun h=>?_)
 ·refine ab (bW ?_)
  refine o_ bO ?_
  rw[show(((P.length+s:Nat):Int)+((P.length+t:Nat):Int))=((P.length+s+(P.length+t):Nat):Int) by push_cast;rfl,iN (by omega) (by omega)]
  refine o_ (jy (by omega)) ?_
  rw[su]
  refine o_ bO ?_
  rw[Bh (by omega)]
  obtain⟨d,hd⟩:∃d,d=(s+t) / 2:=⟨_,rfl⟩
  rw[show(P.length+s+(P.length+t)) / 2=P.length+d by omega]
  have hdU:d<U.length:=by omega
  have hdV:K-1-d<V.length:=by omega
  refine bM (t_ (ep (by omega) (by omega)) ?_)
  refine t_ (dx (P.length+U.length+(K-1-d)) (by omega) (by omega)) ?_
  refine aQ (ldV (K-1-d) hdV) (.pick .here .nil) ?_
  refine t_ (dx (P.length+d) rfl (by omega)) ?_
  refine aQ (ldU d hdU) (.pick .here .nil) ?_
  refine aH CS .nil fun _=>?_
  refine ay ?_
  refine t_ aI (t_ g_ ?_)
  by_cases h3:V[K-1-d].n<U[d].n
  ·rw[dT_ (n8.2 h3)]
   refine aa (bH (d-s) (by omega) (.ex (s,d) (.pu ⟨by(try dsimp only);omega,rfl,rfl,hs0,by(try dsimp only);omega,hlo,fun k hk hk' hk2 hk3=>?_⟩ ?_)))
   ·(try dsimp only at hk2)
    have a1:=mJ uU (i:=d) (j:=k) (by omega) hk
    have a2:=mJ uV (i:=K-1-k) (j:=K-1-d) (by omega) hdV
    omega
   ·exact .refl
  ·rw[dF_ (fun c=>h3 (n8.1 c))]
   refine ab (bW ?_)
   refine bH (t-(d+1)) (by omega) (.ex (d+1,t) (.pu ⟨by(try dsimp only);omega,by norm_cast,rfl,by(try dsimp only);omega,ht0,fun k hk hk' hk2 hk3=>?_,hhi⟩ ?_))
   ·(try dsimp only at hk3)
    have a1:=mJ uU (i:=k) (j:=d) (by omega) hdU
    have a2:=mJ uV (i:=K-1-d) (j:=K-1-k) (by omega) hk'
    omega
   ·exact .refl
 ·have hst:s=t:=by omega
  subst hst
  refine aa ?_
  obtain⟨U1,hU1'⟩:∃U1,U1=U.take s:=⟨_,rfl⟩
  obtain⟨U2,hU2'⟩:∃U2,U2=U.drop s:=⟨_,rfl⟩
  obtain⟨V1,hV1'⟩:∃V1,V1=V.take (K-s):=⟨_,rfl⟩
  obtain⟨V2,hV2'⟩:∃V2,V2=V.drop (K-s):=⟨_,rfl⟩
  have eU:U1++U2=U:=by rw[hU1',hU2',List.take_append_drop]
  have eV:V1++V2=V:=by rw[hV1',hV2',List.take_append_drop]
  have lU1:U1.length=s:=by rw[hU1',List.length_take];omega
  have lU2:U2.length=U.length-s:=by rw[hU2',List.length_drop]
  have lV1:V1.length=K-s:=by rw[hV1',List.length_take];omega
  have lV2:V2.length=V.length-(K-s):=by rw[hV2',List.length_drop]
  have up1:F3 It.n U1/\F3 It.n U2:=by
   have:=uU
   rw[<- eU]at this
   exact⟨(List.pairwise_append.1 this).1,(List.pairwise_append.1 this).2.1⟩
  have up2:F3 It.n V1/\F3 It.n V2:=by
   have:=uV
   rw[<- eV]at this
   exact⟨(List.pairwise_append.1 this).1,(List.pairwise_append.1 this).2.1⟩
  have f1:∀u∈U1,∀v∈V2,u.n<=v.n:=fun u hu v hv=>by
   obtain⟨a,ha,rfl⟩:=List.getElem_of_mem hu
   obtain⟨b,hb,rfl⟩:=List.getElem_of_mem hv
   simp only[hU1',hV2',List.length_take,List.length_drop]at ha hb
   simp only[hU1',hV2',List.getElem_take,List.getElem_drop]
   have h4:=hlo (s-1) (by omega) (by omega) (by omega) (by omega)
   have a1:=mJ uU (i:=a) (j:=s-1) (by omega) (by omega)
   have a2:=mJ uV (i:=K-1-(s-1)) (j:=K-s+b) (by omega) (by omega)
   omega
  have f2:∀v∈V1,∀u∈U2,v.n<u.n:=fun v hv u hu=>by
   obtain⟨a,ha,rfl⟩:=List.getElem_of_mem hv
   obtain⟨b,hb,rfl⟩:=List.getElem_of_mem hu
   simp only[hV1',hU2',List.length_take,List.length_drop]at ha hb
   simp only[hV1',hU2',List.getElem_take,List.getElem_drop]
   have h4:=hhi s (by omega) (by omega) (Nat.le_refl _) (by omega)
   have a1:=mJ uV (i:=a) (j:=K-1-s) (by omega) (by omega)
   have a2:=mJ uU (i:=s) (j:=s+b) (by omega) (by omega)
   omega
  have hM:dO It.n U V=dO It.n U1 V1++dO It.n U2 V2:=by
   rw[<- eU,<- eV]
   exact Bg It.n _ U1 U2 V1 V2 rfl f1 f2
  have lM:(dO It.n U1 V1).length=K:=by
   rw[C8,lU1,lV1];omega
  rw[hM]
  have eD:P++U++V++R=(P++U1)++U2++V1++(V2++R):=by
   rw[<- eU,<- eV];simp
  rw[eD]
  rw[eD]at hn
  refine fI ?_
  refine jx (lH g cap n (P++U1++V1++(U2++V2++R))::F) ?_ ?_
  rotate_left
  ·have out:(U2.length=0\/V1.length=0)->be W (lH g cap n ((P++U1)++U2++V1++(V2++R))::F) (fun w=>sat W (lH g cap n (P++U1++V1++(U2++V2++R))::F) w):=by
    intro h
    have e:(P++U1)++U2++V1++(V2++R)=P++U1++V1++(U2++V2++R):=by
     rcases h with h|h
     ·rw[List.eq_nil_of_length_eq_zero h];simp
     ·rw[List.eq_nil_of_length_eq_zero h];simp
    rw[e]
    exact a_ .refl
   refine aF aI .nil (fun h1=>?_) (fun h1=>?_)
   ·refine ag (ag (ag (aF aI .nil (fun h2=>?_) (fun h2=>?_))))
    ·refine o_ aq (ab (aH (Pn (P:=P++U1) (U:=U2) (V:=V1) (R:=V2++R) hn hm (by omega) (by omega) (by rw[List.length_append];omega) (by rw[List.length_append];omega) (by rw[List.length_append];omega)) (.cons .here .nil) fun _=>?_))
     refine ay ?_
     rw[show P++U1++V1++U2++(V2++R)=P++U1++V1++(U2++V2++R) by simp]
     exact a_ .refl
    ·exact o_ aq (aa (out (.inr (by omega))))
   ·(refine ah ?_);refine ah ?_;refine ah ?_;refine o_ ap ?_;refine aa ?_
    exact out (.inl (by omega))
  intro ds3
  have hn3:(P++U1++V1++(U2++V2++R)).length=n:=by rw[<- hn];simp only[List.length_append];omega
  refine jx (lH g cap n (P++dO It.n U1 V1++(U2++V2++R))::F) ?_ ?_
  rotate_left
  ·have out:(U1.length=0\/V1.length=0)->be W (lH g cap n (P++U1++V1++(U2++V2++R))::F) (fun w=>sat W (lH g cap n (P++dO It.n U1 V1++(U2++V2++R))::F) w):=by
    intro h
    have e:P++U1++V1++(U2++V2++R)=P++dO It.n U1 V1++(U2++V2++R):=by
     rcases h with h|h
     ·rw[List.eq_nil_of_length_eq_zero h];simp[dO]
     ·rw[List.eq_nil_of_length_eq_zero h,dS];simp
    rw[e]
    exact a_ .refl
   refine aF aI .nil (fun h1=>?_) (fun h1=>?_)
   ·refine ag (ag (ag (aF aI .nil (fun h2=>?_) (fun h2=>?_))))
    ·refine o_ aq (ab (aH (ih (P:=P) (U:=U1) (V:=V1) (R:=U2++V2++R) (by omega) hn3 (by omega) (by omega) up1.1 up2.1 rfl (by omega) (by omega)) (.cons .here .nil) fun _=>?_))
     refine ay ?_
     exact a_ .refl
    ·exact o_ aq (aa (out (.inr (by omega))))
   ·(refine ah ?_);refine ah ?_;refine ah ?_;refine o_ ap ?_;refine aa ?_
    exact out (.inl (by omega))
  intro ds4
  have e4:P++dO It.n U1 V1++(U2++V2++R)=(P++dO It.n U1 V1)++U2++V2++R:=by simp
  rw[e4]
  have hn4:((P++dO It.n U1 V1)++U2++V2++R).length=n:=by
   simp only[List.length_append]at hn3 ⊢
   omega
  have e5:P++(dO It.n U1 V1++dO It.n U2 V2)++R=(P++dO It.n U1 V1)++dO It.n U2 V2++R:=by simp
  rw[e5]
  have out:(U2.length=0\/V2.length=0)->(P++dO It.n U1 V1)++U2++V2++R=(P++dO It.n U1 V1)++dO It.n U2 V2++R:=by
   intro h
   rcases h with h|h
   ·rw[List.eq_nil_of_length_eq_zero h];simp[dO]
   ·rw[List.eq_nil_of_length_eq_zero h,dS];simp
  refine aF aI .nil (fun h1=>?_) (fun h1=>?_)
  ·refine ag (ag (ag (aF aI .nil (fun h2=>?_) (fun h2=>?_))))
   ·refine o_ aq (ab (aH (ih (P:=P++dO It.n U1 V1) (U:=U2) (V:=V2) (R:=R) (by omega) hn4 (by omega) (by omega) up1.2 up2.2 (by rw[List.length_append];omega) (by rw[List.length_append];omega) (by rw[List.length_append];omega)) (.cons .here .nil) fun _=>?_))
    refine ay ?_
    refine bC () ?_
    exact .refl
   ·refine o_ aq (aa ?_)
    rw[out (.inr (by omega))]
    refine bC () ?_
    exact .refl
  ·(refine ah ?_);refine ah ?_;refine ah ?_;refine o_ ap ?_;refine aa ?_
   rw[out (.inl (by omega))]
   refine bC () ?_
   exact .refl
theorem xC {W:World}{g cap n c:Nat}{P X R:List It}{i j:Int}(hn:(P++X++R).length=n)(hm:n<=1073741824)(hi:i=(P.length:Int))(hj:j=(P.length+X.length:Nat)):
  Cn p_ 256 [.slice (some ⟨g,0,none⟩) n c,.int .i64 i,.int .i64 j,fn 240] W [lH g cap n (P++X++R)] (fun _:Unit=> .tuple #[]) (fun _=>[lH g cap n (P++bt It.n X++R)]):=by
 subst hi;subst hj
 have hn2:P.length+X.length+R.length=n:=by rw[<- hn];simp only[List.length_append]
 (refine S.cK.cn fun F=>?_;unfold S.bU;simp only[ca_,na_])
 refine bW ?_
 refine bj (fun m y=>(ex fun t:Nat=>all [pu (m+t=X.length+1/\1<=t/\y= .int .i64 (P.length+t:Nat)),lH g cap n (P++(bt It.n (X.take t)++X.drop t)++R)])::F) X.length ?_ ?_
 ·refine .ex 1 (.all ?_)
  refine ay ?_
  refine .pu ⟨by omega,Nat.le_refl _,by norm_cast⟩ ?_
  have e:bt It.n (X.take 1)++X.drop 1=X:=by
   cases X with
   |nil=>rfl
   |cons x X=>rfl
  rw[e]
  exact .refl
 intro m ds y
 refine aX .here fun t=>aB .here ?_
 refine ay ?_
 refine aT .here fun ht=>?_
 obtain⟨hmt,ht1,rfl⟩:=ht
 refine aF aI .nil (fun h=>?_) (fun h=>?_)
 ·have htX:t<X.length:=by omega
  obtain⟨acc,hacc⟩:∃acc,acc=bt It.n (X.take t):=⟨_,rfl⟩
  have hal:acc.length=t:=by rw[hacc,cT,List.length_take];omega
  have hnext:bt It.n (X.take (t+1))=mT It.n acc X[t]:=by rw[List.take_succ_eq_append_getElem htX,ix,hacc]
  rw[<- hacc]
  refine ab (bj (fun m y=>(ex fun q:Nat=>all [pu (m=q/\q<=t/\y= .int .i64 (P.length+q:Nat)/\mT It.n acc X[t]=ey It.n acc X[t] q),lH g cap n ((P++acc.take q)++X[t]::(acc.drop q++X.drop (t+1)++R))])::F) t ?_ ?_)
  ·refine .ex t (.all ?_)
   refine ay ?_
   refine .pu ⟨rfl,Nat.le_refl _,rfl,by unfold mT;rw[hal]⟩ ?_
   have e:P++(acc++X.drop t)++R=(P++acc.take t)++X[t]::(acc.drop t++X.drop (t+1)++R):=by
    rw[List.take_of_length_le (by omega),List.drop_eq_nil_of_le (show acc.length<=t by omega),List.drop_eq_getElem_cons htX]
    simp only[List.append_assoc,ca_,na_]
   rw[e]
   exact .refl
  intro m2 ds2 y2
  refine aX .here fun q=>aB .here ?_
  refine ay ?_
  refine aT .here fun hq=>?_
  obtain⟨rfl,hqt,rfl,hins⟩:=hq
  have done:mT It.n acc X[t]=acc.take m2++X[t]::acc.drop m2->be W (lH g cap n ((P++acc.take m2)++X[t]::(acc.drop m2++X.drop (t+1)++R))::F) (bI (fun m y w=>sat W ((ex fun t:Nat=>all [pu (m+t=X.length+1/\1<=t/\y= .int .i64 (P.length+t:Nat)),lH g cap n (P++(bt It.n (X.take t)++X.drop t)++R)])::F) w) m (.int .i64 (((P.length+t:Nat):Int)+1))):=by
   intro he
   refine aP (m-1) (by omega) (.ex (t+1) (.all ?_))
   refine ay ?_
   refine .pu ⟨by omega,by omega,by norm_cast⟩ ?_
   have e:(P++acc.take m2)++X[t]::(acc.drop m2++X.drop (t+1)++R)=P++(bt It.n (X.take (t+1))++X.drop (t+1))++R:=by
    rw[hnext,he]
    simp only[List.append_assoc,List.cons_append]
   rw[e]
   exact .refl
  refine bM (vY bq .nil (fun h=>?_) (fun h=>?_))
  ·obtain⟨r,rfl⟩:∃r,m2=r+1:=⟨m2-1,by omega⟩
   have hra:r<acc.length:=by omega
   have hD:(P++acc.take (r+1))++X[t]::(acc.drop (r+1)++X.drop (t+1)++R)=(P++acc.take r)++acc[r]::([]++X[t]::(acc.drop (r+1)++X.drop (t+1)++R)):=by
    rw[List.take_succ_eq_append_getElem hra];simp only[List.append_assoc,ca_,na_]
   have hD2:(P++acc.take r)++X[t]::(acc.drop r++X.drop (t+1)++R)=(P++acc.take r)++X[t]::([]++acc[r]::(acc.drop (r+1)++X.drop (t+1)++R)):=by
    rw[List.drop_eq_getElem_cons hra];simp only[ca_,na_]
   have hl1:(P++acc.take r).length=P.length+r:=by rw[List.length_append,List.length_take];omega
   rw[hD]at done ⊢
   have hlen:((P++acc.take r)++acc[r]::([]++X[t]::(acc.drop (r+1)++X.drop (t+1)++R))).length=n:=by
    simp only[List.length_append,List.length_take,List.length_drop,List.length_cons,List.length_nil];omega
   obtain⟨s1,s2,s3,s4⟩:=F5 (p:=P++acc.take r) (m:=[]) (q:=acc.drop (r+1)++X.drop (t+1)++R) (x:=acc[r]) (y:=X[t]) (i:=P.length+r) (j:=P.length+r+1) (by omega) (by rw[hl1];rfl) (by omega) (by omega)
   obtain⟨D,hDe⟩:∃D,D=(P++acc.take r)++acc[r]::([]++X[t]::(acc.drop (r+1)++X.drop (t+1)++R)):=⟨_,rfl⟩
   simp only[<- hDe]at s1 s2 s3 s4 hlen done ⊢
   have ld1:=pE (W:=W) (g:=g) (cap:=cap) hlen (j:=P.length+r+1) (by omega)
   have ld0:=pE (W:=W) (g:=g) (cap:=cap) hlen (j:=P.length+r) (by omega)
   rw[s2]at ld1
   rw[s1]at ld0
   refine ag (ag (ag (ag (t_ (dx (P.length+r+1) (by omega) (by omega)) ?_))))
   refine ag (aQ ld1 (.pick .here .nil) ?_)
   refine ag (ag (ag (t_ (ep (by omega) (by omega)) ?_)))
   refine ag (t_ (dx (P.length+r) (by omega) (by omega)) ?_)
   refine ag (aQ ld0 (.pick .here .nil) ?_)
   refine ag (aH CS .nil fun _=>?_)
   refine ay ?_
   refine ag (t_ aI (t_ aq ?_))
   by_cases h2:X[t].n<acc[r].n
   ·rw[dT_ (n8.2 h2)]
    refine ab (bM (aZ (ep (by omega) (by omega)) .nil ?_))
    refine t_ (ep (by omega) (by omega)) ?_
    refine t_ (dx (P.length+r) (by omega) (by omega)) ?_
    refine aQ ld0 (.pick .here .nil) ?_
    refine t_ (dx (P.length+r+1) (by omega) (by omega)) ?_
    refine aQ ld1 (.pick .here .nil) ?_
    refine t_ (dx (P.length+r+1) (by omega) (by omega)) ?_
    refine n7 .here (by omega) ?_
    refine cB aC ?_
    refine t_ (dx (P.length+r) (by omega) (by omega)) ?_
    refine n7 .here (by rw[List.length_set];omega) ?_
    rw[s4]
    refine fI ?_
    refine aP r (by omega) (.ex r (.all ?_))
    refine ay ?_
    refine .pu ⟨rfl,by omega,by congr 1;omega,?_⟩ ?_
    ·rw[hins]
     conv=>lhs;unfold ey
     rw[List.getElem?_eq_getElem hra]
     simp only
     rw[if_pos h2]
    ·rw[hD2]
     exact .refl
   ·rw[dF_ (fun c=>h2 (n8.1 c))]
    refine aa (bW ?_)
    refine done ?_
    rw[hins]
    conv=>lhs;unfold ey
    rw[List.getElem?_eq_getElem hra]
    simp only
    rw[if_neg h2]
  ·have:m2=0:=by omega
   subst this
   refine ah (ah (ah (ah (ah (ah (ah (ah (ah (ah (ah (ah (t_ ap (aa (bW ?_))))))))))))))
   exact done (by rw[hins];rfl)
 ·have hte:X.length<=t:=by omega
  rw[List.take_of_length_le hte,List.drop_eq_nil_of_le hte,List.append_nil]
  refine aa (bC () ?_)
  exact .refl
theorem Po {W:World}{g cap n c:Nat}{X:List It}(hn:X.length=n)(hm:n<=268435456):
  Cn p_ 251 [.slice (some ⟨g,0,none⟩) n c,.int .i64 (n:Int),fn 240] W [lH g cap n X] (fun _:Unit=> .tuple #[]) (fun _=>[lH g cap n (bt It.n X)]):=by
 have hlen:∀s,0<s->∀xs:List It,(lG It.n s xs).length=xs.length:=fun s hs xs=>JB It.n s hs (cT It.n) _ xs (Nat.le_refl _)
 (refine S.dl.cn fun F=>?_;unfold S.cy;simp only[ca_,na_])
 refine cg (fun m x y=>(ex fun q:List It × List It=>all [pu (m=q.2.length/\x= .int .i64 (q.1.length:Int)/\y= .int .i64 (q.1.length+20:Nat)/\q.1.length+q.2.length=n/\lG It.n 20 X=q.1++lG It.n 20 q.2),lH g cap n (q.1++q.2)])::F) n ?_ ?_
 ·refine .ex ([],X) (.all ?_)
  refine ay ?_
  refine .pu ⟨hn.symm,rfl,rfl,by simp;omega,rfl⟩ ?_
  exact .refl
 intro m ds x y
 refine aX .here fun q=>aB .here ?_
 obtain⟨G,Y⟩:=q
 refine ay ?_
 refine aT .here fun hq=>?_
 (try dsimp only at hq)
 (try dsimp only)
 obtain⟨hmq,rfl,rfl,hGY,hS⟩:=hq
 refine aF dX .nil (fun h=>?_) (fun h=>?_)
 ·have h20:20<=Y.length:=by omega
  refine ab ?_
  have e:G++Y=G++Y.take 20++Y.drop 20:=by rw[List.append_assoc,List.take_append_drop]
  rw[e]
  refine aH (xC (P:=G) (X:=Y.take 20) (R:=Y.drop 20) (by rw[<- e,List.length_append];omega) (by omega) rfl (by rw[List.length_take,Nat.min_eq_left h20])) (.cons .here .nil) fun _=>?_
  refine ay ?_
  refine bW ?_
  have hl:(bt It.n (Y.take 20)).length=20:=by rw[cT,List.length_take];omega
  rcases Nat.lt_or_ge 20 Y.length with c|c
  ·refine bH (Y.length-20) (by omega) (.ex (G++bt It.n (Y.take 20),Y.drop 20) (.all ?_))
   refine ay ?_
   refine .pu ⟨by simp,by rw[List.length_append,hl],by(try dsimp only);rw[List.length_append,hl];norm_cast,by(try dsimp only);rw[List.length_append,hl,List.length_drop];omega,?_⟩ ?_
   ·rw[hS,jo It.n (by decide) c,List.append_assoc]
   ·exact .refl
  ·-- the last NU is whole: nothing is left
   have hY:Y.take 20=Y:=List.take_of_length_le c
   have hY2:Y.drop 20=[]:=List.drop_eq_nil_of_le c
   refine bH 0 (by omega) (.ex (G++bt It.n (Y.take 20),[]) (.all ?_))
   refine ay ?_
   refine .pu ⟨rfl,by rw[List.length_append,hl],by(try dsimp only);rw[List.length_append,hl];norm_cast,by(try dsimp only);rw[List.length_append,hl];simp;omega,?_⟩ ?_
   ·rw[hS,df It.n c,hY,df It.n (show([]:List It).length<=20 by simp),show bt It.n ([]:List It)=[]from rfl,List.append_nil]
   ·rw[hY2]
    exact .refl
 refine aa ?_
 refine aH (xC (P:=G) (X:=Y) (R:=[]) (by rw[List.append_nil,List.length_append];omega) (by omega) rfl (by omega)) (.cons (by
  rw[show lH g cap n (G++Y++[])=lH g cap n (G++Y) by rw[List.append_nil]]
  exact .here) .nil) fun _=>?_
 refine ay ?_
 have hS2:G++bt It.n Y++[]=lG It.n 20 X:=by rw[hS,df It.n (by omega),List.append_nil]
 rw[hS2]
 refine bj (fun m y=>(ex fun s:Nat=>all [pu (m+s=2 * n+20/\20<=s/\y= .int .i64 (s:Int)/\s<=2 * n+20),lH g cap n (lG It.n s X)])::F) (2 * n) ?_ ?_
 ·refine .ex 20 (.all ?_)
  refine ay ?_
  refine .pu ⟨by omega,by omega,rfl,by omega⟩ ?_
  exact .refl
 intro m2 ds2 y
 refine aX .here fun s=>aB .here ?_
 refine ay ?_
 refine aT .here fun hs=>?_
 obtain⟨hms,hs20,rfl,hsl⟩:=hs
 refine aF aI .nil (fun h2=>?_) (fun h2=>?_)
 ·have hsn:s<n:=by omega
  refine ab (o_ (gZ (by omega) (by omega)) ?_)
  refine cg (fun m x y=>(ex fun q:List It × List It=>all [pu (m=q.2.length/\x= .int .i64 (q.1.length:Int)/\y= .int .i64 (q.1.length+2 * s:Nat)/\q.1.length+q.2.length=n/\lG It.n (2 * s) X=q.1++lG It.n (2 * s) q.2),lH g cap n (q.1++lG It.n s q.2)])::F) n ?_ ?_
  ·refine .ex ([],X) (.all ?_)
   refine ay ?_
   refine .pu ⟨hn.symm,rfl,by simp,by simp;omega,rfl⟩ ?_
   exact .refl
  intro m3 ds3 x3 y3
  refine aX .here fun q=>aB .here ?_
  obtain⟨G,Y⟩:=q
  refine ay ?_
  refine aT .here fun hq=>?_
  (try dsimp only at hq)
  (try dsimp only)
  obtain⟨hmq,rfl,rfl,hGY,hS⟩:=hq
  have u1:=jS It.n _ (Y.take s) rfl
  refine aF dX .nil (fun h3=>?_) (fun h3=>?_)
  ·have h2s:2 * s<=Y.length:=by omega
   refine ab (bW ?_)
   have l1:(bt It.n (Y.take s)).length=s:=by rw[cT,List.length_take];omega
   have l2:(bt It.n ((Y.drop s).take s)).length=s:=by rw[cT,List.length_take,List.length_drop];omega
   have u2:=jS It.n _ ((Y.drop s).take s) rfl
   have hM:dO It.n (bt It.n (Y.take s)) (bt It.n ((Y.drop s).take s))=bt It.n (Y.take (2 * s)):=by
    rw[tX It.n _ _ _ rfl]
    congr 1
    rw[show 2 * s=s+s by omega,List.take_add]
   obtain⟨Z,hZ⟩:∃Z,Z=(if 2 * s<Y.length then lG It.n s (Y.drop (2 * s))else []):=⟨_,rfl⟩
   have hsrt:lG It.n s Y=bt It.n (Y.take s)++bt It.n ((Y.drop s).take s)++Z:=by
    rw[jo It.n (by omega) (by omega),List.append_assoc]
    congr 1
    rw[hZ]
    split
    ·rename_i c
     rw[jo It.n (by omega) (by rw[List.length_drop];omega),List.drop_drop,show s+s=2 * s by omega]
    ·rename_i c
     rw[df It.n (by rw[List.length_drop];omega),List.append_nil,List.take_of_length_le (by rw[List.length_drop];omega)]
   have e:G++lG It.n s Y=G++bt It.n (Y.take s)++bt It.n ((Y.drop s).take s)++Z:=by rw[hsrt];simp only[List.append_assoc]
   have lall:(G++bt It.n (Y.take s)++bt It.n ((Y.drop s).take s)++Z).length=n:=by
    rw[<- e,List.length_append,hlen s (by omega)];omega
   rw[e]
   refine aH (C_ (by omega) _ (P:=G) (U:=bt It.n (Y.take s)) (V:=bt It.n ((Y.drop s).take s)) (R:=Z) (Nat.le_refl _) lall (by omega) (by omega) u1 u2 rfl (by rw[l1];omega) (by rw[l1,l2];omega)) (.cons .here .nil) fun _=>?_
   refine ay ?_
   rw[hM]
   have l3:(bt It.n (Y.take (2 * s))).length=2 * s:=by rw[cT,List.length_take];omega
   refine o_ (gZ (by omega) (by omega)) ?_
   refine bW ?_
   rcases Nat.lt_or_ge (2 * s) Y.length with c|c
   ·refine bH (Y.length-2 * s) (by omega) (.ex (G++bt It.n (Y.take (2 * s)),Y.drop (2 * s)) (.all ?_))
    refine ay ?_
    refine .pu ⟨by simp,by rw[List.length_append,l3],by(try dsimp only);rw[List.length_append,l3];congr 1 <;> omega,by(try dsimp only);rw[List.length_append,l3,List.length_drop];omega,?_⟩ ?_
    ·rw[hS,jo It.n (by omega) c,List.append_assoc]
    ·rw[hZ,if_pos c]
     exact .refl
   ·refine bH 0 (by omega) (.ex (G++bt It.n (Y.take (2 * s)),[]) (.all ?_))
    refine ay ?_
    have hz0:lG It.n s ([]:List It)=[]:=by rw[df It.n (by simp)];rfl
    have hz1:lG It.n (2 * s) ([]:List It)=[]:=by rw[df It.n (by simp)];rfl
    refine .pu ⟨rfl,by rw[List.length_append,l3],by(try dsimp only);rw[List.length_append,l3];congr 1 <;> omega,by(try dsimp only);rw[List.length_append,l3];simp;omega,?_⟩ ?_
    ·rw[hS,df It.n c,List.take_of_length_le c,hz1,List.append_nil]
    ·rw[hZ,if_neg (by omega)]
     (try dsimp only)
     rw[hz0]
     exact .refl
  ·refine aa (bW ?_)
   have fin:be W (lH g cap n (G++bt It.n Y)::F) (opN p_ (ae .mul 3 (.int .i64 (s:Int)) (.int .i64 2)) jY fun x62=>bI (fun m y w=>sat W ((ex fun s:Nat=>all [pu (m+s=2 * n+20/\20<=s/\y= .int .i64 (s:Int)/\s<=2 * n+20),lH g cap n (lG It.n s X)])::F) w) m2 x62):=by
    refine o_ (gZ (by omega) (by omega)) ?_
    refine aP (m2-s) (by omega) (.ex (2 * s) (.all ?_))
    refine ay ?_
    refine .pu ⟨by omega,by omega,by congr 1;omega,by omega⟩ ?_
    rw[hS,df It.n (by omega)]
    exact .refl
   refine aF aI .nil (fun h4=>?_) (fun h4=>?_)
   ·have hsY:s<Y.length:=by omega
    have l1:(bt It.n (Y.take s)).length=s:=by rw[cT,List.length_take];omega
    have l2:(bt It.n (Y.drop s)).length=Y.length-s:=by rw[cT,List.length_drop]
    have u2:=jS It.n _ (Y.drop s) rfl
    have hM:dO It.n (bt It.n (Y.take s)) (bt It.n (Y.drop s))=bt It.n Y:=by
     rw[tX It.n _ _ _ rfl,List.take_append_drop]
    have e:G++lG It.n s Y=G++bt It.n (Y.take s)++bt It.n (Y.drop s)++[]:=by
     rw[jo It.n (by omega) hsY,df It.n (by rw[List.length_drop];omega)]
     simp only[List.append_assoc,List.append_nil]
    have lall:(G++bt It.n (Y.take s)++bt It.n (Y.drop s)++[]).length=n:=by
     rw[<- e,List.length_append,hlen s (by omega)];omega
    rw[e]
    refine ab (aH (C_ (by omega) _ (P:=G) (U:=bt It.n (Y.take s)) (V:=bt It.n (Y.drop s)) (R:=[]) (Nat.le_refl _) lall (by omega) (by omega) u1 u2 rfl (by rw[l1];omega) (by rw[l1,l2];omega)) (.cons .here .nil) fun _=>?_)
    refine ay ?_
    rw[hM,List.append_nil]
    exact fin
   ·refine aa ?_
    rw[df It.n (show Y.length<=s by omega)]
    exact fin
 ·refine aa ?_
  rw[df It.n (by omega)]
  refine bC () ?_
  exact .refl
theorem Mm {W:World}{a:Option Addr}{cap c:Nat}{xs:List It}(hx:xs.length<=268435456):
  Cn p_ 239 [.slice a xs.length c,fn 240] W [Sl 2 319 a cap xs.length (xs.flatMap ic)] (fun _:Unit=> .tuple #[]) (fun _=>[Sl 2 319 a cap xs.length ((bt It.n xs).flatMap ic)]):=by
 rcases Nat.lt_or_ge xs.length 20 with h|h
 ·exact Ph h
 (refine S.bZ.cn fun F=>?_;unfold S.bE;simp only[ca_,na_])
 refine o_ aN (fE (a:=a) .here (by omega) fun g hg=>?_)
 subst hg
 refine aH (Po (g:=g) (cap:=cap) (X:=xs) rfl hx) (.cons .here .nil) fun _=>?_
 refine ay ?_
 refine bC () ?_
 exact .refl
end HF
namespace HF
open Go Go.Proofs Go.RowKit Sh Sl T HM
theorem zB {p:E->Prop}{q:E->Prop}(hq:∀a b,p a->p b->q (a.1+b.1,a.2++b.2)):∀ {xs:List E},(∀x∈xs,p x)->∀y∈cU xs,q y
 |[],_,y,hy=>by simp[cU]at hy
 |[_],_,y,hy=>by simp[cU]at hy
 |a::b::r,h,y,hy=>by
  rcases List.mem_cons.1 hy with rfl|hy
  ·exact hq a b (h a (by simp)) (h b (by simp))
  ·exact zB hq (fun x hx=>h x (by simp[hx])) y hy
def EO (n:Int)(j:Nat)(e:E):Prop:=0<e.1/\e.1<=1099511627776 * ((2^j:Nat):Int)/\0<e.2.length/\e.2.length<=2^j/\∀s∈e.2,0<=s/\s<n
theorem Mn {n:Int}{j:Nat}{e:E}(h:EO n 0 e):EO n j e:=by
 obtain⟨h1,h2,h3,h4,h5⟩:=h
 have hp:1<=2^j:=Nat.two_pow_pos j
 simp only[Nat.pow_zero]at h2 h4
 refine⟨h1,?_,h3,by omega,h5⟩
 have:(1:Int)<=((2^j:Nat):Int):=by exact_mod_cast hp
 omega
theorem JD {n:Int}{cs:List E}(h:∀e∈cs,EO n 0 e):∀j,∀e∈dR cs j,EO n j e
 |0,e,he=>h e he
 |j+1,e,he=>by
  rcases Bc Prod.fst _ _ he with c|c
  ·exact Mn (h e c)
  ·refine zB (p:=EO n j) (q:=EO n (j+1)) (fun a b ha hb=>?_) (JD h j) e c
   obtain⟨a1,a2,a3,a4,a5⟩:=ha
   obtain⟨b1,b2,b3,b4,b5⟩:=hb
   have e2:2^(j+1)=2^j+2^j:=by rw[Nat.pow_succ];omega
   refine⟨by show 0<a.1+b.1;omega,?_,by simp;omega,by simp;omega,fun s hs=>?_⟩
   ·show a.1+b.1<=_
    rw[e2];push_cast;push_cast at a2 b2;omega
   ·rcases List.mem_append.1 hs with c|c
    ·exact a5 s c
    ·exact b5 s c
def zC (freq:List Int):List E:=bt Prod.fst (ce 0 freq)
def sw (x:Int):Prop:=x<0\/1099511627776<x
instance (x:Int):Decidable (sw x):=by unfold sw;infer_instance
def kO (freq:List Int)(lim:Int):Int:=if(320<freq.length\/lim<1\/15<lim)\/(∃x∈freq,sw x)\/2^lim.toNat<(zC freq).length then 1 else 0
def cY (freq:List Int)(lim:Int):List Int:=if kO freq lim≠0 then []else if(zC freq).length=1 then(List.range freq.length).map fun s=>(dp (((zC freq).map PM.one)) s:Int)else(List.range freq.length).map (fx (zC freq) lim.toNat)
theorem Mo {freq:List Int}(hf:∀x∈freq,¬sw x):∀e∈zC freq,EO freq.length 0 e:=fun e he=>by
 have he':=tT _ _ _ he
 have hz:=PM.lF he'
 have hx:∀(l:List Int) (s:Int),e∈ce s l->e.1∈l:=by
  intro l
  induction l with
  |nil=>intro s h;simp[ce]at h
  |cons x l ih=>
   intro s h
   unfold ce at h
   split at h
   ·rcases List.mem_cons.1 h with rfl|h
    ·simp
    ·exact List.mem_cons_of_mem _ (ih _ h)
   ·exact List.mem_cons_of_mem _ (ih _ h)
 have hb:=hf _ (hx _ _ he')
 unfold sw at hb
 refine⟨hz.1,by simp;omega,by rw[hz.2.1];simp,by rw[hz.2.1];simp,fun s hs=>?_⟩
 rw[hz.2.1]at hs
 rw[List.mem_singleton.1 hs]
 omega
theorem Bi {W:World}{a:Option Addr}{cap:Nat}{freq:List Int}{A:HP}{lim:Int}(hr:RdB W A a freq.length (freq.map I))(hfl:freq.length<=1099511627776):
    Cn p_ 230 [.slice a freq.length cap,.int .i64 lim] W [A] (fun q:Option Addr × Nat=> .tuple #[.slice q.1 (cY freq lim).length q.2,.int .i64 (kO freq lim)]) (fun q=>[Sl 1 3 q.1 q.2 (cY freq lim).length ((cY freq lim).map I),A]):=by
  have bad:kO freq lim=1->∀L:List HP,be W (A::L) (fun w=>∃q:Option Addr × Nat,(.tuple #[.slice none 0 0,.int .i64 1]:Value)= .tuple #[.slice q.1 (cY freq lim).length q.2,.int .i64 (kO freq lim)]/\sat W ([Sl 1 3 q.1 q.2 (cY freq lim).length ((cY freq lim).map I),A]++L) w):=by
    intro h L
    have hv:cY freq lim=[]:=by unfold cY;rw[if_pos (by rw[h];decide)]
    rw[h,hv]
    refine bf (none,0) rfl ?_
    exact cQ .refl
  (refine S.wI.cn fun F=>?_;unfold S.rH;simp only[ca_,na_])
  refine o_ aN (o_ bq ?_)
  by_cases hl:320<freq.length
  · rw[dT_ (by omega)]
    exact aA (aA (o_ aq (aA (aA (o_ aq (ab (cr aC (bad (if_pos (.inl (.inl hl))) F))))))))
  rw[dF_ (by omega)]
  refine ag (ag (o_ aI ?_))
  by_cases h1:lim<1
  · rw[dT_ (by omega)]
    exact o_ ap (aA (aA (o_ aq (ab (cr aC (bad (if_pos (.inl (.inr (.inl h1)))) F))))))
  rw[dF_ (by omega)]
  refine o_ ap (ag (ag (o_ bq ?_)))
  by_cases h15:15<lim
  · rw[dT_ (by omega)]
    exact o_ ap (ab (cr aC (bad (if_pos (.inl (.inr (.inr h15)))) F)))
  rw[dF_ (by omega)]
  obtain⟨L,rfl⟩:=Int.eq_ofNat_of_zero_le (show 0<=lim by omega)
  obtain⟨cs,hcs⟩:∃cs,cs=zC freq:=⟨_,rfl⟩
  refine o_ ap (aa (o_ aN (cg (fun m x y=>[ex fun q:Option Addr × Nat=>ex fun xs:List It=>all [pu (∃i:Nat,m+i=freq.length/\y= .int .i64 (i:Int)/\x= .slice q.1 xs.length q.2/\xs.map er=ce 0 (freq.take i)/\xs.length<=i/\∀x∈freq.take i,¬sw x),Sl 2 319 q.1 q.2 xs.length (xs.flatMap ic),gN xs,A]]++F) freq.length ?_ ?_)))
  · refine .ex (none,0) (.ex [] (.all ?_))
    refine ay ?_
    exact .pu ⟨0,by omega,rfl,rfl,rfl,Nat.le_refl _,fun x hx=>by simp at hx⟩ (cQ (Mf .refl))
  intro m ds x y
  refine ay ?_
  refine aX Pick.here fun q=>aX Pick.here fun xs=>aB Pick.here ?_
  obtain⟨qa,qc⟩:=q
  refine ay ?_
  refine aT Pick.here fun hi=>?_
  obtain⟨i,hmi,rfl,rfl,hxs,hxl,hok⟩:=hi
  (try dsimp only)
  refine aF aI .nil (fun h=>?_) (fun h=>?_)
  · have hil:i<freq.length:=by omega
    obtain⟨ga,oa,rfl,_⟩:=hr.at_ (by omega)
    have hbad:sw freq[i]->kO freq L=1:=fun h=>if_pos (.inr (.inl ⟨_,List.getElem_mem hil,h⟩))
    have hok2:¬sw freq[i]->∀x∈freq.take (i+1),¬sw x:=fun h x hx=>by
      rw[List.take_succ_eq_append_getElem hil]at hx
      rcases List.mem_append.1 hx with c|c
      · exact hok x c
      · rw[List.mem_singleton.1 c];exact h
    have hsn:ce 0 (freq.take (i+1))=ce 0 (freq.take i)++if 0<freq[i]then [(freq[i],[(i:Int)])]else []:=by
      rw[List.take_succ_eq_append_getElem hil,uR,List.length_take,Nat.min_eq_left (by omega),Int.zero_add]
    refine ab (o_ (bA i (by rfl) hil) ?_)
    refine cm (cX hr (gB hil)) ?_
    refine o_ aI ?_
    by_cases hn1:freq[i]<0
    · rw[dT_ hn1]
      exact aA (aA (o_ aq (ab (cr aC (bad (hbad (.inl hn1)) F)))))
    rw[dF_ hn1]
    refine ag (ag (o_ bq ?_))
    by_cases hn2:1099511627776<freq[i]
    · rw[dT_ hn2]
      exact o_ ap (ab (cr aC (bad (hbad (.inr hn2)) F)))
    rw[dF_ hn2]
    have hfi:=hok2 (by unfold sw;omega)
    refine o_ ap (aa (aF bq .nil (fun h=>?_) (fun h=>?_)))
    · refine ab ?_
      refine kF fun g=>?_
      refine Ni (s:=1) (n:=1) (cs:=[.int .i64 (i:Int)]) .here (by rfl) (by unfold maxLen;omega) ?_
      refine Sd (x:=⟨freq[i],g,1,[(i:Int)]⟩) rfl .here (.there .here) ?_
      refine o_ cu ?_
      refine fp (s:=2) (vs:=[av ⟨freq[i],g,1,[(i:Int)]⟩]) rfl (by omega) rfl (by intro z hz;simp at hz;subst hz;rfl) (by omega) fun g4=>?_
      refine co (m:=1) (news:=ic ⟨freq[i],g,1,[(i:Int)]⟩) (by repeat constructor) (dq (s:=2) (e':=319) (by kernel_rfl) .here (by rfl) (n5 _)) (by omega) (by omega) fun a' c'=>?_
      refine bW ?_
      refine bH (m-1) (by omega) (.ex (a',c') (.ex (xs++[⟨freq[i],g,1,[(i:Int)]⟩]) (.all ?_)))
      refine ay ?_
      refine .pu ⟨i+1,by omega,by norm_cast,by rw[List.length_append];rfl,by rw[hsn,if_pos h,List.map_append,hxs];rfl,by simp;omega,hfi⟩ ?_
      rw[List.flatMap_append,List.length_append,List.length_singleton,List.flatMap_singleton]
      refine .pick (by repeat constructor) (.convL (A:=gN (⟨freq[i],g,1,[(i:Int)]⟩::xs)) (B:=gN (xs++[⟨freq[i],g,1,[(i:Int)]⟩])) (by repeat constructor) (fun f hf y hy=>hf y (by simp at hy ⊢;rcases hy with c|c;exact .inr c;exact .inl c)) ?_)
      exact aC
    · refine aa ?_
      refine bW ?_
      refine bH (m-1) (by omega) (.ex (qa,qc) (.ex xs (.all ?_)))
      refine ay ?_
      refine .pu ⟨i+1,by omega,by norm_cast,rfl,by rw[hsn,if_neg h,List.append_nil,hxs],by omega,hfi⟩ ?_
      exact aC
  · have hie:i=freq.length:=by omega
    subst hie
    rw[List.take_length]at hxs hok
    have hcx:cs.length=xs.length:=by rw[hcs,zC,cT,<- hxs,List.length_map]
    obtain⟨ci,hci⟩:∃ci,ci=bt It.n xs:=⟨_,rfl⟩
    have hcil:ci.length=xs.length:=by rw[hci,cT]
    have hce:ci.map er=cs:=by rw[hci,Hh It.n Prod.fst er (fun _=>rfl),hxs,hcs];rfl
    have hcm:∀y∈ci,y∈xs:=fun y hy=>by rw[hci]at hy;exact tT It.n xs y hy
    refine aa (o_ aN (o_ bO ?_))
    rw[iN (by omega) (by omega)]
    refine o_ (me (by omega)) ?_
    rw[FG (by omega) (by omega) (by omega)]
    refine o_ bq ?_
    by_cases hkL:2^L<cs.length
    · rw[dT_ (by
        obtain⟨Z,hZ⟩:∃Z:Nat,Z=2^L:=⟨_,rfl⟩
        rw[<- hZ]at hkL ⊢
        omega)]
      exact ab (cr aC (bad (if_pos (.inr (.inr (by rw[Int.toNat_natCast,<- hcs];exact hkL)))) F))
    rw[dF_ (by
      obtain⟨Z,hZ⟩:∃Z:Nat,Z=2^L:=⟨_,rfl⟩
      rw[<- hZ]at hkL ⊢
      omega)]
    have hE:kO freq L=0:=by
      unfold kO
      rw[if_neg]
      rintro((c|c|c)|⟨x,hx,c⟩|c)
      · omega
      · omega
      · omega
      · exact hok x hx c
      · rw[Int.toNat_natCast,<- hcs]at c;exact hkL c
    have hV:cY freq L=if cs.length=1 then(List.range freq.length).map fun s=>(dp (cs.map PM.one) s:Int)else(List.range freq.length).map (fx cs L):=by
      unfold cY
      rw[if_neg (fun c=>c hE),<- hcs,Int.toNat_natCast]
    have hVl:(cY freq L).length=freq.length:=by rw[hV];split <;> simp
    rw[hE,hVl]
    have hrb:=JD (n:=(freq.length:Int)) (cs:=cs) (by rw[hcs];exact Mo hok)
    have hp15:∀j,j<=15->2^j<=32768:=fun j hj=>r_ hj
    have hrows:∀j,j<L->(dR cs j).length<=1073741824/\∀e∈dR cs j,0<=e.1/\e.1<=1152921504606846976/\0<e.2.length/\e.2.length<=1073741824:=fun j hj=>by
      refine⟨by have:=PM.zy cs j;omega,fun e he=>?_⟩
      obtain⟨e1,e2,e3,e4,_⟩:=hrb j e he
      have hp:=hp15 j (by omega)
      have hp':((2^j:Nat):Int)<=((32768:Nat):Int):=Int.ofNat_le.2 hp
      omega
    refine aa (o_ aN (gz freq.length freq.length (by rfl) (by rfl) (by omega) (by omega) (by unfold maxLen;omega) fun go=>?_))
    rw[ej]
    refine o_ bF ?_
    by_cases hk1:cs.length=1
    · obtain⟨e,he⟩:=List.length_eq_one_iff.1 hk1
      obtain⟨x,hx⟩:∃x,xs=[x]:=List.length_eq_one_iff.1 (by omega)
      subst hx
      have hxe:er x=e:=by
        have:ci=[x]:=by rw[hci];rfl
        rw[this,he]at hce
        simpa using hce
      obtain⟨e1,e2,e3,e4,e5⟩:=hrb 0 e (by rw[dR,he];simp)
      have hone:x.w=[PM.one e]:=by
        have hm:=(PM.lF (tT _ _ _ (show e∈zC freq by rw[<- hcs,he];simp))).2.1
        rw[<- hm,<- hxe];rfl
      have hin:=e5 (PM.one e) (by rw[<- hxe];show PM.one (er x)∈x.w;rw[hxe,hone];simp)
      rw[dT_ (by omega)]
      refine ab (fE (a:=qa) (by repeat constructor) (by simp) fun gq hgq=>?_)
      subst hgq
      have rdc:yM W (Sl 2 319 (some ⟨gq,0,none⟩) qc [x].length ([x].flatMap ic)) (some ⟨gq,0,none⟩) [x]:=qt (P:=p_) (by rw[gM]) (fun _=>⟨gq,rfl⟩)
      have w0:=FV rdc (j:=0) (by simp)
      have r0:=FS (W:=W) (xs:=[x]) (x:=x) (by simp)
      rw[hone]at r0
      obtain⟨S,hS⟩:∃S:Nat,(S:Int)=PM.one e:=⟨(PM.one e).toNat,by omega⟩
      refine o_ (dx 0 (by rfl) (by simp)) ?_
      refine o_ Ah (cm w0 ?_)
      rw[show([x]:List It)[0]=x from rfl,hone]
      refine o_ (bA 0 (by rfl) (by simp)) ?_
      refine cm (cX (j:=0) r0 (v:=I (PM.one e)) rfl) ?_
      refine o_ (bA S (by exact hS.symm) (by omega)) ?_
      rw[Nat.zero_add]
      refine jz (g:=go) (cs:=Ln freq.length fun _=>0) (v:=I 1) (j:=S) (by repeat constructor) (by rw[kM];omega) ?_
      rw[show(Ln freq.length fun _=>0).set S (I 1)=Ln freq.length fun i=>if i=S then 1 else 0 from w8]
      refine bf (some ⟨go,0,none⟩,freq.length) rfl ?_
      have hLn:(Ln freq.length fun i=>if i=S then 1 else 0)=(cY freq L).map I:=by
        rw[hV,if_pos hk1]
        refine w7 (by simp) fun j hj=>?_
        rw[List.map_map,List.getElem?_map,List.getElem?_range hj]
        simp only[Option.map_some,Function.comp]
        congr 2
        rw[he]
        simp only[List.map_cons,List.map_nil,dp,<- hS]
        by_cases c:j=S
        · subst c;simp
        · rw[if_neg c,if_neg (fun d=>c (by omega))];simp
      rw[hLn]
      exact aC
    rw[dF_ (by omega)]
    rw[if_neg hk1]at hV
    have hfinal:(cY freq L).map I=Ln freq.length (fx cs L):=by rw[hV,List.map_map];rfl
    rw[hfinal]
    refine aa (c_ (Mm (by omega)) fun _=>?_)
    rw[<- hci]
    refine fI ?_
    refine aJ .here fun f1 f2 f3 f4=>?_
    have rdc:yM W (Sl 2 319 qa qc xs.length (ci.flatMap ic)) qa ci:=by
      unfold yM
      rw[hcil]
      exact qt (P:=p_) (by rw[gM,hcil]) f4
    refine cg (fun m x y=>[ex fun j:Nat=>ex fun q:Option Addr × Nat=>ex fun rs:List It=>ex fun ar:List It=>all [pu (m+j=L-1/\y= .int .i64 (j:Int)/\x= .slice q.1 rs.length q.2/\rs.map er=dR cs j/\(∀y∈rs,y∈ar)/\(∀y∈ci,y∈ar)/\(j=0->q=(qa,qc)/\rs=ci)),(if j=0 then pu True else Sl 2 319 q.1 q.2 rs.length (rs.flatMap ic)),gN ar,Sl 2 319 qa qc xs.length (ci.flatMap ic),Sl 1 3 (some ⟨go,0,none⟩) freq.length freq.length (Ln freq.length fun _=>0),A]]++F) (L-1) ?_ ?_
    · refine .ex 0 (.ex (qa,qc) (.ex ci (.ex xs (.all ?_))))
      refine ay ?_
      refine .pu ⟨by omega,rfl,by rw[hcil],hce,hcm,hcm,fun _=>⟨rfl,rfl⟩⟩ ?_
      rw[if_pos rfl]
      refine .pu trivial ?_
      exact .pick (by repeat constructor) (.pick (by repeat constructor) (.pick (by repeat constructor) (.pick (by repeat constructor) .refl)))
    intro m2 ds x y
    refine ay ?_
    refine aX Pick.here fun j=>aX Pick.here fun q=>aX Pick.here fun rs=>aX Pick.here fun ar=>aB Pick.here ?_
    obtain⟨ra,rc⟩:=q
    refine ay ?_
    refine aT Pick.here fun hj=>?_
    obtain⟨hmj,rfl,rfl,hrs,hra,hca,hj0⟩:=hj
    (try dsimp only)
    have hrl:rs.length=(dR cs j).length:=by rw[<- hrs,List.length_map]
    have hmem:∀y∈rs,er y∈dR cs j:=fun y hy=>by rw[<- hrs];exact List.mem_map.2 ⟨y,hy,rfl⟩
    have hbj:=hrows j (by omega)
    have hb1:∀y∈rs,0<=y.n/\y.n<=1152921504606846976/\0<y.w.length/\y.w.length<=1073741824:=fun y hy=>hbj.2 (er y) (hmem y hy)
    refine aF aI .nil (fun h=>?_) (fun h=>?_)
    · have hjL:j<L-1:=by omega
      refine ab ?_
      have step:∀(q:Option Addr × Nat) (ps ar':List It),ps.map er=cU (rs.map er)->(∀y∈ps,y∈ar')->(∀y∈ar,y∈ar')->be W (Sl 2 319 q.1 q.2 ps.length (ps.flatMap ic)::gN ar'::Sl 2 319 qa qc xs.length (ci.flatMap ic)::Sl 1 3 (some ⟨go,0,none⟩) freq.length freq.length (Ln freq.length fun _=>0)::A::F) (opN p_ (aj (fn 243) [.slice qa xs.length qc,.slice q.1 ps.length q.2]) jY fun x117=>
           opN p_ (ae .add 3 (.int .i64 (j:Int)) (.int .i64 1)) jY fun x118=>
           cH (fun m x y w=>sat W ([ex fun j:Nat=>ex fun q:Option Addr × Nat=>ex fun rs:List It=>ex fun ar:List It=>all [pu (m+j=L-1/\y= .int .i64 (j:Int)/\x= .slice q.1 rs.length q.2/\rs.map er=dR cs j/\(∀y∈rs,y∈ar)/\(∀y∈ci,y∈ar)/\(j=0->q=(qa,qc)/\rs=ci)),(if j=0 then pu True else Sl 2 319 q.1 q.2 rs.length (rs.flatMap ic)),gN ar,Sl 2 319 qa qc xs.length (ci.flatMap ic),Sl 1 3 (some ⟨go,0,none⟩) freq.length freq.length (Ln freq.length fun _=>0),A]]++F) w) m2 x117 x118):=by
        intro q ps ar' hps hpa haa
        obtain⟨pa,pc⟩:=q
        (try dsimp only)
        have hpl:ps.length<=1073741824:=by
          have e1:ps.length=(cU (rs.map er)).length:=by rw[<- hps,List.length_map]
          have e2:∀n,∀l:List E,l.length<=n->(cU l).length<=l.length:=by
            intro n
            induction n with
            |zero=>
              intro l hl
              have hl0:l=[]:=List.eq_nil_of_length_eq_zero (by omega)
              subst hl0
              simp[cU]
            |succ n ih=>
              intro l hl
              match l,hl with
              |[],_=>simp[cU]
              |[x],_=>simp[cU]
              |x::y::r,hl=>have:=ih r (by simp at hl;omega);simp[cU];omega
          have:=e2 _ (rs.map er) (Nat.le_refl _)
          rw[List.length_map]at this
          omega
        refine aJ .here fun g1 g2 g3 g4=>?_
        have rdp:yM W (Sl 2 319 pa pc ps.length (ps.flatMap ic)) pa ps:=qt (P:=p_) (by rw[gM]) g4
        rw[<- hcil]
        rw[<- hcil]at rdc f2
        refine c_ (Pj rdc rdp f2 g2 (by omega) hpl) fun _=>?_
        rename_i q3
        obtain⟨ma,mc⟩:=q3
        (try dsimp only)
        refine bW ?_
        refine bH (m2-1) (by omega) (.ex (j+1) (.ex (ma,mc) (.ex (dO It.n ci ps) (.ex ar' (.all ?_)))))
        refine ay ?_
        refine .pu ⟨by omega,by norm_cast,by rw[sn],?_,fun y hy=>?_,fun y hy=>haa y (hca y hy),fun c=>by omega⟩ ?_
        · rw[FT It.n Prod.fst er (fun _=>rfl),hce,hps,hrs];rfl
        · rcases Bc It.n ci ps hy with c|c
          · exact haa y (hca y c)
          · exact hpa y c
        · rw[if_neg (by omega),sn]
          exact .pick (by repeat constructor) (.pick (by repeat constructor) (.pick (by repeat constructor) (.pick (by repeat constructor) (.pick (by repeat constructor) aC))))
      by_cases c0:j=0
      · rw[if_pos c0]
        obtain⟨e1,e2⟩:=hj0 c0
        injection e1 with e1 e3
        subst e1;subst e3
        refine cr (M:=Sl 2 319 ra rc xs.length (ci.flatMap ic)::gN ar::Sl 1 3 (some ⟨go,0,none⟩) freq.length freq.length (Ln freq.length fun _=>0)::A::F) aC ?_
        rw[e2]
        rw[e2]at step hra hb1
        refine zx rdc hra (by omega) hb1 fun q ps ar' k1 k2 k3=>?_
        exact cr aC (step q ps ar' k1 k2 k3)
      · rw[if_neg c0]
        refine aJ .here fun g1 g2 g3 g4=>?_
        have rdr:yM W (Sl 2 319 ra rc rs.length (rs.flatMap ic)) ra rs:=qt (P:=p_) (by rw[gM]) g4
        refine zx rdr hra (by omega) hb1 fun q ps ar' k1 k2 k3=>?_
        exact cr aC (step q ps ar' k1 k2 k3)
    · have hjL:j=L-1:=by omega
      subst hjL
      refine aa ?_
      by_cases hk0:cs.length=0
      · have hh:(Ln freq.length fun _=>0)=Ln freq.length (fx cs L):=by
          refine jP fun s _=>?_
          unfold fx
          rw[hk0];rfl
        rw[hh]
        refine bj (fun m y=>[pu (y= .int .i64 0),Sl 1 3 (some ⟨go,0,none⟩) freq.length freq.length (Ln freq.length (fx cs L)),A]++F) 0 ?_ ?_
        · refine ay ?_
          refine .pu rfl ?_
          exact aC
        intro m ds y
        refine ay ?_
        refine aT Pick.here fun hy=>?_
        subst hy
        refine o_ (gZ (by omega) (by omega)) ?_
        refine fI ?_
        refine o_ aI ?_
        rw[dF_ (by omega)]
        refine aa (bf (some ⟨go,0,none⟩,freq.length) rfl ?_)
        exact aC
      have hlast:2 * cs.length-2<=(dR cs (L-1)).length/\∀e∈dR cs (L-1),∀s∈e.2,0<=s/\s<(freq.length:Int):=by
        refine⟨PM.uS (by omega) (by rw[show L-1+1=L by omega];omega),fun e he s hs=>(hrb (L-1) e he).2.2.2.2 s hs⟩
      have hb2:∀y∈rs,y.w.length<=1073741824/\∀s∈y.w,0<=s/\s<(freq.length:Int):=fun y hy=>⟨(hb1 y hy).2.2.2,hlast.2 (er y) (hmem y hy)⟩
      have fin:be W (Sl 1 3 (some ⟨go,0,none⟩) freq.length freq.length (Ln freq.length fun s=>(dp (((rs.map er).take (2 * xs.length-2)).flatMap fun e=>e.2) s:Int))::A::F) (fun w=>∃x:Option Addr × Nat,(.tuple #[.slice (some ⟨go,0,none⟩) freq.length freq.length,.int .i64 0]:Value)= .tuple #[.slice x.1 freq.length x.2,.int .i64 0]/\sat W ([Sl 1 3 x.1 x.2 freq.length (Ln freq.length (fx cs L)),A]++F) w):=by
        refine bf (some ⟨go,0,none⟩,freq.length) rfl ?_
        rw[hrs,<- hcx]
        exact .refl
      by_cases c0:L-1=0
      · rw[if_pos c0]
        obtain⟨e1,e2⟩:=hj0 c0
        injection e1 with e1 e3
        subst e1;subst e3
        refine cr (M:=Sl 1 3 (some ⟨go,0,none⟩) freq.length freq.length (Ln freq.length fun _=>0)::Sl 2 319 ra rc xs.length (ci.flatMap ic)::gN ar::A::F) aC ?_
        subst e2
        refine CT rdc hra (by omega) ⟨by omega,by omega⟩ (by omega) hb2 ?_
        exact fin
      · rw[if_neg c0]
        refine aJ .here fun g1 g2 g3 g4=>?_
        have rdr:yM W (Sl 2 319 ra rc rs.length (rs.flatMap ic)) ra rs:=qt (P:=p_) (by rw[gM]) g4
        refine cr (M:=Sl 1 3 (some ⟨go,0,none⟩) freq.length freq.length (Ln freq.length fun _=>0)::Sl 2 319 ra rc rs.length (rs.flatMap ic)::gN ar::A::F) aC ?_
        refine CT rdr hra (by omega) ⟨by omega,by omega⟩ (by omega) hb2 ?_
        exact fin
end HF
set_option maxRecDepth 4000
namespace PM
open Go Go.Proofs HM HF
theorem qv {e:E}:∀(l:List Int) (s:Int),e∈ce s l->∃(k:Nat) (hk:k<l.length),one e=s+k/\0<l[k]/\e.1=l[k]:=by
 intro l
 induction l with
 |nil=>intro s h;simp[ce]at h
 |cons x l ih=>
  intro s h
  unfold ce at h
  have tl:e∈ce (s+1) l->∃(k:Nat) (hk:k<(x::l).length),one e=s+k/\0<(x::l)[k]/\e.1=(x::l)[k]:=fun h=>by
   obtain⟨k,hk,e1,e2,e3⟩:=ih (s+1) h
   exact⟨k+1,by simp;omega,by rw[e1];push_cast;omega,by simpa using e2,by simpa using e3⟩
  split at h
  ·rename_i hx
   rcases List.mem_cons.1 h with rfl|h
   ·exact⟨0,by simp,by simp[one],by simpa using hx,rfl⟩
   ·exact tl h
  ·exact tl h
theorem n9:∀(l:List Int) (s:Int),(ce s l).length=l.countP fun x=>decide (0<x)
 |[],_=>rfl
 |x::l,s=>by
  have ih:=n9 l (s+1)
  unfold ce
  rw[List.countP_cons]
  by_cases h:0<x
  ·rw[if_pos h,List.length_cons,ih,if_pos (by simpa using h)]
  ·rw[if_neg h,ih,if_neg (by simpa using h)];rfl
theorem JE:∀ {l:List Int},(∀x∈l,x<=15)->(wk l 15:Int)=Hk l
 |[],_=>rfl
 |x::l,h=>by
  have ih:=JE (l:=l) fun y hy=>h y (by simp[hy])
  have hx:=h x (by simp)
  rw[wk,Hk]
  push_cast
  rw[ih]
  by_cases c:0<x
  ·rw[if_pos ⟨c,hx⟩,if_pos c];push_cast;rfl
  ·rw[if_neg (fun d=>c d.1),if_neg c];rfl
def UQ (fN l:List Int)(lim:Int):Bool:=decide (fN.length=l.length)&&(fN.zip l).all fun p=>!((decide (p.2<0)||decide (lim<p.2))||(decide (p.1≠0)&&decide (p.2=0)))
theorem JF {fN l:List Int}{lim:Int}(h:UQ fN l lim=true):fN.length=l.length/\(∀x∈l,0<=x/\x<=lim)/\∀(i:Nat) (h:i<fN.length) (h':i<l.length),fN[i]≠0->l[i]≠0:=by
 unfold UQ at h
 rw[Bool.and_eq_true,decide_eq_true_eq,List.all_eq_true]at h
 obtain⟨h1,h2⟩:=h
 have key:∀(i:Nat) (h:i<fN.length) (h':i<l.length),(0<=l[i]/\l[i]<=lim)/\(fN[i]≠0->l[i]≠0):=fun i hi hi'=>by
  have hm:(fN[i],l[i])∈fN.zip l:=by
   have:=List.getElem_mem (l:=fN.zip l) (n:=i) (by simp;omega)
   rwa [List.getElem_zip]at this
  have:=h2 _ hm
  simp at this
  omega
 refine⟨h1,fun x hx=>?_,fun i hi hi'=>(key i hi hi').2⟩
 obtain⟨i,hi,rfl⟩:=List.getElem_of_mem hx
 exact(key i (by omega) hi).1
theorem cV {freq:List Int}{lim:Int}(hE:kO freq lim=0):
  (cY freq lim).length=freq.length/\freq.length<=320/\(1<=lim/\lim<=15)/\(∀x∈freq,0<=x/\x<=1099511627776)/\(∀x∈cY freq lim,0<=x/\x<=lim)/\(∀(i:Nat) (h:i<freq.length) (h':i<(cY freq lim).length),0<freq[i]↔0<(cY freq lim)[i])/\
  Hk (cY freq lim)<=2^15/\(2<=(freq.countP fun x=>decide (0<x))->Hk (cY freq lim)=2^15)/\
  ∀t:List Int,UQ freq t lim=true->Hk t<=2^15->ss freq (cY freq lim)<=ss freq t:=by
 have hno:¬((320<freq.length\/lim<1\/15<lim)\/(∃x∈freq,sw x)\/2^lim.toNat<(zC freq).length):=fun h=>by
  unfold kO at hE
  rw[if_pos h]at hE
  cases hE
 have h1:¬(320<freq.length\/lim<1\/15<lim):=fun c=>hno (.inl c)
 have h2:∀x∈freq,¬sw x:=fun x hx c=>hno (.inr (.inl ⟨x,hx,c⟩))
 have h3:(zC freq).length<=2^lim.toNat:=Nat.le_of_not_lt fun c=>hno (.inr (.inr c))
 have hf:∀x∈freq,0<=x/\x<=1099511627776:=fun x hx=>by
  have:=h2 x hx
  unfold sw at this
  omega
 obtain⟨L,rfl⟩:=Int.eq_ofNat_of_zero_le (show 0<=lim by omega)
 rw[Int.toNat_natCast]at h3
 have hperm:(zC freq).Perm (ce 0 freq):=qu _ _
 have hcl:(zC freq).length=freq.countP fun x=>decide (0<x):=by rw[hperm.length_eq,n9]
 have hV:cY freq (L:Int)=if(zC freq).length=1 then(List.range freq.length).map fun s=>(dp (((zC freq).map one)) s:Int)else(List.range freq.length).map (fx (zC freq) L):=by
  unfold cY
  rw[if_neg (fun c=>c hE),Int.toNat_natCast]
 have hlen:(cY freq (L:Int)).length=freq.length:=by rw[hV];split <;> simp
 refine⟨hlen,by omega,by omega,hf,?_⟩
 obtain⟨cs,hcs⟩:∃cs,cs=zC freq:=⟨_,rfl⟩
 rw[<- hcs]at hV hcl hperm h3
 rw[<- hcl]
 rcases Nat.lt_or_ge cs.length 2 with hk|hk
 ·-- none, or one
  have hget:∃T:Int->Int,(∀(i:Nat) (h:i<(cY freq (L:Int)).length),(cY freq (L:Int))[i]=T (0+(i:Int)))/\(∀e∈cs,T (one e)=1)/\∀i:Nat,T i≠0->T i=1/\∃e∈cs,one e=(i:Int):=by
   rcases Nat.lt_or_ge cs.length 1 with c|c
   ·have h0:cs=[]:=List.eq_nil_of_length_eq_zero (by omega)
    refine⟨fun _=>0,fun i h=>?_,by rw[h0];simp,fun i h=>absurd rfl h⟩
    have e:cY freq (L:Int)=(List.range freq.length).map (fx [] L):=by rw[hV,h0];rfl
    simp only[e,List.getElem_map,List.getElem_range]
    rfl
   ·obtain⟨e,he⟩:=List.length_eq_one_iff.1 (show cs.length=1 by omega)
    obtain⟨k,hk',e1,e2,e3⟩:=qv freq 0 (hperm.mem_iff.1 (show e∈cs by rw[he];simp))
    have e4:cY freq (L:Int)=(List.range freq.length).map fun s=>(dp (cs.map one) s:Int):=by rw[hV,if_pos (by rw[he];rfl)]
    refine⟨fun j=>if j=one e then 1 else 0,fun i h=>?_,fun x hx=>?_,fun i h=>?_⟩
    ·simp only[e4,List.getElem_map,List.getElem_range,he,List.map_cons,List.map_nil,dp]
     by_cases d:one e=(i:Int)
     ·rw[if_pos d,if_pos (by omega)];rfl
     ·rw[if_neg d,if_neg (by omega)];rfl
    ·rw[he]at hx
     rw[List.mem_singleton.1 hx]
     show(if one e=one e then(1:Int)else 0)=1
     rw[if_pos rfl]
    ·by_cases d:(i:Int)=one e
     ·exact⟨if_pos d,e,by rw[he];simp,d.symm⟩
     ·simp only[if_neg d]at h
      exact absurd rfl h
  obtain⟨T,hT,hT1,hT2⟩:=hget
  have hiff:∀(i:Nat) (h:i<freq.length) (h':i<(cY freq (L:Int)).length),0<freq[i]↔0<(cY freq (L:Int))[i]:=fun i hi hi'=>by
   rw[hT i hi',Int.zero_add]
   constructor
   ·intro hp
    have hm:=hperm.mem_iff.2 (tW (l:=freq) (s:=0) hi hp)
    have:=hT1 _ hm
    have e:one (freq[i],[0+(i:Int)])=(i:Int):=by simp[one]
    rw[e]at this
    omega
   ·intro hp
    obtain⟨_,e,he,h2⟩:=hT2 i (by omega)
    obtain⟨k,hk',e1,e2,e3⟩:=qv freq 0 (hperm.mem_iff.1 he)
    have:k=i:=by omega
    subst this
    exact e2
  have hb:∀x∈cY freq (L:Int),0<=x/\x<=(L:Int):=fun x hx=>by
   obtain⟨i,hi,rfl⟩:=List.getElem_of_mem hx
   rw[hT i hi,Int.zero_add]
   by_cases c:T i=0
   ·omega
   ·have:=(hT2 i c).1;omega
  have hkr:Hk (cY freq (L:Int))=ez (fun e=>2^(15-(T (one e)).toNat)) cs:=by
   rw[<- JA T 0 freq _ hlen.symm (fun i h h'=>hiff i h' h) hT,<- ek (fun _ j=>2^(15-(T j).toNat)) 0 freq,<- iy _ hperm]
  refine⟨hb,hiff,?_,fun h=>absurd h (by omega),fun t ht hkt=>?_⟩
  ·rw[hkr]
   match cs,hk,hT1 with
   |[],_,_=>show(0:Int)<=2^15;decide
   |[e],_,hT1=>
    rw[ez,ez,hT1 e (by simp)]
    decide
  ·obtain⟨t1,t2,t3⟩:=JF ht
   rw[xy T 0 freq _ hlen.symm (fun x hx=>(hf x hx).1) hT,xy (fun j:Int=>t.getD j.toNat 0) 0 freq t t1 (fun x hx=>(hf x hx).1) (fun i h=>by simp[h])]
   rw[<- ek (fun x j=>x * T j) 0 freq,<- ek (fun x j=>x * t.getD j.toNat 0) 0 freq,<- iy _ hperm,<- iy _ hperm]
   match cs,hk,hT1,hperm with
   |[],_,_,_=>exact Int.le_refl _
   |[e],_,hT1,hperm=>
    obtain⟨k,hk',e1,e2,e3⟩:=qv freq 0 (hperm.mem_iff.1 (show e∈[e] by simp))
    rw[ez,ez,ez,ez,hT1 e (by simp)]
    have hk2:(one e).toNat=k:=by omega
    rw[hk2]
    have hkt':k<t.length:=by omega
    have e4:t.getD k 0=t[k]:=by simp[hkt']
    rw[e4]
    have a:=t2 t[k] (List.getElem_mem _)
    have b:=t3 k hk' hkt' (by omega)
    have:e.1 * 1<=e.1 * t[k]:=Int.mul_le_mul_of_nonneg_left (by omega) (by omega)
    omega
 ·have hV2:cY freq (L:Int)=(List.range freq.length).map (fx cs L):=by rw[hV,if_neg (by omega)]
  obtain⟨b1,b2,b3,b4⟩:=Hl (freq:=freq) (L:=L) (cs:=cs) (by omega) (by omega) (fun x hx=>(hf x hx).1) hcs hk h3
  rw[hV2]
  refine⟨fun x hx=>?_,fun i hi hi'=>?_,by rw[b3];exact Int.le_refl _,fun _=>b3,fun t ht hkt=>?_⟩
  ·obtain⟨i,hi,rfl⟩:=List.mem_map.1 hx
   exact b1 i
  ·rw[List.getElem_map,List.getElem_range]
   exact b2 i hi
  ·obtain⟨t1,t2,t3⟩:=JF ht
   refine b4 t t1.symm t2 (fun i hi hi' hp=>?_) hkt
   have a:=t2 t[i] (List.getElem_mem _)
   have b:=t3 i hi hi' (by omega)
   omega
end PM
namespace IF
open Go Go.Proofs Go.RowKit HM HF B M
def seg (b:List UInt8)(fr at_:Nat):List UInt8:=(b.drop fr).take (at_-fr)
def n_ (level:Int)(k n:Nat):Prop:=(level=0/\n=30000)\/(0<level/\(k=8192\/30000<n))
instance (level:Int)(k n:Nat):Decidable (n_ level k n):=by unfold n_;infer_instance
abbrev ff:=List Pz × List UInt8
def sx (b:List UInt8)(level:Int):List Pz->List Pz->Nat->Nat->List ff->List ff
 |[],L,fr,at_,out=>if L≠[]\/out=[]then out++[(L,seg b fr at_)]else out
 |p::r,L,fr,at_,out=>if n_ level (L.length+1) (at_+gT p-fr)then sx b level r [] (at_+gT p) (at_+gT p) (out++[(L++[p],seg b fr (at_+gT p))])
  else sx b level r (L++[p]) fr (at_+gT p) out
def cO (b:List UInt8)(level:Int):List ff:=sx b level (jQ b level) [] 0 0 []
def Ho (p:Pz):Int:=if p.len=0 then(p.c.toNat:Int)else(jg p.len).1
def Da (ps:List Pz)(s:Nat):Nat:=ps.countP fun p=>decide (Ho p=(s:Int))
def EP (ps:List Pz)(s:Nat):Nat:=ps.countP fun p=>decide (p.len≠0/\(iO p.dist).1=(s:Int))
def gX (ps:List Pz):List Int:=(List.range 286).map fun s=>(Da ps s:Int)+if s=256 then 1 else 0
def kP (ps:List Pz):List Int:=(List.range 30).map fun s=>(EP ps s:Int)
def iQ (ps:List Pz):List Int:=cY (gX ps) 15
def jT (ps:List Pz):List Int:=cY (kP ps) 15
def xD (l:List Int)(s:Int):List Bool:=match sym (kN l) l s with
 |some p=>aG (rv p.1 p.2) p.2
 |none=>[]
theorem xE {l:List Int}(h:okL l)(s:Int):xD l s=cw l s:=by
 unfold xD cw kN
 rw[if_pos h]
 cases sym (dY l) l s <;> rfl
def EQ (la lb:List Int)(p:Pz):List Bool:=if p.len=0 then xD la p.c.toNat else
 (xD la (jg p.len).1++aG (jg p.len).2.2.toNat (jg p.len).2.1.toNat)++(xD lb (iO p.dist).1++aG (iO p.dist).2.2.toNat (iO p.dist).2.1.toNat)
def xF (la lb:List Int)(ps:List Pz):List Bool:=ps.flatMap (EQ la lb)++xD la 256
def F6 (l:List Int)(least:Nat):Nat->Nat
 |0=>0
 |n+1=>if least<n+1/\l[n]? =some 0 then F6 l least n else n+1
def upto (l:List Int)(least:Nat):Nat:=F6 l least l.length
def eN (row:List Int)(v:Int)(i:Nat):Nat->Nat->Nat
 |0,n=>n
 |f+1,n=>if row[i+n]? =some v then eN row v i f (n+1)else n
structure Td where
 sym:Int
 bits:Nat
 extra:Nat
def fY (row:List Int)(i:Nat):Td × Nat:=
 let v:=row.getD i 0
 let n:=eN row v i row.length 1
 if v=0/\11<=n then(⟨18,7,min n 138-11⟩,min n 138)else
 if v=0/\3<=n then(⟨17,3,n-3⟩,n)else
 if(v≠0/\3<=n)/\(0<i/\row[i-1]? =some v)then(⟨16,2,min n 6-3⟩,min n 6)else(⟨v,0,0⟩,1)
def eO (row:List Int):Nat->Nat->List Td
 |0,_=>[]
 |f+1,i=>if i<row.length then(fY row i).1::eO row f (i+(fY row i).2)else []
def cF (row:List Int):List Td:=eO row (row.length+1) 0
def fH (T:List Td)(s:Nat):Nat:=T.countP fun t=>decide (t.sym=(s:Int))
def eI (T:List Td):List Int:=(List.range 19).map fun s=>(fH T s:Int)
def vn (l:List Int):List Int:=if(l.countP fun x=>decide (0<x))=1 then(if 0<l.getD 0 0 then l.set 1 (l.getD 1 0+1)else l.set 0 (l.getD 0 0+1))else l
def ji (T:List Td):List Int:=vn (eI T)
def dG (la lb:List Int):List Int:=la.take (upto la 257)++lb.take (upto lb 1)
def d7 (la lb:List Int):List Int:=cY (ji (cF (dG la lb))) 7
def eZ (l:List Int):List Int:=j8.map fun k=>l.getD k 0
def ER (la lb:List Int):List Bool:=
 let o:=eZ (d7 la lb)
 aG (upto la 257-257) 5++aG (upto lb 1-1) 5++aG (upto o 4-4) 4++(o.take (upto o 4)).flatMap (fun n=>aG n.toNat 3)++(cF (dG la lb)).flatMap fun t=>xD (d7 la lb) t.sym++aG t.extra t.bits
def qw (x:ff):List Bool:=xF lz lC x.1
def xG (x:ff):List Bool:=ER (iQ x.1) (jT x.1)++xF (iQ x.1) (jT x.1) x.1
def xH (L:List Bool)(x:ff):List Bool:=dv L++aG x.2.length 16++aG (65535-x.2.length) 16++ub x.2
def tZ (n:Nat)(x:ff):Nat:=8 * ((n%8+10) / 8)+32+8 * x.2.length-n%8
def gW (n:Nat)(level:Int)(x:ff):Nat:=
 if ¬0<level then 0 else
 if 3+(xG x).length<(if 3+(qw x).length<tZ n x then 3+(qw x).length else tZ n x)then 2 else if 3+(qw x).length<tZ n x then 1 else 0
def yN (k:Nat)(L:List Bool)(x:ff):List Bool:=if k=0 then xH L x else if k=1 then L++qw x else L++xG x
def el (level:Int)(L:List Bool)(last:Nat)(x:ff):List Bool:=yN (gW L.length level x) (L++aG last 1++aG (gW L.length level x) 2) x
def fk (level:Int):List Bool->List ff->List Bool
 |L,[]=>L
 |L,[x]=>el level L 1 x
 |L,x::y::r=>fk level (el level L 0 x) (y::r)
def dV (level:Int)(L:List Bool)(xs:List ff):List Bool:=xs.foldl (fun L x=>el level L 0 x) L
def jU (b:List UInt8)(level:Int):Int:=if level<0\/9<level then 1 else if 524288<b.length then 6 else 0
def sA (b:List UInt8)(level:Int):List Bool:=fk level [] (cO b level)
def eJ (b:List UInt8)(level:Int):List UInt8:=if jU b level=0 then pk (sA b level)else []
def jV (b:List UInt8)(level:Int):List Bool:=xH (dV level [] (cO b level)++aG 0 3) ([],[])
end IF
namespace IF
open Go Go.Proofs Go.RowKit Sh Sl T HM HF B M
abbrev Vw (α:Type):=List UInt8->Nat->Except Int (Nat × α)
theorem t0 (x y:List UInt8):ub (x++y)=ub x++ub y:=by unfold ub;rw[List.flatMap_append]
end IF
namespace IF
open Go Go.Proofs Go.RowKit HM HF B M
theorem l_ {α β:Type}{f g:α->List β}{l:List α}(h:∀x∈l,f x=g x):l.flatMap f=l.flatMap g:=by
 induction l with
 |nil=>rfl
 |cons x l ih=>rw[List.flatMap_cons,List.flatMap_cons,h x (by simp),ih fun y hy=>h y (by simp[hy])]
def UR {α:Type}(f:Vw α)(X:List Bool)(v:α):Prop:=∀(b:List UInt8) (at_:Nat) (Y:List Bool),at_<=8 * b.length->(ub b).drop at_=X++Y->f b at_= .ok (at_+X.length,v)

theorem zD (l:List Int)(k j:Nat):dp (l++List.replicate k 0) (j+1)=dp l (j+1):=by
 rw[eY]
 have:∀k,dp (List.replicate k (0:Int)) (j+1)=0:=by
  intro k
  induction k with
  |zero=>rfl
  |succ k ih=>rw[List.replicate_succ,dp,ih,if_neg (by omega)]
 rw[this];rfl
theorem Db (l:List Int)(k:Nat):∀n,HM.nx (l++List.replicate k 0) n=HM.nx l n
 |0=>rfl
 |1=>rfl
 |n+2=>by rw[HM.nx,HM.nx,Db l k (n+1),zD]
theorem xI (l:List Int)(k:Nat):∀n,HM.room (l++List.replicate k 0) n=HM.room l n
 |0=>rfl
 |n+1=>by rw[HM.room,HM.room,xI l k n,zD]
theorem lI {l:List Int}{k:Nat}(h:okL (l++List.replicate k 0)):okL l:=by
 have hl:=h.len
 rw[List.length_append]at hl
 exact⟨by omega,fun x hx=>h.ins x (List.mem_append_left _ hx),by have:=h.room;rwa [xI]at this⟩
theorem Bj (l:List Int)(k i:Nat)(hi:i<l.length):bQ (l++List.replicate k 0) i=bQ l i:=by
 have e:(l++List.replicate k 0)[i]? =l[i]? :=List.getElem?_append_left hi
 unfold bQ
 rw[e,List.getElem?_eq_getElem hi]
 simp only
 by_cases c:0<l[i]
 ·rw[if_pos c,if_pos c]
  unfold gJ
  rw[Db,List.take_append_of_le_length (by omega)]
 ·rw[if_neg c,if_neg c]
theorem zE (l:List Int)(i:Nat):(dY l)[i]? =if i<l.length then some (bQ l i:Int)else none:=by
 unfold dY
 rw[List.getElem?_map]
 by_cases c:i<l.length
 ·rw[List.getElem?_range c,if_pos c];rfl
 ·rw[List.getElem?_eq_none (by simp;omega),if_neg c];rfl
theorem zG (l:List Int)(k:Nat)(s:Int):sym (dY (l++List.replicate k 0)) (l++List.replicate k 0) s=sym (dY l) l s:=by
 unfold sym
 by_cases h0:s<0
 ·rw[if_pos h0,if_pos h0]
 ·rw[if_neg h0,if_neg h0,zE,zE]
  by_cases c:s.toNat<l.length
  ·rw[if_pos c,if_pos (by rw[List.length_append];omega),Bj l k _ c,List.getElem?_append_left c]
  ·rw[if_neg c,List.getElem?_append_right (by omega)]
   by_cases d:s.toNat<(l++List.replicate k 0).length
   ·rw[if_pos d]
    rw[List.length_append,List.length_replicate]at d
    rw[List.getElem?_replicate_of_lt (by omega)]
    simp
   ·rw[if_neg d]
theorem Dc (l:List Int)(k:Nat)(s:Int):cw (l++List.replicate k 0) s=cw l s:=by
 unfold cw
 rw[zG]
theorem xJ {l:List Int}{k:Nat}{s:Int}(h:j7 (l++List.replicate k 0) s):j7 l s:=by
 obtain⟨p,hp⟩:=h
 exact⟨p,by rw[<- zG l k];exact hp⟩
theorem JG (l:List Int)(k n:Nat):wk (l++List.replicate k 0) n=wk l n:=by
 have:∀l:List Int,wk (l++List.replicate k 0) n=wk l n:=by
  intro l
  induction l with
  |nil=>
   rw[List.nil_append]
   induction k with
   |zero=>rfl
   |succ k ih=>rw[List.replicate_succ,show wk (0::List.replicate k 0) n=(if 0<(0:Int)/\(0:Int)<=n then 2^(n-(0:Int).toNat)else 0)+wk (List.replicate k 0) n from rfl,if_neg (by omega),ih,Nat.zero_add]
  |cons x l ih=>rw[List.cons_append,wk,wk,ih]
 exact this l
theorem Dd {l:List Int}{k:Nat}(h:kz (l++List.replicate k 0)=true):kz l=true:=by
 unfold kz at *
 rw[Bool.and_eq_true,decide_eq_true_eq,decide_eq_true_eq]at *
 rw[JG]at h
 exact⟨lI h.1,h.2⟩
theorem xK (k:Nat):gL (List.replicate k 0)=0/\jh (List.replicate k 0)=0:=by
 induction k with
 |zero=>exact⟨rfl,rfl⟩
 |succ k ih=>rw[List.replicate_succ,gL,jh,ih.1,ih.2];simp
theorem pF {l:List Int}{k:Nat}(h:cS (l++List.replicate k 0)=true):cS l=true:=by
 unfold cS at *
 rw[kB,kC,(xK k).1,(xK k).2,Int.add_zero,Int.add_zero]at h
 rw[Bool.or_eq_true]at *
 exact h.imp id Dd
theorem JH (l:List Int)(least:Nat):∀n,n<=l.length->F6 l least n<=n/\(least<=n->least<=F6 l least n)/\l.take n=l.take (F6 l least n)++List.replicate (n-F6 l least n) 0
 |0,_=>⟨Nat.le_refl _,id,by simp[F6]⟩
 |n+1,hn=>by
  obtain⟨h1,h2,h3⟩:=JH l least n (by omega)
  rw[F6]
  by_cases c:least<n+1/\l[n]? =some 0
  ·rw[if_pos c]
   refine⟨by omega,fun _=>h2 (by omega),?_⟩
   rw[List.take_add_one,c.2,h3,show n+1-F6 l least n=(n-F6 l least n)+1 by omega,List.replicate_succ',List.append_assoc]
   rfl
  ·rw[if_neg c]
   exact⟨Nat.le_refl _,id,by simp⟩
theorem oO (l:List Int)(least:Nat)(h:least<=l.length):upto l least<=l.length/\least<=upto l least/\l=l.take (upto l least)++List.replicate (l.length-upto l least) 0:=by
 obtain⟨h1,h2,h3⟩:=JH l least l.length (Nat.le_refl _)
 rw[List.take_length]at h3
 exact⟨h1,h2 h,h3⟩

theorem De {row:List Int}{v:Int}{i:Nat}:∀(f n:Nat),(∀j,j<n->row[i+j]? =some v)->n<=eN row v i f n/\∀j,j<eN row v i f n->row[i+j]? =some v
 |0,n,h=>⟨Nat.le_refl _,h⟩
 |f+1,n,h=>by
  rw[eN]
  by_cases c:row[i+n]? =some v
  ·rw[if_pos c]
   obtain⟨h1,h2⟩:=De (row:=row) (v:=v) (i:=i) f (n+1) (fun j hj=>by
    by_cases d:j=n
    ·subst d;exact c
    ·exact h j (by omega))
   exact⟨by omega,h2⟩
  ·rw[if_neg c]
   exact⟨Nat.le_refl _,h⟩
theorem zH {row:List Int}{v:Int}{i:Nat}:∀n,(∀j,j<n->row[i+j]? =some v)->row.take i++List.replicate n v=row.take (i+n)/\(0<n->i+n<=row.length)
 |0,_=>⟨by simp,fun h=>absurd h (by omega)⟩
 |n+1,h=>by
  have ih:=zH n fun j hj=>h j (by omega)
  have hn:=h n (by omega)
  refine⟨?_,fun _=>?_⟩
  ·rw[<- Nat.add_assoc,List.take_add_one,hn,List.replicate_succ',<- List.append_assoc,ih.1];rfl
  ·have:=(List.getElem?_eq_some_iff.1 hn).1
   omega
theorem Bk {row : List Int} {i : Nat} (hi : i < row.length) (hv : ∀ x ∈ row, 0 ≤ x ∧ x ≤ 15) : let t := (fY row i).1; let n := (fY row i).2
    1 ≤ n ∧ i + n ≤ row.length ∧ 0 ≤ t.sym ∧ t.sym ≤ 18 ∧ t.extra < 2 ^ t.bits ∧ t.bits ≤ 7 ∧
    ((t.sym = 18 ∧ t.bits = 7 ∧ n = 11 + t.extra ∧ row.take i ++ List.replicate n 0 = row.take (i + n)) ∨ (t.sym = 17 ∧ t.bits = 3 ∧ n = 3 + t.extra ∧ row.take i ++ List.replicate n 0 = row.take (i + n)) ∨
     (t.sym = 16 ∧ t.bits = 2 ∧ n = 3 + t.extra ∧ 0 < i ∧ row.take i ++ List.replicate n (row.getD (i - 1) 0) = row.take (i + n)) ∨ (t.sym ≤ 15 ∧ t.bits = 0 ∧ t.extra = 0 ∧ n = 1 ∧ row.take i ++ List.replicate n t.sym = row.take (i + n))) := by
  have hg : row.getD i 0 = row[i] := by simp [hi]
  obtain ⟨v, hvd⟩ : ∃ v, v = row[i] := ⟨_, rfl⟩
  have hvi : row[i]? = some v := by rw [hvd]; exact List.getElem?_eq_getElem hi
  have hvb := hv row[i] (List.getElem_mem hi)
  rw [← hvd] at hvb hg
  obtain ⟨m, hm⟩ : ∃ m, m = eN row v i row.length 1 := ⟨_, rfl⟩
  obtain ⟨s1, s2⟩ := De (row := row) (v := v) (i := i) row.length 1 (fun j hj => by
    have : j = 0 := by omega
    subst this
    exact hvi)
  rw [← hm] at s1 s2
  have sub : ∀ n, n ≤ m → row.take i ++ List.replicate n v = row.take (i + n) ∧ (0 < n → i + n ≤ row.length) := fun n hn => zH n fun j hj => s2 j (by omega)
  unfold fY
  simp only
  rw [hg, ← hm]
  by_cases c1 : v = 0 ∧ 11 ≤ m
  · rw [if_pos c1]
    have hs := sub (min m 138) (by omega)
    rw [c1.1] at hs
    refine ⟨by simp only; omega, hs.2 (by omega), by simp only; omega, by simp only; omega, ?_, by simp only; omega, .inl ⟨rfl, rfl, by simp only; omega, hs.1⟩⟩
    show min m 138 - 11 < 128
    omega
  rw [if_neg c1]
  by_cases c2 : v = 0 ∧ 3 ≤ m
  · rw [if_pos c2]
    have hs := sub m (by omega)
    rw [c2.1] at hs
    refine ⟨by simp only; omega, hs.2 (by omega), by simp only; omega, by simp only; omega, ?_, by simp only; omega, .inr (.inl ⟨rfl, rfl, by simp only; omega, hs.1⟩)⟩
    show m - 3 < 8
    omega
  rw [if_neg c2]
  by_cases c3 : (v ≠ 0 ∧ 3 ≤ m) ∧ (0 < i ∧ row[i - 1]? = some v)
  · rw [if_pos c3]
    have hs := sub (min m 6) (by omega)
    have hd : row.getD (i - 1) 0 = v := by rw [List.getD_eq_getElem?_getD, c3.2.2]; rfl
    refine ⟨by simp only; omega, hs.2 (by omega), by simp only; omega, by simp only; omega, ?_, by simp only; omega, .inr (.inr (.inl ⟨rfl, rfl, by simp only; omega, c3.2.1, by rw [hd]; exact hs.1⟩))⟩
    show min m 6 - 3 < 4
    omega
  rw [if_neg c3]
  have hs := sub 1 s1
  exact ⟨by simp only; omega, hs.2 (by omega), by simp only; omega, by simp only; omega, by simp, by simp only; omega, .inr (.inr (.inr ⟨by simp only; omega, rfl, rfl, rfl, hs.1⟩))⟩
def yO (l:List Int)(t:Td):List Bool:=cw l t.sym++aG t.extra t.bits
theorem Mp {l row:List Int} {b:List UInt8} {i at_:Nat} {Y:List Bool} (hl:okL l) (hi:i<row.length) (hv:∀x∈row,0<=x/\x<=15) (hc:j7 l (fY row i).1.sym) (hat:at_<=8 * b.length)
  (h:(ub b).drop at_=yO l (fY row i).1++Y):∃v:Int,o8 l b at_ (row.take i)= .ok (v,((fY row i).2:Int),at_+(yO l (fY row i).1).length)/\row.take i++List.replicate (fY row i).2 v=row.take (i+(fY row i).2):=by
 obtain⟨e1,e2,e3,e4,e5,e6,e7⟩:=Bk hi hv
 obtain⟨t,ht⟩:∃t,t=(fY row i).1:=⟨_,rfl⟩
 obtain⟨n,hn⟩:∃n,n=(fY row i).2:=⟨_,rfl⟩
 (try dsimp only at e1 e2 e3 e4 e5 e6 e7)
 rw[<- ht,<- hn]at e7
 rw[<- ht]at e5 e6 h hc e3 e4 ⊢
 rw[<- hn]at e1 e2 ⊢
 unfold yO at *
 rw[List.append_assoc]at h
 obtain⟨p,hp⟩:=hc
 have hx:=xe hl hp h
 have hat1:=cA hat h
 have d1:=cR h
 obtain⟨r1,r2,r3⟩:=dI (by omega) e5 hat1 d1
 have hlen:(row.take i).length=i:=by rw[List.length_take];omega
 rcases e7 with ⟨f1,f2,f3,f4⟩|⟨f1,f2,f3,f4⟩|⟨f1,f2,f3,f4,f5⟩|⟨f1,f2,f3,f4,f5⟩
 ·rw[f2]at r1 r2 r3
  refine⟨0,?_,f4⟩
  unfold o8
  simp only
  rw[hx]
  simp only
  rw[if_neg (fun c=>c rfl),f1,if_neg (by decide),if_neg (by decide),if_pos rfl,<- f1]
  have r1':cD b (at_+(cw l t.sym).length) 7=0:=r1
  have r2':bK b (at_+(cw l t.sym).length) 7=t.extra:=r2
  have r3':aY b (at_+(cw l t.sym).length) 7=at_+(cw l t.sym).length+7:=r3
  rw[if_neg (fun c=>c r1'),r2',r3',List.length_append,au,f2,f3]
  congr 3
 ·rw[f2]at r1 r2 r3
  refine⟨0,?_,f4⟩
  unfold o8
  simp only
  rw[hx]
  simp only
  rw[if_neg (fun c=>c rfl),f1,if_neg (by decide),if_pos rfl,<- f1]
  have r1':cD b (at_+(cw l t.sym).length) 3=0:=r1
  have r2':bK b (at_+(cw l t.sym).length) 3=t.extra:=r2
  have r3':aY b (at_+(cw l t.sym).length) 3=at_+(cw l t.sym).length+3:=r3
  rw[if_neg (fun c=>c r1'),r2',r3',List.length_append,au,f2,f3]
  congr 3
 ·rw[f2]at r1 r2 r3
  refine⟨row.getD (i-1) 0,?_,f5⟩
  unfold o8
  simp only
  rw[hx]
  simp only
  rw[if_neg (fun c=>c rfl),f1,if_pos rfl,<- f1]
  have r1':cD b (at_+(cw l t.sym).length) 2=0:=r1
  have r2':bK b (at_+(cw l t.sym).length) 2=t.extra:=r2
  have r3':aY b (at_+(cw l t.sym).length) 2=at_+(cw l t.sym).length+2:=r3
  rw[if_neg (fun c=>c r1'),r2',r3',List.length_append,au,f2,f3,hlen,if_neg (fun c=>c f4)]
  have hgd:(row.take i).getD (i-1) 0=row.getD (i-1) 0:=by
   rw[List.getD_eq_getElem?_getD,List.getD_eq_getElem?_getD,List.getElem?_take_of_lt (by omega)]
  rw[hgd]
  congr 3
 ·refine⟨t.sym,?_,f5⟩
  unfold o8
  simp only
  rw[hx]
  simp only
  rw[if_neg (fun c=>c rfl),if_neg (by omega),if_neg (by omega),if_neg (by omega),List.length_append,au,f2,f4]
  rfl
theorem F7 {l row:List Int}{b:List UInt8}(hl:okL l)(hv:∀x∈row,0<=x/\x<=15):∀(f i g at_:Nat) {Y:List Bool},i<=row.length->row.length<f+i->(∀t∈eO row f i,j7 l t.sym)->at_<=8 * b.length->8 * b.length+1<=g+at_->
  (ub b).drop at_=(eO row f i).flatMap (yO l)++Y->yL l b row.length g at_ (row.take i)= .ok (at_+((eO row f i).flatMap (yO l)).length,row)
 |0,i,g,at_,Y,hi,hf,_,_,_,_=>by omega
 |f+1,i,g,at_,Y,hi,hf,hc,hat,hg,h=>by
  obtain⟨g,rfl⟩:∃g',g=g'+1:=⟨g-1,by omega⟩
  have hlen:(row.take i).length=i:=by rw[List.length_take];omega
  rw[yL,hlen]
  rw[eO]at h hc ⊢
  by_cases c:i<row.length
  ·rw[if_pos c]at h hc ⊢
   rw[if_pos c]
   rw[List.flatMap_cons,List.append_assoc]at h
   obtain⟨v,hr,htk⟩:=Mp hl c hv (hc _ (by simp)) hat h
   obtain⟨e1,e2,_⟩:=Bk c hv
   (try dsimp only at e1 e2)
   have hpos:1<=(yO l (fY row i).1).length:=by
    have:=(AZ (hc _ (by simp:(fY row i).1∈_))).1
    unfold yO
    rw[List.length_append]
    omega
   have hat1:=cA hat h
   rw[hr]
   simp only
   rw[if_neg (by omega),Int.toNat_natCast,htk,F7 hl hv f (i+(fY row i).2) g _ (by omega) (by omega) (fun t ht=>hc t (by simp[ht])) hat1 (by omega) (cR h)]
   rw[List.flatMap_cons,List.length_append,Nat.add_assoc]
  ·rw[if_neg c]at h ⊢
   rw[if_neg c]
   have:i=row.length:=by omega
   subst this
   rw[List.take_length]
   rfl
theorem Pp {l row:List Int}(hl:okL l)(hv:∀x∈row,0<=x/\x<=15)(hc:∀t∈cF row,j7 l t.sym):UR (fun b at_=>O_ l b row.length at_) ((cF row).flatMap (yO l)) row:=by
 intro b at_ Y hat h
 unfold O_
 exact F7 hl hv (row.length+1) 0 _ at_ (by omega) (by omega) hc hat (by omega) h

theorem JI:∀(ks:List Nat) (vs l:List Int),ks.length=vs.length->(∀x∈vs,0<=x/\x<=7)->UR (fun b at_=>FO b ks at_ l) (vs.flatMap fun n=>aG n.toNat 3) ((ks.zip vs).foldl (fun l p=>l.set p.1 p.2) l)
 |[],[],l,_,_=>fun b at_ Y hat h=>by simp[FO]
 |k::ks,v::vs,l,hl,hv=>by
  intro b at_ Y hat h
  obtain⟨v,rfl⟩:=Int.eq_ofNat_of_zero_le (hv v (by simp)).1
  have hv7:=(hv (v:Int) (by simp)).2
  rw[List.flatMap_cons,List.append_assoc,Int.toNat_natCast]at h
  obtain⟨r1,r2,r3⟩:=dI (k:=3) (by omega) (show v<2^3 by omega) hat h
  have hat1:=cA hat h
  have d1:=cR h
  rw[au]at hat1 d1
  have r1':cD b at_ 3=0:=r1
  have r2':bK b at_ 3=v:=r2
  have r3':aY b at_ 3=at_+3:=r3
  show FO b (k::ks) at_ l=_
  rw[FO,if_neg (fun c=>c r1'),r2',r3']
  have ih:=JI ks vs (l.set k (v:Int)) (by simpa using hl) (fun x hx=>hv x (by simp[hx])) b (at_+3) Y hat1 d1
  rw[show FO b ks (at_+3) (l.set k (v:Int))=_ from ih,List.flatMap_cons,List.length_append,au,Nat.add_assoc]
  rfl
 |[],_::_,_,hl,_=>by simp at hl
 |_::_,[],_,hl,_=>by simp at hl
def Bl:List Nat:=[3,17,15,13,11,9,7,5,4,6,8,10,12,14,16,18,0,1,2]
theorem F8:∀m:Fin 19,j8[Bl.getD m.1 0]? =some m.1/\Bl.getD m.1 0<19:=by decide
theorem Mq:∀c:Fin 19,∃k,j8[c.1]? =some k/\k<19/\Bl.getD k 0=c.1:=by decide
def zI (vs:List Int)(c:Nat):List Int:=((j8.take c).zip (vs.take c)).foldl (fun l p=>l.set p.1 p.2) (List.replicate 19 0)
theorem Df (vs:List Int)(hv:vs.length=19):∀c,c<=19->(zI vs c).length=19/\∀m,m<19->(zI vs c)[m]? =some (if Bl.getD m 0<c then vs.getD (Bl.getD m 0) 0 else 0)
 |0,_=>by
  refine⟨rfl,fun m hm=>?_⟩
  rw[if_neg (by omega)]
  show(List.replicate 19 (0:Int))[m]? =some 0
  exact List.getElem?_replicate_of_lt hm
 |c+1,hc=>by
  obtain⟨h1,h2⟩:=Df vs hv c (by omega)
  obtain⟨k,hk,hk19,hki⟩:=Mq ⟨c,by omega⟩
  simp only at hk hki
  have e:zI vs (c+1)=(zI vs c).set k (vs.getD c 0):=by
   unfold zI
   have hvc:vs[c]? =some (vs.getD c 0):=by
    rw[List.getD_eq_getElem?_getD,List.getElem?_eq_getElem (by omega)];rfl
   rw[List.take_add_one,List.take_add_one,hk,hvc]
   have hl:(j8.take c).length=(vs.take c).length:=by
    rw[List.length_take,List.length_take,hv];rfl
   rw[List.zip_append hl,List.foldl_append]
   rfl
  rw[e]
  refine⟨by rw[List.length_set];exact h1,fun m hm=>?_⟩
  rw[List.getElem?_set]
  by_cases d:k=m
  ·subst d
   rw[if_pos rfl,if_pos (by omega),if_pos (by omega),hki]
  ·have hne:Bl.getD m 0≠c:=fun e=>by
    have:=(F8 ⟨m,hm⟩).1
    simp only at this
    rw[e,hk]at this
    exact d (Option.some.inj this)
   rw[if_neg d,h2 m hm]
   by_cases c2:Bl.getD m 0<c
   ·rw[if_pos c2,if_pos (by omega)]
   ·rw[if_neg c2,if_neg (by omega)]
theorem Mr (L:List Int)(hL:L.length=19)(c:Nat)(hc:c<=19)(hz:∀j,c<=j->j<19->(eZ L)[j]? =some 0):((j8.take c).zip ((eZ L).take c)).foldl (fun l p=>l.set p.1 p.2) (List.replicate 19 0)=L:=by
 obtain⟨h1,h2⟩:=Df (eZ L) (by simp[eZ,j8]) c hc
 change zI (eZ L) c=L
 apply List.ext_getElem?
 intro m
 rcases Nat.lt_or_ge m 19 with hm|hm
 ·rw[h2 m hm]
  obtain⟨e1,e2⟩:=F8 ⟨m,hm⟩
  simp only at e1 e2
  have e3:(eZ L)[Bl.getD m 0]? =some (L.getD m 0):=by
   unfold eZ
   rw[List.getElem?_map,e1];rfl
  have e4:L[m]? =some (L.getD m 0):=by
   rw[List.getD_eq_getElem?_getD,List.getElem?_eq_getElem (by omega)];rfl
  rw[e4]
  by_cases d:Bl.getD m 0<c
  ·rw[if_pos d,List.getD_eq_getElem?_getD,e3];rfl
  ·rw[if_neg d]
   have:=hz _ (by omega) e2
   rw[e3]at this
   exact this.symm
 ·rw[List.getElem?_eq_none (by omega),List.getElem?_eq_none (by omega)]
end IF
namespace IF
open Go Go.Proofs Go.RowKit HM HF B M PM
theorem zJ (freq:List Int):(zC freq).length=freq.countP fun x=>decide (0<x):=by
 have hperm:(zC freq).Perm (ce 0 freq):=qu _ _
 rw[hperm.length_eq,n9]
theorem Bm {freq:List Int}{lim:Int}(h1:freq.length<=320)(h2:1<=lim)(h3:lim<=15)(h4:∀x∈freq,0<=x/\x<=1099511627776)(h5:freq.length<=2^lim.toNat):kO freq lim=0:=by
 unfold kO
 rw[if_neg]
 rintro(h|⟨x,hx,hb⟩|h)
 ·omega
 ·have:=h4 x hx
  unfold sw at hb
  omega
 ·rw[zJ]at h
  have:=List.countP_le_length (p:=fun x=>decide ((0:Int)<x)) (l:=freq)
  omega
theorem oP {freq:List Int}{lim:Int}(hE:kO freq lim=0):okL (cY freq lim):=by
 obtain⟨f1,f2,f3,f4,f5,f6,f7,f8,f9⟩:=cV hE
 rw[LP]
 refine⟨by rw[f1];exact f2,fun x hx=>⟨(f5 x hx).1,by have:=(f5 x hx).2;omega⟩,?_⟩
 have:=JE (l:=cY freq lim) (fun x hx=>by have:=(f5 x hx).2;omega)
 have e:(2:Int)^15=32768:=by decide
 rw[e]at f7
 omega
theorem zK {freq:List Int}{lim:Int}(hE:kO freq lim=0)(h2:2<=(freq.countP fun x=>decide (0<x))):kz (cY freq lim)=true:=by
 obtain⟨f1,f2,f3,f4,f5,f6,f7,f8,f9⟩:=cV hE
 unfold kz
 rw[dT_ (oP hE),Bool.true_and,decide_eq_true_eq]
 have:=JE (l:=cY freq lim) (fun x hx=>by have:=(f5 x hx).2;omega)
 have e:(2:Int)^15=32768:=by decide
 have:=f8 h2
 rw[e]at this
 omega
theorem xL:∀l:List Int,gL l=((l.countP fun x=>decide (0<x):Nat):Int)
 |[]=>rfl
 |x::l=>by
  rw[gL,xL l,List.countP_cons]
  by_cases h:0<x
  ·rw[if_pos h,if_pos (by simpa using h)];push_cast;omega
  ·rw[if_neg h,if_neg (by simpa using h)];push_cast;omega
theorem zM:∀ {a b:List Int},a.length=b.length->(∀(i:Nat) (h:i<a.length) (h':i<b.length),0<a[i]↔0<b[i])->(a.countP fun x=>decide (0<x))=b.countP fun x=>decide (0<x)
 |[],[],_,_=>rfl
 |x::a,y::b,hl,h=>by
  have ih:=zM (a:=a) (b:=b) (by simpa using hl) (fun i h1 h2=>h (i+1) (by simpa using h1) (by simpa using h2))
  have h0:=h 0 (by simp) (by simp)
  simp only[List.getElem_cons_zero]at h0
  rw[List.countP_cons,List.countP_cons,ih]
  by_cases c:0<x
  ·rw[if_pos (by simpa using c),if_pos (by simpa using h0.1 c)]
  ·rw[if_neg (by simpa using c),if_neg (by simpa using fun d=>c (h0.2 d))]
 |[],_::_,hl,_=>by simp at hl
 |_::_,[],hl,_=>by simp at hl
theorem Ms {e:Int}(s:Nat):dp [e] s<=1:=by
 rw[dp,dp]
 split <;> omega
theorem nf:∀ {l:List Int},(∀x∈l,x<=1)->jh l=gL l
 |[],_=>rfl
 |x::l,h=>by
  have ih:=nf (l:=l) fun y hy=>h y (by simp[hy])
  have:=h x (by simp)
  rw[jh,gL,ih]
  split <;> omega
theorem uT {freq:List Int}{lim:Int}(hE:kO freq lim=0):cS (cY freq lim)=true:=by
 obtain⟨f1,f2,f3,f4,f5,f6,f7,f8,f9⟩:=cV hE
 have hc:gL (cY freq lim)=((freq.countP fun x=>decide (0<x):Nat):Int):=by
  rw[xL,zM f1.symm f6]
 rcases Nat.lt_or_ge (freq.countP fun x=>decide (0<x)) 2 with c|c
 ·unfold cS
  rcases Nat.lt_or_ge (freq.countP fun x=>decide (0<x)) 1 with d|d
  ·rw[dT_ (show gL (cY freq lim)=0 by omega)];rfl
  ·have h1:(zC freq).length=1:=by rw[zJ];omega
   have hV:cY freq lim=(List.range freq.length).map fun s=>(dp (((zC freq).map one)) s:Int):=by
    unfold cY
    rw[if_neg (fun c=>c hE),if_pos h1]
   have hs:jh (cY freq lim)=gL (cY freq lim):=by
    refine nf fun x hx=>?_
    rw[hV]at hx
    obtain⟨s,_,rfl⟩:=List.mem_map.1 hx
    obtain⟨e,he⟩:=List.length_eq_one_iff.1 h1
    rw[he]
    have:=Ms (e:=one e) s
    show((dp [one e] s:Nat):Int)<=1
    omega
   rw[dT_ (show gL (cY freq lim)=1 by omega),dT_ (show jh (cY freq lim)=1 by omega)]
   simp
 ·unfold cS
  rw[zK hE c]
  simp
theorem od {freq:List Int}{lim:Int}(hE:kO freq lim=0){s:Nat}(h:s<freq.length)(hp:0<freq[s]):j7 (cY freq lim) s:=by
 obtain⟨f1,f2,f3,f4,f5,f6,f7,f8,f9⟩:=cV hE
 exact A7 (oP hE) (by rw[f1];exact h) (by have:=(f6 s h (by rw[f1];exact h)).1 hp;omega)

theorem gO {α:Type}{p:α->Bool}{l:List α}{x:α}(hx:x∈l)(h:p x=true):0<l.countP p:=List.countP_pos_iff.2 ⟨x,hx,h⟩
theorem oe {ps:List Pz}(hl:ps.length<=1048576):kO (gX ps) 15=0:=by
 refine Bm (by simp[gX]) (by omega) (by omega) (fun x hx=>?_) (by simp[gX])
 obtain⟨s,_,rfl⟩:=List.mem_map.1 hx
 have:Da ps s<=ps.length:=List.countP_le_length
 split <;> omega
theorem xM {ps:List Pz}(hl:ps.length<=1048576):kO (kP ps) 15=0:=by
 refine Bm (by simp[kP]) (by omega) (by omega) (fun x hx=>?_) (by simp[kP])
 obtain⟨s,_,rfl⟩:=List.mem_map.1 hx
 have:EP ps s<=ps.length:=List.countP_le_length
 omega
theorem sB {ps:List Pz}{s:Nat}(h:s<(gX ps).length):(gX ps)[s]=(Da ps s:Int)+if s=256 then 1 else 0:=by simp[gX]
theorem JJ {ps:List Pz}{s:Nat}(h:s<(kP ps).length):(kP ps)[s]=(EP ps s:Int):=by simp[kP]
theorem Mt {ps:List Pz}(hl:ps.length<=1048576):j7 (iQ ps) 256:=by
 have h:256<(gX ps).length:=by simp[gX]
 exact od (oe hl) h (by rw[sB h,if_pos rfl];omega)
theorem Mu {ps:List Pz}(hl:ps.length<=1048576)(hg:∀p∈ps,(p.len=0/\p.dist=0)\/(3<=p.len/\p.len<=258/\1<=p.dist/\p.dist<=32768)){p:Pz}(hp:p∈ps):tO (iQ ps) (jT ps) (xl p):=by
 unfold tO xl
 simp only
 rcases hg p hp with ⟨h0,_⟩|⟨c1,c2,c3,c4⟩
 ·rw[if_pos (by omega)]
  have hc:=p.c.toNat_lt
  have h:p.c.toNat<(gX ps).length:=by rw[show(gX ps).length=286 by simp[gX]];omega
  refine od (oe hl) h ?_
  rw[sB h]
  have:0<Da ps p.c.toNat:=gO hp (by simp[Ho,h0])
  split <;> omega
 ·rw[if_neg (by omega),Int.toNat_of_nonneg (by omega),Int.toNat_of_nonneg (by omega)]
  obtain⟨s,x,k,hs,h1,h2,h3,h4,h5,h6,h7⟩:=sg c1 c2
  obtain⟨t,y,j,ht,g1,g2,g3,g4,g5,g6⟩:=si c3 c4
  rw[hs,ht]
  have hA:s<(gX ps).length:=by rw[show(gX ps).length=286 by simp[gX]];omega
  have hB:t<(kP ps).length:=by rw[show(kP ps).length=30 by simp[kP]];omega
  refine⟨od (oe hl) hA ?_,od (xM hl) hB ?_⟩
  ·rw[sB hA]
   have:0<Da ps s:=gO hp (by simp[Ho,show p.len≠0 by omega,hs])
   split <;> omega
  ·rw[JJ hB]
   have:0<EP ps t:=gO hp (by simp[show p.len≠0 by omega,ht])
   omega
theorem Dg {la lb:List Int}(ha:okL la)(hb:okL lb){ps:List Pz}(hg:∀p∈ps,(p.len=0/\p.dist=0)\/(3<=p.len/\p.len<=258/\1<=p.dist/\p.dist<=32768)):xF la lb ps=(ps.map xl).flatMap (qp la lb)++cw la 256:=by
 unfold xF
 rw[xE ha,List.flatMap_map]
 congr 1
 refine l_ fun p hp=>?_
 unfold EQ qp xl
 simp only
 rw[xE ha,xE ha,xE hb]
 rcases hg p hp with ⟨h0,_⟩|⟨c1,c2,c3,c4⟩
 ·rw[if_pos h0,if_pos (by omega)]
 ·rw[if_neg (by omega),if_neg (by omega),Int.toNat_of_nonneg (show 0<=p.len by omega),Int.toNat_of_nonneg (show 0<=p.dist by omega)]

theorem JK {l:List Int}(hl:l.length=19)(h0:∀x∈l,0<=x)(h1:1<=l.countP fun x=>decide (0<x)):2<=(vn l).countP fun x=>decide (0<x):=by
 match l,hl with
 |a::b::r,hl=>
  have ha:=h0 a (by simp)
  have hb:=h0 b (by simp)
  unfold vn
  rw[List.countP_cons,List.countP_cons]at h1 ⊢
  obtain⟨R,hR⟩:∃R,R=r.countP fun x=>decide ((0:Int)<x):=⟨_,rfl⟩
  rw[<- hR]at h1 ⊢
  have ia:∀x:Int,(if decide (0<x)=true then 1 else 0:Nat)=if 0<x then 1 else 0:=fun x=>by
   by_cases d:0<x
   ·rw[if_pos d,if_pos (dT_ d)]
   ·rw[if_neg d,if_neg (by rw[decide_eq_true_eq];exact d)]
  rw[ia,ia]at h1 ⊢
  by_cases c:(R+if 0<b then 1 else 0)+(if 0<a then 1 else 0)=1
  ·rw[if_pos c]
   simp only[List.getD_cons_zero,List.getD_cons_succ]
   by_cases d:0<a
   ·rw[if_pos d]
    simp only[List.set_cons_succ,List.set_cons_zero,List.countP_cons]
    rw[<- hR,ia,ia,if_pos d,if_pos (by omega)]
    omega
   ·rw[if_neg d]
    rw[if_neg d]at c
    simp only[List.set_cons_zero,List.countP_cons]
    rw[<- hR,ia,ia,if_pos (show 0<a+1 by omega)]
    omega
  ·rw[if_neg c,List.countP_cons,List.countP_cons,<- hR,ia,ia]
   omega
theorem og (l:List Int):(vn l).length=l.length:=by
 unfold vn
 split
 ·split <;> simp
 ·rfl
theorem JL {l:List Int}{k:Nat}{B:Int}(h:∀x∈l,0<=x/\x<=B)(hB:0<=B):∀x∈l.set k (l.getD k 0+1),0<=x/\x<=B+1:=by
 intro x hx
 rcases List.mem_or_eq_of_mem_set hx with hx|rfl
 ·have:=h x hx;omega
 ·have:0<=l.getD k 0/\l.getD k 0<=B:=by
   rw[List.getD_eq_getElem?_getD]
   cases hk:l[k]? with
   |none=>exact⟨by simp,by simpa using hB⟩
   |some y=>exact h y (List.mem_of_getElem? hk)
  omega
theorem Pq {l:List Int}{B:Int}(h:∀x∈l,0<=x/\x<=B)(hB:0<=B):∀x∈vn l,0<=x/\x<=B+1:=by
 unfold vn
 split
 ·split
  ·exact JL h hB
  ·exact JL h hB
 ·intro x hx
  have:=h x hx
  omega
theorem Mv {l:List Int}{k:Nat}(h:k<l.length)(h':k<(vn l).length):l[k]<=(vn l)[k]:=by
 have key:∀m,l[k]<=(l.set m (l.getD m 0+1))[k]'(by simpa using h):=fun m=>by
  rw[List.getElem_set]
  split
  ·rename_i e
   subst e
   rw[List.getD_eq_getElem?_getD,List.getElem?_eq_getElem h]
   simp only[Option.getD_some]
   omega
  ·omega
 unfold vn at h' ⊢
 split
 ·split
  ·exact key 1
  ·exact key 0
 ·omega
theorem oQ (row:List Int):∀f i,(eO row f i).length<=f
 |0,_=>Nat.le_refl _
 |f+1,i=>by
  rw[eO]
  split
  ·have:=oQ row f (i+(fY row i).2)
   rw[List.length_cons];omega
  ·simp
theorem lJ {row:List Int}(hv:∀x∈row,0<=x/\x<=15):∀f i,∀t∈eO row f i,0<=t.sym/\t.sym<=18/\t.extra<2^t.bits/\t.bits<=7
 |0,_,t,ht=>by cases ht
 |f+1,i,t,ht=>by
  rw[eO]at ht
  split at ht
  ·rename_i hi
   rcases List.mem_cons.1 ht with rfl|ht
   ·obtain⟨e1,e2,e3,e4,e5,e6,e7⟩:=Bk hi hv
    exact⟨e3,e4,e5,e6⟩
   ·exact lJ hv f _ t ht
  ·cases ht
theorem ES {row:List Int}(hr:row.length<=1048576):kO (ji (cF row)) 7=0:=by
 have hlen:(ji (cF row)).length=19:=by unfold ji;rw[og];simp[eI]
 refine Bm (by omega) (by omega) (by omega) (fun x hx=>?_) (by rw[hlen];decide)
 have:=Pq (l:=eI (cF row)) (B:=1048577) (fun y hy=>by
  obtain⟨s,_,rfl⟩:=List.mem_map.1 hy
  have h1:fH (cF row) s<=(cF row).length:=List.countP_le_length
  have h2:(cF row).length<=row.length+1:=oQ row (row.length+1) 0
  omega) (by omega) x hx
 omega
theorem JM {row:List Int}(hr:row.length<=1048576)(hv:∀x∈row,0<=x/\x<=15){t:Td}(ht:t∈cF row):j7 (cY (ji (cF row)) 7) t.sym:=by
 obtain⟨h1,h2,_⟩:=lJ hv _ _ t ht
 obtain⟨s,hs⟩:=Int.eq_ofNat_of_zero_le h1
 have h0:s<(eI (cF row)).length:=by simp[eI];omega
 have h3:s<(ji (cF row)).length:=by unfold ji;rw[og];exact h0
 rw[hs]
 refine od (ES hr) h3 ?_
 have:=Mv h0 h3
 have h4:(eI (cF row))[s]=(fH (cF row) s:Int):=by simp[eI]
 have h5:0<fH (cF row) s:=gO ht (by simp[hs])
 unfold ji
 omega
theorem JN {row:List Int}(h0:0<row.length)(hv:∀x∈row,0<=x/\x<=15):2<=(ji (cF row)).countP fun x=>decide (0<x):=by
 refine JK (by simp[eI]) (fun x hx=>?_) ?_
 ·obtain⟨s,_,rfl⟩:=List.mem_map.1 hx;omega
 ·have hm:(fY row 0).1∈cF row:=by unfold cF;rw[eO,if_pos h0];simp
  obtain⟨h1,h2,_⟩:=lJ hv _ _ _ hm
  obtain⟨s,hs⟩:=Int.eq_ofNat_of_zero_le h1
  have h5:0<fH (cF row) s:=gO hm (by simp[hs])
  exact gO (x:=(fH (cF row) s:Int)) (List.mem_map.2 ⟨s,by rw[List.mem_range];omega,rfl⟩) (by simpa using h5)
theorem Mw {ps:List Pz}{out:List UInt8}{most:Int}(hl:ps.length<=1048576)(hg:∀p∈ps,(p.len=0/\p.dist=0)\/(3<=p.len/\p.len<=258/\1<=p.dist/\p.dist<=32768))(hok:EG out (ps.map xl))(hm:(((ps.map xl).foldl jf out).length:Int)<=most):
  UR (fun b at_=>tQ b most at_ out) (ER (iQ ps) (jT ps)++xF (iQ ps) (jT ps) ps) ((ps.map xl).foldl jf out):=by
 have hA:=oP (oe hl)
 have hB:=oP (xM hl)
 have h256:=Mt hl
 have hhas:∀p∈ps,tO (iQ ps) (jT ps) (xl p):=fun p hp=>Mu hl hg hp
 have eA:=uT (oe hl)
 have eB:=uT (xM hl)
 have lA:(iQ ps).length=286:=by unfold iQ;rw[(cV (oe hl)).1];simp[gX]
 have lB:(jT ps).length=30:=by unfold jT;rw[(cV (xM hl)).1];simp[kP]
 have vA:∀x∈iQ ps,0<=x/\x<=15:=fun x hx=>hA.ins x hx
 have vB:∀x∈jT ps,0<=x/\x<=15:=fun x hx=>hB.ins x hx
 have p256:∃x,(iQ ps)[256]? =some x/\0<x:=by
  have h:256<(gX ps).length:=by simp[gX]
  have h':256<(iQ ps).length:=by omega
  have:=((cV (oe hl)).2.2.2.2.2.1 256 h h').1 (by rw[sB h,if_pos rfl];omega)
  exact⟨_,List.getElem?_eq_getElem h',this⟩
 change okL (iQ ps)at hA
 change okL (jT ps)at hB
 rw[Dg hA hB hg]
 change cS (iQ ps)=true at eA
 change cS (jT ps)=true at eB
 generalize iQ ps=la at *
 generalize jT ps=lb at *
 obtain⟨u1,u2,u3⟩:=oO la 257 (by omega)
 obtain⟨w1,w2,w3⟩:=oO lb 1 (by omega)
 have hrowlen:(dG la lb).length=upto la 257+upto lb 1:=by
  unfold dG
  rw[List.length_append,List.length_take,List.length_take];omega
 have hrowv:∀x∈dG la lb,0<=x/\x<=15:=fun x hx=>by
  unfold dG at hx
  rcases List.mem_append.1 hx with hx|hx
  ·exact vA x (List.mem_of_mem_take hx)
  ·exact vB x (List.mem_of_mem_take hx)
 have hE:=ES (row:=dG la lb) (by omega)
 have hD:=oP hE
 have hF:=zK hE (JN (by omega) hrowv)
 have hDc:∀t∈cF (dG la lb),j7 (d7 la lb) t.sym:=fun t ht=>JM (by omega) hrowv ht
 have lD:(d7 la lb).length=19:=by unfold d7;rw[(cV hE).1];unfold ji;rw[og];simp[eI]
 have vD:∀x∈d7 la lb,0<=x/\x<=7:=fun x hx=>(cV hE).2.2.2.2.1 x hx
 have rowEnc:=Pp (l:=d7 la lb) hD hrowv hDc
 change okL (d7 la lb)at hD
 change kz (d7 la lb)=true at hF
 have hoL:(eZ (d7 la lb)).length=19:=by simp[eZ,j8]
 have hoV:∀x∈eZ (d7 la lb),0<=x/\x<=7:=fun x hx=>by
  obtain⟨k,_,rfl⟩:=List.mem_map.1 hx
  rw[List.getD_eq_getElem?_getD]
  cases hk:(d7 la lb)[k]? with
  |none=>exact⟨by simp,by simp⟩
  |some y=>exact vD y (List.mem_of_getElem? hk)
 obtain⟨q1,q2,q3⟩:=oO (eZ (d7 la lb)) 4 (by omega)
 obtain⟨c,hc⟩:∃c,c=upto (eZ (d7 la lb)) 4:=⟨_,rfl⟩
 have hset:=Mr (d7 la lb) lD c (by omega) (fun j h1 h2=>by
  rw[q3,<- hc,List.getElem?_append_right (by rw[List.length_take];omega)]
  rw[List.getElem?_replicate_of_lt (by rw[List.length_take];omega)])
 have clE:=JI (j8.take c) ((eZ (d7 la lb)).take c) (List.replicate 19 0) (by rw[List.length_take,List.length_take,hoL];rfl) (fun x hx=>hoV x (List.mem_of_mem_take hx))
 rw[hset]at clE
 intro b at_ Y hat h
 unfold ER at h ⊢
 simp only at h ⊢
 rw[<- hc]at h q1 q2 ⊢
 have hflat:(cF (dG la lb)).flatMap (fun t=>xD (d7 la lb) t.sym++aG t.extra t.bits)=(cF (dG la lb)).flatMap (yO (d7 la lb)):=l_ fun t _=>by unfold yO;rw[xE hD]
 rw[hflat]at h ⊢
 obtain⟨HH,hHH⟩:∃HH,HH=upto la 257:=⟨_,rfl⟩
 obtain⟨DD,hDD⟩:∃DD,DD=upto lb 1:=⟨_,rfl⟩
 rw[<- hHH,<- hDD]at h ⊢
 rw[<- hHH]at hrowlen u1 u2 u3
 rw[<- hDD]at hrowlen w1 w2 w3
 simp only[List.append_assoc]at h
 have q5:HH-257<2^5:=by omega
 obtain⟨r1,r2,r3⟩:=dI (e:=HH-257) (k:=5) (by omega) q5 hat h
 have hat1:=cA hat h
 have d1:=cR h
 rw[au]at hat1 d1
 obtain⟨s1,s2,s3⟩:=dI (k:=5) (by omega) (show DD-1<2^5 by omega) hat1 d1
 have hat2:=cA hat1 d1
 have d2:=cR d1
 rw[au]at hat2 d2
 obtain⟨t1,t2,t3⟩:=dI (k:=4) (by omega) (show c-4<2^4 by omega) hat2 d2
 have hat3:=cA hat2 d2
 have d3:=cR d2
 rw[au]at hat3 d3
 have x1:=clE b _ _ hat3 d3
 have hat4:=cA hat3 d3
 have d4:=cR d3
 have x2:=rowEnc b _ _ hat4 d4
 have hat5:=cA hat4 d4
 have d5:=cR d4
 have r1':cD b at_ 5=0:=r1
 have r2':bK b at_ 5=HH-257:=r2
 have r3':aY b at_ 5=at_+5:=r3
 have s1':cD b (at_+5) 5=0:=s1
 have s2':bK b (at_+5) 5=DD-1:=s2
 have s3':aY b (at_+5) 5=at_+5+5:=s3
 have t1':cD b (at_+5+5) 4=0:=t1
 have t2':bK b (at_+5+5) 4=c-4:=t2
 have t3':aY b (at_+5+5) 4=at_+5+5+4:=t3
 show tQ b most at_ out=_
 unfold tQ
 rw[if_neg (fun c=>c r1'),r3',if_neg (fun c=>c s1'),s3',if_neg (fun c=>c t1'),r2',s2',t2',t3',if_neg (fun c=>c ⟨by omega,by omega⟩),show c-4+4=c by omega]
 rw[show FO b (j8.take c) (at_+5+5+4) (List.replicate 19 0)=_ from x1]
 simp only
 rw[if_neg (fun c=>c hF),show HH-257+257=HH by omega,show HH+(DD-1)+1=HH+DD by omega]
 unfold CO
 rw[<- hrowlen,show O_ (d7 la lb) b (dG la lb).length _=_ from x2]
 simp only
 have tk1:(dG la lb).take HH=la.take HH:=by
  unfold dG
  rw[<- hHH,<- hDD,List.take_left' (by rw[List.length_take];omega)]
 have tk2:(dG la lb).drop HH=lb.take DD:=by
  unfold dG
  rw[<- hHH,<- hDD,List.drop_left' (by rw[List.length_take];omega)]
 have a0:=hA
 rw[u3]at a0
 have b0:=hB
 rw[w3]at b0
 have ea:=eA
 rw[u3]at ea
 have eb:=eB
 rw[w3]at eb
 have g256:0<(dG la lb).getD 256 0:=by
  obtain⟨x,hx,hp⟩:=p256
  unfold dG
  rw[<- hHH,<- hDD,List.getD_eq_getElem?_getD,List.getElem?_append_left (by rw[List.length_take];omega),List.getElem?_take_of_lt (by omega),hx]
  exact hp
 rw[tk1,tk2,if_neg (fun c=>c ⟨g256,pF ea,pF eb⟩),if_neg (fun c=>c (lI a0)),if_neg (fun c=>c (lI b0))]
 have ca:∀s,cw la s=cw (la.take HH) s:=fun s=>by
  have:=Dc (la.take HH) (la.length-HH) s
  rwa [<- u3]at this
 have cb:∀s,cw lb s=cw (lb.take DD) s:=fun s=>by
  have:=Dc (lb.take DD) (lb.length-DD) s
  rwa [<- w3]at this
 have ha:∀s,j7 la s->j7 (la.take HH) s:=fun s hs=>by
  rw[u3]at hs
  exact xJ hs
 have hb:∀s,j7 lb s->j7 (lb.take DD) s:=fun s hs=>by
  rw[w3]at hs
  exact xJ hs
 have hPe:∀l:List Pc,l.flatMap (qp la lb)=l.flatMap (qp (la.take HH) (lb.take DD)):=fun l=>l_ fun p _=>by
  unfold qp
  rw[ca,ca,cb]
 rw[hPe,ca]at d5 ⊢
 rw[Je (lI a0) (lI b0) (ha _ h256) hok (fun p hp=>by
  obtain⟨q,hq,rfl⟩:=List.mem_map.1 hp
  have:=hhas q hq
  unfold tO at this ⊢
  split
  ·rename_i c0
   rw[if_pos c0]at this
   exact ha _ this
  ·rename_i c0
   rw[if_neg c0]at this
   exact⟨ha _ this.1,hb _ this.2⟩) hm hat5 d5]
 congr 2
 simp only[List.length_append,au]
 omega
end IF
namespace IF
open Go Go.Proofs Go.RowKit HM HF B M
theorem xN {b:List UInt8}{i j:Nat}(h2:j<=b.length):(seg b i j).length=j-i:=by
 unfold seg
 rw[List.length_take,List.length_drop]
 omega
structure okBk (b:List UInt8)(fr:Nat)(x:ff):Prop where
 gps:CQ b fr x.1
 seg:x.2=seg b fr (dZ fr x.1)
 le:dZ fr x.1<=b.length
 pn:x.1.length<=30000
 bn:x.2.length<=30258
def yP (b:List UInt8):Nat->List ff->Nat->Prop
 |fr,[],to=>fr=to
 |fr,x::r,to=>okBk b fr x/\yP b (dZ fr x.1) r to
theorem t4 {b:List UInt8}{x:ff}:∀ {out:List ff} {s fr:Nat},yP b s out fr->okBk b fr x->yP b s (out++[x]) (dZ fr x.1)
 |[],s,fr,h,hx=>by
  have:s=fr:=h
  subst this
  exact⟨hx,rfl⟩
 |y::out,s,fr,h,hx=>⟨h.1,t4 h.2 hx⟩
theorem t6 (l:List Pz)(j:Nat):j<=dZ j l:=by have:=sl l j;omega
theorem Pr (b:List UInt8){level:Int}(hlv:0<=level):∀(l L:List Pz) (fr at_:Nat) (out:List ff),yP b 0 out fr->CQ b fr L->dZ fr L=at_->fr<=b.length->CQ b at_ l->(0<level->L.length<8192/\at_-fr<=30000)->(level=0->L.length=at_-fr/\at_-fr<30000)->(level=0->∀p∈l,gT p=1)->
  (out.length * 8192<=fr)->yP b 0 (sx b level l L fr at_ out) (dZ at_ l)/\(sx b level l L fr at_ out).length<=dZ at_ l / 8192+1:=by
 intro l
 induction l with
 |nil=>
  intro L fr at_ out hG hL hat hfr hl h1 h0 hp hn
  have hle:=A9 hL hfr
  rw[hat]at hle
  have hge:=sl L fr
  rw[hat]at hge
  rw[sx]
  by_cases c:L≠[]\/out=[]
  ·rw[if_pos c]
   have:=t4 hG (x:=(L,seg b fr at_)) ⟨hL,by simp only;rw[hat],by simp only;rw[hat];exact hle,by
    simp only
    rcases Int.lt_or_le 0 level with d|d
    ·have:=(h1 d).1;omega
    ·have:=h0 (by omega);omega,by
    simp only
    rw[xN hle]
    rcases Int.lt_or_le 0 level with d|d
    ·have:=(h1 d).2;omega
    ·have:=h0 (by omega);omega⟩
   simp only at this
   rw[hat]at this
   refine⟨this,?_⟩
   rw[List.length_append,List.length_singleton,dZ]
   omega
  ·rw[if_neg c]
   have hLn:L=[]:=by
    by_cases d:L=[]
    ·exact d
    ·exact absurd (.inl d) c
   subst hLn
   have:fr=at_:=hat
   subst this
   exact⟨hG,by rw[dZ];omega⟩
 |cons p r ih=>
  intro L fr at_ out hG hL hat hfr hl h1 h0 hp hn
  obtain⟨hlt,hgp,hr⟩:=hl
  have hge:=sl L fr
  rw[hat]at hge
  have hpe:=tP hgp hlt
  have hpos:=sj p
  have hLp:CQ b fr (L++[p]):=qr.2 ⟨hL,by rw[hat];exact⟨hlt,hgp,trivial⟩⟩
  have hLe:dZ fr (L++[p])=at_+gT p:=by rw[nZ,hat];rfl
  rw[sx]
  by_cases c:n_ level (L.length+1) (at_+gT p-fr)
  ·rw[if_pos c]
   have hle:at_+gT p<=b.length:=hpe.1
   have hb:=t4 hG (x:=(L++[p],seg b fr (at_+gT p))) ⟨hLp,by simp only;rw[hLe],by simp only;rw[hLe];exact hle,by
    simp only
    rw[List.length_append,List.length_singleton]
    rcases Int.lt_or_le 0 level with d|d
    ·have:=(h1 d).1;omega
    ·have:=h0 (by omega);omega,by
    simp only
    rw[xN hle]
    rcases Int.lt_or_le 0 level with d|d
    ·have:=(h1 d).2;omega
    ·have:=h0 (by omega);omega⟩
   simp only at hb
   rw[hLe]at hb
   have:=ih [] (at_+gT p) (at_+gT p) (out++[(L++[p],seg b fr (at_+gT p))]) hb trivial rfl hle hr (fun _=>⟨by simp,by omega⟩) (fun _=>⟨by simp,by omega⟩) (fun h q hq=>hp h q (by simp[hq])) (by
    rw[List.length_append,List.length_singleton]
    clear hb
    have hbig:fr+8192<=at_+gT p:=by
     unfold n_ at c
     rcases c with c|c
     ·have:=c.2
      clear ih h1 h0 hp
      omega
     ·rcases c.2 with d|d
      ·clear ih h1 h0 hp
       omega
      ·clear ih h1 h0 hp
       omega
    clear ih h1 h0 hp c
    have e1:(out.length+1) * 8192=out.length * 8192+8192:=Nat.succ_mul _ _
    rw[e1]
    exact Nat.le_trans (Nat.add_le_add_right hn 8192) hbig)
   exact this
  ·rw[if_neg c]
   unfold n_ at c
   refine ih (L++[p]) fr (at_+gT p) out hG hLp hLe hfr hr (fun d=>?_) (fun d=>?_) (fun h q hq=>hp h q (by simp[hq])) hn
   ·have:=h1 d
    rw[List.length_append,List.length_singleton]
    omega
   ·have:=h0 d
    have:=hp d p (by simp)
    rw[List.length_append,List.length_singleton]
    omega
theorem xO (b:List UInt8){level:Int}(hlv:0<=level):yP b 0 (cO b level) b.length/\(cO b level).length<=b.length / 8192+1:=by
 obtain⟨h1,h2⟩:=xm b level
 have:=Pr b hlv (jQ b level) [] 0 0 [] rfl trivial rfl (by omega) h1 (fun _=>⟨by simp,by omega⟩) (fun _=>⟨by simp,by omega⟩) (fun h p hp=>by
  unfold jQ at hp
  rw[if_neg (by omega)]at hp
  obtain⟨c,_,rfl⟩:=List.mem_map.1 hp
  rfl) (by simp)
 rw[h2]at this
 exact this

theorem xP {b:List UInt8}:∀ {l:List Pz} {j:Nat},CQ b j l->∀p∈l,(p.len=0/\p.dist=0)\/(3<=p.len/\p.len<=258/\1<=p.dist/\p.dist<=32768)
 |[],_,_,p,hp=>by cases hp
 |q::l,j,h,p,hp=>by
  rcases List.mem_cons.1 hp with rfl|hp
  ·rcases h.2.1 with ⟨h1,h2,_⟩|⟨n,d,h1,h2,_,h3,h4,h5,h6,_,_⟩
   ·exact .inl ⟨h1,h2⟩
   ·right;omega
  ·exact xP h.2.2 p hp
theorem Dh {b:List UInt8}:∀ {xs:List ff} {s t:Nat},yP b s xs t->∀x∈xs,∃fr,okBk b fr x
 |[],_,_,_,x,hx=>by cases hx
 |y::xs,s,t,h,x,hx=>by
  rcases List.mem_cons.1 hx with rfl|hx
  ·exact⟨s,h.1⟩
  ·exact Dh h.2 x hx

theorem xQ (l:List Int)(s:Int):(xD l s).length<=15:=by
 unfold xD
 split
 ·rename_i p hp
  rw[au]
  exact(AY hp).2
 ·simp
theorem Mx (la lb:List Int){p:Pz}(h:(p.len=0/\p.dist=0)\/(3<=p.len/\p.len<=258/\1<=p.dist/\p.dist<=32768)):(EQ la lb p).length<=48:=by
 unfold EQ
 rcases h with ⟨h0,_⟩|⟨c1,c2,c3,c4⟩
 ·rw[if_pos h0]
  have:=xQ la p.c.toNat
  omega
 ·rw[if_neg (by omega)]
  obtain⟨s,x,k,hs,h1,h2,h3,h4,h5,h6,h7⟩:=sg c1 c2
  obtain⟨t,y,j,ht,g1,g2,g3,g4,g5,g6⟩:=si c3 c4
  rw[hs,ht]
  simp only[List.length_append,au,Int.toNat_natCast]
  have:=xQ la s
  have:=xQ lb t
  omega
theorem dM {α β:Type}{f:α->List β}{m:Nat}:∀ {l:List α},(∀x∈l,(f x).length<=m)->(l.flatMap f).length<=m * l.length
 |[],_=>by simp
 |x::l,h=>by
  have ih:=dM (f:=f) (m:=m) (l:=l) fun y hy=>h y (by simp[hy])
  have:=h x (by simp)
  rw[List.flatMap_cons,List.length_append,List.length_cons,Nat.mul_add]
  omega
theorem F9 (la lb:List Int){ps:List Pz}(h:∀p∈ps,(p.len=0/\p.dist=0)\/(3<=p.len/\p.len<=258/\1<=p.dist/\p.dist<=32768)):(xF la lb ps).length<=48 * ps.length+15:=by
 unfold xF
 rw[List.length_append]
 have:=dM (f:=EQ la lb) (m:=48) (l:=ps) fun p hp=>Mx la lb (h p hp)
 have:=xQ la 256
 omega
theorem sC (f:List Int)(lim:Int):∀x∈cY f lim,0<=x/\x<=15:=by
 intro x hx
 by_cases hE:kO f lim=0
 ·exact(oP hE).ins x hx
 ·unfold cY at hx
  rw[if_pos hE]at hx
  cases hx
theorem F_ {la lb:List Int}(ha:∀x∈la,0<=x/\x<=15)(hb:∀x∈lb,0<=x/\x<=15):∀x∈dG la lb,0<=x/\x<=15:=fun x hx=>by
 unfold dG at hx
 rcases List.mem_append.1 hx with hx|hx
 ·exact ha x (List.mem_of_mem_take hx)
 ·exact hb x (List.mem_of_mem_take hx)
theorem Ps {la lb:List Int}(ha:∀x∈la,0<=x/\x<=15)(hb:∀x∈lb,0<=x/\x<=15)(h1:la.length<=320)(h2:lb.length<=320):(ER la lb).length<=20000:=by
 have hv:=F_ ha hb
 have hr:(dG la lb).length<=640:=by
  unfold dG
  rw[List.length_append,List.length_take,List.length_take];omega
 have ht:=oQ (dG la lb) ((dG la lb).length+1) 0
 have f1:=dM (f:=fun t:Td=>xD (d7 la lb) t.sym++aG t.extra t.bits) (m:=22) (l:=cF (dG la lb)) (fun t ht=>by
  rw[List.length_append,au]
  have:=xQ (d7 la lb) t.sym
  have:=(lJ hv _ _ t ht).2.2.2
  omega)
 have f2:=dM (f:=fun n:Int=>aG n.toNat 3) (m:=3) (l:=(eZ (d7 la lb)).take (upto (eZ (d7 la lb)) 4)) (fun n _=>by rw[au];omega)
 have f3:((eZ (d7 la lb)).take (upto (eZ (d7 la lb)) 4)).length<=19:=by
  rw[List.length_take]
  have:(eZ (d7 la lb)).length=19:=by simp[eZ,j8]
  omega
 unfold ER
 simp only[List.length_append,au]
 unfold cF at f1
 unfold cF
 omega
theorem Ga {x:ff}(h:∀p∈x.1,(p.len=0/\p.dist=0)\/(3<=p.len/\p.len<=258/\1<=p.dist/\p.dist<=32768))(hl:x.1.length<=30000):(qw x).length<=1500000:=by
 have:=F9 lz lC h
 unfold qw
 omega
theorem Gb {ps:List Pz}(hl:ps.length<=1048576):(iQ ps).length=286/\(jT ps).length=30:=by
 constructor
 ·unfold iQ;rw[(PM.cV (oe hl)).1];simp[gX]
 ·unfold jT;rw[(PM.cV (xM hl)).1];simp[kP]
theorem Gc {x:ff}(h:∀p∈x.1,(p.len=0/\p.dist=0)\/(3<=p.len/\p.len<=258/\1<=p.dist/\p.dist<=32768))(hl:x.1.length<=30000):(xG x).length<=1500000:=by
 have h1:=F9 (iQ x.1) (jT x.1) h
 obtain⟨l1,l2⟩:=Gb (ps:=x.1) (by omega)
 have h2:=Ps (la:=iQ x.1) (lb:=jT x.1) (sC _ _) (sC _ _) (by omega) (by omega)
 unfold xG
 rw[List.length_append]
 omega
theorem sD (L:List Bool)(x:ff):(xH L x).length=8 * ((L.length+7) / 8)+32+8 * x.2.length:=by
 unfold xH
 simp only[List.length_append,au,dU,bV]
theorem My (L:List Bool)(x:ff)(y z:List Bool)(hy:y.length=1)(hz:z.length=2):(xH (L++y++z) x).length=L.length+tZ L.length x:=by
 rw[sD,List.length_append,List.length_append,hy,hz]
 unfold tZ
 omega
theorem Di (n:Nat)(level:Int)(x:ff):gW n level x<=2:=by
 unfold gW
 split
 ·omega
 ·repeat' split
  all_goals omega
theorem xR (level:Int)(L:List Bool)(last:Nat)(x:ff):((el level L last x).length+7) / 8<=(L.length+7) / 8+5+x.2.length/\(el level L last x).length<=L.length+tZ L.length x:=by
 have key:(el level L last x).length<=L.length+tZ L.length x:=by
  unfold el
  obtain⟨k,hk⟩:∃k,k=gW L.length level x:=⟨_,rfl⟩
  rw[<- hk]
  unfold yN
  by_cases h0:k=0
  ·rw[if_pos h0,My _ _ _ _ (au _ _) (au _ _)]
   omega
  ·rw[if_neg h0]
   unfold gW at hk
   split at hk
   ·exact absurd hk h0
   have hs:L.length+1+2=L.length+3:=rfl
   by_cases h1:k=1
   ·rw[if_pos h1]
    simp only[List.length_append,au]
    by_cases c:3+(qw x).length<tZ L.length x
    ·omega
    ·rw[if_neg c,if_neg c]at hk
     split at hk <;> omega
   ·rw[if_neg h1]
    simp only[List.length_append,au]
    by_cases c:3+(qw x).length<tZ L.length x
    ·rw[if_pos c,if_pos c]at hk
     split at hk <;> omega
    ·rw[if_neg c,if_neg c]at hk
     split at hk <;> omega
 refine⟨?_,key⟩
 unfold tZ at key
 omega
theorem ET (L:List Bool):∃z,dv L=L++z:=⟨_,rfl⟩
theorem xS (level:Int)(L:List Bool)(last:Nat)(x:ff):∃z,el level L last x=L++z:=by
 unfold el yN
 split
 ·unfold xH
  obtain⟨z,hz⟩:=ET (L++aG last 1++aG (gW L.length level x) 2)
  rw[hz]
  refine⟨aG last 1++(aG (gW L.length level x) 2++(z++(aG x.2.length 16++(aG (65535-x.2.length) 16++ub x.2)))),by simp only[List.append_assoc]⟩
 ·split
  ·exact⟨aG last 1++(aG (gW L.length level x) 2++qw x),by simp only[List.append_assoc]⟩
  ·exact⟨aG last 1++(aG (gW L.length level x) 2++xG x),by simp only[List.append_assoc]⟩
theorem zN (level:Int):∀(xs:List ff) (L:List Bool),∃z,fk level L xs=L++z
 |[],L=>⟨[],by simp[fk]⟩
 |[x],L=>xS level L 1 x
 |x::y::r,L=>by
  obtain⟨z,hz⟩:=zN level (y::r) (el level L 0 x)
  obtain⟨w,hw⟩:=xS level L 0 x
  rw[fk,hz,hw]
  exact⟨w++z,by simp⟩
def fy:List ff->Nat
 |[]=>0
 |x::r=>x.2.length+fy r
theorem oh {b:List UInt8}:∀ {xs:List ff} {s t:Nat},yP b s xs t->s+fy xs=t
 |[],s,t,h=>by have:s=t:=h;subst this;rfl
 |x::r,s,t,h=>by
  have ih:=oh h.2
  have h1:=h.1.seg
  have h2:=h.1.le
  have:=t6 x.1 s
  have h3:=congrArg List.length h1
  rw[xN h2]at h3
  rw[fy]
  omega
theorem zO (level:Int):∀(xs:List ff) (L:List Bool),((fk level L xs).length+7) / 8<=(L.length+7) / 8+5 * xs.length+fy xs
 |[],L=>by simp[fk,fy]
 |[x],L=>by
  have:=(xR level L 1 x).1
  rw[fk]
  simp only[List.length_singleton,fy]
  omega
 |x::y::r,L=>by
  have h1:=(xR level L 0 x).1
  have h2:=zO level (y::r) (el level L 0 x)
  rw[fk,fy,List.length_cons]
  omega
theorem zP (level:Int):∀(xs:List ff) (L:List Bool),((dV level L xs).length+7) / 8<=(L.length+7) / 8+5 * xs.length+fy xs
 |[],L=>by simp[dV,fy]
 |x::r,L=>by
  have h1:=(xR level L 0 x).1
  have h2:=zP level r (el level L 0 x)
  unfold dV at h2 ⊢
  rw[List.foldl_cons,fy,List.length_cons]
  omega
theorem JO {a b:Nat}{o:List UInt8}(h:a=b):(Except.ok (a,o):Except Int (Nat × List UInt8))=Except.ok (b,o):=by rw[h]
theorem zQ {pre out:List UInt8}{d:Nat}(h1:1<=d)(hd:d<=out.length):∀n,eM (pre++out) d n=pre++eM out d n
 |0=>rfl
 |n+1=>by
  have e:(pre++eM out d n).getD ((pre++eM out d n).length-d) 0=(eM out d n).getD ((eM out d n).length-d) 0:=by
   have hl:=lE out d n
   rw[List.getD_eq_getElem?_getD,List.getD_eq_getElem?_getD,List.length_append,List.getElem?_append_right (by omega),show pre.length+(eM out d n).length-d-pre.length=(eM out d n).length-d by omega]
  rw[eM,eM,zQ h1 hd n,e,List.append_assoc]
theorem JP {pre out:List UInt8}{p:Pc}(h:R_ out.length p):R_ (pre++out).length p/\jf (pre++out) p=pre++jf out p:=by
 unfold jf
 rcases h with h|⟨h1,h2,h3,h4,h5,h6⟩
 ·rw[if_pos h.1,if_pos h.1]
  exact⟨.inl h,by simp⟩
 ·rw[if_neg (by omega),if_neg (by omega)]
  exact⟨.inr ⟨h1,h2,h3,h4,by rw[List.length_append];omega,h6⟩,zQ h3 h5 _⟩
theorem Dj {pre:List UInt8}:∀ {ps:List Pc} {out:List UInt8},EG out ps->EG (pre++out) ps/\ps.foldl jf (pre++out)=pre++ps.foldl jf out
 |[],out,h=>⟨trivial,rfl⟩
 |p::ps,out,h=>by
  obtain⟨e1,e2⟩:=JP (pre:=pre) h.1
  obtain⟨e3,e4⟩:=Dj (pre:=pre) h.2
  rw[List.foldl_cons,List.foldl_cons,e2]
  exact⟨⟨e1,by rw[e2];exact e3⟩,e4⟩
theorem Mz {l:List UInt8}{k:Nat}(h:k<=l.length):(ub l).drop (8 * k)=ub (l.drop k):=by
 have e:=t0 (l.take k) (l.drop k)
 rw[List.take_append_drop]at e
 rw[e,List.drop_left' (by rw[bV,List.length_take];omega)]
theorem Pt {l m:List UInt8}(h:ub l=ub m):l=m:=by rw[<- NB l,h,NB]
theorem Pu {l x:List UInt8}{Y:List Bool}(h:ub l=ub x++Y):l.take x.length=x:=by
 have hl:=congrArg List.length h
 rw[List.length_append,bV,bV]at hl
 have e:=t0 (l.take x.length) (l.drop x.length)
 rw[List.take_append_drop,h]at e
 have:=congrArg (List.take (8 * x.length)) e
 rw[List.take_left' (bV x),List.take_left' (by rw[bV,List.length_take];omega)]at this
 exact(Pt this).symm
theorem Gd {B out x:List UInt8} {at_:Nat} {most:Int} {Y:List Bool} (hx:x.length<=65535) (hm:(out.length:Int)+x.length<=most) (hat:(at_+7) / 8 * 8<=8 * B.length)
  (h:(ub B).drop ((at_+7) / 8 * 8)=aG x.length 16++(aG (65535-x.length) 16++(ub x++Y))):fe B most at_ out= .ok ((at_+7) / 8 * 8+32+8 * x.length,out++x):=by
 unfold fe
 obtain⟨k,hk⟩:∃k,k=(at_+7) / 8:=⟨_,rfl⟩
 rw[<- hk]at h hat ⊢
 obtain⟨r1,r2,r3⟩:=dI (e:=x.length) (k:=16) (by omega) (by omega) hat h
 have hat1:=cA hat h
 have d1:=cR h
 rw[au]at hat1 d1
 obtain⟨s1,s2,s3⟩:=dI (e:=65535-x.length) (k:=16) (by omega) (by omega) hat1 d1
 have hat2:=cA hat1 d1
 have d2:=cR d1
 rw[au]at hat2 d2
 have hat3:=cA hat2 d2
 rw[bV]at hat3
 have hd:(k * 8+16+16+7) / 8=k+4:=by omega
 rw[show k * 8+16+16=8 * (k+4) by omega,Mz (by omega)]at d2
 have hp:=Pu d2
 have r1':cD B (k * 8) 16=0:=r1
 have r2':bK B (k * 8) 16=x.length:=r2
 have r3':aY B (k * 8) 16=k * 8+16:=r3
 have s1':cD B (k * 8+16) 16=0:=s1
 have s2':bK B (k * 8+16) 16=65535-x.length:=s2
 have s3':aY B (k * 8+16) 16=k * 8+16+16:=s3
 have t1:Fy B (k * 8+16+16) (x.length:Int)=0:=by
  unfold Fy
  rw[if_neg (by omega),hd,if_neg (by omega)]
 have t2:vG B (k * 8+16+16) (x.length:Int)=x:=by
  unfold vG
  rw[if_pos t1,hd,Int.toNat_natCast,hp]
 have t3:vm B (k * 8+16+16) (x.length:Int)=k * 8+32+8 * x.length:=by
  unfold vm
  rw[if_pos t1,hd,Int.toNat_natCast]
  omega
 rw[r1',if_neg (fun c=>c rfl),r3',s1',if_neg (fun c=>c rfl),s3',s2',r2',if_neg (fun c=>c (by omega)),if_neg (fun c=>c (by omega)),t1,if_neg (fun c=>c rfl),t2,t3]
theorem JQ {b:List UInt8}{i j:Nat}(h:i<=j):b.take i++seg b i j=b.take j:=by
 unfold seg
 rw[show j=i+(j-i) by omega,List.take_add,show i+(j-i)-i=j-i by omega]
def Ge (k n:Nat)(x:ff):List Bool:=if k=0 then List.replicate ((8-(n+3)%8)%8) false++(aG x.2.length 16++(aG (65535-x.2.length) 16++ub x.2))else if k=1 then qw x else xG x
theorem Bo (level:Int)(L:List Bool)(last:Nat)(x:ff):el level L last x=L++(aG last 1++(aG (gW L.length level x) 2++Ge (gW L.length level x) L.length x)):=by
 unfold el yN Ge
 generalize gW L.length level x=k
 by_cases h0:k=0
 ·rw[if_pos h0,if_pos h0]
  unfold xH dv
  rw[show(L++aG last 1++aG k 2).length=L.length+3 by simp[au]]
  simp only[List.append_assoc]
 ·rw[if_neg h0,if_neg h0]
  split
  ·simp only[List.append_assoc]
  ·simp only[List.append_assoc]
theorem MA {b pre B:List UInt8} {fr base last:Nat} {x:ff} {level most:Int} {L Y:List Bool} (hx:okBk b fr x) (hfr:fr<=b.length) (hlast:last<=1) (hbase:base%8=0) (hB:base<=8 * B.length)
  (h:(ub B).drop base=el level L last x++Y) (hm:((pre.length+dZ fr x.1:Nat):Int)<=most):
  (cD B (base+L.length) 1=0/\bK B (base+L.length) 1=last/\aY B (base+L.length) 1=base+L.length+1)/\
  (cD B (base+L.length+1) 2=0/\bK B (base+L.length+1) 2=gW L.length level x/\aY B (base+L.length+1) 2=base+L.length+3)/\
  mI (gW L.length level x) B most (base+L.length+3) (pre++b.take fr)= .ok (base+(el level L last x).length,pre++b.take (dZ fr x.1))/\base+(el level L last x).length<=8 * B.length:=by
 have hend:=cA hB h
 have hlen:(el level L last x).length=L.length+3+(Ge (gW L.length level x) L.length x).length:=by
  rw[Bo];simp only[List.length_append,au];omega
 have hk2:=Di L.length level x
 rw[Bo]at h
 obtain⟨k,hk⟩:∃k,k=gW L.length level x:=⟨_,rfl⟩
 rw[<- hk]at h hk2 hlen ⊢
 simp only[List.append_assoc]at h
 have hat0:=cA hB h
 have d0:=cR h
 obtain⟨r1,r2,r3⟩:=dI (e:=last) (k:=1) (by omega) (by omega) hat0 d0
 have hat1:=cA hat0 d0
 have d1:=cR d0
 rw[au]at hat1 d1
 obtain⟨s1,s2,s3⟩:=dI (e:=k) (k:=2) (by omega) (by omega) hat1 d1
 have hat2:=cA hat1 d1
 have d2:=cR d1
 rw[au,show base+L.length+1+2=base+L.length+3 by omega]at hat2 d2
 refine⟨⟨r1,r2,r3⟩,⟨s1,s2,s3⟩,?_,hend⟩
 have hgp:=hx.gps
 have hgood:=xP hgp
 have hle:=hx.le
 have hmono:=t6 x.1 fr
 obtain⟨p1,p2⟩:=FQ hgp hfr
 obtain⟨q1,q2⟩:=Dj (pre:=pre) p1
 rw[p2]at q2
 have hml:(((x.1.map xl).foldl jf (pre++b.take fr)).length:Int)<=most:=by
  rw[q2,List.length_append,List.length_take];omega
 have hpn:=hx.pn
 unfold mI
 unfold Ge at d2 hlen
 by_cases h0:k=0
 ·rw[if_pos h0]at d2 hlen ⊢
  have hbn:=hx.bn
  have hs:=hx.seg
  have hsl:=congrArg List.length hs
  rw[xN hle]at hsl
  simp only[List.append_assoc]at d2
  have hat3:=cA hat2 d2
  have d3:=cR d2
  rw[List.length_replicate]at hat3 d3
  have ha:base+L.length+3+(8-(L.length+3)%8)%8=(base+L.length+3+7) / 8 * 8:=by omega
  rw[ha]at hat3 d3
  rw[Gd (by omega) (by rw[List.length_append,List.length_take];omega) hat3 d3]
  rw[List.append_assoc,hs,JQ hmono,<- hs]
  refine JO ?_
  rw[hlen]
  simp only[List.length_append,List.length_replicate,au,bV]
  omega
 ·rw[if_neg h0]at d2 hlen ⊢
  by_cases h1:k=1
  ·rw[if_pos h1]at d2 hlen ⊢
   unfold qw at d2 hlen
   rw[Dg A4 A6 hgood]at d2 hlen
   rw[List.append_assoc]at d2
   rw[Je A4 A6 (A8 (s:=256) (by omega)) q1 (fun p hp=>by
    obtain⟨q,hq,rfl⟩:=List.mem_map.1 hp
    exact L9 (hgood q hq)) hml hat2 d2,q2,hlen]
   refine JO ?_
   rw[List.length_append];omega
  ·rw[if_neg h1]at d2 hlen ⊢
   rw[if_pos (by omega)]
   have hd:=Mw (ps:=x.1) (by omega) hgood q1 hml B _ Y hat2 d2
   have hd':tQ B most (base+L.length+3) (pre++b.take fr)=_:=hd
   rw[hd',q2,hlen]
   refine JO ?_
   unfold xG;omega
def MB (level:Int):List Bool->List ff->List (Int × Int)
 |_,[]=>[]
 |L,x::r=>((gW L.length level x:Int),(x.2.length:Int))::MB level (el level L 0 x) r
theorem zR (level:Int):∀(xs:List ff) (L:List Bool),∃z,dV level L xs=L++z
 |[],L=>⟨[],by simp[dV]⟩
 |x::r,L=>by
  obtain⟨z,hz⟩:=zR level r (el level L 0 x)
  obtain⟨w,hw⟩:=xS level L 0 x
  have e:dV level L (x::r)=dV level (el level L 0 x) r:=rfl
  rw[e,hz,hw]
  exact⟨w++z,by simp⟩
theorem t7 {b pre B:List UInt8} {fr base last:Nat} {x:ff} {level most:Int} {L Y:List Bool} {f:Nat} {l:List (Int × Int)} (hx:okBk b fr x) (hfr:fr<=b.length) (hlast:last<=1) (hbase:base%8=0) (hB:base<=8 * B.length)
  (h:(ub B).drop base=el level L last x++Y) (hm:((pre.length+dZ fr x.1:Nat):Int)<=most):
  iP B most (f+1) (base+L.length) (pre++b.take fr) l=(if last=0 then iP B most f (base+(el level L last x).length) (pre++b.take (dZ fr x.1)) (l++[((gW L.length level x:Int),(x.2.length:Int))])
   else .ok (base+(el level L last x).length,pre++b.take (dZ fr x.1),l++[((gW L.length level x:Int),(x.2.length:Int))])):=by
 obtain⟨⟨r1,r2,r3⟩,⟨s1,s2,s3⟩,hk,hend⟩:=MA hx hfr hlast hbase hB h hm
 have hle:=hx.le
 have hmono:=t6 x.1 fr
 have hsl:=congrArg List.length hx.seg
 rw[xN hle]at hsl
 have hsz:(((pre++b.take (dZ fr x.1)).length:Nat):Int)-((pre++b.take fr).length:Nat)=(x.2.length:Int):=by
  rw[List.length_append,List.length_append,List.length_take,List.length_take];omega
 rw[iP,r1,if_neg (fun c=>c rfl),r3,s1,if_neg (fun c=>c rfl),s2,s3,hk]
 simp only
 rw[r2,hsz]
theorem xT {b pre B:List UInt8}{base:Nat}{level most:Int}(hbase:base%8=0)(hB:base<=8 * B.length):∀(xs:List ff) {fr to f:Nat} {L Y:List Bool} {l:List (Int × Int)},yP b fr xs to->fr<=b.length->(ub B).drop base=dV level L xs++Y->
  ((pre.length+to:Nat):Int)<=most->iP B most (f+xs.length) (base+L.length) (pre++b.take fr) l=iP B most f (base+(dV level L xs).length) (pre++b.take to) (l++MB level L xs)
 |[],fr,to,f,L,Y,l,hG,hfr,h,hm=>by
  have:fr=to:=hG
  subst this
  simp[dV,MB]
 |x::r,fr,to,f,L,Y,l,hG,hfr,h,hm=>by
  have e:dV level L (x::r)=dV level (el level L 0 x) r:=rfl
  obtain⟨z,hz⟩:=zR level r (el level L 0 x)
  have hto:=oh hG.2
  have hle:=hG.1.le
  rw[e]at h ⊢
  have h':=h
  rw[hz,List.append_assoc]at h'
  rw[List.length_cons,<- Nat.add_assoc,t7 hG.1 hfr (by omega) hbase hB h' (by omega),if_pos rfl,xT hbase hB r hG.2 hle h hm,MB]
  simp
theorem zS {b pre B:List UInt8}{base:Nat}{level most:Int}(hbase:base%8=0)(hB:base<=8 * B.length):∀(xs:List ff) {fr to f:Nat} {L Y:List Bool} {l:List (Int × Int)},xs≠[]->yP b fr xs to->fr<=b.length->(ub B).drop base=fk level L xs++Y->
  ((pre.length+to:Nat):Int)<=most->iP B most (f+xs.length) (base+L.length) (pre++b.take fr) l= .ok (base+(fk level L xs).length,pre++b.take to,l++MB level L xs)
 |[],fr,to,f,L,Y,l,hne,hG,hfr,h,hm=>absurd rfl hne
 |[x],fr,to,f,L,Y,l,hne,hG,hfr,h,hm=>by
  have:dZ fr x.1=to:=hG.2
  subst this
  rw[List.length_singleton,t7 hG.1 hfr (by omega) hbase hB h hm,if_neg (by decide)]
  rfl
 |x::y::r,fr,to,f,L,Y,l,hne,hG,hfr,h,hm=>by
  have e:fk level L (x::y::r)=fk level (el level L 0 x) (y::r):=rfl
  obtain⟨z,hz⟩:=zN level (y::r) (el level L 0 x)
  have hto:=oh hG.2
  have hle:=hG.1.le
  rw[e]at h ⊢
  have h':=h
  rw[hz,List.append_assoc]at h'
  rw[List.length_cons,<- Nat.add_assoc,t7 hG.1 hfr (by omega) hbase hB h' (by omega),if_pos rfl,zS hbase hB (y::r) (by simp) hG.2 hle h hm]
  simp only[MB,List.append_assoc,List.singleton_append]
theorem Bq (b:List UInt8)(level:Int):∀(l L:List Pz) (fr at_:Nat) (out:List ff),sx b level l L fr at_ out≠[]
 |[],L,fr,at_,out=>by
  rw[sx]
  split
  ·simp
  ·rename_i c
   intro h
   exact c (.inr h)
 |p::r,L,fr,at_,out=>by
  rw[sx]
  split
  ·exact Bq b level r _ _ _ _
  ·exact Bq b level r _ _ _ _
theorem Gf (b:List UInt8)(level:Int):cO b level≠[]:=Bq b level _ _ _ _ _
theorem JR {b pre B:List UInt8} {base f:Nat} {level most:Int} {Y:List Bool} {l:List (Int × Int)} (hlv:0<=level) (hbase:base%8=0) (hB:base<=8 * B.length) (h:(ub B).drop base=sA b level++Y) (hm:((pre.length+b.length:Nat):Int)<=most)
  (hf:(cO b level).length<=f):iP B most f base pre l= .ok (base+(sA b level).length,pre++b,l++MB level [] (cO b level)):=by
 obtain⟨hG,hn⟩:=xO b hlv
 obtain⟨g,rfl⟩:∃g,f=g+(cO b level).length:=⟨f-(cO b level).length,by omega⟩
 have:=zS (pre:=pre) (most:=most) (f:=g) (l:=l) hbase hB (cO b level) (Gf b level) hG (by omega) h hm
 rw[List.take_zero,List.append_nil,List.take_length]at this
 exact this
theorem Pv (b:List UInt8)(level:Int):(jV b level).length%8=0:=by
 unfold jV
 rw[sD]
 simp
theorem JS {b pre B:List UInt8} {base f:Nat} {level most:Int} {Y:List Bool} {l:List (Int × Int)} (hlv:0<=level) (hbase:base%8=0) (hB:base<=8 * B.length) (h:(ub B).drop base=jV b level++Y) (hm:((pre.length+b.length:Nat):Int)<=most)
  :∃l',iP B most (f+((cO b level).length+1)) base pre l=iP B most f (base+(jV b level).length) (pre++b) l':=by
 obtain⟨hG,hn⟩:=xO b hlv
 obtain⟨P,hP⟩:∃P,P=dV level [] (cO b level):=⟨_,rfl⟩
 have hfl:jV b level=P++(aG 0 1++(aG 0 2++(List.replicate ((8-(P.length+3)%8)%8) false++(aG 0 16++(aG 65535 16++ub []))))):=by
  unfold jV xH dv
  rw[<- hP,show(P++aG 0 3).length=P.length+3 by simp[au]]
  simp only[List.append_assoc]
  rfl
 have hlen:(jV b level).length=P.length+3+((8-(P.length+3)%8)%8)+32:=by
  rw[hfl]
  simp only[List.length_append,au,List.length_replicate,bV,List.length_nil]
  omega
 rw[hfl]at h
 simp only[List.append_assoc]at h
 have h1:=h
 rw[hP]at h1
 have hl:=xT (pre:=pre) (most:=most) (f:=f+1) (l:=l) hbase hB (cO b level) hG (by omega) h1 hm
 rw[List.take_zero,List.append_nil,List.take_length,<- hP,List.length_nil]at hl
 rw[show base+0=base from rfl]at hl
 have hat0:=cA hB h
 have d0:=cR h
 obtain⟨r1,r2,r3⟩:=dI (e:=0) (k:=1) (by omega) (by omega) hat0 d0
 have hat1:=cA hat0 d0
 have d1:=cR d0
 rw[au]at hat1 d1
 obtain⟨s1,s2,s3⟩:=dI (e:=0) (k:=2) (by omega) (by omega) hat1 d1
 have hat2:=cA hat1 d1
 have d2:=cR d1
 rw[au,show base+P.length+1+2=base+P.length+3 by omega]at hat2 d2
 have hat3:=cA hat2 d2
 have d3:=cR d2
 rw[List.length_replicate]at hat3 d3
 have ha:base+P.length+3+(8-(P.length+3)%8)%8=(base+P.length+3+7) / 8 * 8:=by omega
 rw[ha]at hat3 d3
 have hs:=Gd (x:=[]) (out:=pre++b) (most:=most) (by simp) (by simp only[List.length_append,List.length_nil];omega) hat3 d3
 refine⟨l++MB level [] (cO b level)++[((0:Int),(((pre++b)++[]).length:Int)-((pre++b).length:Int))],?_⟩
 have r1':cD B (base+P.length) 1=0:=r1
 have r2':bK B (base+P.length) 1=0:=r2
 have r3':aY B (base+P.length) 1=base+P.length+1:=r3
 have s1':cD B (base+P.length+1) 2=0:=s1
 have s2':bK B (base+P.length+1) 2=0:=s2
 have s3':aY B (base+P.length+1) 2=base+P.length+3:=s3
 rw[show f+((cO b level).length+1)=f+1+(cO b level).length by omega,hl,iP,r1',if_neg (fun c=>c rfl),r3',s1',if_neg (fun c=>c rfl),s2',s3']
 unfold mI
 rw[if_pos rfl,hs]
 simp only
 rw[r2',if_pos rfl,hlen,List.append_nil]
 congr 1
 simp only[List.length_nil]
 omega
theorem Br (level:Int)(L:List Bool)(last:Nat)(x:ff):L.length+3<=(el level L last x).length:=by
 rw[Bo];simp only[List.length_append,au];omega
theorem Dk (level:Int):∀(xs:List ff) (L:List Bool),L.length+3 * xs.length<=(fk level L xs).length
 |[],L=>by simp[fk]
 |[x],L=>Br level L 1 x
 |x::y::r,L=>by
  have h1:=Br level L 0 x
  have h2:=Dk level (y::r) (el level L 0 x)
  rw[fk,List.length_cons]
  omega
theorem Dl (level:Int):∀(xs:List ff) (L:List Bool),L.length+3 * xs.length<=(dV level L xs).length
 |[],L=>by simp[dV]
 |x::r,L=>by
  have h1:=Br level L 0 x
  have h2:=Dl level r (el level L 0 x)
  have e:dV level L (x::r)=dV level (el level L 0 x) r:=rfl
  rw[e,List.length_cons]
  omega
theorem xU {b:List UInt8}{level:Int}(h:jU b level=0):0<=level/\level<=9/\b.length<=524288:=by
 unfold jU at h
 by_cases h1:level<0\/9<level
 ·rw[if_pos h1]at h;exact absurd h (by decide)
 ·rw[if_neg h1]at h
  by_cases h2:524288<b.length
  ·rw[if_pos h2]at h;exact absurd h (by decide)
  ·exact⟨by omega,by omega,by omega⟩
theorem xV {b:List UInt8}{level:Int}(hlv:0<=level):((sA b level).length+7) / 8<=5 * (b.length / 8192+1)+b.length:=by
 obtain⟨hG,hn⟩:=xO b hlv
 have h1:=zO level (cO b level) []
 have h2:=oh hG
 unfold sA
 simp only[List.length_nil]at h1
 omega
theorem sE {b:List UInt8}{level:Int}(h:jU b level=0):(eJ b level).length=((sA b level).length+7) / 8:=by
 unfold eJ
 rw[if_pos h,fd]
theorem MC {b:List UInt8}{level:Int}(h:jU b level=0):∃Z,ub (eJ b level)=sA b level++Z:=by
 unfold eJ
 rw[if_pos h,NF]
 exact⟨_,rfl⟩

theorem Hp {b:List UInt8}{level:Int}(h:jU b level=0):(eJ b level).length<=b.length+5 * (b.length / 22000+1)+6+b.length / 1000:=by
 obtain⟨h1,h2,h3⟩:=xU h
 have hl:=sE h
 have hx:=xV (b:=b) h1
 omega

def JT (w:List UInt8)(level:Int):List UInt8:=if w=[]then []else pk (jV w level)
theorem JU {w:List UInt8}{level:Int}:ub (pk (jV w level))=jV w level:=by
 rw[NF]
 unfold dv
 rw[Pv]
 simp
theorem MD (w:List UInt8)(level:Int):(cO w level).length+1<=(jV w level).length:=by
 have h:=Dl level (cO w level) []
 unfold jV
 rw[sD]
 simp only[List.length_append,List.length_nil,au]at h ⊢
 omega
def fO (level:Int)(ws:List (List UInt8)):List UInt8:=ws.flatMap fun w=>JT w level
theorem t8 {level most:Int}(hlv:0<=level)(post:List UInt8):∀(ws:List (List UInt8)) (pre o:List UInt8) (f:Nat) (l:List (Int × Int)),(((o.length+ws.flatten.length:Nat):Int)<=most)->8 * (fO level ws).length<=f->
  ∃(g:Nat) (l':List (Int × Int)),f<=g+8 * (fO level ws).length/\iP (pre++(fO level ws++post)) most f (8 * pre.length) o l=iP (pre++(fO level ws++post)) most g (8 * (pre.length+(fO level ws).length)) (o++ws.flatten) l'
 |[],pre,o,f,l,hm,hf=>⟨f,l,by simp[fO],by simp[fO]⟩
 |w::ws,pre,o,f,l,hm,hf=>by
  have e:fO level (w::ws)=JT w level++fO level ws:=by unfold fO;rw[List.flatMap_cons]
  rw[List.flatten_cons,List.length_append]at hm
  by_cases hw:w=[]
  ·subst hw
   have e2:fO level ([]::ws)=fO level ws:=by rw[e];unfold JT;rw[if_pos rfl];rfl
   rw[e2]at hf ⊢
   obtain⟨g,l',h1,h2⟩:=t8 (most:=most) hlv post ws pre o f l (by simp only[List.length_nil]at hm;omega) hf
   exact⟨g,l',h1,by rw[h2];simp⟩
  ·have ef:JT w level=pk (jV w level):=by unfold JT;rw[if_neg hw]
   rw[ef]at e
   have hl8:8 * (pk (jV w level)).length=(jV w level).length:=by
    have:=congrArg List.length (JU (w:=w) (level:=level))
    rw[bV]at this
    exact this
   have hge:=MD w level
   rw[e,List.length_append]at hf ⊢
   have hass:pre++(pk (jV w level)++fO level ws++post)=(pre++pk (jV w level))++(fO level ws++post):=by simp only[List.append_assoc]
   obtain⟨B,hB⟩:∃B,B=pre++(pk (jV w level)++fO level ws++post):=⟨_,rfl⟩
   have hBl:B.length=pre.length+((pk (jV w level)).length+(fO level ws).length+post.length):=by rw[hB];simp only[List.length_append]
   have hd:(ub B).drop (8 * pre.length)=jV w level++ub (fO level ws++post):=by
    rw[hB,t0,List.drop_left' (bV pre),List.append_assoc,t0,JU]
   obtain⟨k,hk⟩:∃k,f=k+((cO w level).length+1):=⟨f-((cO w level).length+1),by omega⟩
   obtain⟨l1,h1⟩:=JS (b:=w) (pre:=o) (B:=B) (base:=8 * pre.length) (f:=k) (level:=level) (most:=most) (l:=l) hlv (by omega) (by omega) hd (by omega)
   obtain⟨g,l',h2,h3⟩:=t8 (most:=most) hlv post ws (pre++pk (jV w level)) (o++w) k l1 (by rw[List.length_append];omega) (by omega)
   rw[<- hB]
   rw[<- hass,<- hB]at h3
   refine⟨g,l',by omega,?_⟩
   rw[hk,h1,show 8 * pre.length+(jV w level).length=8 * (pre++pk (jV w level)).length by rw[List.length_append];omega,h3]
   rw[List.length_append,List.flatten_cons,List.append_assoc,Nat.add_assoc]
end IF
namespace GZ
open Go Go.Proofs Go.RowKit Sl IF

theorem vK {n:Nat}(h:n<4294967296):IntKind.u32.wrap (n:Int)=n:=by
 simp only[IntKind.wrap,IntKind.bits,IntKind.signed]
 simp;omega
theorem Dm (n:Int):IntKind.u32.wrap n=((n%4294967296).toNat:Int):=by
 simp only[IntKind.wrap,IntKind.bits,IntKind.signed]
 simp;omega
theorem oR (n:Nat):IntKind.u8.wrap (n:Int)=((n%256:Nat):Int):=by
 simp only[IntKind.wrap,IntKind.bits,IntKind.signed]
 simp
theorem Pw {a:Nat}(h:a<4294967296):(BitVec.ofInt IntKind.u32.bits (a:Int)).toNat=a:=by
 rw[BitVec.ofInt_natCast,BitVec.toNat_ofNat];exact Nat.mod_eq_of_lt (by simp only[IntKind.bits];omega)
theorem Vm {a:Nat}(h:a<256):(BitVec.ofInt IntKind.u8.bits (a:Int)).toNat=a:=by
 rw[BitVec.ofInt_natCast,BitVec.toNat_ofNat];exact Nat.mod_eq_of_lt (by simp only[IntKind.bits];omega)
theorem sF {a b:Nat}(ha:a<4294967296)(hb:b<4294967296):a ^^^ b<4294967296:=Nat.xor_lt_two_pow (n:=32) ha hb
theorem Bs {a b:Nat}(ha:a<256)(hb:b<256):a ^^^ b<256:=Nat.xor_lt_two_pow (n:=8) ha hb
theorem JV {a b:Nat}(ha:a<4294967296)(hb:b<4294967296):cZ .xor .u32 (a:Int) (b:Int)=((a ^^^ b:Nat):Int):=by
 unfold cZ
 simp only[BitVec.toNat_xor,Pw ha,Pw hb]
 exact vK (sF ha hb)
theorem US {a b:Nat}(ha:a<256)(hb:b<256):cZ .xor .u8 (a:Int) (b:Int)=((a ^^^ b:Nat):Int):=by
 unfold cZ
 simp only[BitVec.toNat_xor,Vm ha,Vm hb]
 rw[oR,Nat.mod_eq_of_lt (Bs ha hb)]
theorem ME {a:Nat}(ha:a<4294967296):cZ .and .u32 (a:Int) 1=((a%2:Nat):Int):=by
 unfold cZ
 have h2:(BitVec.ofInt IntKind.u32.bits 1).toNat=1:=by decide
 simp only[BitVec.toNat_and,Pw ha,h2,Nat.and_one_is_mod]
 exact vK (by omega)
theorem zT {n k:Nat}(hk:k<=32):((n:Int).fdiv (2^(min ((k:Int)).toNat IntKind.u32.bits)))=((n / 2^k:Nat):Int):=by
 have:min ((k:Int)).toNat IntKind.u32.bits=k:=by simp only[IntKind.bits,Int.toNat_natCast];omega
 rw[this,Int.fdiv_eq_ediv_of_nonneg _ (Int.le_of_lt (Int.pow_pos (by decide)))]
 norm_cast

def UT:Nat:=3988292384
def Px (c:Nat):Nat:=if c%2=1 then(c / 2) ^^^ UT else c / 2
def Bt:Nat->Nat->Nat
 |0,c=>c
 |k+1,c=>Bt k (Px c)
theorem Py {c:Nat}(h:c<4294967296):Px c<4294967296:=by
 unfold Px
 split
 ·exact sF (by omega) (by decide)
 ·omega
theorem Bu:∀(k:Nat) {c:Nat},c<4294967296->Bt k c<4294967296
 |0,c,h=>h
 |k+1,c,h=>Bu k (Py h)
theorem zU:∀(k c:Nat),Bt (k+1) c=Px (Bt k c)
 |0,c=>rfl
 |k+1,c=>zU k (Px c)
@[irreducible] def Bw (i:Nat):Nat:=Bt 8 i
theorem JW (i:Nat):Bw i=Bt 8 i:=by unfold Bw;rfl
def mU (c:Nat)(b:List UInt8):Nat:=b.foldl (fun c x=>Bw ((c%256) ^^^ x.toNat) ^^^ (c / 256)) c
def JX (c:Nat):Nat:=Nat.xor 4294967295 c
def PA (s:Nat)(b:List UInt8):Nat:=JX (mU (JX s) b)
def MF (b:List UInt8):Nat:=PA 0 b
theorem Bx {c:Nat}(h:c<4294967296):JX c<4294967296:=by unfold JX;exact sF (by decide) h
theorem JY {i:Nat}(h:i<256):Bw i<4294967296:=by rw[JW];exact Bu 8 (by omega)
theorem MG {c:Nat}{x:UInt8}(h:c<4294967296):Bw ((c%256) ^^^ x.toNat) ^^^ (c / 256)<4294967296:=
 sF (JY (Bs (by omega) x.toNat_lt)) (by omega)
theorem vL:∀(b:List UInt8) {c:Nat},c<4294967296->mU c b<4294967296
 |[],c,h=>h
 |x::b,c,h=>by
  have e:mU c (x::b)=mU (Bw ((c%256) ^^^ x.toNat) ^^^ (c / 256)) b:=by unfold mU;rw[List.foldl_cons]
  rw[e]
  exact vL b (MG h)
theorem JZ (c:Nat)(a b:List UInt8):mU c (a++b)=mU (mU c a) b:=by unfold mU;rw[List.foldl_append]
theorem Hq (c:Nat)(a:List UInt8)(x:UInt8):mU c (a++[x])=Bw ((mU c a%256) ^^^ x.toNat) ^^^ (mU c a / 256):=by rw[JZ];unfold mU;rw[List.foldl_cons,List.foldl_nil]
theorem MH {s:Nat}(h:s<4294967296)(b:List UInt8):PA s b<4294967296:=Bx (vL b (Bx h))
theorem J0 (b:List UInt8):MF b<4294967296:=MH (by decide) b

def fZ (n:Nat):List UInt8:=[UInt8.ofNat (n%256),UInt8.ofNat (n / 256%256),UInt8.ofNat (n / 65536%256),UInt8.ofNat (n / 16777216%256)]
def vM (m:Nat):List UInt8:=[31,139,8,0]++fZ m++[0,255]
def Do (b:List UInt8):List UInt8:=fZ (MF b)++fZ (b.length%4294967296)
def vo (b:List UInt8)(level mtime:Int):Int:=if mtime<0\/4294967295<mtime then 1 else jU b level
def iS (b:List UInt8)(level mtime:Int):List UInt8:=if vo b level mtime=0 then vM mtime.toNat++eJ b level++Do b else []
end GZ
namespace FD
open Go GZ
def jW:List UInt8:=[65,99,99,101,112,116,45,69,110,99,111,100,105,110,103]
def sG:List UInt8:=[67,111,110,116,101,110,116,45,69,110,99,111,100,105,110,103]
def mV:List UInt8:=[67,111,110,116,101,110,116,45,82,97,110,103,101]
def uW:List UInt8:=[67,111,110,116,101,110,116,45,84,121,112,101]
def By:List UInt8:=[67,111,110,116,101,110,116,45,76,101,110,103,116,104]
def K1:List UInt8:=[65,99,99,101,112,116,45,82,97,110,103,101,115]
def PB:List UInt8:=[67,97,99,104,101,45,67,111,110,116,114,111,108]
def gQ:List UInt8:=[86,97,114,121]
def Dp:List UInt8:=[69,84,97,103]
def jp:List UInt8:=[103,122,105,112]
def PC:List UInt8:=[120,45,103,122,105,112]
def EU:List UInt8:=[105,100,101,110,116,105,116,121]
def ol:List UInt8:=[42]
def Gg:List UInt8:=[116,101,120,116,47]
def J5:List UInt8:=[97,112,112,108,105,99,97,116,105,111,110,47,106,115,111,110]
def Sk:List UInt8:=[105,109,97,103,101,47,115,118,103,43,120,109,108]
def J6:List UInt8:=[110,111,45,116,114,97,110,115,102,111,114,109]
def sH (l:List Fd)(n:List UInt8):List UInt8:=rW [44] (bN l n)
theorem om {l:List Fd}(n:List UInt8)(hl:zF l<=1100000):(sH l n).length<=1500000/\(bN l n).length<=1048576:=by
 have h1:=vE l n
 have h2:=rV l n
 have h3:=rX l
 have h4:=G3 [44] (bN l n)
 simp only[List.length_cons,List.length_nil]at h4
 unfold sH
 omega
abbrev Ch:=List UInt8 × Int
def Dq (c:Ch):List UInt8:=if c.1=PC then jp else c.1
def jX (cs:List Ch)(n:List UInt8):Option Int:=(cs.find? fun c=>decide (Dq c=n)).map (·.2)
def K2 (cs:List Ch)(n:List UInt8)(o:Int):Int:=match jX cs n with
 |some q=>q
 |none=>match jX cs ol with
  |some q=>q
  |none=>o
theorem Dr (cs:List Ch)(c:Ch)(n:List UInt8):jX (cs++[c]) n=match jX cs n with
  |some q=>some q
  |none=>if Dq c=n then some c.2 else none:=by
 unfold jX
 rw[List.find?_append]
 cases cs.find? fun c=>decide (Dq c=n)with
 |some x=>rfl
 |none=>
  by_cases h:Dq c=n
  ·simp[h]
  ·simp[h]
def PE (l:List Fd):List Ch:=(sQ (gy (sH l jW))).1
def mK (l:List Fd):Bool:=decide (0<(bN l jW).length)&&decide ((sQ (gy (sH l jW))).2=0)&&(decide (0<K2 (PE l) jp 0)&&decide (K2 (PE l) EU 1<=K2 (PE l) jp 0))
def uX (l:List Fd):List UInt8:=if mK l then jp else EU
def Ds (X:List Fd):List UInt8:=dt (cf (cC 59 (dA X uW).1))
def EV (k:List UInt8):Bool:=decide (k.take 5=Gg)||decide (k=J5)||decide (k=Sk)
def Hr (X:List Fd):List Dir:=(sQ (wb (sH X PB))).1
def oo (st:Int)(X:List Fd)(D:List UInt8):Bool:=decide (st=200)&&decide (32<=D.length)&&(!(dA X sG).2&&!(dA X mV).2)&&EV (Ds X)&&!(Hr X).any fun d=>decide (d.name=J6)
def Hs (w:List UInt8):Bool:=decide (w=ol)||d8 w jW
def yQ (X:List Fd):List (List UInt8):=(bN X gQ).flatMap (vk 44)
def MI (X:List Fd):Bool:=(yQ X).any Hs
def cW (X:List Fd):List Fd:=if MI X then X else X++[(gQ,jW)]
def vN (f:Fd):Fd:=if(lQ f.2).2&&d8 f.1 Dp then(f.1,GH (true,(lQ f.2).1.2))else f
def mW (X:List Fd)(g:List UInt8):List Fd:=(fV X [By,K1]).map vN++[(sG,jp),(By,BO g.length)]
structure Rp where
 X:List Fd
 D:List UInt8
def fP (l:List Fd)(level st:Int)(X:List Fd)(D:List UInt8):Rp:=
 if(decide (1<=level)&&decide (level<=9))&&oo st X D then
  if mK l then if vo D level 0=0 then⟨mW (cW X) (iS D level 0),iS D level 0⟩else⟨cW X,D⟩
  else⟨cW X,D⟩
 else⟨X,D⟩
theorem xW {l:List Fd}{n:List UInt8}:(dA l n).2=false↔bN l n=[]:=by
 unfold dA
 cases bN l n with
 |nil=>simp
 |cons v r=>simp
theorem Bz {n:List UInt8}(hn:∀f:Fd,d8 f.1 n=true->d8 f.1 Dp=false):∀l:List Fd,bN (l.map vN) n=bN l n
 |[]=>rfl
 |f::r=>by
  have h1:(vN f).1=f.1:=by unfold vN;split <;> rfl
  have ih:=Bz hn r
  rw[List.map_cons,iu,iu,ih,h1]
  cases hc:d8 f.1 n with
  |false=>rfl
  |true=>
   have h2:=hn f hc
   have:vN f=f:=by unfold vN;rw[h2,Bool.and_false];rfl
   rw[this]
theorem sI {a b:List UInt8}:d8 a b=true↔dt a=dt b:=by
 unfold d8
 rw[Bool.and_eq_true,decide_eq_true_eq,decide_eq_true_eq]
 refine⟨fun h=>h.2,fun h=>⟨?_,h⟩⟩
 have:=congrArg List.length h
 simpa [dt]using this
theorem Gh {a n m:List UInt8}(h:dt n≠dt m)(ha:d8 a n=true):d8 a m=false:=by
 rw[Bool.eq_false_iff]
 intro hc
 exact h ((sI.1 ha).symm.trans (sI.1 hc))
theorem J7 {l:List Fd}{N:List (List UInt8)}{n:List UInt8}(h:∀m∈N,dt n≠dt m):bN (fV l N) n=bN l n:=by
 unfold bN fV
 rw[List.filter_filter]
 congr 1
 apply List.filter_congr
 intro f _
 cases hc:d8 f.1 n with
 |false=>rfl
 |true=>
  rw[Bool.true_and]
  unfold mF
  rw[Bool.not_eq_true',List.any_eq_false]
  intro m hm c
  exact h m hm ((sI.1 hc).symm.trans (sI.1 c))
theorem oq {n m v:List UInt8}:bN [(m,v)] n=if d8 m n then [v]else []:=by rw[iu];rfl
theorem Ht {X:List Fd}{n:List UInt8}(h:dt gQ≠dt n):bN (cW X) n=bN X n:=by
 have h0:d8 gQ n=false:=by rw[Bool.eq_false_iff];exact fun c=>h (sI.1 c)
 unfold cW
 split
 ·rfl
 ·rw[nP,oq,h0]
  simp
theorem PF {st:Int}{X:List Fd}{D:List UInt8}(h:oo st X D=true):bN X sG=[]:=by
 unfold oo at h
 simp only[Bool.and_eq_true,Bool.not_eq_true']at h
 exact xW.1 h.1.1.2.1
theorem J8 {l X:List Fd}{level st:Int}{D:List UInt8}(hce:bN X sG=[]):(bN (fP l level st X D).X sG=[]/\(fP l level st X D).D=D)\/(bN (fP l level st X D).X sG=[jp]/\mK l=true/\vo D level 0=0/\(fP l level st X D).D=iS D level 0/\bN (fP l level st X D).X By=[BO (iS D level 0).length]):=by
 have hv:bN (cW X) sG=[]:=by rw[Ht (by decide)];exact hce
 unfold fP
 split
 ·split
  ·rename_i c2
   split
   ·rename_i c3
    refine .inr ⟨?_,c2,c3,rfl,?_⟩
    ·unfold mW
     rw[nP,Bz (fun f hf=>Gh (by decide) hf),J7 (by intro m hm;simp at hm;rcases hm with rfl|rfl <;> decide),hv,iu,oq,if_pos (by decide),if_neg (by decide)]
     rfl
    ·unfold mW
     rw[nP,Bz (fun f hf=>Gh (by decide) hf),GV (m:=By) (by simp) rfl,iu,oq,if_neg (by decide),if_pos (by decide)]
     rfl
   ·exact .inl ⟨hv,rfl⟩
  ·exact .inl ⟨hv,rfl⟩
 ·exact .inl ⟨hce,rfl⟩
theorem BA {l X:List Fd}{level st:Int}{D:List UInt8}(h:level<1\/9<level\/oo st X D=false):fP l level st X D=⟨X,D⟩:=by
 unfold fP
 rw[if_neg]
 intro c
 simp only[Bool.and_eq_true,decide_eq_true_eq]at c
 rcases h with h|h|h
 ·omega
 ·omega
 ·rw[h]at c;exact absurd c.2 (by decide)
end FD
namespace Sl
open Go Go.RowKit Sh
theorem NQ {l m:List UInt8}:((⟨l.toArray⟩:ByteArray)==(⟨m.toArray⟩:ByteArray))=decide (l=m):=by
 rw[<- H_,beq_toListBytes]
theorem MJ {P:Program}{kt:TypeId}(hk:P.underlying kt=some .string):KeyLaw P kt bo where
 check:=fun b k w=>MapKept.run_checkKey (n:=9999) (d:= .string) hk (by simp[MapKept.IsKey,bo]) b
 eq:=fun k k' w=>by
  unfold bo Op.equal Op.maxDepth
  have:=run_equalIn_string (P:=P) (w:=w) 9999 kt ⟨k.toArray⟩ ⟨k'.toArray⟩ hk
  rw[this,H_]
 now:=⟨.string,hk,fun k k'=> .inr (by unfold bo;simp only[Instr.sameNow];rw[NQ])⟩
 same:=fun k=>by unfold bo;simp only[Instr.sameBits];rw[NQ];simp
end Sl
namespace FD
open Go Go.Proofs Go.RowKit Sh Sl T
theorem call {W:World}{l:List Fd}{n:List UInt8}{a:Option Addr}{c:Nat}{A:HP}(hA:nO W A a l)(hl:zF l<=1100000)(hn:n.length<=4194304):
  Cn p_ 34 [.slice a l.length c,bo n] W [A] (fun _:Unit=> .tuple #[bo (sH l n),.bool (decide (0<(bN l n).length))]) (fun _=>[A]):=by
 obtain⟨h1,h2⟩:=om n hl
 (refine S.As.cn fun F=>?_;unfold S.wt;simp only[ca_,na_])
 refine aH (AK (n:=n) hA (II (by omega)) hn) (.cons (by repeat constructor) .nil) fun r=>?_
 obtain⟨va,vc⟩:=r
 refine ay ?_
 (try dsimp only)
 unfold sH at *
 refine aH (join (sep:=[44]) (by decide) (by decide) (by omega) (by omega)) (.cons (by repeat constructor) .nil) fun _=>?_
 refine ay ?_
 refine o_ aN (o_ bq ?_)
 rw[show decide ((0:Int)<((bN l n).length:Int))=decide (0<(bN l n).length)from decide_eq_decide.2 (by omega)]
 refine bC () ?_
 exact aC
theorem MK {W:World}{l p:List UInt8}(hl:l.length<=4611686018427387904)(hp:p.length<=4611686018427387904):Cn p_ 60 [bo l,bo p] W [] (fun _:Unit=> .bool (decide (l.take p.length=p))) (fun _=>[]):=by
 (refine S.fU.cn fun F=>?_;unfold S.eF;simp only[ca_,na_])
 refine o_ cp (o_ cp (aF dg .nil (fun h=>?_) (fun h=>?_)))
 ·have h2:p.length<=l.length:=Int.ofNat_le.1 h
  refine ag (ag (ag (o_ cp (ag (o_ (v9 p.length rfl h2) ?_)))))
  refine ag (ag (o_ dE (o_ aq (bC () ?_))))
  exact aC
 ·have h2:l.length<p.length:=by simp at h;omega
  refine ah (ah (ah (ah (ah (ah (o_ ap ?_))))))
  rw[dF_ (fun e=>by have:=congrArg List.length e;rw[List.length_take]at this;omega)]
  refine bC () ?_
  exact aC
def jj (cs:List Ch)(n:List UInt8):Option Value:=(jX cs n).map fun q=> .int .i64 q
theorem J9:jj []=fun _=>none:=rfl
theorem zV {cs:List Ch}{n:List UInt8}:(jj cs n).isSome=(jX cs n).isSome:=by unfold jj;cases jX cs n <;> rfl
theorem J_ {cs:List Ch}{c:Ch}(h:(jj cs (Dq c)).isSome=true):jj (cs++[c])=jj cs:=by
 rw[zV]at h
 funext n
 show(jX (cs++[c]) n).map (fun q=>Value.int .i64 q)=(jX cs n).map fun q=>Value.int .i64 q
 rw[Dr]
 cases hw:jX cs n with
 |some q=>rfl
 |none=>
  by_cases e:Dq c=n
  ·subst e
   rw[hw]at h
   cases h
  ·simp[e]
theorem Ka {cs:List Ch}{c:Ch}(h:(jj cs (Dq c)).isSome=false):jj (cs++[c])=Hb (jj cs) (Dq c) (some (.int .i64 c.2)):=by
 rw[zV]at h
 funext n
 show(jX (cs++[c]) n).map (fun q=>Value.int .i64 q)=if n=Dq c then some (.int .i64 c.2)else(jX cs n).map fun q=>Value.int .i64 q
 rw[Dr]
 by_cases e:n=Dq c
 ·subst e
  cases hw:jX cs (Dq c)with
  |some q=>rw[hw]at h;cases h
  |none=>simp
 ·rw[if_neg e]
  cases hw:jX cs n with
  |some q=>rfl
  |none=>
   have e2:¬Dq c=n:=fun d=>e d.symm
   simp[e2]
theorem Gi {W:World}{n:List UInt8}{o:Int}{cs:List Ch}{gw g:Nat}:
  Cn p_ 36 [bo n,.int .i64 o,.pointer (some ⟨gw,0,none⟩)] W [pt gw (.cells #[.map (some g)] 65),fj g bo (jj cs)] (fun _:Unit=> .int .i64 (K2 cs n o)) (fun _=>[pt gw (.cells #[.map (some g)] 65),fj g bo (jj cs)]):=by
 (refine S.qZ.cn fun F=>?_;unfold S.mi;simp only[ca_,na_])
 refine o_ cu ?_
 refine bj (fun m y=>pu (∃i:Nat,m+i=2/\y= .int .i64 (i:Int)/\(1<=i->jX cs n=none)/\(2<=i->jX cs ol=none))::pt gw (.cells #[.map (some g)] 65)::fj g bo (jj cs)::F) 2 ?_ ?_
 ·refine .pu ⟨0,rfl,rfl,by omega,by omega⟩ ?_
  exact aC
 intro m ds y
 refine aT .here fun hi=>?_
 obtain⟨i,hmi,rfl,h1,h2⟩:=hi
 refine o_ aI ?_
 have hi2:i=0\/i=1\/i=2:=by omega
 rcases hi2 with rfl|rfl|rfl
 ·rw[dT_ (by decide)]
  refine ab (o_ (pj (v:=bo n) 0 rfl (by decide) rfl) ?_)
  refine ck ?_
  refine tN (MJ Tryz.underlying9) (by repeat constructor) ?_
  by_cases hs:∃q,jX cs n=some q
  ·obtain⟨q,hw⟩:=hs
   rw[show jj cs n=some (.int .i64 q) by unfold jj;rw[hw];rfl]
   simp only[Option.isSome_some,Option.getD_some]
   refine o_ (bS (v:= .int .i64 q) rfl) ?_
   refine o_ (bS (v:= .bool true) rfl) ?_
   refine ab (bf () (by unfold K2;rw[hw]) ?_)
   exact aC
  ·have hw:jX cs n=none:=by
    cases h:jX cs n with
    |none=>rfl
    |some q=>exact absurd ⟨q,h⟩ hs
   rw[show jj cs n=none by unfold jj;rw[hw];rfl]
   simp only[Option.isSome_none]
   refine o_ (bS (v:=_) rfl) ?_
   refine o_ (bS (v:= .bool false) rfl) ?_
   refine aa (bW ?_)
   refine aP (m-1) (by omega) (.pu ⟨1,by omega,rfl,fun _=>hw,by omega⟩ ?_)
   exact aC
 ·rw[dT_ (by decide)]
  refine ab (o_ (pj (v:=bo ol) 1 rfl (by decide) rfl) ?_)
  refine ck ?_
  refine tN (MJ Tryz.underlying9) (by repeat constructor) ?_
  by_cases hs:∃q,jX cs ol=some q
  ·obtain⟨q,hw⟩:=hs
   rw[show jj cs ol=some (.int .i64 q) by unfold jj;rw[hw];rfl]
   simp only[Option.isSome_some,Option.getD_some]
   refine o_ (bS (v:= .int .i64 q) rfl) ?_
   refine o_ (bS (v:= .bool true) rfl) ?_
   refine ab (bf () (by unfold K2;rw[h1 (by omega),hw]) ?_)
   exact aC
  ·have hw:jX cs ol=none:=by
    cases h:jX cs ol with
    |none=>rfl
    |some q=>exact absurd ⟨q,h⟩ hs
   rw[show jj cs ol=none by unfold jj;rw[hw];rfl]
   simp only[Option.isSome_none]
   refine o_ (bS (v:=_) rfl) ?_
   refine o_ (bS (v:= .bool false) rfl) ?_
   refine aa (bW ?_)
   refine aP (m-1) (by omega) (.pu ⟨2,by omega,rfl,fun _=>h1 (by omega),fun _=>hw⟩ ?_)
   exact aC
 ·rw[dF_ (by decide)]
  refine aa (bf () (by unfold K2;rw[h1 (by omega),h2 (by omega)]) ?_)
  exact aC
theorem ML {l:List Fd}(hl:zF l<=1100000):(PE l).length<=1500001:=by
 have h1:=(om jW hl).1
 have hn:=oH (q:=false) (e:=false) (l:=sH l jW)
 unfold PE gy fT
 split
 ·show(List.map _ _).length<=_
  rw[List.length_map];omega
 ·simp[sQ]
theorem choose {W : World} [hG : Gl W] {l : List Fd} {a : Option Addr} {c : Nat} {A : HP} (hA : nO W A a l) (hl : zF l <= 1100000) :
  Cn p_ 16 [.slice a l.length c] W [A] (fun _ : Unit => bo (uX l)) (fun _ => [A]) := by
 obtain ⟨h1, h2⟩ := om jW hl
 have hnum := ML hl
 (refine S.u5.cn fun F => ?_; unfold S.pp; simp only [ca_, na_])
 refine aH (call (n := jW) hA hl (by decide)) (.cons (by repeat constructor) .nil) fun _ => ?_
 (try simp only [ca_, na_, -eq_self])
 refine am (bS rfl) .nil ?_
 refine am (bS rfl) .nil ?_
 refine aH (LJ (l := sH l jW) (by omega)) .nil fun r => ?_
 obtain ⟨ra, rc⟩ := r
 (try simp only [ca_, na_, -eq_self])
 (try dsimp only)
 refine am (bS rfl) .nil ?_
 refine am (bS rfl) .nil ?_
 unfold uX mK
 rw [show (sQ (gy (sH l jW))).1 = PE l from rfl]
 cases hs : decide (0 < (bN l jW).length) with
 | false =>
  simp only [Bool.false_and, Bool.false_eq_true, if_false]
  refine am ee .nil ?_; refine aA ?_; refine aA ?_; refine am aq .nil ?_; refine ab ?_
  (first | refine bf (()) rfl ?_ | refine ed (()) ?_)
  (repeat (first | exact .refl | exact .nil | (apply Imp.pick; (focus ((repeat constructor); done))) | refine .drop ?_))
 | true =>
 refine am eT .nil ?_; refine ag ?_; refine ag ?_
 refine am eS .nil ?_
 by_cases he : (sQ (gy (sH l jW))).2 = 0
 rotate_left
 ·rw [dT_ he, dF_ he]
  simp only [Bool.and_false, Bool.false_and, Bool.false_eq_true, if_false]
  refine am ap .nil ?_; refine ab ?_
  (first | refine bf (()) rfl ?_ | refine ed (()) ?_)
  (repeat (first | exact .refl | exact .nil | (apply Imp.pick; (focus ((repeat constructor); done))) | refine .drop ?_))
 rw [dF_ (fun e => e he), dT_ he]
 simp only [Bool.true_and]
 obtain ⟨C, hC⟩ : ∃ C, C = PE l := ⟨_, rfl⟩
 rw [<- hC] at hnum ⊢
 refine am ap .nil ?_; refine aa ?_
 refine NE bo fun g => ?_
 rw [<- J9]
 refine dQ fun g => ?_; (((refine' fS ?hp ?ho ?_); (case hp => (repeat constructor)); (case ho => repeat constructor))); refine am aN .nil ?_
 rename Nat => gw
 refine aJ (by (repeat constructor) : Pick _ (Sl 2 67 ra rc C.length (C.flatMap ei)) _) fun _ _ _ hsl => ?_
 refine bj (fun m y => ex (fun i : Nat => all [pu (m + i = C.length /\ y = .int .i64 (i : Int)), fj g bo (jj (C.take i))]) :: Sl 2 67 ra rc C.length (C.flatMap ei) :: pt gw (.cells #[.map (some g)] 65) :: A :: F) C.length ?_ ?_
 ·refine .ex 0 (.all ?_)
  (try simp only [ca_, na_, -eq_self])
  refine .pu ⟨rfl, rfl⟩ ?_
  (repeat (first | exact .refl | exact .nil | (apply Imp.pick; (focus ((repeat constructor); done))) | refine .drop ?_))
 intro m ds y
 refine aX Pick.here fun i => aB Pick.here ?_
 (try simp only [ca_, na_, -eq_self])
 refine aT Pick.here fun hi => ?_
 obtain ⟨hmi, rfl⟩ := hi
 refine aF aI .nil (fun h => ?_) (fun h => ?_)
 ·have hin : i < C.length := by omega
  obtain ⟨ga, rfl⟩ := hsl (by omega)
  have hta := List.take_succ_eq_append_getElem hin
  refine ab ?_
  refine am (dx i rfl hin) .nil ?_
  refine am (GY hin rfl) (.pick (by repeat constructor) .nil) ?_
  obtain ⟨x, hx⟩ : ∃ x, x = C[i] := ⟨_, rfl⟩
  rw [<- hx] at hta ⊢
  obtain ⟨xn, xq⟩ := x
  unfold lX
  (try dsimp only)
  refine bm fun g => ?_; (((refine' bY ?hp ?hn ?hv ?h1 ?_); (case hp => (repeat constructor)); (case hn => rfl); (case hv => rfl); (case h1 => (intro u hu; simp at hu; rcases hu with rfl | rfl <;> rfl)))); refine am aw .nil ?_; (((refine' am (br ?hc) ?hi ?_); (case hi => exact .pick (by repeat constructor) .nil); (case hc => repeat constructor)))
  rename Nat => b9
  refine eR (fun z => pu (z = bo (Dq (xn, xq))) :: fj g bo (jj (C.take i)) :: Sl 2 67 (some ⟨ga, 0, none⟩) rc C.length (C.flatMap ei) :: pt gw (.cells #[.map (some g)] 65) :: pt b9 (.cells #[bo xn, .int .i64 xq] 67) :: A :: F) ?_ ?_
  rotate_left
  ·refine am (dE (m := PC)) .nil ?_
   by_cases hg : xn = PC
   ·rw [dT_ hg]
    refine ab ?_
    refine a_ (.pu (by unfold Dq; rw [if_pos hg]; rfl) ?_)
    (repeat (first | exact .refl | exact .nil | (apply Imp.pick; (focus ((repeat constructor); done))) | refine .drop ?_))
   ·rw [dF_ hg]
    refine aa ?_
    refine a_ (.pu (by unfold Dq; rw [if_neg hg]) ?_)
    (repeat (first | exact .refl | exact .nil | (apply Imp.pick; (focus ((repeat constructor); done))) | refine .drop ?_))
  intro ds2 z
  refine aT .here fun hz => ?_
  subst hz
  (((refine' am (br ?hc) ?hi ?_); (case hi => exact .pick (by repeat constructor) .nil); (case hc => repeat constructor)))
  refine tN (MJ Tryz.underlying9) (by repeat constructor) ?_
  refine am (bS (v := _) rfl) .nil ?_
  refine am (bS (v := .bool (jj (C.take i) (Dq (xn, xq))).isSome) rfl) .nil ?_
  cases hw : (jj (C.take i) (Dq (xn, xq))).isSome with
  | true =>
   refine am eT .nil ?_; refine aa ?_; (refine am (ct (by omega) (by omega)) .nil ?_)
   (try refine am (ct (by omega) (by omega)) .nil ?_)
   refine aP (m - 1) (by omega) (.ex (i + 1) (.all ?_))
   (try simp only [ca_, na_, -eq_self])
   rw [hta, J_ hw]
   refine .pu ⟨by omega, by norm_cast⟩ ?_
   (repeat (first | exact .refl | exact .nil | (apply Imp.pick; (focus ((repeat constructor); done))) | refine .drop ?_))
  | false =>
   refine am ee .nil ?_; refine ab ?_; (((refine' am (br ?hc) ?hi ?_); (case hi => exact .pick (by repeat constructor) .nil); (case hc => repeat constructor))); refine am aw .nil ?_; (((refine' am (br ?hc) ?hi ?_); (case hi => exact .pick (by repeat constructor) .nil); (case hc => repeat constructor)))
   refine O5 (MJ Tryz.underlying9) (by repeat constructor) ?_
   rw [<- Ka (c := (xn, xq)) hw, <- hta]
   refine am (ct (by omega) (by omega)) .nil ?_
   refine aP (m - 1) (by omega) (.ex (i + 1) (.all ?_))
   (try simp only [ca_, na_, -eq_self])
   refine .pu ⟨by omega, by norm_cast⟩ ?_
   (repeat (first | exact .refl | exact .nil | (apply Imp.pick; (focus ((repeat constructor); done))) | refine .drop ?_))
 ·have : i = C.length := by omega
  subst this
  rw [List.take_length]
  refine aa ?_
  refine am iB .nil ?_
  refine eg (cap := [.pointer (some ⟨gw, 0, none⟩)]) (Gi (n := jp) (o := 0) (cs := C)) (by (repeat (first | exact Picks.nil | (apply Picks.cons; (focus repeat constructor))))) fun _ => ?_
  (try simp only [ca_, na_, -eq_self])
  refine am bq .nil ?_
  by_cases q1 : 0 < K2 C jp 0
  rotate_left
  ·rw [dF_ q1]
   simp only [Bool.false_and, Bool.false_eq_true, if_false]
   refine ah ?_; refine ah ?_; refine ah ?_; refine ah ?_; refine am ap .nil ?_; refine aa ?_
   (first | refine bf (()) rfl ?_ | refine ed (()) ?_)
   (repeat (first | exact .refl | exact .nil | (apply Imp.pick; (focus ((repeat constructor); done))) | refine .drop ?_))
  rw [dT_ q1]
  simp only [Bool.true_and]
  refine ag ?_; refine ag ?_; refine ag ?_
  refine eg (cap := [.pointer (some ⟨gw, 0, none⟩)]) (Gi (n := EU) (o := 1) (cs := C)) (by (repeat (first | exact Picks.nil | (apply Picks.cons; (focus repeat constructor))))) fun _ => ?_
  (try simp only [ca_, na_, -eq_self])
  refine ag ?_
  refine am dg .nil ?_
  by_cases q2 : K2 C EU 1 <= K2 C jp 0
  ·rw [dT_ q2]
   simp only [if_true]
   refine am aq .nil ?_; refine ab ?_
   (first | refine bf (()) rfl ?_ | refine ed (()) ?_)
   (repeat (first | exact .refl | exact .nil | (apply Imp.pick; (focus ((repeat constructor); done))) | refine .drop ?_))
  ·rw [dF_ q2]
   simp only [Bool.false_eq_true, if_false]
   refine am aq .nil ?_; refine aa ?_
   (first | refine bf (()) rfl ?_ | refine ed (()) ?_)
   (repeat (first | exact .refl | exact .nil | (apply Imp.pick; (focus ((repeat constructor); done))) | refine .drop ?_))
theorem MM {W:World}{l p:List UInt8}(hl:l.length<=4611686018427387904)(hp:p.length<=4611686018427387904):Cn p_ 42 [bo l,bo p] W [] (fun _:Unit=> .bool (decide (l.take p.length=p))) (fun _=>[]):=by
 (refine S.oT.cn fun F=>?_;unfold S.kg;simp only[ca_,na_])
 refine c_ (MK hl hp) fun _=>?_
 refine bC () ?_
 exact aC
theorem Kb {X:List Fd}(hX:zF X<=1100000):(Hr X).length<=1500001:=by
 have h1:=(om PB hX).1
 have hn:=oH (q:=true) (e:=true) (l:=sH X PB)
 unfold Hr wb fT
 split
 ·show(List.map _ _).length<=_
  rw[List.length_map];omega
 ·simp[sQ]
theorem Hu {X:List Fd}{n:List UInt8}(hX:zF X<=1100000):(dA X n).1.length<=1100000:=by
 unfold dA
 split
 ·simp
 ·rename_i v r hv
  obtain⟨f,hf,rfl⟩:=IE (show v∈bN X n by rw[hv];exact List.mem_cons_self)
  have:=IH hf
  show f.2.length<=_
  omega
theorem Gj (c:UInt8):∀l:List UInt8,(cC c l).length<=l.length
 |[]=>Nat.le_refl _
 |x::r=>by
  have:=Gj c r
  unfold cC
  split
  ·simp
  ·simp only[List.length_cons];omega
theorem fit {W : World} {st : Int} {X : List Fd} {D : List UInt8} {ax ad : Option Addr} {cx cd : Nat} {A : HP} (hA : nO W A ax X) (hX : zF X <= 1100000) (hD : D.length <= 4611686018427387904) :
  Cn p_ 18 [.agg #[.int .i64 st, .slice ax X.length cx, .slice ad D.length cd]] W [A] (fun _ : Unit => .bool (oo st X D)) (fun _ => [A]) := by
 have hok := II (l := X) (by omega)
 have hfl := Hu (n := uW) hX
 obtain ⟨ha1, ha2⟩ := om PB hX
 have hnum := Kb hX
 (refine S.Ar.cn fun F => ?_; unfold S.wn; simp only [ca_, na_])
 refine cv fun b1 => ?_
 refine am aw .nil ?_; (((refine' am (br ?hc) ?hi ?_); (case hi => exact .pick (by repeat constructor) .nil); (case hc => repeat constructor)))
 refine am eS .nil ?_
 by_cases h1 : st = 200
 rotate_left
 ·rw [dT_ h1]
  refine aA ?_; refine aA ?_; refine aA ?_; refine aA ?_; refine am aq .nil ?_; refine ab ?_
  refine bf () (by unfold oo; rw [dF_ h1]; rfl) ?_
  (repeat (first | exact .refl | exact .nil | (apply Imp.pick; (focus ((repeat constructor); done))) | refine .drop ?_))
 rw [dF_ (fun e => e h1)]
 refine ag ?_; refine am aw .nil ?_; refine ag ?_; (((refine' am (br ?hc) ?hi ?_); (case hi => exact .pick (by repeat constructor) .nil); (case hc => repeat constructor))); refine ag ?_; refine am aN .nil ?_; refine ag ?_
 (try refine am aN .nil ?_)
 refine am aI .nil ?_
 by_cases h2 : (D.length : Int) < 32
 ·rw [dT_ h2]
  refine am ap .nil ?_; refine ab ?_
  refine bf () (by unfold oo; rw [dT_ h1, dF_ (show ¬ 32 <= D.length by omega)]; rfl) ?_
  (repeat (first | exact .refl | exact .nil | (apply Imp.pick; (focus ((repeat constructor); done))) | refine .drop ?_))
 rw [dF_ h2]
 have hfit : oo st X D = ((!(dA X sG).2 && !(dA X mV).2) && EV (Ds X) && !(Hr X).any fun d => decide (d.name = J6)) := by
  unfold oo
  rw [dT_ h1, dT_ (show 32 <= D.length by omega)]
  simp only [Bool.and_self, Bool.true_and]
 rw [hfit]
 refine am ap .nil ?_; refine aa ?_; refine am cu .nil ?_
 refine bj (fun m y => pu (∃ i : Nat, m + i = 2 /\ y = .int .i64 (i : Int) /\ (1 <= i -> (dA X sG).2 = false) /\ (2 <= i -> (dA X mV).2 = false)) :: A :: pt b1 (.cells #[.int .i64 st, .slice ax X.length cx, .slice ad D.length cd] 25) :: F) 2 ?_ ?_
 ·refine .pu ⟨0, rfl, rfl, by omega, by omega⟩ ?_
  (repeat (first | exact .refl | exact .nil | (apply Imp.pick; (focus ((repeat constructor); done))) | refine .drop ?_))
 intro m ds y
 refine aT .here fun hi => ?_
 obtain ⟨i, hmi, rfl, k1, k2⟩ := hi
 refine am aI .nil ?_
 have hi2 : i = 0 \/ i = 1 \/ i = 2 := by omega
 rcases hi2 with rfl | rfl | rfl
 ·rw [dT_ (by decide)]
  refine ab ?_
  refine am (pj (v := bo sG) 0 rfl (by decide) rfl) .nil ?_
  refine am aw .nil ?_; (((refine' am (br ?hc) ?hi ?_); (case hi => exact .pick (by repeat constructor) .nil); (case hc => repeat constructor)))
  refine aH (first (n := sG) hA hok (by decide)) (.cons (by repeat constructor) .nil) fun _ => ?_
  (try simp only [ca_, na_, -eq_self])
  (((refine' am (bJ ?hc) .nil ?_); (case hc => repeat constructor))); (((refine' am (bJ ?hc) .nil ?_); (case hc => repeat constructor)))
  cases hw : (dA X sG).2 with
  | true =>
   refine ab ?_
   (first | refine bf (()) rfl ?_ | refine ed (()) ?_)
   (repeat (first | exact .refl | exact .nil | (apply Imp.pick; (focus ((repeat constructor); done))) | refine .drop ?_))
  | false =>
   refine aa ?_; (refine am (ct (by omega) (by omega)) .nil ?_)
   refine aP (m - 1) (by omega) (.pu ⟨1, by omega, rfl, fun _ => rfl, by omega⟩ ?_)
   (repeat (first | exact .refl | exact .nil | (apply Imp.pick; (focus ((repeat constructor); done))) | refine .drop ?_))
 ·rw [dT_ (by decide)]
  refine ab ?_
  refine am (pj (v := bo mV) 1 rfl (by decide) rfl) .nil ?_
  refine am aw .nil ?_; (((refine' am (br ?hc) ?hi ?_); (case hi => exact .pick (by repeat constructor) .nil); (case hc => repeat constructor)))
  refine aH (first (n := mV) hA hok (by decide)) (.cons (by repeat constructor) .nil) fun _ => ?_
  (try simp only [ca_, na_, -eq_self])
  (((refine' am (bJ ?hc) .nil ?_); (case hc => repeat constructor))); (((refine' am (bJ ?hc) .nil ?_); (case hc => repeat constructor)))
  rw [k1 (by omega)]
  cases hw : (dA X mV).2 with
  | true =>
   refine ab ?_
   (first | refine bf (()) rfl ?_ | refine ed (()) ?_)
   (repeat (first | exact .refl | exact .nil | (apply Imp.pick; (focus ((repeat constructor); done))) | refine .drop ?_))
  | false =>
   refine aa ?_; (refine am (ct (by omega) (by omega)) .nil ?_)
   refine aP (m - 1) (by omega) (.pu ⟨2, by omega, rfl, fun _ => rfl, fun _ => rfl⟩ ?_)
   (repeat (first | exact .refl | exact .nil | (apply Imp.pick; (focus ((repeat constructor); done))) | refine .drop ?_))
 rw [dF_ (by decide)]
 rw [k1 (by omega), k2 (by omega)]
 simp only [Bool.not_false, Bool.and_self, Bool.true_and]
 refine aa ?_; refine am aw .nil ?_; (((refine' am (br ?hc) ?hi ?_); (case hi => exact .pick (by repeat constructor) .nil); (case hc => repeat constructor)))
 refine aH (first (n := uW) hA hok (by decide)) (.cons (by repeat constructor) .nil) fun _ => ?_
 (try simp only [ca_, na_, -eq_self])
 (((refine' am (bJ ?hc) .nil ?_); (case hc => repeat constructor))); (((refine' am (bJ ?hc) .nil ?_); (case hc => repeat constructor)))
 have hcl := Gj 59 (dA X uW).1
 have htl := m9 (cC 59 (dA X uW).1)
 refine aH (Lr (l := (dA X uW).1) (c := 59) (by omega)) .nil fun _ => ?_
 (try simp only [ca_, na_, -eq_self])
 (((refine' am (bJ ?hc) .nil ?_); (case hc => repeat constructor))); (((refine' am (bJ ?hc) .nil ?_); (case hc => repeat constructor))); (((refine' am (bJ ?hc) .nil ?_); (case hc => repeat constructor)))
 refine aH (Cu (l := cC 59 (dA X uW).1) (by omega)) .nil fun _ => ?_
 (try simp only [ca_, na_, -eq_self])
 refine aH (rP (l := cf (cC 59 (dA X uW).1)) (by omega)) .nil fun _ => ?_
 (try simp only [ca_, na_, -eq_self])
 rw [show dt (cf (cC 59 (dA X uW).1)) = Ds X from rfl]
 have hkl : (Ds X).length <= 1100000 := by
  show (dt (cf (cC 59 (dA X uW).1))).length <= _
  unfold dt
  rw [List.length_map]
  omega
 obtain ⟨kk, hkk⟩ : ∃ kk, kk = Ds X := ⟨_, rfl⟩
 rw [<- hkk] at hkl ⊢
 refine eR (fun z => pu (z = .bool (EV kk)) :: A :: pt b1 (.cells #[.int .i64 st, .slice ax X.length cx, .slice ad D.length cd] 25) :: F) ?_ ?_
 rotate_left
 ·refine aH (MM (l := kk) (p := Gg) (by omega) (by decide)) .nil fun _ => ?_
  (try simp only [ca_, na_, -eq_self])
  rw [show Gg.length = 5 from rfl]
  by_cases p1 : kk.take 5 = Gg
  ·rw [dT_ p1]
   refine ab ?_
   refine a_ (.pu (by unfold EV; rw [dT_ p1]; rfl) ?_)
   (repeat (first | exact .refl | exact .nil | (apply Imp.pick; (focus ((repeat constructor); done))) | refine .drop ?_))
  rw [dF_ p1]
  refine aa ?_
  refine am (dE (m := J5)) .nil ?_
  by_cases p2 : kk = J5
  ·rw [dT_ p2]
   refine ab ?_
   refine a_ (.pu (by unfold EV; rw [dT_ p2, Bool.or_true]; rfl) ?_)
   (repeat (first | exact .refl | exact .nil | (apply Imp.pick; (focus ((repeat constructor); done))) | refine .drop ?_))
  rw [dF_ p2]
  refine aa ?_
  refine am (dE (m := Sk)) .nil ?_
  refine a_ (.pu (by unfold EV; rw [dF_ p1, dF_ p2]; rfl) ?_)
  (repeat (first | exact .refl | exact .nil | (apply Imp.pick; (focus ((repeat constructor); done))) | refine .drop ?_))
 intro ds2 z
 refine aT .here fun hz => ?_
 subst hz
 cases hkn : EV kk with
 | false =>
  simp only [Bool.false_and]
  refine aa ?_
  (first | refine bf (()) rfl ?_ | refine ed (()) ?_)
  (repeat (first | exact .refl | exact .nil | (apply Imp.pick; (focus ((repeat constructor); done))) | refine .drop ?_))
 | true =>
 simp only [Bool.true_and]
 refine ab ?_; refine am aw .nil ?_; (((refine' am (br ?hc) ?hi ?_); (case hi => exact .pick (by repeat constructor) .nil); (case hc => repeat constructor)))
 refine aH (call (n := PB) hA hX (by decide)) (.cons (by repeat constructor) .nil) fun _ => ?_
 (try simp only [ca_, na_, -eq_self])
 (((refine' am (bJ ?hc) .nil ?_); (case hc => repeat constructor))); (((refine' am (bJ ?hc) .nil ?_); (case hc => repeat constructor)))
 refine aH (Ex (l := sH X PB) (by omega)) .nil fun r => ?_
 obtain ⟨ra, rc⟩ := r
 (try simp only [ca_, na_, -eq_self])
 (try dsimp only)
 (((refine' am (bJ ?hc) .nil ?_); (case hc => repeat constructor))); (((refine' am (bJ ?hc) .nil ?_); (case hc => repeat constructor))); refine am aN .nil ?_
 rw [show (sQ (wb (sH X PB))).1 = Hr X from rfl]
 obtain ⟨C, hC⟩ : ∃ C, C = Hr X := ⟨_, rfl⟩
 rw [<- hC] at hnum ⊢
 (try refine am aN .nil ?_)
 refine aJ (by (repeat constructor) : Pick _ (Sl 3 78 ra rc C.length (C.flatMap rT)) _) fun _ _ _ hsl => ?_
 refine bj (fun m y => pu (∃ i : Nat, m + i = C.length /\ y = .int .i64 (i : Int) /\ (C.take i).any (fun d => decide (d.name = J6)) = false) :: Sl 3 78 ra rc C.length (C.flatMap rT) :: A :: F) C.length ?_ ?_
 ·refine .pu ⟨0, rfl, rfl, rfl⟩ ?_
  (repeat (first | exact .refl | exact .nil | (apply Imp.pick; (focus ((repeat constructor); done))) | refine .drop ?_))
 intro m2 ds3 y2
 refine aT .here fun hi => ?_
 obtain ⟨i, hmi2, rfl, hno⟩ := hi
 refine aF aI .nil (fun h => ?_) (fun h => ?_)
 ·have hin : i < C.length := by omega
  obtain ⟨ga, rfl⟩ := hsl (by omega)
  have hta := List.take_succ_eq_append_getElem hin
  refine ab ?_
  refine am (dx i rfl hin) .nil ?_
  refine am (OQ hin rfl) (.pick (by repeat constructor) .nil) ?_
  have hmem := List.getElem_mem hin
  obtain ⟨x, hx⟩ : ∃ x, x = C[i] := ⟨_, rfl⟩
  rw [<- hx] at hta hmem ⊢
  obtain ⟨xn, xv, xh⟩ := x
  unfold Eu
  refine bm fun g => ?_; (((refine' bY ?hp ?hn ?hv ?h1 ?_); (case hp => (repeat constructor)); (case hn => rfl); (case hv => rfl); (case h1 => (intro u hu; simp at hu; rcases hu with rfl | rfl | rfl <;> rfl)))); refine am aw .nil ?_; (((refine' am (br ?hc) ?hi ?_); (case hi => exact .pick (by repeat constructor) .nil); (case hc => repeat constructor)))
  refine am (dE (m := J6)) .nil ?_
  by_cases hg : xn = J6
  ·rw [dT_ hg]
   refine ab ?_
   refine bf () (by rw [List.any_eq_true.2 ⟨_, hmem, dT_ hg⟩]; rfl) ?_
   (repeat (first | exact .refl | exact .nil | (apply Imp.pick; (focus ((repeat constructor); done))) | refine .drop ?_))
  ·rw [dF_ hg]
   refine aa ?_; (refine am (ct (by omega) (by omega)) .nil ?_)
   (try refine am (ct (by omega) (by omega)) .nil ?_)
   refine aP (m2 - 1) (by omega) (.pu ⟨i + 1, by omega, by norm_cast, by rw [hta, List.any_append, hno]; simp [hg]⟩ ?_)
   (repeat (first | exact .refl | exact .nil | (apply Imp.pick; (focus ((repeat constructor); done))) | refine .drop ?_))
 ·have : i = C.length := by omega
  subst this
  rw [List.take_length] at hno
  rw [hno]
  refine aa ?_
  (first | refine bf (()) rfl ?_ | refine ed (()) ?_)
  (repeat (first | exact .refl | exact .nil | (apply Imp.pick; (focus ((repeat constructor); done))) | refine .drop ?_))
theorem PG {W:World}{X:List Fd}{a:Option Addr}{c:Nat}:Cn p_ 49 [.slice a X.length c] W [] (fun b:Nat=> .func (.func 78) #[] [.pointer (some ⟨b,0,none⟩)].toArray) (fun b=>[pt b (.cells #[.slice a X.length c] 22)]):=by
 (refine S.u6.cn fun F=>?_;unfold S.pq;simp only[ca_,na_])
 refine fK fun b=>?_
 refine o_ iB (bC b ?_)
 exact .refl
def Hv (V:List (List UInt8))(i:Nat):Nat:=((V.take i).flatMap (vk 44)).length
theorem Kc {V:List (List UInt8)}{i:Nat}(h:i<V.length):Hv V (i+1)=Hv V i+(vk 44 V[i]).length:=by
 unfold Hv
 rw[List.take_succ_eq_append_getElem h,List.flatMap_append,List.length_append]
 simp
theorem MN (V:List (List UInt8)):Hv V V.length=(V.flatMap (vk 44)).length:=by unfold Hv;rw[List.take_length]
theorem MO {V:List (List UInt8)}{i j:Nat}(h:i<V.length)(hj:j<(vk 44 V[i]).length):(V.flatMap (vk 44))[Hv V i+j]? =some (vk 44 V[i])[j]:=by
 have e:V=V.take i++V[i]::V.drop (i+1):=by
  rw[<- List.drop_eq_getElem_cons h,List.take_append_drop]
 have e2:V.flatMap (vk 44)=(V.take i).flatMap (vk 44)++(vk 44 V[i]++(V.drop (i+1)).flatMap (vk 44)):=by
  conv=>lhs;rw[e]
  rw[List.flatMap_append,List.flatMap_cons]
 rw[e2,List.getElem?_append_right (by unfold Hv;omega),show Hv V i+j-((V.take i).flatMap (vk 44)).length=j by unfold Hv;omega,List.getElem?_append_left hj,List.getElem?_eq_getElem hj]
def BB (X:List Fd):List (List Value):=(yQ X).map fun w=>[bo w]
theorem xX (X:List Fd):(BB X).length=(yQ X).length:=by unfold BB;rw[List.length_map]
theorem MP {W : World} {X : List Fd} {a : Option Addr} {c bl l : Nat} {A : HP} {G : Nat -> HP} {Gx T T' : HP} (hA : nO W A a X) (hX : zF X <= 2097152)
  (hy : m0 p_ l (BB X) (fun k => all [T, all [pt bl (.cells #[.slice a X.length c] 22), A, G k]]) (all [T', Gx]) W) :
  Cn p_ 78 [yv l, .pointer (some ⟨bl, 0, none⟩)] W [all [T, all [pt bl (.cells #[.slice a X.length c] 22), A, G 0]]] (fun _ : Bool => .tuple #[]) (fun b => [if b then all [T, all [pt bl (.cells #[.slice a X.length c] 22), A, G (yQ X).length]] else all [T', Gx]]) := by
 have hok := II (l := X) (by omega)
 have hzl := rX X
 have hvl := rV X gQ
 have hz2 := vE X gQ
 (refine S.ri.cn fun F => ?_; unfold S.mo; simp only [ca_, na_])
 refine aB .here ?_
 (try simp only [ca_, na_, -eq_self])
 refine aB (.there .here) ?_
 (try simp only [ca_, na_, -eq_self])
 (((refine' am (br ?hc) ?hi ?_); (case hi => exact .pick (by repeat constructor) .nil); (case hc => repeat constructor)))
 refine aH (AK (n := gQ) hA hok (by decide)) (.cons (by repeat constructor) .nil) fun r => ?_
 obtain ⟨va, vc⟩ := r
 (try simp only [ca_, na_, -eq_self])
 (try dsimp only)
 unfold yQ at *
 obtain ⟨V, hV⟩ : ∃ V, V = bN X gQ := ⟨_, rfl⟩
 have hyV : ∀ k, (BB X)[k]? = ((V.flatMap (vk 44))[k]?).map fun w => [bo w] := fun k => by rw [hV]; unfold BB yQ; rw [List.getElem?_map]
 rw [<- hV] at hvl hz2 ⊢
 refine am aN .nil ?_
 refine aJ (by (repeat constructor) : Pick _ (Sl 1 9 va vc V.length (V.map bo)) _) fun _ _ _ hs => ?_
 have hN : RdB W (Sl 1 9 va vc V.length (V.map bo)) va V.length (V.map bo) := dh (by rw [List.length_map]) hs
 refine bj (fun m y => [ex fun i : Nat => all [pu (m + i = V.length /\ y = .int .i64 (i : Int)), all [T, all [pt bl (.cells #[.slice a X.length c] 22), A, G (Hv V i)]]], Sl 1 9 va vc V.length (V.map bo)] ++ F) V.length ?_ ?_
 ·refine .ex 0 (.all ?_)
  (try simp only [ca_, na_, -eq_self])
  refine .pu ⟨by omega, rfl⟩ (.all ?_)
  (try simp only [ca_, na_, -eq_self])
  refine .pick (by repeat constructor) (.all ?_)
  (try simp only [ca_, na_, -eq_self])
  (repeat (first | exact .refl | exact .nil | (apply Imp.pick; (focus ((repeat constructor); done))) | refine .drop ?_))
 intro m ds y
 (try simp only [ca_, na_, -eq_self])
 refine aX Pick.here fun i => aB Pick.here ?_
 (try simp only [ca_, na_, -eq_self])
 refine aT Pick.here fun hi => ?_
 obtain ⟨hmi, rfl⟩ := hi
 refine aF aI .nil (fun h => ?_) (fun h => ?_)
 ·have hin : i < V.length := by omega
  have hzm := Ew (List.getElem_mem hin)
  obtain ⟨ng, rfl⟩ := hs (by omega)
  refine ab ?_
  refine am (bA i rfl hin) .nil ?_
  refine am (AN hN hin) (.pick (by repeat constructor) .nil) ?_
  refine aH (split (l := V[i]) (c := 44) (by omega)) .nil fun r => ?_
  obtain ⟨wa, wc⟩ := r
  (try simp only [ca_, na_, -eq_self])
  (try dsimp only)
  have hPl := (vF 44 _ V[i] (Nat.le_refl _)).1
  obtain ⟨P, hP⟩ : ∃ P, P = vk 44 V[i] := ⟨_, rfl⟩
  have hosu := Kc hin
  have hget : ∀ j (hj : j < P.length), (BB X)[Hv V i + j]? = some [bo P[j]] := fun j hj => by
   subst hP
   rw [hyV, MO hin hj]
   rfl
  rw [<- hP] at hosu hPl ⊢
  refine am aN .nil ?_
  refine aJ (by (repeat constructor) : Pick _ (Sl 1 9 wa wc P.length (P.map bo)) _) fun _ _ _ hs2 => ?_
  have hN2 : RdB W (Sl 1 9 wa wc P.length (P.map bo)) wa P.length (P.map bo) := dh (by rw [List.length_map]) hs2
  refine bj (fun m y => [ex fun j : Nat => all [pu (m + j = P.length /\ y = .int .i64 (j : Int)), all [T, all [pt bl (.cells #[.slice a X.length c] 22), A, G (Hv V i + j)]]], Sl 1 9 wa wc P.length (P.map bo), Sl 1 9 (some ⟨ng, 0, none⟩) vc V.length (V.map bo)] ++ F) P.length ?_ ?_
  ·refine .ex 0 (.all ?_)
   (try simp only [ca_, na_, -eq_self])
   refine .pu ⟨by omega, rfl⟩ ?_
   (repeat (first | exact .refl | exact .nil | (apply Imp.pick; (focus ((repeat constructor); done))) | refine .drop ?_))
  intro m2 ds2 y2
  (try simp only [ca_, na_, -eq_self])
  refine aX Pick.here fun j => aB Pick.here ?_
  (try simp only [ca_, na_, -eq_self])
  refine aT Pick.here fun hi => ?_
  obtain ⟨hmj, rfl⟩ := hi
  refine aF aI .nil (fun h2 => ?_) (fun h2 => ?_)
  ·have hjn : j < P.length := by omega
   obtain ⟨pg, rfl⟩ := hs2 (by omega)
   refine ab ?_
   refine am (bA j rfl hjn) .nil ?_
   refine am (AN hN2 hjn) (.pick (by repeat constructor) .nil) ?_
   refine ka hy (Hv V i + j) (hget j hjn) .here ?_ ?_
   ·refine am eT .nil ?_
    refine aa ?_; (refine am (ct (by omega) (by omega)) .nil ?_)
    (try refine am (ct (by omega) (by omega)) .nil ?_)
    refine aP (m2 - 1) (by omega) (.ex (j + 1) (.all ?_))
    (try simp only [ca_, na_, -eq_self])
    refine .pu ⟨by omega, by norm_cast⟩ ?_
    rw [Nat.add_assoc]
    (repeat (first | exact .refl | exact .nil | (apply Imp.pick; (focus ((repeat constructor); done))) | refine .drop ?_))
   ·refine am ee .nil ?_
    refine ab ?_
    (first | refine bf (false) rfl ?_ | refine ed (false) ?_)
    (repeat (first | exact .refl | exact .nil | (apply Imp.pick; (focus ((repeat constructor); done))) | refine .drop ?_))
  ·have : j = P.length := by omega
   subst this
   refine aa ?_
   refine am (ct (by omega) (by omega)) .nil ?_
   refine aP (m - 1) (by omega) (.ex (i + 1) (.all ?_))
   (try simp only [ca_, na_, -eq_self])
   rw [hosu]
   refine .pu ⟨by omega, by norm_cast⟩ ?_
   (repeat (first | exact .refl | exact .nil | (apply Imp.pick; (focus ((repeat constructor); done))) | refine .drop ?_))
 ·have : i = V.length := by omega
  subst this
  rw [MN]
  refine aa ?_
  (first | refine bf (true) rfl ?_ | refine ed (true) ?_)
  (repeat (first | exact .refl | exact .nil | (apply Imp.pick; (focus ((repeat constructor); done))) | refine .drop ?_))
theorem MQ {X:List Fd}(hX:zF X<=2097152):∀w∈yQ X,w.length<=2097152:=fun w hw=>by
 obtain⟨v,hv,h⟩:=List.mem_flatMap.1 hw
 have h1:=(vF 44 _ v (Nat.le_refl _)).2 w h
 have h2:=Ew hv
 have h3:=vE X gQ
 omega
theorem UU {W:World}{o:Nat}{st:Int}{X:List Fd}{a:Option Addr}{c:Nat}{bd:Value}[OC bd](hX:zF X<=1100000):
  Cn p_ 30 [.pointer (some ⟨o,0,none⟩)] W [pt o (.cells #[.int .i64 st,.slice a X.length c,bd] 25),Sl 2 52 a c X.length (X.flatMap dH)] (fun _:Option Addr × Nat=> .bool true)
   (fun q=>[pt o (.cells #[.int .i64 st,.slice q.1 (cW X).length q.2,bd] 25),Sl 2 52 q.1 q.2 (cW X).length ((cW X).flatMap dH)]):=by
 have hzl:=rX X
 have hlw:=MQ (X:=X) (by omega)
 (refine S.yA.cn fun F=>?_;unfold S.uB;simp only[ca_,na_])
 refine dQ fun b2=>?_
 refine aJ (by(repeat constructor):Pick _ (Sl 2 52 a c X.length (X.flatMap dH)) _) fun _ _ _ hs=>?_
 refine o_ aW (o_ aw (ck ?_))
 refine aH PG .nil fun bl=>?_
 refine ay ?_
 refine GG (f:=78) (cap:=[.pointer (some ⟨bl,0,none⟩)]) (BB X)
  (fun k=>all [pt bl (.cells #[.slice a X.length c] 22),Sl 2 52 a c X.length (X.flatMap dH),all [pu (((yQ X).take k).any Hs=false),pt b2 (.cells #[.bool false] 4),pt o (.cells #[.int .i64 st,.slice a X.length c,bd] 25),all F]])
  (all [pu (MI X=true),Sl 2 52 a c X.length (X.flatMap dH),pt b2 (.cells #[.bool true] 4),pt o (.cells #[.int .i64 st,.slice a X.length c,bd] 25),all F]) rfl ?_ ?_ ?_ ?_ ?_ ?_
 ·intro x hx
  obtain⟨k,_,rfl⟩:=List.mem_map.1 hx
  rfl
 ·refine .all ?_
  refine ay ?_
  refine .pick (by repeat constructor) (.pick (by repeat constructor) (.all ?_))
  refine ay ?_
  refine .pu rfl ?_
  refine .pick (by repeat constructor) (.pick (by repeat constructor) (.all ?_))
  rw[List.append_nil]
  exact .refl
 ·intro l T T' hy
  rw[xX]
  exact MP (je hs) (by omega) hy
 ·intro k hk F2 T0 T1 B N J hB hN hJ
  rw[xX]at hk
  obtain⟨w,hw⟩:∃w,w=(yQ X)[k]:=⟨_,rfl⟩
  have e0:∀h,(BB X)[k]'h=[bo w]:=fun h=>by rw[hw];simp[BB]
  have hmem:w∈yQ X:=by rw[hw];exact List.getElem_mem hk
  have hwl:=hlw w hmem
  have hta:=List.take_succ_eq_append_getElem hk
  rw[<- hw]at hta
  rw[e0]
  simp only[kU,List.headD_cons,List.tail_cons]
  refine aB (.there .here) ?_
  refine ay ?_
  refine aB (.there (.there .here)) ?_
  refine ay ?_
  refine aT .here fun hp=>?_
  refine hB _ _ _ (by repeat constructor) ?_
  have AV:Hs w=true->MI X=true:=fun h=>List.any_eq_true.2 ⟨w,hmem,h⟩
  refine o_ (dE (m:=ol)) ?_
  by_cases h1:w=ol
  ·rw[dT_ h1]
   refine aA (aA (o_ aq (ab (fX ?_))))
   refine hJ _ ?_
   refine .pick (by repeat constructor) (.all ?_)
   refine ay ?_
   refine .pu (AV (by unfold Hs;rw[dT_ h1];rfl)) ?_
   exact aC
  rw[dF_ h1]
  refine ag (ag (aH (equal (a:=w) (b:=jW) (by omega) (by decide)) .nil fun _=>?_))
  refine ay ?_
  cases h2:d8 w jW with
  |true=>
   refine o_ ap (ab (fX ?_))
   refine hJ _ ?_
   refine .pick (by repeat constructor) (.all ?_)
   refine ay ?_
   refine .pu (AV (by unfold Hs;rw[h2,Bool.or_true])) ?_
   exact aC
  |false=>
   refine o_ ap (aa (hN _ ?_))
   refine .pick (by repeat constructor) (.all ?_)
   refine ay ?_
   refine .pick (by repeat constructor) (.pick (by repeat constructor) (.all ?_))
   refine ay ?_
   refine .pu (by rw[hta,List.any_append,hp];simp[Hs,h1,h2]) ?_
   exact aC
 ·intro d
  refine aB (.there .here) ?_
  refine ay ?_
  refine aB (.there (.there .here)) ?_
  refine ay ?_
  refine aT .here fun hp=>?_
  rw[xX,List.take_length]at hp
  have hv:cW X=X++[(gQ,jW)]:=by
   unfold cW MI
   rw[hp]
   rfl
  rw[hv]
  refine o_ aW (o_ aw (ck ?_));refine o_ cu ?_
  refine fp (n:=1) (vs:=[AI (gQ,jW)]) rfl (by decide) rfl (by intro v hv;rw[List.mem_singleton.1 hv];rfl) (by decide) fun gb=>?_
  refine co (m:=1) (news:=dH (gQ,jW)) (by repeat constructor) (dq (s:=2) (e':=52) (by kernel_rfl) .here (by rfl) (by intro u hu;simp[AI,Value.cells]at hu;rcases hu with rfl|rfl <;> rfl)) (by omega) (by omega) fun a' c'=>?_
  rw[show X.length+1=(X++[(gQ,jW)]).length by simp,show X.flatMap dH++dH (gQ,jW)=(X++[(gQ,jW)]).flatMap dH by simp]
  refine o_ aW (o_ aw (fX ?_));refine fX ?_
  refine Ai (by repeat constructor) ?_
  (((refine' aQ (cJ ?hc) ?hi ?_);(case hi=>exact aC);(case hc=>repeat constructor)))
  refine m6 (M:=[pt o (.cells #[.int .i64 st,.slice a' (X++[(gQ,jW)]).length c',bd] 25),Sl 2 52 a' c' (X++[(gQ,jW)]).length ((X++[(gQ,jW)]).flatMap dH)]) (F:=F) aC ?_
  refine bf (a',c') rfl ?_
  exact aC
 ·intro d
  refine aB (.there .here) ?_
  refine ay ?_
  refine aT .here fun hp=>?_
  have hv:cW X=X:=by unfold cW;rw[hp];rfl
  rw[hv]
  refine Ai (by repeat constructor) ?_
  (((refine' aQ (cJ ?hc) ?hi ?_);(case hi=>exact aC);(case hc=>repeat constructor)))
  refine m6 (M:=[pt o (.cells #[.int .i64 st,.slice a X.length c,bd] 25),Sl 2 52 a c X.length (X.flatMap dH)]) (F:=F) aC ?_
  refine bf (a,c) rfl ?_
  exact aC
end FD
namespace Sl
open Go Go.RowKit Sh
variable {P:Program} {W:World} {L L':List HP} {Kp:PK} {k:Value->WP}
variable {κ:Type} [DecidableEq κ] {enc:κ->Value} {t kt:TypeId}
def Dt (g:Nat)(enc:κ->Value)(m:List (κ × Value))(i c0:Nat):HP:=fun _ h=>∃es c,h g=some (.map es c)/\Ents enc es c m/\(es[i]?).map (·.born)=some c0
theorem Hw {g:Nat}{m:List (κ × Value)}{i c0:Nat}{w:World}(H:sat W (Dt g enc m i c0::L) w):∃es c,Ents enc es c m/\(es[i]?).map (·.born)=some c0/\sat W (pt g (.map es c)::L) w:=by
 obtain⟨f,⟨h1,h2,⟨es,c,ha,he,hi⟩,r⟩,b⟩:=H.heap
 exact⟨es,c,he,hi,H.base,f,⟨h1,h2,ha,r⟩,b⟩
theorem xY {g:Nat}{m:List (κ × Value)}{i c0:Nat}{w:World}{es:Array MapEntry}{c:Nat}(he:Ents enc es c m)(hi:(es[i]?).map (·.born)=some c0)(H:sat W (pt g (.map es c)::L) w):sat W (Dt g enc m i c0::L) w:=by
 obtain⟨f,⟨h1,h2,ha,r⟩,b⟩:=H.heap
 exact⟨H.base,f,⟨h1,h2,⟨es,c,ha,he,hi⟩,r⟩,b⟩
theorem Kd {e:TypeId} {z:Value} {g:Nat} {m:List (κ × Value)} {q:κ} [ht:MapT P t kt e] [hz:ZeroT P e z] (K:KeyLaw P kt enc) (p:Pick L (iD g enc m) L')
  (h:∀i c0,(iE q ((kG q m).getD z) m)[i]? =some (q,(kG q m).getD z)->be W (Dt g enc (iE q ((kG q m).getD z) m) i c0::L') (k (.tuple #[(kG q m).getD z,.int .i64 (c0:Int)]))):be W L (opN P (lL t (.map (some g)) (enc q)) Kp k):=fun w hw=>by
 obtain⟨es,c,he,hp⟩:=qP (hw.pick p)
 have hg:=hp.pt_.1
 have hf:=ke K q w he.kvs
 refine⟨?_⟩
 cases hq:u4 q m 0 with
 |none=>
  have e0:(kG q m).getD z=z:=by simp[kG,hq]
  rw[e0]at h
  have:(lL t (.map (some g)) (enc q)).run P w= .ok (.value (.tuple #[z,.int .i64 (c:Int)])) {w with heap:=w.heap.setIfInBounds g (.map (es.push {key:=enc q,val:=z,born:=c}) (c+1))}:=by
   simp[lL,Instr.mapEntry,run_underlying ht.ut,MapKept.run_getObj_map hg,K.check,hf,hq,hz.run,Result.andThen,MapKept.run_setObj_map _ hg,goInt]
  rw[this]
  have hl:=congrArg List.length he.kvs
  simp only[List.length_map,Array.length_toList]at hl
  rw[sZ q z m 0 hq]at h
  refine h es.size c ?_ _ (xY he.push ?_ (hp.putObj _))
  ·rw[hl,List.getElem?_append_right (Nat.le_refl _),Nat.sub_self];rfl
  ·simp
 |some r=>
  obtain⟨i,u⟩:=r
  obtain⟨_,h2,h3,h4⟩:=s9 q u m 0 i u hq
  rw[Nat.sub_zero]at h2 h3 h4
  have e0:(kG q m).getD z=u:=by simp[kG,hq]
  rw[e0]at h
  obtain⟨en,hen,e1,e2⟩:=vw he.kvs h4
  have hk:(Instr.keyThatStays en.key (enc q)).run P w= .ok (enc q) w:=by
   rw[e1]
   unfold Instr.keyThatStays
   rw[if_pos (K.same q)];rfl
  have em:(es.modify i fun e=>{e with key:=enc q})=es.modify i fun e=>{e with key:=enc q,val:=u}:=by
   apply Array.ext_getElem?
   intro j
   rw[Array.getElem?_modify,Array.getElem?_modify]
   by_cases c:i=j
   ·subst c
    rw[if_pos rfl,if_pos rfl,hen]
    simp only[Option.map_some,Option.some.injEq]
    simp only at e2;rw[e2]
   ·rw[if_neg c,if_neg c]
  have:(lL t (.map (some g)) (enc q)).run P w= .ok (.value (.tuple #[u,.int .i64 (en.born:Int)])) {w with heap:=w.heap.setIfInBounds g (.map (es.modify i fun e=>{e with key:=enc q,val:=u}) c)}:=by
   rw[<- em]
   simp[lL,Instr.mapEntry,run_underlying ht.ut,MapKept.run_getObj_map hg,K.check,hf,hq,Result.andThen,hk,MapKept.run_setObj_map _ hg,goInt,hen]
  rw[this]
  have hset:iE q u m=m:=by
   rw[h3]
   apply List.ext_getElem?
   intro j
   rw[List.getElem?_set]
   split
   ·rename_i c;subst c
    have:=(List.getElem?_eq_some_iff.1 h4).2
    simp[h2,this]
   ·rfl
  have Ja:=he.put (v:=u) h4
  rw[<- h3]at Ja
  refine h i en.born ?_ _ (xY Ja ?_ (hp.putObj _))
  ·rw[hset];exact h4
  ·rw[Array.getElem?_modify,if_pos rfl,hen];rfl
theorem MR {g:Nat}{m:List (κ × Value)}{q:κ}{u v:Value}{i c0:Nat}(hi:m[i]? =some (q,u))(p:Pick L (Dt g enc m i c0) L')(h:be W (iD g enc (m.set i (q,v))::L') (k undef)):
  be W L (opN P (vU t (.map (some g)) (.int .i64 (c0:Int)) v) Kp k):=fun w hw=>by
 obtain⟨es,c,he,hb,hp⟩:=Hw (hw.pick p)
 have hg:=hp.pt_.1
 obtain⟨en,hen,e1,e2⟩:=vw he.kvs hi
 rw[hen]at hb
 have hb:en.born=c0:=by simpa using hb
 have hf:es.findIdx? (fun e=>(e.born:Int)==(c0:Int))=some i:=by
  rw[Array.findIdx?_eq_some_iff_getElem]
  obtain⟨hlt,hgi⟩:=Array.getElem?_eq_some_iff.1 hen
  refine⟨hlt,by simp[hgi,hb],fun j hj=>?_⟩
  have hnd:=he.nodup
  rw[List.nodup_iff_pairwise_ne,List.pairwise_iff_getElem]at hnd
  have:=hnd j i (by simp;omega) (by simp;omega) hj
  simp only[List.getElem_map,Array.getElem_toList,hgi,hb]at this
  simp only[beq_iff_eq,Bool.not_eq_true]
  simp;omega
 refine⟨?_⟩
 have em:(es.modify i fun e=>{e with val:=v})=es.modify i fun e=>{e with key:=enc q,val:=v}:=by
  apply Array.ext_getElem?
  intro j
  rw[Array.getElem?_modify,Array.getElem?_modify]
  by_cases c:i=j
  ·subst c
   rw[if_pos rfl,if_pos rfl,hen]
   simp only[Option.map_some,Option.some.injEq]
   simp only at e1;rw[e1]
  ·rw[if_neg c,if_neg c]
 have:(vU t (.map (some g)) (.int .i64 (c0:Int)) v).run P w= .ok .skip {w with heap:=w.heap.setIfInBounds g (.map (es.modify i fun e=>{e with key:=enc q,val:=v}) c)}:=by
  rw[<- em]
  simp[vU,Instr.entryStore,MapKept.run_getObj_map hg,asInt,asIntOf,hf,Result.andThen,MapKept.run_setObj_map _ hg]
 rw[this]
 exact h _ (qQ (he.put hi) (hp.putObj _))
theorem Du {q:κ}{u v:Value}:∀ {m:List (κ × Value)} {i:Nat},(m.map (·.1)).Nodup->m[i]? =some (q,u)->m.set i (q,v)=iE q v m
 |[],i,_,h=>by simp at h
 |p::m,0,_,h=>by
  simp at h
  subst h
  simp[iE]
 |p::m,i+1,hn,h=>by
  rw[List.map_cons,List.nodup_cons]at hn
  simp only[List.getElem?_cons_succ]at h
  have hne:q≠p.1:=fun c=>hn.1 (by rw[<- c];exact List.mem_map.2 ⟨(q,u),List.mem_of_getElem? h,rfl⟩)
  rw[List.set_cons_succ,iE,if_neg hne,Du hn.2 h]
def NR (g:Nat)(enc:κ->Value)(f:κ->Option Value)(q:κ)(c0:Nat):HP:=ex fun x:List (κ × Value) × Nat × Value=>all [pu ((x.1.map (·.1)).Nodup/\(∀q',q'≠q->kG q' x.1=f q')/\x.1[x.2.1]? =some (q,x.2.2)),Dt g enc x.1 x.2.1 c0]
theorem Hx {e:TypeId} {z:Value} {g:Nat} {f:κ->Option Value} {q:κ} [ht:MapT P t kt e] [hz:ZeroT P e z] (K:KeyLaw P kt enc) (p:Pick L (fj g enc f) L')
  (h:∀c0:Nat,be W (NR g enc f q c0::L') (k (.tuple #[(f q).getD z,.int .i64 (c0:Int)]))):be W L (opN P (lL t (.map (some g)) (enc q)) Kp k):=
 LR p fun m h1 h2=>Kd K .here fun i c0 hi=>by
  rw[h2]at hi ⊢
  refine cr (.ex (iE q ((f q).getD z) m,i,(f q).getD z) (.all ?_)) (h c0)
  refine .pu ⟨(oL q _ m h1).1,fun q' hq=>?_,hi⟩ .refl
  rw[oG,if_neg hq,h2]
theorem Ke {g:Nat}{f:κ->Option Value}{q:κ}{v:Value}{c0:Nat}(p:Pick L (NR g enc f q c0) L')(h:be W (fj g enc (Hb f q (some v))::L') (k undef)):
  be W L (opN P (vU t (.map (some g)) (.int .i64 (c0:Int)) v) Kp k):=by
 refine aX p fun x=>aB .here (aT .here fun hx=>?_)
 obtain⟨m,i,u⟩:=x
 obtain⟨h1,h2,h3⟩:=hx
 refine MR h3 .here ?_
 rw[Du h1 h3]
 refine cr (w9 .here (oL q v m h1).1 (fun q'=>?_) .refl) h
 rw[oG]
 unfold Hb
 by_cases c:q'=q
 ·rw[if_pos c,if_pos c]
 ·rw[if_neg c,if_neg c];exact h2 q' c
end Sl
namespace IF
open Go Go.Proofs Go.RowKit Sh Sl T HM HF B M
abbrev K3:=UInt8 × UInt8 × UInt8
def qx (k:K3):Value:= .agg #[Sl.B k.1,Sl.B k.2.1,Sl.B k.2.2]
theorem MS {t e:TypeId}{s b:Nat}(ht:SlT p_ t e s b)(w:World):(sizeOf e).run p_ w= .ok s w:=by
 obtain⟨i,z,h1,h2,h3,h4,h5⟩:=ht.info
 rw[dK h1,h3]
theorem sJ (w:World):(sizeOf 5).run p_ w= .ok 1 w:=MS (t:=23) inferInstance w
theorem PH (a b:UInt8):((a.toNat:Int)==(b.toNat:Int))=decide (a=b):=by
 by_cases c:a=b
 ·subst c;simp
 ·have c2:(a.toNat:Int)≠(b.toNat:Int):=fun d=>c (UInt8.toNat_inj.1 (Int.ofNat.inj d))
  simp[c,c2]
theorem PI (a b:Int)(w:World):(Op.equalIn 9999 5 (.int .u8 a) (.int .u8 b)).run p_ w= .ok (a==b) w:=run_equalIn_int w 9998 5 .u8 .u8 a b (by kernel_rfl)
theorem Gk (a b:UInt8)(w:World):(Op.equalIn 9999 5 (Sl.B a) (Sl.B b)).run p_ w= .ok (decide (a=b)) w:=(PI a.toNat b.toNat w).trans (congrArg (fun x=>Result.ok x w) (PH a b))
theorem xZ:List.range' 0 3=[0,1,2]:=rfl
theorem NS:KeyLaw p_ 142 qx where
 check:=fun b k w=>by
  unfold qx Instr.checkKey
  simp only[Sem.run_bind,Tryz.runUnderlying142,Result.andThen_ok]
  have hk:∀(v:UInt8) (w:World),(Instr.checkKey b 9999 5 (Sl.B v)).run p_ w= .ok () w:=fun v w=>MapKept.run_checkKey (n:=9998) (d:= .int .u8) (by kernel_rfl) (by simp[MapKept.IsKey,Sl.B]) b
  simp[part,Tryz.isAgg5,sJ,hk,Result.andThen,xZ]
 eq:=fun k k' w=>by
  unfold qx Op.equal Op.maxDepth Op.equalIn
  simp only[Sem.run_bind,Tryz.runUnderlying142,Result.andThen_ok]
  obtain⟨a1,a2,a3⟩:=k
  obtain⟨b1,b2,b3⟩:=k'
  by_cases h1:a1=b1
  ·subst h1
   by_cases h2:a2=b2
   ·subst h2
    by_cases h3:a3=b3
    ·subst h3
     simp[part,Tryz.isAgg5,sJ,Gk,Result.andThen,xZ]
    ·simp[part,Tryz.isAgg5,sJ,Gk,Result.andThen,xZ,h3]
   ·simp[part,Tryz.isAgg5,sJ,Gk,Result.andThen,xZ,h2]
  ·simp[part,Tryz.isAgg5,sJ,Gk,Result.andThen,xZ,h1]
 now:=⟨.array 3 5,by kernel_rfl,fun k k'=> .inl rfl⟩
 same:=fun k=>by
  unfold qx Instr.sameBits
  simp[Instr.sameBits,Sl.B]
theorem Kf {P:Program}{W:World}{t e:TypeId}{s len n cap:Nat}{a:Option Addr}[ht:ArrT P t len e s](h:len<=n):bb P W [] (E9 t (.slice a n cap)) (.pointer a):=fun w _=>by
 simp[E9,Instr.arrayAt,ht.ut,show ¬n<len by omega]
theorem Kg {P:Program}{W:World}{t e:TypeId}{s b n cap g o:Nat}{q:IntKind}{i:Int}(l:Nat)[ht:SlT P t e s b](hi:i=(l:Int))(h1:l<=n)(h2:l<cap):
  bb P W [] (eo t (.slice (some ⟨g,o,none⟩) n cap) (some (.int q i)) none none) (.slice (some ⟨g,o+l * s,none⟩) (n-l) (cap-l)):=by
 have h:=y_ (P:=P) (W:=W) (t:=t) (n:=n) (cap:=cap) (a:=some ⟨g,o,none⟩) (q:=q) l hi h1
 rw[if_neg (by omega),Option.map_some,db]at h
 exact h
theorem Vn {W:World}{A:HP}{g o n at_:Nat}{b:List UInt8}(hA:RdB W A (some ⟨g,o,none⟩) n (b.map Sl.B))(h:at_+3<=b.length):bb p_ W [A] (af 142 (.pointer (some ⟨g,o+at_ * 1,none⟩))) (qx (qA b at_)):=by
 rw[Nat.mul_one]
 refine lP (vs:=[Sl.B (qA b at_).1,Sl.B (qA b at_).2.1,Sl.B (qA b at_).2.2]) hA rfl fun i hi=>?_
 rw[A0 h,List.getElem?_map]
 match i,hi with
 |0,_=>rw[List.getElem?_eq_getElem (by omega)];rfl
 |1,_=>rw[List.getElem?_eq_getElem (by omega)];rfl
 |2,_=>rw[List.getElem?_eq_getElem (by omega)];rfl
def kn (k:K3):Nat:=k.1.toNat+256 * k.2.1.toNat+65536 * k.2.2.toNat
def un (n:Nat):K3:=(UInt8.ofNat (n%256),UInt8.ofNat (n / 256%256),UInt8.ofNat (n / 65536%256))
@[irreducible] def KN:Nat:=16777216
theorem NT:KN=16777216:=by unfold KN;rfl
theorem Dv (k:K3):kn k<KN:=by
 rw[NT]
 have h1:=k.1.toNat_lt
 have h2:=k.2.1.toNat_lt
 have h3:=k.2.2.toNat_lt
 unfold kn
 omega
theorem sK (k:K3):un (kn k)=k:=by
 obtain⟨a,b,c⟩:=k
 have h1:=a.toNat_lt
 have h2:=b.toNat_lt
 have h3:=c.toNat_lt
 have e1:(a.toNat+256 * b.toNat+65536 * c.toNat)%256=a.toNat:=by omega
 have e2:(a.toNat+256 * b.toNat+65536 * c.toNat) / 256%256=b.toNat:=by omega
 have e3:(a.toNat+256 * b.toNat+65536 * c.toNat) / 65536%256=c.toNat:=by omega
 unfold un kn
 simp only[e1,e2,e3,UInt8.ofNat_toNat]
theorem Sm {n:Nat}(h:n<KN):kn (un n)=n:=by
 rw[NT]at h
 unfold un kn
 simp only[UInt8.toNat_ofNat']
 omega
def NI (n:Nat):Value:=I (n:Int)
abbrev Qm:=Nat->Option Addr × Nat
def Gm (Q:Qm)(b:List UInt8)(m:Nat)(k:K3):Option Value:=if xg b m k=[]then none else some (.slice (Q (kn k)).1 (xg b m k).length (Q (kn k)).2)
def BQ (Q:Qm)(b:List UInt8)(m:Nat)(n:Nat):HP:=Sl 1 3 (Q n).1 (Q n).2 (xg b m (un n)).length ((xg b m (un n)).map NI)
def Dw (p:Nat)(a:Option Addr)(c:Nat)(b:List UInt8)(m w d:Nat):HP:=ex fun q:Nat × Qm=>all [pu (∀n,xg b m (un n)=[]->q.2 n=(none,0)),pt p (.cells #[.slice a b.length c,.map (some q.1),.int .i64 (m:Int),.int .i64 (w:Int),.int .i64 (d:Int)] 253),fj q.1 qx (Gm q.2 b m),BS KN (BQ q.2 b m)]
theorem Gn {Q:Qm}{b:List UInt8}{m:Nat}{k:K3}(hQ:∀n,xg b m (un n)=[]->Q n=(none,0)):(Gm Q b m k).getD (.slice none 0 0)= .slice (Q (kn k)).1 (xg b m k).length (Q (kn k)).2:=by
 unfold Gm
 by_cases c:xg b m k=[]
 ·have:=hQ (kn k) (by rw[sK];exact c)
  rw[if_pos c,this,c];rfl
 ·rw[if_neg c];rfl
def Hy (Q:Qm)(n:Nat)(v:Option Addr × Nat):Qm:=fun i=>if i=n then v else Q i
theorem MT {Q:Qm}{b:List UInt8}{m:Nat}{v:Option Addr × Nat}:Hb (Gm Q b m) (qA b m) (some (.slice v.1 ((xg b m (qA b m)).length+1) v.2))=Gm (Hy Q (kn (qA b m)) v) b (m+1):=by
 funext k
 unfold Hb Gm Hy
 rw[nY]
 by_cases c:k=qA b m
 ·subst c
  rw[if_pos rfl,if_pos rfl,if_neg (by simp),if_pos rfl,List.length_append];rfl
 ·rw[if_neg c,if_neg (show ¬qA b m=k from fun e=>c e.symm)]
  have:kn k≠kn (qA b m):=fun e=>c (by rw[<- sK k,e,sK])
  rw[if_neg this]
theorem Sn {W:World}{p:Nat}{a:Option Addr}{c m w d to:Nat}{b:List UInt8}{A:HP}(hA:RdB W A a b.length (b.map Sl.B))(hc:b.length<=c)(hb:b.length<=1048576)(ht:to<=b.length)(hm:m<=min to (b.length-2)):
  Cn p_ 195 [.pointer (some ⟨p,0,none⟩),.int .i64 (to:Int)] W [Dw p a c b m w d,A] (fun _:Unit=> .tuple #[]) (fun _=>[Dw p a c b (min to (b.length-2)) w d,A]):=by
 (refine S.rr.cn fun F=>?_;unfold S.mx;simp only[ca_,na_])
 refine Ag (fun k=>(ex fun i:Nat=>all [pu (k+i=min to (b.length-2)),Dw p a c b i w d])::A::F) (min to (b.length-2)-m) ?_ ?_
 ·refine .ex m (.all ?_)
  refine ay ?_
  refine .pu (by omega) ?_
  exact aC
 intro k ds
 refine aX .here fun i=>aB .here ?_
 refine ay ?_
 refine aT .here fun hk=>?_
 refine aX .here fun q=>aB .here ?_
 obtain⟨gm,Q⟩:=q
 refine ay ?_
 refine aT .here fun hQ=>?_
 (try dsimp only at hQ)
 refine bM (t_ aW (t_ aw (kS ?_)))
 by_cases h1:(i:Int)<(to:Int)
 ·refine t_ aI ?_
  rw[dT_ h1]
  refine ag (ag (t_ aW (ag (t_ aw (ag (kS ?_))))));refine ag ?_;(refine t_ (ct (by omega) (by omega)) ?_);refine ag (ag (t_ aW (ag (t_ aw (ag (kS ?_))))));refine ag (t_ aN (ag ?_))
  by_cases h2:(i:Int)+3<=(b.length:Int)
  ·refine t_ dX ?_
   rw[dT_ h2]
   refine t_ aq (ab (bM (aZ aW .nil ?_)));refine aZ aw .nil ?_;(((refine' aZ (br ?hc) ?hi ?_);(case hi=>exact .pick (by repeat constructor) .nil);(case hc=>repeat constructor)));refine aZ aW .nil ?_;refine aZ aw .nil ?_;(((refine' aZ (br ?hc) ?hi ?_);(case hi=>exact .pick (by repeat constructor) .nil);(case hc=>repeat constructor)))
   obtain⟨g,o,rfl,_⟩:=hA.at_ (by omega)
   refine aZ (Kg i rfl (by omega) (by omega)) .nil ?_
   refine aZ (Kf (by omega)) .nil ?_
   refine aZ (Vn hA (by omega)) (.pick (by repeat constructor) .nil) ?_
   obtain⟨x,hx⟩:∃x,x=qA b i:=⟨_,rfl⟩
   rw[<- hx]
   unfold qx
   refine bm fun g=>?_;refine cq ?_;refine cq ?_;refine cq ?_;refine cq ?_;refine cq ?_;refine cq ?_;refine cq ?_;refine cq ?_;refine cq ?_;refine gS ?_;refine bM (aZ aW .nil ?_);refine aZ aw .nil ?_;(((refine' aZ (br ?hc) ?hi ?_);(case hi=>exact .pick (by repeat constructor) .nil);(case hc=>repeat constructor)));(((refine' aZ (bP ?hn) ?hi ?_);(case hi=>exact .pick (by repeat constructor) .nil);(case hn=>rfl)));refine t_ aW (t_ aw (kS ?_));refine kF fun g=>?_;refine cq ?_;refine cq ?_;refine cq ?_;refine cq ?_
   refine Hx (q:=x) NS (by repeat constructor) fun c0=>?_
   rw[Gn hQ]
   refine Vp ?_;(((refine' aZ (bJ ?hc) .nil ?_);(case hc=>repeat constructor)))
   refine Nk (by repeat constructor) (kn x) (Dv x) ?_
   unfold BQ
   rw[sK]
   have hlen:=FK b i x
   refine co (m:=1) (news:=[NI i]) (by repeat constructor) (dq (e':=3) (by kernel_rfl) (by repeat constructor) (by rfl) (by intro u hu;rw[List.mem_singleton.1 hu];rfl)) (by omega) (by omega) fun a' c'=>?_
   refine cq ?_
   refine Ke (by repeat constructor) ?_
   refine o_ aW (o_ aw (ck ?_));refine bW ?_;refine o_ aW (o_ aw (fX ?_))
   refine vt (k-1) (by omega) (.ex (i+1) (.all ?_))
   refine ay ?_
   refine .pu (by omega) (.ex (gm,Hy Q (kn x) (a',c')) (.all ?_))
   refine ay ?_
   refine .pu ?_ ?_
   ·intro n hn
    rw[nY]at hn
    by_cases e:qA b i=un n
    ·rw[if_pos e]at hn;simp at hn
    ·rw[if_neg e]at hn
     unfold Hy
     rw[if_neg (fun h=>e (by rw[h,sK,hx]))]
     exact hQ n hn
   subst hx
   rw[<- MT (v:=(a',c'))]
   rw[show((i+1:Nat):Int)=(i:Int)+1 from rfl]
   refine .pick (by repeat constructor) (.pick (by repeat constructor) ?_)
   refine Ak (kn (qA b i)) (Dv _) (F:=BQ Q b i) (fun j hj hji=>?_) ?_
   ·unfold BQ Hy
    rw[if_neg hji,nY,if_neg (fun h=>hji (by rw[h,Sm hj]))]
   ·unfold BQ Hy
    rw[if_pos rfl,sK,nY,if_pos rfl,List.length_append,List.map_append]
    refine .pick (by repeat constructor) ?_
    exact aC
  ·refine t_ dX ?_
   rw[dF_ h2]
   refine t_ aq (aa ?_)
   have:i=min to (b.length-2):=by omega
   subst this
   refine bC () ?_
   refine .ex (gm,Q) (.all ?_)
   refine ay ?_
   exact .pu hQ aC
 ·refine t_ aI ?_
  rw[dF_ h1]
  refine ah (ah (ah (ah (ah (ah (ah (ah (ah (ah (ah (t_ ap (aa ?_))))))))))))
  have:i=min to (b.length-2):=by omega
  subst this
  refine bC () ?_
  refine .ex (gm,Q) (.all ?_)
  refine ay ?_
  exact .pu hQ aC
end IF
end Go.Proofs.YtndojgomlkpeaaaGreatDoor
