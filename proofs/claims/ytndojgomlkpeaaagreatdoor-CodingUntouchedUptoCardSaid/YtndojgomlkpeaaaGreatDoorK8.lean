/- Members, one behind the other, taken apart; what is given up is told. No conditions but those that each names. (12 texts made one; each says below what it is.) -/
import Derived.Test.YtndojgomlkpeaaaGreatDoorK7
import Derived.KernelRfl
import Derived.Test.YtndojgomlkpeaaaGreatDoorRows
import Derived.Deep.DeepHandedRow
import Derived.LaidMore
import Derived.Lay
import Derived.MakeChecks
set_option linter.unusedVariables false
set_option linter.unusedSimpArgs false
set_option linter.unusedSectionVars false
namespace Go.Proofs.YtndojgomlkpeaaaGreatDoor
namespace GZ
open Go Go.Proofs Go.RowKit Sh Sl T IF B M
theorem Nc {W:World}{a b:Option Addr}{ca cb:Nat}{x y:List UInt8}{A C:HP}(hx:RdB W A a x.length (x.map Sl.B))(ha:a=none->x.length=0)(hy:RdB W C b y.length (y.map Sl.B))(hb:b=none->y.length=0):
  Cn p_ 70 [.slice a x.length ca,.slice b y.length cb] W [A,C] (fun _:Unit=> .bool (decide (x=y))) (fun _=>[A,C]):=by
 (refine S.yG.cn fun F=>?_;unfold S.uH;simp only[ca_,na_])
 refine cm (ph hx ha) ?_
 refine cm (ph hy hb) ?_
 refine o_ dE (bC () ?_)
 exact aC
theorem PW {W:World}{A:HP}{p:Nat}{l:List UInt8}{L L':List HP}{S:WP}(q:Pick L (HQ W A p l) L')(h:∀(qa:Option Addr) (qc:Nat),RdB W A qa l.length (l.map Sl.B)->l.length<=qc->be W (pt p (.cells #[.slice qa l.length qc] 107)::L') S):be W L S:=
 Oc q (aX .here fun x=>aB .here (aT (.there .here) fun hq=>h x.1 x.2 hq.1 hq.2))
theorem PY {W:World}{A:HP}{p:Nat}{l:List UInt8}{L L':List HP}{S:WP}{qa:Option Addr}{qc:Nat}(q:Pick L (pt p (.cells #[.slice qa l.length qc] 107)) L')(hr:RdB W A qa l.length (l.map Sl.B))(hc:l.length<=qc)(h:be W (HQ W A p l::L') S):be W L S:=
 cr (.ex (qa,qc) (.all (.pick q (.pu ⟨hr,hc⟩ .refl)))) h
structure Mb (most:Int)(b out t:List UInt8)(u:Nat):Prop where
 e:aE b (most-out.length)=0
 o:aO b (most-out.length)=t
 n:aU b (most-out.length)=(u:Int)
 le:u<=b.length
 sz:((out.length+t.length:Nat):Int)<=most
inductive Ur (most:Int):List UInt8->List UInt8->Nat->Except Int (List UInt8 × Nat)->Prop
 |done {out:List UInt8} {n:Nat} (h:n≠0):Ur most [] out n (.ok (out,n))
 |mem {b out t r:List UInt8} {n m u:Nat} {R:Except Int (List UInt8 × Nat)} (h:Mb most b out t u) (ht:b.drop u=Do t++r) (hr:Ur most r (out++t) (n+1) R):Ur most (vM m++b) out n R
 |short {b out t:List UInt8} {n m u:Nat} (h:Mb most b out t u) (hs:(b.drop u).length<8):Ur most (vM m++b) out n (.error 20)
 |Kw {b out t:List UInt8} {n m u:Nat} (h:Mb most b out t u) (hs:8<=(b.drop u).length) (hw:(b.drop u).take 8≠Do t):Ur most (vM m++b) out n (.error 32)
theorem Ur.head {most:Int}{l out:List UInt8}{n:Nat}{R:Except Int (List UInt8 × Nat)}(h:Ur most l out n R):(l=[]/\n≠0/\R= .ok (out,n))\/∃(m u:Nat) (b t:List UInt8),l=vM m++b/\Mb most b out t u/\
  (((b.drop u).length<8/\R= .error 20)\/(8<=(b.drop u).length/\(b.drop u).take 8≠Do t/\R= .error 32)\/(8<=(b.drop u).length/\(b.drop u).take 8=Do t/\Ur most ((b.drop u).drop 8) (out++t) (n+1) R)):=by
 cases h with
 |done h=>exact .inl ⟨rfl,h,rfl⟩
 |mem h ht hr=>exact .inr ⟨_,_,_,_,rfl,h,.inr (.inr ⟨by rw[ht,List.length_append];simp[Do,GZ.fZ],by rw[ht];rfl,by rw[ht];exact hr⟩)⟩
 |short h hs=>exact .inr ⟨_,_,_,_,rfl,h,.inl ⟨hs,rfl⟩⟩
 |Kw h hs hw=>exact .inr ⟨_,_,_,_,rfl,h,.inr (.inl ⟨hs,hw,rfl⟩)⟩
def rO (R:Except Int (List UInt8 × Nat)):List UInt8:=match R with
 | .ok x=>x.1
 | .error _=>[]
def rN (R:Except Int (List UInt8 × Nat)):Int:=match R with
 | .ok x=>x.2
 | .error _=>0
def rE (R:Except Int (List UInt8 × Nat)):Int:=match R with
 | .ok _=>0
 | .error e=>e
theorem IU {G H:Prop}(k:G->H)(m:G):H:=k m
theorem PZ {W:World} {F:List HP} {g4 g5 g6:Nat} {v4 v5 v6:Value} {e:Int} {K:Value->WP} {Kq:PK}
  (h:be W (pt g4 (.cells #[.slice none 0 0] 23)::pt g5 (.cells #[.int .i64 0] 3)::pt g6 (.cells #[.int .i64 e] 27)::F) (K (.tuple #[.slice none 0 0,.int .i64 0,.int .i64 e]))):
  be W (pt g4 (.cells #[v4] 23)::pt g5 (.cells #[v5] 3)::pt g6 (.cells #[v6] 27)::F)
   (gf p_ {target:= .fn (.func 65) ([.pointer (some ⟨g4,0,none⟩),.pointer (some ⟨g5,0,none⟩),.pointer (some ⟨g6,0,none⟩)]:List Value).toArray,args:=([]:List Value).toArray} (S.aD (.pointer (some ⟨g4,0,none⟩)) (.pointer (some ⟨g5,0,none⟩)) (.pointer (some ⟨g6,0,none⟩)) K) Kq (pn e)):=by
 unfold gf
 refine Fe (f:=65) (A:=[.pointer (some ⟨g4,0,none⟩),.pointer (some ⟨g5,0,none⟩),.pointer (some ⟨g6,0,none⟩)]) (shape:=fun rv=>S.eC (.pointer (some ⟨g4,0,none⟩)) (.pointer (some ⟨g5,0,none⟩)) (.pointer (some ⟨g6,0,none⟩)) rv) (fun c=>by cases c) ⟨_,_,rfl⟩ (j_ (cs:=[.pointer (some ⟨g4,0,none⟩),.pointer (some ⟨g5,0,none⟩),.pointer (some ⟨g6,0,none⟩)]) (bs:=[]) Tryz.call65) (fun h=>S.mm h) ?_
 unfold S.eC pn
 rw[Fg,H5]
 refine o_ (AH (by kernel_rfl)) ?_
 refine ab (bM (aZ (RM (k:= .i64) (by kernel_rfl)) .nil ?_))
 refine fX ?_;refine cq ?_;refine fX ?_;refine cq ?_;refine fX ?_
 unfold S.aD
 (((refine' aQ (cJ ?hc) ?hi ?_);(case hi=>exact aC);(case hc=>repeat constructor)));(((refine' aQ (cJ ?hc) ?hi ?_);(case hi=>exact aC);(case hc=>repeat constructor)));(((refine' aQ (cJ ?hc) ?hi ?_);(case hi=>exact aC);(case hc=>repeat constructor)))
 exact cr aC h
theorem HG {W:World}{a:Option Addr}{cap:Nat}{b:List UInt8}{A:HP}{most:Int}{R:Except Int (List UInt8 × Nat)}(hr:RdB W A a b.length (b.map Sl.B))(hc:b.length<=cap)(hb:b.length<=1048576)(hm0:0<=most)(hm1:most<=1048576)(hU:Ur most b [] 0 R):
  Cn p_ 46 [.slice a b.length cap,.int .i64 most] W [A]
   (fun q:Option Addr × Nat=> .tuple #[.slice q.1 (rO R).length q.2,.int .i64 (rN R),.int .i64 (rE R)])
   (fun q=>[Sl 1 5 q.1 q.2 (rO R).length ((rO R).map Sl.B),A]):=by
 (refine S.yE.cn fun F=>?_;unfold S.uF;simp only[ca_,na_])
 refine dQ fun g4=>?_
 refine dQ fun g5=>?_
 refine dQ fun g6=>?_
 have bad:∀(e:Int) (L:List HP) (v:Value) (n:Int),R= .error e->Imp W L ([pt g4 (.cells #[v] 23),pt g5 (.cells #[.int .i64 n] 3),pt g6 (.cells #[.int .i64 0] 27),A]++F)->be W L (gf p_ {target:= .fn (.func 65) ([.pointer (some ⟨g4,0,none⟩),.pointer (some ⟨g5,0,none⟩),.pointer (some ⟨g6,0,none⟩)]:List Value).toArray,args:=([]:List Value).toArray} (S.aD (.pointer (some ⟨g4,0,none⟩)) (.pointer (some ⟨g5,0,none⟩)) (.pointer (some ⟨g6,0,none⟩)) (fun v w=>∃q:Option Addr × Nat,v= .tuple #[.slice q.1 (rO R).length q.2,.int .i64 (rN R),.int .i64 (rE R)]/\sat W ([Sl 1 5 q.1 q.2 (rO R).length ((rO R).map Sl.B),A]++F) w)) jY (pn e)):=by
  intro e L v n he hi
  subst he
  refine cr hi ?_
  refine ay ?_
  refine PZ ?_
  refine d_ (s:=1) (e:=5) ?_
  refine bf (none,0) rfl ?_
  exact aC
 refine vv ?_
 refine o_ aI ?_
 rw[dF_ (by omega)]
 refine aa (o_ bq ?_)
 rw[dF_ (by omega)]
 refine gp fun ds=>?_
 refine aa (o_ aN (o_ bq ?_))
 rw[dF_ (by omega)]
 refine aa (o_ iB (H3 ?_))
 simp only[List.nil_append,Array.append_empty,List.append_toArray]
 refine o_ cu ?_
 refine cv fun g=>?_
 refine PY (A:=A) (l:=b) .here hr hc ?_
 refine d_ (s:=1) (e:=5) ?_
 refine Ag (fun m=>[ex fun st:((Option Addr × Nat) × Nat) × (List UInt8 × List UInt8)=>all [pu (Ur most st.2.1 st.2.2 st.1.2 R/\m=st.2.1.length/\st.1.2+st.2.1.length<=1048576/\(st.2.2.length:Int)<=most),HQ W A g st.2.1,Sl 1 5 st.1.1.1 st.1.1.2 st.2.2.length (st.2.2.map Sl.B),pt g4 (.cells #[.slice st.1.1.1 st.2.2.length st.1.1.2] 23),pt g5 (.cells #[.int .i64 (st.1.2:Int)] 3),pt g6 (.cells #[.int .i64 0] 27),A]]++F) b.length ?_ ?_
 ·refine .ex (((none,0),0),(b,[])) (.all ?_)
  refine ay ?_
  refine .pu ⟨hU,rfl,by(try dsimp only);omega,hm0⟩ ?_
  exact aC
 clear hU hr hc hb
 intro m ds
 refine ay ?_
 refine aX .here fun st=>aB .here ?_
 obtain⟨⟨⟨oa,oc⟩,n⟩,⟨l,out⟩⟩:=st
 refine ay ?_
 refine aT .here fun hi=>?_
 (try dsimp only at hi)
 obtain⟨hU,hml,hn,ho⟩:=hi
 (try dsimp only)
 rcases hU.head with ⟨rfl,hn0,hR⟩|⟨k,u,x,t,rfl,hM,hT⟩
 ·subst hR
  refine ck ?_
  refine o_ bF ?_
  rw[dF_ (by omega)]
  refine PW (A:=A) (p:=g) (l:=[]) (by repeat constructor) fun qa qc hr hc=>?_
  refine ag (ag (o_ aW (ag (o_ aw (ag (ck ?_))))));refine ag (o_ aN (ag (o_ bq ?_)))
  rw[dF_ (by decide)]
  refine o_ ap (aa (bM (kS ?_)));(((refine' aZ (br ?hc) ?hi ?_);(case hi=>exact .pick (by repeat constructor) .nil);(case hc=>repeat constructor)));refine fX ?_;refine cq ?_;refine fX ?_;refine fX ?_
  refine Fe (f:=65) (A:=[.pointer (some ⟨g4,0,none⟩),.pointer (some ⟨g5,0,none⟩),.pointer (some ⟨g6,0,none⟩)]) (shape:=fun rv=>S.eC (.pointer (some ⟨g4,0,none⟩)) (.pointer (some ⟨g5,0,none⟩)) (.pointer (some ⟨g6,0,none⟩)) rv) (fun c=>by cases c) ⟨_,_,rfl⟩ (j_ (cs:=[.pointer (some ⟨g4,0,none⟩),.pointer (some ⟨g5,0,none⟩),.pointer (some ⟨g6,0,none⟩)]) (bs:=[]) Tryz.call65) (fun h=>S.mm h) ?_
  unfold S.eC
  rw[Ff,H4]
  refine o_ (vz (by kernel_rfl)) ?_
  refine aa ?_
  unfold S.aD
  (((refine' aQ (cJ ?hc) ?hi ?_);(case hi=>exact aC);(case hc=>repeat constructor)));(((refine' aQ (cJ ?hc) ?hi ?_);(case hi=>exact aC);(case hc=>repeat constructor)));(((refine' aQ (cJ ?hc) ?hi ?_);(case hi=>exact aC);(case hc=>repeat constructor)))
  refine bf (oa,oc) rfl ?_
  exact aC
 refine PW (A:=A) (p:=g) (by repeat constructor) fun qa qc hr hc=>?_
 have d1:n=0->decide ((n:Int)=0)=true:=fun h=>dT_ (by omega)
 have d2:n≠0->decide ((n:Int)=0)=false:=fun h=>dF_ (by omega)
 have d3:decide ((0:Int)<((vM k++x).length:Int))=true:=dT_ (by rw[List.length_append,sO];omega)
 refine' IU ?_ ?_
 rotate_left
 ·intro main
  by_cases h0:n=0
  ·refine ck ?_
   refine o_ bF ?_
   rw[d1 h0]
   exact aA (aA (aA (aA (aA (aA (o_ aq (ab main)))))))
  ·refine ck ?_
   refine o_ bF ?_
   rw[d2 h0]
   refine ag (ag (o_ aW (ag (o_ aw (ag (ck ?_))))));refine ag (o_ aN (ag (o_ bq ?_)))
   rw[d3]
   exact o_ ap (ab main)
 have hxl:(vM k++x).length=10+x.length:=by rw[List.length_append,sO]
 rw[hxl]at hn
 refine PY (A:=A) (l:=vM k++x) (by repeat constructor) hr hc ?_
 (refine' bg (Sz) ?hp (fun _=>?_) (fun _=>?_);(case hp=>(repeat(first|exact Picks.nil|(apply Picks.cons;(focus repeat constructor)))));(all_goals (try simp only[ca_,na_,Bool.not_true,Bool.not_false,-eq_self])))
 rotate_left
 ·rename_i y
  exact y.2.elim
 refine PW (A:=A) (p:=g) .here fun qa qc hr hc=>?_
 refine bM (t_ aW (t_ aw (kS ?_)));refine kS ?_;refine t_ aN ?_;(refine t_ (ep (by omega) (by omega)) ?_)
 refine c_ (L7 hr (fun c=>by by_cases h0:0<x.length;(obtain⟨_,_,h1,_⟩:=hr.at_ h0;rw[h1]at c;cases c);omega) (by omega)) fun _=>?_
 rename_i q
 obtain⟨ia,ic⟩:=q
 rw[hM.e,hM.o,hM.n]
 (try dsimp only)
 refine t_ (bS (v:= .slice ia t.length ic) rfl) ?_
 refine t_ (bS (v:= .int .i64 (u:Int)) rfl) ?_
 refine t_ (bS (v:= .int .i64 0) rfl) ?_
 refine vu ?_
 refine o_ eS ?_
 rw[dF_ (by decide)]
 refine aa (gp fun ds2=>?_)
 refine PY (A:=A) (l:=x) (by repeat constructor) hr hc ?_
 have hu:=hM.le
 have hsz:=hM.sz
 (refine' bg (DG (A:=A) (n:=u) (l:=x)) ?hp (fun _=>?_) (fun _=>?_);(case hp=>(repeat(first|exact Picks.nil|(apply Picks.cons;(focus repeat constructor)))));(all_goals (try simp only[ca_,na_,Bool.not_true,Bool.not_false,-eq_self])))
 rotate_left
 ·rename_i y
  exact absurd y.2 (by omega)
 (refine' bg (DG (A:=A) (n:=8) (l:=x.drop u)) ?hp (fun _=>?_) (fun _=>?_);(case hp=>(repeat(first|exact Picks.nil|(apply Picks.cons;(focus repeat constructor)))));(all_goals (try simp only[ca_,na_,Bool.not_true,Bool.not_false,-eq_self])))
 rotate_left
 ·rename_i y
  rcases hT with ⟨hs,hR⟩|⟨hs,_⟩|⟨hs,_⟩
  ·exact bad _ _ _ _ hR aC
  ·exact absurd y.2 (by omega)
  ·exact absurd y.2 (by omega)
 rename_i q8
 obtain⟨⟨ta,tc⟩,h8,hr8,hc8⟩:=q8
 (try dsimp only)
 (try dsimp only at h8 hr8 hc8)
 have htl:t.length<=1048576:=by omega
 refine aJ (by repeat constructor) fun _ _ _ hsome=>?_
 have ht:=dh (W:=W) (e:=5) (a:=ia) (cap:=ic) (n:=t.length) (cs:=t.map Sl.B) (by rw[List.length_map]) hsome
 refine c_ (Su (b:=t) ht (by omega)) fun _=>?_
 refine d_ (s:=1) (e:=5) ?_
 refine c_ (DC (n:=MF t) (a:=none) (c:=0) (b:=[]) (J0 t) (by decide)) fun _=>?_
 rename_i qf
 obtain⟨fa,fc⟩:=qf
 (try dsimp only)
 refine o_ aN (o_ (bO (q:= .u32)) ?_)
 rw[vK (by omega)]
 refine c_ (DC (n:=t.length) (b:=GZ.fZ (MF t)) (by omega) (by simp[GZ.fZ])) fun _=>?_
 rename_i qg
 obtain⟨ga,gc⟩:=qg
 rw[show GZ.fZ (MF t)++GZ.fZ t.length=Do t by unfold Do;rw[Nat.mod_eq_of_lt (by omega)]]
 refine aJ .here fun _ _ _ hsg=>?_
 have h88:((x.drop u).take 8).length=8:=by rw[List.length_take];omega
 rw[show(Value.slice ta 8 tc)=Value.slice ta ((x.drop u).take 8).length tc by rw[h88]]
 have hr8':RdB W A ta ((x.drop u).take 8).length (((x.drop u).take 8).map Sl.B):=by rw[h88];exact hr8
 refine c_ (Nc (x:=(x.drop u).take 8) (y:=Do t) (A:=A) hr8' (fun c=>by obtain⟨_,_,h1,_⟩:=hr8.at_ (by decide);rw[h1]at c;cases c) (dh (e:=5) (a:=ga) (cap:=gc) (by rw[List.length_map]) hsg) (fun c=>by obtain⟨_,h1⟩:=hsg (by simp[Do,GZ.fZ]);rw[h1]at c;cases c)) fun _=>?_
 (refine' bg (BG) ?hp (fun _=>?_) (fun _=>?_);(case hp=>(repeat(first|exact Picks.nil|(apply Picks.cons;(focus repeat constructor)))));(all_goals (try simp only[ca_,na_,Bool.not_true,Bool.not_false,-eq_self])))
 rotate_left
 ·rename_i y
  have hy:=of_decide_eq_false y.2
  rcases hT with ⟨hs,hR⟩|⟨hs,_,hR⟩|⟨hs,he,_⟩
  ·exact absurd h8 (by omega)
  ·exact bad _ _ _ _ hR aC
  ·exact absurd he hy
 rename_i y
 have hy:=of_decide_eq_true y.2
 have hT:Ur most ((x.drop u).drop 8) (out++t) (n+1) R:=by
  rcases hT with ⟨hs,hR⟩|⟨hs,hw,hR⟩|⟨hs,he,hT⟩
  ·exact absurd h8 (by omega)
  ·exact absurd hy hw
  ·exact hT
 refine ck ?_
 refine co (m:=t.length) (news:=t.map Sl.B) (by(repeat constructor):Pick _ (Sl 1 5 oa oc out.length (out.map Sl.B)) _) (H7 (e':=5) (by kernel_rfl) (by(repeat constructor):Pick _ (Sl 1 5 ia ic t.length (t.map Sl.B)) _) hH) (by omega) (by omega) fun a' c'=>?_
 refine fX ?_;refine ck ?_;refine bW ?_;refine fX ?_
 refine vt ((x.drop u).drop 8).length (by rw[hml,hxl,List.length_drop,List.length_drop];omega) (.ex (((a',c'),n+1),((x.drop u).drop 8,out++t)) (.all ?_))
 refine ay ?_
 refine .pu ⟨hT,rfl,by(try dsimp only);rw[List.length_drop,List.length_drop];omega,by rw[List.length_append];exact hsz⟩ ?_
 rw[List.length_append,List.map_append]
 exact aC
theorem Nd {W:World}{a:Option Addr}{cap:Nat}{b:List UInt8}{A:HP}{most:Int}{R:Except Int (List UInt8 × Nat)}(hr:RdB W A a b.length (b.map Sl.B))(hc:b.length<=cap)(hb:b.length<=1048576)(hm0:0<=most)(hm1:most<=1048576)(hU:Ur most b [] 0 R):
  Cn p_ 23 [.slice a b.length cap,.int .i64 most] W [A] (fun q:Option Addr × Nat=> .tuple #[.slice q.1 (rO R).length q.2,.int .i64 (rE R)]) (fun q=>[Sl 1 5 q.1 q.2 (rO R).length ((rO R).map Sl.B),A]):=by
 (refine S.yz.cn fun F=>?_;unfold S.uA;simp only[ca_,na_])
 refine c_ (HG hr hc hb hm0 hm1 hU) fun _=>?_
 rename_i q
 obtain⟨qa,qc⟩:=q
 (try dsimp only)
 refine o_ (bS (v:= .slice qa (rO R).length qc) rfl) ?_
 refine o_ (bS (v:= .int .i64 (rN R)) rfl) ?_
 refine o_ (bS (v:= .int .i64 (rE R)) rfl) ?_
 refine bC ((qa,qc)) ?_
 exact aC
theorem DH {level most:Int}{ws:List (List UInt8)}{w r:List UInt8}(hE:jU w level=0)(hm:((ws.flatten.length+w.length:Nat):Int)<=most)(hm1:most<=1048576)(hl:(fO level ws++eJ w level++r).length<=1048576):
  aE (fO level ws++eJ w level++r) most=0/\aO (fO level ws++eJ w level++r) most=ws.flatten++w/\aU (fO level ws++eJ w level++r) most=((fO level ws++eJ w level).length:Int):=by
 obtain⟨hlv,_,_⟩:=xU hE
 obtain⟨Z,hZ⟩:=MC hE
 have hdl:=sE hE
 have hge:=Dk level (cO w level) []
 have hX:(sA w level).length=(fk level [] (cO w level)).length:=rfl
 simp only[List.length_nil]at hge
 obtain⟨g,l',h1,h2⟩:=t8 (most:=most) hlv (eJ w level++r) ws [] [] (8 * (fO level ws++(eJ w level++r)).length+1) [] (by simp only[List.length_nil];omega) (by rw[List.length_append];omega)
 simp only[List.nil_append,List.length_nil,Nat.zero_add,Nat.mul_zero]at h2
 obtain⟨B,hB⟩:∃B,B=fO level ws++eJ w level++r:=⟨_,rfl⟩
 rw[<- List.append_assoc]at h1 h2
 have hBl:B.length=(fO level ws).length+(eJ w level).length+r.length:=by rw[hB,List.length_append,List.length_append]
 rw[<- hB]at h1 h2 hl ⊢
 have hd:(ub B).drop (8 * (fO level ws).length)=sA w level++(Z++ub r):=by
  rw[hB,List.append_assoc,t0,List.drop_left' (bV _),t0,hZ,List.append_assoc]
 have hdf:=JR (b:=w) (pre:=ws.flatten) (B:=B) (base:=8 * (fO level ws).length) (f:=g) (level:=level) (most:=most) (l:=l') hlv (by omega) (by omega) hd (by omega) (by omega)
 have hall:CP B most= .ok (8 * (fO level ws).length+(sA w level).length,ws.flatten++w,l'++MB level [] (cO w level)):=by
  unfold CP
  rw[if_neg (by omega),if_neg (by omega),h2,hdf]
 unfold aE aO aU
 rw[hall]
 refine⟨rfl,rfl,?_⟩
 simp only
 rw[List.length_append]
 omega
theorem Gz (b:List UInt8):(Do b).length=8:=rfl
theorem HI {level most:Int}{ws:List (List UInt8)}{w r out:List UInt8}(hE:jU w level=0)(hm:((out.length+(ws.flatten++w).length:Nat):Int)<=most)(hm1:most<=1048576)(hl:(fO level ws++eJ w level++r).length<=1048576):
  Mb most (fO level ws++eJ w level++r) out (ws.flatten++w) (fO level ws++eJ w level).length:=by
 rw[List.length_append]at hm
 obtain⟨h1,h2,h3⟩:=DH (r:=r) (most:=most-out.length) hE (by omega) (by omega) hl
 exact⟨h1,h2,h3,by rw[List.length_append (bs:=r)];omega,by rw[List.length_append];exact hm⟩
theorem Nf {b:List UInt8}{level:Int}(hE:jU b level=0):(eJ b level).length<=b.length+400/\b.length<=524288:=by
 obtain⟨h0,_,h1⟩:=xU hE
 have:=xV (b:=b) h0
 rw[sE hE]
 omega
theorem P1 {level most:Int}{b r out:List UInt8}(hE:jU b level=0)(hm:((out.length+b.length:Nat):Int)<=most)(hm1:most<=1048576)(hl:(eJ b level++r).length<=1048576):
  Mb most (eJ b level++r) out b (eJ b level).length:=HI (ws:=[]) (w:=b) (r:=r) (out:=out) hE hm hm1 hl
end GZ
namespace FD
open Go Go.Proofs Go.RowKit Sh Sl T IF GZ
def SC (V:List (List UInt8))(D:List UInt8)(most:Int)(U:Except Int (List UInt8 × Nat)):List UInt8 × Int:=
 match V with
 |[]=>if most<(D.length:Int)then([],6)else(D,0)
 |[v]=>if d8 v jp then(rO U,rE U)else([],46)
 |_::_::_=>([],46)
def KB (V:List (List UInt8))(D:List UInt8)(most:Int)(U:Except Int (List UInt8 × Nat)):List UInt8 × Int:=
 if most<0\/1048576<most then([],1)else if 1048576<(D.length:Int)then([],6)else SC V D most U
theorem KC {W:World} {st most:Int} {Y:List Fd} {D:List UInt8} {ax ad:Option Addr} {cx cd:Nat} {AX AD:HP} {U:Except Int (List UInt8 × Nat)} (hA:nO W AX ax Y) (hY:zF Y<=2097152) (hB:RdB W AD ad D.length (D.map Sl.B)) (hb:ad=none->D.length=0) (hD:D.length<=1099511627776)
  (hU:∀v,bN Y sG=[v]->d8 v jp=true->0<=most->most<=1048576->D.length<=1048576->Cn p_ 23 [.slice ad D.length cd,.int .i64 most] W [AD] (fun q:Option Addr × Nat=> .tuple #[.slice q.1 (rO U).length q.2,.int .i64 (rE U)]) (fun q=>[Sl 1 5 q.1 q.2 (rO U).length ((rO U).map Sl.B),AD])):
  Cn p_ 8 [.agg #[.int .i64 st,.slice ax Y.length cx,.slice ad D.length cd],.int .i64 most] W [AX,AD]
   (fun q:Option Addr × Nat=> .tuple #[.slice q.1 (KB (bN Y sG) D most U).1.length q.2,.int .i64 (KB (bN Y sG) D most U).2])
   (fun q=>[Sl 1 5 q.1 q.2 (KB (bN Y sG) D most U).1.length ((KB (bN Y sG) D most U).1.map Sl.B),AX,AD]):=by
 have hok:=II (l:=Y) (by omega)
 have hvz:=vE Y sG
 have hvl:=rV Y sG
 have hzl:=rX Y
 (refine S.qT.cn fun F=>?_;unfold S.mg;simp only[ca_,na_])
 refine cv fun b=>?_
 refine o_ aw (ck ?_)
 refine aH (AK (n:=sG) hA hok (by decide)) (.cons (by repeat constructor) .nil) fun r=>?_
 obtain⟨va,vc⟩:=r
 refine ay ?_
 (try dsimp only)
 obtain⟨V,hV⟩:∃V,V=bN Y sG:=⟨_,rfl⟩
 rw[<- hV]at hU hvz hvl ⊢
 obtain⟨I,hI⟩:∃I,I=KB V D most U:=⟨_,rfl⟩
 rw[<- hI]
 refine vv ?_
 refine o_ aI ?_
 by_cases c1:most<0
 ·obtain rfl:I=([],1):=by rw[hI];unfold KB;rw[if_pos (.inl c1)]
  rw[dT_ c1]
  refine ab (gp fun ds=>?_)
  refine ab (d_ (s:=1) (e:=5) ?_)
  refine bf (none,0) rfl ?_
  exact aC
 rw[dF_ c1]
 refine aa (o_ bq (gp fun ds=>?_))
 by_cases c2:1048576<most
 ·obtain rfl:I=([],1):=by rw[hI];unfold KB;rw[if_pos (.inr c2)]
  rw[dT_ c2]
  refine ab (d_ (s:=1) (e:=5) ?_)
  refine bf (none,0) rfl ?_
  exact aC
 rw[dF_ c2]
 refine aa (o_ aw (ck ?_));refine o_ aN (o_ bq ?_)
 by_cases c3:1048576<(D.length:Int)
 ·obtain rfl:I=([],6):=by rw[hI];unfold KB;rw[if_neg (by omega),if_pos c3]
  rw[dT_ c3]
  refine ab (d_ (s:=1) (e:=5) ?_)
  refine bf (none,0) rfl ?_
  exact aC
 have hIV:I=SC V D most U:=by rw[hI];unfold KB;rw[if_neg (by omega),if_neg c3]
 clear hI
 rw[dF_ c3]
 refine aa (o_ aN (o_ bF ?_))
 match hVV:V with
 |[]=>
  unfold SC at hIV
  rw[dF_ (by simp)]
  refine ah (ah (ah (ah (o_ ap (aa (o_ aN (o_ bq ?_)))))))
  rw[dF_ (by simp)]
  refine aa (o_ aw (ck ?_));refine o_ aN (o_ bq ?_)
  by_cases c4:most<(D.length:Int)
  ·rw[if_pos c4]at hIV
   subst hIV
   rw[dT_ c4]
   refine ab (d_ (s:=1) (e:=5) ?_)
   refine bf (none,0) rfl ?_
   exact aC
  ·rw[if_neg c4]at hIV
   subst hIV
   rw[dF_ c4]
   refine aa (o_ aw (ck ?_))
   refine d_ (s:=1) (e:=5) ?_
   refine co (m:=D.length) (news:=D.map Sl.B) (by(repeat constructor):Pick _ (Sl 1 5 none 0 0 []) _) (fM (e':=5) (by kernel_rfl) (by(repeat constructor):Pick _ AD _) hB hb hH) (by omega) (by omega) fun a2 c2=>?_
   rw[Nat.zero_add,List.nil_append]
   refine bf (a2,c2) rfl ?_
   exact aC
 |[v]=>
  unfold SC at hIV
  have hvv:=Ew (show v∈bN Y sG by rw[<- hV];exact List.mem_singleton.2 rfl)
  rw[<- hV]at hvv
  rw[dT_ (by simp)]
  refine aJ (by(repeat constructor):Pick _ (Sl 1 9 va vc [v].length ([v].map bo)) _) fun _ _ _ hs=>?_
  have hN:RdB W (Sl 1 9 va vc [v].length ([v].map bo)) va [v].length ([v].map bo):=dh (by rw[List.length_map]) hs
  obtain⟨ng,rfl⟩:=hs (by simp)
  refine ag (ag (o_ (bA 0 rfl (by simp)) ?_))
  refine ag ?_;(((refine' am (dP ?hc) ?hi ?_);(case hi=>exact aC);(case hc=>rfl)));refine ag ?_
  (try refine cm (AN hN (j:=0) (by simp)) ?_)
  refine aH (equal (a:=v) (b:=jp) (by omega) (by decide)) .nil fun _=>?_
  refine ay ?_
  cases he:d8 v jp with
  |true=>
   simp only[he,if_true]at hIV
   subst hIV
   refine o_ aq (ab (o_ aw (ck ?_)))
   refine aH (hU v rfl he (by omega) (by omega) (by omega)) (.cons (by repeat constructor) .nil) fun r=>?_
   obtain⟨ua,uc⟩:=r
   refine ay ?_
   (try dsimp only)
   refine o_ (bS (v:= .slice ua (rO U).length uc) rfl) ?_
   refine o_ (bS (v:= .int .i64 (rE U)) rfl) ?_
   refine bf (ua,uc) rfl ?_
   exact aC
  |false=>
   simp only[he,Bool.false_eq_true,if_false]at hIV
   subst hIV
   refine o_ aq (aa (o_ aN (o_ bq ?_)))
   rw[dT_ (by simp)]
   refine ab (d_ (s:=1) (e:=5) ?_)
   refine bf (none,0) rfl ?_
   exact aC
 |v::u::r=>
  unfold SC at hIV
  subst hIV
  rw[dF_ (by simp only[List.length_cons];omega)]
  refine ah (ah (ah (ah (o_ ap (aa (o_ aN (o_ bq ?_)))))))
  rw[dT_ (by simp only[List.length_cons];omega)]
  refine ab (d_ (s:=1) (e:=5) ?_)
  refine bf (none,0) rfl ?_
  exact aC
end FD
namespace FD
open Go Go.Proofs Go.RowKit Sh Sl T
theorem U4 (x y:Fd):∀w,(Op.eqFields 9999 (dH x).toArray (dH y).toArray (p_.fieldsOf 52).toList).run p_ w= .ok (decide (x.1=y.1)&&(decide (x.2=y.2)&&(true))) w:=fun w=>by
 have hf:(p_.fieldsOf 52).toList=(#[⟨"Name",9,0,false,"","",0⟩,⟨"Value",9,1,false,"","",16⟩]:Array Field).toList:=by kernel_rfl
 rw[hf]
 exact Vl x.1 y.1 (by decide) (by rfl) (by rfl) (by rfl) (Vl x.2 y.2 (by decide) (by rfl) (by rfl) (by rfl) (RR))
theorem P2 {W:World}{ox oy:Operand}(x y:Fd):bb p_ W [] (b_ .neq 52 ox oy (AI x) (AI y)) (.bool (!decide (x=y))):=by
 have h:=OI (W:=W) (t:=52) (ox:=ox) (oy:=oy) (by kernel_rfl) (by kernel_rfl) (by kernel_rfl) (U4 x y)
 have e:decide (x=y)=(decide (x.1=y.1)&&(decide (x.2=y.2)&&(true))):=by
  rw[Bool.eq_iff_iff]
  simp[Prod.ext_iff]
 rw[e]
 exact h
theorem KD {W:World}{l m:List Fd}{a b:Option Addr}{c d:Nat}{A B:HP}(hA:nO W A a l)(hB:nO W B b m)(hl:l.length<=1099511627776)(hm:m.length<=1099511627776):Cn p_ 26 [.slice a l.length c,.slice b m.length d] W [A,B] (fun _:Unit=> .bool (decide (l=m))) (fun _=>[A,B]):=by
 (refine S.wo.cn fun F=>?_;unfold S.qX;simp only[ca_,na_])
 refine o_ aN (o_ aN (aF eS .nil (fun h=>?_) (fun h=>?_)))
 ·refine ab (bf () (by rw[dF_];intro e;apply h;rw[e]) ?_)
  exact aC
 have hlen:l.length=m.length:=by omega
 refine aa (bj (fun k y=>pu (∃i:Nat,k+i=l.length/\y= .int .i64 (i:Int)/\l.take i=m.take i)::A::B::F) l.length ?_ ?_)
 ·refine .pu ⟨0,rfl,rfl,rfl⟩ ?_
  exact aC
 intro k ds y
 refine aT .here fun hi=>?_
 obtain⟨i,hki,rfl,heq⟩:=hi
 refine o_ aN (aF aI .nil (fun h=>?_) (fun h=>?_))
 ·have hil:i<l.length:=by omega
  have him:i<m.length:=by omega
  obtain⟨ga,oa,rfl⟩:=AJ hA (by omega)
  obtain⟨gb,ob,rfl⟩:=AJ hB (by omega)
  refine ab (bM (t_ (dx i rfl hil) ?_))
  refine jB (wQ hA hil) ?_
  refine t_ (dx i rfl him) ?_
  refine jB (wQ hB him) ?_
  refine t_ (P2 l[i] m[i]) ?_
  by_cases hx:l[i]=m[i]
  ·rw[dT_ hx]
   refine aa (bW ?_)
   refine aP (k-1) (by omega) (.pu ⟨i+1,by omega,by norm_cast,by rw[List.take_succ_eq_append_getElem hil,List.take_succ_eq_append_getElem him,heq,hx]⟩ ?_)
   exact aC
  ·rw[dF_ hx]
   refine ab (bf () (by rw[dF_];rintro rfl;exact hx rfl) ?_)
   exact aC
 ·have:i=l.length:=by omega
  subst this
  rw[List.take_length,hlen,List.take_length]at heq
  refine aa (bf () (by rw[dT_ heq]) ?_)
  exact aC
theorem KE {W:World} {s t:Int} {l m:List Fd} {x y:List UInt8} {a b xa ya:Option Addr} {c d xc yc:Nat} {A B C D:HP} (hA:nO W A a l) (hB:nO W B b m) (hl:l.length<=1099511627776) (hm:m.length<=1099511627776)
  (hC:RdB W C xa x.length (x.map Sl.B)) (hxa:xa=none->x.length=0) (hD:RdB W D ya y.length (y.map Sl.B)) (hya:ya=none->y.length=0):
  Cn p_ 11 [.agg #[.int .i64 s,.slice a l.length c,.slice xa x.length xc],.agg #[.int .i64 t,.slice b m.length d,.slice ya y.length yc]] W [A,B,C,D] (fun _:Unit=> .bool (decide (s=t)&&(decide (l=m)&&decide (x=y)))) (fun _=>[A,B,C,D]):=by
 (refine S.Aq.cn fun F=>?_;unfold S.wj;simp only[ca_,na_])
 refine cv fun b2=>?_
 refine cv fun b3=>?_
 refine o_ aw (ck ?_);refine o_ aw (ck ?_)
 refine aF bF .nil (fun h1=>?_) (fun h1=>?_)
 rotate_left
 ·rw[dF_ h1]
  refine ah (ah (ah (ah (ah (o_ ap (ah (ah (ah (ah (ah (ah (ah (o_ ap (bf () rfl ?_))))))))))))))
  exact aC
 rw[dT_ h1]
 refine ag (o_ aw (ag (ck ?_)));refine ag (o_ aw (ag (ck ?_)));refine ag (aH (KD hA hB hl hm) (.cons (by repeat constructor) (.cons (by repeat constructor) .nil)) fun _=>?_)
 refine ay ?_
 by_cases h2:l=m
 rotate_left
 ·rw[dF_ h2]
  refine o_ aq (ah (ah (ah (ah (ah (ah (ah (o_ ap (bf () rfl ?_)))))))))
  exact aC
 rw[dT_ h2]
 refine o_ aq (ag (o_ aw (ag (ck ?_))));refine ag (cm (ph hC hxa) ?_)
 refine ag (o_ aw (ag (ck ?_)));refine ag (cm (ph hD hya) ?_)
 refine ag (o_ dE (o_ aq (bf () (by simp) ?_)))
 exact aC
end FD
namespace Sl
open Go Go.RowKit Sh
variable {P:Program} {W:World} {L L':List HP} {Kp:PK} {k:Value->WP}
theorem KF {t e e':TypeId} {g n c:Nat} {cs:Array Value} (ht:P.underlying t=some (.slice e)) (he:P.underlying e=some (.int .u8)) (p:Pick L (pt g (.cells cs e' (0,0))) L')
  (h:be W (pt g (.cells cs e' (cs.size,cs.size+1))::L') (k (.slice (some ⟨g,0,none⟩) n c))):be W L (opN P (bz t t (.slice (some ⟨g,0,none⟩) n c)) Kp k):=fun w hw=>by
 have hp:=hw.pick p
 have hg:=hp.pt_.1
 have hsh:w.shape? g=some (e',cs.size):=by unfold World.shape?;rw[hg]
 have hrun:(bz t t (.slice (some ⟨g,0,none⟩) n c)).run P w= .ok (.value (.slice (some ⟨g,0,none⟩) n c)) (w.freeze ⟨g,cs.size,none⟩ 1):=by
  simp[bz,convert,run_underlying ht,run_underlying he,markStringish,hsh]
 refine⟨?_⟩
 rw[hrun]
 refine h _ (hp.turn (w':=w.freeze ⟨g,cs.size,none⟩ 1) rfl rfl rfl ?_ ?_ ?_)
 ·simp[World.freeze]
 ·simp[World.freeze,Array.getElem?_modify,hg]
 ·intro i hi
  simp only[World.freeze]
  rw[if_neg (by decide),Array.getElem?_modify,if_neg (fun c=>hi c.symm)]
end Sl
namespace FD
open Go Go.Proofs Go.RowKit Sh Sl T IF GZ
theorem SD {level most:Int}{b:List UInt8}(hE:vo b level 0=0)(hm:(b.length:Int)<=most)(hm1:most<=1048576):(iS b level 0).length<=1048576/\Ur most (iS b level 0) [] 0 (.ok (b,1)):=by
 have h2:iS b level 0=vM 0++eJ b level++Do b:=by unfold iS;rw[if_pos hE];rfl
 have h1:jU b level=0:=by unfold vo at hE;rwa [if_neg (by omega)]at hE
 obtain⟨h3,h4⟩:=Nf h1
 rw[h2]
 have:=Ur.mem (m:=0) (n:=0) (out:=[]) (r:=[]) (P1 (most:=most) (r:=Do b) (out:=[]) h1 (by simp only[List.length_nil];omega) hm1 (by rw[List.length_append,Gz];omega)) (by rw[List.drop_left,List.append_nil]) (.done (by decide))
 rw[List.nil_append]at this
 refine⟨by rw[List.length_append,List.length_append,sO,Gz];omega,?_⟩
 rw[List.append_assoc]
 exact this
theorem SE {W:World}{n:Int}:Cn p_ 10 [.int .i64 n] W [] (fun _:Unit=> .int .i64 n) (fun _=>[]):=by
 (refine S.Cf.cn fun F=>?_;unfold S.ze;simp only[ca_,na_])
 refine bC () ?_
 exact .refl
theorem BI {W:World}{g:Nat}{l:List Fd}{T:TypeId}{fz:Nat × Nat}:nO W (pt g (.cells (l.flatMap dH).toArray T fz)) (some ⟨g,0,none⟩) l:=B0 (dM (f:=dH) (s:=2) (fun _=>rfl) l)
theorem BJ {W:World}{s:List UInt8}:Cn p_ 27 [bo s] W [] (fun g:Nat=> .slice (some ⟨g,0,none⟩) 1 1) (fun g=>[pt g (.cells ([(jW,s)].flatMap dH).toArray 52)]):=by
 (refine S.wq.cn fun F=>?_;unfold S.qY;simp only[ca_,na_])
 refine o_ cu ?_
 refine fp (n:=1) (vs:=[AI (jW,s)]) rfl (by decide) rfl (by intro v hv;rw[List.mem_singleton.1 hv];rfl) (by decide) fun g=>?_
 refine bf g rfl ?_
 exact aC
def kA:List UInt8:=[97,97,97,97,97,97,97,97,97,97,97,97,97,97,97,97,97,97,97,97,97,97,97,97,97,97,97,97,97,97,97,97,97,97,97,97,97,97,97,97]
def DP:List UInt8:=[116,101,120,116,47,112,108,97,105,110]
def kQ:List UInt8:=[103,122,105,112,59,113,61,48,46,53,44,32,105,100,101,110,116,105,116,121,59,113,61,48,46,54]
set_option maxRecDepth 100000 in
theorem N4:vo kA 6 0=0/\(iS kA 6 0).length<40:=by
 have:decide (vo kA 6 0=0/\(iS kA 6 0).length<40)=true:=by decide+kernel
 exact of_decide_eq_true this
theorem N5:mK [(jW,jp)]=true/\uX [(jW,kQ)]=EU/\uX [(jW,jp)]=jp:=by
 have:decide (mK [(jW,jp)]=true/\uX [(jW,kQ)]=EU/\uX [(jW,jp)]=jp)=true:=by decide+kernel
 exact of_decide_eq_true this
theorem KG:oo 200 [(uW,DP)] kA=true:=by decide+kernel
theorem P3:(fP [(jW,jp)] 6 200 [(uW,DP)] kA).D=iS kA 6 0/\bN (fP [(jW,jp)] 6 200 [(uW,DP)] kA).X sG=[jp]:=by
 have h:=J8 (l:=[(jW,jp)]) (level:=6) (st:=200) (D:=kA) (PF KG)
 rcases h with ⟨h1,h2⟩|⟨h1,_,_,h2,_⟩
 ·exfalso
  have:(fP [(jW,jp)] 6 200 [(uW,DP)] kA).X=mW (cW [(uW,DP)]) (iS kA 6 0):=by
   unfold fP
   rw[KG,N5.1,if_pos (by decide),if_pos rfl,if_pos N4.1]
  rw[this]at h1
  unfold mW at h1
  rw[nP]at h1
  have h3:=(List.append_eq_nil_iff.1 h1).2
  rw[iu,oq,if_pos (by decide)]at h3
  cases h3
 ·exact⟨h2,h1⟩
end FD
namespace FD
open Go Go.Proofs Go.RowKit Sh Sl T
theorem KH {W:World}{st:Int}{l:List Fd}{D:List UInt8}{a b:Option Addr}{c d:Nat}{A B:HP}(hA:nO W A a l)(ha:a=none->l.length=0)(hl:l.length<=1099511627776)(hB:RdB W B b D.length (D.map Sl.B))(hb:b=none->D.length=0)(hD:D.length<=1099511627776):
  Cn p_ 7 [.agg #[.int .i64 st,.slice a l.length c,.slice b D.length d]] W [A,B] (fun q:(Option Addr × Nat) × (Option Addr × Nat)=> .agg #[.int .i64 st,.slice q.1.1 l.length q.1.2,.slice q.2.1 D.length q.2.2])
   (fun q=>[A,B,Sl 2 52 q.1.1 q.1.2 l.length (l.flatMap dH),Sl 1 5 q.2.1 q.2.2 D.length (D.map Sl.B)]):=by
 (refine S.wi.cn fun F=>?_;unfold S.qR;simp only[ca_,na_])
 refine cv fun b1=>?_
 refine bm fun g=>?_;refine bM (aZ aw .nil ?_);(((refine' aZ (br ?hc) ?hi ?_);(case hi=>exact .pick (by repeat constructor) .nil);(case hc=>repeat constructor)));refine aZ aw .nil ?_;(((refine' aZ (br ?hc) ?hi ?_);(case hi=>exact .pick (by repeat constructor) .nil);(case hc=>repeat constructor)));refine aZ aw .nil ?_;(((refine' aZ (br ?hc) ?hi ?_);(case hi=>exact .pick (by repeat constructor) .nil);(case hc=>repeat constructor)))
 refine iX ?_ ?_
 ·refine v8 fun g=>?_
  refine cq ?_;refine cq ?_;refine cq ?_;refine cq ?_;refine cq ?_;refine cq ?_
  refine iX ?_ ?_
  ·refine co (m:=l.length) (news:=l.flatMap dH) (by(repeat constructor):Pick _ (Sl 2 52 (some ⟨g,0,none⟩) 0 0 []) _) (qL (s:=2) (e':=52) (by kernel_rfl) (by decide) (by(repeat constructor):Pick _ A _) hA ha rZ) (by omega) (by omega) fun a' c'=>?_
   rw[Nat.zero_add,List.nil_append]
   refine cq ?_;refine cq ?_;refine cq ?_;refine cq ?_
   refine v8 fun g2=>?_
   refine cq ?_;refine cq ?_;refine cq ?_;refine cq ?_;refine cq ?_;refine cq ?_
   refine co (m:=D.length) (news:=D.map Sl.B) (by(repeat constructor):Pick _ (Sl 1 5 (some ⟨g2,0,none⟩) 0 0 []) _) (fM (e':=5) (by kernel_rfl) (by(repeat constructor):Pick _ B _) hB hb hH) (by omega) (by omega) fun a2 c2=>?_
   rw[Nat.zero_add,List.nil_append]
   refine cq ?_;refine cq ?_;refine t_ cu ?_;refine gS ?_;(((refine' aQ (cN ?hn) ?hi ?_);(case hi=>exact aC);(case hn=>rfl)))
   refine bf ((a',c'),(a2,c2)) rfl ?_
   exact aC
  ·refine v8 fun g2=>?_
   refine cq ?_;refine cq ?_;refine cq ?_;refine cq ?_;refine cq ?_;refine cq ?_
   refine co (m:=l.length) (news:=l.flatMap dH) (by(repeat constructor):Pick _ (Sl 2 52 (some ⟨g,0,none⟩) 0 0 []) _) (qL (s:=2) (e':=52) (by kernel_rfl) (by decide) (by(repeat constructor):Pick _ A _) hA ha rZ) (by omega) (by omega) fun a' c'=>?_
   rw[Nat.zero_add,List.nil_append]
   refine cq ?_;refine cq ?_;refine cq ?_;refine cq ?_
   refine co (m:=D.length) (news:=D.map Sl.B) (by(repeat constructor):Pick _ (Sl 1 5 (some ⟨g2,0,none⟩) 0 0 []) _) (fM (e':=5) (by kernel_rfl) (by(repeat constructor):Pick _ B _) hB hb hH) (by omega) (by omega) fun a2 c2=>?_
   rw[Nat.zero_add,List.nil_append]
   refine cq ?_;refine cq ?_;refine t_ cu ?_;refine gS ?_;(((refine' aQ (cN ?hn) ?hi ?_);(case hi=>exact aC);(case hn=>rfl)))
   refine bf ((a',c'),(a2,c2)) rfl ?_
   exact aC
 ·refine v8 fun g2=>?_
  refine cq ?_;refine cq ?_;refine cq ?_;refine cq ?_;refine cq ?_;refine cq ?_
  refine v8 fun g=>?_
  refine cq ?_;refine cq ?_;refine cq ?_;refine cq ?_;refine cq ?_;refine cq ?_
  refine co (m:=l.length) (news:=l.flatMap dH) (by(repeat constructor):Pick _ (Sl 2 52 (some ⟨g,0,none⟩) 0 0 []) _) (qL (s:=2) (e':=52) (by kernel_rfl) (by decide) (by(repeat constructor):Pick _ A _) hA ha rZ) (by omega) (by omega) fun a' c'=>?_
  rw[Nat.zero_add,List.nil_append]
  refine cq ?_;refine cq ?_;refine cq ?_;refine cq ?_
  refine co (m:=D.length) (news:=D.map Sl.B) (by(repeat constructor):Pick _ (Sl 1 5 (some ⟨g2,0,none⟩) 0 0 []) _) (fM (e':=5) (by kernel_rfl) (by(repeat constructor):Pick _ B _) hB hb hH) (by omega) (by omega) fun a2 c2=>?_
  rw[Nat.zero_add,List.nil_append]
  refine cq ?_;refine cq ?_;refine t_ cu ?_;refine gS ?_;(((refine' aQ (cN ?hn) ?hi ?_);(case hi=>exact aC);(case hn=>rfl)))
  refine bf ((a',c'),(a2,c2)) rfl ?_
  exact aC
end FD
namespace FD
open Go Go.Proofs Go.RowKit Sh Sl T IF GZ
set_option maxRecDepth 100000 in
theorem U5:zF (fP [(jW,jp)] 6 200 [(uW,DP)] kA).X<=2097152:=by
 have:decide (zF (fP [(jW,jp)] 6 200 [(uW,DP)] kA).X<=2097152)=true:=by decide+kernel
 exact of_decide_eq_true this
theorem P4 {G b:List UInt8}{most:Int}(h0:0<=most)(h1:most<=1048576)(hG:G.length<=1048576):KB [jp] G most (.ok (b,1))=(b,0):=by
 unfold KB
 rw[if_neg (by omega),if_neg (by omega)]
 show(if d8 jp jp=true then(rO (.ok (b,1)),rE (.ok (b,1)))else(([],46):List UInt8 × Int))=_
 rw[if_pos (by decide)]
 rfl
theorem Ng {W : World} [hG : Gl W] [hP : Gp W] : Cn p_ 12 [] W [] (fun _ : Unit => .bool true) (fun _ => []) := by
 obtain ⟨hkA, hkC⟩ := P3
 have hkz := U5
 obtain ⟨hpk, hp40⟩ := N4
 obtain ⟨hgl, hur⟩ := SD (b := kA) (level := 6) (most := 100) hpk (by decide) (by decide)
 obtain ⟨hc1, hc2, hc3⟩ := N5
 (refine S.yu.cn fun F => ?_; unfold S.uw; simp only [ca_, na_])
 refine o_ cu ?_
 refine fp (n := 1) (vs := [AI (uW, DP)]) rfl (by decide) rfl (by intro v hv; rw [List.mem_singleton.1 hv]; rfl) (by decide) fun g6 => ?_
 refine pS (vs := kA.map Sl.B) rfl rfl (by intro v hv; obtain ⟨c, _, rfl⟩ := List.mem_map.1 hv; rfl) (by decide) fun g7 => ?_
 refine KF (e := 5) (by kernel_rfl) (by kernel_rfl) .here ?_
 refine o_ cu ?_; refine bm fun g => ?_; refine gS ?_
 rename Nat => b1
 have hX : ∀ {W : World}, nO W (pt g6 (.cells ([AI (uW, DP)].flatMap fun v => v.cells.toList).toArray 52)) (some ⟨g6, 0, none⟩) [(uW, DP)] := fun {W} => BI (W := W) (g := g6) (l := [(uW, DP)]) (T := 52) (fz := (0, 0))
 have hD : ∀ {W : World} {fz : Nat × Nat}, RdB W (pt g7 (.cells (kA.map Sl.B).toArray 5 fz)) (some ⟨g7, 0, none⟩) kA.length (kA.map Sl.B) := B0 (by rw [List.length_map])
 obtain ⟨R, hR⟩ : ∃ R, R = fP [(jW, jp)] 6 200 [(uW, DP)] kA := ⟨_, rfl⟩
 have hz : zF [(uW, DP)] <= 1100000 := by decide
 have hl : ∀ {W : World} {ga : Nat}, nO W (pt ga (.cells ([(jW, jp)].flatMap dH).toArray 52)) (some ⟨ga, 0, none⟩) [(jW, jp)] := fun {W ga} => BI
 obtain ⟨PX, hPX⟩ : ∃ PX, PX = pt g6 (.cells ([AI (uW, DP)].flatMap fun v => v.cells.toList).toArray 52) := ⟨_, rfl⟩
 obtain ⟨PD, hPD⟩ : ∃ PD, PD = pt g7 (.cells (kA.map Sl.B).toArray 5 ((kA.map Sl.B).toArray.size, (kA.map Sl.B).toArray.size + 1)) := ⟨_, rfl⟩
 rw [<- hPX, <- hPD]
 have hX2 : ∀ {W : World}, nO W PX (some ⟨g6, 0, none⟩) [(uW, DP)] := fun {W} => by rw [hPX]; exact hX
 have hD2 : ∀ {W : World}, RdB W PD (some ⟨g7, 0, none⟩) kA.length (kA.map Sl.B) := fun {W} => by rw [hPD]; exact hD
 clear hX hD hPX hPD
 have hap : ∀ ga : Nat, Cn p_ 14 [.slice (some ⟨ga, 0, none⟩) 1 1, .agg #[.int .i64 200, .slice (some ⟨g6, 0, none⟩) 1 1, .slice (some ⟨g7, 0, none⟩) 40 40], .int .i64 6] W [pt ga (.cells ([(jW, jp)].flatMap dH).toArray 52), PX, PD]
   (fun q : (Option Addr × Nat) × (Option Addr × Nat) => .agg #[.int .i64 200, .slice q.1.1 R.X.length q.1.2, .slice q.2.1 R.D.length q.2.2])
   (fun q => [pt ga (.cells ([(jW, jp)].flatMap dH).toArray 52), PX, PD, Sl 2 52 q.1.1 q.1.2 R.X.length (R.X.flatMap dH), Sl 1 5 q.2.1 q.2.2 R.D.length (R.D.map Sl.B)]) := fun ga => by
  rw [hR]
  exact apply (l := [(jW, jp)]) (X := [(uW, DP)]) (D := kA) hl (by decide) hX2 (fun h => by cases h) hz hD2 (fun h => by cases h) (by decide)
 rw [<- hR] at hkA hkC hkz
 refine eR (fun z => (ex fun q : (Option Addr × Nat) × (Option Addr × Nat) => ex fun o : Nat => all [pu (z = .pointer (some ⟨o, 0, none⟩)), pt o (.cells #[.int .i64 200, .slice q.1.1 R.X.length q.1.2, .slice q.2.1 R.D.length q.2.2] 25), Sl 2 52 q.1.1 q.1.2 R.X.length (R.X.flatMap dH), Sl 1 5 q.2.1 q.2.2 R.D.length (R.D.map Sl.B)])
   :: pt b1 (.cells #[.int .i64 200, .slice (some ⟨g6, 0, none⟩) 1 1, .slice (some ⟨g7, 0, none⟩) 40 40] 25) :: PX :: PD :: F) ?_ ?_
 rotate_left
 ·(refine bM ?_); (((refine' aZ (bP ?hn) ?hi ?_); (case hi => exact .pick (by repeat constructor) .nil); (case hn => rfl)))
  refine iX ?_ ?_
  ·refine c_ (BJ (s := jp)) fun _ => ?_
   rename_i ga
   refine cq ?_
   refine iX ?_ ?_
   ·refine c_ (hap ga) fun _ => ?_
    rename_i q
    refine bm fun g => ?_; refine cq ?_; refine gS ?_
    rename Nat => o
    refine a_ (.ex q (.ex o (.all ?_)))
    refine ay ?_
    refine .pu rfl ?_
    exact aC
   ·refine bm fun o => ?_
    refine cq ?_
    refine c_ (hap ga) fun _ => ?_
    rename_i q
    refine gS ?_
    refine a_ (.ex q (.ex o (.all ?_)))
    refine ay ?_
    refine .pu rfl ?_
    exact aC
  ·refine bm fun o => ?_
   refine cq ?_
   refine c_ (BJ (s := jp)) fun _ => ?_
   rename_i ga
   refine cq ?_
   refine c_ (hap ga) fun _ => ?_
   rename_i q
   refine gS ?_
   refine a_ (.ex q (.ex o (.all ?_)))
   refine ay ?_
   refine .pu rfl ?_
   exact aC
 intro ds z
 refine aX .here fun q => aX .here fun o => aB .here ?_
 obtain ⟨⟨a1, c1⟩, ⟨a2, c2⟩⟩ := q
 refine ay ?_
 refine aT .here fun hz2 => ?_
 subst hz2
 (try dsimp only)
 refine aJ (by (repeat constructor) : Pick _ (Sl 2 52 a1 c1 R.X.length (R.X.flatMap dH)) _) fun _ _ _ hs => ?_
 refine aJ (by (repeat constructor) : Pick _ (Sl 1 5 a2 c2 R.D.length (R.D.map Sl.B)) _) fun _ k2 k3 k4 => ?_
 have hRD := dh (W := W) (e := 5) (a := a2) (cap := c2) (n := R.D.length) (cs := R.D.map Sl.B) (by rw [List.length_map]) k4
 have hb0 : a2 = none -> R.D.length = 0 := fun c => by
  rcases Nat.eq_zero_or_pos R.D.length with h | h
  ·exact h
  ·obtain ⟨g, hg⟩ := k4 h; rw [hg] at c; cases c
 have hid := KC (W := W) (st := 200) (most := 100) (cx := c1) (cd := c2) (U := .ok (kA, 1)) (je (c := c1) hs) hkz hRD hb0 (by rw [hkA]; omega) (fun v _ _ h0 h1 h2 => Nd hRD k2 h2 h0 h1 (by rw [hkA]; exact hur))
 rw [hkC, hkA, P4 (by decide) (by decide) hgl] at hid
 rw [hkA]
 refine sP ?_
 refine aH hid (.cons (by repeat constructor) (.cons (by repeat constructor) .nil)) fun r => ?_
 obtain ⟨ua, uc⟩ := r
 refine ay ?_
 (try dsimp only)
 refine o_ (bS (v := .slice ua kA.length uc) rfl) ?_
 refine o_ (bS (v := .int .i64 0) rfl) ?_
 refine c_ (BJ (s := kQ)) fun _ => ?_
 rename_i gq
 refine aH (choose (l := [(jW, kQ)]) (c := 1) BI (by decide)) (.cons (by repeat constructor) .nil) fun _ => ?_
 rw [hc2]
 refine ay ?_
 refine o_ (dE (m := EU)) ?_
 rw [dT_ rfl]
 refine ag (c_ (BJ (s := jp)) fun _ => ?_)
 rename_i gr
 refine ag (aH (choose (l := [(jW, jp)]) (c := 1) BI (by decide)) (.cons (by repeat constructor) .nil) fun _ => ?_)
 rw [hc3]
 refine ay ?_
 refine ag (o_ (dE (m := jp)) ?_)
 rw [dT_ rfl]
 refine o_ aq (ag (o_ aw (ag (ck ?_)))); refine ag (o_ aN (ag (o_ aI ?_)))
 rw [dT_ (by omega)]
 refine o_ aq (ag (ag (c_ SE fun _ => ?_)))
 refine ag (o_ bF ?_)
 rw [dT_ rfl]
 refine o_ aq (ag (ag (aJ (by (repeat constructor) : Pick _ (Sl 1 5 ua uc kA.length (kA.map Sl.B)) _) fun _ _ _ hs5 => ?_)))
 refine cm (ph (dh (W := W) (e := 5) (a := ua) (cap := uc) (n := kA.length) (cs := kA.map Sl.B) (by rw [List.length_map]) hs5) (fun c => by obtain ⟨g, hg⟩ := hs5 (by decide); rw [hg] at c; cases c)) ?_
 refine ag (o_ aw (ag (ck ?_))); refine ag (cm (ph hD2 (fun c => by cases c)) ?_)
 refine ag (o_ dE ?_)
 rw [dT_ rfl]
 refine o_ aq (bC () ?_)
 exact aC
end FD
namespace Sl
open Go Go.RowKit Sh
variable {P:Program} {H:Type} {enc:TypeId × Value->H} {W:World}
theorem Old.flat {α:Type}{s n:Nat}{f:α->List Value}{a:Option Addr}{xs:List α}(hf:∀x,(f x).length=s)(h0:0<s)(h:Old W s (fun x cs=>cs=f x) a n xs)(A:HP):RdB W A a (n * s) (xs.flatMap f):=by
 have hl:=h.len
 refine⟨by rw[dM hf,hl],fun hn=>?_⟩
 obtain⟨g,o,rfl,hg,hc⟩:=h.at_ (by
  rcases Nat.eq_zero_or_pos n with z|z
  ·subst z;simp at hn
  ·exact z)
 refine⟨g,o,rfl,fun w L hw j v hv=>?_⟩
 have hj:j<xs.length * s:=by
  rcases Nat.lt_or_ge j (xs.flatMap f).length with c|c
  ·rwa [dM hf]at c
  ·rw[List.getElem?_eq_none c]at hv;cases hv
 have hi:j / s<xs.length:=Nat.div_lt_of_lt_mul (by rwa [Nat.mul_comm]at hj)
 have hm:j%s<s:=Nat.mod_lt _ h0
 have hd:j=j / s * s+j%s:=by rw[Nat.mul_comm];exact(Nat.div_add_mod j s).symm
 obtain⟨cs,h1,h2,h3⟩:=hc (j / s) hi
 subst h2
 rw[hd,gA hf xs _ _ hi hm]at hv
 have:=h3 (j%s) v hv
 rw[hw.base.cell (p:=⟨g,o+j,none⟩) hg]
 rwa [<- hd]at this
end Sl
namespace FD
open Go Go.Proofs Go.RowKit Go.ChangeShapes Sh Sl T
theorem qz {H : Type} {enc : TypeId × Value → H} {C : Checked} {os : Os} {f : FuncId} {fn : Func} {s : OpenSpec} {conds : List PathCond} {apart : Bool} {laid : List (String × DataW Unit)} (modest : Bool) (w0 : World) (args : Array Value) (hos : w0.os = os)
  (hsh : (w0.forCall (fun _ _ => 0) ⟨#[], args, []⟩).Shaped C.prog)
  (hok : Input.okWideB C.prog (w0.forCall (fun _ _ => 0) ⟨#[], args, []⟩) f ⟨#[], args, []⟩ = true)
  (hrow : s.preRow enc C.prog fn conds apart laid (w0.forCall (fun _ _ => 0) ⟨#[], args, []⟩).memory args) :
  ∃ (w : World) (tape : Tape) (i : Input), w.os = os ∧ (w.forCall tape i).Shaped C.prog ∧ i.vars = [] ∧ Input.okWide C.prog (w.forCall tape i) .any w.heap.size f i ∧
   s.preRow enc C.prog fn conds apart laid (w.forCall tape i).memory i.args ∧ ({ modest := modest } : Assume).holds C.prog (lone (Frame.enter C.prog f i.args .normal) [] (w.forCall tape i)) :=
 ⟨w0, fun _ _ => 0, ⟨#[], args, []⟩, hos, hsh, (Input.okWide_of_okWideB (base := 0) hok).1, (Input.okWide_of_okWideB hok).2, hrow, by
  simp only [Assume.holds]
  exact ⟨by simp, by simp, fun _ => Modest.zero, by simp, by simp⟩⟩
theorem BK {P:Program}{W:World}{n:String}{d:DataW Unit}:∀ {l:List (String × DataW Unit)} {ps:List MemPlace},DataW.LaidVars P W l ps->(n,d)∈l->
  ∃g t cs fuel p,P.globalNamed n=some g/\(P.globals[g]?).map (·.type)=some t/\W.var? P n=some cs/\DataW.trod (fun _=>()) P W 0 (fun _=>true) false fuel t cs.toList=some (d,p)
 |[],_,_,h=>by cases h
 |(n',d')::r,ps,h,hm=>by
  obtain⟨g,t,cs,fuel,p,q,h1,h2,h3,h4,h5,_⟩:=h
  rcases List.mem_cons.1 hm with e|hm
  ·obtain⟨rfl,rfl⟩:=Prod.mk.inj e
   exact⟨g,t,cs,fuel,p,h1,h2,h3,h4⟩
  ·exact BK h5 hm
set_option maxRecDepth 20000 in
theorem GA {H:Type}{enc:TypeId × Value->H}{W:World}{sp:Nat->Bool}{held:Bool}(n:Nat)(cs:List Value)(x:DataW H × List MemPlace)(h:DataW.trod enc p_ W 0 sp held n 52 cs=some x):∃a:Fd,cs=dH a/\a.1.length+a.2.length+3<=Rows.uptoBulk x.1:=by
 obtain⟨xs,m,rfl,rfl,hl,hs,hf⟩:=DataW.trod_struct (fs:=#[⟨"Name",9,0,false,"","",0⟩,⟨"Value",9,1,false,"","",16⟩]) (by kernel_rfl) h
 rw[show p_.cellsOf 52=2 by kernel_rfl]at hl
 obtain⟨c0,c1,rfl⟩:∃c0 c1,cs=[c0,c1]:=by
  match cs,hl with
  |[a,b],_=>exact⟨a,b,rfl⟩
 obtain⟨x0,x1,rfl⟩:∃x0 x1,xs=[x0,x1]:=by
  match xs,hs with
  |[a,b],_=>exact⟨a,b,rfl⟩
 have e1:p_.cellsOf 9=1:=by kernel_rfl
 have f0:=hf 0 _ rfl
 have f1:=hf 1 _ rfl
 simp only[e1,List.drop_zero,List.drop_succ_cons,List.take_succ_cons,List.take_zero,List.getElem?_cons_zero,List.getElem?_cons_succ]at f0 f1
 obtain⟨n0,h0,hx0,_⟩:=DataW.trod_string (by kernel_rfl) f0
 obtain⟨n1,h1,hx1,_⟩:=DataW.trod_string (by kernel_rfl) f1
 have k0:c0= .string n0:=by injection h0
 have k1:c1= .string n1:=by injection h1
 subst k0;subst k1
 refine⟨(n0.data.toList,n1.data.toList),by unfold dH bo;simp,?_⟩
 have h2:=(Prod.mk.inj hx0).1
 have h3:=(Prod.mk.inj hx1).1
 simp only[List.map_cons,List.map_nil,Rows.uptoBulk,Rows.uptoBulkAll]
 rw[h2,h3]
 simp[Rows.uptoBulk]
 omega
theorem N6 (l:List Fd):(l.map fun f=>f.1.length+f.2.length+3).sum=zF l:=by
 induction l with
 |nil=>rfl
 |cons f r ih=>rw[List.map_cons,List.sum_cons,ih,vC]
theorem DI {α β:Type}{f:α->Option β}:∀ {l:List α} {ys:List β},l.mapM f=some ys->ys.length=l.length/\∀(i:Nat) (a:α),l[i]? =some a->∃y,ys[i]? =some y/\f a=some y
 |[],ys,h=>by
  simp at h
  subst h
  exact⟨rfl,fun i a hi=>by simp at hi⟩
 |a::l,ys,h=>by
  rw[List.mapM_cons]at h
  cases ha:f a with
  |none=>rw[ha]at h;cases h
  |some y=>
   cases hl:l.mapM f with
   |none=>rw[ha,hl]at h;cases h
   |some zs=>
    rw[ha,hl]at h
    have h:some (y::zs)=some ys:=h
    obtain rfl:=Option.some.inj h
    obtain⟨h1,h2⟩:=DI hl
    refine⟨by rw[List.length_cons,List.length_cons,h1],fun i b hi=>?_⟩
    cases i with
    |zero=>exact⟨y,rfl,by rw[<- ha];congr 1;simpa using hi.symm⟩
    |succ i=>exact h2 i b (by simpa using hi)
theorem KI {P:Program}{H:Type}{enc:TypeId × Value->H}{W:World}{sp:Nat->Bool}{held:Bool}{t e:TypeId}{n fuel:Nat}{cs:List Value}{x:DataW H × List MemPlace}(ht:P.underlying t=some (.array n e))(hce:P.cellsOf e=1)(h:DataW.trod enc P W 0 sp held fuel t cs=some x):
  ∃(xs:List (DataW H × List MemPlace)) (m:Nat),x.1= .agg (xs.map (·.1))/\xs.length=n/\∀i,i<n->∃y,xs[i]? =some y/\DataW.trod enc P W 0 sp held m e ((cs.drop i).take 1)=some y:=by
 cases fuel with
 |zero=>simp[DataW.trod]at h
 |succ m=>
  unfold DataW.trod at h
  rw[ht]at h
  simp only[hce,Nat.mul_one]at h
  split at h
  ·cases hm:(List.range n).mapM fun i=>DataW.trod enc P W 0 sp held m e ((cs.drop i).take 1)with
   |none=>rw[hm]at h;cases h
   |some xs=>
    rw[hm]at h
    have h:=Option.some.inj h
    obtain⟨h1,h2⟩:=DI hm
    refine⟨xs,m,by rw[<- h],by rw[h1,List.length_range],fun i hi=>h2 i i (List.getElem?_range hi)⟩
  ·cases h
theorem SF {W:World}{l:List (String × DataW Unit)}(h:laidMet p_ l W)(hm:("internal/strconv.uint64pow10",Rows.laid_internal_strconv_uint64pow10)∈l):Gp W:=by
 obtain⟨ps,hv,_,_⟩:=h
 obtain⟨g,t,cs,fuel,p,h1,h2,h3,h4⟩:=BK hv hm
 obtain rfl:=Option.some.inj ((show p_.globalNamed "internal/strconv.uint64pow10" =some 1 by kernel_rfl).symm.trans h1)
 obtain rfl:=Option.some.inj ((show(p_.globals[1]?).map (·.type)=some 220 by kernel_rfl).symm.trans h2)
 obtain⟨xs,m,hx,hl,hf⟩:=KI (n:=20) (e:=170) (by kernel_rfl) (by kernel_rfl) h4
 have key:∀j,j<20->cs[j]? =some (.int .u64 ((10^j:Nat):Int)):=by
  intro j hj
  obtain⟨y,hy,hyt⟩:=hf j hj
  have hlt:∃c,(cs.toList.drop j).take 1=[c]:=by
   cases hd:(cs.toList.drop j).take 1 with
   |nil=>rw[hd]at hyt;cases m <;> simp[DataW.trod]at hyt <;> (split at hyt <;> simp_all)
   |cons c r=>
    have:((cs.toList.drop j).take 1).length<=1:=by rw[List.length_take];omega
    rw[hd]at this
    simp at this
    subst this
    exact⟨c,rfl⟩
  obtain⟨c,hc⟩:=hlt
  rw[hc]at hyt
  obtain⟨n,h0,hx0,_⟩:=DataW.trod_int (by kernel_rfl:p_.underlying 170=some (.int .u64)) hyt
  have hcj:cs[j]? =some c:=by
   have:=congrArg (fun l=>l[0]?) hc
   simpa using this
  have hya:(xs.map (·.1))[j]? =some (.lit (.int .u64 n)):=by rw[List.getElem?_map,hy];simp only[Option.map_some];rw[(Prod.mk.inj hx0).1]
  have hlist:xs.map (·.1)=(List.range 20).map fun j=>(.lit (.int .u64 ((10^j:Nat):Int)):DataW Unit):=by
   have:(DataW.agg (xs.map (·.1)))= .agg ((List.range 20).map fun j=>(.lit (.int .u64 ((10^j:Nat):Int)):DataW Unit)):=by rw[<- hx];rfl
   injection this
  rw[hlist,List.getElem?_map,List.getElem?_range hj]at hya
  simp only[Option.map_some,Option.some.injEq,DataW.lit.injEq,Lit.int.injEq,true_and]at hya
  rw[hcj,hya]
  have:c= .int .u64 n:=by injection h0
  rw[this]
 have hc:=fun j=>World.var?_cell h1 h3 j
 refine⟨?_,fun j hj=>?_⟩
 ·have h0:=hc 0
  rw[key 0 (by decide)]at h0
  unfold World.cell? at h0
  rcases Nat.lt_or_ge 1 W.heap.size with c|c
  ·exact c
  ·rw[Array.getElem?_eq_none c]at h0;cases h0
 ·rw[hc j,key j hj]
set_option maxRecDepth 20000 in
theorem KJ {H:Type}{enc:TypeId × Value->H}{W:World}{sp:Nat->Bool}{held:Bool}(n:Nat)(cs:List Value)(x:DataW H × List MemPlace)(hl:DataW.trod enc p_ W 0 sp held n 25 cs=some x):
  ∃(st:Int) (a b:Option Addr) (c d:Nat) (l:List Fd) (D:List UInt8),cs=[.int .i64 st,.slice a l.length c,.slice b D.length d]/\(∀A,nO W A a l)/\(a=none->l.length=0)/\(∀A,RdB W A b D.length (D.map Sl.B))/\(b=none->D.length=0)/\zF l+D.length+1<=Rows.uptoBulk x.1:=by
 obtain⟨xs,m,rfl,rfl,hsz,hs,hf⟩:=DataW.trod_struct (fs:=#[⟨"Status",3,0,false,"","",0⟩,⟨"Fields",22,1,false,"","",8⟩,⟨"Body",23,2,false,"","",32⟩]) (by kernel_rfl) hl
 rw[show p_.cellsOf 25=3 by kernel_rfl]at hsz
 obtain⟨c0,c1,c2,rfl⟩:∃c0 c1 c2,cs=[c0,c1,c2]:=by
  match cs,hsz with
  |[a,b,c],_=>exact⟨a,b,c,rfl⟩
 obtain⟨x0,x1,x2,rfl⟩:∃x0 x1 x2,xs=[x0,x1,x2]:=by
  match xs,hs with
  |[a,b,c],_=>exact⟨a,b,c,rfl⟩
 have e1:p_.cellsOf 3=1:=by kernel_rfl
 have e2:p_.cellsOf 22=1:=by kernel_rfl
 have e3:p_.cellsOf 23=1:=by kernel_rfl
 have f0:=hf 0 _ rfl
 have f1:=hf 1 _ rfl
 have f2:=hf 2 _ rfl
 simp only[e1,e2,e3,List.drop_zero,List.drop_succ_cons,List.take_succ_cons,List.take_zero,List.getElem?_cons_zero,List.getElem?_cons_succ]at f0 f1 f2
 obtain⟨st,h0,_,_⟩:=DataW.trod_int Tryz.underlying3 f0
 obtain⟨a,n,c,fs,e,g1,g2,g3,g4,g5⟩:=wd (e:=52) (s:=2) (rd:=fun(x:Fd) cs=>cs=dH x) (m:=fun f=>f.1.length+f.2.length+3) (by kernel_rfl) (by kernel_rfl) (by omega) (fun n cs x h=>GA n cs x h) f1
 obtain⟨b,d,D,j0,j1,j2,j3,j4,j5⟩:=Eg (e:=5) (by kernel_rfl) (by kernel_rfl) (by kernel_rfl) f2
 have hln:=g4.len
 subst hln
 rw[N6]at g5
 have k0:c0= .int .i64 st:=by injection h0
 have k1:c1= .slice a fs.length c:=by injection e
 have k2:c2= .slice b D.length d:=by injection j0
 subst k0;subst k1;subst k2
 refine⟨st,a,b,c,d,fs,D,rfl,fun A=>g4.flat (f:=dH) (fun _=>rfl) (by omega) A,?_,j4,j3,?_⟩
 ·intro ha
  rcases Nat.eq_zero_or_pos fs.length with z|z
  ·exact z
  ·obtain⟨g,o,hg,_⟩:=g4.at_ z;rw[hg]at ha;cases ha
 simp only[List.map_cons,List.map_nil,Rows.uptoBulk,Rows.uptoBulkAll]
 (try simp at g5)
 (try simp at j5)
 omega
theorem SG {W:World}{l:List (String × DataW Unit)}(h:laidMet p_ l W)(hm:("strconv.ErrRange",Rows.laid_strconv_ErrRange)∈l):Gl W:=by
 obtain⟨ps,hv,_,_⟩:=h
 obtain⟨g,t,cs,fuel,p,h1,h2,h3,h4⟩:=BK hv hm
 obtain rfl:=Option.some.inj ((show p_.globalNamed "strconv.ErrRange" =some 7 by kernel_rfl).symm.trans h1)
 obtain rfl:=Option.some.inj ((show(p_.globals[7]?).map (·.type)=some 124 by kernel_rfl).symm.trans h2)
 obtain⟨f1,u,v,hcs,_,_⟩:=iface_of_trod Tryz.underlying124 h4
 have hc:=World.var?_cell h1 h3 0
 have hc0:cs[0]? =some (.iface u v):=by
  rw[<- Array.getElem?_toList,hcs];rfl
 rw[hc0]at hc
 refine⟨?_,u,v,hc⟩
 unfold World.cell? at hc
 rcases Nat.lt_or_ge 7 W.heap.size with c|c
 ·exact c
 ·rw[Array.getElem?_eq_none c]at hc;cases hc
set_option maxRecDepth 20000 in
theorem KK {H:Type}{enc:TypeId × Value->H}{W:World}{sp:Nat->Bool}{held:Bool}{v:Value}{d:DataW H}{ps:List MemPlace}{r:Reach}{b0:Nat}(hval:Value.okWide p_ W r b0 22 v)(hd:DataW.Trod enc p_ W 0 sp held 22 v d ps):
  ∃(a:Option Addr) (c:Nat) (l:List Fd),v= .slice a l.length c/\(∀A,nO W A a l)/\(a=none->l.length=0)/\zF l+1<=Rows.uptoBulk d:=by
 obtain⟨fuel,hf⟩:=Eh (e:=52) (by kernel_rfl) hval hd
 obtain⟨a,n,c,l,e,g1,g2,g3,g4,g5⟩:=wd (e:=52) (s:=2) (rd:=fun(x:Fd) cs=>cs=dH x) (m:=fun f=>f.1.length+f.2.length+3) (by kernel_rfl) (by kernel_rfl) (by omega) (fun n cs x h=>GA n cs x h) hf
 have hl:=g4.len
 subst hl
 rw[N6]at g5
 refine⟨a,c,l,by injection e,fun A=>g4.flat (f:=dH) (fun _=>rfl) (by omega) A,?_,by simp at g5;omega⟩
 intro ha
 rcases Nat.eq_zero_or_pos l.length with z|z
 ·exact z
 ·obtain⟨g,o,hg,_⟩:=g4.at_ z;rw[hg]at ha;cases ha
set_option maxRecDepth 20000 in
theorem Nh {H:Type}{enc:TypeId × Value->H}{W:World}{sp:Nat->Bool}{held:Bool}{v:Value}{d:DataW H}{ps:List MemPlace}{r:Reach}{b0:Nat}(hval:Value.okWide p_ W r b0 25 v)(hd:DataW.Trod enc p_ W 0 sp held 25 v d ps):
  ∃(st:Int) (a b:Option Addr) (c k:Nat) (l:List Fd) (D:List UInt8),v= .agg #[.int .i64 st,.slice a l.length c,.slice b D.length k]/\(∀A,nO W A a l)/\(a=none->l.length=0)/\(∀A,RdB W A b D.length (D.map Sl.B))/\(b=none->D.length=0)/\zF l+D.length+1<=Rows.uptoBulk d:=by
 obtain⟨cs,rfl,hsz⟩:=WideShapes.okWide_struct (fs:=#[⟨"Status",3,0,false,"","",0⟩,⟨"Fields",22,1,false,"","",8⟩,⟨"Body",23,2,false,"","",32⟩]) (by kernel_rfl) hval
 obtain⟨fuel,hf⟩:=hd
 obtain⟨l⟩:=cs
 rw[show(Value.agg ⟨l⟩).cells.toList=l from rfl]at hf
 obtain⟨st,a,b,c,k,X,D,h1,h2,h3,h4,h5,h6⟩:=KJ _ _ _ hf
 subst h1
 exact⟨st,a,b,c,k,X,D,rfl,h2,h3,h4,h5,h6⟩
end FD
namespace FD
open Go Go.Proofs Go.RowKit Sh Sl T IF GZ
theorem BL {P:Program}{W:World}{α:Type}{f:FuncId}{args:List Value}{A A':List HP}{r:α->Value}{B B':α->List HP}(h:Cn P f args W A r B)(hi:∀F,Imp W (A'++F) (A++F))(ho:∀x F,Imp W (B x++F) (B' x++F)):Cn P f args W A' r B':=
 ⟨h.call,fun F w hw=>(h.run F w ((hi F).sat hw)).mono fun e w' ⟨x,he,hs⟩=>⟨x,he,(ho x F).sat hs⟩⟩
theorem BM {W:World}{st:Int}{l:List Fd}{D:List UInt8}{a b:Option Addr}{c d:Nat}(hA:∀A,nO W A a l)(ha:a=none->l.length=0)(hl:l.length<=1099511627776)(hB:∀A,RdB W A b D.length (D.map Sl.B))(hb:b=none->D.length=0)(hD:D.length<=1099511627776):
  Cn p_ 7 [.agg #[.int .i64 st,.slice a l.length c,.slice b D.length d]] W [] (fun q:(Option Addr × Nat) × (Option Addr × Nat)=> .agg #[.int .i64 st,.slice q.1.1 l.length q.1.2,.slice q.2.1 D.length q.2.2])
   (fun q=>[Sl 2 52 q.1.1 q.1.2 l.length (l.flatMap dH),Sl 1 5 q.2.1 q.2.2 D.length (D.map Sl.B)]):=
 BL (KH (A:=pu True) (B:=pu True) (hA _) ha hl (hB _) hb hD) (fun F=> .pu trivial (.pu trivial .refl)) (fun x F=> .drop (.drop .refl))
theorem yl {α:Type}{a:Option Addr}{l:List α}(h:0<l.length->∃g,a=some ⟨g,0,none⟩):a=none->l.length=0:=fun c=>by
 rcases Nat.eq_zero_or_pos l.length with h0|h0
 ·exact h0
 ·obtain⟨g,hg⟩:=h h0;rw[hg]at c;cases c
theorem E1 {W : World} [hG : Gl W] [hP : Gp W] {l X : List Fd} {D : List UInt8} {st level : Int} {al ax ad : Option Addr} {cl cx cd : Nat} (hl : ∀ A, nO W A al l) (hl1 : zF l <= 1100000) (hX : zF X <= 1100000) (hs : 0 < X.length -> ∃ g, ax = some ⟨g, 0, none⟩) (hb : 0 < D.length -> ∃ g, ad = some ⟨g, 0, none⟩) (hD : D.length <= 1099511627776) :
  Cn p_ 14 [.slice al l.length cl, .agg #[.int .i64 st, .slice ax X.length cx, .slice ad D.length cd], .int .i64 level] W [Sl 2 52 ax cx X.length (X.flatMap dH), Sl 1 5 ad cd D.length (D.map Sl.B)]
   (fun q : (Option Addr × Nat) × (Option Addr × Nat) => .agg #[.int .i64 st, .slice q.1.1 (fP l level st X D).X.length q.1.2, .slice q.2.1 (fP l level st X D).D.length q.2.2])
   (fun q => [Sl 2 52 ax cx X.length (X.flatMap dH), Sl 1 5 ad cd D.length (D.map Sl.B), Sl 2 52 q.1.1 q.1.2 (fP l level st X D).X.length ((fP l level st X D).X.flatMap dH), Sl 1 5 q.2.1 q.2.2 (fP l level st X D).D.length ((fP l level st X D).D.map Sl.B)]) :=
 BL (apply (AL := pu True) (hl _) hl1 (je hs) (yl hs) hX (dh (e := 5) (a := ad) (cap := cd) (by rw [List.length_map]) hb) (yl hb) hD) (fun F => .pu trivial .refl) (fun x F => .drop .refl)
theorem N7 {W:World} {s t:Int} {l m:List Fd} {x y:List UInt8} {a b xa ya:Option Addr} {c d xc yc:Nat} (hA:0<l.length->∃g,a=some ⟨g,0,none⟩) (hB:∀A,nO W A b m) (hl:l.length<=1099511627776) (hm:m.length<=1099511627776)
  (hC:0<x.length->∃g,xa=some ⟨g,0,none⟩) (hD:∀A,RdB W A ya y.length (y.map Sl.B)) (hya:ya=none->y.length=0):
  Cn p_ 11 [.agg #[.int .i64 s,.slice a l.length c,.slice xa x.length xc],.agg #[.int .i64 t,.slice b m.length d,.slice ya y.length yc]] W [Sl 2 52 a c l.length (l.flatMap dH),Sl 1 5 xa xc x.length (x.map Sl.B)] (fun _:Unit=> .bool (decide (s=t)&&(decide (l=m)&&decide (x=y)))) (fun _=>[]):=
 BL (KE (B:=pu True) (D:=pu True) (je hA) (hB _) hl hm (dh (e:=5) (a:=xa) (cap:=xc) (by rw[List.length_map]) hC) (yl hC) (hD _) hya) (fun F=> .pick .here (.pu trivial (.pick .here (.pu trivial .refl)))) (fun x F=> .drop (.drop (.drop (.drop .refl))))
theorem SH {W:World} {s t:Int} {l m:List Fd} {x y:List UInt8} {a b xa ya:Option Addr} {c d xc yc:Nat} (hA:0<l.length->∃g,a=some ⟨g,0,none⟩) (hB:0<m.length->∃g,b=some ⟨g,0,none⟩) (hl:l.length<=1099511627776) (hm:m.length<=1099511627776)
  (hC:0<x.length->∃g,xa=some ⟨g,0,none⟩) (hD:0<y.length->∃g,ya=some ⟨g,0,none⟩):
  Cn p_ 11 [.agg #[.int .i64 s,.slice a l.length c,.slice xa x.length xc],.agg #[.int .i64 t,.slice b m.length d,.slice ya y.length yc]] W [Sl 2 52 a c l.length (l.flatMap dH),Sl 1 5 xa xc x.length (x.map Sl.B),Sl 2 52 b d m.length (m.flatMap dH),Sl 1 5 ya yc y.length (y.map Sl.B)] (fun _:Unit=> .bool (decide (s=t)&&(decide (l=m)&&decide (x=y))))
   (fun _=>[Sl 2 52 b d m.length (m.flatMap dH),Sl 1 5 ya yc y.length (y.map Sl.B)]):=
 BL (KE (je hA) (je hB) hl hm (dh (e:=5) (a:=xa) (cap:=xc) (by rw[List.length_map]) hC) (yl hC) (dh (e:=5) (a:=ya) (cap:=yc) (by rw[List.length_map]) hD) (yl hD)) (fun F=> .pick .here (.pick (.there .here) (.pick .here (.pick .here .refl)))) (fun x F=> .drop (.pick .here (.drop (.pick .here .refl))))
def K4:List UInt8:=[98,121,116,101,115,32,48,45,49,47,50]
theorem P5 {st:Int}{X:List Fd}{D:List UInt8}:oo st (X++[(mV,K4)]) D=false:=by
 have h:(dA (X++[(mV,K4)]) mV).2=true:=by
  cases hc:(dA (X++[(mV,K4)]) mV).2 with
  |true=>rfl
  |false=>
   have:=xW.1 hc
   rw[nP,oq,if_pos (by decide)]at this
   exact absurd (List.append_eq_nil_iff.1 this).2 (by decide)
 unfold oo
 rw[h]
 simp
theorem P6 {st:Int}{X:List Fd}{D:List UInt8}(h:st≠200):oo st X D=false:=by
 unfold oo
 rw[dF_ h]
 simp
theorem U6 {a:Int}{b:List Fd}{c:List UInt8}:(decide (a=a)&&(decide (b=b)&&decide (c=c)))=true:=by simp
theorem codingUntouched {W:World}[hG:Gl W][hP:Gp W]{l X:List Fd}{D:List UInt8}{st level status:Int}{al ax ad:Option Addr}{cl cx cd:Nat}(hl:∀A,nO W A al l)(hl1:zF l<=1048576)(hA:∀A,nO W A ax X)(ha:ax=none->X.length=0)(hX:zF X<=1048576)(hB:∀A,RdB W A ad D.length (D.map Sl.B))(hb:ad=none->D.length=0)(hD:D.length<=1048576):
  Cn p_ 6 [.slice al l.length cl,.agg #[.int .i64 st,.slice ax X.length cx,.slice ad D.length cd],.int .i64 level,.int .i64 status] W [] (fun _:Unit=> .bool true) (fun _=>[]):=by
 have hzl:=rX X
 have lt9:level.tmod 9<9:=Int.tmod_lt_of_pos level (by decide)
 have gt9: -9<level.tmod 9:=by have:=Int.lt_tmod_of_pos level (show(0:Int)<9 by decide);omega
 have a0:fP l 0 st X D=⟨X,D⟩:=BA (.inl (by decide))
 have a1:fP l (level.tmod 9-10) st X D=⟨X,D⟩:=BA (.inl (by omega))
 (refine S.kX.cn fun F=>?_;unfold S.h_;simp only[ca_,na_])
 refine cv fun b5=>?_
 refine bM ?_;(((refine' aQ (bP ?hn) ?hi ?_);(case hi=>exact .pick (by repeat constructor) .nil);(case hn=>rfl)));(((refine' aZ (bP ?hn) ?hi ?_);(case hi=>exact .pick (by repeat constructor) .nil);(case hn=>rfl)))
 refine aH (BM (st:=st) (c:=cx) (d:=cd) hA ha (by omega) hB hb (by omega)) .nil fun q=>?_
 obtain⟨⟨p1,p2⟩,⟨p3,p4⟩⟩:=q
 refine ay ?_
 (try dsimp only)
 refine aJ (by(repeat constructor):Pick _ (Sl 2 52 p1 p2 X.length (X.flatMap dH)) _) fun _ _ _ s1=>?_
 refine aJ (by(repeat constructor):Pick _ (Sl 1 5 p3 p4 D.length (D.map Sl.B)) _) fun _ _ _ s2=>?_
 refine cq ?_
 refine aH (E1 (st:=st) (level:=0) (cl:=cl) (cx:=p2) (cd:=p4) hl (by omega) (by omega) s1 s2 (by omega)) (.cons (by repeat constructor) (.cons (by repeat constructor) .nil)) fun q=>?_
 rw[a0]
 obtain⟨⟨q1,q2⟩,⟨q3,q4⟩⟩:=q
 refine ay ?_
 (try dsimp only)
 refine aJ (by(repeat constructor):Pick _ (Sl 2 52 q1 q2 X.length (X.flatMap dH)) _) fun _ _ _ s3=>?_
 refine aJ (by(repeat constructor):Pick _ (Sl 1 5 q3 q4 D.length (D.map Sl.B)) _) fun _ _ _ s4=>?_
 refine cq ?_
 refine aH (N7 (s:=st) (t:=st) (c:=q2) (d:=cx) (xc:=q4) (yc:=cd) s3 hA (by omega) (by omega) s4 hB hb) (.cons (by repeat constructor) (.cons (by repeat constructor) .nil)) fun _=>?_
 rw[U6]
 refine ay ?_
 refine t_ eT (ag (ag ?_));(((refine' aQ (bP ?hn) ?hi ?_);(case hi=>exact .pick (by repeat constructor) .nil);(case hn=>rfl)));refine ag (Ea (aZ (Od (by decide)) .nil ?_))
 refine Ea ?_;(refine aZ (ep (by omega) (by omega)) .nil ?_);refine Ea ?_;(((refine' aZ (bP ?hn) ?hi ?_);(case hi=>exact .pick (by repeat constructor) .nil);(case hn=>rfl)));refine ag (aH (BM (st:=st) (c:=cx) (d:=cd) hA ha (by omega) hB hb (by omega)) .nil fun q=>?_)
 obtain⟨⟨p5,p6⟩,⟨p7,p8⟩⟩:=q
 refine ay ?_
 (try dsimp only)
 refine aJ (by(repeat constructor):Pick _ (Sl 2 52 p5 p6 X.length (X.flatMap dH)) _) fun _ _ _ s5=>?_
 refine aJ (by(repeat constructor):Pick _ (Sl 1 5 p7 p8 D.length (D.map Sl.B)) _) fun _ _ _ s6=>?_
 refine cq ?_;refine cq ?_;refine cq ?_;refine ag (aH (E1 (st:=st) (level:=level.tmod 9-10) (cl:=cl) (cx:=p6) (cd:=p8) hl (by omega) (by omega) s5 s6 (by omega)) (.cons (by repeat constructor) (.cons (by repeat constructor) .nil)) fun q=>?_)
 rw[a1]
 obtain⟨⟨q5,q6⟩,⟨q7,q8⟩⟩:=q
 refine ay ?_
 (try dsimp only)
 refine aJ (by(repeat constructor):Pick _ (Sl 2 52 q5 q6 X.length (X.flatMap dH)) _) fun _ _ _ s7=>?_
 refine aJ (by(repeat constructor):Pick _ (Sl 1 5 q7 q8 D.length (D.map Sl.B)) _) fun _ _ _ s8=>?_
 refine cq ?_;refine ag (aH (N7 (s:=st) (t:=st) (c:=q6) (d:=cx) (xc:=q8) (yc:=cd) s7 hA (by omega) (by omega) s8 hB hb) (.cons (by repeat constructor) (.cons (by repeat constructor) .nil)) fun _=>?_)
 rw[U6]
 refine ay ?_
 refine ag (t_ eT (t_ ap (aa (sP ?_))))
 refine aH (BM (st:=st) (c:=cx) (d:=cd) hA ha (by omega) hB hb (by omega)) .nil fun q=>?_
 obtain⟨⟨p1,p2⟩,⟨p3,p4⟩⟩:=q
 refine ay ?_
 (try dsimp only)
 refine bm fun g=>?_;refine gS ?_
 rename Nat=>b9
 refine jx ((ex fun q:((Option Addr × Nat) × (Option Addr × Nat)) × (Int × List Fd)=>all [pu (oo q.2.1 q.2.2 D=false/\zF q.2.2<=1100000),pt b9 (.cells #[.int .i64 q.2.1,.slice q.1.1.1 q.2.2.length q.1.1.2,.slice q.1.2.1 D.length q.1.2.2] 25),Sl 2 52 q.1.1.1 q.1.1.2 q.2.2.length (q.2.2.flatMap dH),Sl 1 5 q.1.2.1 q.1.2.2 D.length (D.map Sl.B)])::F) ?_ ?_
 rotate_left
 ·refine o_ bF ?_
  by_cases hs:status=200
  ·rw[dT_ hs]
   refine ab (o_ aw (ck ?_));refine o_ cu ?_
   refine fp (n:=1) (vs:=[AI (mV,K4)]) rfl (by decide) rfl (by intro v hv;rw[List.mem_singleton.1 hv];rfl) (by decide) fun gb=>?_
   refine co (m:=1) (news:=dH (mV,K4)) (by(repeat constructor):Pick _ (Sl 2 52 p1 p2 X.length (X.flatMap dH)) _) (dq (s:=2) (e':=52) (by kernel_rfl) .here (by rfl) (by intro u hu;simp[AI,Value.cells]at hu;rcases hu with rfl|rfl <;> rfl)) (by omega) (by omega) fun a' c'=>?_
   rw[show X.length+1=(X++[(mV,K4)]).length by simp,show X.flatMap dH++dH (mV,K4)=(X++[(mV,K4)]).flatMap dH by simp]
   refine o_ aw (fX ?_)
   refine a_ (.ex (((a',c'),(p3,p4)),(st,X++[(mV,K4)])) (.all ?_))
   refine ay ?_
   refine .pu ⟨P5,?_⟩ ?_
   ·rw[N3]
    have:zF [(mV,K4)]<=64:=by decide
    omega
   ·exact aC
  ·rw[dF_ hs]
   refine aa (o_ aw (fX ?_))
   refine a_ (.ex (((p1,p2),(p3,p4)),(status,X)) (.all ?_))
   refine ay ?_
   refine .pu ⟨P6 hs,by(try dsimp only);omega⟩ ?_
   exact aC
 intro ds
 refine aX .here fun q=>aB .here ?_
 obtain⟨⟨⟨p1,p2⟩,⟨p3,p4⟩⟩,⟨st2,Y⟩⟩:=q
 refine ay ?_
 refine aT .here fun hf=>?_
 obtain⟨hf,hzY⟩:=hf
 (try dsimp only at hf hzY)
 (try dsimp only)
 have hzl2:=rX Y
 have a2:fP l level st2 Y D=⟨Y,D⟩:=BA (.inr (.inr hf))
 refine aJ (by(repeat constructor):Pick _ (Sl 2 52 p1 p2 Y.length (Y.flatMap dH)) _) fun _ _ _ s1=>?_
 refine aJ (by(repeat constructor):Pick _ (Sl 1 5 p3 p4 D.length (D.map Sl.B)) _) fun _ _ _ s2=>?_
 have hRD:=dh (W:=W) (e:=5) (a:=p3) (cap:=p4) (n:=D.length) (cs:=D.map Sl.B) (by rw[List.length_map]) s2
 refine bM ?_;(((refine' aQ (bP ?hn) ?hi ?_);(case hi=>exact .pick (by repeat constructor) .nil);(case hn=>rfl)));(((refine' aZ (bP ?hn) ?hi ?_);(case hi=>exact .pick (by repeat constructor) .nil);(case hn=>rfl)))
 refine aH (KH (st:=st2) (c:=p2) (d:=p4) (je (c:=p2) s1) (yl s1) (by omega) hRD (yl s2) (by omega)) (.cons (by repeat constructor) (.cons (by repeat constructor) .nil)) fun q=>?_
 obtain⟨⟨p5,p6⟩,⟨p7,p8⟩⟩:=q
 refine ay ?_
 (try dsimp only)
 refine aJ (by(repeat constructor):Pick _ (Sl 2 52 p5 p6 Y.length (Y.flatMap dH)) _) fun _ _ _ s5=>?_
 refine aJ (by(repeat constructor):Pick _ (Sl 1 5 p7 p8 D.length (D.map Sl.B)) _) fun _ _ _ s6=>?_
 refine cq ?_
 refine aH (E1 (st:=st2) (level:=level) (cl:=cl) (cx:=p6) (cd:=p8) hl (by omega) hzY s5 s6 (by omega)) (.cons (by repeat constructor) (.cons (by repeat constructor) .nil)) fun q=>?_
 rw[a2]
 obtain⟨⟨q5,q6⟩,⟨q7,q8⟩⟩:=q
 refine ay ?_
 (try dsimp only)
 refine aJ (by(repeat constructor):Pick _ (Sl 2 52 q5 q6 Y.length (Y.flatMap dH)) _) fun _ _ _ s7=>?_
 refine aJ (by(repeat constructor):Pick _ (Sl 1 5 q7 q8 D.length (D.map Sl.B)) _) fun _ _ _ s8=>?_
 refine cq ?_
 refine aH (SH (s:=st2) (t:=st2) (a:=q5) (c:=q6) (b:=p1) (d:=p2) (xa:=q7) (xc:=q8) (ya:=p3) (yc:=p4) s7 s1 (by omega) (by omega) s8 s2) (.cons (by repeat constructor) (.cons (by repeat constructor) (.cons (by repeat constructor) (.cons (by repeat constructor) .nil)))) fun _=>?_
 rw[U6]
 refine ay ?_
 refine ag ?_;(((refine' aQ (bP ?hn) ?hi ?_);(case hi=>exact .pick (by repeat constructor) .nil);(case hn=>rfl)));refine ag (aH (fit (st:=st2) (cx:=p2) (ad:=p3) (cd:=p4) (je (c:=p2) s1) hzY (D:=D) (by omega)) (.cons (by repeat constructor) .nil) fun _=>?_)
 rw[hf]
 refine ay ?_
 refine ag (t_ ee (t_ aq (ag (c_ Ng fun _=>?_))))
 refine t_ aq (bC () ?_)
 exact aC
end FD
end Go.Proofs.YtndojgomlkpeaaaGreatDoor
